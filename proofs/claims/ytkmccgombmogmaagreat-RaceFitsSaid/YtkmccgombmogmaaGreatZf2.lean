/- Part of a proof: see the last text. -/
import Derived.Test.YtkmccgombmogmaaGreatZf1
set_option linter.unusedSectionVars false
set_option linter.unusedSimpArgs false
set_option linter.unusedVariables false
namespace Go.Ev
open Go.RowKit
variable[bB]
def iy(ι:am)(l l':List MapEntry):Prop :=
 l.length=l'.length/\∀ (i:Nat) (e e':MapEntry),l[i]? = some e->l'[i]? = some e'->aq ι e.key e'.key/\aq ι e.val e'.val/\e.born=e'.born/\jM e.key=true
theorem d9.list{ι:am}{es es':Array MapEntry}(h:d9 ι es es'):iy ι es.toList es'.toList:=⟨by simpa using h.1,λi e e' a b=>h.2 i e e' (by simpa using a) (by simpa using b)⟩
theorem iy.arr{ι:am}{es es':Array MapEntry}(h:iy ι es.toList es'.toList):d9 ι es es':=⟨by simpa using h.1,λi e e' a b=>h.2 i e e' (by simpa using a) (by simpa using b)⟩
theorem iy.mono{ι κ:am}(hk:ju ι κ){l l':List MapEntry}(h:iy ι l l'):iy κ l l':=⟨h.1,λi e e' a b=>⟨(h.2 i e e' a b).1.mono hk,(h.2 i e e' a b).2.1.mono hk,(h.2 i e e' a b).2.2⟩⟩
theorem d9.mono{ι κ:am}(hk:ju ι κ){l l':Array MapEntry}(h:d9 ι l l'):d9 κ l l':=⟨h.1,λi e e' a b=>⟨(h.2 i e e' a b).1.mono hk,(h.2 i e e' a b).2.1.mono hk,(h.2 i e e' a b).2.2⟩⟩
theorem iy.tail{ι:am}{e e':MapEntry}{l l':List MapEntry}(h:iy ι (e::l) (e'::l')):iy ι l l':=⟨by simpa using h.1,λi x x' a b=>h.2 (i+1) x x' a b⟩
theorem iy.jW{ι:am}{l':List MapEntry}(h:iy ι [] l'):l'=[]:=List.eq_nil_of_length_eq_zero h.1.symm
theorem iy.cons_right{ι:am}{e:MapEntry}{l l':List MapEntry}(h:iy ι (e::l) l'):∃ e' l2,l'=e'::l2:=by
 cases l' with
 | nil=>cases h.1
 | cons e' l2=>exact⟨e',l2,rfl⟩
theorem mC{ι:am}{v v':Value}(h:aq ι v v')(hk:jM v=true):v'=v:=by
 cases h<;>first | rfl | cases hk
theorem xy{ι:am}{d:TypeDesc}{k v v':Value}(h:aq ι v v')(hv:jM v=true):Instr.sameNow d k v'=Instr.sameNow d k v:=by
 rw[mC h hv]
def P5(ι:am):Option (Nat×Value)->Option (Nat×Value)->Prop
 | none,none=>True
 | some (i,v),some (i',v')=>i'=i/\aq ι v v'
 | _,_=>False
theorem jw{ι:am}{d:TypeDesc}{k:Value}(hk:jM k=true):∀ (l l':List MapEntry) (i:Nat),iy ι l l'->
  (Instr.findNow d k l i=none/\Instr.findNow d k l' i=none)\/∃ r r',Instr.findNow d k l i=some r/\Instr.findNow d k l' i=some r'/\P5 ι r r'/\
   ∀ j v,r=some (j,v)->i<=j/\∃ e e',l[j-i]? = some e/\l'[j-i]? = some e'/\Instr.sameNow d k e.key=some true:=by
 intro l
 induction l with
 | nil =>
  intro l' i h;have:=h.jW;subst this;exact .inr ⟨none,none,rfl,rfl,trivial,λj v e=>by cases e⟩
 | cons e l ih =>
  intro l' i h;obtain⟨e',l2,rfl⟩:=h.cons_right;have h0:=h.2 0 e e' rfl rfl;have hs:=xy (d:=d) (k:=k) h0.1 h0.2.2.2;simp only[Instr.findNow];rw[hs];cases hn:Instr.sameNow d k e.key with
  | none=>exact .inl ⟨rfl,rfl⟩
  | some b =>
   cases b with
   | true =>
    exact .inr ⟨_,_,rfl,rfl,⟨rfl,h0.2.1⟩,λj v hj=>by
     cases hj
     exact⟨Nat.le_refl _,e,e',by simp,by simp,hn⟩⟩
   | false =>
    dsimp only;rcases ih l2 (i+1) h.tail with ⟨a,b⟩ | ⟨r,r',a,b,c,d⟩
    ·exact .inl ⟨a,b⟩
    ·refine .inr ⟨r,r',a,b,c,λj v hj=>?_⟩
     obtain⟨d1,x,x',d2,d3,d4⟩:=d j v hj;refine⟨by omega,x,x',?_,?_,d4⟩
     ·rw[show j-i=(j-(i+1))+1 by omega];exact d2
     ·rw[show j-i=(j-(i+1))+1 by omega];exact d3
def gB(P:Program)(base:Nat->Prop)(ι:am)(s s1:St)(w:World)(n:Next)(m':Sem Next):Prop :=
 ∃ (κ:am) (n':Next) (w1:World),m'.run P w=.ok n' w1/\dL P base κ s1.look w1/\(∀ id,(id<4*s.next\/4*s1.next<=id)->κ id=ι id)/\I_ P κ n n'/\Out base w w1
def entriesOf(s:St):Value->Option (Array MapEntry×Nat)
 | .map (some r)=>(match s.look r with | some (.map es n)=>some (es,n) | _=>none)
 | _=>none
def px(P:Program)(t:TypeId):Option (TypeId×TypeDesc×TypeId) :=
 match P.underlying t with
 | some (.map kt et)=>(match P.underlying kt with | some (.int q)=>some (kt,.int q,et) | some .string=>some (kt,.string,et) | _=>none)
 | _=>none
def jx(P:Program)(s:St)(t:TypeId)(m k:Value)(ok:Bool):Option (Value×St) :=
 match px P t,jM k with
 | some (_,d,et),true =>
  match (match m with | .map none=>some (#[],s) | .map (some r)=>(match entriesOf s m with | some (es,_)=>some (es,s.touch r none false) | none=>none) | _=>none:Option (Array MapEntry×St)) with
  | some (es,s1) =>
   match Instr.findNow d k es.toList 0 with
   | some (some (_,v))=>some (if ok then .tuple #[v,.bool true] else v,s1)
   | some none =>
    match P.info? et with
    | some i=>(match i.zero with | some z=>if cu 6 z then some (if ok then .tuple #[z,.bool false] else z,s1) else none | none=>none)
    | none=>none
   | none=>none
  | none=>none
 | _,_=>none
theorem mD{P:Program}{t:TypeId}{kt:TypeId}{d:TypeDesc}{et:TypeId}(h:px P t=some (kt,d,et)):P.underlying t=some (.map kt et)/\P.underlying kt=some d/\(d=.string\/∃ q,d=.int q):=by
 unfold px at h
 split at h
 ·rename_i Uc Ud hu
  split at h
  ·rename_i q hk
   cases h;exact⟨hu,hk,.inr ⟨q,rfl⟩⟩
  ·rename_i hk
   cases h;exact⟨hu,hk,.inl rfl⟩
  ·cases h
 ·cases h
theorem cB{P:Program}{t:TypeId}{d:TypeDesc}(h:P.underlying t=some d)(w:World):(Go.underlying t).run P w=.ok d w:=by
 unfold Go.underlying;show(match P.underlying t with | some d=>(Pure.pure d:Sem TypeDesc) | none=>Go.stuck "no such type").run P w=_;rw[h];rfl
theorem lM{P:Program}{t:TypeId}{i:TypeInfo}{z:Value}(h:P.info? t=some i)(hz:i.zero=some z)(w:World):(Go.zeroValue t).run P w=.ok z w:=by
 unfold Go.zeroValue Go.typeInfo;show((match P.info? t with | some i=>(Pure.pure i:Sem TypeInfo) | none=>Go.stuck "no such type") >>= λi=>match i.zero with | some v=>Pure.pure v | none=>Go.unsupported (.resourceLimit "a value of more than 2^22 cells")).run P w=_;rw[h];show(match i.zero with | some v=>(Pure.pure v:Sem Value) | none=>Go.unsupported (.resourceLimit "a value of more than 2^22 cells")).run P w=_;rw[hz];rfl
theorem tt{P:Program}{kt:TypeId}{d:TypeDesc}{k:Value}{b:Bool}(n:Nat)(h:P.underlying kt=some d)(hd:d=.string\/∃ q,d=.int q)(hk:jM k=true)(w:World):(Instr.checkKey b (n+1) kt k).run P w=.ok () w:=by
 unfold Instr.checkKey;rw[Sem.run_bind,cB h];rcases hd with rfl | ⟨q,rfl⟩
 ·cases k<;>first | (cases hk;done) | rfl
 ·cases k<;>first | (cases hk;done) | rfl
theorem run_checkKey{P:Program}{kt:TypeId}{d:TypeDesc}{k:Value}{b:Bool}(h:P.underlying kt=some d)(hd:d=.string\/∃ q,d=.int q)(hk:jM k=true)(w:World):(Instr.checkKey b 10000 kt k).run P w=.ok () w :=
 tt 9999 h hd hk w
theorem run_findKey{P:Program}{kt:TypeId}{d:TypeDesc}{k:Value}{es:List MapEntry}{r:Option (Nat×Value)}(h:P.underlying kt=some d)(hf:Instr.findNow d k es 0=some r)(w:World):(Instr.findKey kt k es).run P w=.ok r w:=by
 unfold Instr.findKey;rw[Sem.run_bind,cB h];show(match Instr.findNow d k es 0 with | some r=>(Pure.pure r:Sem _) | none=>Instr.findAsking kt k es).run P w=_;rw[hf];rfl
theorem gS{P:Program}{w:World}{b:Nat}{o:Obj}(h:w.heap[b]? = some o)(hc:∀ c e f,o≠.cells c e f):(Go.getObj b).run P w=.ok o w:=by
 unfold Go.getObj;simp only[Sem.run,h]
theorem tu{P:Program}{base:Nat->Prop}{ι:am}{s s1:St}{w:World}{t:TypeId}{m m' k k' v:Value}{ok:Bool}(hr:dL P base ι s.look w)(hm:aq ι m m')(hk:aq ι k k')
  (ha:jx P s t m k ok=some (v,s1)):∃ v',(Instr.lookup t m' k' ok).run P w=.ok v' w/\aq ι v v'/\s1.look=s.look/\s1.next=s.next:=by
 unfold jx at ha
 split at ha
 ·rename_i kt d et hT hkv
  obtain⟨hu,Ek,hd⟩:=mD hT;have hkk:=mC hk hkv;subst hkk;have key:∀ (es es':Array MapEntry) (s2:St),d9 ι es es'->s2.look=s.look->s2.next=s.next->
    (match Instr.findNow d k' es.toList 0 with
     | some (some (_,v))=>some (if ok then .tuple #[v,.bool true] else v,s2)
     | some none =>
      match P.info? et with
      | some i=>(match i.zero with | some z=>if cu 6 z then some (if ok then .tuple #[z,.bool false] else z,s2) else none | none=>none)
      | none=>none
     | none=>none)=some (v,s1)->
    ∃ v',((do
     Instr.checkKey es'.isEmpty 10000 kt k'
     let (v,ok') ← match ← Instr.findKey kt k' es'.toList with
      | some (_,v)=>pure (v,true)
      | none=>pure (← Go.zeroValue et,false)
     pure (if ok then .tuple #[v,.bool ok'] else v):Sem Value).run P w=.ok v' w)/\aq ι v v'/\s1.look=s.look/\s1.next=s.next:=by
   intro es es' s2 he hl hnx hh;have hf:=jw (d:=d) hkv es.toList es'.toList 0 he.list;rcases hf with ⟨f1,f2⟩ | ⟨r,r',f1,f2,f3,_⟩
   ·rw[f1]at hh;cases hh
   ·rw[f1]at hh
    rw[Sem.run_bind,run_checkKey Ek hd hkv];dsimp only[Result.andThen];rw[Sem.run_bind,run_findKey Ek f2];dsimp only[Result.andThen];cases r with
    | none =>
     cases r' with
     | some x=>exact f3.elim
     | none =>
      dsimp only at hh ⊢
      split at hh
      ·rename_i i hi
       split at hh
       ·rename_i z hz
        split at hh
        ·rename_i hfl
         cases hh;rw[Sem.run_bind,lM hi hz];refine⟨_,rfl,?_,hl,hnx⟩;have hz':=iW ι 6 z hfl;cases ok
         ·exact hz'
         ·refine .tuple _ _ rfl (λi x x' h1 h2=>?_)
          match i with
          | 0=>simp at h1 h2;subst h1 h2;exact hz'
          | 1=>simp at h1 h2;subst h1 h2;exact .bool false
          | i+2=>simp at h1
        ·cases hh
       ·cases hh
      ·cases hh
    | some x =>
     obtain⟨j,x⟩:=x;cases r' with
     | none=>exact f3.elim
     | some x' =>
      obtain⟨j',x'⟩:=x';obtain⟨rfl,hx⟩:=f3;dsimp only at hh ⊢;cases hh;refine⟨_,rfl,?_,hl,hnx⟩;cases ok
      ·exact hx
      ·refine .tuple _ _ rfl (λi y y' h1 h2=>?_)
       match i with
       | 0=>simp at h1 h2;subst h1 h2;exact hx
       | 1=>simp at h1 h2;subst h1 h2;exact .bool true
       | i+2=>simp at h1
  unfold Instr.lookup;rw[Sem.run_bind,cB hu];dsimp only[Result.andThen];cases hm with
  | nt =>
   dsimp only at ha ⊢;exact key #[] #[] s ⟨rfl,λi e e' h=>by simp at h⟩ rfl rfl ha
  | map id b hb =>
   dsimp only[entriesOf]at ha ⊢;cases hl:s.look id with
   | none=>simp[hl]at ha
   | some o =>
    obtain⟨b',o',i1,i2,i3,i4⟩:=hr.there id o hl (hr.real hl hb);rw[hb]at i1;cases i1;cases o with
    | map es n =>
     obtain⟨es',rfl,he⟩:=i3;simp only[hl]at ha;rw[Sem.run_bind,gS i2 (by intro c e f x;cases x)];dsimp only[Result.andThen];exact key es es' (s.touch id none false) he rfl rfl ha
    | _=>simp[hl]at ha
  | _=>cases ha
 ·cases ha
theorem n9{ι:am}{old old' k:Value}(h:aq ι old old')(ho:jM old=true):Instr.sameBits 10000 old' k=Instr.sameBits 10000 old k:=by
 rw[mC h ho]
theorem d9.push{ι:am}{es es':Array MapEntry}{e e':MapEntry}(h:d9 ι es es')(hk:aq ι e.key e'.key)(hv:aq ι e.val e'.val)(hb:e.born=e'.born)(hy:jM e.key=true):d9 ι (es.push e) (es'.push e'):=by
 refine⟨by simp[h.1],λi x x' h1 h2=>?_⟩;rw[Array.getElem?_push]at h1 h2;rw[h.1]at h1
 by_cases c:i=es'.size
 ·rw[if_pos c]at h1 h2;cases h1;cases h2;exact⟨hk,hv,hb,hy⟩
 ·rw[if_neg c]at h1 h2;exact h.2 i x x' h1 h2
theorem d9.modify{ι:am}{es es':Array MapEntry}(h:d9 ι es es')(i:Nat){k k' v v':Value}(hk:aq ι k k')(hv:aq ι v v')(hy:jM k=true) :
  d9 ι (es.modify i λe=>{ e with key:=k,val:=v }) (es'.modify i λe=>{ e with key:=k',val:=v' }):=by
 refine⟨by simp[h.1],λj x x' h1 h2=>?_⟩;rw[Array.getElem?_modify]at h1 h2
 by_cases c:i=j
 ·rw[if_pos c]at h1 h2
  simp only[Option.map_eq_some_iff]at h1 h2;obtain⟨y,y1,y2⟩:=h1;obtain⟨z,z1,z2⟩:=h2;subst y2 z2;exact⟨hk,hv,(h.2 j y z y1 z1).2.2.1,hy⟩
 ·rw[if_neg c]at h1 h2
  exact h.2 j x x' h1 h2
def eD(P:Program)(s:St)(t:TypeId)(m k v:Value):Option St :=
 match px P t,jM k,m with
 | some (_,d,_),true,.map (some r) =>
  match s.look r with
  | some (.map es n) =>
   if r<lim then
    match Instr.findNow d k es.toList 0 with
    | some (some (i,_))=>if Instr.sameBits 10000 (((es[i]?).map (·.key)).getD k) k then some ((s.put r (some (.map (es.modify i λe=>{ e with key:=k,val:=v }) n))).touch r none true) else none
    | some none=>some ((s.put r (some (.map (es.push { key:=k,val:=v,born:=n }) (n+1)))).touch r none true)
    | none=>none
   else none
  | _=>none
 | _,_,_=>none
theorem eV{P:Program}{w:World}{b:Nat}{o o':Obj}(h:w.heap[b]? = some o)(hc:∀ c e f,o≠.cells c e f):(Go.setObj b o').run P w=.ok () { w with heap:=w.heap.setIfInBounds b o' }:=by
 unfold Go.setObj;simp only[Sem.run,h]
theorem dL.setObj{P:Program}{base:Nat->Prop}{ι:am}{s:St}{w:World}{id b:Nat}{o o1 Bt:Obj}(hr:dL P base ι s.look w)(hlim:id<lim)(hl:s.look id=some o)(hb:ι id=some b)(ho:ic P ι id o1 Bt) :
  dL P base ι ((s.put id (some o1)).touch id none true).look { w with heap:=w.heap.setIfInBounds b Bt }/\Out base w { w with heap:=w.heap.setIfInBounds b Bt }:=by
 obtain⟨b9,o9,g1,g2,g3,g4⟩:=hr.there id o hl (hr.real hl hb);rw[hb]at g1;cases g1;have hlt:b<w.heap.size:=by
  rcases Nat.lt_or_ge b w.heap.size with g | g
  ·exact g
  ·rw[Array.getElem?_eq_none g]at g2;cases g2
 refine⟨dL.put (o:=o) (b:=b) hr hlim hl hb ?_ ho ?_ ?_,⟨rfl,rfl,rfl,by simp,?_⟩⟩
 ·simp[Array.getElem?_setIfInBounds,hlt]
 ·intro j hj
  simp only[Array.getElem?_setIfInBounds];rw[if_neg (λe=>hj e.symm)]
 ·simp
 ·intro j hj
  simp only[Array.getElem?_setIfInBounds];rw[if_neg (λe=>by subst e;exact g4 hj)]
theorem mX{P:Program}{base:Nat->Prop}{ι:am}{s s1:St}{w:World}{t:TypeId}{m m' k k' v v':Value}(hr:dL P base ι s.look w)(hm:aq ι m m')(hk:aq ι k k')(hv:aq ι v v')
  (ha:eD P s t m k v=some s1):∃ w1,(Instr.mapUpdate t m' k' v').run P w=.ok () w1/\dL P base ι s1.look w1/\Out base w w1/\s1.next=s.next:=by
 unfold eD at ha
 split at ha
 ·rename_i kt d et id hT hkv
  obtain⟨hu,Ek,hd⟩:=mD hT;have hkk:=mC hk hkv;subst hkk;cases hm with
  | map _ b hb =>
   cases hl:s.look id with
   | none=>simp[hl]at ha
   | some o =>
    obtain⟨b',o',i1,i2,i3,i4⟩:=hr.there id o hl (hr.real hl hb);rw[hb]at i1;cases i1;cases o with
    | map es n =>
     obtain⟨es',rfl,he⟩:=i3;simp only[hl]at ha
     split at ha
     ·rename_i hlim
      unfold Instr.mapUpdate;rw[Sem.run_bind,cB hu];dsimp only[Result.andThen];rw[Sem.run_bind,gS i2 (by intro c e f x;cases x)];dsimp only[Result.andThen];rw[Sem.run_bind,run_checkKey Ek hd hkv];dsimp only[Result.andThen];have hf:=jw (d:=d) hkv es.toList es'.toList 0 he.list;rcases hf with ⟨f1,f2⟩ | ⟨r,r',f1,f2,f3,f4⟩
      ·rw[f1]at ha;cases ha
      ·rw[f1]at ha
       rw[Sem.run_bind,run_findKey Ek f2];dsimp only[Result.andThen];cases r with
       | none =>
        cases r' with
        | some x=>exact f3.elim
        | none =>
         dsimp only at ha ⊢;cases ha;obtain⟨g1,g2⟩:=dL.setObj (o1:=.map (es.push { key:=k',val:=v,born:=n }) (n+1)) (Bt:=.map (es'.push { key:=k',val:=v',born:=n }) (n+1)) hr hlim hl hb ⟨_,rfl,he.push hk hv rfl hkv⟩;exact⟨_,eV i2 (by intro c e f x;cases x),g1,g2,rfl⟩
       | some x =>
        obtain⟨j,x⟩:=x;cases r' with
        | none=>exact f3.elim
        | some x' =>
         obtain⟨j',x'⟩:=x';obtain⟨rfl,hx⟩:=f3;dsimp only at ha ⊢
         split at ha
         ·rename_i hsb
          cases ha;have hold:aq ι (((es[j']?).map (·.key)).getD k') (((es'[j']?).map (·.key)).getD k'):=by
           by_cases hlt:j'<es.size
           ·have hlt':j'<es'.size:=by rw[← he.1];exact hlt
            rw[Array.getElem?_eq_getElem hlt,Array.getElem?_eq_getElem hlt'];exact(he.2 j' _ _ (Array.getElem?_eq_getElem hlt) (Array.getElem?_eq_getElem hlt')).1
           ·have hlt':¬ j'<es'.size:=by rw[← he.1];exact hlt
            rw[Array.getElem?_eq_none (Nat.le_of_not_lt hlt),Array.getElem?_eq_none (Nat.le_of_not_lt hlt')];exact hk
          have El:jM (((es[j']?).map (·.key)).getD k')=true:=by
           by_cases hlt:j'<es.size
           ·have hlt':j'<es'.size:=by rw[← he.1];exact hlt
            rw[Array.getElem?_eq_getElem hlt];exact(he.2 j' _ _ (Array.getElem?_eq_getElem hlt) (Array.getElem?_eq_getElem hlt')).2.2.2
           ·rw[Array.getElem?_eq_none (Nat.le_of_not_lt hlt)]
            exact hkv
          have L9:Instr.sameBits 10000 (((es'[j']?).map (·.key)).getD k') k'=true:=by rw[n9 hold El];exact hsb
          have hkt:(Instr.keyThatStays (((es'[j']?).map (·.key)).getD k') k').run P w=.ok k' w:=by
           unfold Instr.keyThatStays;rw[if_pos L9];rfl
          rw[Sem.run_bind,hkt];dsimp only[Result.andThen];obtain⟨g1,g2⟩:=dL.setObj (o1:=.map (es.modify j' λe=>{ e with key:=k',val:=v }) n) (Bt:=.map (es'.modify j' λe=>{ e with key:=k',val:=v' }) n) hr hlim hl hb ⟨_,rfl,he.modify j' hk hv hkv⟩;exact⟨_,eV i2 (by intro c e f x;cases x),g1,g2,rfl⟩
         ·cases ha
     ·cases ha
    | _=>simp[hl]at ha
 ·cases ha
def fk(P:Program)(s:St)(t:TypeId)(m k:Value):Option St :=
 match px P t,jM k,m with
 | some (_,d,_),true,.map (some r) =>
  match s.look r with
  | some (.map es n) =>
   if r<lim then
    match Instr.findNow d k es.toList 0 with
    | some (some (i,_))=>some ((s.put r (some (.map (es.eraseIdxIfInBounds i) n))).touch r none true)
    | some none=>some ((s.put r (some (.map es n))).touch r none true)
    | none=>none
   else none
  | _=>none
 | _,_,_=>none
theorem d9.erase{ι:am}{es es':Array MapEntry}(h:d9 ι es es')(i:Nat):d9 ι (es.eraseIdxIfInBounds i) (es'.eraseIdxIfInBounds i):=by
 unfold Array.eraseIdxIfInBounds
 by_cases hlt:i<es.size
 ·have hlt':i<es'.size:=by rw[← h.1];exact hlt
  rw[dif_pos hlt,dif_pos hlt'];refine⟨by simp[h.1],λj x x' h1 h2=>?_⟩;rw[Array.getElem?_eraseIdx]at h1 h2
  split at h1
  ·rename_i c
   rw[if_pos c]at h2;exact h.2 j x x' h1 h2
  ·rename_i c
   rw[if_neg c]at h2;exact h.2 (j+1) x x' h1 h2
 ·have hlt':¬ i<es'.size:=by rw[← h.1];exact hlt
  rw[dif_neg hlt,dif_neg hlt'];exact h
theorem tv{P:Program}{base:Nat->Prop}{ι:am}{s s1:St}{w:World}{t ty kk:TypeId}{m m' k k':Value}(hr:dL P base ι s.look w)(hm:aq ι m m')(hk:aq ι k k')
  (ha:fk P s t m k=some s1):∃ w1,(Builtin.delete_ #[t,kk] ty #[m',k']).run P w=.ok (.tuple #[]) w1/\dL P base ι s1.look w1/\Out base w w1/\s1.next=s.next:=by
 unfold fk at ha
 split at ha
 ·rename_i kt d et id hT hkv
  obtain⟨hu,Ek,hd⟩:=mD hT;have hkk:=mC hk hkv;subst hkk;cases hm with
  | map _ b hb =>
   cases hl:s.look id with
   | none=>simp[hl]at ha
   | some o =>
    obtain⟨b',o',i1,i2,i3,i4⟩:=hr.there id o hl (hr.real hl hb);rw[hb]at i1;cases i1;cases o with
    | map es n =>
     obtain⟨es',rfl,he⟩:=i3;simp only[hl]at ha
     split at ha
     ·rename_i hlim
      unfold Builtin.delete_;simp only[List.getElem?_toArray,List.getElem?_cons_zero,List.getElem?_cons_succ];rw[Sem.run_bind,cB hu];dsimp only[Result.andThen];rw[Sem.run_bind,gS i2 (by intro c e f x;cases x)];dsimp only[Result.andThen];rw[Sem.run_bind,run_checkKey Ek hd hkv];dsimp only[Result.andThen];have hf:=jw (d:=d) hkv es.toList es'.toList 0 he.list;rcases hf with ⟨f1,f2⟩ | ⟨r,r',f1,f2,f3,f4⟩
      ·rw[f1]at ha;cases ha
      ·rw[f1]at ha
       rw[Sem.run_bind,run_findKey Ek f2];dsimp only[Result.andThen];cases r with
       | none =>
        cases r' with
        | some x=>exact f3.elim
        | none =>
         dsimp only at ha ⊢;cases ha;obtain⟨g1,g2⟩:=dL.setObj (o1:=.map es n) (Bt:=.map es' n) hr hlim hl hb ⟨_,rfl,he⟩;rw[Sem.run_bind,eV i2 (by intro c e f x;cases x)];exact⟨_,rfl,g1,g2,rfl⟩
       | some x =>
        obtain⟨j,x⟩:=x;cases r' with
        | none=>exact f3.elim
        | some x' =>
         obtain⟨j',x'⟩:=x';obtain⟨rfl,hx⟩:=f3;dsimp only at ha ⊢;cases ha;obtain⟨g1,g2⟩:=dL.setObj (o1:=.map (es.eraseIdxIfInBounds j') n) (Bt:=.map (es'.eraseIdxIfInBounds j') n) hr hlim hl hb ⟨_,rfl,he.erase j'⟩;rw[Sem.run_bind,eV i2 (by intro c e f x;cases x)];exact⟨_,rfl,g1,g2,rfl⟩
     ·cases ha
    | _=>simp[hl]at ha
 ·cases ha
theorem d9.NR{ι:am}{es es':Array MapEntry}(h:d9 ι es es')(i:Nat){k k':Value}(hk:aq ι k k')(hy:jM k=true) :
  d9 ι (es.modify i λe=>{ e with key:=k }) (es'.modify i λe=>{ e with key:=k' }):=by
 refine⟨by simp[h.1],λj x x' h1 h2=>?_⟩;rw[Array.getElem?_modify]at h1 h2
 by_cases c:i=j
 ·rw[if_pos c]at h1 h2
  simp only[Option.map_eq_some_iff]at h1 h2;obtain⟨y,y1,y2⟩:=h1;obtain⟨z,z1,z2⟩:=h2;subst y2 z2;exact⟨hk,(h.2 j y z y1 z1).2.1,(h.2 j y z y1 z1).2.2.1,hy⟩
 ·rw[if_neg c]at h1 h2
  exact h.2 j x x' h1 h2
theorem d9.NS{ι:am}{es es':Array MapEntry}(h:d9 ι es es')(i:Nat){v v':Value}(hv:aq ι v v') :
  d9 ι (es.modify i λe=>{ e with val:=v }) (es'.modify i λe=>{ e with val:=v' }):=by
 refine⟨by simp[h.1],λj x x' h1 h2=>?_⟩;rw[Array.getElem?_modify]at h1 h2
 by_cases c:i=j
 ·rw[if_pos c]at h1 h2
  simp only[Option.map_eq_some_iff]at h1 h2;obtain⟨y,y1,y2⟩:=h1;obtain⟨z,z1,z2⟩:=h2;subst y2 z2;exact⟨(h.2 j y z y1 z1).1,hv,(h.2 j y z y1 z1).2.2⟩
 ·rw[if_neg c]at h1 h2
  exact h.2 j x x' h1 h2
theorem d9.born{ι:am}{es es':Array MapEntry}(h:d9 ι es es')(i:Nat):goInt (((es'[i]?).map (·.born)).getD 0)=goInt (((es[i]?).map (·.born)).getD 0):=by
 by_cases hlt:i<es.size
 ·have hlt':i<es'.size:=by rw[← h.1];exact hlt
  rw[Array.getElem?_eq_getElem hlt,Array.getElem?_eq_getElem hlt'];simp only[Option.map_some,Option.getD_some,(h.2 i _ _ (Array.getElem?_eq_getElem hlt) (Array.getElem?_eq_getElem hlt')).2.2.1]
 ·have hlt':¬ i<es'.size:=by rw[← h.1];exact hlt
  rw[Array.getElem?_eq_none (Nat.le_of_not_lt hlt),Array.getElem?_eq_none (Nat.le_of_not_lt hlt')]
def gC(P:Program)(s:St)(t:TypeId)(m k:Value):Option (Value×St) :=
 match px P t,jM k,m with
 | some (_,d,et),true,.map (some r) =>
  match s.look r with
  | some (.map es n) =>
   if r<lim then
    match Instr.findNow d k es.toList 0 with
    | some (some (i,v))=>if Instr.sameBits 10000 (((es[i]?).map (·.key)).getD k) k then some (.tuple #[v,goInt (((es[i]?).map (·.born)).getD 0)],(s.put r (some (.map (es.modify i λe=>{ e with key:=k }) n))).touch r none true) else none
    | some none =>
     match P.info? et with
     | some i=>(match i.zero with | some z=>if cu 6 z then some (.tuple #[z,goInt n],(s.put r (some (.map (es.push { key:=k,val:=z,born:=n }) (n+1)))).touch r none true) else none | none=>none)
     | none=>none
    | none=>none
   else none
  | _=>none
 | _,_,_=>none
theorem xA{ι:am}{v v' u u':Value}(h:aq ι v v')(k:aq ι u u'):aq ι (.tuple #[v,u]) (.tuple #[v',u']):=by
 refine .tuple _ _ rfl (λi x x' h1 h2=>?_)
 match i with
 | 0=>simp at h1 h2;subst h1 h2;exact h
 | 1=>simp at h1 h2;subst h1 h2;exact k
 | i+2=>simp at h1
theorem ve{P:Program}{base:Nat->Prop}{ι:am}{s s1:St}{w:World}{t:TypeId}{m m' k k' v:Value}(hr:dL P base ι s.look w)(hm:aq ι m m')(hk:aq ι k k')
  (ha:gC P s t m k=some (v,s1)):∃ v' w1,(Instr.mapEntry t m' k').run P w=.ok v' w1/\aq ι v v'/\dL P base ι s1.look w1/\Out base w w1/\s1.next=s.next:=by
 unfold gC at ha
 split at ha
 ·rename_i kt d et id hT hkv
  obtain⟨hu,Ek,hd⟩:=mD hT;have hkk:=mC hk hkv;subst hkk;cases hm with
  | map _ b hb =>
   cases hl:s.look id with
   | none=>simp[hl]at ha
   | some o =>
    obtain⟨b',o',i1,i2,i3,i4⟩:=hr.there id o hl (hr.real hl hb);rw[hb]at i1;cases i1;cases o with
    | map es n =>
     obtain⟨es',rfl,he⟩:=i3;simp only[hl]at ha
     split at ha
     ·rename_i hlim
      unfold Instr.mapEntry;rw[Sem.run_bind,cB hu];dsimp only[Result.andThen];rw[Sem.run_bind,gS i2 (by intro c e f x;cases x)];dsimp only[Result.andThen];rw[Sem.run_bind,run_checkKey Ek hd hkv];dsimp only[Result.andThen];have hf:=jw (d:=d) hkv es.toList es'.toList 0 he.list;rcases hf with ⟨f1,f2⟩ | ⟨r,r',f1,f2,f3,f4⟩
      ·rw[f1]at ha;cases ha
      ·rw[f1]at ha
       rw[Sem.run_bind,run_findKey Ek f2];dsimp only[Result.andThen];cases r with
       | none =>
        cases r' with
        | some x=>exact f3.elim
        | none =>
         dsimp only at ha ⊢
         split at ha
         ·rename_i ti hti
          split at ha
          ·rename_i z hz
           split at ha
           ·rename_i hfl
            cases ha;have hzz:=iW ι 6 z hfl;rw[Sem.run_bind,lM hti hz];dsimp only[Result.andThen];obtain⟨g1,g2⟩:=dL.setObj (o1:=.map (es.push { key:=k',val:=z,born:=n }) (n+1)) (Bt:=.map (es'.push { key:=k',val:=z,born:=n }) (n+1)) hr hlim hl hb ⟨_,rfl,he.push hk hzz rfl hkv⟩;rw[Sem.run_bind,eV i2 (by intro c e f x;cases x)];exact⟨_,_,rfl,xA hzz (.int _ _),g1,g2,rfl⟩
           ·cases ha
          ·cases ha
         ·cases ha
       | some x =>
        obtain⟨j,x⟩:=x;cases r' with
        | none=>exact f3.elim
        | some x' =>
         obtain⟨j',x'⟩:=x';obtain⟨rfl,hx⟩:=f3;dsimp only at ha ⊢
         split at ha
         ·rename_i hsb
          cases ha;have hold:aq ι (((es[j']?).map (·.key)).getD k') (((es'[j']?).map (·.key)).getD k'):=by
           by_cases hlt:j'<es.size
           ·have hlt':j'<es'.size:=by rw[← he.1];exact hlt
            rw[Array.getElem?_eq_getElem hlt,Array.getElem?_eq_getElem hlt'];exact(he.2 j' _ _ (Array.getElem?_eq_getElem hlt) (Array.getElem?_eq_getElem hlt')).1
           ·have hlt':¬ j'<es'.size:=by rw[← he.1];exact hlt
            rw[Array.getElem?_eq_none (Nat.le_of_not_lt hlt),Array.getElem?_eq_none (Nat.le_of_not_lt hlt')];exact hk
          have El:jM (((es[j']?).map (·.key)).getD k')=true:=by
           by_cases hlt:j'<es.size
           ·have hlt':j'<es'.size:=by rw[← he.1];exact hlt
            rw[Array.getElem?_eq_getElem hlt];exact(he.2 j' _ _ (Array.getElem?_eq_getElem hlt) (Array.getElem?_eq_getElem hlt')).2.2.2
           ·rw[Array.getElem?_eq_none (Nat.le_of_not_lt hlt)]
            exact hkv
          have L9:Instr.sameBits 10000 (((es'[j']?).map (·.key)).getD k') k'=true:=by rw[n9 hold El];exact hsb
          have hkt:(Instr.keyThatStays (((es'[j']?).map (·.key)).getD k') k').run P w=.ok k' w:=by
           unfold Instr.keyThatStays;rw[if_pos L9];rfl
          rw[Sem.run_bind,hkt];dsimp only[Result.andThen];obtain⟨g1,g2⟩:=dL.setObj (o1:=.map (es.modify j' λe=>{ e with key:=k' }) n) (Bt:=.map (es'.modify j' λe=>{ e with key:=k' }) n) hr hlim hl hb ⟨_,rfl,he.NR j' hk hkv⟩;rw[Sem.run_bind,eV i2 (by intro c e f x;cases x)];refine⟨_,_,rfl,xA hx ?_,g1,g2,rfl⟩;rw[he.born j'];exact .int _ _
         ·cases ha
     ·cases ha
    | _=>simp[hl]at ha
 ·cases ha
def ig(s:St)(m st v:Value):Option St :=
 match m,st with
 | .map (some r),.int _ b =>
  match s.look r with
  | some (.map es n) =>
   if r<lim then
    match es.findIdx? (λe=>(e.born:Int)==b) with
    | some i=>some ((s.put r (some (.map (es.modify i λe=>{ e with val:=v }) n))).touch r none true)
    | none=>none
   else none
  | _=>none
 | _,_=>none
theorem d9.findIdx{ι:am}{es es':Array MapEntry}(h:d9 ι es es')(b:Int):es'.findIdx? (λe=>(e.born:Int)==b)=es.findIdx? (λe=>(e.born:Int)==b):=by
 have key:∀ (l l':List MapEntry),iy ι l l'->l'.findIdx? (λe=>(e.born:Int)==b)=l.findIdx? (λe=>(e.born:Int)==b):=by
  intro l
  induction l with
  | nil=>intro l' hl;rw[hl.jW]
  | cons e l ih =>
   intro l' hl;obtain⟨e',l2,rfl⟩:=hl.cons_right;rw[List.findIdx?_cons,List.findIdx?_cons,(hl.2 0 e e' rfl rfl).2.2.1,ih l2 hl.tail]
 have:=key es.toList es'.toList h.list;rw[← List.findIdx?_toArray,← List.findIdx?_toArray,Array.toArray_toList,Array.toArray_toList]at this;exact this
theorem vf{P:Program}{base:Nat->Prop}{ι:am}{s s1:St}{w:World}{t:TypeId}{m m' st st' v v':Value}(hr:dL P base ι s.look w)(hm:aq ι m m')(hst:aq ι st st')(hv:aq ι v v')
  (ha:ig s m st v=some s1):∃ w1,(Instr.entryStore t m' st' v').run P w=.ok () w1/\dL P base ι s1.look w1/\Out base w w1/\s1.next=s.next:=by
 unfold ig at ha
 split at ha
 ·rename_i id ik bn
  cases hst;cases hm with
  | map _ b hb =>
   cases hl:s.look id with
   | none=>simp[hl]at ha
   | some o =>
    obtain⟨b',o',i1,i2,i3,i4⟩:=hr.there id o hl (hr.real hl hb);rw[hb]at i1;cases i1;cases o with
    | map es n =>
     obtain⟨es',rfl,he⟩:=i3;simp only[hl]at ha
     split at ha
     ·rename_i hlim
      split at ha
      ·rename_i i hi
       cases ha;unfold Instr.entryStore;dsimp only;rw[Sem.run_bind,gS i2 (by intro c e f x;cases x)];dsimp only[Result.andThen];rw[Sem.run_bind,show(asInt (Value.int ik bn)).run P w=.ok bn w from rfl];dsimp only[Result.andThen];rw[he.findIdx,hi];dsimp only;obtain⟨g1,g2⟩:=dL.setObj (o1:=.map (es.modify i λe=>{ e with val:=v }) n) (Bt:=.map (es'.modify i λe=>{ e with val:=v' }) n) hr hlim hl hb ⟨_,rfl,he.NS i hv⟩;exact⟨_,eV i2 (by intro c e f x;cases x),g1,g2,rfl⟩
      ·cases ha
     ·cases ha
    | _=>simp[hl]at ha
 ·cases ha
end Go.Ev
namespace Go.Ev
open Go.RowKit
variable[bB]
theorem ny{P:Program}{base:Nat->Prop}{ι:am}{o o':Obj}(ho:ic P ι 0 o o'):au P base (λκ id b=>κ id=some b) ι (Go.newObj o) (Go.newObj o'):=by
 unfold Go.newObj;exact au.new ho (λκ id b _ hb _=>au.pure hb)
theorem CS{P:Program}{base:Nat->Prop}{ι:am}{x x':Value}(t:TypeId)(hx:aq ι x x'):au P base VV ι (Instr.range t x) (Instr.range t x'):=by
  unfold Instr.range;refine au.bnd (aR t) (λκ d d' hle hd=>?_);obtain⟨rfl,h2⟩:=hd;have hx2:=hx.mono hle;have fin:∀ (κ:am) (o o':Obj),ic P κ 0 o o'->au P base VV κ (do pure (Value.pointer (some ⟨← Go.newObj o,0,none⟩))) (do pure (Value.pointer (some ⟨← Go.newObj o',0,none⟩))) :=
    λκ o o' ho=>au.bnd (ny ho) (λκ2 id b _ hb=>au.ret (.ptr id 0 b hb))
  cases d' with
  | string =>
    cases hx2 with
    | string s=>exact fin κ (.stringIter s 0) (.stringIter s 0) rfl
    | _=>exact au.halt
  | map kt et =>
    cases hx2 with
    | nt=>exact fin κ (.mapIter none 0 #[] 0) (.mapIter none 0 #[] 0) rfl
    | map id b hb =>
      dsimp only;refine au.bnd (R:=λκ (o o':Obj)=>ic P κ id o o') (au.getObj hb (λo o' ho _=>au.pure ho)) (λκ2 o o' hle2 ho=>?_);cases o with
      | map es n =>
        obtain⟨es',rfl,he⟩:=ho;exact fin κ2 (.mapIter (some id) n #[] n) (.mapIter (some b) n #[] n) ⟨b,hle2 _ _ hb,rfl⟩
      | _=>exact au.halt
    | _=>exact au.halt
  | _=>exact au.halt
theorem d9.filter{ι:am}{es es':Array MapEntry}(p:Nat->Bool)(h:d9 ι es es'):d9 ι (es.filter λe=>p e.born) (es'.filter λe=>p e.born):=by
 apply iy.arr;rw[Array.toList_filter,Array.toList_filter];have hl:=h.list;generalize es.toList=l at hl;generalize es'.toList=l' at hl;clear h
 induction l generalizing l' with
 | nil =>
  have:=hl.jW;subst this;exact⟨rfl,λi e e' h=>by simp at h⟩
 | cons e l ih =>
  obtain⟨e',l2,rfl⟩:=hl.cons_right;have h0:=hl.2 0 e e' rfl rfl;have ht:=ih l2 hl.tail;simp only[List.filter_cons];rw[← h0.2.2.1]
  split
  ·refine⟨by simp[ht.1],λi x x' a b=>?_⟩
   match i with
   | 0=>simp at a b;subst a b;exact h0
   | i+1=>exact ht.2 i x x' (by simpa using a) (by simpa using b)
  ·exact ht
theorem d9.all{ι:am}{es es':Array MapEntry}(p:Nat->Bool)(h:d9 ι es es'):(es'.all λe=>p e.born)=(es.all λe=>p e.born):=by
 rw[← Array.all_toList,← Array.all_toList];have hl:=h.list;generalize es.toList=l at hl;generalize es'.toList=l' at hl;clear h
 induction l generalizing l' with
 | nil =>
  have:=hl.jW;subst this;rfl
 | cons e l ih =>
  obtain⟨e',l2,rfl⟩:=hl.cons_right;have h0:=hl.2 0 e e' rfl rfl;simp only[List.all_cons,ih l2 hl.tail,h0.2.2.1]
theorem d9.isEmpty{ι:am}{es es':Array MapEntry}(h:d9 ι es es'):es'.isEmpty=es.isEmpty:=by
 simp[Array.isEmpty,h.1]
theorem d9.append{ι:am}{a a' b b':Array MapEntry}(h:d9 ι a a')(k:d9 ι b b'):d9 ι (a++b) (a'++b'):=by
 refine⟨by simp[h.1,k.1],λi e e' h1 h2=>?_⟩;rw[Array.getElem?_append]at h1 h2;rw[h.1]at h1
 split at h1
 ·rename_i c
  rw[if_pos c]at h2;exact h.2 i e e' h1 h2
 ·rename_i c
  rw[if_neg c]at h2;exact k.2 _ e e' h1 h2
def L_(ι:am)(a a':Array (Option MapEntry)):Prop :=
 a.size=a'.size/\∀ (i:Nat) x x',a[i]? = some x->a'[i]? = some x'->(x=none/\x'=none)\/∃ e e':MapEntry,x=some e/\x'=some e'/\aq ι e.key e'.key/\aq ι e.val e'.val/\e.born=e'.born
theorem L_.mk{ι:am}{o o' n n':Array MapEntry}(ho:d9 ι o o')(hn:d9 ι n n') :
  L_ ι ((if o.isEmpty=true then #[none] else #[])++(o++n).map some) ((if o'.isEmpty=true then #[none] else #[])++(o'++n').map some):=by
 rw[ho.isEmpty];have ha:=ho.append hn;have hsz:(o++n).size=(o'++n').size:=ha.1;generalize o.isEmpty=b;have hm:∀ (i:Nat) x x',((o++n).map some)[i]? = some x->((o'++n').map some)[i]? = some x'->(x=none/\x'=none)\/∃ e e':MapEntry,x=some e/\x'=some e'/\aq ι e.key e'.key/\aq ι e.val e'.val/\e.born=e'.born:=by
  intro i x x' h1 h2;rw[Array.getElem?_map,Option.map_eq_some_iff]at h1 h2;obtain⟨e,e1,rfl⟩:=h1;obtain⟨e',Jb,rfl⟩:=h2;have hh:=ha.2 _ e e' e1 Jb;exact .inr ⟨e,e',rfl,rfl,hh.1,hh.2.1,hh.2.2.1⟩
 have hs2:((o++n).map some).size=((o'++n').map some).size:=by rw[Array.size_map,Array.size_map];exact hsz
 generalize (o++n).map some=A at hm hs2 ⊢;generalize (o'++n').map some=A' at hm hs2 ⊢;cases b with
 | false =>
  simp only[Bool.false_eq_true,if_false,Array.empty_append];exact⟨hs2,hm⟩
 | true =>
  simp only[if_true];refine⟨by simp[hs2],λi x x' h1 h2=>?_⟩
  match i with
  | 0 =>
   rw[Array.getElem?_append_left (by simp)]at h1 h2;cases h1;cases h2;exact .inl ⟨rfl,rfl⟩
  | i+1 =>
   rw[Array.getElem?_append_right (by simp)]at h1 h2;exact hm i x x' h1 h2
theorem Ma{ι:am}{a a':Value}(h:aq ι a a'):aq ι (.tuple #[a]) (.tuple #[a']):=by
 refine .tuple _ _ rfl (λi x x' h1 h2=>?_)
 match i with
 | 0=>simp at h1 h2;subst h1 h2;exact h
 | i+1=>simp at h1
theorem Mb{ι:am}{a a' b b':Value}(h:aq ι a a')(k:aq ι b b'):aq ι (.tuple #[a,b]) (.tuple #[a',b']):=by
 refine .tuple _ _ rfl (λi x x' h1 h2=>?_)
 match i with
 | 0=>simp at h1 h2;subst h1 h2;exact h
 | 1=>simp at h1 h2;subst h1 h2;exact k
 | i+2=>simp at h1
theorem NT{ι:am}{a a' b b' c c':Value}(h:aq ι a a')(k:aq ι b b')(l:aq ι c c'):aq ι (.tuple #[a,b,c]) (.tuple #[a',b',c']):=by
 refine .tuple _ _ rfl (λi x x' h1 h2=>?_)
 match i with
 | 0=>simp at h1 h2;subst h1 h2;exact h
 | 1=>simp at h1 h2;subst h1 h2;exact k
 | 2=>simp at h1 h2;subst h1 h2;exact l
 | i+3=>simp at h1
theorem Em{P:Program}{base:Nat->Prop}{ι:am}{x x':Value}(str:Bool)(ty:TypeId)(hx:aq ι x x'):au P base VV ι (Instr.next x str ty) (Instr.next x' str ty):=by
 unfold Instr.next
 dsimp only;cases hx with
 | ptr id off b hb =>
  cases off with
  | succ n=>exact au.halt
  | zero =>
   refine au.bnd (R:=λκ (o o':Obj)=>ic P κ id o o') (au.getObj hb (λo o' ho _=>au.pure ho)) (λκ2 o o' hle2 ho=>?_);cases o with
   | stringIter s pos =>
    cases ho;cases str with
    | false=>exact au.halt
    | true =>
     dsimp only
     split
     ·unfold Go.setObj
      exact au.bnd (R:=λ_ _ _=>True) (au.setObj (hle2 _ _ hb) rfl (by intro c e f h;cases h) (au.pure trivial)) (λκ3 _ _ _ _=>au.ret (NT (.bool true) (.int _ _) (.int _ _)))
     ·exact au.ret (Ma (.bool false))
   | mapIter m since seen last =>
    cases str with
    | true =>
     cases m with
     | none=>exact au.halt
     | some m=>exact au.halt
    | false =>
     cases m with
     | none =>
      cases ho;exact au.ret (Ma (.bool false))
     | some m =>
      obtain⟨m',hm,rfl⟩:=ho;dsimp only;refine au.bnd (R:=λκ (o o':Obj)=>ic P κ m o o') (au.getObj hm (λo o' ho _=>au.pure ho)) (λκ3 o o' hle3 ho=>?_);cases o with
      | map es clock =>
       obtain⟨es',rfl,he⟩:=ho;dsimp only;rw[he.isEmpty,he.all (λn=>decide (n≥last))]
       split
       ·exact au.halt
       ·have hl:=he.filter (λn=>!seen.contains n)
        have ho:=hl.filter (λn=>decide (n<since));have hn:=hl.filter (λn=>decide (n≥since));have hc:=L_.mk ho hn;unfold Go.choose;refine au.bnd (R:=λ_ n n'=>n=0/\n'=0) (au.choose (by simp only[Question.forced];rw[hc.1];exact λh=>h) (au.pure ⟨rfl,rfl⟩)) (λκ4 n n' gy hnn=>?_);obtain⟨rfl,rfl⟩:=hnn;generalize ((if (Array.filter (λx=>decide (x.born<since)) (Array.filter (λe=>!seen.contains e.born) es)).isEmpty=true then #[none] else #[])++Array.map some (Array.filter (λx=>decide (x.born<since)) (Array.filter (λe=>!seen.contains e.born) es)++Array.filter (λx=>decide (x.born≥since)) (Array.filter (λe=>!seen.contains e.born) es)))=ca at hc ⊢;generalize ((if (Array.filter (λx=>decide (x.born<since)) (Array.filter (λe=>!seen.contains e.born) es')).isEmpty=true then #[none] else #[])++Array.map some (Array.filter (λx=>decide (x.born<since)) (Array.filter (λe=>!seen.contains e.born) es')++Array.filter (λx=>decide (x.born≥since)) (Array.filter (λe=>!seen.contains e.born) es')))=PK at hc ⊢
        by_cases hlt:0<ca.size
        ·have hlt':0<PK.size:=by rw[← hc.1];exact hlt
         have e1:ca[0]? = some ca[0]:=Array.getElem?_eq_getElem hlt;have e2:PK[0]? = some PK[0]:=Array.getElem?_eq_getElem hlt';rcases hc.2 0 _ _ e1 e2 with ⟨h1,h2⟩ | ⟨e,e',h1,h2,k1,k2,k3⟩
         ·rw[e1,e2,h1,h2]
          exact au.ret (Ma (.bool false))
         ·rw[e1,e2,h1,h2]
          dsimp only;unfold Go.setObj;rw[← k3];refine au.bnd (R:=λ_ _ _=>True) (au.setObj (gy _ _ (hle3 _ _ (hle2 _ _ hb))) ⟨m',gy _ _ (hle3 _ _ hm),rfl⟩ (by intro c e f h;cases h) (au.pure trivial)) (λκ5 _ _ nZ _=>?_);exact au.ret (NT (.bool true) ((k1.mono gy).mono nZ) ((k2.mono gy).mono nZ))
        ·have hlt':¬ 0<PK.size:=by rw[← hc.1];exact hlt
         rw[Array.getElem?_eq_none (Nat.le_of_not_lt hlt)];exact au.halt
      | _=>exact au.halt
   | _=>cases str<;>exact au.halt
 | _=>exact au.halt
theorem find_born{ι:am}{es es':Array MapEntry}(h:d9 ι es es')(st:Nat) :
  (es.find? (λe=>e.born==st)=none/\es'.find? (λe=>e.born==st)=none)\/∃ e e',es.find? (λe=>e.born==st)=some e/\es'.find? (λe=>e.born==st)=some e'/\aq ι e.key e'.key/\aq ι e.val e'.val:=by
 rw[← Array.find?_toList,← Array.find?_toList];have hl:=h.list;generalize es.toList=l at hl;generalize es'.toList=l' at hl;clear h
 induction l generalizing l' with
 | nil =>
  have:=hl.jW;subst this;exact .inl ⟨rfl,rfl⟩
 | cons e l ih =>
  obtain⟨e',l2,rfl⟩:=hl.cons_right;have h0:=hl.2 0 e e' rfl rfl;simp only[List.find?_cons];rw[← h0.2.2.1]
  split
  ·exact .inr ⟨e,e',rfl,rfl,h0.1,h0.2.1⟩
  ·exact ih l2 hl.tail
theorem CT{P:Program}{base:Nat->Prop}{ι:am}{x x':Value}(hx:aq ι x x'):au P base VV ι (Instr.entry x) (Instr.entry x'):=by
 unfold Instr.entry;cases hx with
 | ptr id off b hb =>
  cases off with
  | succ n=>exact au.halt
  | zero =>
   refine au.bnd (R:=λκ (o o':Obj)=>ic P κ id o o') (au.getObj hb (λo o' ho _=>au.pure ho)) (λκ2 o o' hle2 ho=>?_);cases o with
   | mapIter m since seen last =>
    cases m with
    | none=>exact au.halt
    | some m =>
     obtain⟨m',hm,rfl⟩:=ho;dsimp only;cases hs:seen.back? with
     | none=>exact au.halt
     | some st =>
      dsimp only;refine au.bnd (R:=λκ (o o':Obj)=>ic P κ m o o') (au.getObj hm (λo o' ho _=>au.pure ho)) (λκ3 o o' hle3 ho=>?_);cases o with
      | map es clock =>
       obtain⟨es',rfl,he⟩:=ho;dsimp only
       split
       ·exact au.halt
       ·rcases find_born he st with ⟨h1,h2⟩ | ⟨e,e',h1,h2,k1,k2⟩
        ·rw[h1];exact au.halt
        ·rw[h1,h2];exact au.ret (Mb k1 k2)
      | _=>exact au.halt
   | _=>exact au.halt
 | _=>exact au.halt
theorem eW{α β:Type}{P:Program}(m:Sem α)(f:α->Sem β)(h:∀ a s,ay P (f a) s=none)(s:St):ay P (m >>= f) s=none:=by
 show ay P (m.bind f) s=none;rw[mB];cases ay P m s with
 | none=>rfl
 | some x=>exact h _ _
theorem nz{α:Type}{P:Program}(e:RuntimeError)(s:St):ay P (Go.runtimePanic e:Sem α) s=none:=by
 unfold Go.runtimePanic;refine eW _ _ (λp s=>?_) s;dsimp only;cases e with
 | typeAssertion i c a m=>exact eW _ _ (λx s=>eW _ _ (λy s=>rfl) s) s
 | panicNil=>exact eW _ _ (λx s=>eW _ _ (λy s=>rfl) s) s
 | _=>rfl
theorem au.panics{α β:Type}{P:Program}{base:Nat->Prop}{R:am->α->β->Prop}{ι:am}{e:RuntimeError}{m':Sem β} : au P base R ι (Go.runtimePanic e:Sem α) m':=by
 intro s w a s1 hr ha;rw[nz]at ha;cases ha
theorem rh{P:Program}{base:Nat->Prop}{ι:am}{x x':Value}(xt zz:TypeId)(ok:Bool)(hz:ok=true->tq P zz=true)(hx:aq ι x x'):au P base VV ι (Instr.typeAssert x xt zz ok) (Instr.typeAssert x' xt zz ok):=by
  unfold Instr.typeAssert;dsimp only;refine au.bnd (aR zz) (λκ d d' hle hd=>?_);obtain⟨rfl,h2⟩:=hd;have hx2:=hx.mono hle;have holds:∀ (κ:am) (v v':Value),aq κ v v'->au P base VV κ (pure (if ok=true then .tuple #[v,.bool true] else v)) (pure (if ok=true then .tuple #[v',.bool true] else v')):=by
    intro κ v v' hv;refine au.ret ?_;show aq κ (if ok=true then _ else _) (if ok=true then _ else _);cases ok
    · exact hv
    · exact Mb hv (.bool true)
  have fails:∀ (κ:am) (a b:Option TypeId) (m:String),au P base VV κ
      (if ok=true then do let z ← Go.zeroValue zz;pure (.tuple #[z,.bool false]) else Go.runtimePanic (.typeAssertion a b zz m))
      (if ok=true then do let z ← Go.zeroValue zz;pure (.tuple #[z,.bool false]) else Go.runtimePanic (.typeAssertion a b zz m)):=by
    intro κ a b m
    by_cases h:ok=true
    · rw[if_pos h]
      exact au.bnd (jN zz (hz h)) (λκ2 v v' _ hv=>au.ret (by rw[hv.1];exact Mb hv.2 (.bool false)))
    · rw[if_neg h]
      exact au.panics
  cases hx2 with
  | nilIface=>cases d'<;>exact fails _ _ _ _
  | iface t v v' hv =>
    have tw:au P base VV κ
        (if t=zz then pure (if ok=true then .tuple #[v,.bool true] else v) else (if ok=true then do let z ← Go.zeroValue zz;pure (.tuple #[z,.bool false]) else Go.runtimePanic (.typeAssertion (some xt) (some t) zz "")))
        (if t=zz then pure (if ok=true then .tuple #[v',.bool true] else v') else (if ok=true then do let z ← Go.zeroValue zz;pure (.tuple #[z,.bool false]) else Go.runtimePanic (.typeAssertion (some xt) (some t) zz ""))):=by
      by_cases e:t=zz
      · rw[if_pos e,if_pos e];exact holds κ v v' hv
      · rw[if_neg e,if_neg e];exact fails _ _ _ _
    cases d' with
    | interface want =>
      dsimp only;refine au.bnd (eC t) (λκ2 i i' hle2 hi=>?_);rw[hi.1];cases Instr.missingMethod want i.methods with
      | none=>exact holds κ2 _ _ (.iface t v v' (hv.mono hle2))
      | some m=>exact fails _ _ _ _
    | _=>exact tw
  | _=>cases d'<;>exact au.halt
theorem CU{P:Program}{base:Nat->Prop}{ι:am}{x x':Value}(hx:aq ι x x'):au P base (λ_ n n'=>n'=n) ι (Builtin.lenOf x) (Builtin.lenOf x'):=by
 cases hx<;>first | exact au.ret rfl | exact au.halt
theorem lN{P:Program}{base:Nat->Prop}{ι:am}{x x':Value}(sz n:Nat)(hx:aq ι x x'):au P base bZ ι (Builtin.firstCells sz n x) (Builtin.firstCells sz n x'):=by
 cases hx with
 | dF=>exact au.ret (bZ.empty ι)
 | slice id off b m c c' h h0 h1 h2 h3=>exact fZ _ 0 ι _ _ h (bZ.empty ι)
 | dK id off b h h0=>exact fZ _ 0 ι _ _ h (bZ.empty ι)
 | string s =>
  refine au.ret (bZ.of_flat (λi v h=>?_));rw[Array.getElem?_map,Option.map_eq_some_iff]at h;obtain⟨c,_,rfl⟩:=h;exact .int _ _
 | _=>exact au.halt
theorem En{P:Program}{base:Nat->Prop}{ι:am}{d d' x x':Value}(t u ty:TypeId)(hd:aq ι d d')(hx:aq ι x x'):au P base VV ι (Builtin.copy_ #[t,u] ty #[d,x]) (Builtin.copy_ #[t,u] ty #[d',x']):=by
  unfold Builtin.copy_;simp only[List.getElem?_toArray,List.getElem?_cons_zero,List.getElem?_cons_succ];refine au.bnd (aR t) (λκ a a' hle ha=>?_);obtain⟨rfl,h2⟩:=ha;cases a' with
  | slice elem =>
    dsimp only;have main:∀ (ba ba':Option Addr) (n:Nat),(ba=none/\ba'=none\/∃ id off b,ba=some ⟨id,off,none⟩/\ba'=some ⟨b,off,none⟩/\κ id=some b)->au P base VV κ
        (do let l ← Builtin.lenOf x
            let sz ← Go.sizeOf elem
            let cells ← Builtin.firstCells sz (Nat.min l n) x
            (match ba with | some a=>(do Go.storeCells a cells.toList;pure (goInt ↑(Nat.min l n)):Sem Value) | _=>pure (goInt ↑(Nat.min l n))))
        (do let l ← Builtin.lenOf x'
            let sz ← Go.sizeOf elem
            let cells ← Builtin.firstCells sz (Nat.min l n) x'
            (match ba' with | some a=>(do Go.storeCells a cells.toList;pure (goInt ↑(Nat.min l n)):Sem Value) | _=>pure (goInt ↑(Nat.min l n)))):=by
      intro ba ba' n hb;refine au.bnd (CU (hx.mono hle)) (λκ2 l l' hle2 hl=>?_);rw[hl];refine au.bnd (di elem) (λκ3 sz sz' hle3 hs=>?_);rw[hs];refine au.bnd (lN sz _ (((hx.mono hle).mono hle2).mono hle3)) (λκ4 c c' gy hc=>?_);rcases hb with ⟨rfl,rfl⟩ | ⟨id,off,b,rfl,rfl,hb⟩
      · exact au.ret (.int _ _)
      · exact au.bnd (je _ _ 0 κ4 (gy _ _ (hle3 _ _ (hle2 _ _ hb))) hc.list) (λκ5 _ _ _ _=>au.ret (.int _ _))
    have hd2:=hd.mono hle;cases hd2 with
    | dF=>exact main none none 0 (.inl ⟨rfl,rfl⟩)
    | slice id off b m c c' h h0 h1 h2 h3=>exact main _ _ m (.inr ⟨id,off,b,rfl,rfl,h⟩)
    | dK id off b h h0=>exact main _ _ 0 (.inr ⟨id,off,b,rfl,rfl,h⟩)
    | _=>exact au.halt
  | _=>exact au.halt
end Go.Ev
