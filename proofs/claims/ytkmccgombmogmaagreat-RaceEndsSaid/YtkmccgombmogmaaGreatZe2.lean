/- Part of a proof: see the last text. -/
import Derived.Test.YtkmccgombmogmaaGreatZe1
set_option linter.unusedSectionVars false
set_option linter.unusedSimpArgs false
set_option linter.unusedVariables false
namespace Go.Ev
open Go.RowKit
variable[bg]
def ia(ι:am)(l l':List MapEntry):Prop :=
 l.length=l'.length/\∀ (i:Nat) (e e':MapEntry),l[i]? = some e->l'[i]? = some e'->ao ι e.key e'.key/\ao ι e.val e'.val/\e.born=e'.born/\jy e.key=true
theorem dT.list{ι:am}{es es':Array MapEntry}(h:dT ι es es'):ia ι es.toList es'.toList:=⟨by simpa using h.1,λi e e' a b=>h.2 i e e' (by simpa using a) (by simpa using b)⟩
theorem ia.arr{ι:am}{es es':Array MapEntry}(h:ia ι es.toList es'.toList):dT ι es es':=⟨by simpa using h.1,λi e e' a b=>h.2 i e e' (by simpa using a) (by simpa using b)⟩
theorem ia.mono{ι κ:am}(hk:jf ι κ){l l':List MapEntry}(h:ia ι l l'):ia κ l l':=⟨h.1,λi e e' a b=>⟨(h.2 i e e' a b).1.mono hk,(h.2 i e e' a b).2.1.mono hk,(h.2 i e e' a b).2.2⟩⟩
theorem dT.mono{ι κ:am}(hk:jf ι κ){l l':Array MapEntry}(h:dT ι l l'):dT κ l l':=⟨h.1,λi e e' a b=>⟨(h.2 i e e' a b).1.mono hk,(h.2 i e e' a b).2.1.mono hk,(h.2 i e e' a b).2.2⟩⟩
theorem ia.tail{ι:am}{e e':MapEntry}{l l':List MapEntry}(h:ia ι (e::l) (e'::l')):ia ι l l':=⟨by simpa using h.1,λi x x' a b=>h.2 (i+1) x x' a b⟩
theorem ia.jH{ι:am}{l':List MapEntry}(h:ia ι [] l'):l'=[]:=List.eq_nil_of_length_eq_zero h.1.symm
theorem ia.cons_right{ι:am}{e:MapEntry}{l l':List MapEntry}(h:ia ι (e::l) l'):∃ e' l2,l'=e'::l2:=by
 cases l' with
 | nil=>cases h.1
 | cons e' l2=>exact⟨e',l2,rfl⟩
theorem l6{ι:am}{v v':Value}(h:ao ι v v')(hk:jy v=true):v'=v:=by
 cases h<;>first | rfl | cases hk
theorem wS{ι:am}{d:TypeDesc}{k v v':Value}(h:ao ι v v')(hv:jy v=true):Instr.sameNow d k v'=Instr.sameNow d k v:=by
 rw[l6 h hv]
def OL(ι:am):Option (Nat×Value)->Option (Nat×Value)->Prop
 | none,none=>True
 | some (i,v),some (i',v')=>i'=i/\ao ι v v'
 | _,_=>False
theorem jh{ι:am}{d:TypeDesc}{k:Value}(hk:jy k=true):∀ (l l':List MapEntry) (i:Nat),ia ι l l'->
  (Instr.findNow d k l i=none/\Instr.findNow d k l' i=none)\/∃ r r',Instr.findNow d k l i=some r/\Instr.findNow d k l' i=some r'/\OL ι r r'/\
   ∀ j v,r=some (j,v)->i<=j/\∃ e e',l[j-i]? = some e/\l'[j-i]? = some e'/\Instr.sameNow d k e.key=some true:=by
 intro l
 induction l with
 | nil =>
  intro l' i h;have:=h.jH;subst this;exact .inr ⟨none,none,rfl,rfl,trivial,λj v e=>by cases e⟩
 | cons e l ih =>
  intro l' i h;obtain⟨e',l2,rfl⟩:=h.cons_right;have h0:=h.2 0 e e' rfl rfl;have hs:=wS (d:=d) (k:=k) h0.1 h0.2.2.2;simp only[Instr.findNow];rw[hs];cases hn:Instr.sameNow d k e.key with
  | none=>exact .inl ⟨rfl,rfl⟩
  | some b =>
   cases b with
   | true =>
    exact .inr ⟨_,_,rfl,rfl,⟨rfl,h0.2.1⟩,λj v hj=>by
     cases hj
     exact⟨Nat.le_refl _,e,e',by simp,by simp,hn⟩⟩
   | false =>
    dsimp only;rcases ih l2 (i+1) h.tail with ⟨a,b⟩ | ⟨r,r',a,b,c,d⟩
    ·exact .inl ⟨a,b⟩
    ·refine .inr ⟨r,r',a,b,c,λj v hj=>?_⟩
     obtain⟨d1,x,x',d2,d3,d4⟩:=d j v hj;refine⟨by omega,x,x',?_,?_,d4⟩
     ·rw[show j-i=(j-(i+1))+1 by omega];exact d2
     ·rw[show j-i=(j-(i+1))+1 by omega];exact d3
def f_(P:Program)(base:Nat->Prop)(ι:am)(s s1:St)(w:World)(n:Next)(m':Sem Next):Prop :=
 ∃ (κ:am) (n':Next) (w1:World),m'.run P w=.ok n' w1/\dA P base κ s1.look w1/\(∀ id,(id<4*s.next\/4*s1.next<=id)->κ id=ι id)/\H5 P κ n n'/\Out base w w1
def entriesOf(s:St):Value->Option (Array MapEntry×Nat)
 | .map (some r)=>(match s.look r with | some (.map es n)=>some (es,n) | _=>none)
 | _=>none
def o6(P:Program)(t:TypeId):Option (TypeId×TypeDesc×TypeId) :=
 match P.underlying t with
 | some (.map kt et)=>(match P.underlying kt with | some (.int q)=>some (kt,.int q,et) | some .string=>some (kt,.string,et) | _=>none)
 | _=>none
def ji(P:Program)(s:St)(t:TypeId)(m k:Value)(ok:Bool):Option (Value×St) :=
 match o6 P t,jy k with
 | some (_,d,et),true =>
  match (match m with | .map none=>some (#[],s) | .map (some r)=>(match entriesOf s m with | some (es,_)=>some (es,s.touch r none false) | none=>none) | _=>none:Option (Array MapEntry×St)) with
  | some (es,s1) =>
   match Instr.findNow d k es.toList 0 with
   | some (some (_,v))=>some (if ok then .tuple #[v,.bool true] else v,s1)
   | some none =>
    match P.info? et with
    | some i=>(match i.zero with | some z=>if bW 6 z then some (if ok then .tuple #[z,.bool false] else z,s1) else none | none=>none)
    | none=>none
   | none=>none
  | none=>none
 | _,_=>none
theorem l7{P:Program}{t:TypeId}{kt:TypeId}{d:TypeDesc}{et:TypeId}(h:o6 P t=some (kt,d,et)):P.underlying t=some (.map kt et)/\P.underlying kt=some d/\(d=.string\/∃ q,d=.int q):=by
 unfold o6 at h
 split at h
 ·rename_i SW SX hu
  split at h
  ·rename_i q hk
   cases h;exact⟨hu,hk,.inr ⟨q,rfl⟩⟩
  ·rename_i hk
   cases h;exact⟨hu,hk,.inl rfl⟩
  ·cases h
 ·cases h
theorem cq{P:Program}{t:TypeId}{d:TypeDesc}(h:P.underlying t=some d)(w:World):(Go.underlying t).run P w=.ok d w:=by
 unfold Go.underlying;show(match P.underlying t with | some d=>(Pure.pure d:Sem TypeDesc) | none=>Go.stuck "no such type").run P w=_;rw[h];rfl
theorem lw{P:Program}{t:TypeId}{i:TypeInfo}{z:Value}(h:P.info? t=some i)(hz:i.zero=some z)(w:World):(Go.zeroValue t).run P w=.ok z w:=by
 unfold Go.zeroValue Go.typeInfo;show((match P.info? t with | some i=>(Pure.pure i:Sem TypeInfo) | none=>Go.stuck "no such type") >>= λi=>match i.zero with | some v=>Pure.pure v | none=>Go.unsupported (.resourceLimit "a value of more than 2^22 cells")).run P w=_;rw[h];show(match i.zero with | some v=>(Pure.pure v:Sem Value) | none=>Go.unsupported (.resourceLimit "a value of more than 2^22 cells")).run P w=_;rw[hz];rfl
theorem sD{P:Program}{kt:TypeId}{d:TypeDesc}{k:Value}{b:Bool}(n:Nat)(h:P.underlying kt=some d)(hd:d=.string\/∃ q,d=.int q)(hk:jy k=true)(w:World):(Instr.checkKey b (n+1) kt k).run P w=.ok () w:=by
 unfold Instr.checkKey;rw[Sem.run_bind,cq h];rcases hd with rfl | ⟨q,rfl⟩
 ·cases k<;>first | (cases hk;done) | rfl
 ·cases k<;>first | (cases hk;done) | rfl
theorem run_checkKey{P:Program}{kt:TypeId}{d:TypeDesc}{k:Value}{b:Bool}(h:P.underlying kt=some d)(hd:d=.string\/∃ q,d=.int q)(hk:jy k=true)(w:World):(Instr.checkKey b 10000 kt k).run P w=.ok () w :=
 sD 9999 h hd hk w
theorem run_findKey{P:Program}{kt:TypeId}{d:TypeDesc}{k:Value}{es:List MapEntry}{r:Option (Nat×Value)}(h:P.underlying kt=some d)(hf:Instr.findNow d k es 0=some r)(w:World):(Instr.findKey kt k es).run P w=.ok r w:=by
 unfold Instr.findKey;rw[Sem.run_bind,cq h];show(match Instr.findNow d k es 0 with | some r=>(Pure.pure r:Sem _) | none=>Instr.findAsking kt k es).run P w=_;rw[hf];rfl
theorem gH{P:Program}{w:World}{b:Nat}{o:Obj}(h:w.heap[b]? = some o)(hc:∀ c e f,o≠.cells c e f):(Go.getObj b).run P w=.ok o w:=by
 unfold Go.getObj;simp only[Sem.run,h]
theorem sE{P:Program}{base:Nat->Prop}{ι:am}{s s1:St}{w:World}{t:TypeId}{m m' k k' v:Value}{ok:Bool}(hr:dA P base ι s.look w)(hm:ao ι m m')(hk:ao ι k k')
  (ha:ji P s t m k ok=some (v,s1)):∃ v',(Instr.lookup t m' k' ok).run P w=.ok v' w/\ao ι v v'/\s1.look=s.look/\s1.next=s.next:=by
 unfold ji at ha
 split at ha
 ·rename_i kt d et hT hkv
  obtain⟨hu,DU,hd⟩:=l7 hT;have hkk:=l6 hk hkv;subst hkk;have key:∀ (es es':Array MapEntry) (s2:St),dT ι es es'->s2.look=s.look->s2.next=s.next->
    (match Instr.findNow d k' es.toList 0 with
     | some (some (_,v))=>some (if ok then .tuple #[v,.bool true] else v,s2)
     | some none =>
      match P.info? et with
      | some i=>(match i.zero with | some z=>if bW 6 z then some (if ok then .tuple #[z,.bool false] else z,s2) else none | none=>none)
      | none=>none
     | none=>none)=some (v,s1)->
    ∃ v',((do
     Instr.checkKey es'.isEmpty 10000 kt k'
     let (v,ok') ← match ← Instr.findKey kt k' es'.toList with
      | some (_,v)=>pure (v,true)
      | none=>pure (← Go.zeroValue et,false)
     pure (if ok then .tuple #[v,.bool ok'] else v):Sem Value).run P w=.ok v' w)/\ao ι v v'/\s1.look=s.look/\s1.next=s.next:=by
   intro es es' s2 he hl hnx hh;have hf:=jh (d:=d) hkv es.toList es'.toList 0 he.list;rcases hf with ⟨f1,f2⟩ | ⟨r,r',f1,f2,f3,_⟩
   ·rw[f1]at hh;cases hh
   ·rw[f1]at hh
    rw[Sem.run_bind,run_checkKey DU hd hkv];dsimp only[Result.andThen];rw[Sem.run_bind,run_findKey DU f2];dsimp only[Result.andThen];cases r with
    | none =>
     cases r' with
     | some x=>exact f3.elim
     | none =>
      dsimp only at hh ⊢
      split at hh
      ·rename_i i hi
       split at hh
       ·rename_i z hz
        split at hh
        ·rename_i hfl
         cases hh;rw[Sem.run_bind,lw hi hz];refine⟨_,rfl,?_,hl,hnx⟩;have hz':=iG ι 6 z hfl;cases ok
         ·exact hz'
         ·refine .tuple _ _ rfl (λi x x' h1 h2=>?_)
          match i with
          | 0=>simp at h1 h2;subst h1 h2;exact hz'
          | 1=>simp at h1 h2;subst h1 h2;exact .bool false
          | i+2=>simp at h1
        ·cases hh
       ·cases hh
      ·cases hh
    | some x =>
     obtain⟨j,x⟩:=x;cases r' with
     | none=>exact f3.elim
     | some x' =>
      obtain⟨j',x'⟩:=x';obtain⟨rfl,hx⟩:=f3;dsimp only at hh ⊢;cases hh;refine⟨_,rfl,?_,hl,hnx⟩;cases ok
      ·exact hx
      ·refine .tuple _ _ rfl (λi y y' h1 h2=>?_)
       match i with
       | 0=>simp at h1 h2;subst h1 h2;exact hx
       | 1=>simp at h1 h2;subst h1 h2;exact .bool true
       | i+2=>simp at h1
  unfold Instr.lookup;rw[Sem.run_bind,cq hu];dsimp only[Result.andThen];cases hm with
  | mX =>
   dsimp only at ha ⊢;exact key #[] #[] s ⟨rfl,λi e e' h=>by simp at h⟩ rfl rfl ha
  | map id b hb =>
   dsimp only[entriesOf]at ha ⊢;cases hl:s.look id with
   | none=>simp[hl]at ha
   | some o =>
    obtain⟨b',o',i1,i2,i3,i4⟩:=hr.there id o hl (hr.real hl hb);rw[hb]at i1;cases i1;cases o with
    | map es n =>
     obtain⟨es',rfl,he⟩:=i3;simp only[hl]at ha;rw[Sem.run_bind,gH i2 (by intro c e f x;cases x)];dsimp only[Result.andThen];exact key es es' (s.touch id none false) he rfl rfl ha
    | _=>simp[hl]at ha
  | _=>cases ha
 ·cases ha
theorem nO{ι:am}{old old' k:Value}(h:ao ι old old')(ho:jy old=true):Instr.sameBits 10000 old' k=Instr.sameBits 10000 old k:=by
 rw[l6 h ho]
theorem dT.push{ι:am}{es es':Array MapEntry}{e e':MapEntry}(h:dT ι es es')(hk:ao ι e.key e'.key)(hv:ao ι e.val e'.val)(hb:e.born=e'.born)(hy:jy e.key=true):dT ι (es.push e) (es'.push e'):=by
 refine⟨by simp[h.1],λi x x' h1 h2=>?_⟩;rw[Array.getElem?_push]at h1 h2;rw[h.1]at h1
 by_cases c:i=es'.size
 ·rw[if_pos c]at h1 h2;cases h1;cases h2;exact⟨hk,hv,hb,hy⟩
 ·rw[if_neg c]at h1 h2;exact h.2 i x x' h1 h2
theorem dT.modify{ι:am}{es es':Array MapEntry}(h:dT ι es es')(i:Nat){k k' v v':Value}(hk:ao ι k k')(hv:ao ι v v')(hy:jy k=true) :
  dT ι (es.modify i λe=>{ e with key:=k,val:=v }) (es'.modify i λe=>{ e with key:=k',val:=v' }):=by
 refine⟨by simp[h.1],λj x x' h1 h2=>?_⟩;rw[Array.getElem?_modify]at h1 h2
 by_cases c:i=j
 ·rw[if_pos c]at h1 h2
  simp only[Option.map_eq_some_iff]at h1 h2;obtain⟨y,y1,y2⟩:=h1;obtain⟨z,z1,z2⟩:=h2;subst y2 z2;exact⟨hk,hv,(h.2 j y z y1 z1).2.2.1,hy⟩
 ·rw[if_neg c]at h1 h2
  exact h.2 j x x' h1 h2
def ek(P:Program)(s:St)(t:TypeId)(m k v:Value):Option St :=
 match o6 P t,jy k,m with
 | some (_,d,_),true,.map (some r) =>
  match s.look r with
  | some (.map es n) =>
   if r<lim then
    match Instr.findNow d k es.toList 0 with
    | some (some (i,_))=>if Instr.sameBits 10000 (((es[i]?).map (·.key)).getD k) k then some ((s.put r (some (.map (es.modify i λe=>{ e with key:=k,val:=v }) n))).touch r none true) else none
    | some none=>some ((s.put r (some (.map (es.push { key:=k,val:=v,born:=n }) (n+1)))).touch r none true)
    | none=>none
   else none
  | _=>none
 | _,_,_=>none
theorem eI{P:Program}{w:World}{b:Nat}{o o':Obj}(h:w.heap[b]? = some o)(hc:∀ c e f,o≠.cells c e f):(Go.setObj b o').run P w=.ok () { w with heap:=w.heap.setIfInBounds b o' }:=by
 unfold Go.setObj;simp only[Sem.run,h]
theorem dA.setObj{P:Program}{base:Nat->Prop}{ι:am}{s:St}{w:World}{id b:Nat}{o o1 A0:Obj}(hr:dA P base ι s.look w)(hlim:id<lim)(hl:s.look id=some o)(hb:ι id=some b)(ho:gY P ι id o1 A0) :
  dA P base ι ((s.put id (some o1)).touch id none true).look { w with heap:=w.heap.setIfInBounds b A0 }/\Out base w { w with heap:=w.heap.setIfInBounds b A0 }:=by
 obtain⟨b9,o9,g1,g2,g3,g4⟩:=hr.there id o hl (hr.real hl hb);rw[hb]at g1;cases g1;have hlt:b<w.heap.size:=by
  rcases Nat.lt_or_ge b w.heap.size with g | g
  ·exact g
  ·rw[Array.getElem?_eq_none g]at g2;cases g2
 refine⟨dA.put (o:=o) (b:=b) hr hlim hl hb ?_ ho ?_ ?_,⟨rfl,rfl,rfl,by simp,?_⟩⟩
 ·simp[Array.getElem?_setIfInBounds,hlt]
 ·intro j hj
  simp only[Array.getElem?_setIfInBounds];rw[if_neg (λe=>hj e.symm)]
 ·simp
 ·intro j hj
  simp only[Array.getElem?_setIfInBounds];rw[if_neg (λe=>by subst e;exact g4 hj)]
theorem mI{P:Program}{base:Nat->Prop}{ι:am}{s s1:St}{w:World}{t:TypeId}{m m' k k' v v':Value}(hr:dA P base ι s.look w)(hm:ao ι m m')(hk:ao ι k k')(hv:ao ι v v')
  (ha:ek P s t m k v=some s1):∃ w1,(Instr.mapUpdate t m' k' v').run P w=.ok () w1/\dA P base ι s1.look w1/\Out base w w1/\s1.next=s.next:=by
 unfold ek at ha
 split at ha
 ·rename_i kt d et id hT hkv
  obtain⟨hu,DU,hd⟩:=l7 hT;have hkk:=l6 hk hkv;subst hkk;cases hm with
  | map _ b hb =>
   cases hl:s.look id with
   | none=>simp[hl]at ha
   | some o =>
    obtain⟨b',o',i1,i2,i3,i4⟩:=hr.there id o hl (hr.real hl hb);rw[hb]at i1;cases i1;cases o with
    | map es n =>
     obtain⟨es',rfl,he⟩:=i3;simp only[hl]at ha
     split at ha
     ·rename_i hlim
      unfold Instr.mapUpdate;rw[Sem.run_bind,cq hu];dsimp only[Result.andThen];rw[Sem.run_bind,gH i2 (by intro c e f x;cases x)];dsimp only[Result.andThen];rw[Sem.run_bind,run_checkKey DU hd hkv];dsimp only[Result.andThen];have hf:=jh (d:=d) hkv es.toList es'.toList 0 he.list;rcases hf with ⟨f1,f2⟩ | ⟨r,r',f1,f2,f3,f4⟩
      ·rw[f1]at ha;cases ha
      ·rw[f1]at ha
       rw[Sem.run_bind,run_findKey DU f2];dsimp only[Result.andThen];cases r with
       | none =>
        cases r' with
        | some x=>exact f3.elim
        | none =>
         dsimp only at ha ⊢;cases ha;obtain⟨g1,g2⟩:=dA.setObj (o1:=.map (es.push { key:=k',val:=v,born:=n }) (n+1)) (A0:=.map (es'.push { key:=k',val:=v',born:=n }) (n+1)) hr hlim hl hb ⟨_,rfl,he.push hk hv rfl hkv⟩;exact⟨_,eI i2 (by intro c e f x;cases x),g1,g2,rfl⟩
       | some x =>
        obtain⟨j,x⟩:=x;cases r' with
        | none=>exact f3.elim
        | some x' =>
         obtain⟨j',x'⟩:=x';obtain⟨rfl,hx⟩:=f3;dsimp only at ha ⊢
         split at ha
         ·rename_i hsb
          cases ha;have hold:ao ι (((es[j']?).map (·.key)).getD k') (((es'[j']?).map (·.key)).getD k'):=by
           by_cases hlt:j'<es.size
           ·have hlt':j'<es'.size:=by rw[← he.1];exact hlt
            rw[Array.getElem?_eq_getElem hlt,Array.getElem?_eq_getElem hlt'];exact(he.2 j' _ _ (Array.getElem?_eq_getElem hlt) (Array.getElem?_eq_getElem hlt')).1
           ·have hlt':¬ j'<es'.size:=by rw[← he.1];exact hlt
            rw[Array.getElem?_eq_none (Nat.le_of_not_lt hlt),Array.getElem?_eq_none (Nat.le_of_not_lt hlt')];exact hk
          have DV:jy (((es[j']?).map (·.key)).getD k')=true:=by
           by_cases hlt:j'<es.size
           ·have hlt':j'<es'.size:=by rw[← he.1];exact hlt
            rw[Array.getElem?_eq_getElem hlt];exact(he.2 j' _ _ (Array.getElem?_eq_getElem hlt) (Array.getElem?_eq_getElem hlt')).2.2.2
           ·rw[Array.getElem?_eq_none (Nat.le_of_not_lt hlt)]
            exact hkv
          have KU:Instr.sameBits 10000 (((es'[j']?).map (·.key)).getD k') k'=true:=by rw[nO hold DV];exact hsb
          have hkt:(Instr.keyThatStays (((es'[j']?).map (·.key)).getD k') k').run P w=.ok k' w:=by
           unfold Instr.keyThatStays;rw[if_pos KU];rfl
          rw[Sem.run_bind,hkt];dsimp only[Result.andThen];obtain⟨g1,g2⟩:=dA.setObj (o1:=.map (es.modify j' λe=>{ e with key:=k',val:=v }) n) (A0:=.map (es'.modify j' λe=>{ e with key:=k',val:=v' }) n) hr hlim hl hb ⟨_,rfl,he.modify j' hk hv hkv⟩;exact⟨_,eI i2 (by intro c e f x;cases x),g1,g2,rfl⟩
         ·cases ha
     ·cases ha
    | _=>simp[hl]at ha
 ·cases ha
def eW(P:Program)(s:St)(t:TypeId)(m k:Value):Option St :=
 match o6 P t,jy k,m with
 | some (_,d,_),true,.map (some r) =>
  match s.look r with
  | some (.map es n) =>
   if r<lim then
    match Instr.findNow d k es.toList 0 with
    | some (some (i,_))=>some ((s.put r (some (.map (es.eraseIdxIfInBounds i) n))).touch r none true)
    | some none=>some ((s.put r (some (.map es n))).touch r none true)
    | none=>none
   else none
  | _=>none
 | _,_,_=>none
theorem dT.erase{ι:am}{es es':Array MapEntry}(h:dT ι es es')(i:Nat):dT ι (es.eraseIdxIfInBounds i) (es'.eraseIdxIfInBounds i):=by
 unfold Array.eraseIdxIfInBounds
 by_cases hlt:i<es.size
 ·have hlt':i<es'.size:=by rw[← h.1];exact hlt
  rw[dif_pos hlt,dif_pos hlt'];refine⟨by simp[h.1],λj x x' h1 h2=>?_⟩;rw[Array.getElem?_eraseIdx]at h1 h2
  split at h1
  ·rename_i c
   rw[if_pos c]at h2;exact h.2 j x x' h1 h2
  ·rename_i c
   rw[if_neg c]at h2;exact h.2 (j+1) x x' h1 h2
 ·have hlt':¬ i<es'.size:=by rw[← h.1];exact hlt
  rw[dif_neg hlt,dif_neg hlt'];exact h
theorem sF{P:Program}{base:Nat->Prop}{ι:am}{s s1:St}{w:World}{t ty kk:TypeId}{m m' k k':Value}(hr:dA P base ι s.look w)(hm:ao ι m m')(hk:ao ι k k')
  (ha:eW P s t m k=some s1):∃ w1,(Builtin.delete_ #[t,kk] ty #[m',k']).run P w=.ok (.tuple #[]) w1/\dA P base ι s1.look w1/\Out base w w1/\s1.next=s.next:=by
 unfold eW at ha
 split at ha
 ·rename_i kt d et id hT hkv
  obtain⟨hu,DU,hd⟩:=l7 hT;have hkk:=l6 hk hkv;subst hkk;cases hm with
  | map _ b hb =>
   cases hl:s.look id with
   | none=>simp[hl]at ha
   | some o =>
    obtain⟨b',o',i1,i2,i3,i4⟩:=hr.there id o hl (hr.real hl hb);rw[hb]at i1;cases i1;cases o with
    | map es n =>
     obtain⟨es',rfl,he⟩:=i3;simp only[hl]at ha
     split at ha
     ·rename_i hlim
      unfold Builtin.delete_;simp only[List.getElem?_toArray,List.getElem?_cons_zero,List.getElem?_cons_succ];rw[Sem.run_bind,cq hu];dsimp only[Result.andThen];rw[Sem.run_bind,gH i2 (by intro c e f x;cases x)];dsimp only[Result.andThen];rw[Sem.run_bind,run_checkKey DU hd hkv];dsimp only[Result.andThen];have hf:=jh (d:=d) hkv es.toList es'.toList 0 he.list;rcases hf with ⟨f1,f2⟩ | ⟨r,r',f1,f2,f3,f4⟩
      ·rw[f1]at ha;cases ha
      ·rw[f1]at ha
       rw[Sem.run_bind,run_findKey DU f2];dsimp only[Result.andThen];cases r with
       | none =>
        cases r' with
        | some x=>exact f3.elim
        | none =>
         dsimp only at ha ⊢;cases ha;obtain⟨g1,g2⟩:=dA.setObj (o1:=.map es n) (A0:=.map es' n) hr hlim hl hb ⟨_,rfl,he⟩;rw[Sem.run_bind,eI i2 (by intro c e f x;cases x)];exact⟨_,rfl,g1,g2,rfl⟩
       | some x =>
        obtain⟨j,x⟩:=x;cases r' with
        | none=>exact f3.elim
        | some x' =>
         obtain⟨j',x'⟩:=x';obtain⟨rfl,hx⟩:=f3;dsimp only at ha ⊢;cases ha;obtain⟨g1,g2⟩:=dA.setObj (o1:=.map (es.eraseIdxIfInBounds j') n) (A0:=.map (es'.eraseIdxIfInBounds j') n) hr hlim hl hb ⟨_,rfl,he.erase j'⟩;rw[Sem.run_bind,eI i2 (by intro c e f x;cases x)];exact⟨_,rfl,g1,g2,rfl⟩
     ·cases ha
    | _=>simp[hl]at ha
 ·cases ha
theorem dT.ML{ι:am}{es es':Array MapEntry}(h:dT ι es es')(i:Nat){k k':Value}(hk:ao ι k k')(hy:jy k=true) :
  dT ι (es.modify i λe=>{ e with key:=k }) (es'.modify i λe=>{ e with key:=k' }):=by
 refine⟨by simp[h.1],λj x x' h1 h2=>?_⟩;rw[Array.getElem?_modify]at h1 h2
 by_cases c:i=j
 ·rw[if_pos c]at h1 h2
  simp only[Option.map_eq_some_iff]at h1 h2;obtain⟨y,y1,y2⟩:=h1;obtain⟨z,z1,z2⟩:=h2;subst y2 z2;exact⟨hk,(h.2 j y z y1 z1).2.1,(h.2 j y z y1 z1).2.2.1,hy⟩
 ·rw[if_neg c]at h1 h2
  exact h.2 j x x' h1 h2
theorem dT.MN{ι:am}{es es':Array MapEntry}(h:dT ι es es')(i:Nat){v v':Value}(hv:ao ι v v') :
  dT ι (es.modify i λe=>{ e with val:=v }) (es'.modify i λe=>{ e with val:=v' }):=by
 refine⟨by simp[h.1],λj x x' h1 h2=>?_⟩;rw[Array.getElem?_modify]at h1 h2
 by_cases c:i=j
 ·rw[if_pos c]at h1 h2
  simp only[Option.map_eq_some_iff]at h1 h2;obtain⟨y,y1,y2⟩:=h1;obtain⟨z,z1,z2⟩:=h2;subst y2 z2;exact⟨(h.2 j y z y1 z1).1,hv,(h.2 j y z y1 z1).2.2⟩
 ·rw[if_neg c]at h1 h2
  exact h.2 j x x' h1 h2
theorem dT.born{ι:am}{es es':Array MapEntry}(h:dT ι es es')(i:Nat):goInt (((es'[i]?).map (·.born)).getD 0)=goInt (((es[i]?).map (·.born)).getD 0):=by
 by_cases hlt:i<es.size
 ·have hlt':i<es'.size:=by rw[← h.1];exact hlt
  rw[Array.getElem?_eq_getElem hlt,Array.getElem?_eq_getElem hlt'];simp only[Option.map_some,Option.getD_some,(h.2 i _ _ (Array.getElem?_eq_getElem hlt) (Array.getElem?_eq_getElem hlt')).2.2.1]
 ·have hlt':¬ i<es'.size:=by rw[← h.1];exact hlt
  rw[Array.getElem?_eq_none (Nat.le_of_not_lt hlt),Array.getElem?_eq_none (Nat.le_of_not_lt hlt')]
def gi(P:Program)(s:St)(t:TypeId)(m k:Value):Option (Value×St) :=
 match o6 P t,jy k,m with
 | some (_,d,et),true,.map (some r) =>
  match s.look r with
  | some (.map es n) =>
   if r<lim then
    match Instr.findNow d k es.toList 0 with
    | some (some (i,v))=>if Instr.sameBits 10000 (((es[i]?).map (·.key)).getD k) k then some (.tuple #[v,goInt (((es[i]?).map (·.born)).getD 0)],(s.put r (some (.map (es.modify i λe=>{ e with key:=k }) n))).touch r none true) else none
    | some none =>
     match P.info? et with
     | some i=>(match i.zero with | some z=>if bW 6 z then some (.tuple #[z,goInt n],(s.put r (some (.map (es.push { key:=k,val:=z,born:=n }) (n+1)))).touch r none true) else none | none=>none)
     | none=>none
    | none=>none
   else none
  | _=>none
 | _,_,_=>none
theorem wT{ι:am}{v v' u u':Value}(h:ao ι v v')(k:ao ι u u'):ao ι (.tuple #[v,u]) (.tuple #[v',u']):=by
 refine .tuple _ _ rfl (λi x x' h1 h2=>?_)
 match i with
 | 0=>simp at h1 h2;subst h1 h2;exact h
 | 1=>simp at h1 h2;subst h1 h2;exact k
 | i+2=>simp at h1
theorem uH{P:Program}{base:Nat->Prop}{ι:am}{s s1:St}{w:World}{t:TypeId}{m m' k k' v:Value}(hr:dA P base ι s.look w)(hm:ao ι m m')(hk:ao ι k k')
  (ha:gi P s t m k=some (v,s1)):∃ v' w1,(Instr.mapEntry t m' k').run P w=.ok v' w1/\ao ι v v'/\dA P base ι s1.look w1/\Out base w w1/\s1.next=s.next:=by
 unfold gi at ha
 split at ha
 ·rename_i kt d et id hT hkv
  obtain⟨hu,DU,hd⟩:=l7 hT;have hkk:=l6 hk hkv;subst hkk;cases hm with
  | map _ b hb =>
   cases hl:s.look id with
   | none=>simp[hl]at ha
   | some o =>
    obtain⟨b',o',i1,i2,i3,i4⟩:=hr.there id o hl (hr.real hl hb);rw[hb]at i1;cases i1;cases o with
    | map es n =>
     obtain⟨es',rfl,he⟩:=i3;simp only[hl]at ha
     split at ha
     ·rename_i hlim
      unfold Instr.mapEntry;rw[Sem.run_bind,cq hu];dsimp only[Result.andThen];rw[Sem.run_bind,gH i2 (by intro c e f x;cases x)];dsimp only[Result.andThen];rw[Sem.run_bind,run_checkKey DU hd hkv];dsimp only[Result.andThen];have hf:=jh (d:=d) hkv es.toList es'.toList 0 he.list;rcases hf with ⟨f1,f2⟩ | ⟨r,r',f1,f2,f3,f4⟩
      ·rw[f1]at ha;cases ha
      ·rw[f1]at ha
       rw[Sem.run_bind,run_findKey DU f2];dsimp only[Result.andThen];cases r with
       | none =>
        cases r' with
        | some x=>exact f3.elim
        | none =>
         dsimp only at ha ⊢
         split at ha
         ·rename_i ti hti
          split at ha
          ·rename_i z hz
           split at ha
           ·rename_i hfl
            cases ha;have hzz:=iG ι 6 z hfl;rw[Sem.run_bind,lw hti hz];dsimp only[Result.andThen];obtain⟨g1,g2⟩:=dA.setObj (o1:=.map (es.push { key:=k',val:=z,born:=n }) (n+1)) (A0:=.map (es'.push { key:=k',val:=z,born:=n }) (n+1)) hr hlim hl hb ⟨_,rfl,he.push hk hzz rfl hkv⟩;rw[Sem.run_bind,eI i2 (by intro c e f x;cases x)];exact⟨_,_,rfl,wT hzz (.int _ _),g1,g2,rfl⟩
           ·cases ha
          ·cases ha
         ·cases ha
       | some x =>
        obtain⟨j,x⟩:=x;cases r' with
        | none=>exact f3.elim
        | some x' =>
         obtain⟨j',x'⟩:=x';obtain⟨rfl,hx⟩:=f3;dsimp only at ha ⊢
         split at ha
         ·rename_i hsb
          cases ha;have hold:ao ι (((es[j']?).map (·.key)).getD k') (((es'[j']?).map (·.key)).getD k'):=by
           by_cases hlt:j'<es.size
           ·have hlt':j'<es'.size:=by rw[← he.1];exact hlt
            rw[Array.getElem?_eq_getElem hlt,Array.getElem?_eq_getElem hlt'];exact(he.2 j' _ _ (Array.getElem?_eq_getElem hlt) (Array.getElem?_eq_getElem hlt')).1
           ·have hlt':¬ j'<es'.size:=by rw[← he.1];exact hlt
            rw[Array.getElem?_eq_none (Nat.le_of_not_lt hlt),Array.getElem?_eq_none (Nat.le_of_not_lt hlt')];exact hk
          have DV:jy (((es[j']?).map (·.key)).getD k')=true:=by
           by_cases hlt:j'<es.size
           ·have hlt':j'<es'.size:=by rw[← he.1];exact hlt
            rw[Array.getElem?_eq_getElem hlt];exact(he.2 j' _ _ (Array.getElem?_eq_getElem hlt) (Array.getElem?_eq_getElem hlt')).2.2.2
           ·rw[Array.getElem?_eq_none (Nat.le_of_not_lt hlt)]
            exact hkv
          have KU:Instr.sameBits 10000 (((es'[j']?).map (·.key)).getD k') k'=true:=by rw[nO hold DV];exact hsb
          have hkt:(Instr.keyThatStays (((es'[j']?).map (·.key)).getD k') k').run P w=.ok k' w:=by
           unfold Instr.keyThatStays;rw[if_pos KU];rfl
          rw[Sem.run_bind,hkt];dsimp only[Result.andThen];obtain⟨g1,g2⟩:=dA.setObj (o1:=.map (es.modify j' λe=>{ e with key:=k' }) n) (A0:=.map (es'.modify j' λe=>{ e with key:=k' }) n) hr hlim hl hb ⟨_,rfl,he.ML j' hk hkv⟩;rw[Sem.run_bind,eI i2 (by intro c e f x;cases x)];refine⟨_,_,rfl,wT hx ?_,g1,g2,rfl⟩;rw[he.born j'];exact .int _ _
         ·cases ha
     ·cases ha
    | _=>simp[hl]at ha
 ·cases ha
def g7(s:St)(m st v:Value):Option St :=
 match m,st with
 | .map (some r),.int _ b =>
  match s.look r with
  | some (.map es n) =>
   if r<lim then
    match es.findIdx? (λe=>(e.born:Int)==b) with
    | some i=>some ((s.put r (some (.map (es.modify i λe=>{ e with val:=v }) n))).touch r none true)
    | none=>none
   else none
  | _=>none
 | _,_=>none
theorem dT.findIdx{ι:am}{es es':Array MapEntry}(h:dT ι es es')(b:Int):es'.findIdx? (λe=>(e.born:Int)==b)=es.findIdx? (λe=>(e.born:Int)==b):=by
 have key:∀ (l l':List MapEntry),ia ι l l'->l'.findIdx? (λe=>(e.born:Int)==b)=l.findIdx? (λe=>(e.born:Int)==b):=by
  intro l
  induction l with
  | nil=>intro l' hl;rw[hl.jH]
  | cons e l ih =>
   intro l' hl;obtain⟨e',l2,rfl⟩:=hl.cons_right;rw[List.findIdx?_cons,List.findIdx?_cons,(hl.2 0 e e' rfl rfl).2.2.1,ih l2 hl.tail]
 have:=key es.toList es'.toList h.list;rw[← List.findIdx?_toArray,← List.findIdx?_toArray,Array.toArray_toList,Array.toArray_toList]at this;exact this
theorem uI{P:Program}{base:Nat->Prop}{ι:am}{s s1:St}{w:World}{t:TypeId}{m m' st st' v v':Value}(hr:dA P base ι s.look w)(hm:ao ι m m')(hst:ao ι st st')(hv:ao ι v v')
  (ha:g7 s m st v=some s1):∃ w1,(Instr.entryStore t m' st' v').run P w=.ok () w1/\dA P base ι s1.look w1/\Out base w w1/\s1.next=s.next:=by
 unfold g7 at ha
 split at ha
 ·rename_i id ik bn
  cases hst;cases hm with
  | map _ b hb =>
   cases hl:s.look id with
   | none=>simp[hl]at ha
   | some o =>
    obtain⟨b',o',i1,i2,i3,i4⟩:=hr.there id o hl (hr.real hl hb);rw[hb]at i1;cases i1;cases o with
    | map es n =>
     obtain⟨es',rfl,he⟩:=i3;simp only[hl]at ha
     split at ha
     ·rename_i hlim
      split at ha
      ·rename_i i hi
       cases ha;unfold Instr.entryStore;dsimp only;rw[Sem.run_bind,gH i2 (by intro c e f x;cases x)];dsimp only[Result.andThen];rw[Sem.run_bind,show(asInt (Value.int ik bn)).run P w=.ok bn w from rfl];dsimp only[Result.andThen];rw[he.findIdx,hi];dsimp only;obtain⟨g1,g2⟩:=dA.setObj (o1:=.map (es.modify i λe=>{ e with val:=v }) n) (A0:=.map (es'.modify i λe=>{ e with val:=v' }) n) hr hlim hl hb ⟨_,rfl,he.MN i hv⟩;exact⟨_,eI i2 (by intro c e f x;cases x),g1,g2,rfl⟩
      ·cases ha
     ·cases ha
    | _=>simp[hl]at ha
 ·cases ha
end Go.Ev
namespace Go.Ev
open Go.RowKit
variable[bg]
theorem mZ{P:Program}{base:Nat->Prop}{ι:am}{o o':Obj}(ho:gY P ι 0 o o'):aq P base (λκ id b=>κ id=some b) ι (Go.newObj o) (Go.newObj o'):=by
 unfold Go.newObj;exact aq.new ho (λκ id b _ hb _=>aq.pure hb)
theorem Cn{P:Program}{base:Nat->Prop}{ι:am}{x x':Value}(t:TypeId)(hx:ao ι x x'):aq P base VV ι (Instr.range t x) (Instr.range t x'):=by
  unfold Instr.range;refine aq.bnd (aM t) (λκ d d' hle hd=>?_);obtain⟨rfl,h2⟩:=hd;have hx2:=hx.mono hle;have fin:∀ (κ:am) (o o':Obj),gY P κ 0 o o'->aq P base VV κ (do pure (Value.pointer (some ⟨← Go.newObj o,0,none⟩))) (do pure (Value.pointer (some ⟨← Go.newObj o',0,none⟩))) :=
    λκ o o' ho=>aq.bnd (mZ ho) (λκ2 id b _ hb=>aq.ret (.ptr id 0 b hb))
  cases d' with
  | string =>
    cases hx2 with
    | string s=>exact fin κ (.stringIter s 0) (.stringIter s 0) rfl
    | _=>exact aq.halt
  | map kt et =>
    cases hx2 with
    | mX=>exact fin κ (.mapIter none 0 #[] 0) (.mapIter none 0 #[] 0) rfl
    | map id b hb =>
      dsimp only;refine aq.bnd (R:=λκ (o o':Obj)=>gY P κ id o o') (aq.getObj hb (λo o' ho _=>aq.pure ho)) (λκ2 o o' hle2 ho=>?_);cases o with
      | map es n =>
        obtain⟨es',rfl,he⟩:=ho;exact fin κ2 (.mapIter (some id) n #[] n) (.mapIter (some b) n #[] n) ⟨b,hle2 _ _ hb,rfl⟩
      | _=>exact aq.halt
    | _=>exact aq.halt
  | _=>exact aq.halt
theorem dT.filter{ι:am}{es es':Array MapEntry}(p:Nat->Bool)(h:dT ι es es'):dT ι (es.filter λe=>p e.born) (es'.filter λe=>p e.born):=by
 apply ia.arr;rw[Array.toList_filter,Array.toList_filter];have hl:=h.list;generalize es.toList=l at hl;generalize es'.toList=l' at hl;clear h
 induction l generalizing l' with
 | nil =>
  have:=hl.jH;subst this;exact⟨rfl,λi e e' h=>by simp at h⟩
 | cons e l ih =>
  obtain⟨e',l2,rfl⟩:=hl.cons_right;have h0:=hl.2 0 e e' rfl rfl;have ht:=ih l2 hl.tail;simp only[List.filter_cons];rw[← h0.2.2.1]
  split
  ·refine⟨by simp[ht.1],λi x x' a b=>?_⟩
   match i with
   | 0=>simp at a b;subst a b;exact h0
   | i+1=>exact ht.2 i x x' (by simpa using a) (by simpa using b)
  ·exact ht
theorem dT.all{ι:am}{es es':Array MapEntry}(p:Nat->Bool)(h:dT ι es es'):(es'.all λe=>p e.born)=(es.all λe=>p e.born):=by
 rw[← Array.all_toList,← Array.all_toList];have hl:=h.list;generalize es.toList=l at hl;generalize es'.toList=l' at hl;clear h
 induction l generalizing l' with
 | nil =>
  have:=hl.jH;subst this;rfl
 | cons e l ih =>
  obtain⟨e',l2,rfl⟩:=hl.cons_right;have h0:=hl.2 0 e e' rfl rfl;simp only[List.all_cons,ih l2 hl.tail,h0.2.2.1]
theorem dT.isEmpty{ι:am}{es es':Array MapEntry}(h:dT ι es es'):es'.isEmpty=es.isEmpty:=by
 simp[Array.isEmpty,h.1]
theorem dT.append{ι:am}{a a' b b':Array MapEntry}(h:dT ι a a')(k:dT ι b b'):dT ι (a++b) (a'++b'):=by
 refine⟨by simp[h.1,k.1],λi e e' h1 h2=>?_⟩;rw[Array.getElem?_append]at h1 h2;rw[h.1]at h1
 split at h1
 ·rename_i c
  rw[if_pos c]at h2;exact h.2 i e e' h1 h2
 ·rename_i c
  rw[if_neg c]at h2;exact k.2 _ e e' h1 h2
def KW(ι:am)(a a':Array (Option MapEntry)):Prop :=
 a.size=a'.size/\∀ (i:Nat) x x',a[i]? = some x->a'[i]? = some x'->(x=none/\x'=none)\/∃ e e':MapEntry,x=some e/\x'=some e'/\ao ι e.key e'.key/\ao ι e.val e'.val/\e.born=e'.born
theorem KW.mk{ι:am}{o o' n n':Array MapEntry}(ho:dT ι o o')(hn:dT ι n n') :
  KW ι ((if o.isEmpty=true then #[none] else #[])++(o++n).map some) ((if o'.isEmpty=true then #[none] else #[])++(o'++n').map some):=by
 rw[ho.isEmpty];have ha:=ho.append hn;have hsz:(o++n).size=(o'++n').size:=ha.1;generalize o.isEmpty=b;have hm:∀ (i:Nat) x x',((o++n).map some)[i]? = some x->((o'++n').map some)[i]? = some x'->(x=none/\x'=none)\/∃ e e':MapEntry,x=some e/\x'=some e'/\ao ι e.key e'.key/\ao ι e.val e'.val/\e.born=e'.born:=by
  intro i x x' h1 h2;rw[Array.getElem?_map,Option.map_eq_some_iff]at h1 h2;obtain⟨e,e1,rfl⟩:=h1;obtain⟨e',KX,rfl⟩:=h2;have hh:=ha.2 _ e e' e1 KX;exact .inr ⟨e,e',rfl,rfl,hh.1,hh.2.1,hh.2.2.1⟩
 have hs2:((o++n).map some).size=((o'++n').map some).size:=by rw[Array.size_map,Array.size_map];exact hsz
 generalize (o++n).map some=A at hm hs2 ⊢;generalize (o'++n').map some=A' at hm hs2 ⊢;cases b with
 | false =>
  simp only[Bool.false_eq_true,if_false,Array.empty_append];exact⟨hs2,hm⟩
 | true =>
  simp only[if_true];refine⟨by simp[hs2],λi x x' h1 h2=>?_⟩
  match i with
  | 0 =>
   rw[Array.getElem?_append_left (by simp)]at h1 h2;cases h1;cases h2;exact .inl ⟨rfl,rfl⟩
  | i+1 =>
   rw[Array.getElem?_append_right (by simp)]at h1 h2;exact hm i x x' h1 h2
theorem KY{ι:am}{a a':Value}(h:ao ι a a'):ao ι (.tuple #[a]) (.tuple #[a']):=by
 refine .tuple _ _ rfl (λi x x' h1 h2=>?_)
 match i with
 | 0=>simp at h1 h2;subst h1 h2;exact h
 | i+1=>simp at h1
theorem KZ{ι:am}{a a' b b':Value}(h:ao ι a a')(k:ao ι b b'):ao ι (.tuple #[a,b]) (.tuple #[a',b']):=by
 refine .tuple _ _ rfl (λi x x' h1 h2=>?_)
 match i with
 | 0=>simp at h1 h2;subst h1 h2;exact h
 | 1=>simp at h1 h2;subst h1 h2;exact k
 | i+2=>simp at h1
theorem MO{ι:am}{a a' b b' c c':Value}(h:ao ι a a')(k:ao ι b b')(l:ao ι c c'):ao ι (.tuple #[a,b,c]) (.tuple #[a',b',c']):=by
 refine .tuple _ _ rfl (λi x x' h1 h2=>?_)
 match i with
 | 0=>simp at h1 h2;subst h1 h2;exact h
 | 1=>simp at h1 h2;subst h1 h2;exact k
 | 2=>simp at h1 h2;subst h1 h2;exact l
 | i+3=>simp at h1
theorem DW{P:Program}{base:Nat->Prop}{ι:am}{x x':Value}(str:Bool)(ty:TypeId)(hx:ao ι x x'):aq P base VV ι (Instr.next x str ty) (Instr.next x' str ty):=by
 unfold Instr.next
 dsimp only;cases hx with
 | ptr id off b hb =>
  cases off with
  | succ n=>exact aq.halt
  | zero =>
   refine aq.bnd (R:=λκ (o o':Obj)=>gY P κ id o o') (aq.getObj hb (λo o' ho _=>aq.pure ho)) (λκ2 o o' hle2 ho=>?_);cases o with
   | stringIter s pos =>
    cases ho;cases str with
    | false=>exact aq.halt
    | true =>
     dsimp only
     split
     ·unfold Go.setObj
      exact aq.bnd (R:=λ_ _ _=>True) (aq.setObj (hle2 _ _ hb) rfl (by intro c e f h;cases h) (aq.pure trivial)) (λκ3 _ _ _ _=>aq.ret (MO (.bool true) (.int _ _) (.int _ _)))
     ·exact aq.ret (KY (.bool false))
   | mapIter m since seen last =>
    cases str with
    | true =>
     cases m with
     | none=>exact aq.halt
     | some m=>exact aq.halt
    | false =>
     cases m with
     | none =>
      cases ho;exact aq.ret (KY (.bool false))
     | some m =>
      obtain⟨m',hm,rfl⟩:=ho;dsimp only;refine aq.bnd (R:=λκ (o o':Obj)=>gY P κ m o o') (aq.getObj hm (λo o' ho _=>aq.pure ho)) (λκ3 o o' hle3 ho=>?_);cases o with
      | map es clock =>
       obtain⟨es',rfl,he⟩:=ho;dsimp only;rw[he.isEmpty,he.all (λn=>decide (n≥last))]
       split
       ·exact aq.halt
       ·have hl:=he.filter (λn=>!seen.contains n)
        have ho:=hl.filter (λn=>decide (n<since));have hn:=hl.filter (λn=>decide (n≥since));have hc:=KW.mk ho hn;unfold Go.choose;refine aq.bnd (R:=λ_ n n'=>n=0/\n'=0) (aq.choose (by simp only[Question.forced];rw[hc.1];exact λh=>h) (aq.pure ⟨rfl,rfl⟩)) (λκ4 n n' f6 hnn=>?_);obtain⟨rfl,rfl⟩:=hnn;generalize ((if (Array.filter (λx=>decide (x.born<since)) (Array.filter (λe=>!seen.contains e.born) es)).isEmpty=true then #[none] else #[])++Array.map some (Array.filter (λx=>decide (x.born<since)) (Array.filter (λe=>!seen.contains e.born) es)++Array.filter (λx=>decide (x.born≥since)) (Array.filter (λe=>!seen.contains e.born) es)))=ca at hc ⊢;generalize ((if (Array.filter (λx=>decide (x.born<since)) (Array.filter (λe=>!seen.contains e.born) es')).isEmpty=true then #[none] else #[])++Array.map some (Array.filter (λx=>decide (x.born<since)) (Array.filter (λe=>!seen.contains e.born) es')++Array.filter (λx=>decide (x.born≥since)) (Array.filter (λe=>!seen.contains e.born) es')))=Ol at hc ⊢
        by_cases hlt:0<ca.size
        ·have hlt':0<Ol.size:=by rw[← hc.1];exact hlt
         have e1:ca[0]? = some ca[0]:=Array.getElem?_eq_getElem hlt;have e2:Ol[0]? = some Ol[0]:=Array.getElem?_eq_getElem hlt';rcases hc.2 0 _ _ e1 e2 with ⟨h1,h2⟩ | ⟨e,e',h1,h2,k1,k2,k3⟩
         ·rw[e1,e2,h1,h2]
          exact aq.ret (KY (.bool false))
         ·rw[e1,e2,h1,h2]
          dsimp only;unfold Go.setObj;rw[← k3];refine aq.bnd (R:=λ_ _ _=>True) (aq.setObj (f6 _ _ (hle3 _ _ (hle2 _ _ hb))) ⟨m',f6 _ _ (hle3 _ _ hm),rfl⟩ (by intro c e f h;cases h) (aq.pure trivial)) (λκ5 _ _ nK _=>?_);exact aq.ret (MO (.bool true) ((k1.mono f6).mono nK) ((k2.mono f6).mono nK))
        ·have hlt':¬ 0<Ol.size:=by rw[← hc.1];exact hlt
         rw[Array.getElem?_eq_none (Nat.le_of_not_lt hlt)];exact aq.halt
      | _=>exact aq.halt
   | _=>cases str<;>exact aq.halt
 | _=>exact aq.halt
theorem find_born{ι:am}{es es':Array MapEntry}(h:dT ι es es')(st:Nat) :
  (es.find? (λe=>e.born==st)=none/\es'.find? (λe=>e.born==st)=none)\/∃ e e',es.find? (λe=>e.born==st)=some e/\es'.find? (λe=>e.born==st)=some e'/\ao ι e.key e'.key/\ao ι e.val e'.val:=by
 rw[← Array.find?_toList,← Array.find?_toList];have hl:=h.list;generalize es.toList=l at hl;generalize es'.toList=l' at hl;clear h
 induction l generalizing l' with
 | nil =>
  have:=hl.jH;subst this;exact .inl ⟨rfl,rfl⟩
 | cons e l ih =>
  obtain⟨e',l2,rfl⟩:=hl.cons_right;have h0:=hl.2 0 e e' rfl rfl;simp only[List.find?_cons];rw[← h0.2.2.1]
  split
  ·exact .inr ⟨e,e',rfl,rfl,h0.1,h0.2.1⟩
  ·exact ih l2 hl.tail
theorem Co{P:Program}{base:Nat->Prop}{ι:am}{x x':Value}(hx:ao ι x x'):aq P base VV ι (Instr.entry x) (Instr.entry x'):=by
 unfold Instr.entry;cases hx with
 | ptr id off b hb =>
  cases off with
  | succ n=>exact aq.halt
  | zero =>
   refine aq.bnd (R:=λκ (o o':Obj)=>gY P κ id o o') (aq.getObj hb (λo o' ho _=>aq.pure ho)) (λκ2 o o' hle2 ho=>?_);cases o with
   | mapIter m since seen last =>
    cases m with
    | none=>exact aq.halt
    | some m =>
     obtain⟨m',hm,rfl⟩:=ho;dsimp only;cases hs:seen.back? with
     | none=>exact aq.halt
     | some st =>
      dsimp only;refine aq.bnd (R:=λκ (o o':Obj)=>gY P κ m o o') (aq.getObj hm (λo o' ho _=>aq.pure ho)) (λκ3 o o' hle3 ho=>?_);cases o with
      | map es clock =>
       obtain⟨es',rfl,he⟩:=ho;dsimp only
       split
       ·exact aq.halt
       ·rcases find_born he st with ⟨h1,h2⟩ | ⟨e,e',h1,h2,k1,k2⟩
        ·rw[h1];exact aq.halt
        ·rw[h1,h2];exact aq.ret (KZ k1 k2)
      | _=>exact aq.halt
   | _=>exact aq.halt
 | _=>exact aq.halt
theorem eJ{α β:Type}{P:Program}(m:Sem α)(f:α->Sem β)(h:∀ a s,aw P (f a) s=none)(s:St):aw P (m >>= f) s=none:=by
 show aw P (m.bind f) s=none;rw[l5];cases aw P m s with
 | none=>rfl
 | some x=>exact h _ _
theorem m6{α:Type}{P:Program}(e:RuntimeError)(s:St):aw P (Go.runtimePanic e:Sem α) s=none:=by
 unfold Go.runtimePanic;refine eJ _ _ (λp s=>?_) s;dsimp only;cases e with
 | typeAssertion i c a m=>exact eJ _ _ (λx s=>eJ _ _ (λy s=>rfl) s) s
 | panicNil=>exact eJ _ _ (λx s=>eJ _ _ (λy s=>rfl) s) s
 | _=>rfl
theorem aq.panics{α β:Type}{P:Program}{base:Nat->Prop}{R:am->α->β->Prop}{ι:am}{e:RuntimeError}{m':Sem β} : aq P base R ι (Go.runtimePanic e:Sem α) m':=by
 intro s w a s1 hr ha;rw[m6]at ha;cases ha
theorem qJ{P:Program}{base:Nat->Prop}{ι:am}{x x':Value}(xt zc:TypeId)(ok:Bool)(hz:ok=true->sx P zc=true)(hx:ao ι x x'):aq P base VV ι (Instr.typeAssert x xt zc ok) (Instr.typeAssert x' xt zc ok):=by
  unfold Instr.typeAssert;dsimp only;refine aq.bnd (aM zc) (λκ d d' hle hd=>?_);obtain⟨rfl,h2⟩:=hd;have hx2:=hx.mono hle;have holds:∀ (κ:am) (v v':Value),ao κ v v'->aq P base VV κ (pure (if ok=true then .tuple #[v,.bool true] else v)) (pure (if ok=true then .tuple #[v',.bool true] else v')):=by
    intro κ v v' hv;refine aq.ret ?_;show ao κ (if ok=true then _ else _) (if ok=true then _ else _);cases ok
    · exact hv
    · exact KZ hv (.bool true)
  have fails:∀ (κ:am) (a b:Option TypeId) (m:String),aq P base VV κ
      (if ok=true then do let z ← Go.zeroValue zc;pure (.tuple #[z,.bool false]) else Go.runtimePanic (.typeAssertion a b zc m))
      (if ok=true then do let z ← Go.zeroValue zc;pure (.tuple #[z,.bool false]) else Go.runtimePanic (.typeAssertion a b zc m)):=by
    intro κ a b m
    by_cases h:ok=true
    · rw[if_pos h]
      exact aq.bnd (jz zc (hz h)) (λκ2 v v' _ hv=>aq.ret (by rw[hv.1];exact KZ hv.2 (.bool false)))
    · rw[if_neg h]
      exact aq.panics
  cases hx2 with
  | nilIface=>cases d'<;>exact fails _ _ _ _
  | iface t v v' hv =>
    have sG:aq P base VV κ
        (if t=zc then pure (if ok=true then .tuple #[v,.bool true] else v) else (if ok=true then do let z ← Go.zeroValue zc;pure (.tuple #[z,.bool false]) else Go.runtimePanic (.typeAssertion (some xt) (some t) zc "")))
        (if t=zc then pure (if ok=true then .tuple #[v',.bool true] else v') else (if ok=true then do let z ← Go.zeroValue zc;pure (.tuple #[z,.bool false]) else Go.runtimePanic (.typeAssertion (some xt) (some t) zc ""))):=by
      by_cases e:t=zc
      · rw[if_pos e,if_pos e];exact holds κ v v' hv
      · rw[if_neg e,if_neg e];exact fails _ _ _ _
    cases d' with
    | interface want =>
      dsimp only;refine aq.bnd (ef t) (λκ2 i i' hle2 hi=>?_);rw[hi.1];cases Instr.missingMethod want i.methods with
      | none=>exact holds κ2 _ _ (.iface t v v' (hv.mono hle2))
      | some m=>exact fails _ _ _ _
    | _=>exact sG
  | _=>cases d'<;>exact aq.halt
theorem Cp{P:Program}{base:Nat->Prop}{ι:am}{x x':Value}(hx:ao ι x x'):aq P base (λ_ n n'=>n'=n) ι (Builtin.lenOf x) (Builtin.lenOf x'):=by
 cases hx<;>first | exact aq.ret rfl | exact aq.halt
theorem lx{P:Program}{base:Nat->Prop}{ι:am}{x x':Value}(sz n:Nat)(hx:ao ι x x'):aq P base bN ι (Builtin.firstCells sz n x) (Builtin.firstCells sz n x'):=by
 cases hx with
 | dn=>exact aq.ret (bN.empty ι)
 | slice id off b m c c' h h0 h1 h2 h3=>exact fM _ 0 ι _ _ h (bN.empty ι)
 | dz id off b h h0=>exact fM _ 0 ι _ _ h (bN.empty ι)
 | string s =>
  refine aq.ret (bN.of_flat (λi v h=>?_));rw[Array.getElem?_map,Option.map_eq_some_iff]at h;obtain⟨c,_,rfl⟩:=h;exact .int _ _
 | _=>exact aq.halt
theorem DX{P:Program}{base:Nat->Prop}{ι:am}{d d' x x':Value}(t u ty:TypeId)(hd:ao ι d d')(hx:ao ι x x'):aq P base VV ι (Builtin.copy_ #[t,u] ty #[d,x]) (Builtin.copy_ #[t,u] ty #[d',x']):=by
  unfold Builtin.copy_;simp only[List.getElem?_toArray,List.getElem?_cons_zero,List.getElem?_cons_succ];refine aq.bnd (aM t) (λκ a a' hle ha=>?_);obtain⟨rfl,h2⟩:=ha;cases a' with
  | slice elem =>
    dsimp only;have main:∀ (ba ba':Option Addr) (n:Nat),(ba=none/\ba'=none\/∃ id off b,ba=some ⟨id,off,none⟩/\ba'=some ⟨b,off,none⟩/\κ id=some b)->aq P base VV κ
        (do let l ← Builtin.lenOf x
            let sz ← Go.sizeOf elem
            let cells ← Builtin.firstCells sz (Nat.min l n) x
            (match ba with | some a=>(do Go.storeCells a cells.toList;pure (goInt ↑(Nat.min l n)):Sem Value) | _=>pure (goInt ↑(Nat.min l n))))
        (do let l ← Builtin.lenOf x'
            let sz ← Go.sizeOf elem
            let cells ← Builtin.firstCells sz (Nat.min l n) x'
            (match ba' with | some a=>(do Go.storeCells a cells.toList;pure (goInt ↑(Nat.min l n)):Sem Value) | _=>pure (goInt ↑(Nat.min l n)))):=by
      intro ba ba' n hb;refine aq.bnd (Cp (hx.mono hle)) (λκ2 l l' hle2 hl=>?_);rw[hl];refine aq.bnd (cX elem) (λκ3 sz sz' hle3 hs=>?_);rw[hs];refine aq.bnd (lx sz _ (((hx.mono hle).mono hle2).mono hle3)) (λκ4 c c' f6 hc=>?_);rcases hb with ⟨rfl,rfl⟩ | ⟨id,off,b,rfl,rfl,hb⟩
      · exact aq.ret (.int _ _)
      · exact aq.bnd (iU _ _ 0 κ4 (f6 _ _ (hle3 _ _ (hle2 _ _ hb))) hc.list) (λκ5 _ _ _ _=>aq.ret (.int _ _))
    have hd2:=hd.mono hle;cases hd2 with
    | dn=>exact main none none 0 (.inl ⟨rfl,rfl⟩)
    | slice id off b m c c' h h0 h1 h2 h3=>exact main _ _ m (.inr ⟨id,off,b,rfl,rfl,h⟩)
    | dz id off b h h0=>exact main _ _ 0 (.inr ⟨id,off,b,rfl,rfl,h⟩)
    | _=>exact aq.halt
  | _=>exact aq.halt
end Go.Ev
