/- Part of a proof: see the last text. -/
import Derived.Test.YtimhpaijbbegaaaZw8
namespace Go.Ev
open Go.RowKit
set_option linter.unusedVariables false
set_option linter.unusedSimpArgs false
set_option linter.unusedSectionVars false
variable [Sig]
def ELRel (ι:Ren) (l l':List MapEntry) : Prop :=
 l.length=l'.length∧∀ (i:Nat) (e e':MapEntry),l[i]? = some e→l'[i]? = some e'→VRel ι e.key e'.key∧VRel ι e.val e'.val∧e.born=e'.born∧keyV e.key=true
theorem ERel.list {ι:Ren} {es es':Array MapEntry} (h:ERel ι es es') : ELRel ι es.toList es'.toList:=⟨by simpa using h.1,fun i e e' a b=>h.2 i e e' (by simpa using a) (by simpa using b)⟩
theorem ELRel.arr {ι:Ren} {es es':Array MapEntry} (h:ELRel ι es.toList es'.toList) : ERel ι es es':=⟨by simpa using h.1,fun i e e' a b=>h.2 i e e' (by simpa using a) (by simpa using b)⟩
theorem ELRel.mono {ι κ:Ren} (hk:RLe ι κ) {l l':List MapEntry} (h:ELRel ι l l') : ELRel κ l l':=⟨h.1,fun i e e' a b=>⟨(h.2 i e e' a b).1.mono hk,(h.2 i e e' a b).2.1.mono hk,(h.2 i e e' a b).2.2⟩⟩
theorem ERel.mono {ι κ:Ren} (hk:RLe ι κ) {l l':Array MapEntry} (h:ERel ι l l') : ERel κ l l':=⟨h.1,fun i e e' a b=>⟨(h.2 i e e' a b).1.mono hk,(h.2 i e e' a b).2.1.mono hk,(h.2 i e e' a b).2.2⟩⟩
theorem ELRel.tail {ι:Ren} {e e':MapEntry} {l l':List MapEntry} (h:ELRel ι (e::l) (e'::l')) : ELRel ι l l':=⟨by simpa using h.1,fun i x x' a b=>h.2 (i+1) x x' a b⟩
theorem ELRel.nil_right {ι:Ren} {l':List MapEntry} (h:ELRel ι [] l') : l'=[]:=List.eq_nil_of_length_eq_zero h.1.symm
theorem ELRel.cons_right {ι:Ren} {e:MapEntry} {l l':List MapEntry} (h:ELRel ι (e::l) l') : ∃ e' l2,l'=e'::l2:=by
 cases l' with
 | nil=>cases h.1
 | cons e' l2=>exact ⟨e',l2,rfl⟩
theorem keyV_eq {ι:Ren} {v v':Value} (h:VRel ι v v') (hk:keyV v=true) : v'=v:=by
 cases h <;> first | rfl | cases hk
theorem sameNow_rel {ι:Ren} {d:TypeDesc} {k v v':Value} (h:VRel ι v v') (hv:keyV v=true) : Instr.sameNow d k v'=Instr.sameNow d k v:=by
 rw [keyV_eq h hv]
def FRel (ι:Ren) : Option (Nat×Value)→Option (Nat×Value)→Prop
 | none,none=>True
 | some (i,v),some (i',v')=>i'=i∧VRel ι v v'
 | _,_=>False
theorem findNow_rel {ι:Ren} {d:TypeDesc} {k:Value} (hk:keyV k=true) : ∀ (l l':List MapEntry) (i:Nat),ELRel ι l l' →
  (Instr.findNow d k l i=none∧Instr.findNow d k l' i=none)∨∃ r r',Instr.findNow d k l i=some r∧Instr.findNow d k l' i=some r'∧FRel ι r r' ∧
   ∀ j v,r=some (j,v)→i≤j∧∃ e e',l[j - i]? = some e∧l'[j - i]? = some e'∧Instr.sameNow d k e.key=some true:=by
 intro l
 induction l with
 | nil =>
  intro l' i h
  have:=h.nil_right
  subst this
  exact .inr ⟨none,none,rfl,rfl,trivial,fun j v e=>by cases e⟩
 | cons e l ih =>
  intro l' i h
  obtain ⟨e',l2,rfl⟩:=h.cons_right
  have h0:=h.2 0 e e' rfl rfl
  have hs:=sameNow_rel (d:=d) (k:=k) h0.1 h0.2.2.2
  simp only [Instr.findNow]
  rw [hs]
  cases hn:Instr.sameNow d k e.key with
  | none=>exact .inl ⟨rfl,rfl⟩
  | some b =>
   cases b with
   | true =>
    exact .inr ⟨_,_,rfl,rfl,⟨rfl,h0.2.1⟩,fun j v hj=>by
     cases hj
     exact ⟨Nat.le_refl _,e,e',by simp,by simp,hn⟩⟩
   | false =>
    dsimp only
    rcases ih l2 (i+1) h.tail with ⟨a,b⟩ | ⟨r,r',a,b,c,d⟩
    ·exact .inl ⟨a,b⟩
    ·refine .inr ⟨r,r',a,b,c,fun j v hj=>?_⟩
     obtain ⟨d1,x,x',d2,d3,d4⟩:=d j v hj
     refine ⟨by omega,x,x',?_,?_,d4⟩
     ·rw [show j - i=(j - (i+1))+1 by omega]; exact d2
     ·rw [show j - i=(j - (i+1))+1 by omega]; exact d3
def OpS (P:Program) (base:Nat→Prop) (ι:Ren) (s s1:St) (w:World) (n:Next) (m':Sem Next) : Prop :=
 ∃ (κ:Ren) (n':Next) (w1:World),m'.run P w=.ok n' w1∧Rep P base κ s1.look w1∧(∀ id,(id < 4 * s.next∨4 * s1.next≤id)→κ id=ι id)∧NRel P κ n n'∧Out base w w1
def entriesOf (s:St) : Value→Option (Array MapEntry×Nat)
 | .map (some r)=>(match s.look r with | some (.map es n)=>some (es,n) | _=>none)
 | _=>none
def mapT (P:Program) (t:TypeId) : Option (TypeId×TypeDesc×TypeId) :=
 match P.underlying t with
 | some (.map kt et)=>(match P.underlying kt with | some (.int q)=>some (kt,.int q,et) | some .string=>some (kt,.string,et) | _=>none)
 | _=>none
def aLookup (P:Program) (s:St) (t:TypeId) (m k:Value) (ok:Bool) : Option (Value×St) :=
 match mapT P t,keyV k with
 | some (_,d,et),true =>
  match (match m with | .map none=>some (#[],s) | .map (some r)=>(match entriesOf s m with | some (es,_)=>some (es,s.touch r none false) | none=>none) | _=>none:Option (Array MapEntry×St)) with
  | some (es,s1) =>
   match Instr.findNow d k es.toList 0 with
   | some (some (_,v))=>some (if ok then .tuple #[v,.bool true] else v,s1)
   | some none =>
    match P.info? et with
    | some i=>(match i.zero with | some z=>if flatN 6 z then some (if ok then .tuple #[z,.bool false] else z,s1) else none | none=>none)
    | none=>none
   | none=>none
  | none=>none
 | _,_=>none
theorem mapT_spec {P:Program} {t:TypeId} {kt:TypeId} {d:TypeDesc} {et:TypeId} (h:mapT P t=some (kt,d,et)) : P.underlying t=some (.map kt et)∧P.underlying kt=some d∧(d=.string∨∃ q,d=.int q):=by
 unfold mapT at h
 split at h
 ·rename_i kt' et' hu
  split at h
  ·rename_i q hk
   cases h
   exact ⟨hu,hk,.inr ⟨q,rfl⟩⟩
  ·rename_i hk
   cases h
   exact ⟨hu,hk,.inl rfl⟩
  ·cases h
 ·cases h
theorem run_underlying' {P:Program} {t:TypeId} {d:TypeDesc} (h:P.underlying t=some d) (w:World) : (Go.underlying t).run P w=.ok d w:=by
 unfold Go.underlying
 show (match P.underlying t with | some d=>(Pure.pure d:Sem TypeDesc) | none=>Go.stuck "no such type").run P w=_
 rw [h]
 rfl
theorem run_zeroValue' {P:Program} {t:TypeId} {i:TypeInfo} {z:Value} (h:P.info? t=some i) (hz:i.zero=some z) (w:World) : (Go.zeroValue t).run P w=.ok z w:=by
 unfold Go.zeroValue Go.typeInfo
 show ((match P.info? t with | some i=>(Pure.pure i:Sem TypeInfo) | none=>Go.stuck "no such type") >>= fun i=>match i.zero with | some v=>Pure.pure v | none=>Go.unsupported (.resourceLimit "a value of more than 2^22 cells")).run P w=_
 rw [h]
 show (match i.zero with | some v=>(Pure.pure v:Sem Value) | none=>Go.unsupported (.resourceLimit "a value of more than 2^22 cells")).run P w=_
 rw [hz]
 rfl
theorem run_checkKey1 {P:Program} {kt:TypeId} {d:TypeDesc} {k:Value} {b:Bool} (n:Nat) (h:P.underlying kt=some d) (hd:d=.string∨∃ q,d=.int q) (hk:keyV k=true) (w:World) : (Instr.checkKey b (n+1) kt k).run P w=.ok () w:=by
 unfold Instr.checkKey
 rw [Sem.run_bind,run_underlying' h]
 rcases hd with rfl | ⟨q,rfl⟩
 ·cases k <;> first | (cases hk; done) | rfl
 ·cases k <;> first | (cases hk; done) | rfl
theorem run_checkKey {P:Program} {kt:TypeId} {d:TypeDesc} {k:Value} {b:Bool} (h:P.underlying kt=some d) (hd:d=.string∨∃ q,d=.int q) (hk:keyV k=true) (w:World) : (Instr.checkKey b 10000 kt k).run P w=.ok () w :=
 run_checkKey1 9999 h hd hk w
theorem run_findKey {P:Program} {kt:TypeId} {d:TypeDesc} {k:Value} {es:List MapEntry} {r:Option (Nat×Value)} (h:P.underlying kt=some d) (hf:Instr.findNow d k es 0=some r) (w:World) : (Instr.findKey kt k es).run P w=.ok r w:=by
 unfold Instr.findKey
 rw [Sem.run_bind,run_underlying' h]
 show (match Instr.findNow d k es 0 with | some r=>(Pure.pure r:Sem _) | none=>Instr.findAsking kt k es).run P w=_
 rw [hf]
 rfl
theorem run_getObj' {P:Program} {w:World} {b:Nat} {o:Obj} (h:w.heap[b]? = some o) (hc:∀ c e f,o ≠ .cells c e f) : (Go.getObj b).run P w=.ok o w:=by
 unfold Go.getObj
 simp only [Sem.run,h]
theorem aLookup_sound {P:Program} {base:Nat→Prop} {ι:Ren} {s s1:St} {w:World} {t:TypeId} {m m' k k' v:Value} {ok:Bool} (hr:Rep P base ι s.look w) (hm:VRel ι m m') (hk:VRel ι k k')
  (ha:aLookup P s t m k ok=some (v,s1)) : ∃ v',(Instr.lookup t m' k' ok).run P w=.ok v' w∧VRel ι v v'∧s1.look=s.look∧s1.next=s.next:=by
 unfold aLookup at ha
 split at ha
 ·rename_i kt d et hT hkv
  obtain ⟨hu,hku,hd⟩:=mapT_spec hT
  have hkk:=keyV_eq hk hkv
  subst hkk
  have key:∀ (es es':Array MapEntry) (s2:St),ERel ι es es'→s2.look=s.look→s2.next=s.next →
    (match Instr.findNow d k' es.toList 0 with
     | some (some (_,v))=>some (if ok then .tuple #[v,.bool true] else v,s2)
     | some none =>
      match P.info? et with
      | some i=>(match i.zero with | some z=>if flatN 6 z then some (if ok then .tuple #[z,.bool false] else z,s2) else none | none=>none)
      | none=>none
     | none=>none)=some (v,s1) →
    ∃ v',((do
     Instr.checkKey es'.isEmpty 10000 kt k'
     let (v,ok') ← match ← Instr.findKey kt k' es'.toList with
      | some (_,v)=>pure (v,true)
      | none=>pure (← Go.zeroValue et,false)
     pure (if ok then .tuple #[v,.bool ok'] else v) : Sem Value).run P w=.ok v' w)∧VRel ι v v'∧s1.look=s.look∧s1.next=s.next:=by
   intro es es' s2 he hl hnx hh
   have hf:=findNow_rel (d:=d) hkv es.toList es'.toList 0 he.list
   rcases hf with ⟨f1,f2⟩ | ⟨r,r',f1,f2,f3,_⟩
   ·rw [f1] at hh; cases hh
   ·rw [f1] at hh
    rw [Sem.run_bind,run_checkKey hku hd hkv]
    dsimp only [Result.andThen]
    rw [Sem.run_bind,run_findKey hku f2]
    dsimp only [Result.andThen]
    cases r with
    | none =>
     cases r' with
     | some x=>exact f3.elim
     | none =>
      dsimp only at hh ⊢
      split at hh
      ·rename_i i hi
       split at hh
       ·rename_i z hz
        split at hh
        ·rename_i hfl
         cases hh
         rw [Sem.run_bind,run_zeroValue' hi hz]
         refine ⟨_,rfl,?_,hl,hnx⟩
         have hz':=flat_refl ι 6 z hfl
         cases ok
         ·exact hz'
         ·refine .tuple _ _ rfl (fun i x x' h1 h2=>?_)
          match i with
          | 0=>simp at h1 h2; subst h1 h2; exact hz'
          | 1=>simp at h1 h2; subst h1 h2; exact .bool false
          | i+2=>simp at h1
        ·cases hh
       ·cases hh
      ·cases hh
    | some x =>
     obtain ⟨j,x⟩:=x
     cases r' with
     | none=>exact f3.elim
     | some x' =>
      obtain ⟨j',x'⟩:=x'
      obtain ⟨rfl,hx⟩:=f3
      dsimp only at hh ⊢
      cases hh
      refine ⟨_,rfl,?_,hl,hnx⟩
      cases ok
      ·exact hx
      ·refine .tuple _ _ rfl (fun i y y' h1 h2=>?_)
       match i with
       | 0=>simp at h1 h2; subst h1 h2; exact hx
       | 1=>simp at h1 h2; subst h1 h2; exact .bool true
       | i+2=>simp at h1
  unfold Instr.lookup
  rw [Sem.run_bind,run_underlying' hu]
  dsimp only [Result.andThen]
  cases hm with
  | map0 =>
   dsimp only at ha ⊢
   exact key #[] #[] s ⟨rfl,fun i e e' h=>by simp at h⟩ rfl rfl ha
  | map id b hb =>
   dsimp only [entriesOf] at ha ⊢
   cases hl:s.look id with
   | none=>simp [hl] at ha
   | some o =>
    obtain ⟨b',o',i1,i2,i3,i4⟩:=hr.there id o hl (hr.real hl hb)
    rw [hb] at i1
    cases i1
    cases o with
    | map es n =>
     obtain ⟨es',rfl,he⟩:=i3
     simp only [hl] at ha
     rw [Sem.run_bind,run_getObj' i2 (by intro c e f x; cases x)]
     dsimp only [Result.andThen]
     exact key es es' (s.touch id none false) he rfl rfl ha
    | _=>simp [hl] at ha
  | _=>cases ha
 ·cases ha
theorem sameBits_key {ι:Ren} {old old' k:Value} (h:VRel ι old old') (ho:keyV old=true) : Instr.sameBits 10000 old' k=Instr.sameBits 10000 old k:=by
 rw [keyV_eq h ho]
theorem ERel.push {ι:Ren} {es es':Array MapEntry} {e e':MapEntry} (h:ERel ι es es') (hk:VRel ι e.key e'.key) (hv:VRel ι e.val e'.val) (hb:e.born=e'.born) (hy:keyV e.key=true) : ERel ι (es.push e) (es'.push e'):=by
 refine ⟨by simp [h.1],fun i x x' h1 h2=>?_⟩
 rw [Array.getElem?_push] at h1 h2
 rw [h.1] at h1
 by_cases c:i=es'.size
 ·rw [if_pos c] at h1 h2; cases h1; cases h2; exact ⟨hk,hv,hb,hy⟩
 ·rw [if_neg c] at h1 h2; exact h.2 i x x' h1 h2
theorem ERel.modify {ι:Ren} {es es':Array MapEntry} (h:ERel ι es es') (i:Nat) {k k' v v':Value} (hk:VRel ι k k') (hv:VRel ι v v') (hy:keyV k=true) :
  ERel ι (es.modify i fun e=>{ e with key:=k,val:=v }) (es'.modify i fun e=>{ e with key:=k',val:=v' }):=by
 refine ⟨by simp [h.1],fun j x x' h1 h2=>?_⟩
 rw [Array.getElem?_modify] at h1 h2
 by_cases c:i=j
 ·rw [if_pos c] at h1 h2
  simp only [Option.map_eq_some_iff] at h1 h2
  obtain ⟨y,y1,y2⟩:=h1
  obtain ⟨z,z1,z2⟩:=h2
  subst y2 z2
  exact ⟨hk,hv,(h.2 j y z y1 z1).2.2.1,hy⟩
 ·rw [if_neg c] at h1 h2
  exact h.2 j x x' h1 h2
def aUpdate (P:Program) (s:St) (t:TypeId) (m k v:Value) : Option St :=
 match mapT P t,keyV k,m with
 | some (_,d,_),true,.map (some r) =>
  match s.look r with
  | some (.map es n) =>
   if r < lim then
    match Instr.findNow d k es.toList 0 with
    | some (some (i,_))=>if Instr.sameBits 10000 (((es[i]?).map (·.key)).getD k) k then some ((s.put r (some (.map (es.modify i fun e=>{ e with key:=k,val:=v }) n))).touch r none true) else none
    | some none=>some ((s.put r (some (.map (es.push { key:=k,val:=v,born:=n }) (n+1)))).touch r none true)
    | none=>none
   else none
  | _=>none
 | _,_,_=>none
theorem run_setObj' {P:Program} {w:World} {b:Nat} {o o':Obj} (h:w.heap[b]? = some o) (hc:∀ c e f,o ≠ .cells c e f) : (Go.setObj b o').run P w=.ok () { w with heap:=w.heap.setIfInBounds b o' }:=by
 unfold Go.setObj
 simp only [Sem.run,h]
theorem Rep.setObj {P:Program} {base:Nat→Prop} {ι:Ren} {s:St} {w:World} {id b:Nat} {o o1 o1':Obj} (hr:Rep P base ι s.look w) (hlim:id < lim) (hl:s.look id=some o) (hb:ι id=some b) (ho:ORel P ι id o1 o1') :
  Rep P base ι ((s.put id (some o1)).touch id none true).look { w with heap:=w.heap.setIfInBounds b o1' }∧Out base w { w with heap:=w.heap.setIfInBounds b o1' }:=by
 obtain ⟨b9,o9,g1,g2,g3,g4⟩:=hr.there id o hl (hr.real hl hb)
 rw [hb] at g1
 cases g1
 have hlt:b < w.heap.size:=by
  rcases Nat.lt_or_ge b w.heap.size with g | g
  ·exact g
  ·rw [Array.getElem?_eq_none g] at g2; cases g2
 refine ⟨Rep.put (o:=o) (b:=b) hr hlim hl hb ?_ ho ?_ ?_,⟨rfl,rfl,rfl,by simp,?_⟩⟩
 ·simp [Array.getElem?_setIfInBounds,hlt]
 ·intro j hj
  simp only [Array.getElem?_setIfInBounds]
  rw [if_neg (fun e=>hj e.symm)]
 ·simp
 ·intro j hj
  simp only [Array.getElem?_setIfInBounds]
  rw [if_neg (fun e=>by subst e; exact g4 hj)]
theorem aUpdate_sound {P:Program} {base:Nat→Prop} {ι:Ren} {s s1:St} {w:World} {t:TypeId} {m m' k k' v v':Value} (hr:Rep P base ι s.look w) (hm:VRel ι m m') (hk:VRel ι k k') (hv:VRel ι v v')
  (ha:aUpdate P s t m k v=some s1) : ∃ w1,(Instr.mapUpdate t m' k' v').run P w=.ok () w1∧Rep P base ι s1.look w1∧Out base w w1∧s1.next=s.next:=by
 unfold aUpdate at ha
 split at ha
 ·rename_i kt d et id hT hkv
  obtain ⟨hu,hku,hd⟩:=mapT_spec hT
  have hkk:=keyV_eq hk hkv
  subst hkk
  cases hm with
  | map _ b hb =>
   cases hl:s.look id with
   | none=>simp [hl] at ha
   | some o =>
    obtain ⟨b',o',i1,i2,i3,i4⟩:=hr.there id o hl (hr.real hl hb)
    rw [hb] at i1
    cases i1
    cases o with
    | map es n =>
     obtain ⟨es',rfl,he⟩:=i3
     simp only [hl] at ha
     split at ha
     ·rename_i hlim
      unfold Instr.mapUpdate
      rw [Sem.run_bind,run_underlying' hu]
      dsimp only [Result.andThen]
      rw [Sem.run_bind,run_getObj' i2 (by intro c e f x; cases x)]
      dsimp only [Result.andThen]
      rw [Sem.run_bind,run_checkKey hku hd hkv]
      dsimp only [Result.andThen]
      have hf:=findNow_rel (d:=d) hkv es.toList es'.toList 0 he.list
      rcases hf with ⟨f1,f2⟩ | ⟨r,r',f1,f2,f3,f4⟩
      ·rw [f1] at ha; cases ha
      ·rw [f1] at ha
       rw [Sem.run_bind,run_findKey hku f2]
       dsimp only [Result.andThen]
       cases r with
       | none =>
        cases r' with
        | some x=>exact f3.elim
        | none =>
         dsimp only at ha ⊢
         cases ha
         obtain ⟨g1,g2⟩:=Rep.setObj (o1:=.map (es.push { key:=k',val:=v,born:=n }) (n+1)) (o1':=.map (es'.push { key:=k',val:=v',born:=n }) (n+1)) hr hlim hl hb ⟨_,rfl,he.push hk hv rfl hkv⟩
         exact ⟨_,run_setObj' i2 (by intro c e f x; cases x),g1,g2,rfl⟩
       | some x =>
        obtain ⟨j,x⟩:=x
        cases r' with
        | none=>exact f3.elim
        | some x' =>
         obtain ⟨j',x'⟩:=x'
         obtain ⟨rfl,hx⟩:=f3
         dsimp only at ha ⊢
         split at ha
         ·rename_i hsb
          cases ha
          have hold:VRel ι (((es[j']?).map (·.key)).getD k') (((es'[j']?).map (·.key)).getD k'):=by
           by_cases hlt:j' < es.size
           ·have hlt':j' < es'.size:=by rw [← he.1]; exact hlt
            rw [Array.getElem?_eq_getElem hlt,Array.getElem?_eq_getElem hlt']
            exact (he.2 j' _ _ (Array.getElem?_eq_getElem hlt) (Array.getElem?_eq_getElem hlt')).1
           ·have hlt':¬ j' < es'.size:=by rw [← he.1]; exact hlt
            rw [Array.getElem?_eq_none (Nat.le_of_not_lt hlt),Array.getElem?_eq_none (Nat.le_of_not_lt hlt')]
            exact hk
          have holdk:keyV (((es[j']?).map (·.key)).getD k')=true:=by
           by_cases hlt:j' < es.size
           ·have hlt':j' < es'.size:=by rw [← he.1]; exact hlt
            rw [Array.getElem?_eq_getElem hlt]
            exact (he.2 j' _ _ (Array.getElem?_eq_getElem hlt) (Array.getElem?_eq_getElem hlt')).2.2.2
           ·rw [Array.getElem?_eq_none (Nat.le_of_not_lt hlt)]
            exact hkv
          have hsb':Instr.sameBits 10000 (((es'[j']?).map (·.key)).getD k') k'=true:=by rw [sameBits_key hold holdk]; exact hsb
          have hkt:(Instr.keyThatStays (((es'[j']?).map (·.key)).getD k') k').run P w=.ok k' w:=by
           unfold Instr.keyThatStays
           rw [if_pos hsb']
           rfl
          rw [Sem.run_bind,hkt]
          dsimp only [Result.andThen]
          obtain ⟨g1,g2⟩:=Rep.setObj (o1:=.map (es.modify j' fun e=>{ e with key:=k',val:=v }) n) (o1':=.map (es'.modify j' fun e=>{ e with key:=k',val:=v' }) n) hr hlim hl hb ⟨_,rfl,he.modify j' hk hv hkv⟩
          exact ⟨_,run_setObj' i2 (by intro c e f x; cases x),g1,g2,rfl⟩
         ·cases ha
     ·cases ha
    | _=>simp [hl] at ha
 ·cases ha
def aDelete (P:Program) (s:St) (t:TypeId) (m k:Value) : Option St :=
 match mapT P t,keyV k,m with
 | some (_,d,_),true,.map (some r) =>
  match s.look r with
  | some (.map es n) =>
   if r < lim then
    match Instr.findNow d k es.toList 0 with
    | some (some (i,_))=>some ((s.put r (some (.map (es.eraseIdxIfInBounds i) n))).touch r none true)
    | some none=>some ((s.put r (some (.map es n))).touch r none true)
    | none=>none
   else none
  | _=>none
 | _,_,_=>none
theorem ERel.erase {ι:Ren} {es es':Array MapEntry} (h:ERel ι es es') (i:Nat) : ERel ι (es.eraseIdxIfInBounds i) (es'.eraseIdxIfInBounds i):=by
 unfold Array.eraseIdxIfInBounds
 by_cases hlt:i < es.size
 ·have hlt':i < es'.size:=by rw [← h.1]; exact hlt
  rw [dif_pos hlt,dif_pos hlt']
  refine ⟨by simp [h.1],fun j x x' h1 h2=>?_⟩
  rw [Array.getElem?_eraseIdx] at h1 h2
  split at h1
  ·rename_i c
   rw [if_pos c] at h2
   exact h.2 j x x' h1 h2
  ·rename_i c
   rw [if_neg c] at h2
   exact h.2 (j+1) x x' h1 h2
 ·have hlt':¬ i < es'.size:=by rw [← h.1]; exact hlt
  rw [dif_neg hlt,dif_neg hlt']
  exact h
theorem aDelete_sound {P:Program} {base:Nat→Prop} {ι:Ren} {s s1:St} {w:World} {t ty kk:TypeId} {m m' k k':Value} (hr:Rep P base ι s.look w) (hm:VRel ι m m') (hk:VRel ι k k')
  (ha:aDelete P s t m k=some s1) : ∃ w1,(Builtin.delete_ #[t,kk] ty #[m',k']).run P w=.ok (.tuple #[]) w1∧Rep P base ι s1.look w1∧Out base w w1∧s1.next=s.next:=by
 unfold aDelete at ha
 split at ha
 ·rename_i kt d et id hT hkv
  obtain ⟨hu,hku,hd⟩:=mapT_spec hT
  have hkk:=keyV_eq hk hkv
  subst hkk
  cases hm with
  | map _ b hb =>
   cases hl:s.look id with
   | none=>simp [hl] at ha
   | some o =>
    obtain ⟨b',o',i1,i2,i3,i4⟩:=hr.there id o hl (hr.real hl hb)
    rw [hb] at i1
    cases i1
    cases o with
    | map es n =>
     obtain ⟨es',rfl,he⟩:=i3
     simp only [hl] at ha
     split at ha
     ·rename_i hlim
      unfold Builtin.delete_
      simp only [List.getElem?_toArray,List.getElem?_cons_zero,List.getElem?_cons_succ]
      rw [Sem.run_bind,run_underlying' hu]
      dsimp only [Result.andThen]
      rw [Sem.run_bind,run_getObj' i2 (by intro c e f x; cases x)]
      dsimp only [Result.andThen]
      rw [Sem.run_bind,run_checkKey hku hd hkv]
      dsimp only [Result.andThen]
      have hf:=findNow_rel (d:=d) hkv es.toList es'.toList 0 he.list
      rcases hf with ⟨f1,f2⟩ | ⟨r,r',f1,f2,f3,f4⟩
      ·rw [f1] at ha; cases ha
      ·rw [f1] at ha
       rw [Sem.run_bind,run_findKey hku f2]
       dsimp only [Result.andThen]
       cases r with
       | none =>
        cases r' with
        | some x=>exact f3.elim
        | none =>
         dsimp only at ha ⊢
         cases ha
         obtain ⟨g1,g2⟩:=Rep.setObj (o1:=.map es n) (o1':=.map es' n) hr hlim hl hb ⟨_,rfl,he⟩
         rw [Sem.run_bind,run_setObj' i2 (by intro c e f x; cases x)]
         exact ⟨_,rfl,g1,g2,rfl⟩
       | some x =>
        obtain ⟨j,x⟩:=x
        cases r' with
        | none=>exact f3.elim
        | some x' =>
         obtain ⟨j',x'⟩:=x'
         obtain ⟨rfl,hx⟩:=f3
         dsimp only at ha ⊢
         cases ha
         obtain ⟨g1,g2⟩:=Rep.setObj (o1:=.map (es.eraseIdxIfInBounds j') n) (o1':=.map (es'.eraseIdxIfInBounds j') n) hr hlim hl hb ⟨_,rfl,he.erase j'⟩
         rw [Sem.run_bind,run_setObj' i2 (by intro c e f x; cases x)]
         exact ⟨_,rfl,g1,g2,rfl⟩
     ·cases ha
    | _=>simp [hl] at ha
 ·cases ha
theorem ERel.rekey {ι:Ren} {es es':Array MapEntry} (h:ERel ι es es') (i:Nat) {k k':Value} (hk:VRel ι k k') (hy:keyV k=true) :
  ERel ι (es.modify i fun e=>{ e with key:=k }) (es'.modify i fun e=>{ e with key:=k' }):=by
 refine ⟨by simp [h.1],fun j x x' h1 h2=>?_⟩
 rw [Array.getElem?_modify] at h1 h2
 by_cases c:i=j
 ·rw [if_pos c] at h1 h2
  simp only [Option.map_eq_some_iff] at h1 h2
  obtain ⟨y,y1,y2⟩:=h1
  obtain ⟨z,z1,z2⟩:=h2
  subst y2 z2
  exact ⟨hk,(h.2 j y z y1 z1).2.1,(h.2 j y z y1 z1).2.2.1,hy⟩
 ·rw [if_neg c] at h1 h2
  exact h.2 j x x' h1 h2
theorem ERel.reval {ι:Ren} {es es':Array MapEntry} (h:ERel ι es es') (i:Nat) {v v':Value} (hv:VRel ι v v') :
  ERel ι (es.modify i fun e=>{ e with val:=v }) (es'.modify i fun e=>{ e with val:=v' }):=by
 refine ⟨by simp [h.1],fun j x x' h1 h2=>?_⟩
 rw [Array.getElem?_modify] at h1 h2
 by_cases c:i=j
 ·rw [if_pos c] at h1 h2
  simp only [Option.map_eq_some_iff] at h1 h2
  obtain ⟨y,y1,y2⟩:=h1
  obtain ⟨z,z1,z2⟩:=h2
  subst y2 z2
  exact ⟨(h.2 j y z y1 z1).1,hv,(h.2 j y z y1 z1).2.2⟩
 ·rw [if_neg c] at h1 h2
  exact h.2 j x x' h1 h2
theorem ERel.born {ι:Ren} {es es':Array MapEntry} (h:ERel ι es es') (i:Nat) : goInt (((es'[i]?).map (·.born)).getD 0)=goInt (((es[i]?).map (·.born)).getD 0):=by
 by_cases hlt:i < es.size
 ·have hlt':i < es'.size:=by rw [← h.1]; exact hlt
  rw [Array.getElem?_eq_getElem hlt,Array.getElem?_eq_getElem hlt']
  simp only [Option.map_some,Option.getD_some,(h.2 i _ _ (Array.getElem?_eq_getElem hlt) (Array.getElem?_eq_getElem hlt')).2.2.1]
 ·have hlt':¬ i < es'.size:=by rw [← h.1]; exact hlt
  rw [Array.getElem?_eq_none (Nat.le_of_not_lt hlt),Array.getElem?_eq_none (Nat.le_of_not_lt hlt')]
def aEntry (P:Program) (s:St) (t:TypeId) (m k:Value) : Option (Value×St) :=
 match mapT P t,keyV k,m with
 | some (_,d,et),true,.map (some r) =>
  match s.look r with
  | some (.map es n) =>
   if r < lim then
    match Instr.findNow d k es.toList 0 with
    | some (some (i,v))=>if Instr.sameBits 10000 (((es[i]?).map (·.key)).getD k) k then some (.tuple #[v,goInt (((es[i]?).map (·.born)).getD 0)],(s.put r (some (.map (es.modify i fun e=>{ e with key:=k }) n))).touch r none true) else none
    | some none =>
     match P.info? et with
     | some i=>(match i.zero with | some z=>if flatN 6 z then some (.tuple #[z,goInt n],(s.put r (some (.map (es.push { key:=k,val:=z,born:=n }) (n+1)))).touch r none true) else none | none=>none)
     | none=>none
    | none=>none
   else none
  | _=>none
 | _,_,_=>none
theorem pair_rel {ι:Ren} {v v' u u':Value} (h:VRel ι v v') (k:VRel ι u u') : VRel ι (.tuple #[v,u]) (.tuple #[v',u']):=by
 refine .tuple _ _ rfl (fun i x x' h1 h2=>?_)
 match i with
 | 0=>simp at h1 h2; subst h1 h2; exact h
 | 1=>simp at h1 h2; subst h1 h2; exact k
 | i+2=>simp at h1
theorem aEntry_sound {P:Program} {base:Nat→Prop} {ι:Ren} {s s1:St} {w:World} {t:TypeId} {m m' k k' v:Value} (hr:Rep P base ι s.look w) (hm:VRel ι m m') (hk:VRel ι k k')
  (ha:aEntry P s t m k=some (v,s1)) : ∃ v' w1,(Instr.mapEntry t m' k').run P w=.ok v' w1∧VRel ι v v'∧Rep P base ι s1.look w1∧Out base w w1∧s1.next=s.next:=by
 unfold aEntry at ha
 split at ha
 ·rename_i kt d et id hT hkv
  obtain ⟨hu,hku,hd⟩:=mapT_spec hT
  have hkk:=keyV_eq hk hkv
  subst hkk
  cases hm with
  | map _ b hb =>
   cases hl:s.look id with
   | none=>simp [hl] at ha
   | some o =>
    obtain ⟨b',o',i1,i2,i3,i4⟩:=hr.there id o hl (hr.real hl hb)
    rw [hb] at i1
    cases i1
    cases o with
    | map es n =>
     obtain ⟨es',rfl,he⟩:=i3
     simp only [hl] at ha
     split at ha
     ·rename_i hlim
      unfold Instr.mapEntry
      rw [Sem.run_bind,run_underlying' hu]
      dsimp only [Result.andThen]
      rw [Sem.run_bind,run_getObj' i2 (by intro c e f x; cases x)]
      dsimp only [Result.andThen]
      rw [Sem.run_bind,run_checkKey hku hd hkv]
      dsimp only [Result.andThen]
      have hf:=findNow_rel (d:=d) hkv es.toList es'.toList 0 he.list
      rcases hf with ⟨f1,f2⟩ | ⟨r,r',f1,f2,f3,f4⟩
      ·rw [f1] at ha; cases ha
      ·rw [f1] at ha
       rw [Sem.run_bind,run_findKey hku f2]
       dsimp only [Result.andThen]
       cases r with
       | none =>
        cases r' with
        | some x=>exact f3.elim
        | none =>
         dsimp only at ha ⊢
         split at ha
         ·rename_i ti hti
          split at ha
          ·rename_i z hz
           split at ha
           ·rename_i hfl
            cases ha
            have hzz:=flat_refl ι 6 z hfl
            rw [Sem.run_bind,run_zeroValue' hti hz]
            dsimp only [Result.andThen]
            obtain ⟨g1,g2⟩:=Rep.setObj (o1:=.map (es.push { key:=k',val:=z,born:=n }) (n+1)) (o1':=.map (es'.push { key:=k',val:=z,born:=n }) (n+1)) hr hlim hl hb ⟨_,rfl,he.push hk hzz rfl hkv⟩
            rw [Sem.run_bind,run_setObj' i2 (by intro c e f x; cases x)]
            exact ⟨_,_,rfl,pair_rel hzz (.int _ _),g1,g2,rfl⟩
           ·cases ha
          ·cases ha
         ·cases ha
       | some x =>
        obtain ⟨j,x⟩:=x
        cases r' with
        | none=>exact f3.elim
        | some x' =>
         obtain ⟨j',x'⟩:=x'
         obtain ⟨rfl,hx⟩:=f3
         dsimp only at ha ⊢
         split at ha
         ·rename_i hsb
          cases ha
          have hold:VRel ι (((es[j']?).map (·.key)).getD k') (((es'[j']?).map (·.key)).getD k'):=by
           by_cases hlt:j' < es.size
           ·have hlt':j' < es'.size:=by rw [← he.1]; exact hlt
            rw [Array.getElem?_eq_getElem hlt,Array.getElem?_eq_getElem hlt']
            exact (he.2 j' _ _ (Array.getElem?_eq_getElem hlt) (Array.getElem?_eq_getElem hlt')).1
           ·have hlt':¬ j' < es'.size:=by rw [← he.1]; exact hlt
            rw [Array.getElem?_eq_none (Nat.le_of_not_lt hlt),Array.getElem?_eq_none (Nat.le_of_not_lt hlt')]
            exact hk
          have holdk:keyV (((es[j']?).map (·.key)).getD k')=true:=by
           by_cases hlt:j' < es.size
           ·have hlt':j' < es'.size:=by rw [← he.1]; exact hlt
            rw [Array.getElem?_eq_getElem hlt]
            exact (he.2 j' _ _ (Array.getElem?_eq_getElem hlt) (Array.getElem?_eq_getElem hlt')).2.2.2
           ·rw [Array.getElem?_eq_none (Nat.le_of_not_lt hlt)]
            exact hkv
          have hsb':Instr.sameBits 10000 (((es'[j']?).map (·.key)).getD k') k'=true:=by rw [sameBits_key hold holdk]; exact hsb
          have hkt:(Instr.keyThatStays (((es'[j']?).map (·.key)).getD k') k').run P w=.ok k' w:=by
           unfold Instr.keyThatStays
           rw [if_pos hsb']
           rfl
          rw [Sem.run_bind,hkt]
          dsimp only [Result.andThen]
          obtain ⟨g1,g2⟩:=Rep.setObj (o1:=.map (es.modify j' fun e=>{ e with key:=k' }) n) (o1':=.map (es'.modify j' fun e=>{ e with key:=k' }) n) hr hlim hl hb ⟨_,rfl,he.rekey j' hk hkv⟩
          rw [Sem.run_bind,run_setObj' i2 (by intro c e f x; cases x)]
          refine ⟨_,_,rfl,pair_rel hx ?_,g1,g2,rfl⟩
          rw [he.born j']
          exact .int _ _
         ·cases ha
     ·cases ha
    | _=>simp [hl] at ha
 ·cases ha
def aStamp (s:St) (m st v:Value) : Option St :=
 match m,st with
 | .map (some r),.int _ b =>
  match s.look r with
  | some (.map es n) =>
   if r < lim then
    match es.findIdx? (fun e=>(e.born:Int) == b) with
    | some i=>some ((s.put r (some (.map (es.modify i fun e=>{ e with val:=v }) n))).touch r none true)
    | none=>none
   else none
  | _=>none
 | _,_=>none
theorem ERel.findIdx {ι:Ren} {es es':Array MapEntry} (h:ERel ι es es') (b:Int) : es'.findIdx? (fun e=>(e.born:Int) == b)=es.findIdx? (fun e=>(e.born:Int) == b):=by
 have key:∀ (l l':List MapEntry),ELRel ι l l'→l'.findIdx? (fun e=>(e.born:Int) == b)=l.findIdx? (fun e=>(e.born:Int) == b):=by
  intro l
  induction l with
  | nil=>intro l' hl; rw [hl.nil_right]
  | cons e l ih =>
   intro l' hl
   obtain ⟨e',l2,rfl⟩:=hl.cons_right
   rw [List.findIdx?_cons,List.findIdx?_cons,(hl.2 0 e e' rfl rfl).2.2.1,ih l2 hl.tail]
 have:=key es.toList es'.toList h.list
 rw [← List.findIdx?_toArray,← List.findIdx?_toArray,Array.toArray_toList,Array.toArray_toList] at this
 exact this
theorem aStamp_sound {P:Program} {base:Nat→Prop} {ι:Ren} {s s1:St} {w:World} {t:TypeId} {m m' st st' v v':Value} (hr:Rep P base ι s.look w) (hm:VRel ι m m') (hst:VRel ι st st') (hv:VRel ι v v')
  (ha:aStamp s m st v=some s1) : ∃ w1,(Instr.entryStore t m' st' v').run P w=.ok () w1∧Rep P base ι s1.look w1∧Out base w w1∧s1.next=s.next:=by
 unfold aStamp at ha
 split at ha
 ·rename_i id ik bn
  cases hst
  cases hm with
  | map _ b hb =>
   cases hl:s.look id with
   | none=>simp [hl] at ha
   | some o =>
    obtain ⟨b',o',i1,i2,i3,i4⟩:=hr.there id o hl (hr.real hl hb)
    rw [hb] at i1
    cases i1
    cases o with
    | map es n =>
     obtain ⟨es',rfl,he⟩:=i3
     simp only [hl] at ha
     split at ha
     ·rename_i hlim
      split at ha
      ·rename_i i hi
       cases ha
       unfold Instr.entryStore
       dsimp only
       rw [Sem.run_bind,run_getObj' i2 (by intro c e f x; cases x)]
       dsimp only [Result.andThen]
       rw [Sem.run_bind,show (asInt (Value.int ik bn)).run P w=.ok bn w from rfl]
       dsimp only [Result.andThen]
       rw [he.findIdx,hi]
       dsimp only
       obtain ⟨g1,g2⟩:=Rep.setObj (o1:=.map (es.modify i fun e=>{ e with val:=v }) n) (o1':=.map (es'.modify i fun e=>{ e with val:=v' }) n) hr hlim hl hb ⟨_,rfl,he.reval i hv⟩
       exact ⟨_,run_setObj' i2 (by intro c e f x; cases x),g1,g2,rfl⟩
      ·cases ha
     ·cases ha
    | _=>simp [hl] at ha
 ·cases ha
end Go.Ev
namespace Go.Ev
open Go.RowKit
set_option linter.unusedVariables false
set_option linter.unusedSimpArgs false
set_option linter.unusedSectionVars false
variable [Sig]
theorem sim_newObj {P:Program} {base:Nat→Prop} {ι:Ren} {o o':Obj} (ho:ORel P ι 0 o o') : Sim P base (fun κ id b=>κ id=some b) ι (Go.newObj o) (Go.newObj o'):=by
 unfold Go.newObj
 exact Sim.new ho (fun κ id b _ hb _=>Sim.pure hb)
theorem sim_range {P:Program} {base:Nat→Prop} {ι:Ren} {x x':Value} (t:TypeId) (hx:VRel ι x x') : Sim P base VV ι (Instr.range t x) (Instr.range t x'):=by
  unfold Instr.range
  refine Sim.bnd (sim_underlying t) (fun κ d d' hle hd=>?_)
  obtain ⟨rfl,h2⟩:=hd
  have hx2:=hx.mono hle
  have fin:∀ (κ:Ren) (o o':Obj),ORel P κ 0 o o'→Sim P base VV κ (do pure (Value.pointer (some ⟨← Go.newObj o,0,none⟩))) (do pure (Value.pointer (some ⟨← Go.newObj o',0,none⟩))) :=
    fun κ o o' ho=>Sim.bnd (sim_newObj ho) (fun κ2 id b _ hb=>Sim.ret (.ptr id 0 b hb))
  cases d' with
  | string =>
    cases hx2 with
    | string s=>exact fin κ (.stringIter s 0) (.stringIter s 0) rfl
    | _=>exact Sim.halt
  | map kt et =>
    cases hx2 with
    | map0=>exact fin κ (.mapIter none 0 #[] 0) (.mapIter none 0 #[] 0) rfl
    | map id b hb =>
      dsimp only
      refine Sim.bnd (R:=fun κ (o o':Obj)=>ORel P κ id o o') (Sim.getObj hb (fun o o' ho _=>Sim.pure ho)) (fun κ2 o o' hle2 ho=>?_)
      cases o with
      | map es n =>
        obtain ⟨es',rfl,he⟩:=ho
        exact fin κ2 (.mapIter (some id) n #[] n) (.mapIter (some b) n #[] n) ⟨b,hle2 _ _ hb,rfl⟩
      | _=>exact Sim.halt
    | _=>exact Sim.halt
  | _=>exact Sim.halt
theorem ERel.filter {ι:Ren} {es es':Array MapEntry} (p:Nat→Bool) (h:ERel ι es es') : ERel ι (es.filter fun e=>p e.born) (es'.filter fun e=>p e.born):=by
 apply ELRel.arr
 rw [Array.toList_filter,Array.toList_filter]
 have hl:=h.list
 generalize es.toList=l at hl
 generalize es'.toList=l' at hl
 clear h
 induction l generalizing l' with
 | nil =>
  have:=hl.nil_right
  subst this
  exact ⟨rfl,fun i e e' h=>by simp at h⟩
 | cons e l ih =>
  obtain ⟨e',l2,rfl⟩:=hl.cons_right
  have h0:=hl.2 0 e e' rfl rfl
  have ht:=ih l2 hl.tail
  simp only [List.filter_cons]
  rw [← h0.2.2.1]
  split
  ·refine ⟨by simp [ht.1],fun i x x' a b=>?_⟩
   match i with
   | 0=>simp at a b; subst a b; exact h0
   | i+1=>exact ht.2 i x x' (by simpa using a) (by simpa using b)
  ·exact ht
theorem ERel.all {ι:Ren} {es es':Array MapEntry} (p:Nat→Bool) (h:ERel ι es es') : (es'.all fun e=>p e.born)=(es.all fun e=>p e.born):=by
 rw [← Array.all_toList,← Array.all_toList]
 have hl:=h.list
 generalize es.toList=l at hl
 generalize es'.toList=l' at hl
 clear h
 induction l generalizing l' with
 | nil =>
  have:=hl.nil_right
  subst this
  rfl
 | cons e l ih =>
  obtain ⟨e',l2,rfl⟩:=hl.cons_right
  have h0:=hl.2 0 e e' rfl rfl
  simp only [List.all_cons,ih l2 hl.tail,h0.2.2.1]
theorem ERel.isEmpty {ι:Ren} {es es':Array MapEntry} (h:ERel ι es es') : es'.isEmpty=es.isEmpty:=by
 simp [Array.isEmpty,h.1]
theorem ERel.append {ι:Ren} {a a' b b':Array MapEntry} (h:ERel ι a a') (k:ERel ι b b') : ERel ι (a++b) (a'++b'):=by
 refine ⟨by simp [h.1,k.1],fun i e e' h1 h2=>?_⟩
 rw [Array.getElem?_append] at h1 h2
 rw [h.1] at h1
 split at h1
 ·rename_i c
  rw [if_pos c] at h2
  exact h.2 i e e' h1 h2
 ·rename_i c
  rw [if_neg c] at h2
  exact k.2 _ e e' h1 h2
def CRel (ι:Ren) (a a':Array (Option MapEntry)) : Prop :=
 a.size=a'.size∧∀ (i:Nat) x x',a[i]? = some x→a'[i]? = some x'→(x=none∧x'=none)∨∃ e e':MapEntry,x=some e∧x'=some e'∧VRel ι e.key e'.key∧VRel ι e.val e'.val∧e.born=e'.born
theorem CRel.mk {ι:Ren} {o o' n n':Array MapEntry} (ho:ERel ι o o') (hn:ERel ι n n') :
  CRel ι ((if o.isEmpty=true then #[none] else #[])++(o++n).map some) ((if o'.isEmpty=true then #[none] else #[])++(o'++n').map some):=by
 rw [ho.isEmpty]
 have ha:=ho.append hn
 have hsz:(o++n).size=(o'++n').size:=ha.1
 generalize o.isEmpty=b
 have hm:∀ (i:Nat) x x',((o++n).map some)[i]? = some x→((o'++n').map some)[i]? = some x'→(x=none∧x'=none)∨∃ e e':MapEntry,x=some e∧x'=some e'∧VRel ι e.key e'.key∧VRel ι e.val e'.val∧e.born=e'.born:=by
  intro i x x' h1 h2
  rw [Array.getElem?_map,Option.map_eq_some_iff] at h1 h2
  obtain ⟨e,e1,rfl⟩:=h1
  obtain ⟨e',e1',rfl⟩:=h2
  have hh:=ha.2 _ e e' e1 e1'
  exact .inr ⟨e,e',rfl,rfl,hh.1,hh.2.1,hh.2.2.1⟩
 have hs2:((o++n).map some).size=((o'++n').map some).size:=by rw [Array.size_map,Array.size_map]; exact hsz
 generalize (o++n).map some=A at hm hs2 ⊢
 generalize (o'++n').map some=A' at hm hs2 ⊢
 cases b with
 | false =>
  simp only [Bool.false_eq_true,if_false,Array.empty_append]
  exact ⟨hs2,hm⟩
 | true =>
  simp only [if_true]
  refine ⟨by simp [hs2],fun i x x' h1 h2=>?_⟩
  match i with
  | 0 =>
   rw [Array.getElem?_append_left (by simp)] at h1 h2
   cases h1
   cases h2
   exact .inl ⟨rfl,rfl⟩
  | i+1 =>
   rw [Array.getElem?_append_right (by simp)] at h1 h2
   exact hm i x x' h1 h2
theorem tup1 {ι:Ren} {a a':Value} (h:VRel ι a a') : VRel ι (.tuple #[a]) (.tuple #[a']):=by
 refine .tuple _ _ rfl (fun i x x' h1 h2=>?_)
 match i with
 | 0=>simp at h1 h2; subst h1 h2; exact h
 | i+1=>simp at h1
theorem tup2 {ι:Ren} {a a' b b':Value} (h:VRel ι a a') (k:VRel ι b b') : VRel ι (.tuple #[a,b]) (.tuple #[a',b']):=by
 refine .tuple _ _ rfl (fun i x x' h1 h2=>?_)
 match i with
 | 0=>simp at h1 h2; subst h1 h2; exact h
 | 1=>simp at h1 h2; subst h1 h2; exact k
 | i+2=>simp at h1
theorem tup3 {ι:Ren} {a a' b b' c c':Value} (h:VRel ι a a') (k:VRel ι b b') (l:VRel ι c c') : VRel ι (.tuple #[a,b,c]) (.tuple #[a',b',c']):=by
 refine .tuple _ _ rfl (fun i x x' h1 h2=>?_)
 match i with
 | 0=>simp at h1 h2; subst h1 h2; exact h
 | 1=>simp at h1 h2; subst h1 h2; exact k
 | 2=>simp at h1 h2; subst h1 h2; exact l
 | i+3=>simp at h1
theorem sim_next {P:Program} {base:Nat→Prop} {ι:Ren} {x x':Value} (str:Bool) (ty:TypeId) (hx:VRel ι x x') : Sim P base VV ι (Instr.next x str ty) (Instr.next x' str ty):=by
 unfold Instr.next
 dsimp only
 cases hx with
 | ptr id off b hb =>
  cases off with
  | succ n=>exact Sim.halt
  | zero =>
   refine Sim.bnd (R:=fun κ (o o':Obj)=>ORel P κ id o o') (Sim.getObj hb (fun o o' ho _=>Sim.pure ho)) (fun κ2 o o' hle2 ho=>?_)
   cases o with
   | stringIter s pos =>
    cases ho
    cases str with
    | false=>exact Sim.halt
    | true =>
     dsimp only
     split
     ·unfold Go.setObj
      exact Sim.bnd (R:=fun _ _ _=>True) (Sim.setObj (hle2 _ _ hb) rfl (by intro c e f h; cases h) (Sim.pure trivial)) (fun κ3 _ _ _ _=>Sim.ret (tup3 (.bool true) (.int _ _) (.int _ _)))
     ·exact Sim.ret (tup1 (.bool false))
   | mapIter m since seen last =>
    cases str with
    | true =>
     cases m with
     | none=>exact Sim.halt
     | some m=>exact Sim.halt
    | false =>
     cases m with
     | none =>
      cases ho
      exact Sim.ret (tup1 (.bool false))
     | some m =>
      obtain ⟨m',hm,rfl⟩:=ho
      dsimp only
      refine Sim.bnd (R:=fun κ (o o':Obj)=>ORel P κ m o o') (Sim.getObj hm (fun o o' ho _=>Sim.pure ho)) (fun κ3 o o' hle3 ho=>?_)
      cases o with
      | map es clock =>
       obtain ⟨es',rfl,he⟩:=ho
       dsimp only
       rw [he.isEmpty,he.all (fun n=>decide (n ≥ last))]
       split
       ·exact Sim.halt
       ·have hl:=he.filter (fun n=>!seen.contains n)
        have ho:=hl.filter (fun n=>decide (n < since))
        have hn:=hl.filter (fun n=>decide (n ≥ since))
        have hc:=CRel.mk ho hn
        unfold Go.choose
        refine Sim.bnd (R:=fun _ n n'=>n=0∧n'=0) (Sim.choose (by simp only [Question.forced]; rw [hc.1]; exact fun h=>h) (Sim.pure ⟨rfl,rfl⟩)) (fun κ4 n n' hle4 hnn=>?_)
        obtain ⟨rfl,rfl⟩:=hnn
        generalize ((if (Array.filter (fun x=>decide (x.born < since)) (Array.filter (fun e=>!seen.contains e.born) es)).isEmpty=true then #[none] else #[])++Array.map some (Array.filter (fun x=>decide (x.born < since)) (Array.filter (fun e=>!seen.contains e.born) es)++Array.filter (fun x=>decide (x.born ≥ since)) (Array.filter (fun e=>!seen.contains e.born) es)))=ca at hc ⊢
        generalize ((if (Array.filter (fun x=>decide (x.born < since)) (Array.filter (fun e=>!seen.contains e.born) es')).isEmpty=true then #[none] else #[])++Array.map some (Array.filter (fun x=>decide (x.born < since)) (Array.filter (fun e=>!seen.contains e.born) es')++Array.filter (fun x=>decide (x.born ≥ since)) (Array.filter (fun e=>!seen.contains e.born) es')))=ca' at hc ⊢
        by_cases hlt:0 < ca.size
        ·have hlt':0 < ca'.size:=by rw [← hc.1]; exact hlt
         have e1:ca[0]? = some ca[0]:=Array.getElem?_eq_getElem hlt
         have e2:ca'[0]? = some ca'[0]:=Array.getElem?_eq_getElem hlt'
         rcases hc.2 0 _ _ e1 e2 with ⟨h1,h2⟩ | ⟨e,e',h1,h2,k1,k2,k3⟩
         ·rw [e1,e2,h1,h2]
          exact Sim.ret (tup1 (.bool false))
         ·rw [e1,e2,h1,h2]
          dsimp only
          unfold Go.setObj
          rw [← k3]
          refine Sim.bnd (R:=fun _ _ _=>True) (Sim.setObj (hle4 _ _ (hle3 _ _ (hle2 _ _ hb))) ⟨m',hle4 _ _ (hle3 _ _ hm),rfl⟩ (by intro c e f h; cases h) (Sim.pure trivial)) (fun κ5 _ _ hle5 _=>?_)
          exact Sim.ret (tup3 (.bool true) ((k1.mono hle4).mono hle5) ((k2.mono hle4).mono hle5))
        ·have hlt':¬ 0 < ca'.size:=by rw [← hc.1]; exact hlt
         rw [Array.getElem?_eq_none (Nat.le_of_not_lt hlt)]
         exact Sim.halt
      | _=>exact Sim.halt
   | _=>cases str <;> exact Sim.halt
 | _=>exact Sim.halt
theorem find_born {ι:Ren} {es es':Array MapEntry} (h:ERel ι es es') (st:Nat) :
  (es.find? (fun e=>e.born == st)=none∧es'.find? (fun e=>e.born == st)=none)∨∃ e e',es.find? (fun e=>e.born == st)=some e∧es'.find? (fun e=>e.born == st)=some e'∧VRel ι e.key e'.key∧VRel ι e.val e'.val:=by
 rw [← Array.find?_toList,← Array.find?_toList]
 have hl:=h.list
 generalize es.toList=l at hl
 generalize es'.toList=l' at hl
 clear h
 induction l generalizing l' with
 | nil =>
  have:=hl.nil_right
  subst this
  exact .inl ⟨rfl,rfl⟩
 | cons e l ih =>
  obtain ⟨e',l2,rfl⟩:=hl.cons_right
  have h0:=hl.2 0 e e' rfl rfl
  simp only [List.find?_cons]
  rw [← h0.2.2.1]
  split
  ·exact .inr ⟨e,e',rfl,rfl,h0.1,h0.2.1⟩
  ·exact ih l2 hl.tail
theorem sim_entry {P:Program} {base:Nat→Prop} {ι:Ren} {x x':Value} (hx:VRel ι x x') : Sim P base VV ι (Instr.entry x) (Instr.entry x'):=by
 unfold Instr.entry
 cases hx with
 | ptr id off b hb =>
  cases off with
  | succ n=>exact Sim.halt
  | zero =>
   refine Sim.bnd (R:=fun κ (o o':Obj)=>ORel P κ id o o') (Sim.getObj hb (fun o o' ho _=>Sim.pure ho)) (fun κ2 o o' hle2 ho=>?_)
   cases o with
   | mapIter m since seen last =>
    cases m with
    | none=>exact Sim.halt
    | some m =>
     obtain ⟨m',hm,rfl⟩:=ho
     dsimp only
     cases hs:seen.back? with
     | none=>exact Sim.halt
     | some st =>
      dsimp only
      refine Sim.bnd (R:=fun κ (o o':Obj)=>ORel P κ m o o') (Sim.getObj hm (fun o o' ho _=>Sim.pure ho)) (fun κ3 o o' hle3 ho=>?_)
      cases o with
      | map es clock =>
       obtain ⟨es',rfl,he⟩:=ho
       dsimp only
       split
       ·exact Sim.halt
       ·rcases find_born he st with ⟨h1,h2⟩ | ⟨e,e',h1,h2,k1,k2⟩
        ·rw [h1]; exact Sim.halt
        ·rw [h1,h2]; exact Sim.ret (tup2 k1 k2)
      | _=>exact Sim.halt
   | _=>exact Sim.halt
 | _=>exact Sim.halt
theorem arun_bind_none {α β:Type} {P:Program} (m:Sem α) (f:α→Sem β) (h:∀ a s,arun P (f a) s=none) (s:St) : arun P (m >>= f) s=none:=by
 show arun P (m.bind f) s=none
 rw [arun_bind]
 cases arun P m s with
 | none=>rfl
 | some x=>exact h _ _
theorem arun_panic {α:Type} {P:Program} (e:RuntimeError) (s:St) : arun P (Go.runtimePanic e:Sem α) s=none:=by
 unfold Go.runtimePanic
 refine arun_bind_none _ _ (fun p s=>?_) s
 dsimp only
 cases e with
 | typeAssertion i c a m=>exact arun_bind_none _ _ (fun x s=>arun_bind_none _ _ (fun y s=>rfl) s) s
 | panicNil=>exact arun_bind_none _ _ (fun x s=>arun_bind_none _ _ (fun y s=>rfl) s) s
 | _=>rfl
theorem Sim.panics {α β:Type} {P:Program} {base:Nat→Prop} {R:Ren→α→β→Prop} {ι:Ren} {e:RuntimeError} {m':Sem β} : Sim P base R ι (Go.runtimePanic e:Sem α) m':=by
 intro s w a s1 hr ha
 rw [arun_panic] at ha
 cases ha
theorem sim_typeAssert {P:Program} {base:Nat→Prop} {ι:Ren} {x x':Value} (xt tas:TypeId) (ok:Bool) (hz:ok=true→zOk P tas=true) (hx:VRel ι x x') : Sim P base VV ι (Instr.typeAssert x xt tas ok) (Instr.typeAssert x' xt tas ok):=by
  unfold Instr.typeAssert
  dsimp only
  refine Sim.bnd (sim_underlying tas) (fun κ d d' hle hd=>?_)
  obtain ⟨rfl,h2⟩:=hd
  have hx2:=hx.mono hle
  have holds:∀ (κ:Ren) (v v':Value),VRel κ v v'→Sim P base VV κ (pure (if ok=true then .tuple #[v,.bool true] else v)) (pure (if ok=true then .tuple #[v',.bool true] else v')):=by
    intro κ v v' hv
    refine Sim.ret ?_
    show VRel κ (if ok=true then _ else _) (if ok=true then _ else _)
    cases ok
    · exact hv
    · exact tup2 hv (.bool true)
  have fails:∀ (κ:Ren) (a b:Option TypeId) (m:String),Sim P base VV κ
      (if ok=true then do let z ← Go.zeroValue tas; pure (.tuple #[z,.bool false]) else Go.runtimePanic (.typeAssertion a b tas m))
      (if ok=true then do let z ← Go.zeroValue tas; pure (.tuple #[z,.bool false]) else Go.runtimePanic (.typeAssertion a b tas m)):=by
    intro κ a b m
    by_cases h:ok=true
    · rw [if_pos h]
      exact Sim.bnd (sim_zeroValue tas (hz h)) (fun κ2 v v' _ hv=>Sim.ret (by rw [hv.1]; exact tup2 hv.2 (.bool false)))
    · rw [if_neg h]
      exact Sim.panics
  cases hx2 with
  | nilIface=>cases d' <;> exact fails _ _ _ _
  | iface t v v' hv =>
    have conc:Sim P base VV κ
        (if t=tas then pure (if ok=true then .tuple #[v,.bool true] else v) else (if ok=true then do let z ← Go.zeroValue tas; pure (.tuple #[z,.bool false]) else Go.runtimePanic (.typeAssertion (some xt) (some t) tas "")))
        (if t=tas then pure (if ok=true then .tuple #[v',.bool true] else v') else (if ok=true then do let z ← Go.zeroValue tas; pure (.tuple #[z,.bool false]) else Go.runtimePanic (.typeAssertion (some xt) (some t) tas ""))):=by
      by_cases e:t=tas
      · rw [if_pos e,if_pos e]; exact holds κ v v' hv
      · rw [if_neg e,if_neg e]; exact fails _ _ _ _
    cases d' with
    | interface want =>
      dsimp only
      refine Sim.bnd (sim_typeInfo t) (fun κ2 i i' hle2 hi=>?_)
      rw [hi.1]
      cases Instr.missingMethod want i.methods with
      | none=>exact holds κ2 _ _ (.iface t v v' (hv.mono hle2))
      | some m=>exact fails _ _ _ _
    | _=>exact conc
  | _=>cases d' <;> exact Sim.halt
theorem sim_lenOf {P:Program} {base:Nat→Prop} {ι:Ren} {x x':Value} (hx:VRel ι x x') : Sim P base (fun _ n n'=>n'=n) ι (Builtin.lenOf x) (Builtin.lenOf x'):=by
 cases hx <;> first | exact Sim.ret rfl | exact Sim.halt
theorem sim_firstCells {P:Program} {base:Nat→Prop} {ι:Ren} {x x':Value} (sz n:Nat) (hx:VRel ι x x') : Sim P base ARel ι (Builtin.firstCells sz n x) (Builtin.firstCells sz n x'):=by
 cases hx with
 | slice0=>exact Sim.ret (ARel.empty ι)
 | slice id off b m c c' h h0 h1 h2 h3=>exact sim_loadCellsFrom _ 0 ι _ _ h (ARel.empty ι)
 | sliceE id off b h h0=>exact sim_loadCellsFrom _ 0 ι _ _ h (ARel.empty ι)
 | string s =>
  refine Sim.ret (ARel.of_flat (fun i v h=>?_))
  rw [Array.getElem?_map,Option.map_eq_some_iff] at h
  obtain ⟨c,_,rfl⟩:=h
  exact .int _ _
 | _=>exact Sim.halt
theorem sim_copy {P:Program} {base:Nat→Prop} {ι:Ren} {d d' x x':Value} (t u ty:TypeId) (hd:VRel ι d d') (hx:VRel ι x x') : Sim P base VV ι (Builtin.copy_ #[t,u] ty #[d,x]) (Builtin.copy_ #[t,u] ty #[d',x']):=by
  unfold Builtin.copy_
  simp only [List.getElem?_toArray,List.getElem?_cons_zero,List.getElem?_cons_succ]
  refine Sim.bnd (sim_underlying t) (fun κ a a' hle ha=>?_)
  obtain ⟨rfl,h2⟩:=ha
  cases a' with
  | slice elem =>
    dsimp only
    have main:∀ (ba ba':Option Addr) (n:Nat),(ba=none∧ba'=none∨∃ id off b,ba=some ⟨id,off,none⟩∧ba'=some ⟨b,off,none⟩∧κ id=some b)→Sim P base VV κ
        (do let l ← Builtin.lenOf x
            let sz ← Go.sizeOf elem
            let cells ← Builtin.firstCells sz (Nat.min l n) x
            (match ba with | some a=>(do Go.storeCells a cells.toList; pure (goInt ↑(Nat.min l n)) : Sem Value) | _=>pure (goInt ↑(Nat.min l n))))
        (do let l ← Builtin.lenOf x'
            let sz ← Go.sizeOf elem
            let cells ← Builtin.firstCells sz (Nat.min l n) x'
            (match ba' with | some a=>(do Go.storeCells a cells.toList; pure (goInt ↑(Nat.min l n)) : Sem Value) | _=>pure (goInt ↑(Nat.min l n)))):=by
      intro ba ba' n hb
      refine Sim.bnd (sim_lenOf (hx.mono hle)) (fun κ2 l l' hle2 hl=>?_)
      rw [hl]
      refine Sim.bnd (sim_sizeOf elem) (fun κ3 sz sz' hle3 hs=>?_)
      rw [hs]
      refine Sim.bnd (sim_firstCells sz _ (((hx.mono hle).mono hle2).mono hle3)) (fun κ4 c c' hle4 hc=>?_)
      rcases hb with ⟨rfl,rfl⟩ | ⟨id,off,b,rfl,rfl,hb⟩
      · exact Sim.ret (.int _ _)
      · exact Sim.bnd (sim_storeCells _ _ 0 κ4 (hle4 _ _ (hle3 _ _ (hle2 _ _ hb))) hc.list) (fun κ5 _ _ _ _=>Sim.ret (.int _ _))
    have hd2:=hd.mono hle
    cases hd2 with
    | slice0=>exact main none none 0 (.inl ⟨rfl,rfl⟩)
    | slice id off b m c c' h h0 h1 h2 h3=>exact main _ _ m (.inr ⟨id,off,b,rfl,rfl,h⟩)
    | sliceE id off b h h0=>exact main _ _ 0 (.inr ⟨id,off,b,rfl,rfl,h⟩)
    | _=>exact Sim.halt
  | _=>exact Sim.halt
end Go.Ev
