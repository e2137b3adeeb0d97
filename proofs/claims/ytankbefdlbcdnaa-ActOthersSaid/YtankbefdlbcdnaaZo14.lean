/- Part of a proof: see the last text. -/
import Derived.Test.YtankbefdlbcdnaaZo13
import Derived.KernelRfl
import Derived.Test.YtankbefdlbcdnaaZo12
import Derived.WideKeyEntry
import Derived.Maps.OwnSet
import Derived.Test.YtankbefdlbcdnaaRows
import Derived.Test.YtankbefdlbcdnaaZo10
namespace Go.Ev
open Go.RowKit
set_option linter.unusedVariables false
set_option linter.unusedSimpArgs false
theorem gc_ofDD {k:Kn} {P:Program} {c:Ctx} {f:FuncId} {abs:List Value} {args:Value→List Value} {g g' d1 d2:Nat} {gl lpd:List Asr} {lp:Value→List Asr} {r:Value} {ret:Value→Value} (fs:List (Value→Asr)) (idx rest:List Nat) (hg:k.gs[g]? = some (star (oldX c.W c.X::gl))) (hg':k.gs[g']? = some (star (oldX c.W c.X::(fs.map (atD d1)++sel gl rest)))) (hsel:selB gl.length (idx++rest)=true) (hp:sel gl idx=lpd)
  (hf:∀ (ι:Ren) c,ι d2=some c→lpd.length=(lp (dec c)).length∧∀ (i:Nat) a b ff w,lpd[i]? = some a→(lp (dec c))[i]? = some b→a.p ι ff w→b.p (fun _=>none) ff w)
  (ha:∀ ι l',(letI:Sig:=k.sig; LRel ι abs l')→∃ c,ι d2=some c∧l'=args (dec c)) (hr:∀ (ι:Ren) cd,ι d1=some cd→(letI:Sig:=k.sig; VRel ι r (ret (dec cd))))
  (con:∀ (v:Value) (w:World) (F:Nat→Prop),OldW c.W c.X w→Now (lp v) F w→(∀ j,F j→c.X j∨c.W.heap.size≤j)→Calls P f (args v).toArray w fun e w'=>∃ u cd,dec cd=u∧e=.returned (ret u)∧Hold ⟨w,F⟩ (fs.map (fun f=>f u)) w') : GCTrue k P ⟨f,abs,g,some d1,r,some g'⟩:=by
 letI:Sig:=k.sig
 intro ι args' F w d hl h1 h2 h3 h4
 obtain ⟨cd2,hcd2,e⟩:=ha ι _ hl
 have ea:args'=(args (dec cd2)).toArray:=by rw [← e]
 subst ea
 obtain ⟨b,q1,q2⟩:=h1
 rw [hg] at q1
 cases q1
 obtain rfl:=h4 d1 rfl
 have hd:ι d1=none:=h3.elim id (fun h=>by cases h)
 obtain ⟨Fo,Fg,⟨o1,o2⟩,n1,n2,n3⟩:=now_uncons (l:=gl.map (frz ι)) (now_frz q2 h2)
 obtain ⟨F',s1,s2⟩:=now_sel n1 (idx++rest) (by rw [List.length_map]; exact hsel)
 have hsp:sel (gl.map (frz ι)) (idx++rest)=lpd.map (frz ι)++(sel gl rest).map (frz ι):=by
  rw [sel_map,← hp,← List.map_append]
  unfold sel
  rw [List.map_append]
 rw [hsp] at s1
 obtain ⟨F1,F2,p1,p2,p3,p4⟩:=now_split s1
 obtain ⟨hlen0,hconv⟩:=hf ι cd2 hcd2
 have pl:Now (lp (dec cd2)) F1 w:=now_map p1 (by simp [hlen0]) (fun i a b ff e1 e2 h=>by
  rw [List.getElem?_map] at e1
  cases hb:lpd[i]? with
  | none=>rw [hb] at e1; cases e1
  | some a' =>
   rw [hb] at e1
   cases e1
   exact hconv i a' b ff w hb e2 h)
 have hFg:∀ j,Fg j→c.X j∨c.W.heap.size≤j:=fun j hj=>by
  rcases Nat.lt_or_ge j c.W.heap.size with h | h
  ·exact .inl (Classical.byContradiction fun hx=>n2 j ((o1 j).2 ⟨h,hx⟩) hj)
  ·exact .inr h
 refine (con (dec cd2) w F1 o2 pl (fun j hj=>hFg j (s2 j ((p4 j).2 (.inl hj))))).mono ?_
 rintro e' w' ⟨u,cd,rfl,rfl,hh⟩
 obtain ⟨G,g1,g2,g3⟩:=hh.ex
 have notF1:∀ j,Fo j→¬ F1 j:=fun j ho hf1=>n2 j ho (s2 j ((p4 j).2 (.inl hf1)))
 have kr:Now ((sel gl rest).map (frz ι)) F2 w':=now_keep p2 (fun j hj=>g2.block j (p2.lt j hj) (fun h=>p3 j h hj)) g2.size
 have lt0:∀ j,Fo j→j < w.heap.size:=fun j hj=>h2 j ((n3 j).2 (.inl hj))
 have disG:∀ j,G j→¬ F2 j:=fun j hj hf2=>by
  rcases g3 j hj with h | h
  ·exact p3 j h hf2
  ·have h0:w.heap.size≤j:=h
   have:=p2.lt j hf2
   omega
 have all:=now_cons (a:=oldX c.W c.X) (Fa:=Fo) ⟨o1,fun j hj hx=>(g2.block j (lt0 j ((o1 j).2 ⟨hj,hx⟩)) (notF1 j ((o1 j).2 ⟨hj,hx⟩))).trans (o2 j hj hx)⟩ (now_append g1 kr disG) (fun j hj=>Nat.lt_of_lt_of_le (lt0 j hj) g2.size) (fun j hj hx=>by
  rcases hx with hx | hx
  ·rcases g3 j hx with h | h
   ·exact notF1 j hj h
   ·have h0:w.heap.size≤j:=h
    have:=lt0 j hj
    omega
  ·exact n2 j hj (s2 j ((p4 j).2 (.inr hx))))
 have hup:(ι.upd d1 cd) d1=some cd:=by simp [Ren.upd]
 refine ⟨ret (dec cd),rfl,cd,_,hr _ cd hup,⟨_,hg',star_of all (by simp) (fun i a b ff e1 e2 h=>?_)⟩,⟨g2.os,g2.tape,g2.output,g2.size,fun j hj hn=>g2.block j hj (fun hf=>hn ((n3 j).2 (.inr (s2 j ((p4 j).2 (.inl hf))))))⟩,fun j hj=>⟨all.lt j hj,?_⟩⟩
 ·match i with
  | 0=>cases e1; cases e2; exact h
  | i+1 =>
   rw [List.getElem?_cons_succ] at e1 e2
   rcases Nat.lt_or_ge i fs.length with hi | hi
   ·rw [List.getElem?_append_left (by simpa using hi),List.getElem?_map] at e1 e2
    cases hfi:fs[i]? with
    | none=>rw [hfi] at e1; cases e1
    | some q =>
     rw [hfi] at e1 e2
     cases e1
     cases e2
     exact ⟨cd,hup,(q (dec cd)).mono _ _ ff w' (fun _ _ e=>by cases e) h⟩
   ·rw [List.getElem?_append_right (by simpa using hi),List.getElem?_map] at e1
    rw [List.getElem?_append_right (by simpa using hi)] at e2
    simp only [List.length_map] at e1 e2
    rw [e2] at e1
    cases e1
    exact b.mono ι _ ff w' (Ren.upd_le (b:=cd) hd) h
 ·rcases hj with hj | hj | hj
  ·exact .inl ((n3 j).2 (.inl hj))
  ·rcases g3 j hj with h | h
   ·exact .inl ((n3 j).2 (.inr (s2 j ((p4 j).2 (.inl h)))))
   ·exact .inr h
  ·exact .inl ((n3 j).2 (.inr (s2 j ((p4 j).2 (.inr hj)))))
theorem gc_ofDL {k:Kn} {P:Program} {c:Ctx} {f:FuncId} {abs:List Value} {args:Value→List Value} {g g' d2:Nat} {gl lpd:List Asr} {lp:Value→List Asr} {r rv:Value} (fs:List (Value→Asr)) (idx rest:List Nat) (hg:k.gs[g]? = some (star (oldX c.W c.X::gl))) (hg':k.gs[g']? = some (star (oldX c.W c.X::(fs.map (atD d2)++sel gl rest)))) (hsel:selB gl.length (idx++rest)=true) (hp:sel gl idx=lpd)
  (hf:∀ (ι:Ren) c,ι d2=some c→lpd.length=(lp (dec c)).length∧∀ (i:Nat) a b ff w,lpd[i]? = some a→(lp (dec c))[i]? = some b→a.p ι ff w→b.p (fun _=>none) ff w)
  (ha:∀ ι l',(letI:Sig:=k.sig; LRel ι abs l')→∃ c,ι d2=some c∧l'=args (dec c)) (hr:∀ ι,(letI:Sig:=k.sig; VRel ι r rv))
  (con:∀ (v:Value) (w:World) (F:Nat→Prop),OldW c.W c.X w→Now (lp v) F w→(∀ j,F j→c.X j∨c.W.heap.size≤j)→Calls P f (args v).toArray w fun e w'=>e=.returned rv∧Hold ⟨w,F⟩ (fs.map (fun f=>f v)) w') : GCTrue k P ⟨f,abs,g,none,r,some g'⟩:=by
 letI:Sig:=k.sig
 intro ι args' F w d hl h1 h2 h3 h4
 obtain ⟨cd2,hcd2,e⟩:=ha ι _ hl
 have ea:args'=(args (dec cd2)).toArray:=by rw [← e]
 subst ea
 obtain ⟨b,q1,q2⟩:=h1
 rw [hg] at q1
 cases q1
 have hd:ι d=none:=h3.elim id (fun h=>by cases h)
 obtain ⟨Fo,Fg,⟨o1,o2⟩,n1,n2,n3⟩:=now_uncons (l:=gl.map (frz ι)) (now_frz q2 h2)
 obtain ⟨F',s1,s2⟩:=now_sel n1 (idx++rest) (by rw [List.length_map]; exact hsel)
 have hsp:sel (gl.map (frz ι)) (idx++rest)=lpd.map (frz ι)++(sel gl rest).map (frz ι):=by
  rw [sel_map,← hp,← List.map_append]
  unfold sel
  rw [List.map_append]
 rw [hsp] at s1
 obtain ⟨F1,F2,p1,p2,p3,p4⟩:=now_split s1
 obtain ⟨hlen0,hconv⟩:=hf ι cd2 hcd2
 have pl:Now (lp (dec cd2)) F1 w:=now_map p1 (by simp [hlen0]) (fun i a b ff e1 e2 h=>by
  rw [List.getElem?_map] at e1
  cases hb:lpd[i]? with
  | none=>rw [hb] at e1; cases e1
  | some a' =>
   rw [hb] at e1
   cases e1
   exact hconv i a' b ff w hb e2 h)
 have hFg:∀ j,Fg j→c.X j∨c.W.heap.size≤j:=fun j hj=>by
  rcases Nat.lt_or_ge j c.W.heap.size with h | h
  ·exact .inl (Classical.byContradiction fun hx=>n2 j ((o1 j).2 ⟨h,hx⟩) hj)
  ·exact .inr h
 refine (con (dec cd2) w F1 o2 pl (fun j hj=>hFg j (s2 j ((p4 j).2 (.inl hj))))).mono ?_
 rintro e' w' ⟨rfl,hh⟩
 obtain ⟨G,g1,g2,g3⟩:=hh.ex
 have notF1:∀ j,Fo j→¬ F1 j:=fun j ho hf1=>n2 j ho (s2 j ((p4 j).2 (.inl hf1)))
 have kr:Now ((sel gl rest).map (frz ι)) F2 w':=now_keep p2 (fun j hj=>g2.block j (p2.lt j hj) (fun h=>p3 j h hj)) g2.size
 have lt0:∀ j,Fo j→j < w.heap.size:=fun j hj=>h2 j ((n3 j).2 (.inl hj))
 have disG:∀ j,G j→¬ F2 j:=fun j hj hf2=>by
  rcases g3 j hj with h | h
  ·exact p3 j h hf2
  ·have h0:w.heap.size≤j:=h
   have:=p2.lt j hf2
   omega
 have all:=now_cons (a:=oldX c.W c.X) (Fa:=Fo) ⟨o1,fun j hj hx=>(g2.block j (lt0 j ((o1 j).2 ⟨hj,hx⟩)) (notF1 j ((o1 j).2 ⟨hj,hx⟩))).trans (o2 j hj hx)⟩ (now_append g1 kr disG) (fun j hj=>Nat.lt_of_lt_of_le (lt0 j hj) g2.size) (fun j hj hx=>by
  rcases hx with hx | hx
  ·rcases g3 j hx with h | h
   ·exact notF1 j hj h
   ·have h0:w.heap.size≤j:=h
    have:=lt0 j hj
    omega
  ·exact n2 j hj (s2 j ((p4 j).2 (.inr hx))))
 refine ⟨rv,rfl,0,_,hr _,⟨_,hg',star_of all (by simp) (fun i a b ff e1 e2 h=>?_)⟩,⟨g2.os,g2.tape,g2.output,g2.size,fun j hj hn=>g2.block j hj (fun hf=>hn ((n3 j).2 (.inr (s2 j ((p4 j).2 (.inl hf))))))⟩,fun j hj=>⟨all.lt j hj,?_⟩⟩
 ·match i with
  | 0=>cases e1; cases e2; exact h
  | i+1 =>
   rw [List.getElem?_cons_succ] at e1 e2
   rcases Nat.lt_or_ge i fs.length with hi | hi
   ·rw [List.getElem?_append_left (by simpa using hi),List.getElem?_map] at e1 e2
    cases hfi:fs[i]? with
    | none=>rw [hfi] at e1; cases e1
    | some q =>
     rw [hfi] at e1 e2
     cases e1
     cases e2
     exact ⟨cd2,Ren.upd_le (b:=0) hd _ _ hcd2,(q (dec cd2)).mono _ _ ff w' (fun _ _ e=>by cases e) h⟩
   ·rw [List.getElem?_append_right (by simpa using hi),List.getElem?_map] at e1
    rw [List.getElem?_append_right (by simpa using hi)] at e2
    simp only [List.length_map] at e1 e2
    rw [e2] at e1
    cases e1
    exact b.mono ι _ ff w' (Ren.upd_le (b:=0) hd) h
 ·rcases hj with hj | hj | hj
  ·exact .inl ((n3 j).2 (.inl hj))
  ·rcases g3 j hj with h | h
   ·exact .inl ((n3 j).2 (.inr (s2 j ((p4 j).2 (.inl h)))))
   ·exact .inr h
  ·exact .inl ((n3 j).2 (.inr (s2 j ((p4 j).2 (.inr hj)))))
theorem gc_ofDM {k:Kn} {P:Program} {c:Ctx} {f:FuncId} {abs:List Value} {args:Value→List Value} {g g' d2:Nat} {gl lpd:List Asr} {lp:Value→List Asr} {r rv:Value} (fs:List (Value→Asr)) (lq:List Asr) (idx rest:List Nat) (hg:k.gs[g]? = some (star (oldX c.W c.X::gl))) (hg':k.gs[g']? = some (star (oldX c.W c.X::((fs.map (atD d2)++lq)++sel gl rest)))) (hsel:selB gl.length (idx++rest)=true) (hp:sel gl idx=lpd)
  (hf:∀ (ι:Ren) c,ι d2=some c→lpd.length=(lp (dec c)).length∧∀ (i:Nat) a b ff w,lpd[i]? = some a→(lp (dec c))[i]? = some b→a.p ι ff w→b.p (fun _=>none) ff w)
  (ha:∀ ι l',(letI:Sig:=k.sig; LRel ι abs l')→∃ c,ι d2=some c∧l'=args (dec c)) (hr:∀ ι,(letI:Sig:=k.sig; VRel ι r rv))
  (con:∀ (v:Value) (w:World) (F:Nat→Prop),OldW c.W c.X w→Now (lp v) F w→(∀ j,F j→c.X j∨c.W.heap.size≤j)→Calls P f (args v).toArray w fun e w'=>e=.returned rv∧Hold ⟨w,F⟩ (fs.map (fun f=>f v)++lq) w') : GCTrue k P ⟨f,abs,g,none,r,some g'⟩:=by
 letI:Sig:=k.sig
 intro ι args' F w d hl h1 h2 h3 h4
 obtain ⟨cd2,hcd2,e⟩:=ha ι _ hl
 have ea:args'=(args (dec cd2)).toArray:=by rw [← e]
 subst ea
 obtain ⟨b,q1,q2⟩:=h1
 rw [hg] at q1
 cases q1
 have hd:ι d=none:=h3.elim id (fun h=>by cases h)
 obtain ⟨Fo,Fg,⟨o1,o2⟩,n1,n2,n3⟩:=now_uncons (l:=gl.map (frz ι)) (now_frz q2 h2)
 obtain ⟨F',s1,s2⟩:=now_sel n1 (idx++rest) (by rw [List.length_map]; exact hsel)
 have hsp:sel (gl.map (frz ι)) (idx++rest)=lpd.map (frz ι)++(sel gl rest).map (frz ι):=by
  rw [sel_map,← hp,← List.map_append]
  unfold sel
  rw [List.map_append]
 rw [hsp] at s1
 obtain ⟨F1,F2,p1,p2,p3,p4⟩:=now_split s1
 obtain ⟨hlen0,hconv⟩:=hf ι cd2 hcd2
 have pl:Now (lp (dec cd2)) F1 w:=now_map p1 (by simp [hlen0]) (fun i a b ff e1 e2 h=>by
  rw [List.getElem?_map] at e1
  cases hb:lpd[i]? with
  | none=>rw [hb] at e1; cases e1
  | some a' =>
   rw [hb] at e1
   cases e1
   exact hconv i a' b ff w hb e2 h)
 have hFg:∀ j,Fg j→c.X j∨c.W.heap.size≤j:=fun j hj=>by
  rcases Nat.lt_or_ge j c.W.heap.size with h | h
  ·exact .inl (Classical.byContradiction fun hx=>n2 j ((o1 j).2 ⟨h,hx⟩) hj)
  ·exact .inr h
 refine (con (dec cd2) w F1 o2 pl (fun j hj=>hFg j (s2 j ((p4 j).2 (.inl hj))))).mono ?_
 rintro e' w' ⟨rfl,hh⟩
 obtain ⟨G,g1,g2,g3⟩:=hh.ex
 have notF1:∀ j,Fo j→¬ F1 j:=fun j ho hf1=>n2 j ho (s2 j ((p4 j).2 (.inl hf1)))
 have kr:Now ((sel gl rest).map (frz ι)) F2 w':=now_keep p2 (fun j hj=>g2.block j (p2.lt j hj) (fun h=>p3 j h hj)) g2.size
 have lt0:∀ j,Fo j→j < w.heap.size:=fun j hj=>h2 j ((n3 j).2 (.inl hj))
 have disG:∀ j,G j→¬ F2 j:=fun j hj hf2=>by
  rcases g3 j hj with h | h
  ·exact p3 j h hf2
  ·have h0:w.heap.size≤j:=h
   have:=p2.lt j hf2
   omega
 have all:=now_cons (a:=oldX c.W c.X) (Fa:=Fo) ⟨o1,fun j hj hx=>(g2.block j (lt0 j ((o1 j).2 ⟨hj,hx⟩)) (notF1 j ((o1 j).2 ⟨hj,hx⟩))).trans (o2 j hj hx)⟩ (now_append g1 kr disG) (fun j hj=>Nat.lt_of_lt_of_le (lt0 j hj) g2.size) (fun j hj hx=>by
  rcases hx with hx | hx
  ·rcases g3 j hx with h | h
   ·exact notF1 j hj h
   ·have h0:w.heap.size≤j:=h
    have:=lt0 j hj
    omega
  ·exact n2 j hj (s2 j ((p4 j).2 (.inr hx))))
 refine ⟨rv,rfl,0,_,hr _,⟨_,hg',star_of all (by simp) (fun i a b ff e1 e2 h=>?_)⟩,⟨g2.os,g2.tape,g2.output,g2.size,fun j hj hn=>g2.block j hj (fun hf=>hn ((n3 j).2 (.inr (s2 j ((p4 j).2 (.inl hf))))))⟩,fun j hj=>⟨all.lt j hj,?_⟩⟩
 ·match i with
  | 0=>cases e1; cases e2; exact h
  | i+1 =>
   rw [List.getElem?_cons_succ] at e1 e2
   rcases Nat.lt_or_ge i (fs.length+lq.length) with hi | hi
   ·rw [List.getElem?_append_left (by simpa using hi)] at e1 e2
    rcases Nat.lt_or_ge i fs.length with hi2 | hi2
    ·rw [List.getElem?_append_left (by simpa using hi2),List.getElem?_map] at e1 e2
     cases hfi:fs[i]? with
     | none=>rw [hfi] at e1; cases e1
     | some q =>
      rw [hfi] at e1 e2
      cases e1
      cases e2
      exact ⟨cd2,Ren.upd_le (b:=0) hd _ _ hcd2,(q (dec cd2)).mono _ _ ff w' (fun _ _ e=>by cases e) h⟩
    ·rw [List.getElem?_append_right (by simpa using hi2)] at e1 e2
     simp only [List.length_map] at e1 e2
     rw [e1] at e2
     cases e2
     exact a.mono _ _ ff w' (fun _ _ e=>by cases e) h
   ·rw [List.getElem?_append_right (by simpa using hi),List.getElem?_map] at e1
    rw [List.getElem?_append_right (by simpa using hi)] at e2
    simp only [List.length_append,List.length_map] at e1 e2
    rw [e2] at e1
    cases e1
    exact b.mono ι _ ff w' (Ren.upd_le (b:=0) hd) h
 ·rcases hj with hj | hj | hj
  ·exact .inl ((n3 j).2 (.inl hj))
  ·rcases g3 j hj with h | h
   ·exact .inl ((n3 j).2 (.inr (s2 j ((p4 j).2 (.inl h)))))
   ·exact .inr h
  ·exact .inl ((n3 j).2 (.inr (s2 j ((p4 j).2 (.inr hj)))))
theorem gc_dynM {k:Kn} {P:Program} {c:Ctx} {f:FuncId} {abs args:List Value} {g g' d1:Nat} {gl lp:List Asr} {r:Value} {ret:Value→Value} (fs:List (Value→Asr)) (lq:List Asr) (idx rest:List Nat) (hg:k.gs[g]? = some (star (oldX c.W c.X::gl))) (hg':k.gs[g']? = some (star (oldX c.W c.X::((fs.map (atD d1)++lq)++sel gl rest)))) (hsel:selB gl.length (idx++rest)=true) (hp:sel gl idx=lp) (hf:Flats lp)
  (ha:∀ ι l',(letI:Sig:=k.sig; LRel ι abs l')→l'=args) (hr:∀ (ι:Ren) cd,ι d1=some cd→(letI:Sig:=k.sig; VRel ι r (ret (dec cd))))
  (con:∀ (w:World) (F:Nat→Prop),OldW c.W c.X w→Now lp F w→(∀ j,F j→c.X j∨c.W.heap.size≤j)→Calls P f args.toArray w fun e w'=>∃ v cd,dec cd=v∧e=.returned (ret v)∧Hold ⟨w,F⟩ (fs.map (fun f=>f v)++lq) w') : GCTrue k P ⟨f,abs,g,some d1,r,some g'⟩:=by
 refine gc_dyn (lq:=fun v=>fs.map (fun f=>f v)++lq) idx rest hg hg' hsel hp hf ha hr (fun ι cd w' hi=>⟨by simp,fun i a b ff h1 h2 h=>?_⟩) con
 rcases Nat.lt_or_ge i fs.length with h0 | h0
 ·rw [List.getElem?_append_left (by simpa using h0),List.getElem?_map] at h1 h2
  cases hfi:fs[i]? with
  | none=>rw [hfi] at h1; cases h1
  | some q =>
   rw [hfi] at h1 h2
   cases h1
   cases h2
   exact ⟨cd,hi,(q (dec cd)).mono _ _ ff w' (fun _ _ e=>by cases e) h⟩
 ·rw [List.getElem?_append_right (by simpa using h0)] at h1 h2
  simp only [List.length_map] at h1 h2
  rw [h1] at h2
  cases h2
  exact a.mono _ _ ff w' (fun _ _ e=>by cases e) h
theorem Pie.as {P:Program} {f:FuncId} {p:List Nat} {i k N:Nat} {c:Ctx} {tm tm2:List (Nat×Value)} {l l2:List Asr} {ex:Exit} {α:Type} {tm' tm2':α→List (Nat×Value)} {l':α→List Asr} (h:Pie P f p i k N c tm l ex tm' l') (e1:tm=tm2) (e2:l=l2) (e3:tm'=tm2') : Pie P f p i k N c tm2 l2 ex tm2' l':=by
 subst e1 e2 e3
 exact h
end Go.Ev
namespace Go.Ev
open Go.RowKit
set_option linter.unusedVariables false
set_option linter.unusedSimpArgs false
abbrev iz (n:Int) : Value:=.int .i64 n
abbrev uz (n:Int) : Value:=.int .u64 n
abbrev wz (n:Int) : Value:=.int .u32 n
abbrev iN (n:Nat) : Value:=.int .i64 (n:Int)
abbrev uN (n:Nat) : Value:=.int .u64 (n:Int)
abbrev wN (n:Nat) : Value:=.int .u32 (n:Int)
abbrev pz (b:Nat) : Value:=.pointer (some ⟨b,0,none⟩)
abbrev dv (κ:Ren) (n:Nat) : Value:=dec ((κ n).getD 0)
theorem fc {α:Type} {p:α→Prop} {a:α} {l:List α} (h:p a) (t:∀ x ∈ l,p x) : ∀ x ∈ a::l,p x:=List.forall_mem_cons.2 ⟨h,t⟩
theorem fn {α:Type} {p:α→Prop} : ∀ x ∈ ([] : List α),p x:=List.forall_mem_nil p
def vg:List Value→Nat→Value
 | [],_=>.int .i64 0
 | a::_,0=>a
 | _::l,n+1=>vg l n
theorem vg_leaf:∀ {l:List Value},(∀ x ∈ l,leafV x=true)→∀ n,leafV (vg l n)=true
 | [],_,n=>rfl
 | a::l,h,0=>h a (List.mem_cons_self ..)
 | a::l,h,n+1=>vg_leaf (fun x hx=>h x (List.mem_cons_of_mem _ hx)) n
abbrev kn (vs:List Value) (lf:∀ x ∈ vs,leafV x=true) (bs:List BFact) (us:List UFact) (cs:List CFact) (hb:∀ q ∈ bs,BTrue (vg vs) q) (hu:∀ q ∈ us,UTrue (vg vs) q) (hc:∀ q ∈ cs,CTrue (vg vs) q) (W:World) (X:Nat→Prop) (gs:List (List Asr)) (ops:List GRow) (cls:List GCRow) : Kn :=
 ⟨vg vs,vg_leaf lf,bs,us,cs,[],hb,hu,hc,gs.map (fun l=>star (oldX W X::l)),ops,cls⟩
noncomputable def knD (d:Option Nat) : Nat→Value→Bool
 | 0,_=>false
 | n+1,v=>match v with
  | .agg f=>f.toList.all (knD d n)
  | .tuple f=>f.toList.all (knD d n)
  | .iface _ v=>knD d n v
  | .complex .f64 _ _=>true
  | .complex .f32 e 0=>(match d with | some d=>Nat.beq d e | none=>false)
  | .complex .f32 e (_+2)=>(match d with | some d=>Nat.beq d e | none=>false)
  | .bool _ | .int _ _ | .string _=>true
  | .pointer none | .slice none 0 0 | .map none=>true
  | _=>false
def cvG [Sig] (cd:Nat) : Nat→Value→Value
 | 0,v=>v
 | n+1,v=>match v with
  | .agg f=>.agg (f.toList.map (cvG cd n)).toArray
  | .tuple f=>.tuple (f.toList.map (cvG cd n)).toArray
  | .iface t v=>.iface t (cvG cd n v)
  | .complex .f64 s _=>Sig.val s
  | .complex .f32 _ 0=>dec cd
  | .complex .f32 _ (j+2)=>subV j (dec cd)
  | v=>v
theorem rel_arr [Sig] {ι:Ren} {d:Option Nat} {cd n:Nat} {f:Array Value} (hk:f.toList.all (knD d n)=true) (ih:∀ v,knD d n v=true→VRel ι v (cvG cd n v)) : f.size=(f.toList.map (cvG cd n)).toArray.size∧∀ (i:Nat) (v v':Value),f[i]? = some v→(f.toList.map (cvG cd n)).toArray[i]? = some v'→VRel ι v v':=by
 rw [List.all_eq_true] at hk
 refine ⟨by simp,fun i v v' h1 h2=>?_⟩
 have h3:v'=cvG cd n v:=by
  have h1':f.toList[i]? = some v:=by simpa using h1
  simp only [List.getElem?_toArray,List.getElem?_map,h1',Option.map_some,Option.some.injEq] at h2
  exact h2.symm
 rw [h3]
 exact ih v (hk v (by rw [Array.mem_toList_iff]; exact Array.mem_of_getElem? h1))
theorem rel_kn [Sig] {ι:Ren} {d:Option Nat} {cd:Nat} (hd:∀ e,d=some e→ι e=some cd) : ∀ (n:Nat) (v:Value),knD d n v=true→VRel ι v (cvG cd n v):=by
 intro n
 induction n with
 | zero=>exact fun v h=>by cases h
 | succ n ih =>
  intro v h
  match v,h with
  | .agg f,h=>exact .agg _ _ (rel_arr h ih).1 (rel_arr h ih).2
  | .tuple f,h=>exact .tuple _ _ (rel_arr h ih).1 (rel_arr h ih).2
  | .iface t v,h=>exact .iface t _ _ (ih v h)
  | .complex .f64 s j,h=>exact .sym s j _ rfl
  | .complex .f32 e 0,h =>
   cases hdd:d with
   | none=>rw [hdd] at h; cases h
   | some x =>
    rw [hdd] at h
    have he:x=e:=Nat.eq_of_beq_eq_true h
    exact .dyn e cd _ (hd e (by rw [hdd,he])) rfl
  | .complex .f32 e 1,h=>cases h
  | .complex .f32 e (j+2),h =>
   cases hdd:d with
   | none=>rw [hdd] at h; cases h
   | some x =>
    rw [hdd] at h
    have he:x=e:=Nat.eq_of_beq_eq_true h
    exact .dyn3 e cd j _ (hd e (by rw [hdd,he])) rfl
  | .bool b,h=>exact .bool b
  | .int k m,h=>exact .int k m
  | .string s,h=>exact .string s
  | .pointer none,h=>exact .ptr0
  | .slice none 0 0,h=>exact .slice0
  | .map none,h=>exact .map0
theorem cv_arr [Sig] {ι:Ren} {n:Nat} {f f':Array Value} (hf:f.size=f'.size) (h:∀ (i:Nat) (v v':Value),f[i]? = some v→f'[i]? = some v'→VRel ι v v') (hk:f.toList.all (knD none n)=true) (ih:∀ v v',knD none n v=true→VRel ι v v'→v'=cvG 0 n v) : f'=(f.toList.map (cvG 0 n)).toArray:=by
 rw [List.all_eq_true] at hk
 apply Array.ext (by simp [hf])
 intro i h1 h2
 have h3:i < f.size:=by rw [hf]; exact h1
 rw [ih f[i] f'[i] (hk _ (by simp)) (h i _ _ (Array.getElem?_eq_getElem h3) (Array.getElem?_eq_getElem h1))]
 simp
theorem cv_kn [Sig] {ι:Ren} : ∀ (n:Nat) (v v':Value),knD none n v=true→VRel ι v v'→v'=cvG 0 n v:=by
 intro n
 induction n with
 | zero=>exact fun v v' h=>by cases h
 | succ n ih =>
  intro v v' hk h
  cases h with
  | agg f f' hf hr=>exact congrArg Value.agg (cv_arr hf hr hk ih)
  | tuple f f' hf hr=>exact congrArg Value.tuple (cv_arr hf hr hk ih)
  | iface t v v' hr=>exact congrArg (Value.iface t) (ih _ _ hk hr)
  | sym m j _ h=>exact h.symm
  | dyn id c _ h h'=>cases hk
  | dyn3 id c j _ h h'=>cases hk
  | junk m _ h=>cases hk
  | bool=>rfl
  | int=>rfl
  | string=>rfl
  | ptr0=>rfl
  | slice0=>rfl
  | map0=>rfl
  | _=>cases hk
theorem ak {k:Kn} {abs args:List Value} (h:abs.all (knD none 5)=true) (e:abs.map (@cvG k.sig 0 5)=args) : ∀ ι l',(letI:Sig:=k.sig; LRel ι abs l')→l'=args:=by
 letI:Sig:=k.sig
 intro ι l' hl
 rw [← e]
 rw [List.all_eq_true] at h
 apply List.ext_getElem (by rw [List.length_map]; exact hl.1.symm)
 intro i h1 h2
 have h3:i < abs.length:=by simpa using h2
 rw [List.getElem_map]
 exact cv_kn 5 _ _ (h _ (List.getElem_mem h3)) (hl.2 i _ _ (List.getElem?_eq_getElem h3) (List.getElem?_eq_getElem h1))
theorem vk {k:Kn} {ι:Ren} {r rv:Value} (h:knD none 5 r=true) (e:@cvG k.sig 0 5 r=rv) : letI:Sig:=k.sig; VRel ι r rv:=by
 letI:Sig:=k.sig
 rw [← e]
 exact rel_kn (d:=none) (fun _ h=>by cases h) 5 r h
theorem vd {k:Kn} {ι:Ren} {d cd:Nat} {r rv:Value} (hd:ι d=some cd) (h:knD (some d) 5 r=true) (e:@cvG k.sig cd 5 r=rv) : letI:Sig:=k.sig; VRel ι r rv:=by
 letI:Sig:=k.sig
 rw [← e]
 exact rel_kn (d:=some d) (fun _ h=>by cases h; exact hd) 5 r h
end Go.Ev
namespace Go.Ev
open Go.RowKit
set_option linter.unusedVariables false
set_option linter.unusedSimpArgs false
theorem fr {l:List Value} (h:l.all leafV=true:=by kernel_rfl) : ∀ x ∈ l,leafV x=true:=fun x hx=>List.all_eq_true.1 h x hx
section
variable {vs:List Value} {lf:∀ x ∈ vs,leafV x=true} {bs:List BFact} {us:List UFact} {cs:List CFact} {hb:∀ q ∈ bs,BTrue (vg vs) q} {hu:∀ q ∈ us,UTrue (vg vs) q} {hc:∀ q ∈ cs,CTrue (vg vs) q} {W:World} {X:Nat→Prop} {gs:List (List Asr)} {ops:List GRow} {cls:List GCRow} {P:Program} {f:FuncId} {abs args:List Value} {g g' d1:Nat} {gl:List Asr} {r rv:Value} {ret:Value→Value}
theorem kn_gs {gl:List Asr} {g:Nat} (h:gs[g]? = some gl) : (kn vs lf bs us cs hb hu hc W X gs ops cls).gs[g]? = some (star (oldX W X::gl)):=by
 show (gs.map (fun l=>star (oldX W X::l)))[g]? = _
 rw [List.getElem?_map,h]
 rfl
theorem pc (hg:gs[g]? = some gl) (con:∀ w,OldW W X w→Calls P f args.toArray w fun e w'=>e=.returned rv∧Below w.heap.size w w') (h:(abs.all (knD none 5) && knD none 5 r)=true:=by kernel_rfl) (e1:abs.map (@cvG (kn vs lf bs us cs hb hu hc W X gs ops cls).sig 0 5)=args:=by kernel_rfl) (e2:@cvG (kn vs lf bs us cs hb hu hc W X gs ops cls).sig 0 5 r=rv:=by kernel_rfl) : GCTrue (kn vs lf bs us cs hb hu hc W X gs ops cls) P ⟨f,abs,g,none,r,none⟩:=by
 rw [Bool.and_eq_true] at h
 exact ro_callR (ci:=0) (kn_gs hg) rfl con (fun ι=>vk h.2 e2) (ak h.1 e1)
theorem cc (hg:gs[g]? = some gl) (lq:List Asr) (idx rest:List Nat) (con:∀ (w:World) (F:Nat→Prop),OldW W X w→Now (sel gl idx) F w→(∀ j,F j→X j∨W.heap.size≤j)→Calls P f args.toArray w fun e w'=>e=.returned rv∧Hold ⟨w,F⟩ lq w') (hg':gs[g']? = some (lq++sel gl rest):=by rfl) (hsel:selB gl.length (idx++rest)=true:=by kernel_rfl) (hf:Flats (sel gl idx):=by first | exact trivial | exact ⟨fun _ _ _ _ h=>h,trivial⟩ | exact ⟨fun _ _ _ _ h=>h,fun _ _ _ _ h=>h,trivial⟩ | exact ⟨fun _ _ _ _ h=>h,fun _ _ _ _ h=>h,fun _ _ _ _ h=>h,trivial⟩)
  (h:(abs.all (knD none 5) && knD none 5 r)=true:=by kernel_rfl) (e1:abs.map (@cvG (kn vs lf bs us cs hb hu hc W X gs ops cls).sig 0 5)=args:=by kernel_rfl) (e2:@cvG (kn vs lf bs us cs hb hu hc W X gs ops cls).sig 0 5 r=rv:=by kernel_rfl) : GCTrue (kn vs lf bs us cs hb hu hc W X gs ops cls) P ⟨f,abs,g,none,r,some g'⟩:=by
 rw [Bool.and_eq_true] at h
 exact gc_con (c:=⟨W,X⟩) idx rest (kn_gs hg) (kn_gs hg') hsel rfl hf (ak h.1 e1) (fun ι=>vk h.2 e2) con
theorem cr (hg:gs[g]? = some gl) (idx:List Nat) (con:∀ (w:World) (F:Nat→Prop),OldW W X w→Now (sel gl idx) F w→Calls P f args.toArray w fun e w'=>e=.returned rv∧Below w.heap.size w w') (hsel:selB gl.length idx=true:=by kernel_rfl) (hf:Flats (sel gl idx):=by first | exact trivial | exact ⟨fun _ _ _ _ h=>h,trivial⟩ | exact ⟨fun _ _ _ _ h=>h,fun _ _ _ _ h=>h,trivial⟩ | exact ⟨fun _ _ _ _ h=>h,fun _ _ _ _ h=>h,fun _ _ _ _ h=>h,trivial⟩)
  (h:(abs.all (knD none 5) && knD none 5 r)=true:=by kernel_rfl) (e1:abs.map (@cvG (kn vs lf bs us cs hb hu hc W X gs ops cls).sig 0 5)=args:=by kernel_rfl) (e2:@cvG (kn vs lf bs us cs hb hu hc W X gs ops cls).sig 0 5 r=rv:=by kernel_rfl) : GCTrue (kn vs lf bs us cs hb hu hc W X gs ops cls) P ⟨f,abs,g,none,r,none⟩:=by
 rw [Bool.and_eq_true] at h
 exact gc_read (c:=⟨W,X⟩) idx (kn_gs hg) hsel rfl hf (ak h.1 e1) (fun ι=>vk h.2 e2) con
theorem cm (hg:gs[g]? = some gl) (fs:List (Value→Asr)) (lq:List Asr) (idx rest:List Nat) (con:∀ (w:World) (F:Nat→Prop),OldW W X w→Now (sel gl idx) F w→(∀ j,F j→X j∨W.heap.size≤j)→Calls P f args.toArray w fun e w'=>∃ v cd,dec cd=v∧e=.returned (ret v)∧Hold ⟨w,F⟩ (fs.map (fun f=>f v)++lq) w') (hg':gs[g']? = some ((fs.map (atD d1)++lq)++sel gl rest):=by rfl) (hsel:selB gl.length (idx++rest)=true:=by kernel_rfl) (hf:Flats (sel gl idx):=by first | exact trivial | exact ⟨fun _ _ _ _ h=>h,trivial⟩ | exact ⟨fun _ _ _ _ h=>h,fun _ _ _ _ h=>h,trivial⟩ | exact ⟨fun _ _ _ _ h=>h,fun _ _ _ _ h=>h,fun _ _ _ _ h=>h,trivial⟩)
  (h:(abs.all (knD none 5) && knD (some d1) 5 r)=true:=by kernel_rfl) (e1:abs.map (@cvG (kn vs lf bs us cs hb hu hc W X gs ops cls).sig 0 5)=args:=by kernel_rfl) (e2:(fun cd=>@cvG (kn vs lf bs us cs hb hu hc W X gs ops cls).sig cd 5 r)=(fun cd=>ret (dec cd)):=by kernel_rfl) : GCTrue (kn vs lf bs us cs hb hu hc W X gs ops cls) P ⟨f,abs,g,some d1,r,some g'⟩:=by
 rw [Bool.and_eq_true] at h
 exact gc_dynM (c:=⟨W,X⟩) fs lq idx rest (kn_gs hg) (kn_gs hg') hsel rfl hf (ak h.1 e1) (fun ι cd hcd=>vd hcd h.2 (congrFun e2 cd)) con
theorem cd (hg:gs[g]? = some gl) (fs:List (Value→Asr)) (idx rest:List Nat) (con:∀ (w:World) (F:Nat→Prop),OldW W X w→Now (sel gl idx) F w→(∀ j,F j→X j∨W.heap.size≤j)→Calls P f args.toArray w fun e w'=>∃ v cd,dec cd=v∧e=.returned (ret v)∧Hold ⟨w,F⟩ (fs.map (fun f=>f v)) w') (hg':gs[g']? = some (fs.map (atD d1)++sel gl rest):=by rfl) (hsel:selB gl.length (idx++rest)=true:=by kernel_rfl) (hf:Flats (sel gl idx):=by first | exact trivial | exact ⟨fun _ _ _ _ h=>h,trivial⟩ | exact ⟨fun _ _ _ _ h=>h,fun _ _ _ _ h=>h,trivial⟩ | exact ⟨fun _ _ _ _ h=>h,fun _ _ _ _ h=>h,fun _ _ _ _ h=>h,trivial⟩)
  (h:(abs.all (knD none 5) && knD (some d1) 5 r)=true:=by kernel_rfl) (e1:abs.map (@cvG (kn vs lf bs us cs hb hu hc W X gs ops cls).sig 0 5)=args:=by kernel_rfl) (e2:(fun cd=>@cvG (kn vs lf bs us cs hb hu hc W X gs ops cls).sig cd 5 r)=(fun cd=>ret (dec cd)):=by kernel_rfl) : GCTrue (kn vs lf bs us cs hb hu hc W X gs ops cls) P ⟨f,abs,g,some d1,r,some g'⟩:=by
 rw [Bool.and_eq_true] at h
 exact gc_dynL (c:=⟨W,X⟩) fs idx rest (kn_gs hg) (kn_gs hg') hsel rfl hf (ak h.1 e1) (fun ι cd hcd=>vd hcd h.2 (congrFun e2 cd)) con
end
end Go.Ev
namespace Go.Ev
open Go.RowKit
set_option linter.unusedVariables false
set_option linter.unusedSimpArgs false
set_option linter.unusedSectionVars false
section
variable {k:Kn} {P:Program} {g g':Nat} {l:List Asr} {ci:Nat} {t u e:TypeId} {sL sS sB sV n sz m hi:Nat} {v vs:Value} {xs cs:List Value} {i:TypeInfo} {z:Value}
theorem sl_hi {kd:IntKind} (hg:k.gs[g]? = some (star l)) (hc:l[ci]? = some (slA e sz v n xs)) (ht:P.underlying t=some (.slice e)) (hinf:P.info? e=some i) (hsz:i.size=sz) (hL:k.val sL=v) (hB:k.val sB=.int kd (hi:Int)) (h2:hi≤n) (hV:k.val sV=cutV sz v 0 hi) : GTrue k P ⟨[4,t,0,1,0],[sy sL,sy sB],none,g,none,sy sV,none⟩:=by
 refine GTrue.sliceHi k ?_
 letI:Sig:=k.sig
 intro ι F w d x' y' q hx hy
 obtain ⟨Fs,ff,hS,hf,h1⟩:=star_ask hg hc q
 rw [vsymR hx,vsymR hy,hL,hB]
 exact ⟨_,w,cut_run (kd:=kd) (.inl ⟨rfl,rfl⟩) rfl (SlV.ro h1) ht hinf hsz (Nat.zero_le _) h2 w,rsymR hV,Below.refl _ _⟩
theorem SlV.cut0 {F:Nat→Prop} {w:World} (h:SlV e sz v n xs F w) (h2:hi≤n) : SlV e sz (cutV sz v 0 hi) hi (xs.take (hi * sz)) F w:=by
 obtain ⟨h1,h3⟩:=h
 have hle:=Nat.mul_le_mul_right sz h2
 refine ⟨by rw [List.length_take,h1]; omega,?_⟩
 rcases h3 with ⟨he,rfl,hF⟩ | ⟨b,off,c,arr,rfl,hF,hb0,hx,hs,hnc⟩
 ·obtain rfl:hi=0:=by omega
  refine .inl ⟨?_,rfl,hF⟩
  rcases he with rfl | ⟨b,off,rfl⟩
  ·exact .inl rfl
  ·exact .inr ⟨b,off,rfl⟩
 ·refine .inr ⟨b,off,c,arr,?_,hF,hb0,fun k hk=>?_,hs,by omega⟩
  ·unfold cutV
   simp only [addMk,Nat.zero_mul,Nat.add_zero,Nat.sub_zero,ite_self]
  ·rw [hx k (by omega),List.getElem?_take,if_pos hk]
theorem Hold.cut0 {c:Ctx} {l:List Asr} {w:World} (h:Hold c (slA e sz v n xs::l) w) (h2:hi≤n) : Hold c (slA e sz (cutV sz v 0 hi) hi (xs.take (hi * sz))::l) w:=h.head (fun F h=>SlV.cut0 h h2)
end
section
variable {k:Kn} {P:Program} {g g':Nat} {l:List Asr} {t e:TypeId} {n sz:Nat} {i:TypeInfo} {z:Value} {xs:List Value}
theorem sl_indexL {ci sL sP:Nat} {v y:Value} {kd:IntKind} {j:Nat} (hg:k.gs[g]? = some (star l)) (hi:l[ci]? = some (slA e sz v n xs)) (ht:P.underlying t=some (.slice e)) (hinf:P.info? e=some i) (hsz:i.size=sz) (hL:k.val sL=v) (hI:IsV k y (.int kd (j:Int))) (hj:j < n) (hP:k.val sP=ptrR v (j * sz)) : GTrue k P ⟨[3,t],[sy sL,y],none,g,none,sy sP,none⟩:=by
 subst hsz
 refine GTrue.index k ?_
 letI:Sig:=k.sig
 intro ι F w d x' y' q hx hy
 obtain ⟨Fs,ff,hS,hf,h1⟩:=star_ask hg hi q
 rw [vsymR hx,hI _ _ hy,hL]
 obtain ⟨b,off,c,e1,e2,_⟩:=SlV.at (kd:=kd) h1 ht hinf hj
 exact ⟨_,w,e2,rsymR (by rw [hP,e1]; rfl),Below.refl _ _⟩
end
end Go.Ev
namespace Go.Ev
open Go.RowKit Go.Maps Go.WideShapes
open Go.WideElems (Fit rd rg pl rd_key rd_val rg_of other_key)
open Go.WideElems (findIdx_born findIdx_arr modify_last)
open Go.ChangeShapes Go.MapKept Go.ChangeMaps
set_option linter.unusedVariables false
set_option linter.unusedSimpArgs false
set_option linter.unusedSectionVars false
theorem entry_new {P:Program} {w:World} {t k e:TypeId} {R:Value→Option (DataW Unit×List MemPlace)} {b:Nat} {es:Array MapEntry} {clock:Nat} (K:Keyed P k) (ht:P.underlying t=some (.map k e)) {z:Value} (hz:∀ u:World,(zeroValue e).run P u=.ok z u) (hb:w.heap[b]? = some (.map es clock)) (F:Fit P k R es clock)
  {key:Value} {kl:Lit} (hkey:keyOf P k key=some kl) (nk:∀ x ∈ es.toList,x.key ≠ key) :
  ∃ (st:Nat) (es1:Array MapEntry) (clock1:Nat),(Instr.mapEntry t (.map (some b)) key).run P w=.ok (.tuple #[z,goInt st]) (setBlock w b (.map es1 clock1)) ∧
   ∀ (w2:World) (val:Value),w2.heap[b]? = some (.map es1 clock1)→∃ es' clock',(Instr.entryStore t (.map (some b)) (goInt st) val).run P w2=.ok () (setBlock w2 b (.map es' clock')) ∧
    (Instr.mapUpdate t (.map (some b)) key val).run P w=.ok () (setBlock w b (.map es' clock')):=by
 obtain ⟨s1,s2,_⟩:=F.stamped
 rcases K.find w hkey es.toList F.keys with ⟨h1,h2⟩ | ⟨j,e0,h1,h2,h3⟩
 ·refine ⟨clock,es.push ⟨key,z,clock⟩,clock+1,?_,fun w2 val hw2=>⟨es.push ⟨key,val,clock⟩,clock+1,?_,?_⟩⟩
  ·simp [Instr.mapEntry,run_underlying ht,MapKept.run_getObj_map hb,K.check w false hkey,h1,hz,MapKept.run_setObj_map _ hb,Result.andThen,setBlock]
  ·have hidx:(es.push ⟨key,z,clock⟩).findIdx? (fun e=>((e.born:Nat) : Int) == ((clock:Nat) : Int))=some es.size:=by
    rw [findIdx_arr]
    have:=findIdx_born (l:=(es.push ⟨key,z,clock⟩).toList) (j:=es.size) (e0:=⟨key,z,clock⟩) (by
     simp only [Array.toList_push,List.map_append,List.map_cons,List.map_nil]
     refine List.nodup_append.2 ⟨s2,by simp,fun a ha c hc e1=>?_⟩
     simp only [List.mem_singleton] at hc
     obtain ⟨x,hx,rfl⟩:=List.mem_map.1 ha
     have:=s1 x hx
     omega) (by simp)
    exact this
   have hmod:(es.push ⟨key,z,clock⟩).modify es.size (fun e=>{ e with val:=val })=es.push ⟨key,val,clock⟩:=by
    apply Array.ext'
    rw [Array.toList_modify,Array.toList_push,Array.toList_push,← Array.length_toList,modify_last]
   simp [Instr.entryStore,MapKept.run_getObj_map hw2,asInt,asIntOf,goInt,hidx,hmod,MapKept.run_setObj_map _ hw2,Result.andThen,setBlock]
  ·simp [Instr.mapUpdate,run_underlying ht,MapKept.run_getObj_map hb,K.check w false hkey,h1,MapKept.run_setObj_map _ hb,Result.andThen,setBlock]
 ·exact absurd h3 (nk e0 (List.mem_of_getElem? h2))
structure EM (P:Program) (t kT e:TypeId) {β:Type} (val:β→Value) (dat:β→DataW Unit) (R:Value→Option (DataW Unit×List MemPlace)) (z:β) : Prop where
 ht:P.underlying t=some (.map kT e)
 hk:P.underlying kT=some (.int .i64)
 hz:∀ w,(zeroValue e).run P w=.ok (val z) w
 hR:∀ x,R (val x)=some (dat x,[])
 inv:∀ v x ps,R v=some (dat x,ps)→v=val x
section
variable {β:Type} (dat:β→DataW Unit) (z:β)
def ReadsE (D:DataW Unit) (f:Int→Option β) : Prop:=∀ i,wfI i→Maps.has D (.int .i64 i)=(f i).isSome∧D.atKey (.int .i64 i) (dat z)=dat ((f i).getD z)
def updE (f:Int→Option β) (i:Int) (x:Option β) : Int→Option β:=fun j=>if j=i then x else f j
theorem ReadsE.put {D:DataW Unit} {f:Int→Option β} (h:ReadsE dat z D f) (hm:IsMap D) {i:Int} {x:β} : ReadsE dat z (D.put (.int .i64 i) (dat x)) (updE f i (some x)):=by
 intro j hj
 by_cases e:j=i
 ·subst e
  rw [has_put_same hm (by trivial),atKey_put_same hm (by trivial)]
  simp [updE]
 ·rw [has_put_other (lit_ne e),atKey_put_other (lit_ne e)]
  simpa [updE,e] using h j hj
theorem ReadsE.del {D:DataW Unit} {f:Int→Option β} (h:ReadsE dat z D f) {i:Int} : ReadsE dat z (D.del (.int .i64 i)) (updE f i none):=by
 intro j hj
 by_cases e:j=i
 ·subst e
  rw [has_del_same,atKey_del_same]
  simp [updE]
 ·rw [has_del_other (lit_ne e),atKey_del_other (lit_ne e)]
  simpa [updE,e] using h j hj
end
theorem own_exact {P:Program} {k:TypeId} {R:Value→Option (DataW Unit×List MemPlace)} {b n:Nat} {D:DataW Unit} {w:World} (h:w.ownsMap P k R b n D) : w.ownsMap P k R b (Maps.size D) D:=by
 obtain ⟨es,clock,hb,F,hs,rfl⟩:=h
 exact ⟨es,clock,hb,F,by rw [Maps.size_eq,length_sorted]; simp,rfl⟩
section
variable (P:Program) (kT:TypeId) {β:Type} (dat:β→DataW Unit) (R:Value→Option (DataW Unit×List MemPlace)) (z:β)
def MapE (b n:Nat) (f:Int→Option β) (w:World) : Prop:=∃ D:DataW Unit,w.ownsMap P kT R b n D∧Maps.size D=n∧ReadsE dat z D f
theorem MapE.keep {b n:Nat} {f:Int→Option β} {w w':World} (h:MapE P kT dat R z b n f w) (hk:w'.heap[b]? = w.heap[b]?) : MapE P kT dat R z b n f w':=by
 obtain ⟨D,⟨es,clock,h1,h2⟩,h3⟩:=h
 exact ⟨D,⟨es,clock,by rw [hk]; exact h1,h2⟩,h3⟩
def emA (b n:Nat) (f:Int→Option β) : Asr where
 p:=fun _ F w=>(∀ j,F j↔j=b)∧MapE P kT dat R z b n f w
 keep:=fun ι F w w' hk ⟨h1,h2⟩=>⟨h1,h2.keep P kT dat R z (hk b ((h1 b).2 rfl))⟩
 mono:=fun _ _ _ _ _ h=>h
def emV (v:Value) (n:Nat) (f:Int→Option β) : Asr where
 p:=fun ι F w=>∃ b,v=.map (some b)∧(emA P kT dat R z b n f).p ι F w
 keep:=fun ι F w w' hk ⟨b,h0,h⟩=>⟨b,h0,(emA P kT dat R z b n f).keep ι F w w' hk h⟩
 mono:=fun _ _ _ _ _ h=>h
def EntE (t:TypeId) (b n:Nat) (f:Int→Option β) (i:Int) (st:Value) (w:World) : Prop :=
 ∃ es clock,w.heap[b]? = some (.map es clock)∧∀ (w2:World) (v:Value) (x:β),R v=some (dat x,[])→w2.heap[b]? = some (.map es clock)→∃ w3,(Instr.entryStore t (.map (some b)) st v).run P w2=.ok () w3∧MapE P kT dat R z b (n+1) (updE f i (some x)) w3∧w2.mapTurned w3 b
def enA (t:TypeId) (b n:Nat) (f:Int→Option β) (i:Int) (st:Value) : Asr where
 p:=fun _ F w=>(∀ j,F j↔j=b)∧EntE P kT dat R z t b n f i st w
 keep:=fun ι F w w' hk ⟨h1,es,clock,h2,h3⟩=>⟨h1,es,clock,(hk b ((h1 b).2 rfl)).trans h2,h3⟩
 mono:=fun _ _ _ _ _ h=>h
end
section rows
variable {k:Kn} {P:Program} {g g':Nat} {d0:Option Nat} {l:List Asr} {ci:Nat} {t kT e:TypeId} {b n sM sK sV:Nat} {i:Int} {β:Type} {val:β→Value} {dat:β→DataW Unit} {R:Value→Option (DataW Unit×List MemPlace)} {z x:β} {f:Int→Option β} (M:EM P t kT e val dat R z)
include M
theorem E_keyed:Keyed P kT:=int_keyed M.hk
theorem E_key (hi:wfI i) : keyOf P kT (.int .i64 i)=some (.int .i64 i):=keyOf_int_mk M.hk hi
theorem e_look {a:Value} (hg:k.gs[g]? = some (star l)) (hi:l[ci]? = some (emA P kT dat R z b n f)) (hM:k.val sM=.map (some b)) (hK:k.val sK=.int .i64 i) (hw:wfI i) (hx:(f i).getD z=x) (hV:∀ ι,letI:Sig:=k.sig; VRel ι a (val x)) : GTrue k P ⟨[5,t,0],[sy sM,sy sK],none,g,none,a,none⟩:=by
 refine GTrue.lookup k (b:=false) rfl ?_
 letI:Sig:=k.sig
 intro ι F w d x' y' q hx' hy
 obtain ⟨Fs,ff,hS,hf,h1,D,h2,h4,h3⟩:=star_ask hg hi q
 rw [vsymR hx',vsymR hy,hM,hK]
 obtain ⟨v,ps,r1,r2⟩:=h2.lookup (E_keyed M) M.ht (M.hz w) (M.hR z) (E_key M hw)
 rw [(h3 i hw).2,hx] at r2
 rw [M.inv _ _ _ r2] at r1
 exact ⟨_,w,r1,hV ι,Below.refl _ _⟩
theorem e_ok {a:Value} {ok:Bool} (hg:k.gs[g]? = some (star l)) (hi:l[ci]? = some (emA P kT dat R z b n f)) (hM:k.val sM=.map (some b)) (hK:k.val sK=.int .i64 i) (hw:wfI i) (hx:(f i).getD z=x) (ho:(f i).isSome=ok) (hV:∀ ι,letI:Sig:=k.sig; VRel ι a (val x)) : GTrue k P ⟨[5,t,1],[sy sM,sy sK],none,g,none,.tuple #[a,.bool ok],none⟩:=by
 refine GTrue.lookup k (b:=true) rfl ?_
 letI:Sig:=k.sig
 intro ι F w d x' y' q hx' hy
 obtain ⟨Fs,ff,hS,hf,h1,D,h2,h4,h3⟩:=star_ask hg hi q
 rw [vsymR hx',vsymR hy,hM,hK]
 obtain ⟨v,ps,r1,r2⟩:=h2.look_ok (E_keyed M) M.ht (M.hz w) (M.hR z) (E_key M hw)
 rw [(h3 i hw).2,hx] at r2
 rw [M.inv _ _ _ r2,(h3 i hw).1,ho] at r1
 refine ⟨_,w,r1,?_,Below.refl _ _⟩
 refine .tuple _ _ rfl (fun j v v' h1 h2=>?_)
 match j with
 | 0=>simp at h1 h2; subst h1 h2; exact hV ι
 | 1=>simp at h1 h2; subst h1 h2; exact .bool ok
 | j+2=>simp at h1
theorem e_len (hg:k.gs[g]? = some (star l)) (hi:l[ci]? = some (emA P kT dat R z b n f)) (hM:k.val sM=.map (some b)) (hV:k.val sV=.int .i64 (n:Int)) : GTrue k P ⟨[10,t],[sy sM],none,g,none,sy sV,none⟩:=by
 refine GTrue.len k ?_
 letI:Sig:=k.sig
 intro ι F w d x' ty q hx'
 obtain ⟨Fs,ff,hS,hf,h1,D,h2,h4,h3⟩:=star_ask hg hi q
 rw [vsymR hx',hM]
 exact ⟨_,w,h2.len M.ht ty,rsymR (by rw [hV,h4]),Below.refl _ _⟩
theorem turn_of_mapE {w w':World} (h:w.mapTurned w' b) {ff:Nat→Prop} (hf:∀ j,ff j↔j=b) : Turn ff w w':=by
 have hg:=h.grown
 exact ⟨hg.os,hg.tape,hg.output,hg.size,fun j hj hn=>hg.block j hj (fun e=>hn ((hf j).2 (by cases e; rfl)))⟩
theorem e_put {v':Value} {n':Nat} (hg:k.gs[g]? = some (star l)) (hi:l[ci]? = some (emA P kT dat R z b n f)) (hn':n'=if (f i).isSome then n else n+1) (hg':k.gs[g']? = some (star (l.set ci (emA P kT dat R z b n' (updE f i (some x)))))) (hM:k.val sM=.map (some b)) (hK:k.val sK=.int .i64 i) (hw:wfI i) (hn:n < maxLen) (hV:IsV k v' (val x)) : GTrue k P ⟨[6,t],[sy sM,sy sK,v'],none,g,none,undef,some g'⟩:=by
 refine GTrue.mapUpdate k ?_
 letI:Sig:=k.sig
 intro ι F w d x' y' z' q hx' hy hz
 obtain ⟨Fs,ff,hS,hf,h1,D,h2,h4,h3⟩:=star_ask hg hi q
 rw [vsymR hx',vsymR hy,hM,hK,hV _ _ hz]
 have ht:=h2.tidy (E_keyed M)
 obtain ⟨w',r1,r2,r3⟩:=h2.store (E_keyed M) M.ht hn (E_key M hw) (M.hR x)
 have hs:Maps.size (D.put (.int .i64 i) (dat x))=n':=by
  rw [size_put ht,(h3 i hw).1,hn',h4]
 have r2':=own_exact r2
 rw [hs] at r2'
 refine ⟨w',r1,one_end hg' hS q.lt hf (ask_fresh q) 0 (f':=ff) ⟨h1,_,r2',hs,h3.put dat z h2.isMap⟩ (turn_of_mapE M r3 h1) (fun j hj=>⟨?_,.inl hj⟩) (undef_rel _)⟩
 rw [(h1 j).1 hj]
 exact r2.lt
theorem e_del {u:TypeId} {n':Nat} (hu:u=kT) (hg:k.gs[g]? = some (star l)) (hi:l[ci]? = some (emA P kT dat R z b n f)) (hn':n'+(if (f i).isSome then 1 else 0)=n) (hg':k.gs[g']? = some (star (l.set ci (emA P kT dat R z b n' (updE f i none))))) (hM:k.val sM=.map (some b)) (hK:k.val sK=.int .i64 i) (hw:wfI i) : GTrue k P ⟨[12,t,u],[sy sM,sy sK],none,g,none,.tuple #[],some g'⟩:=by
 subst hu
 refine GTrue.delete k ?_
 letI:Sig:=k.sig
 intro ι F w d x' y' ty q hx' hy
 obtain ⟨Fs,ff,hS,hf,h1,D,h2,h4,h3⟩:=star_ask hg hi q
 rw [vsymR hx',vsymR hy,hM,hK]
 have ht:=h2.tidy (E_keyed M)
 obtain ⟨w',r1,r2,r3⟩:=h2.drop (E_keyed M) M.ht (E_key M hw) ty
 have hs:Maps.size (D.del (.int .i64 i))=n':=by
  have:=size_del ht (k:=.int .i64 i)
  rw [(h3 i hw).1,h4] at this
  omega
 have r2':=own_exact r2
 rw [hs] at r2'
 refine ⟨_,w',r1,one_end hg' hS q.lt hf (ask_fresh q) 0 (f':=ff) ⟨h1,_,r2',hs,h3.del dat z⟩ (turn_of_mapE M r3 h1) (fun j hj=>⟨?_,.inl hj⟩) (.tuple _ _ rfl (fun i v v' h=>by simp at h))⟩
 rw [(h1 j).1 hj]
 exact r2.lt
theorem e_entry {d1:Nat} {a:Value} (hg:k.gs[g]? = some (star l)) (hi:l[ci]? = some (emA P kT dat R z b n f)) (hg':k.gs[g']? = some (star (l.set ci (atD d1 (fun v=>enA P kT dat R z t b n f i v))))) (hM:k.val sM=.map (some b)) (hK:k.val sK=.int .i64 i) (hw:wfI i) (hn:n < maxLen) (hno:f i=none) (hV:∀ ι,letI:Sig:=k.sig; VRel ι a (val z)) : GTrue k P ⟨[22,t],[sy sM,sy sK],none,g,some d1,.tuple #[a,.complex .f32 d1 0],some g'⟩:=by
 refine GTrue.mapEntry k ?_
 letI:Sig:=k.sig
 intro ι F w d x' y' q hx' hy
 obtain rfl:=q.name d1 rfl
 obtain ⟨Fs,ff,hS,hf,h1,D,h2,h4,h3⟩:=star_ask hg hi q
 rw [vsymR hx',vsymR hy,hM,hK]
 have own:=h2
 obtain ⟨es,clock,hb,Fi,hs,rfl⟩:=h2
 have hh:=(h3 i hw).1
 rw [hno] at hh
 have nk:∀ x ∈ es.toList,x.key ≠ .int .i64 i:=by
  rcases fit_look true (E_keyed M) M.ht (M.hz w) hb Fi (E_key M hw) with ⟨_,h,_⟩ | ⟨e0,y,_,_,hrun,_,_,_⟩
  ·exact h
  ·obtain ⟨v,ps,q1,q2⟩:=own.look_ok (E_keyed M) M.ht (M.hz w) (M.hR z) (E_key M hw)
   rw [hh,hrun] at q1
   simp at q1
 obtain ⟨st,es1,clock1,r1,r2⟩:=entry_new (E_keyed M) M.ht (fun u=>M.hz u) hb Fi (E_key M hw) nk
 obtain ⟨cc,hcc⟩:=dec_i64 (st:Int)
 have ht:=own.tidy (E_keyed M)
 have hup:(ι.upd d1 cc) d1=some cc:=by simp [Ren.upd]
 have hT:w.mapTurned (setBlock w b (.map es1 clock1)) b:=⟨es,clock,es1,clock1,hb,rfl⟩
 refine ⟨_,_,r1,one_end hg' hS q.lt hf (ask_fresh q) cc (f':=ff) ⟨cc,hup,h1,es1,clock1,heap_setBlock_same hb _,?_⟩ (turn_of_mapE M hT h1) (fun j hj=>⟨?_,.inl hj⟩) ?_⟩
 ·intro w2 v x hR hw2
  obtain ⟨es',clock',r3,r4⟩:=r2 w2 v hw2
  obtain ⟨w',r5,r6,r7⟩:=own.store (E_keyed M) M.ht hn (E_key M hw) hR
  rw [r4] at r5
  simp at r5
  subst r5
  have hsz:Maps.size (DataW.put (DataW.map ((es.toList.map (rg P kT R)).foldr DataW.insert [])) (.int .i64 i) (dat x))=n+1:=by
   rw [size_put ht,hh,h4]
   rfl
  refine ⟨_,by rw [hcc]; exact r3,MapE.keep P kT dat R z ⟨_,r6,hsz,h3.put dat z own.isMap⟩ ?_,⟨es1,clock1,es',clock',hw2,rfl⟩⟩
  rw [heap_setBlock_same hw2 _,heap_setBlock_same hb _]
 ·rw [(h1 j).1 hj]
  have:=own.lt
  simpa [setBlock] using this
 ·refine .tuple _ _ rfl (fun j v v' h1 h2=>?_)
  match j with
  | 0=>simp at h1 h2; subst h1 h2; exact hV _
  | 1=>simp at h1 h2; subst h1 h2; exact .dyn d1 cc _ hup hcc
  | j+2=>simp at h1
theorem e_stamp {d2:Nat} {a:Value} (hg:k.gs[g]? = some (star l)) (hi:l[ci]? = some (atD d2 (fun v=>enA P kT dat R z t b n f i v))) (hg':k.gs[g']? = some (star (l.set ci (emA P kT dat R z b (n+1) (updE f i (some x)))))) (hM:k.val sM=.map (some b)) (hV:IsV k a (val x)) : GTrue k P ⟨[23,t],[sy sM,.complex .f32 d2 0,a],none,g,none,undef,some g'⟩:=by
 refine GTrue.entryStore k ?_
 letI:Sig:=k.sig
 intro ι F w d x' y' z' q hx' hy hz
 obtain ⟨Fs,ff,hS,hf,cc,hcc,h1,es,clock,hb,h2⟩:=star_ask hg hi q
 obtain ⟨c2,e1,rfl⟩:=vdynR hy
 rw [hcc] at e1
 cases e1
 rw [vsymR hx',hM,hV _ _ hz]
 obtain ⟨w3,r1,r2,r3⟩:=h2 w (val x) x (M.hR x) hb
 refine ⟨w3,r1,one_end hg' hS q.lt hf (ask_fresh q) 0 (f':=ff) ⟨h1,r2⟩ (turn_of_mapE M r3 h1) (fun j hj=>⟨?_,.inl hj⟩) (undef_rel _)⟩
 rw [(h1 j).1 hj]
 obtain ⟨D,r4,_⟩:=r2
 exact r4.lt
end rows
end Go.Ev
namespace Go.Proofs.Ytankbefdlbcdnaa
open Go.RowKit
set_option linter.unusedVariables false
theorem mixed_ok:Try.prog.follows .mixedOrders=true:=by kernel_rfl
theorem noArgs:@Ev.ARel Ev.noSig (fun _=>none) #[] #[]:=⟨rfl,fun i v v' h=>by simp at h⟩
theorem works_runs:Ev.withB Try.prog (fun B=>Ev.isTrue (@Ev.fcallF Ev.noSig B (@Ev.fev Ev.noSig B 200) 6 [] Ev.s0))=true:=by kernel_rfl
theorem works_any (w:World) : Calls Try.prog 6 #[] w fun e w'=>e=.returned (.bool true)∧Below w.heap.size w w' :=
 @Ev.fast_bool Ev.noSig _ Try.codeOk (@Ev.noCal Ev.noSig _) mixed_ok 200 _ #[] _ works_runs noArgs w
end Go.Proofs.Ytankbefdlbcdnaa
namespace Go.Proofs.Ytankbefdlbcdnaa
open Go.RowKit
open Go.Ev (sy)
set_option linter.unusedVariables false
set_option linter.unusedSimpArgs false
set_option maxRecDepth 8000
theorem info_z {P:Program} {t:TypeId} {z:Value} {n b:Nat} (h:(P.info? t).map (fun i=>(i.zero,i.size,i.bytes))=some (some z,n,b)) : ∃ i,P.info? t=some i∧i.size=n∧i.zero=some z∧i.bytes=b:=by
 cases hi:P.info? t with
 | none=>rw [hi] at h; cases h
 | some i =>
  rw [hi] at h
  simp only [Option.map_some,Option.some.injEq,Prod.mk.injEq] at h
  exact ⟨i,rfl,h.2.1,h.1,h.2.2⟩
theorem infInt:∃ i,Try.prog.info? 3 = some i∧i.size=1∧i.zero=some (.int .i64 0)∧i.bytes=8:=info_z (by kernel_rfl)
theorem loadInt:Ev.LoadOne Try.prog 3:=by
 intro b o x w h
 simp [Instr.loadAt,Instr.sureAddr,loadVar,isAgg,run_underlying Try.underlying3,h]
theorem cells_one {x:Value} (h:x.oneCell'=true) : x.cells = #[x]:=by cases x <;> first | rfl | cases h
theorem storeInt:Ev.StoreOne Try.prog 3:=by
 intro b o x x0 w h hf hc
 simp [Instr.storeAt,Instr.sureAddr,storeVar,isAgg,run_underlying Try.underlying3,h,cells_one hc,storeCells,run_store _ _ _ _ _ hc,hf,Ev.addMk]
theorem wrap_ok {n:Int} (h1:-9223372036854775808≤n) (h2:n≤9223372036854775807) : IntKind.i64.wrap n=n:=by
 unfold IntKind.wrap
 simp [IntKind.signed,IntKind.bits]
 omega
def ints (xs:List Int) : List Value:=xs.map (Value.int .i64)
theorem startP {w:World} {F:Nat→Prop} {l:List Ev.Asr} {N:Nat} {f:FuncId} {args:Array Value} {tm:List (Nat×Value)} {α:Type} {r:α→Value} {l':α→List Ev.Asr} {R:Ending→World→Prop} (hp:Ev.PieE Try.prog f [] 0 N ⟨w,F⟩ tm l r l') (hN:Ev.withB Try.prog (fun B=>Ev.segB B f [] (fun fn _=>Nat.beq fn.ntmps N))=true) (h:Ev.Now l F w) (ha:args.size≤N) (ht:∀ p ∈ tm,args[p.1]? = some p.2) (hR:∀ x w1,Ev.Hold ⟨w,F⟩ (l' x) w1→R (.returned (r x)) w1) : Calls Try.prog f args w R :=
 Ev.con_start hN h ha ht (fun A hA=>hp A w _ hA hR)
theorem hold_leaf {c:Ev.Ctx} {e:TypeId} {sz n:Nat} {v:Value} {xs:List Value} {l:List Ev.Asr} {w:World} (h:Ev.Hold c (Ev.slA e sz v n xs::l) w) : Ev.leafV v=true:=by
 obtain ⟨f,hf⟩:=h.first
 exact Ev.SlV.leaf hf
theorem tr {N i kk:Nat} {f:FuncId} {p:List Nat} {c:Ev.Ctx} (k:Ev.Kn) (ho:∀ q ∈ k.ops,Ev.GTrue k Try.prog q) (hl:∀ q ∈ k.cls,Ev.GCTrue k Try.prog q) (hs:k.ks=[]) (rn:List (Nat×Nat)) (bl bl1:List Ev.Blk) (g':Nat) {gl gl':List Ev.Asr} (hg:k.gs[0]? = some (Ev.star (Ev.oldX c.W c.X::gl))) (hg':k.gs[g']? = some (Ev.star (Ev.oldX c.W c.X::gl'))) (live0 live1:List (Nat×Value)) (ex:Exit) (hk:Ev.knowB rn live0 bl live1 bl1=true:=by kernel_rfl)
  (run:∀ gb:Nat→Value,letI:Ev.Sig:=k.sig; Ev.withB Try.prog (fun B=>Ev.segB B f p (fun _ c=>Nat.beq (Ev.tmL gb N 0 live0).length N && (Nat.ble N 4094 && (Ev.idsB 100 rn bl && Ev.segIs ex live1 bl1 g' (Ev.fromK (Ev.tmL gb N 0 live0) 0 .leaf (fun t=>Ev.pieceF B 400 N kk ((Ev.flat c).drop i) t (Ev.stOf (Ev.objsOf bl 0) 100)))))))=true:=by intro gb; kernel_rfl) :
  letI:Ev.Sig:=k.sig; Ev.Pie Try.prog f p i kk N c (live0.map (Ev.cvp (Ev.renOf rn))) (bl.map (Ev.blkOf (Ev.renOf rn))++gl) ex (fun κ:Ev.Ren=>live1.map (Ev.cvp (Ev.ovr rn κ))) (fun κ:Ev.Ren=>bl1.map (Ev.blkOf (Ev.ovr rn κ))++gl'.map (Ev.frz (Ev.ovr rn κ))) :=
 Ev.tri Try.codeOk mixed_ok k (Ev.Kn.ok k (fun q hq=>by rw [hs] at hq; cases hq) ho hl) (n:=400) (m:=100) rn bl bl1 0 g' gl gl' hg hg' live0 live1 ex hk run
theorem trE {N i:Nat} {f:FuncId} {p:List Nat} {c:Ev.Ctx} (kk:Nat) (k:Ev.Kn) (ho:∀ q ∈ k.ops,Ev.GTrue k Try.prog q) (hl:∀ q ∈ k.cls,Ev.GCTrue k Try.prog q) (hs:k.ks=[]) (rn:List (Nat×Nat)) (bl bl1:List Ev.Blk) (g':Nat) {gl gl':List Ev.Asr} (hg:k.gs[0]? = some (Ev.star (Ev.oldX c.W c.X::gl))) (hg':k.gs[g']? = some (Ev.star (Ev.oldX c.W c.X::gl'))) (live0:List (Nat×Value)) (r:Value) (hk:Ev.knowB rn live0 bl [(0,r)] bl1=true:=by kernel_rfl)
  (run:∀ gb:Nat→Value,letI:Ev.Sig:=k.sig; Ev.withB Try.prog (fun B=>Ev.segB B f p (fun fn c=>Nat.beq (Ev.tmL gb N 0 live0).length N && (Nat.beq fn.ntmps N && (Nat.ble N 4094 && (Ev.idsB 100 rn bl && ((bl1.all (fun q=>Nat.beq (q.1 % 4) 0) && Ev.isNil ((Ev.flat c).drop (i+kk))) && Ev.outIs r bl1 (some g') (Ev.fromK (Ev.tmL gb N 0 live0) 0 .leaf (fun t=>Ev.fret B.P fn (Ev.pieceF B 400 N kk ((Ev.flat c).drop i) t (Ev.stOf (Ev.objsOf bl 0) 100))))))))))=true:=by intro gb; kernel_rfl) :
  letI:Ev.Sig:=k.sig; Ev.PieE Try.prog f p i N c (live0.map (Ev.cvp (Ev.renOf rn))) (bl.map (Ev.blkOf (Ev.renOf rn))++gl) (fun κ:Ev.Ren=>Ev.concF 3 (Ev.ovr rn κ) r) (fun κ:Ev.Ren=>bl1.map (Ev.blkOf (Ev.ovr rn κ))++gl'.map (Ev.frz (Ev.ovr rn κ))) :=
 Ev.triE Try.codeOk mixed_ok k (Ev.Kn.ok k (fun q hq=>by rw [hs] at hq; cases hq) ho hl) (n:=400) (m:=100) (kk:=kk) rn bl bl1 0 g' gl gl' hg hg' live0 r hk run
end Go.Proofs.Ytankbefdlbcdnaa
namespace Go.Ev
end Go.Ev
