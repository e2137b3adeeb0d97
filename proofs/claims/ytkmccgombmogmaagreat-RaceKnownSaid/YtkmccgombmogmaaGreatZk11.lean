/- Part of a proof: see the last text. -/
import Derived.Test.YtkmccgombmogmaaGreatZk10
import Derived.Test.YtkmccgombmogmaaGreatZk1
namespace Go.Proofs.YtkmccgombmogmaaGreat
open Go.RowKit
set_option linter.unusedVariables false
set_option linter.unusedSimpArgs false
set_option maxRecDepth 8000
theorem rows_same {l:List OwnS} {es:Nat→OwnV} {p:Nat} {o o':OwnS} (ho:l[p]? = some o) (h:ownRow o' (es p)=ownRow o (es p)) : rowAt (l.set p o') es=rowAt l es:=by
 funext q
 unfold rowAt
 by_cases e:q=p
 ·subst e
  rw [List.getElem?_set_self (List.getElem?_eq_some_iff.1 ho).1,ho]
  exact h
 ·rw [List.getElem?_set_ne (Ne.symm e)]
section
variable {ctx:Ev.Ctx} {w:World} {r:List Ev.Asr} {b:RB} {c:Cfg} {x:RaceS} {es:Nat→OwnV} {p:Nat} {o:OwnS}
theorem own_any (hp:p < c.n) (ho:x.ow[p]? = some o) (h:Ev.Hold ctx (r++raceL b c x es) w) :
  ∃ F,Ev.Now (ownL c p o (es p)) F w∧∀ (o':OwnS) (m:List Ev.Asr) (w':World),ownRow o' (es p)=ownRow o (es p)→Ev.Hold ⟨w,F⟩ (ownL c p o' (es p)++m) w'→Ev.Hold ctx (r++(m++raceL b c (x.own p o') es)) w':=by
 have hlt:p < x.ow.length:=(List.getElem?_eq_some_iff.1 ho).1
 obtain ⟨F1,k1,back⟩:=own_fr (r:=raceT b c x es++r) [] hp hlt ho (race_owns (hold_perm List.perm_append_comm h))
 rw [List.append_nil] at k1
 refine ⟨F1,k1,fun o' m w' hr hh=>?_⟩
 have h1:=back o' (es p) m w' hh
 rw [esAt_id] at h1
 have e:raceT b c (x.own p o') es=raceT b c x es:=by
  show [raceV b c x,memA b.bm x.m,rowsA b c (x.ow.set p o') es]=_
  unfold rowsA
  rw [rows_same ho hr]
  rfl
 refine hold_perm (perm_of (fun f=>?_)) h1
 unfold raceL
 rw [e]
 simp only [RaceS.own,List.map_append,List.sum_append]
 omega
theorem own_dq (hp:p < c.n) (ho:x.ow[p]? = some o) (h:Ev.Hold ctx (r++raceL b c x es) w) :
  ∃ F,Ev.Now [dqA c (es p).d o.dq] F w∧∀ (d:DqS) (m:List Ev.Asr) (w':World),Ev.Hold ⟨w,F⟩ (dqA c (es p).d d::m) w'→Ev.Hold ctx (r++(m++raceL b c (x.own p (o.deq d)) es)) w':=by
 obtain ⟨F1,k1,back⟩:=own_any hp ho h
 obtain ⟨F2,k2,back2⟩:=now_first (Ev.Hold.start k1)
 refine ⟨F2,k2,fun d m w' hh=>back (o.deq d) m w' rfl ?_⟩
 exact hold_perm (perm_of (fun f=>by simp only [ownL,OwnS.deq,List.cons_append,List.map_append,List.map_cons,List.map_nil,List.sum_append,List.sum_cons,List.sum_nil,List.nil_append]; omega)) (back2 _ _ hh)
theorem own_dqr (hp:p < c.n) (ho:x.ow[p]? = some o) (h:Ev.Hold ctx (r++raceL b c x es) w) :
  ∃ F,Ev.Now [dqA c (es p).d o.dq,isA (es p).rv o.rs] F w∧∀ (d:DqS) (m:List Ev.Asr) (w':World),Ev.Hold ⟨w,F⟩ (dqA c (es p).d d::isA (es p).rv o.rs::m) w'→Ev.Hold ctx (r++(m++raceL b c (x.own p (o.deq d)) es)) w':=by
 obtain ⟨F1,k1,back⟩:=own_any hp ho h
 have k1':Ev.Hold ⟨w,F1⟩ ([dqA c (es p).d o.dq,isA (es p).rv o.rs]++[macA c p (es p).mv o.mac]) w:=(Ev.Hold.start k1).sel [0,2,1] (by kernel_rfl)
 obtain ⟨F2,k2,back2⟩:=hold_fr _ k1'
 refine ⟨F2,k2,fun d m w' hh=>back (o.deq d) m w' rfl ?_⟩
 exact hold_perm (perm_of (fun f=>by simp only [ownL,OwnS.deq,List.cons_append,List.map_append,List.map_cons,List.map_nil,List.sum_append,List.sum_cons,List.sum_nil,List.nil_append]; omega)) (back2 _ _ hh)
theorem race_v (h:Ev.Hold ctx (r++raceL b c x es) w) :
  ∃ F,Ev.Now [raceV b c x] F w∧∀ (is:Bool) (w':World),Ev.Hold ⟨w,F⟩ [raceV b c (x.holds is)] w'→Ev.Hold ctx (r++raceL b c (x.holds is) es) w':=by
 have h1:Ev.Hold ctx ([raceV b c x]++([memA b.bm x.m,rowsA b c x.ow es]++(ownsL c x.ow es++r))) w:=hold_perm (perm_of (fun f=>by simp only [raceL,raceT,List.map_append,List.map_cons,List.map_nil,List.sum_append,List.sum_cons,List.sum_nil]; omega)) h
 obtain ⟨F,k1,back⟩:=hold_fr _ h1
 refine ⟨F,k1,fun is w' hh=>?_⟩
 exact hold_perm (perm_of (fun f=>by simp only [raceL,raceT,RaceS.holds,List.map_append,List.map_cons,List.map_nil,List.sum_append,List.sum_cons,List.sum_nil]; omega)) (back _ _ hh)
theorem race_at (h:Ev.Hold ctx (r++raceL b c x es) w) : w.heap[b.br]? = some (Obj.cells (raceC b c x) 73 (0,0)):=race_blk (hold_perm List.perm_append_comm h)
theorem row_at (hp:p < c.n) (ho:x.ow[p]? = some o) (h:Ev.Hold ctx (r++raceL b c x es) w) {j:Nat} {v:Value} (hj:(ownRow o (es p))[j]? = some v) : w.cell? ⟨b.bo,p * 7+j,none⟩=some v:=rows_cell hp ho (race_rows (hold_perm List.perm_append_comm h)) hj
theorem rows_froz (hn:0 < c.n) (h:Ev.Hold ctx (rowsA b c x.ow es::r) w) (j:Nat) : w.frozen? ⟨b.bo,j,none⟩=false:=by
 obtain ⟨f,hf⟩:=h.first
 obtain ⟨_,⟨_,h0,_⟩ | ⟨b',off,c',arr,e,_,hb,_⟩⟩:=hf
 ·omega
 ·cases e
  exact froz_of hb j
theorem row_froz (h:Ev.Hold ctx (r++raceL b c x es) w) (j:Nat) : w.frozen? ⟨b.bo,j,none⟩=false:=rows_froz (x:=x) c.nb.1 (race_rows (hold_perm List.perm_append_comm h)) j
theorem row_set (hp:p < c.n) (ho:x.ow[p]? = some o) {o':OwnS} {e':OwnV} (j:Nat) (hj:j < 7) (v:Value) (hr:(ownRow o (es p)).set j v=ownRow o' e') (r':List Ev.Asr) (hown:∀ (m:List Ev.Asr) (w:World),Ev.Hold ctx (ownL c p o (es p)++(r++m)) w→Ev.Hold ctx (ownL c p o' e'++(r'++m)) w) (h:Ev.Hold ctx (r++raceL b c x es) w) : Ev.Hold ctx (r'++raceL b c (x.own p o') (esAt es p e')) (w.setCell ⟨b.bo,p * 7+j,none⟩ v):=by
 have hlt:p < x.ow.length:=(List.getElem?_eq_some_iff.1 ho).1
 have h1:Ev.Hold ctx (rowsA b c x.ow es::([raceV b c x,memA b.bm x.m]++(ownsL c x.ow es++r))) w:=hold_perm (perm_of (fun f=>by simp only [raceL,raceT,List.map_append,List.map_cons,List.map_nil,List.sum_append,List.sum_cons,List.sum_nil]; omega)) h
 have h2:=rows_set hlt hp ho j hj v hr h1
 have h3:Ev.Hold ctx (ownsL c x.ow es++(r++[rowsA b c (x.ow.set p o') (esAt es p e'),raceV b c x,memA b.bm x.m])) _:=hold_perm (perm_of (fun f=>by simp only [List.map_append,List.map_cons,List.map_nil,List.sum_append,List.sum_cons,List.sum_nil]; omega)) h2
 have h4:=(own_out hp ho h3).open
 have h5:Ev.Hold ctx (ownL c p o (es p)++(r++((ownsL c x.ow es).eraseIdx p++[rowsA b c (x.ow.set p o') (esAt es p e'),raceV b c x,memA b.bm x.m]))) _:=hold_perm (perm_of (fun f=>by simp only [ownL,List.map_append,List.map_cons,List.map_nil,List.sum_append,List.sum_cons,List.sum_nil]; omega)) h4
 have h5':Ev.Hold ctx (ownL c p o' e'++((ownsL c x.ow es).eraseIdx p++([rowsA b c (x.ow.set p o') (esAt es p e'),raceV b c x,memA b.bm x.m]++r'))) _:=hold_perm (perm_of (fun f=>by simp only [ownL,List.map_append,List.map_cons,List.map_nil,List.sum_append,List.sum_cons,List.sum_nil]; omega)) (hown _ _ h5)
 have h6:=own_in hp hlt (Ev.Hold.shut h5')
 have e:raceL b c (x.own p o') (esAt es p e')=[raceV b c x,memA b.bm x.m,rowsA b c (x.ow.set p o') (esAt es p e')]++ownsL c (x.ow.set p o') (esAt es p e'):=rfl
 rw [e]
 exact hold_perm (perm_of (fun f=>by simp only [ List.map_append,List.map_cons,List.map_nil,List.sum_append,List.sum_cons,List.sum_nil]; omega)) h6
end
end Go.Proofs.YtkmccgombmogmaaGreat
namespace Go.Proofs.YtkmccgombmogmaaGreat
open Go.RowKit
set_option linter.unusedVariables false
set_option linter.unusedSimpArgs false
set_option maxRecDepth 8000
theorem cut_lo {w:World} {a:Option Addr} {n k lo:Nat} {xs:List Value} (h:Ev.SlR 1 (.slice a n k) n xs w) (hl:n=n) : ∃ ac cc,Ev.cutV 1 (.slice a n k) lo n=.slice ac (n - lo) cc:=by
 cases a with
 | none=>exact ⟨none,k - lo,by simp [Ev.cutV]⟩
 | some a =>
  by_cases e:k=lo
  ·exact ⟨_,k - lo,by simp only [Ev.cutV,if_pos e]; rfl⟩
  ·exact ⟨_,k - lo,by simp only [Ev.cutV,if_neg e]; rfl⟩
theorem cut_isA {l:List Int} {k1:Nat} {v:Value} (h:min 1 l.length=k1) : Ev.slA 3 1 v (l.length - k1) ((ints l).drop (k1 * 1))=isA v (l.drop 1):=by
 unfold isA
 rw [Nat.mul_one]
 cases l with
 | nil =>
  have:k1=0:=by simpa using h.symm
  subst this
  rfl
 | cons g l =>
  have:k1=1:=by simp at h; omega
  subst this
  simp [ints]
theorem own_own (x:RaceS) (p:Nat) (a b:OwnS) : (x.own p a).own p b=x.own p b:=by
 unfold RaceS.own
 simp only [List.set_set]
theorem new_rest {ctx:Ev.Ctx} {w:World} {m:List Ev.Asr} {c:Cfg} {p:Nat} {o:OwnS} {e:OwnV} {v:Value} {l:List Int} {gn:Bool} (h:Ev.Hold ctx (ownL c p o e++([isA v l]++m)) w) : Ev.Hold ctx (ownL c p ⟨o.kd,o.cv,o.cg,o.mac,o.dq,gn,l⟩ ⟨e.d,e.mv,v⟩++([]++m)) w:=by
 have h1:Ev.Hold ctx ([isA e.rv o.rs]++(dqA c e.d o.dq::macA c p e.mv o.mac::isA v l::m)) w:=hold_perm (perm_of (fun f=>by simp only [ownL,List.cons_append,List.nil_append,List.map_append,List.map_cons,List.map_nil,List.sum_append,List.sum_cons,List.sum_nil]; omega)) h
 exact hold_drop h1
theorem rest_slr {ctx:Ev.Ctx} {w:World} {r:List Ev.Asr} {b:RB} {c:Cfg} {x:RaceS} {es:Nat→OwnV} {p:Nat} {o:OwnS} (hp:p < c.n) (ho:x.ow[p]? = some o) (h:Ev.Hold ctx (r++raceL b c x es) w) : Ev.SlR 1 (es p).rv o.rs.length (ints o.rs) w:=by
 obtain ⟨F1,k1,_⟩:=own_any hp ho h
 have k1':Ev.Hold ⟨w,F1⟩ [isA (es p).rv o.rs] w:=(Ev.Hold.start k1).sel [2] (by kernel_rfl)
 exact hold_slr k1'
section
variable {b:RB} {c:Cfg} {x:RaceS} {es:Nat→OwnV} {p v:Nat} {o ov:OwnS} {u:StealS} {bp:Nat}
theorem own_steal {ctx:Ev.Ctx} {w:World} {r:List Ev.Asr} (hp:p < c.n) (ho:x.ow[p]? = some o) (hM:o.mac=some (.steal v u)) (hmv:(es p).mv=.iface 85 (.pointer (some ⟨bp,0,none⟩))) (h:Ev.Hold ctx (r++raceL b c x es) w) :
  ∃ F,Ev.Now [stealA c p v bp u] F w∧∀ (m:List Ev.Asr) (w':World),Ev.Hold ⟨w,F⟩ (stealA c p v bp u::m) w'→Ev.Hold ctx (r++(m++raceL b c x es)) w':=by
 obtain ⟨F2,k2,back⟩:=own_mac hp ho h
 rw [hmv,hM] at k2 back
 obtain ⟨bp',e,hp1⟩:=mac_steal (Ev.Hold.start k2)
 cases e
 obtain ⟨F3,k3,back3⟩:=now_first hp1
 refine ⟨F3,k3,fun m w' hh=>back m w' (steal_mac ?_)⟩
 have:=back3 _ _ hh
 rw [List.append_nil] at this
 exact this
theorem shands_in (n:Nat) {ctx:Ev.Ctx} {w:World} {r:List Ev.Asr} (hp:p < c.n) (ho:x.ow[p]? = some o) (hM:o.mac=some (.steal v u)) (hmv:(es p).mv=.iface 85 (.pointer (some ⟨bp,0,none⟩))) (hok:MacOk c p (.steal v u)) (hm:MemOk c x.m) (h:Ev.Hold ctx (r++raceL b c x es) w) :
  CallsIn Fence.wide n Tryz.prog 99 #[.pointer (some ⟨bp,0,none⟩)] w fun e w'=>∃ a k,e=.returned (.slice a u.hands.length k)∧Ev.Hold ctx (r++([isA (.slice a u.hands.length k) u.hands]++raceL b c x es)) w':=by
 obtain ⟨F,k1,back⟩:=own_steal hp ho hM hmv h
 refine (steal_hands n hp hok.2.1 hok.1 hm k1).mono ?_
 rintro e w' ⟨z,lz,rfl,hh⟩
 obtain ⟨a,k,rfl⟩:=slr_val (hold_slr hh)
 exact ⟨a,k,rfl,back [isA _ _] _ (hh.sel [1,0] (by kernel_rfl))⟩
theorem smany_in (n:Nat) {ctx:Ev.Ctx} {w:World} {r:List Ev.Asr} (hp:p < c.n) (ho:x.ow[p]? = some o) (hM:o.mac=some (.steal v u)) (hmv:(es p).mv=.iface 85 (.pointer (some ⟨bp,0,none⟩))) (hok:MacOk c p (.steal v u)) (h:Ev.Hold ctx (r++raceL b c x es) w) :
  CallsIn Fence.wide n Tryz.prog 100 #[.pointer (some ⟨bp,0,none⟩)] w fun e w'=>e=.returned (.int .i64 (u.many:Int))∧Ev.Hold ctx (r++raceL b c x es) w':=by
 obtain ⟨F,k1,back⟩:=own_steal hp ho hM hmv h
 exact (many_steal n (Ev.Hold.start k1)).mono (fun e w' ⟨e1,hh⟩=>⟨e1,back [] _ hh⟩)
theorem sleft_in (n:Nat) {ctx:Ev.Ctx} {w:World} {r:List Ev.Asr} (hp:p < c.n) (ho:x.ow[p]? = some o) (hM:o.mac=some (.steal v u)) (hmv:(es p).mv=.iface 85 (.pointer (some ⟨bp,0,none⟩))) (hok:MacOk c p (.steal v u)) (hm:MemOk c x.m) (h:Ev.Hold ctx (r++raceL b c x es) w) :
  CallsIn Fence.wide n Tryz.prog 70 #[.pointer (some ⟨bp,0,none⟩)] w fun e w'=>∃ a k,e=.returned (.slice a u.left.length k)∧Ev.Hold ctx (r++([isA (.slice a u.left.length k) u.left]++raceL b c x es)) w':=by
 obtain ⟨F,k1,back⟩:=own_steal hp ho hM hmv h
 refine (left_steal n hok.1 (Ev.Hold.start k1)).mono ?_
 rintro e w' ⟨z,rfl,hh⟩
 obtain ⟨a,k,rfl⟩:=slr_val (hold_slr hh)
 exact ⟨a,k,rfl,back [isA _ _] _ (hh.sel [1,0] (by kernel_rfl))⟩
theorem vsteal_in (n:Nat) {ctx:Ev.Ctx} {w:World} {r:List Ev.Asr} (hq:c.q≤8) (hv:v < c.n) (hov:x.ow[v]? = some ov) (hd:DqOk c ov.dq) {dv:Nat} (hdv:(es v).d=dv) (h:Ev.Hold ctx (r++raceL b c x es) w) :
  CallsIn Fence.wide n Tryz.prog 101 #[.pointer (some ⟨dv,0,none⟩)] w fun e w'=>∃ a k,e=.returned (.slice a (dqOld c ov.dq).length k)∧Ev.Hold ctx (r++([isA (.slice a (dqOld c ov.dq).length k) (dqOld c ov.dq)]++raceL b c (x.own v (ov.deq (dqSteal ov.dq))) es)) w':=by
 obtain ⟨F,k1,back⟩:=own_dq hv hov h
 rw [hdv] at k1 back
 refine (dsteal_in n hq hd k1).mono ?_
 rintro e w' ⟨z,lz,rfl,hh⟩
 obtain ⟨a,k,rfl⟩:=slr_val (hold_slr hh)
 exact ⟨a,k,rfl,back (dqSteal ov.dq) [isA _ _] _ (hh.sel [1,0] (by kernel_rfl))⟩
theorem rholds_in (n:Nat) {ctx:Ev.Ctx} {w:World} {r:List Ev.Asr} (is:Bool) (h:Ev.Hold ctx (r++raceL b c x es) w) :
  CallsIn Fence.wide n Tryz.prog 64 #[.pointer (some ⟨b.br,0,none⟩),.bool is] w fun e w'=>e=.returned (.tuple #[])∧Ev.Hold ctx (r++raceL b c (x.holds is) es) w':=by
 obtain ⟨F,k1,back⟩:=race_v h
 exact (holds_in n is k1).mono (fun e w' ⟨e1,hh⟩=>⟨e1,back is _ hh⟩)
end
set_option maxHeartbeats 2000000 in
theorem steals_in (m:Nat) {b:RB} {c:Cfg} {x:RaceS} {es:Nat→OwnV} {p v:Nat} {o ov:OwnS} {u:StealS} {bp:Nat} (hq:c.q≤8) (hp:p < c.n) (ho:x.ow[p]? = some o) (hM:o.mac=some (.steal v u)) (hmv:(es p).mv=.iface 85 (.pointer (some ⟨bp,0,none⟩))) (hcv:o.cv=(v:Int)) (hok:MacOk c p (.steal v u)) (hm:MemOk c x.m)
  (hov:x.ow[v]? = some ov) (hdp:DqOk c o.dq) (hdv:DqOk c ov.dq) (hrs:o.rs.length≤64) (hh64:u.hands.length≤100) (hl64:u.left.length≤100) {F:Nat→Prop} {w:World} (h:Ev.Now (raceL b c x es) F w) :
  CallsIn Fence.wide m Tryz.prog 69 #[.pointer (some ⟨b.br,0,none⟩),.pointer (some ⟨b.bo,p * 7,none⟩),.pointer (some ⟨bp,0,none⟩),.bool (decide (u.st=0))] w fun e w'=>e=.returned (.tuple #[])∧∃ es',Ev.Hold ⟨w,F⟩ (raceL b c (racePoint c x p o (.steal v u)) es') w':=by
 refine callsIn_of_wp Tryz.func69 rfl trivial ?_ rfl
 simp only [Tryz.ntmps69,List.size_toArray,List.length_cons,List.length_nil,Nat.reduceAdd,Nat.reduceSub,Array.replicate_succ,Array.replicate_zero,List.push_toArray,List.append_toArray,List.nil_append,List.cons_append]
 have hst:Ev.Hold ⟨w,F⟩ ([]++raceL b c x es) w:=Ev.Hold.start h
 obtain ⟨bd,hbd⟩ : ∃ bd,decide (u.st=0)=bd:=⟨_,rfl⟩
 rw [hbd]
 gi_wp2
 refine ⟨trivial,fun h=>by simp [Fence.wide] at h,(shands_in (m - 1) hp ho hM hmv hok hm hst).mono ?_⟩
 rintro e w1 ⟨ah,kh,rfl,h1⟩
 rw [List.nil_append] at h1
 have e5:w1.cell? ⟨b.bo,p * 7+5,none⟩=some (.bool o.gn):=row_at hp ho h1 rfl
 obtain ⟨ar,kr,hrv⟩:=slr_val (rest_slr hp ho hst)
 obtain ⟨dv,hdvE⟩ : ∃ dv,(es v).d=dv:=⟨_,rfl⟩
 have hvp:v ≠ p:=hok.2.2
 have hv:v < c.n:=hok.2.1
 have hvI:(v:Int) < (c.n:Int):=by omega
 have hvlt:v < x.ow.length:=(List.getElem?_eq_some_iff.1 hov).1
 have hov1:(x.own v (ov.deq (dqSteal ov.dq))).ow[v]? = some (ov.deq (dqSteal ov.dq)):=List.getElem?_set_self hvlt
 have ho1:(x.own v (ov.deq (dqSteal ov.dq))).ow[p]? = some o:=by
  show (x.ow.set v _)[p]? = _
  rw [List.getElem?_set_ne hvp,ho]
 have hSA:∀ (r:List Ev.Asr) (w':World),Ev.Hold ⟨w,F⟩ (r++raceL b c x es) w'→w'.cell? ⟨b.br,7,none⟩=some (.slice (some ⟨b.bo,0,none⟩) c.n b.cp)∧w'.cell? ⟨b.bo,p * 7+1,none⟩=some (.int .i64 (v:Int))∧w'.cell? ⟨b.bo,v * 7+4,none⟩=some (.pointer (some ⟨dv,0,none⟩)):=fun r w' hh =>
  ⟨cell_of (race_at hh) 7 _ rfl,row_at hp ho hh (by rw [← hcv]; rfl),row_at hv hov hh (by rw [← hdvE]; rfl)⟩
 have hSB:∀ (r:List Ev.Asr) (w':World),Ev.Hold ⟨w,F⟩ (r++raceL b c (x.own v (ov.deq (dqSteal ov.dq))) es) w'→w'.cell? ⟨b.br,7,none⟩=some (.slice (some ⟨b.bo,0,none⟩) c.n b.cp)∧w'.cell? ⟨b.bo,p * 7+1,none⟩=some (.int .i64 (v:Int))∧w'.cell? ⟨b.bo,v * 7+4,none⟩=some (.pointer (some ⟨dv,0,none⟩)):=fun r w' hh =>
  ⟨cell_of (race_at hh) 7 _ rfl,row_at hp ho1 hh (by rw [← hcv]; rfl),row_at hv hov1 hh (by rw [← hdvE]; rfl)⟩
 have hSC:∀ (r:List Ev.Asr) (w':World),Ev.Hold ⟨w,F⟩ (r++raceL b c ((x.own v (ov.deq (dqSteal ov.dq))).holds (decide (dqOld c ov.dq=u.hands))) es) w'→w'.cell? ⟨b.br,7,none⟩=some (.slice (some ⟨b.bo,0,none⟩) c.n b.cp)∧w'.cell? ⟨b.bo,p * 7+1,none⟩=some (.int .i64 (v:Int))∧w'.cell? ⟨b.bo,v * 7+4,none⟩=some (.pointer (some ⟨dv,0,none⟩)):=fun r w' hh =>
  ⟨cell_of (race_at hh) 7 _ rfl,row_at (x:=(x.own v (ov.deq (dqSteal ov.dq))).holds (decide (dqOld c ov.dq=u.hands))) hp ho1 hh (by rw [← hcv]; rfl),row_at (x:=(x.own v (ov.deq (dqSteal ov.dq))).holds (decide (dqOld c ov.dq=u.hands))) hv hov1 hh (by rw [← hdvE]; rfl)⟩
 have hold64:(dqOld c ov.dq).length≤100000:=by
  unfold dqOld dqAll
  have:=hdv.sz
  have:=c.qb
  simp
  omega
 cases hgn:o.gn with
 | false =>
  rw [hgn] at e5
  cases bd with
  | true =>
   have hu0:u.st=0:=of_decide_eq_true hbd
   have h1d:=hold_keep h1 ((Below.refl _ w1).drew)
   gi_wp2
   refine ⟨trivial,?_⟩
   gi_wp2
   refine wpIn_wide.2 ?_
   go_region_held3 (fun w'=>w'.cell? ⟨b.br,7,none⟩=some (.slice (some ⟨b.bo,0,none⟩) c.n b.cp)∧w'.cell? ⟨b.bo,p * 7+1,none⟩=some (.int .i64 (v:Int))∧w'.cell? ⟨b.bo,v * 7+4,none⟩=some (.pointer (some ⟨dv,0,none⟩))) ((first | exact hSA _ _ h1d | exact hSB _ _ h3 | exact hSB _ _ h4 | exact hSC _ _ h5 | fail)) ((first
    | (go_at_call 101; have hcon:=callsIn_wide.1 (vsteal_in 0 hq hok.2.1 hov hdv hdvE h1d); (with_reducible refine hcon.mono ?_); clear hcon; rintro e w3 ⟨a3,k3,rfl,h3'⟩; have h3:Ev.Hold ⟨w,F⟩ ([isA (.slice ah u.hands.length kh) u.hands,isA (.slice a3 (dqOld c ov.dq).length k3) (dqOld c ov.dq)]++raceL b c (x.own v (ov.deq (dqSteal ov.dq))) es) w3:=h3'; clear h3')
    | (go_at_call 37; have hcon:=callsIn_wide.1 (equal_in 0 _ _ (dqOld c ov.dq) u.hands w3 (hold_slr (hold_swap h3)) (hold_slr h3) (by omega)); (with_reducible refine hcon.mono ?_); clear hcon; rintro e w4 ⟨rfl,B4⟩; have h4:=hold_keep h3 B4)
    | (go_at_call 64; have hcon:=callsIn_wide.1 (rholds_in 0 (decide (dqOld c ov.dq=u.hands)) h4); (with_reducible refine hcon.mono ?_); clear hcon; rintro e w5 ⟨rfl,h5⟩)))
   obtain ⟨k1,hk1⟩ : ∃ k1:Nat,min 1 u.hands.length=k1:=⟨_,rfl⟩
   have hkle:k1≤u.hands.length:=by omega
   have hmin:min (1:Int) (u.hands.length:Int)=(k1:Int):=by omega
   obtain ⟨ac,cc,hcv5⟩:=cut_lo (lo:=k1) (hold_slr h5) rfl
   have hcut:∀ w,(Instr.sliceAt 35 (.slice ah u.hands.length kh) (some (.int .i64 (k1:Int))) none none).run Tryz.prog w=.ok (.slice ac (u.hands.length - k1) cc) w:=by
    obtain ⟨i0,hi,hz1,hz0,hz2⟩:=infInt
    intro w
    rw [← hcv5]
    exact Ev.cut_runLo (kd:=.i64) (hold_slr h5) Tryz.underlying35 hi hz1 hkle w
   have h5':Ev.Hold ⟨w,F⟩ ([isA (.slice ac (u.hands.length - k1) cc) (u.hands.drop 1)]++raceL b c ((x.own v (ov.deq (dqSteal ov.dq))).holds (decide (dqOld c ov.dq=u.hands))) es) w5:=by
    have q:=h5.cutLo hkle
    rw [hcv5] at q
    rw [cut_isA hk1] at q
    exact hold_drop (r:=[_]) (hold_swap q)
   have f5:w5.frozen? ⟨b.bo,p * 7+5,none⟩=false:=row_froz h5 _
   have c5:w5.cell? ⟨b.bo,p * 7+5,none⟩=some (.bool false):=row_at (x:=(x.own v (ov.deq (dqSteal ov.dq))).holds (decide (dqOld c ov.dq=u.hands))) hp ho1 h5 (by rw [← hgn]; rfl)
   have f6d:w5.frozen? ⟨b.bo,p * 7+6,none⟩=false:=row_froz h5 _
   have c6d:w5.cell? ⟨b.bo,p * 7+6,none⟩=some (.slice ar o.rs.length kr):=row_at (x:=(x.own v (ov.deq (dqSteal ov.dq))).holds (decide (dqOld c ov.dq=u.hands))) hp ho1 h5 (by rw [← hrv]; rfl)
   have h6:=row_set (x:=(x.own v (ov.deq (dqSteal ov.dq))).holds (decide (dqOld c ov.dq=u.hands))) (o':=⟨o.kd,o.cv,o.cg,o.mac,o.dq,true,o.rs⟩) (e':=es p) hp ho1 5 (by decide) (.bool true) rfl [isA (.slice ac (u.hands.length - k1) cc) (u.hands.drop 1)] (fun m w h=>h) h5'
   have hlt1:p < ((x.own v (ov.deq (dqSteal ov.dq))).holds (decide (dqOld c ov.dq=u.hands))).ow.length:=(List.getElem?_eq_some_iff.1 ho1).1
   rw [esAt_id] at h6
   have ho6:(((x.own v (ov.deq (dqSteal ov.dq))).holds (decide (dqOld c ov.dq=u.hands))).own p ⟨o.kd,o.cv,o.cg,o.mac,o.dq,true,o.rs⟩).ow[p]? = some ⟨o.kd,o.cv,o.cg,o.mac,o.dq,true,o.rs⟩:=List.getElem?_set_self hlt1
   have h7:=row_set (o':=⟨o.kd,o.cv,o.cg,o.mac,o.dq,true,u.hands.drop 1⟩) (e':=⟨(es p).d,(es p).mv,.slice ac (u.hands.length - k1) cc⟩) hp ho6 6 (by decide) (.slice ac (u.hands.length - k1) cc) rfl [] (fun m w h=>new_rest h) h6
   have h8:=hold_keep h7 ((Below.refl _ _).drew)
   rw [List.nil_append,own_own] at h8
   have ex:racePoint c x p o (.steal v u)=(((x.own v (ov.deq (dqSteal ov.dq))).holds (decide (dqOld c ov.dq=u.hands))).own p ⟨o.kd,o.cv,o.cg,o.mac,o.dq,true,u.hands.drop 1⟩):=by
    simp only [racePoint]
    rw [if_pos ⟨hgn,.inl hu0⟩,hov]
    rfl
   rw [← ex] at h8
   gi_wp2
   refine wpIn_wide.2 ?_
   go_region_held3 (fun _=>True) (trivial) (fail)
   all_goals (gi_wp2; exact bodyPost_end (results_none rfl _ _ _) rfl ⟨rfl,_,h8⟩)
  | false =>
   gi_wp2
   refine ⟨trivial,fun h=>by simp [Fence.wide] at h,(smany_in (m - 1) hp ho hM hmv hok h1).mono ?_⟩
   rintro e w2 ⟨rfl,h2⟩
   by_cases hmany:0 < u.many
   ·have hgt:((u.many:Nat) : Int) > 0:=by omega
    have h1d:=hold_keep h2 ((Below.refl _ w2).drew)
    gi_wp2
    refine wpIn_wide.2 ?_
    go_region_held3 (fun w'=>w'.cell? ⟨b.br,7,none⟩=some (.slice (some ⟨b.bo,0,none⟩) c.n b.cp)∧w'.cell? ⟨b.bo,p * 7+1,none⟩=some (.int .i64 (v:Int))∧w'.cell? ⟨b.bo,v * 7+4,none⟩=some (.pointer (some ⟨dv,0,none⟩))) ((first | exact hSA _ _ h1d | exact hSB _ _ h3 | exact hSB _ _ h4 | exact hSC _ _ h5 | fail)) ((first
     | (go_at_call 101; have hcon:=callsIn_wide.1 (vsteal_in 0 hq hok.2.1 hov hdv hdvE h1d); (with_reducible refine hcon.mono ?_); clear hcon; rintro e w3 ⟨a3,k3,rfl,h3'⟩; have h3:Ev.Hold ⟨w,F⟩ ([isA (.slice ah u.hands.length kh) u.hands,isA (.slice a3 (dqOld c ov.dq).length k3) (dqOld c ov.dq)]++raceL b c (x.own v (ov.deq (dqSteal ov.dq))) es) w3:=h3'; clear h3')
     | (go_at_call 37; have hcon:=callsIn_wide.1 (equal_in 0 _ _ (dqOld c ov.dq) u.hands w3 (hold_slr (hold_swap h3)) (hold_slr h3) (by omega)); (with_reducible refine hcon.mono ?_); clear hcon; rintro e w4 ⟨rfl,B4⟩; have h4:=hold_keep h3 B4)
     | (go_at_call 64; have hcon:=callsIn_wide.1 (rholds_in 0 (decide (dqOld c ov.dq=u.hands)) h4); (with_reducible refine hcon.mono ?_); clear hcon; rintro e w5 ⟨rfl,h5⟩)))
    obtain ⟨k1,hk1⟩ : ∃ k1:Nat,min 1 u.hands.length=k1:=⟨_,rfl⟩
    have hkle:k1≤u.hands.length:=by omega
    have hmin:min (1:Int) (u.hands.length:Int)=(k1:Int):=by omega
    obtain ⟨ac,cc,hcv5⟩:=cut_lo (lo:=k1) (hold_slr h5) rfl
    have hcut:∀ w,(Instr.sliceAt 35 (.slice ah u.hands.length kh) (some (.int .i64 (k1:Int))) none none).run Tryz.prog w=.ok (.slice ac (u.hands.length - k1) cc) w:=by
     obtain ⟨i0,hi,hz1,hz0,hz2⟩:=infInt
     intro w
     rw [← hcv5]
     exact Ev.cut_runLo (kd:=.i64) (hold_slr h5) Tryz.underlying35 hi hz1 hkle w
    have h5':Ev.Hold ⟨w,F⟩ ([isA (.slice ac (u.hands.length - k1) cc) (u.hands.drop 1)]++raceL b c ((x.own v (ov.deq (dqSteal ov.dq))).holds (decide (dqOld c ov.dq=u.hands))) es) w5:=by
     have q:=h5.cutLo hkle
     rw [hcv5] at q
     rw [cut_isA hk1] at q
     exact hold_drop (r:=[_]) (hold_swap q)
    have f5:w5.frozen? ⟨b.bo,p * 7+5,none⟩=false:=row_froz h5 _
    have c5:w5.cell? ⟨b.bo,p * 7+5,none⟩=some (.bool false):=row_at (x:=(x.own v (ov.deq (dqSteal ov.dq))).holds (decide (dqOld c ov.dq=u.hands))) hp ho1 h5 (by rw [← hgn]; rfl)
    have f6d:w5.frozen? ⟨b.bo,p * 7+6,none⟩=false:=row_froz h5 _
    have c6d:w5.cell? ⟨b.bo,p * 7+6,none⟩=some (.slice ar o.rs.length kr):=row_at (x:=(x.own v (ov.deq (dqSteal ov.dq))).holds (decide (dqOld c ov.dq=u.hands))) hp ho1 h5 (by rw [← hrv]; rfl)
    have h6:=row_set (x:=(x.own v (ov.deq (dqSteal ov.dq))).holds (decide (dqOld c ov.dq=u.hands))) (o':=⟨o.kd,o.cv,o.cg,o.mac,o.dq,true,o.rs⟩) (e':=es p) hp ho1 5 (by decide) (.bool true) rfl [isA (.slice ac (u.hands.length - k1) cc) (u.hands.drop 1)] (fun m w h=>h) h5'
    have hlt1:p < ((x.own v (ov.deq (dqSteal ov.dq))).holds (decide (dqOld c ov.dq=u.hands))).ow.length:=(List.getElem?_eq_some_iff.1 ho1).1
    rw [esAt_id] at h6
    have ho6:(((x.own v (ov.deq (dqSteal ov.dq))).holds (decide (dqOld c ov.dq=u.hands))).own p ⟨o.kd,o.cv,o.cg,o.mac,o.dq,true,o.rs⟩).ow[p]? = some ⟨o.kd,o.cv,o.cg,o.mac,o.dq,true,o.rs⟩:=List.getElem?_set_self hlt1
    have h7:=row_set (o':=⟨o.kd,o.cv,o.cg,o.mac,o.dq,true,u.hands.drop 1⟩) (e':=⟨(es p).d,(es p).mv,.slice ac (u.hands.length - k1) cc⟩) hp ho6 6 (by decide) (.slice ac (u.hands.length - k1) cc) rfl [] (fun m w h=>new_rest h) h6
    have h8:=hold_keep h7 ((Below.refl _ _).drew)
    rw [List.nil_append,own_own] at h8
    have ex:racePoint c x p o (.steal v u)=(((x.own v (ov.deq (dqSteal ov.dq))).holds (decide (dqOld c ov.dq=u.hands))).own p ⟨o.kd,o.cv,o.cg,o.mac,o.dq,true,u.hands.drop 1⟩):=by
     simp only [racePoint]
     rw [if_pos ⟨hgn,.inr hmany⟩,hov]
     rfl
    rw [← ex] at h8
    gi_wp2
    refine wpIn_wide.2 ?_
    go_region_held3 (fun _=>True) (trivial) (fail)
    all_goals (gi_wp2; exact bodyPost_end (results_none rfl _ _ _) rfl ⟨rfl,_,h8⟩)
   ·have hgt:¬ ((u.many:Nat) : Int) > 0:=by omega
    have hu0:¬ u.st=0:=of_decide_eq_false hbd
    have ex:racePoint c x p o (.steal v u)=x:=by
     simp only [racePoint]
     rw [if_neg (fun h=>h.2.elim hu0 hmany),if_neg hu0]
    gi_wp2
    refine bodyPost_end (results_none rfl _ _ _) rfl ⟨rfl,es,?_⟩
    rw [ex]
    exact hold_drop h2
 | true =>
  rw [hgn] at e5
  cases bd with
  | false =>
   gi_wp2
   ·next g1 g2=>exact absurd g1 (by intro h; cases h)
   ·next g1 g2=>exact absurd g1 (by intro h; cases h)
   have hu0:¬ u.st=0:=of_decide_eq_false hbd
   have ex:racePoint c x p o (.steal v u)=x:=by
    simp only [racePoint]
    rw [if_neg (fun h=>by rw [hgn] at h; cases h.1),if_neg hu0]
   refine ⟨trivial,?_⟩
   gi_wp2
   refine bodyPost_end (results_none rfl _ _ _) rfl ⟨rfl,es,?_⟩
   rw [ex]
   exact hold_drop h1
  | true =>
   gi_wp2
   ·next g1 g2=>exact absurd g1 (by intro h; cases h)
   ·next g1 g2=>exact absurd g1 (by intro h; cases h)
   have hu0:u.st=0:=of_decide_eq_true hbd
   refine ⟨trivial,?_⟩
   gi_wp2
   obtain ⟨dp,hdpE⟩ : ∃ dp,(es p).d=dp:=⟨_,rfl⟩
   obtain ⟨n,hn⟩ : ∃ n,dqN c o.dq o.rs=n:=⟨_,rfl⟩
   have hnle:n≤o.rs.length:=by rw [← hn]; exact Nat.min_le_left _ _
   have h1':Ev.Hold ⟨w,F⟩ ([]++raceL b c x es) w1:=hold_drop h1
   have hd5:=hold_keep h1' ((Below.refl _ w1).drew)
   have hT:∀ (x':RaceS) (o':OwnS) (r:List Ev.Asr) (w':World),x'.ow[p]? = some o'→o'.rs=o.rs→Ev.Hold ⟨w,F⟩ (r++raceL b c x' es) w'→w'.cell? ⟨b.bo,p * 7+4,none⟩=some (.pointer (some ⟨dp,0,none⟩))∧w'.cell? ⟨b.bo,p * 7+6,none⟩=some (.slice ar o.rs.length kr):=fun x' o' r w' ho' hr' hh=>⟨row_at hp ho' hh (by rw [← hdpE]; rfl),row_at hp ho' hh (by rw [← hrv]; rfl)⟩
   refine wpIn_wide.2 ?_
   go_region_held3 (fun w'=>w'.cell? ⟨b.bo,p * 7+4,none⟩=some (.pointer (some ⟨dp,0,none⟩))∧w'.cell? ⟨b.bo,p * 7+6,none⟩=some (.slice ar o.rs.length kr)) ((first | exact hT _ _ _ _ ho rfl hd5 | exact hT _ _ _ _ ho2 rfl h3 | fail)) ((first
    | (go_at_call 62; obtain ⟨F1,k1,back⟩:=own_dqr hp ho hd5; rw [hdpE,hrv] at k1 back; have hcon:=callsIn_wide.1 (dlay_in 0 hdp hrs k1); (with_reducible refine hcon.mono ?_); clear hcon; rintro e w3 ⟨rfl,hh⟩; rw [hn] at hh ⊢; have h3':=back _ [] _ hh; have h3:Ev.Hold ⟨w,F⟩ ([]++raceL b c (x.own p (o.deq (dqLay c o.dq (o.rs.take n)))) es) w3:=h3'; have ho2:(x.own p (o.deq (dqLay c o.dq (o.rs.take n)))).ow[p]? = some (o.deq (dqLay c o.dq (o.rs.take n))):=List.getElem?_set_self (List.getElem?_eq_some_iff.1 ho).1; clear back k1 h3' hh)))
   have hd6:=hold_keep h3 ((Below.refl _ w3).drew)
   obtain ⟨a9,k9,hcv9⟩:=cut_lo (lo:=n) (by rw [← hrv]; exact rest_slr (o:=o.deq (dqLay c o.dq (o.rs.take n))) hp ho2 h3) rfl
   have hsl3:Ev.SlR 1 (.slice ar o.rs.length kr) o.rs.length (ints o.rs) w3:=by rw [← hrv]; exact rest_slr (o:=o.deq (dqLay c o.dq (o.rs.take n))) hp ho2 h3
   have hcut:∀ w,(Instr.sliceAt 35 (.slice ar o.rs.length kr) (some (.int .i64 (n:Int))) none none).run Tryz.prog w=.ok (.slice a9 (o.rs.length - n) k9) w:=by
    obtain ⟨i0,hi,hz1,hz0,hz2⟩:=infInt
    intro w
    rw [← hcv9]
    exact Ev.cut_runLo (kd:=.i64) hsl3 Tryz.underlying35 hi hz1 hnle w
   have hsl9:∀ (r:List Ev.Asr) (w':World),Ev.Hold ⟨w,F⟩ (r++raceL b c (x.own p (o.deq (dqLay c o.dq (o.rs.take n)))) es) w'→Ev.SlR 1 (.slice a9 (o.rs.length - n) k9) (o.rs.drop n).length (ints (o.rs.drop n)) w':=fun r w' hh=>by
    have q:Ev.SlR 1 (.slice ar o.rs.length kr) o.rs.length (ints o.rs) w':=by rw [← hrv]; exact rest_slr (o:=o.deq (dqLay c o.dq (o.rs.take n))) hp ho2 hh
    have q2:=slr_cut q rfl hnle (Nat.le_refl _) hcv9
    rwa [List.take_of_length_le (by simp)] at q2
   have ex:racePoint c x p o (.steal v u)=(x.own p (o.deq (dqLay c o.dq (o.rs.take n)))).holds (decide (o.rs.drop n=u.left)):=by
    simp only [racePoint]
    rw [if_neg (fun h=>by rw [hgn] at h; cases h.1),if_pos hu0,hn]
   have hdrop:(o.rs.drop n).length≤100000:=by rw [List.length_drop]; omega
   gi_wp2
   refine wpIn_wide.2 ?_
   go_region_held3 (fun w'=>w'.cell? ⟨b.bo,p * 7+4,none⟩=some (.pointer (some ⟨dp,0,none⟩))∧w'.cell? ⟨b.bo,p * 7+6,none⟩=some (.slice ar o.rs.length kr)) ((first | exact hT _ _ _ _ ho2 rfl hd6 | exact hT _ _ _ _ ho2 rfl h7 | exact hT _ _ _ _ ho2 rfl h8 | exact hT ((x.own p (o.deq (dqLay c o.dq (o.rs.take n)))).holds (decide (o.rs.drop n=u.left))) _ _ _ ho2 rfl h9 | fail)) ((first
    | (go_at_call 70; have hcon:=callsIn_wide.1 (sleft_in 0 (x:=x.own p (o.deq (dqLay c o.dq (o.rs.take n)))) (o:=o.deq (dqLay c o.dq (o.rs.take n))) hp ho2 hM hmv hok hm hd6); (with_reducible refine hcon.mono ?_); clear hcon; rintro e w7 ⟨a7,k7,rfl,h7'⟩; have h7:Ev.Hold ⟨w,F⟩ ([isA (.slice a7 u.left.length k7) u.left]++raceL b c (x.own p (o.deq (dqLay c o.dq (o.rs.take n)))) es) w7:=h7'; clear h7')
    | (go_at_call 37; have hcon:=callsIn_wide.1 (equal_in 0 _ _ (o.rs.drop n) u.left w7 (hsl9 _ _ h7) (hold_slr h7) hdrop); (with_reducible refine hcon.mono ?_); clear hcon; rintro e w8 ⟨rfl,B8⟩; have h8:=hold_keep h7 B8)
    | (go_at_call 64; have hcon:=callsIn_wide.1 (rholds_in 0 (decide (o.rs.drop n=u.left)) h8); (with_reducible refine hcon.mono ?_); clear hcon; rintro e w9 ⟨rfl,h9⟩)))
   all_goals (gi_wp2; refine bodyPost_end (results_none rfl _ _ _) rfl ⟨rfl,es,?_⟩; rw [ex]; exact hold_drop h9)
end Go.Proofs.YtkmccgombmogmaaGreat
namespace Go.Proofs.YtkmccgombmogmaaGreat
open Go.RowKit
set_option linter.unusedVariables false
set_option linter.unusedSimpArgs false
set_option maxRecDepth 8000
section
variable {b:RB} {c:Cfg} {x:RaceS} {es:Nat→OwnV} {p:Nat} {o:OwnS} {bp:Nat}
theorem own_put {u:PutS} {ctx:Ev.Ctx} {w:World} {r:List Ev.Asr} (hp:p < c.n) (ho:x.ow[p]? = some o) (hM:o.mac=some (.put u)) (hmv:(es p).mv=.iface 81 (.pointer (some ⟨bp,0,none⟩))) (h:Ev.Hold ctx (r++raceL b c x es) w) :
  ∃ F,Ev.Now [putA c p bp u] F w∧∀ (m:List Ev.Asr) (w':World),Ev.Hold ⟨w,F⟩ (putA c p bp u::m) w'→Ev.Hold ctx (r++(m++raceL b c x es)) w':=by
 obtain ⟨F2,k2,back⟩:=own_mac hp ho h
 rw [hmv,hM] at k2 back
 obtain ⟨bp',e,hp1⟩:=mac_put (Ev.Hold.start k2)
 cases e
 obtain ⟨F3,k3,back3⟩:=now_first hp1
 refine ⟨F3,k3,fun m w' hh=>back m w' (put_mac ?_)⟩
 have:=back3 _ _ hh
 rw [List.append_nil] at this
 exact this
theorem own_get {u:GetS} {ctx:Ev.Ctx} {w:World} {r:List Ev.Asr} (hp:p < c.n) (ho:x.ow[p]? = some o) (hM:o.mac=some (.get u)) (hmv:(es p).mv=.iface 83 (.pointer (some ⟨bp,0,none⟩))) (h:Ev.Hold ctx (r++raceL b c x es) w) :
  ∃ F,Ev.Now [getA c p bp u] F w∧∀ (m:List Ev.Asr) (w':World),Ev.Hold ⟨w,F⟩ (getA c p bp u::m) w'→Ev.Hold ctx (r++(m++raceL b c x es)) w':=by
 obtain ⟨F2,k2,back⟩:=own_mac hp ho h
 rw [hmv,hM] at k2 back
 obtain ⟨bp',e,hp1⟩:=mac_get (Ev.Hold.start k2)
 cases e
 obtain ⟨F3,k3,back3⟩:=now_first hp1
 refine ⟨F3,k3,fun m w' hh=>back m w' (get_mac ?_)⟩
 have:=back3 _ _ hh
 rw [List.append_nil] at this
 exact this
theorem pput_in (n:Nat) {ctx:Ev.Ctx} {w:World} {r:List Ev.Asr} (hq:c.q=2∨c.q=4∨c.q=8) (hp:p < c.n) (ho:x.ow[p]? = some o) (hd:DqOk c o.dq) {dv:Nat} (hdv:(es p).d=dv) (g:Int) (h:Ev.Hold ctx (r++raceL b c x es) w) :
  CallsIn Fence.wide n Tryz.prog 65 #[.pointer (some ⟨dv,0,none⟩),.int .i64 g] w fun e w'=>∃ a k,e=.returned (.slice a (dqPut c o.dq g).2.length k)∧Ev.Hold ctx (r++([isA (.slice a (dqPut c o.dq g).2.length k) (dqPut c o.dq g).2]++raceL b c (x.own p (o.deq (dqPut c o.dq g).1)) es)) w':=by
 obtain ⟨F,k1,back⟩:=own_dq hp ho h
 rw [hdv] at k1 back
 refine (callsIn_wide.2 (dput_ok hq hd g k1)).mono ?_
 rintro e w' ⟨z,lz,rfl,hh⟩
 obtain ⟨a,k,rfl⟩:=slr_val (hold_slr hh)
 exact ⟨a,k,rfl,back _ [isA _ _] _ (hh.sel [1,0] (by kernel_rfl))⟩
theorem pover_in (n:Nat) {u:PutS} {ctx:Ev.Ctx} {w:World} {r:List Ev.Asr} (hp:p < c.n) (ho:x.ow[p]? = some o) (hM:o.mac=some (.put u)) (hmv:(es p).mv=.iface 81 (.pointer (some ⟨bp,0,none⟩))) (hok:PutOk c u) (hu0:u.st=0) (h:Ev.Hold ctx (r++raceL b c x es) w) :
  CallsIn Fence.wide n Tryz.prog 66 #[.pointer (some ⟨bp,0,none⟩)] w fun e w'=>∃ a k,e=.returned (.slice a u.hs.length k)∧Ev.Hold ctx (r++([isA (.slice a u.hs.length k) u.hs]++raceL b c x es)) w':=by
 obtain ⟨F,k1,back⟩:=own_put hp ho hM hmv h
 refine (mac_over_put n hp hok k1).mono ?_
 rintro e w' ⟨z,rfl,hh⟩
 rw [if_pos hu0] at hh
 obtain ⟨a,k,rfl⟩:=slr_val (hold_slr hh)
 exact ⟨a,k,rfl,back [isA _ _] _ (hh.sel [1,0] (by kernel_rfl))⟩
theorem gget_in (n:Nat) {ctx:Ev.Ctx} {w:World} {r:List Ev.Asr} (hq:c.q≤8) (hp:p < c.n) (ho:x.ow[p]? = some o) (hd:DqOk c o.dq) {dv:Nat} (hdv:(es p).d=dv) (h:Ev.Hold ctx (r++raceL b c x es) w) :
  CallsIn Fence.wide n Tryz.prog 67 #[.pointer (some ⟨dv,0,none⟩)] w fun e w'=>e=.returned (.tuple #[.int .i64 ((dqAll c o.dq).headD 0),.bool (decide (szW o.dq.w ≠ 0))])∧Ev.Hold ctx (r++raceL b c (x.own p (o.deq (dqGet o.dq))) es) w':=by
 obtain ⟨F,k1,back⟩:=own_dq hp ho h
 rw [hdv] at k1 back
 refine (dget_in n hq hd k1).mono ?_
 rintro e w' ⟨rfl,hh⟩
 exact ⟨rfl,back (dqGet o.dq) [] _ hh⟩
theorem ggot_in (n:Nat) {u:GetS} {ctx:Ev.Ctx} {w:World} {r:List Ev.Asr} (hp:p < c.n) (ho:x.ow[p]? = some o) (hM:o.mac=some (.get u)) (hmv:(es p).mv=.iface 83 (.pointer (some ⟨bp,0,none⟩))) (h:Ev.Hold ctx (r++raceL b c x es) w) :
  CallsIn Fence.wide n Tryz.prog 68 #[.pointer (some ⟨bp,0,none⟩)] w fun e w'=>e=.returned (.tuple #[.int .i64 (if u.has then u.sn else 0),.bool u.has])∧Ev.Hold ctx (r++raceL b c x es) w':=by
 obtain ⟨F,k1,back⟩:=own_get hp ho hM hmv h
 exact (got_get n (Ev.Hold.start k1)).mono (fun e w' ⟨e1,hh⟩=>⟨e1,back [] _ hh⟩)
theorem mac_is {ctx:Ev.Ctx} {w:World} {r:List Ev.Asr} {M:MacS} (hp:p < c.n) (ho:x.ow[p]? = some o) (hM:o.mac=some M) (h:Ev.Hold ctx (r++raceL b c x es) w) : ∃ bp,(es p).mv=.iface (match M with | .put _ => 81 | .get _ => 83 | .steal _ _ => 85) (.pointer (some ⟨bp,0,none⟩)):=by
 obtain ⟨F2,k2,back⟩:=own_mac hp ho h
 rw [hM] at k2
 cases M with
 | put u=>obtain ⟨bp,e,_⟩:=mac_put (Ev.Hold.start k2); exact ⟨bp,e⟩
 | get u=>obtain ⟨bp,e,_⟩:=mac_get (Ev.Hold.start k2); exact ⟨bp,e⟩
 | steal v u=>obtain ⟨bp,e,_⟩:=mac_steal (Ev.Hold.start k2); exact ⟨bp,e⟩
end
structure PointOk (c:Cfg) (x:RaceS) (p:Nat) (o:OwnS) (M:MacS) : Prop where
 q:c.q=2∨c.q=4∨c.q=8
 mem:MemOk c x.m
 mac:MacOk c p M
 dq:DqOk c o.dq
 rs:o.rs.length≤64
 get:∀ u,M=.get u→u.st=0→(dqAll c o.dq).headD 0=(if u.has then u.sn else 0)∧decide (szW o.dq.w ≠ 0)=u.has
 steal:∀ v u,M=.steal v u→o.cv=(v:Int)∧u.hands.length≤100∧u.left.length≤100∧∃ ov,x.ow[v]? = some ov∧DqOk c ov.dq
set_option maxHeartbeats 2000000 in
theorem point_in (m:Nat) {b:RB} {c:Cfg} {x:RaceS} {es:Nat→OwnV} {p:Nat} {o:OwnS} {M:MacS} (hp:p < c.n) (ho:x.ow[p]? = some o) (hM:o.mac=some M) (hok:PointOk c x p o M) {F:Nat→Prop} {w:World} (h:Ev.Now (raceL b c x es) F w) :
  CallsIn Fence.wide m Tryz.prog 36 #[.pointer (some ⟨b.br,0,none⟩),.pointer (some ⟨b.bo,p * 7,none⟩),.bool (decide (M.st=0))] w fun e w'=>e=.returned (.tuple #[])∧∃ es',Ev.Hold ⟨w,F⟩ (raceL b c (racePoint c x p o M) es') w':=by
 refine callsIn_of_wp Tryz.func36 rfl trivial ?_ rfl
 simp only [Tryz.ntmps36,List.size_toArray,List.length_cons,List.length_nil,Nat.reduceAdd,Nat.reduceSub,Array.replicate_succ,Array.replicate_zero,List.push_toArray,List.append_toArray,List.nil_append,List.cons_append]
 have hst:Ev.Hold ⟨w,F⟩ ([]++raceL b c x es) w:=Ev.Hold.start h
 have hq8:c.q≤8:=by have:=hok.q; omega
 obtain ⟨bp,hmv⟩:=mac_is hp ho hM hst
 obtain ⟨dv,hdvE⟩ : ∃ dv,(es p).d=dv:=⟨_,rfl⟩
 obtain ⟨bd,hbd⟩ : ∃ bd,decide (M.st=0)=bd:=⟨_,rfl⟩
 rw [hbd]
 have hlt:p < x.ow.length:=(List.getElem?_eq_some_iff.1 ho).1
 have hT:∀ (x':RaceS) (o':OwnS) (r:List Ev.Asr) (w':World),x'.ow[p]? = some o'→o'.cg=o.cg→Ev.Hold ⟨w,F⟩ (r++raceL b c x' es) w'→w'.cell? ⟨b.bo,p * 7+4,none⟩=some (.pointer (some ⟨dv,0,none⟩))∧w'.cell? ⟨b.bo,p * 7+2,none⟩=some (.int .i64 o.cg):=fun x' o' r w' ho' hr' hh=>⟨row_at hp ho' hh (by rw [← hdvE]; rfl),row_at hp ho' hh (by rw [← hr']; rfl)⟩
 cases M with
 | put u =>
  have hmv':(es p).mv=.iface 81 (.pointer (some ⟨bp,0,none⟩)):=hmv
  have e3:w.cell? ⟨b.bo,p * 7+3,none⟩=some (.iface 81 (.pointer (some ⟨bp,0,none⟩))):=row_at hp ho hst (by rw [← hmv']; rfl)
  have a1:=ta_pp bp
  cases bd with
  | false =>
   have hu0:¬ u.st=0:=of_decide_eq_false hbd
   gi_wp2
   refine bodyPost_end (results_none rfl _ _ _) rfl ⟨rfl,es,?_⟩
   simp only [racePoint,if_neg hu0]
   exact hold_drop hst
  | true =>
   have hu0:u.st=0:=of_decide_eq_true hbd
   have hd4:=hold_keep hst ((Below.refl _ w).drew)
   have hlen:(dqPut c o.dq o.cg).2.length≤100000:=by
    have:=hok.dq.sz
    unfold dqPut
    split
    ·simp
    ·simp only [List.length_append,List.length_drop,dqAll,List.length_map,List.length_range,List.length_cons,List.length_nil]
     omega
   have ho1:(x.own p (o.deq (dqPut c o.dq o.cg).1)).ow[p]? = some (o.deq (dqPut c o.dq o.cg).1):=List.getElem?_set_self hlt
   gi_wp2
   refine wpIn_wide.2 ?_
   go_region_held3 (fun w'=>w'.cell? ⟨b.bo,p * 7+4,none⟩=some (.pointer (some ⟨dv,0,none⟩))∧w'.cell? ⟨b.bo,p * 7+2,none⟩=some (.int .i64 o.cg)) ((first | exact hT _ _ _ _ ho rfl hd4 | exact hT _ _ _ _ ho1 rfl h3 | exact hT _ _ _ _ ho1 rfl h4 | exact hT _ _ _ _ ho1 rfl h5 | exact hT ((x.own p (o.deq (dqPut c o.dq o.cg).1)).holds (decide ((dqPut c o.dq o.cg).2=u.hs))) _ _ _ ho1 rfl h6 | fail)) ((first
    | (go_at_call 65; have hcon:=callsIn_wide.1 (pput_in 0 hok.q hp ho hok.dq hdvE o.cg hd4); (with_reducible refine hcon.mono ?_); clear hcon; rintro e w3 ⟨a3,k3,rfl,h3'⟩; have h3:Ev.Hold ⟨w,F⟩ ([isA (.slice a3 (dqPut c o.dq o.cg).2.length k3) (dqPut c o.dq o.cg).2]++raceL b c (x.own p (o.deq (dqPut c o.dq o.cg).1)) es) w3:=h3'; clear h3')
    | (go_at_call 66; have hcon:=callsIn_wide.1 (pover_in 0 (x:=x.own p (o.deq (dqPut c o.dq o.cg).1)) (o:=o.deq (dqPut c o.dq o.cg).1) hp ho1 hM hmv' hok.mac hu0 h3); (with_reducible refine hcon.mono ?_); clear hcon; rintro e w4 ⟨a4,k4,rfl,h4'⟩; have h4:Ev.Hold ⟨w,F⟩ ([isA (.slice a3 (dqPut c o.dq o.cg).2.length k3) (dqPut c o.dq o.cg).2,isA (.slice a4 u.hs.length k4) u.hs]++raceL b c (x.own p (o.deq (dqPut c o.dq o.cg).1)) es) w4:=h4'; clear h4')
    | (go_at_call 37; have hcon:=callsIn_wide.1 (equal_in 0 _ _ (dqPut c o.dq o.cg).2 u.hs w4 (hold_slr h4) (hold_slr (hold_swap h4)) hlen); (with_reducible refine hcon.mono ?_); clear hcon; rintro e w5 ⟨rfl,B5⟩; have h5:=hold_keep h4 B5)
    | (go_at_call 64; have hcon:=callsIn_wide.1 (rholds_in 0 (decide ((dqPut c o.dq o.cg).2=u.hs)) h5); (with_reducible refine hcon.mono ?_); clear hcon; rintro e w6 ⟨rfl,h6⟩)))
   gi_wp2
   refine bodyPost_end (results_none rfl _ _ _) rfl ⟨rfl,es,?_⟩
   simp only [racePoint,if_pos hu0]
   exact hold_drop h6
 | get u =>
  have hmv':(es p).mv=.iface 83 (.pointer (some ⟨bp,0,none⟩)):=hmv
  have e3:w.cell? ⟨b.bo,p * 7+3,none⟩=some (.iface 83 (.pointer (some ⟨bp,0,none⟩))):=row_at hp ho hst (by rw [← hmv']; rfl)
  have a1:=ta_gp bp
  have a2:=ta_gg bp
  cases bd with
  | false =>
   have hu0:¬ u.st=0:=of_decide_eq_false hbd
   gi_wp2
   refine bodyPost_end (results_none rfl _ _ _) rfl ⟨rfl,es,?_⟩
   simp only [racePoint,if_neg hu0]
   exact hold_drop hst
  | true =>
   have hu0:u.st=0:=of_decide_eq_true hbd
   obtain ⟨e4,_⟩:=hT _ _ _ _ ho rfl hst
   obtain ⟨g1,g2⟩:=hok.get u rfl hu0
   obtain ⟨g,hg⟩ : ∃ g,(if u.has then u.sn else 0)=g:=⟨_,rfl⟩
   obtain ⟨bz,hbz⟩ : ∃ bz,u.has=bz:=⟨_,rfl⟩
   rw [hg] at g1
   rw [hbz] at g2
   have ho1:(x.own p (o.deq (dqGet o.dq))).ow[p]? = some (o.deq (dqGet o.dq)):=List.getElem?_set_self hlt
   gi_wp2
   refine ⟨trivial,fun h=>by simp [Fence.wide] at h,(gget_in (m - 1) hq8 hp ho hok.dq hdvE hst).mono ?_⟩
   rintro e w3 ⟨rfl,h3⟩
   rw [g1,g2]
   gi_wp2
   refine ⟨trivial,fun h=>by simp [Fence.wide] at h,(ggot_in (m - 1) (x:=x.own p (o.deq (dqGet o.dq))) (o:=o.deq (dqGet o.dq)) hp ho1 hM hmv' h3).mono ?_⟩
   rintro e w4 ⟨rfl,h4⟩
   rw [hg,hbz]
   clear g1 g2 hg hbz
   have hbb:(bz == bz)=true:=by simp
   have hee:(g == g)=true:=by simp
   gi_wp2
   refine ⟨trivial,fun h=>by simp [Fence.wide] at h,(rholds_in (m - 1) (x:=x.own p (o.deq (dqGet o.dq))) true h4).mono ?_⟩
   rintro e w5 ⟨rfl,h5⟩
   gi_wp2
   refine bodyPost_end (results_none rfl _ _ _) rfl ⟨rfl,es,?_⟩
   have ex:(decide ((dqAll c o.dq).headD 0=(if u.has then u.sn else 0)) && (decide (szW o.dq.w ≠ 0) == u.has))=true:=by
    obtain ⟨k1,k2⟩:=hok.get u rfl hu0
    rw [k1,k2]
    simp
   simp only [racePoint,if_pos hu0,ex]
   exact hold_drop h5
 | steal v u =>
  have hmv':(es p).mv=.iface 85 (.pointer (some ⟨bp,0,none⟩)):=hmv
  have e3:w.cell? ⟨b.bo,p * 7+3,none⟩=some (.iface 85 (.pointer (some ⟨bp,0,none⟩))):=row_at hp ho hst (by rw [← hmv']; rfl)
  have a1:=ta_sp bp
  have a2:=ta_sg bp
  have a3:=ta_ss bp
  obtain ⟨s1,s2,s3,ov,s4,s5⟩:=hok.steal v u rfl
  have hs:=steals_in (m - 1) hq8 hp ho hM hmv' s1 hok.mac hok.mem s4 hok.dq s5 hok.rs s2 s3 h
  rw [show decide (u.st=0)=bd from hbd] at hs
  gi_wp2
  refine ⟨trivial,fun h=>by simp [Fence.wide] at h,hs.mono ?_⟩
  rintro e w3 ⟨rfl,es',h3⟩
  gi_wp2
  exact bodyPost_end (results_none rfl _ _ _) rfl ⟨rfl,es',h3⟩
end Go.Proofs.YtkmccgombmogmaaGreat
namespace Go.Proofs.YtkmccgombmogmaaGreat
open Go.RowKit
set_option linter.unusedVariables false
set_option linter.unusedSimpArgs false
set_option maxRecDepth 8000
section
variable {c:Cfg} {B:Int} {x:RaceS} {p:Nat} {o:OwnS} {M:MacS}
theorem macI_ok {gn:Bool} {rs:List Int} {m:MemM} (h:MacI c B m p M gn rs) : MacOk c p M:=by
 cases M with
 | put u=>exact PutI.ok h
 | get u=>exact GetI.ok h
 | steal v u=>exact ⟨h.2.2.ok,h.1,h.2.1⟩
theorem hands_le {u:StealS} (h:StealOk u) : u.hands.length≤100∧u.left.length≤100:=by
 unfold StealS.hands StealS.left
 cases hl:u.ly with
 | none =>
  refine ⟨by simp,?_⟩
  split <;> simp
 | some l =>
  have:=(h.lay l hl).1.ls
  refine ⟨by simp only [List.length_append,List.length_take]; omega,?_⟩
  split
  ·show l.ls.length≤100
   omega
  ·simp
theorem macStep_ok (hI:RaceI c B x) (ho:x.ow[p]? = some o) (hM:o.mac=some M) : MacOk c p (M.step c p x.m).1:=by
 have hlt:p < x.ow.length:=(List.getElem?_eq_some_iff.1 ho).1
 have hp:p < c.n:=by rw [← hI.len]; exact hlt
 obtain ⟨h0,hMI,hC⟩:=(hI.ow p o ho).mac M hM
 cases M with
 | put u=>exact (putStep_ok hp (PutI.ok hMI) hI.R.mem).1
 | get u=>exact (getStep_ok hp (GetI.ok hMI) hI.R.mem).1
 | steal v u =>
  obtain ⟨hv,hpv,hSI⟩:=hMI
  exact ⟨(stealStep_ok hp hv hSI.ok hI.R.mem hI.R.sl).1,hv,hpv⟩
def atStep (c:Cfg) (x:RaceS) (p:Nat) (o:OwnS) (M:MacS) : RaceS:=RaceS.own ⟨(M.step c p x.m).2,x.ow,x.pts,x.bad⟩ p (o.now (some (M.step c p x.m).1))
theorem point_ok (hI:RaceI c B x) (ho:x.ow[p]? = some o) (hM:o.mac=some M) : PointOk c (atStep c x p o M) p (o.now (some (M.step c p x.m).1)) (M.step c p x.m).1:=by
 have hlt:p < x.ow.length:=(List.getElem?_eq_some_iff.1 ho).1
 have hp:p < c.n:=by rw [← hI.len]; exact hlt
 have hO:=hI.ow p o ho
 obtain ⟨h0,hMI,hC⟩:=hO.mac M hM
 refine ⟨hI.R.h8,(race_point hI ho hM).1,macStep_ok hI ho hM,hO.dq.ok,hO.rs,fun u hu hst=>?_,fun v u hu=>?_⟩
 ·cases M with
  | put u'=>cases hu
  | get u' =>
   cases hu
   obtain ⟨_,_,_,_,k6⟩:=get_does hI.R hp hMI h0
   obtain ⟨_,j2,j3,_⟩:=k6 hst o.dq hO.dq
   exact ⟨j2,j3⟩
  | steal v u'=>cases hu
 ·cases M with
  | put u'=>cases hu
  | get u'=>cases hu
  | steal v' u' =>
   cases hu
   obtain ⟨hv,hpv,hSI⟩:=hMI
   obtain ⟨q1,q2⟩:=hands_le (stealStep_ok hp hv hSI.ok hI.R.mem hI.R.sl).1
   obtain ⟨ov,hov⟩ : ∃ ov,x.ow[v]? = some ov:=⟨_,List.getElem?_eq_getElem (by rw [hI.len]; exact hv)⟩
   refine ⟨hC.2,q1,q2,ov,?_,(hI.ow v ov hov).dq.ok⟩
   show (x.ow.set p _)[v]? = _
   rw [List.getElem?_set_ne (Ne.symm hpv),hov]
end
section
variable {ctx:Ev.Ctx} {w:World} {r:List Ev.Asr} {b:RB} {c:Cfg} {x:RaceS} {es:Nat→OwnV} {p:Nat} {o:OwnS}
theorem own_mm (hp:p < c.n) (ho:x.ow[p]? = some o) (h:Ev.Hold ctx (r++raceL b c x es) w) :
  ∃ F,Ev.Now [macA c p (es p).mv o.mac,memA b.bm x.m] F w∧∀ (M':Option MacS) (m':MemM) (w':World),Ev.Hold ⟨w,F⟩ [macA c p (es p).mv M',memA b.bm m'] w'→Ev.Hold ctx (r++raceL b c (RaceS.own ⟨m',x.ow,x.pts,x.bad⟩ p (o.now M')) es) w':=by
 have hlt:p < x.ow.length:=(List.getElem?_eq_some_iff.1 ho).1
 have h1:Ev.Hold ctx (ownsL c x.ow es++([memA b.bm x.m]++([raceV b c x,rowsA b c x.ow es]++r))) w:=hold_perm (perm_of (fun f=>by simp only [raceL,raceT,List.map_append,List.map_cons,List.map_nil,List.sum_append,List.sum_cons,List.sum_nil]; omega)) h
 obtain ⟨F1,k1,back⟩:=own_fr [memA b.bm x.m] hp hlt ho h1
 have k2:Ev.Hold ⟨w,F1⟩ ([macA c p (es p).mv o.mac,memA b.bm x.m]++[dqA c (es p).d o.dq,isA (es p).rv o.rs]) w:=(Ev.Hold.start k1).sel [1,3,0,2] (by kernel_rfl)
 obtain ⟨F2,k3,back2⟩:=hold_fr _ k2
 refine ⟨F2,k3,fun M' m' w' hh=>?_⟩
 have h2:Ev.Hold ⟨w,F1⟩ (ownL c p (o.now M') (es p)++[memA b.bm m']) w':=(back2 _ _ hh).sel [2,0,3,1] (by kernel_rfl)
 have h3:=back (o.now M') (es p) [memA b.bm m'] w' h2
 rw [esAt_id] at h3
 have e:raceL b c (RaceS.own ⟨m',x.ow,x.pts,x.bad⟩ p (o.now M')) es=[raceV b c x,memA b.bm m',rowsA b c x.ow es]++ownsL c (x.ow.set p (o.now M')) es:=by
  show [raceV b c x,memA b.bm m',rowsA b c (x.ow.set p (o.now M')) es]++ownsL c (x.ow.set p (o.now M')) es=_
  unfold rowsA
  rw [rows_same (o':=o.now M') ho rfl]
 rw [e]
 exact hold_perm (perm_of (fun f=>by simp only [List.map_append,List.map_cons,List.map_nil,List.sum_append,List.sum_cons,List.sum_nil]; omega)) h3
theorem rring_in (n:Nat) (hp:p < c.n) (hm:MemOk c x.m) (h:Ev.Hold ctx (r++raceL b c x es) w) :
  CallsIn Fence.wide n Tryz.prog 15 #[.pointer (some ⟨b.br,0,none⟩),.int .i64 (p:Int)] w fun e w'=>∃ a k,e=.returned (.slice a (ringL c x.m p).length k)∧Ev.Hold ctx (isA (.slice a (ringL c x.m p).length k) (ringL c x.m p)::(r++raceL b c x es)) w':=by
 have h1:Ev.Hold ctx ([raceV b c x,memA b.bm x.m]++([rowsA b c x.ow es]++(ownsL c x.ow es++r))) w:=hold_perm (perm_of (fun f=>by simp only [raceL,raceT,List.map_append,List.map_cons,List.map_nil,List.sum_append,List.sum_cons,List.sum_nil]; omega)) h
 obtain ⟨F,k1,back⟩:=hold_fr _ h1
 refine (ring_in n hp hm k1).mono ?_
 rintro e w' ⟨v,lv,rfl,hh⟩
 obtain ⟨a,k,rfl⟩:=slr_val (hold_slr hh)
 refine ⟨a,k,rfl,hold_perm (perm_of (fun f=>?_)) (back _ _ hh)⟩
 simp only [raceL,raceT,List.map_append,List.map_cons,List.map_nil,List.sum_append,List.sum_cons,List.sum_nil]
 omega
theorem rdeque_in (n:Nat) (hq:c.q≤8) (hp:p < c.n) (ho:x.ow[p]? = some o) (hd:DqOk c o.dq) (h:Ev.Hold ctx (r++raceL b c x es) w) :
  CallsIn Fence.wide n Tryz.prog 18 #[.pointer (some ⟨b.br,0,none⟩),.int .i64 (p:Int)] w fun e w'=>∃ a k,e=.returned (.slice a (dqAll c o.dq).length k)∧Ev.Hold ctx (isA (.slice a (dqAll c o.dq).length k) (dqAll c o.dq)::(r++raceL b c x es)) w':=by
 obtain ⟨F,k1,back⟩:=hold_fr _ (hold_perm List.perm_append_comm h)
 refine (deque_in n hq hp ho hd k1).mono ?_
 rintro e w' ⟨v,lv,rfl,hh⟩
 have h2:Ev.Hold ⟨w,F⟩ ([isA v (dqAll c o.dq)]++raceL b c x es) w':=hold_perm List.perm_append_comm hh
 obtain ⟨a,k,rfl⟩:=slr_val (hold_slr h2)
 refine ⟨a,k,rfl,hold_perm (perm_of (fun f=>?_)) (back _ _ h2)⟩
 simp only [List.map_append,List.map_cons,List.map_nil,List.sum_append,List.sum_cons,List.sum_nil]
 omega
theorem rhands_in (n:Nat) (hp:p < c.n) (ho:x.ow[p]? = some o) (hm:MemOk c x.m) (hM:∀ M,o.mac=some M→MacOk c p M) (h:Ev.Hold ctx (r++raceL b c x es) w) :
  CallsIn Fence.wide n Tryz.prog 19 #[.pointer (some ⟨b.br,0,none⟩),.int .i64 (p:Int)] w fun e w'=>∃ a k,e=.returned (.slice a (handsO o).length k)∧Ev.Hold ctx (isA (.slice a (handsO o).length k) (handsO o)::(r++raceL b c x es)) w':=by
 obtain ⟨F,k1,back⟩:=hold_fr _ (hold_perm List.perm_append_comm h)
 refine (hands_in n hp ho hm hM k1).mono ?_
 rintro e w' ⟨v,lv,rfl,hh⟩
 have h2:Ev.Hold ⟨w,F⟩ ([isA v (handsO o)]++raceL b c x es) w':=hold_perm List.perm_append_comm hh
 obtain ⟨a,k,rfl⟩:=slr_val (hold_slr h2)
 refine ⟨a,k,rfl,hold_perm (perm_of (fun f=>?_)) (back _ _ h2)⟩
 simp only [List.map_append,List.map_cons,List.map_nil,List.sum_append,List.sum_cons,List.sum_nil]
 omega
theorem rpoint_in (n:Nat) {M:MacS} (hp:p < c.n) (ho:x.ow[p]? = some o) (hM:o.mac=some M) (hok:PointOk c x p o M) (h:Ev.Hold ctx (r++raceL b c x es) w) :
  CallsIn Fence.wide n Tryz.prog 36 #[.pointer (some ⟨b.br,0,none⟩),.pointer (some ⟨b.bo,p * 7,none⟩),.bool (decide (M.st=0))] w fun e w'=>e=.returned (.tuple #[])∧∃ es',Ev.Hold ctx (r++raceL b c (racePoint c x p o M) es') w':=by
 obtain ⟨F,k1,back⟩:=hold_fr _ (hold_perm List.perm_append_comm h)
 refine (point_in n hp ho hM hok k1).mono ?_
 rintro e w' ⟨rfl,es',hh⟩
 exact ⟨rfl,es',hold_perm List.perm_append_comm (back _ _ hh)⟩
theorem rout_in (n:Nat) {M:MacS} (hp:p < c.n) (ho:x.ow[p]? = some o) (hM:o.mac=some M) (hok:MacOk c p M) (hm:MemOk c x.m) (h:Ev.Hold ctx (r++raceL b c x es) w) :
  CallsIn Fence.wide n Tryz.prog 38 #[.pointer (some ⟨b.bo,p * 7,none⟩)] w fun e w'=>∃ a k,e=.returned (.agg #[.int .i64 o.kd,.int .i64 M.got,.slice a M.over.length k])∧Ev.Hold ctx (isA (.slice a M.over.length k) M.over::(r++raceL b c x es)) w':=by
 obtain ⟨F,k1,back⟩:=hold_fr _ (hold_perm List.perm_append_comm h)
 refine (outcome_in n hp ho hM hok hm k1).mono ?_
 rintro e w' ⟨v,lv,rfl,hh⟩
 have h2:Ev.Hold ⟨w,F⟩ ([isA v M.over]++raceL b c x es) w':=hold_perm List.perm_append_comm hh
 obtain ⟨a,k,rfl⟩:=slr_val (hold_slr h2)
 refine ⟨a,k,rfl,hold_perm (perm_of (fun f=>?_)) (back _ _ h2)⟩
 simp only [List.map_append,List.map_cons,List.map_nil,List.sum_append,List.sum_cons,List.sum_nil]
 omega
end
end Go.Proofs.YtkmccgombmogmaaGreat
