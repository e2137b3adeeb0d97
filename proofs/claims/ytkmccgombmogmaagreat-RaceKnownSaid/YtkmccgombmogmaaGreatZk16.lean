/- Part of a proof: see the last text. -/
import Derived.Test.YtkmccgombmogmaaGreatZk14
import Derived.Test.YtkmccgombmogmaaGreatZk4
namespace Go.Proofs.YtkmccgombmogmaaGreat
open Go.RowKit
open Go.Ev (iz iN)
set_option linter.unusedVariables false
set_option linter.unusedSimpArgs false
set_option maxRecDepth 8000
section
variable {ctx:Ev.Ctx} {w:World} {r:List Ev.Asr} {c:Cfg} {dv:Value} {l:List Int}
theorem slV_hi {e:TypeId} {sz n hi:Nat} {v:Value} {xs:List Value} {F:Nat→Prop} (h:Ev.SlV e sz v n xs F w) (hh:hi≤n) : Ev.SlV e sz (Ev.cutV sz v 0 hi) hi (xs.take (hi * sz)) F w:=by
 obtain ⟨h1,h3⟩:=h
 have hle:=Nat.mul_le_mul_right sz hh
 refine ⟨by rw [List.length_take,h1]; omega,?_⟩
 rcases h3 with ⟨he,rfl,hF⟩ | ⟨b,off,c,arr,rfl,hF,hb0,hx,hs,hnc⟩
 ·obtain rfl:hi=0:=by omega
  refine .inl ⟨?_,rfl,hF⟩
  rcases he with rfl | ⟨b,off,rfl⟩
  ·exact .inl rfl
  ·exact .inr ⟨b,off,by simp [Ev.cutV]⟩
 ·refine .inr ⟨b,off,c,arr,?_,hF,hb0,fun i hi'=>?_,hs,by omega⟩
  ·simp only [Ev.cutV,Nat.zero_mul,Ev.addMk,Nat.add_zero,Nat.sub_zero]
   split <;> rfl
  ·rw [hx i (by omega),List.getElem?_take,if_pos hi']
theorem cutHiI (h:Ev.Hold ctx (isA dv l::r) w) {hi:Nat} (hh:hi≤l.length) : Ev.Hold ctx (isA (Ev.cutV 1 dv 0 hi) (l.take hi)::r) w:=by
 refine h.head (fun F h1=>?_)
 have h2:=slV_hi (hi:=hi) (show Ev.SlV 3 1 dv l.length (ints l) F w from h1) hh
 show Ev.SlV 3 1 _ (l.take hi).length (ints (l.take hi)) F w
 rw [show (l.take hi).length=hi by rw [List.length_take]; omega,show ints (l.take hi)=(ints l).take (hi * 1) by rw [Nat.mul_one]; simp [ints,List.map_take]]
 exact h2
theorem cutLoI (h:Ev.Hold ctx (isA dv l::r) w) {lo:Nat} (hh:lo≤l.length) : Ev.Hold ctx (isA (Ev.cutV 1 dv lo l.length) (l.drop lo)::r) w:=by
 have h2:=h.cutLo (lo:=lo) hh
 have e1:Ev.slA 3 1 (Ev.cutV 1 dv lo l.length) (l.length - lo) ((ints l).drop (lo * 1))=isA (Ev.cutV 1 dv lo l.length) (l.drop lo):=by
  unfold isA
  rw [Nat.mul_one,ints_drop,List.length_drop]
 rwa [e1] at h2
theorem japp {u y:Value} {xs ys:List Int} (hn:xs.length+ys.length≤1000000) (hs:Ev.SlR 1 y ys.length (ints ys) w) (h:Ev.Hold ctx (isA u xs::r) w) :
  ∃ a k w',(Builtin.append_ #[35,35] 35 #[u,y]).run Tryz.prog w=.ok (.slice a (xs++ys).length k) w'∧Ev.Hold ctx (isA (.slice a (xs++ys).length k) (xs++ys)::r) w':=by
 obtain ⟨i,hi,hz,h0,hby⟩:=infInt
 have hsrc:Src Tryz.prog i.size 35 y ys.length (ints ys) w:=by rw [hz]; exact hs.src Tryz.underlying35 (one_ints ys)
 obtain ⟨a,k,w',r1,h1⟩:=happ (u:=u) (n:=xs.length) (xs:=ints xs) Tryz.underlying35 hi h0 (by rw [hz]; rfl) hsrc (by rw [hby]; omega) (by omega) (by rw [hz]; exact h)
 rw [hz] at h1
 refine ⟨a,k,w',?_,?_⟩
 ·rw [List.length_append]; exact r1
 ·show Ev.Hold ctx (Ev.slA 3 1 _ (xs++ys).length (ints (xs++ys))::r) w'
  rw [List.length_append,show ints (xs++ys)=ints xs++ints ys by simp [ints]]
  exact h1
theorem join8 (n:Nat) {a b:Value} {xs ys:List Int} (hn:xs.length+ys.length≤1000) (ha:∀ {lq:List Ev.Asr} {W:World},Ev.Hold ctx (lq++r) W→Ev.SlR 1 a xs.length (ints xs) W) (hb:∀ {lq:List Ev.Asr} {W:World},Ev.Hold ctx (lq++r) W→Ev.SlR 1 b ys.length (ints ys) W) (h:Ev.Hold ctx r w) :
  CallsIn Fence.wide n Tryz.prog 77 #[a,b] w fun e w'=>∃ a1 k1,e=.returned (.slice a1 (xs++ys).length k1)∧Ev.Hold ctx (isA (.slice a1 (xs++ys).length k1) (xs++ys)::r) w':=by
 have h0:Ev.Hold ctx (isA (.slice none 0 0) []::r) w:=h.nilSl (e := 3) (sz:=1)
 obtain ⟨a1,k1,w1,r1,h1⟩:=japp (by simp; omega) (ha (lq:=[]) h) h0
 rw [List.nil_append] at r1 h1
 obtain ⟨a2,k2,w2,r2,h2⟩:=japp (by omega) (hb (lq:=[_]) h1) h1
 obtain ⟨N,hN⟩ : ∃ N,(xs++ys).length=N:=⟨_,rfl⟩
 rw [hN] at r2 h2 ⊢
 clear hN
 refine wen Tryz.func77 10 ?_
 gi_upto_region 3 with (gi_at_builtin; refine wpListIn_append_run rfl _ _ _ rfl r1 ?_)
 gi_wp2_with (gi_at_builtin; refine wpListIn_append_run rfl _ _ _ rfl r2 ?_)
 exact bodyPost_ret (results_tmp rfl _ _ _) rfl ⟨a2,k2,rfl,h2⟩
def dputL (q:Nat) (l:List Int) (g:Int) : List Int:=if l.length < q then l++[g] else l.take (l.length - q / 2)
set_option maxHeartbeats 4000000 in
theorem dputH (n:Nat) (hq:c.q≤64) (hl:l.length≤64) (g:Int) (h:Ev.Hold ctx (isA dv l::r) w) :
  CallsIn Fence.wide n Tryz.prog 54 #[.agg #[iN c.q,dv],iz g] w fun e w'=>∃ dv' x,e=.returned (.tuple #[.agg #[iN c.q,dv'],x])∧Ev.Hold ctx (isA dv' (dputL c.q l g)::r) w':=by
 unfold dputL
 obtain ⟨da,dk,rfl⟩:=slr_val (hold_slr h)
 obtain ⟨b1,W1,hb1,hW1,q1⟩:=newN [.int .i64 (c.q:Int),.slice da l.length dk] 103 h
 obtain ⟨b2,W2,hb2,hW2,q2⟩:=newN [.int .i64 0,.slice none 0 0] 103 q1
 have gd:=hold_swap q2
 clear q1 q2
 have y0:=blkc gd 0 _
 have y1:=blkc gd 1 _
 have hd:=hold_keep gd (Below.refl _ _).drew
 have hN:=hold_new [.int .i64 g] 3 hd
 have hS:∀ {R:List Ev.Asr} {W:World},Ev.Hold ctx (Ev.blkA b1 [.int .i64 (c.q:Int),.slice da l.length dk] 103 :: R) W→W.cell? ⟨b1,0,none⟩=some (.int .i64 (c.q:Int))∧W.cell? ⟨b1,1,none⟩=some (.slice da l.length dk):=fun hh=>⟨blkc hh 0 _,blkc hh 1 _⟩
 by_cases hlt:l.length < c.q
 ·rw [if_pos hlt]
  have hlI:(l.length:Int) < (c.q:Int):=by omega
  have hj:=callsIn_wide.1 (join8 0 (a:=(.slice da l.length dk)) (b:=.slice (some ⟨W2.heap.size,0,none⟩) 1 1) (xs:=l) (ys:=[g]) (by simp; omega) (fun {lq W} hh=>hold_slr (hold_drop (r:=lq++[_,_,_]) (by rw [List.append_assoc]; exact hh))) (fun {lq W} hh=>hold_slr (hold_drop (r:=lq) hh)) (show Ev.Hold ctx _ (W2.alloc (.cells #[.int .i64 g] 3)).drew from blk_isA hN))
  obtain ⟨LG,hLG⟩ : ∃ LG,l++[g]=LG:=⟨_,rfl⟩
  rw [hLG] at hj ⊢
  refine wen Tryz.func54 40 ?_
  gi_upto_region 2 with fail
  clear hW1 hW2 hb1 hb2 hLG
  refine wpIn_wide.2 ?_
  go_region_held3 (fun W=>W.cell? ⟨b1,0,none⟩=some (.int .i64 (c.q:Int))∧W.cell? ⟨b1,1,none⟩=some (.slice da l.length dk)) ((first | exact hS hd | exact hS (hold_drop (r:=[_]) hN) | exact hS (hold_drop (r:=[_,_]) h2) | exact hS h4 | fail)) ((first
   | (have hcon:=hj; (with_reducible refine hcon.mono ?_); clear hcon; rintro e w2 ⟨a2,k2,rfl,h2⟩; have h3:=hold_up [_,_,_] h2; have x0:=blkc h3 0 _; have x1:=blkc h3 1 _; have f0:=froz_of (hold_blk h3) 0; have f1:=froz_of (hold_blk h3) 1; have h3x:=hold_set 1 (.slice a2 LG.length k2) (hold_set 0 (.int .i64 (c.q:Int)) h3); have h4:=hold_up [_,_,_] h3x)))
  gi_wp2
  exact post_cellT rfl rfl rfl (lv_all h3x Tryz.underlying103 rfl (by kernel_rfl)) ⟨_,_,rfl,hsel [_,_,_,_,_] h4 [2]⟩
 ·rw [if_neg hlt]
  have hlI:¬ (l.length:Int) < (c.q:Int):=by omega
  obtain ⟨kk,hkk⟩ : ∃ kk,l.length - c.q / 2=kk:=⟨_,rfl⟩
  have hkl:kk≤l.length:=by omega
  obtain ⟨hf,hhf⟩ : ∃ hf:Int,(c.q:Int) / 2=hf:=⟨_,rfl⟩
  have u1:IntKind.i64.wrap hf=hf:=wrap_ok (by omega) (by omega)
  have u2:IntKind.i64.wrap ((l.length:Int) - hf)=(kk:Int):=by rw [show (l.length:Int) - hf=(kk:Int) by omega]; exact wrap_ok (by omega) (by omega)
  rw [hkk]
  clear hkk
  obtain ⟨i0,hi,hz1,hz0,hz2⟩:=infInt
  have hcA:∀ W,(Instr.sliceAt 35 (.slice da l.length dk) none (some (.int .i64 (kk:Int))) none).run Tryz.prog W=.ok (Ev.cutV 1 (.slice da l.length dk) 0 kk) W:=fun W=>Ev.cut_run (kd:=.i64) (lo:=0) (hi:=kk) (.inl ⟨rfl,rfl⟩) rfl (hold_slr h) Tryz.underlying35 hi hz1 (Nat.zero_le _) hkl W
  have hcB:∀ W,(Instr.sliceAt 35 (.slice da l.length dk) (some (.int .i64 (kk:Int))) none none).run Tryz.prog W=.ok (Ev.cutV 1 (.slice da l.length dk) kk l.length) W:=fun W=>Ev.cut_runLo (lo:=kk) (hold_slr h) Tryz.underlying35 hi hz1 hkl W
  have hB:∀ {R:List Ev.Asr} {W:World},Ev.Hold ctx (isA (.slice da l.length dk) l::R) W→Ev.SlR 1 (Ev.cutV 1 (.slice da l.length dk) kk l.length) (l.drop kk).length (ints (l.drop kk)) W:=fun hh=>hold_slr (cutLoI hh hkl)
  obtain ⟨aa,ka,eA⟩:=slr_val (hold_slr (cutHiI h hkl))
  obtain ⟨ab,kb,eB⟩:=slr_val (hB h)
  obtain ⟨na,hna⟩ : ∃ na,(l.take kk).length=na:=⟨_,rfl⟩
  obtain ⟨nb,hnb⟩ : ∃ nb,(l.drop kk).length=nb:=⟨_,rfl⟩
  rw [hna] at eA
  rw [hnb] at eB
  simp only [eA] at hcA
  simp only [eB] at hcB hB
  clear hna hnb
  have hj:=callsIn_wide.1 (join8 0 (a:=.slice ab nb kb) (b:=.slice (some ⟨W2.heap.size,0,none⟩) 1 1) (xs:=l.drop kk) (ys:=[g]) (by simp; omega) (fun {lq W} hh=>hB (hold_drop (r:=lq++[_,_,_]) (by rw [List.append_assoc]; exact hh))) (fun {lq W} hh=>hold_slr (hold_drop (r:=lq) hh)) (show Ev.Hold ctx _ (W2.alloc (.cells #[.int .i64 g] 3)).drew from blk_isA hN))
  obtain ⟨LG,hLG⟩ : ∃ LG,l.drop kk++[g]=LG:=⟨_,rfl⟩
  rw [hLG] at hj
  refine wen Tryz.func54 40 ?_
  gi_upto_region 4 with fail
  clear hW1 hW2 hb1 hb2 hLG hB
  refine wpIn_wide.2 ?_
  go_region_held3 (fun W=>W.cell? ⟨b1,0,none⟩=some (.int .i64 (c.q:Int))∧W.cell? ⟨b1,1,none⟩=some (.slice da l.length dk)) ((first | exact hS hd | exact hS (hold_drop (r:=[_]) hN) | exact hS (hold_drop (r:=[_,_]) h2) | exact hS h4 | fail)) ((first
   | (have hcon:=hj; (with_reducible refine hcon.mono ?_); clear hcon; rintro e w2 ⟨a2,k2,rfl,h2⟩; have h3:=hold_up [_,_,_] h2; have x0:=blkc h3 0 _; have x1:=blkc h3 1 _; have f0:=froz_of (hold_blk h3) 0; have f1:=froz_of (hold_blk h3) 1; have h3x:=hold_set 1 (.slice aa na ka) (hold_set 0 (.int .i64 (c.q:Int)) h3); have h4:=hold_up [_,_,_] h3x)))
  gi_wp2
  exact post_cellT rfl rfl rfl (lv_all h3x Tryz.underlying103 rfl (by kernel_rfl)) ⟨_,_,rfl,(by have h5:=cutHiI (hold_drop (r:=[_,_,_,_]) h4) hkl; rw [eA] at h5; exact h5)⟩
theorem post_cellTT {P:Program} {fn:Func} {R:Ending→World→Prop} {a:Act} {v:Value} {tm tm1 tm2:Tmp} {t:TypeId} {ad:Addr} (hres:fn.results = #[.cell tm t,.tmp tm1,.tmp tm2]) (ha:a.tmps.getD tm undef=.pointer (some ad)) (hd:a.defers=[]) (hl:(loadVar t ad).run P w=.ok v w) (hR:R (.returned (.tuple #[v,a.tmps.getD tm1 undef,a.tmps.getD tm2 undef])) w) : bodyPost P fn R .ret a w:=by
 refine bodyPost_ret ?_ hd hR
 have ha':a.tmps[tm]?.getD undef=.pointer (some ad):=by simpa using ha
 simp [results,hres,ha',Go.asAddr,hl]
set_option maxHeartbeats 4000000 in
theorem dgetH (n:Nat) (hq:c.q≤64) (hl:l.length≤64) (h:Ev.Hold ctx (isA dv l::r) w) :
  CallsIn Fence.wide n Tryz.prog 56 #[.agg #[iN c.q,dv]] w fun e w'=>∃ dv' x y,e=.returned (.tuple #[.agg #[iN c.q,dv'],x,y])∧Ev.Hold ctx (isA dv' (l.drop 1)::r) w':=by
 obtain ⟨da,dk,rfl⟩:=slr_val (hold_slr h)
 obtain ⟨b1,W1,hb1,hW1,q1⟩:=newN [.int .i64 (c.q:Int),.slice da l.length dk] 103 h
 obtain ⟨b2,W2,hb2,hW2,q2⟩:=newN [.int .i64 0,.slice none 0 0] 103 q1
 have gd:=hold_swap q2
 clear q1 q2
 have y0:=blkc gd 0 _
 have y1:=blkc gd 1 _
 have hd:=hold_keep gd (Below.refl _ _).drew
 have hS:∀ {R:List Ev.Asr} {W:World},Ev.Hold ctx (Ev.blkA b1 [.int .i64 (c.q:Int),.slice da l.length dk] 103 :: R) W→W.cell? ⟨b1,0,none⟩=some (.int .i64 (c.q:Int))∧W.cell? ⟨b1,1,none⟩=some (.slice da l.length dk):=fun hh=>⟨blkc hh 0 _,blkc hh 1 _⟩
 by_cases h0:l.length=0
 ·have hlb:((l.length:Int) == 0)=true:=by
   have:(l.length:Int)=0:=by omega
   simpa using this
  have e1:l.drop 1=l:=by rw [List.eq_nil_of_length_eq_zero h0]; rfl
  clear h0
  have x0:=blkc (hold_up [_] gd) 0 _
  have x1:=blkc (hold_up [_] gd) 1 _
  have f0:=froz_of (hold_blk (hold_up [_] gd)) 0
  have f1:=froz_of (hold_blk (hold_up [_] gd)) 1
  have h3x:=hold_set 1 (.slice da l.length dk) (hold_set 0 (.int .i64 (c.q:Int)) (hold_up [_] gd))
  refine wen Tryz.func56 19 ?_
  gi_wp2
  exact post_cellTT rfl rfl rfl (lv_all h3x Tryz.underlying103 rfl (by kernel_rfl)) ⟨_,_,_,rfl,by rw [e1]; exact hold_drop (r:=[_,_]) h3x⟩
 ·have hlb:((l.length:Int) == 0)=false:=by
   have:¬ (l.length:Int)=0:=by omega
   simpa using this
  have hlI:(0:Int) < (l.length:Int):=by omega
  have hk1:1≤l.length:=by omega
  have hlN:0 < l.length:=by omega
  have hnl:¬ l=[]:=fun e=>h0 (by rw [e]; rfl)
  obtain ⟨bl,off,dk2,hv,-,-⟩:=sl_some h (by omega) (by decide)
  cases hv
  obtain ⟨g,hg⟩ : ∃ g,l[0]? = some g:=⟨_,List.getElem?_eq_getElem (by omega)⟩
  have hE:∀ {R:List Ev.Asr} {W:World},Ev.Hold ctx (isA (.slice (some ⟨bl,off,none⟩) l.length dk) l::R) W→W.cell? ⟨bl,off,none⟩=some (.int .i64 g):=fun hh=>by
   obtain ⟨_,_,_,hv,hc,_⟩:=sl_some hh (by omega) (by decide)
   cases hv
   have h0:=hc 0 (by omega)
   rw [Nat.add_zero] at h0
   rw [h0]
   simp [ints,hg]
  obtain ⟨i0,hi,hz1,hz0,hz2⟩:=infInt
  have hcB:∀ W,(Instr.sliceAt 35 (.slice (some ⟨bl,off,none⟩) l.length dk) (some (.int .i64 1)) none none).run Tryz.prog W=.ok (Ev.cutV 1 (.slice (some ⟨bl,off,none⟩) l.length dk) 1 l.length) W:=fun W=>Ev.cut_runLo (lo:=1) (hold_slr h) Tryz.underlying35 hi hz1 hk1 W
  obtain ⟨ab,kb,eB⟩:=slr_val (hold_slr (cutLoI h (lo:=1) hk1))
  simp only [eB] at hcB
  obtain ⟨nb,hnb⟩ : ∃ nb,(l.drop 1).length=nb:=⟨_,rfl⟩
  rw [hnb] at eB
  simp only [hnb] at hcB
  clear hnb
  have x0:=blkc (hold_up [_] hd) 0 _
  have x1:=blkc (hold_up [_] hd) 1 _
  have f0:=froz_of (hold_blk (hold_up [_] hd)) 0
  have f1:=froz_of (hold_blk (hold_up [_] hd)) 1
  have x2:=blkc (hold_up [_] gd) 0 _
  have x3:=blkc (hold_up [_] gd) 1 _
  have f2:=froz_of (hold_blk (hold_up [_] gd)) 0
  have f3:=froz_of (hold_blk (hold_up [_] gd)) 1
  have h3x:=hold_set 1 (.slice ab nb kb) (hold_set 0 (.int .i64 (c.q:Int)) (hold_up [_] hd))
  have h4:=hold_up [_] h3x
  have e0:=hE (hold_drop (r:=[_,_]) gd)
  refine wen Tryz.func56 19 ?_
  gi_upto_region 3 with fail
  clear hW1 hW2 hb1 hb2
  refine wpIn_wide.2 ?_
  go_region_held3 (fun W=>W.cell? ⟨b1,0,none⟩=some (.int .i64 (c.q:Int))∧W.cell? ⟨b1,1,none⟩=some (.slice (some ⟨bl,off,none⟩) l.length dk)∧W.cell? ⟨bl,off,none⟩=some (.int .i64 g)) ((first | exact ⟨blkc hd 0 _,blkc hd 1 _,hE (hold_drop (r:=[_,_]) hd)⟩ | exact ⟨blkc h4 0 _,blkc h4 1 _,hE (hold_drop (r:=[_,_]) h4)⟩ | fail)) (fail)
  all_goals
   gi_wp2
   exact post_cellTT rfl rfl rfl (lv_all h3x Tryz.underlying103 rfl (by kernel_rfl)) ⟨_,_,_,rfl,(by have h5:=cutLoI (hold_drop (r:=[_,_]) h4) hk1; rw [eB] at h5; exact h5)⟩
set_option maxHeartbeats 4000000 in
theorem dstealH (n:Nat) (hq:c.q≤64) (hl:l.length≤64) (h:Ev.Hold ctx (isA dv l::r) w) :
  CallsIn Fence.wide n Tryz.prog 89 #[.agg #[iN c.q,dv]] w fun e w'=>∃ dv' x,e=.returned (.tuple #[.agg #[iN c.q,dv'],x])∧Ev.Hold ctx (isA dv' (l.drop (l.length - l.length / 2))::r) w':=by
 obtain ⟨da,dk,rfl⟩:=slr_val (hold_slr h)
 obtain ⟨b1,W1,hb1,hW1,q1⟩:=newN [.int .i64 (c.q:Int),.slice da l.length dk] 103 h
 obtain ⟨b2,W2,hb2,hW2,q2⟩:=newN [.int .i64 0,.slice none 0 0] 103 q1
 have gd:=hold_swap q2
 clear q1 q2
 have y0:=blkc gd 0 _
 have y1:=blkc gd 1 _
 have hd:=hold_keep gd (Below.refl _ _).drew
 have hS:∀ {R:List Ev.Asr} {W:World},Ev.Hold ctx (Ev.blkA b1 [.int .i64 (c.q:Int),.slice da l.length dk] 103 :: R) W→W.cell? ⟨b1,0,none⟩=some (.int .i64 (c.q:Int))∧W.cell? ⟨b1,1,none⟩=some (.slice da l.length dk):=fun hh=>⟨blkc hh 0 _,blkc hh 1 _⟩
 obtain ⟨kk,hkk⟩ : ∃ kk,l.length - l.length / 2=kk:=⟨_,rfl⟩
 have hkl:kk≤l.length:=by omega
 obtain ⟨hf,hhf⟩ : ∃ hf:Int,(l.length:Int) / 2=hf:=⟨_,rfl⟩
 have u1:IntKind.i64.wrap hf=hf:=wrap_ok (by omega) (by omega)
 have u2:IntKind.i64.wrap ((l.length:Int) - hf)=(kk:Int):=by rw [show (l.length:Int) - hf=(kk:Int) by omega]; exact wrap_ok (by omega) (by omega)
 rw [hkk]
 clear hkk
 obtain ⟨i0,hi,hz1,hz0,hz2⟩:=infInt
 have hcA:∀ W,(Instr.sliceAt 35 (.slice da l.length dk) none (some (.int .i64 (kk:Int))) none).run Tryz.prog W=.ok (Ev.cutV 1 (.slice da l.length dk) 0 kk) W:=fun W=>Ev.cut_run (kd:=.i64) (lo:=0) (hi:=kk) (.inl ⟨rfl,rfl⟩) rfl (hold_slr h) Tryz.underlying35 hi hz1 (Nat.zero_le _) hkl W
 have hcB:∀ W,(Instr.sliceAt 35 (.slice da l.length dk) (some (.int .i64 (kk:Int))) none none).run Tryz.prog W=.ok (Ev.cutV 1 (.slice da l.length dk) kk l.length) W:=fun W=>Ev.cut_runLo (lo:=kk) (hold_slr h) Tryz.underlying35 hi hz1 hkl W
 have hB:∀ {R:List Ev.Asr} {W:World},Ev.Hold ctx (isA (.slice da l.length dk) l::R) W→Ev.SlR 1 (Ev.cutV 1 (.slice da l.length dk) kk l.length) (l.drop kk).length (ints (l.drop kk)) W:=fun hh=>hold_slr (cutLoI hh hkl)
 obtain ⟨aa,ka,eA⟩:=slr_val (hold_slr (cutHiI h hkl))
 obtain ⟨ab,kb,eB⟩:=slr_val (hB h)
 obtain ⟨na,hna⟩ : ∃ na,(l.take kk).length=na:=⟨_,rfl⟩
 obtain ⟨nb,hnb⟩ : ∃ nb,(l.drop kk).length=nb:=⟨_,rfl⟩
 rw [hna] at eA
 rw [hnb] at eB
 simp only [eA] at hcA
 simp only [eB] at hcB hB
 clear hna hnb
 have x0:=blkc (hold_up [_] hd) 0 _
 have x1:=blkc (hold_up [_] hd) 1 _
 have f0:=froz_of (hold_blk (hold_up [_] hd)) 0
 have f1:=froz_of (hold_blk (hold_up [_] hd)) 1
 have x2:=blkc (hold_up [_] gd) 0 _
 have x3:=blkc (hold_up [_] gd) 1 _
 have f2:=froz_of (hold_blk (hold_up [_] gd)) 0
 have f3:=froz_of (hold_blk (hold_up [_] gd)) 1
 have h3x:=hold_set 1 (.slice ab nb kb) (hold_set 0 (.int .i64 (c.q:Int)) (hold_up [_] hd))
 have h4:=hold_up [_] h3x
 refine wen Tryz.func89 23 ?_
 gi_upto_region 2 with fail
 clear hW1 hW2 hb1 hb2 hB
 refine wpIn_wide.2 ?_
 go_region_held3 (fun W=>W.cell? ⟨b1,0,none⟩=some (.int .i64 (c.q:Int))∧W.cell? ⟨b1,1,none⟩=some (.slice da l.length dk)) ((first | exact hS hd | exact hS h4 | fail)) (fail)
 gi_wp2
 exact post_cellT rfl rfl rfl (lv_all h3x Tryz.underlying103 rfl (by kernel_rfl)) ⟨_,_,rfl,(by have h5:=cutLoI (hold_drop (r:=[_,_]) h4) hkl; rw [eB] at h5; exact h5)⟩
set_option maxHeartbeats 4000000 in
theorem dlayH (n:Nat) {u:Value} {k:List Int} (hu:∀ {lq:List Ev.Asr} {W:World},Ev.Hold ctx (lq++r) W→Ev.SlR 1 u k.length (ints k) W) (hq:c.q≤64) (hl:l.length≤c.q) (hk:k.length≤64) (h:Ev.Hold ctx (isA dv l::r) w) :
  CallsIn Fence.wide n Tryz.prog 90 #[.agg #[iN c.q,dv],u] w fun e w'=>∃ dv' x,e=.returned (.tuple #[.agg #[iN c.q,dv'],x])∧Ev.Hold ctx (isA dv' (l++k.take (min k.length (c.q - l.length)))::r) w':=by
 obtain ⟨da,dk,rfl⟩:=slr_val (hold_slr h)
 obtain ⟨b1,W1,hb1,hW1,q1⟩:=newN [.int .i64 (c.q:Int),.slice da l.length dk] 103 h
 obtain ⟨b2,W2,hb2,hW2,q2⟩:=newN [.int .i64 0,.slice none 0 0] 103 q1
 have gd:=hold_swap q2
 clear q1 q2
 have y0:=blkc gd 0 _
 have y1:=blkc gd 1 _
 have hd:=hold_keep gd (Below.refl _ _).drew
 have hS:∀ {R:List Ev.Asr} {W:World},Ev.Hold ctx (Ev.blkA b1 [.int .i64 (c.q:Int),.slice da l.length dk] 103 :: R) W→W.cell? ⟨b1,0,none⟩=some (.int .i64 (c.q:Int))∧W.cell? ⟨b1,1,none⟩=some (.slice da l.length dk):=fun hh=>⟨blkc hh 0 _,blkc hh 1 _⟩
 obtain ⟨ua,uk,rfl⟩:=slr_val (hu (lq:=[_]) h)
 obtain ⟨kk,hkk⟩ : ∃ kk,min k.length (c.q - l.length)=kk:=⟨_,rfl⟩
 have hkl:kk≤k.length:=by omega
 have u1:IntKind.i64.wrap ((c.q:Int) - (l.length:Int))=(c.q:Int) - (l.length:Int):=wrap_ok (by omega) (by omega)
 have u2:min (k.length:Int) ((c.q:Int) - (l.length:Int))=(kk:Int):=by omega
 rw [hkk]
 clear hkk
 obtain ⟨i0,hi,hz1,hz0,hz2⟩:=infInt
 have hcA:∀ W,(Instr.sliceAt 35 (.slice ua k.length uk) none (some (.int .i64 (kk:Int))) none).run Tryz.prog W=.ok (Ev.cutV 1 (.slice ua k.length uk) 0 kk) W:=fun W=>Ev.cut_run (kd:=.i64) (lo:=0) (hi:=kk) (.inl ⟨rfl,rfl⟩) rfl (hu (lq:=[_]) h) Tryz.underlying35 hi hz1 (Nat.zero_le _) hkl W
 have hB:∀ {lq:List Ev.Asr} {W:World},Ev.Hold ctx (lq++r) W→Ev.SlR 1 (Ev.cutV 1 (.slice ua k.length uk) 0 kk) (k.take kk).length (ints (k.take kk)) W:=fun {lq W} hh=>by
  have h1:=(hu hh).cut (lo:=0) (hi:=kk) (Nat.zero_le _) hkl
  rw [Nat.zero_mul,List.drop_zero,Nat.mul_one,Nat.sub_zero] at h1
  rw [List.length_take,Nat.min_eq_left hkl,show ints (k.take kk)=(ints k).take kk by simp [ints,List.map_take]]
  exact h1
 obtain ⟨CU,hCU⟩ : ∃ CU,Ev.cutV 1 (.slice ua k.length uk) 0 kk=CU:=⟨_,rfl⟩
 simp only [hCU] at hcA hB
 have hj:=callsIn_wide.1 (join8 0 (a:=(.slice da l.length dk)) (b:=CU) (xs:=l) (ys:=k.take kk) (by simp; omega) (fun {lq W} hh=>hold_slr (hold_drop (r:=lq++[_,_]) (by rw [List.append_assoc]; exact hh))) (fun {lq W} hh=>hB (lq:=lq++[_,_,_]) (by rw [List.append_assoc]; exact hh)) hd)
 obtain ⟨LG,hLG⟩ : ∃ LG,l++k.take kk=LG:=⟨_,rfl⟩
 rw [hLG] at hj ⊢
 refine wen Tryz.func90 24 ?_
 gi_upto_region 2 with fail
 clear hW1 hW2 hb1 hb2 hLG hB hCU hu
 refine wpIn_wide.2 ?_
 go_region_held3 (fun W=>W.cell? ⟨b1,0,none⟩=some (.int .i64 (c.q:Int))∧W.cell? ⟨b1,1,none⟩=some (.slice da l.length dk)) ((first | exact hS hd | exact hS (hold_drop (r:=[_]) h2) | exact hS h4 | fail)) ((first
  | (have hcon:=hj; (with_reducible refine hcon.mono ?_); clear hcon; rintro e w2 ⟨a2,k2,rfl,h2⟩; have h3:=hold_up [_,_] h2; have x0:=blkc h3 0 _; have x1:=blkc h3 1 _; have f0:=froz_of (hold_blk h3) 0; have f1:=froz_of (hold_blk h3) 1; have h3x:=hold_set 1 (.slice a2 LG.length k2) (hold_set 0 (.int .i64 (c.q:Int)) h3); have h4:=hold_up [_,_] h3x)))
 gi_wp2
 exact post_cellT rfl rfl rfl (lv_all h3x Tryz.underlying103 rfl (by kernel_rfl)) ⟨_,_,rfl,hsel [_,_,_,_] h4 [2]⟩
end
end Go.Proofs.YtkmccgombmogmaaGreat
namespace Go.Proofs.YtkmccgombmogmaaGreat
open Go.RowKit
set_option linter.unusedVariables false
set_option linter.unusedSimpArgs false
set_option maxRecDepth 8000
section
variable {ctx:Ev.Ctx} {w:World} {r:List Ev.Asr} {c:Cfg} {p:Nat} {m:MemM} {rv tk hd:Value}
set_option maxHeartbeats 8000000 in
theorem put9_1 (n:Nat) (hp:p < c.n) {x:PutS} (hx:PutOk c x) (hk:x.st=1) (hm:MemOk c m) (h:Ev.Hold ctx (uA rv m.cells::isA tk x.ts::isA hd x.hs::r) w) : Put9 ctx r c p m rv tk hd x n w:=by
 have h0:x.st ≠ 0:=by omega
 unfold Put9
 obtain ⟨av,ak,rfl⟩:=slr_val (hold_slr h)
 obtain ⟨ta,tc,rfl⟩:=slr_val (hold_slr (hold_drop (r:=[_]) h))
 obtain ⟨ha,hc,rfl⟩:=slr_val (hold_slr (hold_drop (r:=[_,_]) h))
 have hst:=hx.st
 have hw0:U64 x.w:=hx.w
 have hts:=hx.ts
 have hgg:=hx.gg h0
 obtain ⟨st,gg,w0,ts,hs⟩:=x
 dsimp only at hst hw0 h0 hts hgg
 have hbig:=hm.big
 obtain ⟨b1,W1,hb1,hW1,q1⟩:=newN (p9L c p gg (st:Int) w0 (.slice ta ts.length tc) (.slice ha hs.length hc)) 106 h
 obtain ⟨b2,W2,hb2,hW2,q2⟩:=newN [.slice av m.cells.length ak,.int .u64 m.ops] 53 q1
 obtain ⟨b3,W3,hb3,hW3,q3⟩:=newN p9Z 106 q2
 obtain ⟨b4,W4,hb4,hW4,q4⟩:=newN [.slice none 0 0,.int .u64 0] 53 q3
 have g0:Ev.Hold ctx (H9 c p b1 b2 b3 b4 (p9L c p gg (st:Int) w0 (.slice ta ts.length tc) (.slice ha hs.length hc)) (.slice av m.cells.length ak) m.cells m.ops (.slice ta ts.length tc) (.slice ha hs.length hc) ts hs r) W4:=hsel [_,_,_,_,_] q4 [3,2,1,0,4]
 clear q1 q2 q3 q4
 have gd:=g0
 obtain ⟨Y,hY⟩ : ∃ Y,putStep c p ⟨st,gg,w0,ts,hs⟩ m=Y:=⟨_,rfl⟩
 have eg:∀ (a b:Value),p9 c p ⟨st,gg,w0,ts,hs⟩ a b=(p9L c p gg (st:Int) w0 a b).toArray:=fun _ _=>rfl
 rw [eg,hY]
 clear eg
 have x9:=blkc gd 9 _
 have x8:=blkc gd 8 _
 refine wen Tryz.func53 160 ?_
 gi_wp2
 refine wcw (rTail w0 hw0 _) ?_
 rintro e w1 ⟨rfl,rfl⟩
 clear hW1 hW2 hW3 hW4 hb1 hb2 hb3 hb4 g0 x9
 have hd:=hold_keep gd (Below.refl _ _).drew
 obtain ⟨ops',ho'⟩ : ∃ o,IntKind.u64.wrap (m.ops+1)=o:=⟨_,rfl⟩
 obtain rfl:st=1:=hk
 obtain ⟨x,hxe⟩ : ∃ x,ld m (c.word p)=x:=⟨_,rfl⟩
 obtain ⟨hx,-⟩:=hm.at_ (hm.lt_word hp)
 have hu:=(hm.get (hm.lt_word hp)).2
 rw [hxe] at hx hu
 have hq:IntKind.u32.wrap (c.q:Int)=(c.q:Int):=by have:=c.qb; rw [wrap32]; omega
 gi_upto_region 5 with fail
 gi_cut [] from 6 (fun wx=>Ev.Hold ctx (H9 c p b1 b2 b3 b4 (p9L c p gg 1 x (.slice ta ts.length tc) (.slice ha hs.length hc)) (.slice av m.cells.length ak) m.cells ops' (.slice ta ts.length tc) (.slice ha hs.length hc) ts hs r) wx)
 case first =>
  have cL:∀ {R:List Ev.Asr} {W:World},Ev.Hold ctx (uA (.slice av m.cells.length ak) m.cells::R) W→_:=fun {R W} hh=>callsIn_wide.1 (rload_in (ctx:=ctx) (r:=R) (w:=W) 0 (ops:=m.ops) hx hh)
  rw [ho'] at cL
  have y0:=blkc (hold_up [_] hd) 0 _
  have y1:=blkc (hold_up [_] hd) 1 _
  refine wpIn_wide.2 ?_
  refine wp_region_noPanic ?_
  refine wp_region_B (fun W=>cpC c p b1 W∧W.cell? ⟨b2,0,none⟩=some (.slice av m.cells.length ak)∧W.cell? ⟨b2,1,none⟩=some (.int .u64 m.ops)) 10 (by kernel_rfl) ?_ (fun hHeld=>?_)
  ·(try dsimp only); (first | exact ⟨cpc hd,blkc (hold_up [_] hd) 0 _,blkc (hold_up [_] hd) 1 _⟩ | exact ⟨cpc h1,blkc (hold_up [_] h1) 0 _,blkc (hold_up [_] h1) 1 _⟩ | exact ⟨cpc h2,blkc (hold_up [_] h2) 0 _,blkc (hold_up [_] h2) 1 _⟩)
  refine takeB (i:=0) (v:=?_) (Or.inl ⟨by kernel_rfl,?_⟩) (by assumption) ?_
  rotate_left
  ·intro w hSw; (try dsimp only at hSw); go_simp; try with_reducible rfl
  try simp only [Act.put,List.setIfInBounds_toArray,List.set_cons_zero,List.set_cons_succ]
  refine takeB0 (i:=1) (v:=?_) (Or.inl ⟨by kernel_rfl,?_⟩) (by assumption) ?_
  rotate_left
  ·intro w _; go_simp; try with_reducible rfl
  try simp only [Act.put,List.setIfInBounds_toArray,List.set_cons_zero,List.set_cons_succ]
  refine takeB (i:=2) (v:=?_) (Or.inl ⟨by kernel_rfl,?_⟩) (by assumption) ?_
  rotate_left
  ·intro w hSw; (try dsimp only at hSw); go_simp; try with_reducible rfl
  try simp only [Act.put,List.setIfInBounds_toArray,List.set_cons_zero,List.set_cons_succ]
  refine takeB0 (i:=3) (v:=?_) (Or.inl ⟨by kernel_rfl,?_⟩) (by assumption) ?_
  rotate_left
  ·intro w _; go_simp; try with_reducible rfl
  try simp only [Act.put,List.setIfInBounds_toArray,List.set_cons_zero,List.set_cons_succ]
  refine takeB (i:=4) (v:=?_) (Or.inl ⟨by kernel_rfl,?_⟩) (by assumption) ?_
  rotate_left
  ·intro w hSw; (try dsimp only at hSw); go_simp; try with_reducible rfl
  try simp only [Act.put,List.setIfInBounds_toArray,List.set_cons_zero,List.set_cons_succ]
  refine nextB (i:=5) (ho:=rfl) (fun K hK=>?_)
  go_simp
  (have hcon:=rWord_ok c p hp W4.drew; (with_reducible refine hcon.mono ?_); clear hcon; rintro e w1 ⟨rfl,b1'⟩; have h1:=hold_keep hd b1'; have z0:=blkc (hold_up [_] h1) 0 _; have z1:=blkc (hold_up [_] h1) 1 _)
  first | refine hK.out _ _ ?_ (fun hHeld=>?_) | (go_wp2_with fail; refine hK.out _ _ ?_ (fun hHeld=>?_))
  ·(try dsimp only); (first | exact ⟨cpc hd,blkc (hold_up [_] hd) 0 _,blkc (hold_up [_] hd) 1 _⟩ | exact ⟨cpc h1,blkc (hold_up [_] h1) 0 _,blkc (hold_up [_] h1) 1 _⟩ | exact ⟨cpc h2,blkc (hold_up [_] h2) 0 _,blkc (hold_up [_] h2) 1 _⟩)
  clear hK K
  try simp only [Act.put,List.setIfInBounds_toArray,List.set_cons_zero,List.set_cons_succ]
  refine nextB (i:=6) (ho:=rfl) (fun K hK=>?_)
  go_simp
  (have hcon:=cL (hold_up [_,_,_,_] h1); (with_reducible refine hcon.mono ?_); clear hcon; rintro e w2 ⟨rfl,h2⟩; replace h2:=hold_dn [_,_,_,_] h2; have x20:=blkc (hold_up [_] h2) 0 _; have x21:=blkc (hold_up [_] h2) 1 _; have f20:=froz_of (hold_blk (hold_up [_] h2)) 0; have f21:=froz_of (hold_blk (hold_up [_] h2)) 1; have h3:=hold_dn [_] (hold_set 1 (.int .u64 ops') (hold_set 0 (.slice av m.cells.length ak) (hold_up [_] h2))); have x9:=blkc h2 9 _; have f9:=froz_of (hold_blk h2) 9; have h4:=hold_set 9 (.int .u64 x) h3)
  first | refine hK.out _ _ ?_ (fun hHeld=>?_) | (go_wp2_with fail; refine hK.out _ _ ?_ (fun hHeld=>?_))
  ·(try dsimp only); (first | exact ⟨cpc hd,blkc (hold_up [_] hd) 0 _,blkc (hold_up [_] hd) 1 _⟩ | exact ⟨cpc h1,blkc (hold_up [_] h1) 0 _,blkc (hold_up [_] h1) 1 _⟩ | exact ⟨cpc h2,blkc (hold_up [_] h2) 0 _,blkc (hold_up [_] h2) 1 _⟩)
  clear hK K
  try simp only [Act.put,List.setIfInBounds_toArray,List.set_cons_zero,List.set_cons_succ]
  refine takeB0 (i:=7) (v:=?_) (Or.inl ⟨by kernel_rfl,?_⟩) (by assumption) ?_
  rotate_left
  ·intro w _; go_simp; try with_reducible rfl
  try simp only [Act.put,List.setIfInBounds_toArray,List.set_cons_zero,List.set_cons_succ]
  refine takeB0 (i:=8) (v:=?_) (Or.inl ⟨by kernel_rfl,?_⟩) (by assumption) ?_
  rotate_left
  ·intro w _; go_simp; try with_reducible rfl
  try simp only [Act.put,List.setIfInBounds_toArray,List.set_cons_zero,List.set_cons_succ]
  refine takeB0 (i:=9) (v:=?_) (Or.inl ⟨by kernel_rfl,?_⟩) (by assumption) ?_
  rotate_left
  ·intro w _; go_simp; try with_reducible rfl
  try simp only [Act.put,List.setIfInBounds_toArray,List.set_cons_zero,List.set_cons_succ]
  refine lastB (i:=10) (ho:=rfl) (fun K hK=>?_)
  go_simp
  refine hK.out _ _ ?_
  clear hK K
  try simp only [Act.put,List.setIfInBounds_toArray,List.set_cons_zero,List.set_cons_succ]
  refine lastB (i:=11) (ho:=rfl) (fun K hK=>?_)
  go_simp
  refine hK.out _ _ ?_
  clear hK K
  try simp only [Act.put,List.setIfInBounds_toArray,List.set_cons_zero,List.set_cons_succ]
  refine lastB (i:=12) (ho:=rfl) (fun K hK=>?_)
  go_simp
  refine hK.out _ _ ?_
  clear hK K
  try simp only [Act.put,List.setIfInBounds_toArray,List.set_cons_zero,List.set_cons_succ]
  refine (doneB (h:=?_) (hr:=by kernel_rfl)) _
  refine NoPanic.normal ?_
  all_goals
   gi_wp2
   gi_meet
   case rel=>exact h4
 case rest =>
  have g1:=hcut
  clear hcut gd hd
  have x10:=blkc g1 10 _
  have f10:=froz_of (hold_blk g1) 10
  have g2:=hold_set 10 (.slice none 0 0) g1
  have x8:=blkc g2 8 _
  have f8:=froz_of (hold_blk g2) 8
  have g3:=hold_set 8 (.int .i64 2) g2
  gi_upto_region 8 with fail
  have g30:Ev.Hold ctx (H9 c p b1 b2 b3 b4 (p9L c p gg 2 x (.slice none 0 0) (.slice ha hs.length hc)) (.slice av m.cells.length ak) m.cells ops' (.slice none 0 0) (.slice ha hs.length hc) [] hs r) _:=hsel [_,_,_,_,_,_,_,_] (g3.nilSl (e := 3) (sz:=1)) [1,2,3,4,5,0,7]
  obtain ⟨V,hV,g4⟩:=hname g30
  rw [← hV]
  clear hV x8 x10 f8 f10 g1 g2 g3 g30
  have g5:=hold_keep g4 (Below.refl _ _).drew
  refine wpIn_wide.2 ?_
  go_region_held3 (fun W=>cpC c p b1 W∧W.cell? ⟨b1,9,none⟩=some (.int .u64 x)) (exact ⟨cpc g5,blkc g5 9 _⟩) ((have hcon:=rSize x hu V.drew; (with_reducible refine hcon.mono ?_); clear hcon; rintro e w1 ⟨rfl,rfl⟩))
  have x8:=blkc g5 8 _
  have f8:=froz_of (hold_blk g5) 8
  by_cases hz:(c.q:Int)≤szW x
  ·have g6:Ev.Hold ctx (H9 c p b1 b2 b3 b4 (p9L c p gg 4 x (.slice none 0 0) (.slice ha hs.length hc)) (.slice av m.cells.length ak) m.cells ops' (.slice none 0 0) (.slice ha hs.length hc) [] hs r) _:=hold_set 8 (.int .i64 4) g5
   have ho:Aside (Y=(⟨4,gg,x,[],hs⟩,⟨m.cells,ops'⟩)):=by show Y=_; rw [← hY]; simp only [putStep,ge_iff_le,hxe,if_pos hz,MemM.tick,MemM.put,ho']
   gi_upto_region 36 with fail
   refine wpIn_wide.2 (reg2 g6 (fun w' hw'=>?_) Tryz.underlying106 Tryz.underlying53 rfl rfl rfl rfl rfl rfl rfl rfl rfl rfl rfl)
   gi_wp2
   exact post_cell2 rfl rfl rfl rfl (lv_all (hold_up [_,_] hw') Tryz.underlying106 rfl (by kernel_rfl)) (lv_all (hold_up [_,_,_] hw') Tryz.underlying53 rfl (by kernel_rfl)) (by rw [ho.out]; first | exact ⟨_,_,_,rfl,hold_drop (r:=[_,_,_,_]) hw'⟩ | exact ⟨_,_,⟨_,rfl⟩,hold_drop (r:=[_,_,_,_]) hw'⟩ | exact ⟨_,⟨_,_,rfl⟩,hold_drop (r:=[_,_,_,_]) hw'⟩)
  ·have hz':(c.q:Int)≤szW x↔False:=by simp only [hz]
   have ho:Aside (Y=(⟨2,gg,x,[],hs⟩,⟨m.cells,ops'⟩)):=by show Y=_; rw [← hY]; simp only [putStep,ge_iff_le,hxe,if_neg hz,MemM.tick,MemM.put,ho']
   gi_upto_region 36 with fail
   refine wpIn_wide.2 (reg2 g5 (fun w' hw'=>?_) Tryz.underlying106 Tryz.underlying53 rfl rfl rfl rfl rfl rfl rfl rfl rfl rfl rfl)
   gi_wp2
   exact post_cell2 rfl rfl rfl rfl (lv_all (hold_up [_,_] hw') Tryz.underlying106 rfl (by kernel_rfl)) (lv_all (hold_up [_,_,_] hw') Tryz.underlying53 rfl (by kernel_rfl)) (by rw [ho.out]; first | exact ⟨_,_,_,rfl,hold_drop (r:=[_,_,_,_]) hw'⟩ | exact ⟨_,_,⟨_,rfl⟩,hold_drop (r:=[_,_,_,_]) hw'⟩ | exact ⟨_,⟨_,_,rfl⟩,hold_drop (r:=[_,_,_,_]) hw'⟩)
end
end Go.Proofs.YtkmccgombmogmaaGreat
namespace Go.Proofs.YtkmccgombmogmaaGreat
open Go.RowKit
set_option linter.unusedVariables false
set_option linter.unusedSimpArgs false
set_option maxRecDepth 8000
section
variable {ctx:Ev.Ctx} {w:World} {r:List Ev.Asr} {c:Cfg} {p:Nat} {m:MemM} {rv tk hd:Value}
set_option maxHeartbeats 8000000 in
theorem put9_2 (n:Nat) (hp:p < c.n) {x:PutS} (hx:PutOk c x) (hk:x.st=2) (hm:MemOk c m) (h:Ev.Hold ctx (uA rv m.cells::isA tk x.ts::isA hd x.hs::r) w) : Put9 ctx r c p m rv tk hd x n w:=by
 have h0:x.st ≠ 0:=by omega
 unfold Put9
 obtain ⟨av,ak,rfl⟩:=slr_val (hold_slr h)
 obtain ⟨ta,tc,rfl⟩:=slr_val (hold_slr (hold_drop (r:=[_]) h))
 obtain ⟨ha,hc,rfl⟩:=slr_val (hold_slr (hold_drop (r:=[_,_]) h))
 have hst:=hx.st
 have hw0:U64 x.w:=hx.w
 have hts:=hx.ts
 have hgg:=hx.gg h0
 obtain ⟨st,gg,w0,ts,hs⟩:=x
 dsimp only at hst hw0 h0 hts hgg
 have hbig:=hm.big
 obtain ⟨b1,W1,hb1,hW1,q1⟩:=newN (p9L c p gg (st:Int) w0 (.slice ta ts.length tc) (.slice ha hs.length hc)) 106 h
 obtain ⟨b2,W2,hb2,hW2,q2⟩:=newN [.slice av m.cells.length ak,.int .u64 m.ops] 53 q1
 obtain ⟨b3,W3,hb3,hW3,q3⟩:=newN p9Z 106 q2
 obtain ⟨b4,W4,hb4,hW4,q4⟩:=newN [.slice none 0 0,.int .u64 0] 53 q3
 have g0:Ev.Hold ctx (H9 c p b1 b2 b3 b4 (p9L c p gg (st:Int) w0 (.slice ta ts.length tc) (.slice ha hs.length hc)) (.slice av m.cells.length ak) m.cells m.ops (.slice ta ts.length tc) (.slice ha hs.length hc) ts hs r) W4:=hsel [_,_,_,_,_] q4 [3,2,1,0,4]
 clear q1 q2 q3 q4
 have gd:=g0
 obtain ⟨Y,hY⟩ : ∃ Y,putStep c p ⟨st,gg,w0,ts,hs⟩ m=Y:=⟨_,rfl⟩
 have eg:∀ (a b:Value),p9 c p ⟨st,gg,w0,ts,hs⟩ a b=(p9L c p gg (st:Int) w0 a b).toArray:=fun _ _=>rfl
 rw [eg,hY]
 clear eg
 have x9:=blkc gd 9 _
 have x8:=blkc gd 8 _
 refine wen Tryz.func53 160 ?_
 gi_wp2
 refine wcw (rTail w0 hw0 _) ?_
 rintro e w1 ⟨rfl,rfl⟩
 clear hW1 hW2 hW3 hW4 hb1 hb2 hb3 hb4 g0 x9
 have hd:=hold_keep gd (Below.refl _ _).drew
 obtain ⟨ops',ho'⟩ : ∃ o,IntKind.u64.wrap (m.ops+1)=o:=⟨_,rfl⟩
 obtain rfl:st=2:=hk
 have e2:IntKind.u64.wrap gg=gg:=by rw [IntKind.wrap_u64]; omega
 have hlt:=hm.lt_slot hp (tlW w0)
 obtain ⟨CS,hCS⟩ : ∃ CS,m.cells.set (c.slot p (tlW w0)) gg=CS:=⟨_,rfl⟩
 gi_upto_region 11 with fail
 gi_cut [] from 12 (fun wx=>∃ a2 k2,Ev.Hold ctx (H9 c p b1 b2 b3 b4 (p9L c p gg 2 w0 (.slice ta ts.length tc) (.slice ha hs.length hc)) (.slice a2 CS.length k2) CS ops' (.slice ta ts.length tc) (.slice ha hs.length hc) ts hs r) wx)
 case first =>
  have y0:=blkc (hold_up [_] hd) 0 _
  have y1:=blkc (hold_up [_] hd) 1 _
  have cL:∀ {R:List Ev.Asr} {W:World},Ev.Hold ctx (uA (.slice av m.cells.length ak) m.cells::R) W→Calls Tryz.prog 83 #[.agg #[(.slice av m.cells.length ak),.int .u64 m.ops],.int .i64 ((c.slot p (tlW w0) : Nat) : Int),.int .u64 gg] W fun e w'=>∃ a2 k2,e=.returned (.agg #[(.slice a2 CS.length k2),.int .u64 ops'])∧Ev.Hold ctx (uA (.slice a2 CS.length k2) CS::uA (.slice av m.cells.length ak) m.cells::R) w':=fun {R W} hh=>by
   refine (callsIn_wide.1 (rstore_in 0 (ops:=m.ops) (by omega) hlt gg hh)).mono ?_
   rintro e w' ⟨al,rfl,h1⟩
   rw [ho']
   rw [hCS] at h1
   obtain ⟨a2,k2,rfl⟩:=slr_val (hold_slr h1)
   exact ⟨a2,k2,rfl,h1⟩
  refine wpIn_wide.2 ?_
  refine wp_region_noPanic ?_
  refine wp_region_B (fun W=>cpC c p b1 W∧W.cell? ⟨b2,0,none⟩=some (.slice av m.cells.length ak)∧W.cell? ⟨b2,1,none⟩=some (.int .u64 m.ops)∧W.cell? ⟨b1,7,none⟩=some (.int .i64 gg)) 11 (by kernel_rfl) ?_ (fun hHeld=>?_)
  ·(try dsimp only); (first | exact ⟨cpc hd,blkc (hold_up [_] hd) 0 _,blkc (hold_up [_] hd) 1 _,blkc hd 7 _⟩ | exact ⟨cpc h1,blkc (hold_up [_] h1) 0 _,blkc (hold_up [_] h1) 1 _,blkc h1 7 _⟩ | exact ⟨cpc h2,blkc (hold_up [_] h2) 0 _,blkc (hold_up [_] h2) 1 _,blkc h2 7 _⟩)
  refine takeB (i:=0) (v:=?_) (Or.inl ⟨by kernel_rfl,?_⟩) (by assumption) ?_
  rotate_left
  ·intro w hSw; (try dsimp only at hSw); go_simp; try with_reducible rfl
  try simp only [Act.put,List.setIfInBounds_toArray,List.set_cons_zero,List.set_cons_succ]
  refine takeB0 (i:=1) (v:=?_) (Or.inl ⟨by kernel_rfl,?_⟩) (by assumption) ?_
  rotate_left
  ·intro w _; go_simp; try with_reducible rfl
  try simp only [Act.put,List.setIfInBounds_toArray,List.set_cons_zero,List.set_cons_succ]
  refine takeB (i:=2) (v:=?_) (Or.inl ⟨by kernel_rfl,?_⟩) (by assumption) ?_
  rotate_left
  ·intro w hSw; (try dsimp only at hSw); go_simp; try with_reducible rfl
  try simp only [Act.put,List.setIfInBounds_toArray,List.set_cons_zero,List.set_cons_succ]
  refine takeB0 (i:=3) (v:=?_) (Or.inl ⟨by kernel_rfl,?_⟩) (by assumption) ?_
  rotate_left
  ·intro w _; go_simp; try with_reducible rfl
  try simp only [Act.put,List.setIfInBounds_toArray,List.set_cons_zero,List.set_cons_succ]
  refine takeB (i:=4) (v:=?_) (Or.inl ⟨by kernel_rfl,?_⟩) (by assumption) ?_
  rotate_left
  ·intro w hSw; (try dsimp only at hSw); go_simp; try with_reducible rfl
  try simp only [Act.put,List.setIfInBounds_toArray,List.set_cons_zero,List.set_cons_succ]
  refine takeB0 (i:=5) (v:=?_) (Or.inl ⟨by kernel_rfl,?_⟩) (by assumption) ?_
  rotate_left
  ·intro w _; go_simp; try with_reducible rfl
  try simp only [Act.put,List.setIfInBounds_toArray,List.set_cons_zero,List.set_cons_succ]
  refine takeB0 (i:=7) (v:=?_) (Or.inl ⟨by kernel_rfl,?_⟩) (by assumption) ?_
  rotate_left
  ·intro w _; go_simp; try with_reducible rfl
  try simp only [Act.put,List.setIfInBounds_toArray,List.set_cons_zero,List.set_cons_succ]
  refine takeB (i:=8) (v:=?_) (Or.inl ⟨by kernel_rfl,?_⟩) (by assumption) ?_
  rotate_left
  ·intro w hSw; (try dsimp only at hSw); go_simp; try with_reducible rfl
  try simp only [Act.put,List.setIfInBounds_toArray,List.set_cons_zero,List.set_cons_succ]
  refine takeB0 (i:=9) (v:=?_) (Or.inl ⟨by kernel_rfl,?_⟩) (by assumption) ?_
  rotate_left
  ·intro w _; go_simp; try with_reducible rfl
  try simp only [Act.put,List.setIfInBounds_toArray,List.set_cons_zero,List.set_cons_succ]
  refine nextB (i:=6) (ho:=rfl) (fun K hK=>?_)
  go_simp
  (have hcon:=rSlot_ok c p hp (tlW w0) (tlW_bd w0).1 W4.drew; (with_reducible refine hcon.mono ?_); clear hcon; rintro e w1 ⟨rfl,b1'⟩; have h1:=hold_keep hd b1'; have z0:=blkc (hold_up [_] h1) 0 _; have z1:=blkc (hold_up [_] h1) 1 _)
  first | refine hK.out _ _ ?_ (fun hHeld=>?_) | (go_wp2_with fail; refine hK.out _ _ ?_ (fun hHeld=>?_))
  ·(try dsimp only); (first | exact ⟨cpc hd,blkc (hold_up [_] hd) 0 _,blkc (hold_up [_] hd) 1 _,blkc hd 7 _⟩ | exact ⟨cpc h1,blkc (hold_up [_] h1) 0 _,blkc (hold_up [_] h1) 1 _,blkc h1 7 _⟩ | exact ⟨cpc h2,blkc (hold_up [_] h2) 0 _,blkc (hold_up [_] h2) 1 _,blkc h2 7 _⟩)
  clear hK K
  try simp only [Act.put,List.setIfInBounds_toArray,List.set_cons_zero,List.set_cons_succ]
  refine nextB (i:=10) (ho:=rfl) (fun K hK=>?_)
  go_simp
  (have hcon:=cL (hold_up [_,_,_,_] h1); (with_reducible refine hcon.mono ?_); clear hcon; rintro e w2 ⟨a2,k2,rfl,h2⟩; replace h2:=hsel [_,_,_,_,_,_] h2 [2,3,4,5,0]; have x20:=blkc (hold_up [_] h2) 0 _; have x21:=blkc (hold_up [_] h2) 1 _; have f20:=froz_of (hold_blk (hold_up [_] h2)) 0; have f21:=froz_of (hold_blk (hold_up [_] h2)) 1; have h3:=hold_dn [_] (hold_set 1 (.int .u64 ops') (hold_set 0 (.slice a2 CS.length k2) (hold_up [_] h2))))
  first | refine hK.out _ _ ?_ (fun hHeld=>?_) | (go_wp2_with fail; refine hK.out _ _ ?_ (fun hHeld=>?_))
  ·(try dsimp only); (first | exact ⟨cpc hd,blkc (hold_up [_] hd) 0 _,blkc (hold_up [_] hd) 1 _,blkc hd 7 _⟩ | exact ⟨cpc h1,blkc (hold_up [_] h1) 0 _,blkc (hold_up [_] h1) 1 _,blkc h1 7 _⟩ | exact ⟨cpc h2,blkc (hold_up [_] h2) 0 _,blkc (hold_up [_] h2) 1 _,blkc h2 7 _⟩)
  clear hK K
  try simp only [Act.put,List.setIfInBounds_toArray,List.set_cons_zero,List.set_cons_succ]
  refine lastB (i:=11) (ho:=rfl) (fun K hK=>?_)
  go_simp
  refine hK.out _ _ ?_
  clear hK K
  try simp only [Act.put,List.setIfInBounds_toArray,List.set_cons_zero,List.set_cons_succ]
  refine (doneB (h:=?_) (hr:=by kernel_rfl)) _
  refine NoPanic.normal ?_
  all_goals
   gi_wp2
   gi_meet
   case rel=>exact ⟨_,_,h3⟩
 case rest =>
  obtain ⟨a2,k2,g1⟩:=hcut
  clear hd gd
  have x8:=blkc g1 8 _
  have f8:=froz_of (hold_blk g1) 8
  have g2:Ev.Hold ctx (H9 c p b1 b2 b3 b4 (p9L c p gg 3 w0 (.slice ta ts.length tc) (.slice ha hs.length hc)) (.slice a2 CS.length k2) CS ops' (.slice ta ts.length tc) (.slice ha hs.length hc) ts hs r) _:=hold_set 8 (.int .i64 3) g1
  have ho:Aside (Y=(⟨3,gg,w0,ts,hs⟩,⟨CS,ops'⟩)):=by show Y=_; rw [← hY]; simp only [putStep,ge_iff_le,← hCS,MemM.tick,MemM.put,ho']
  clear hCS
  gi_upto_region 36 with fail
  refine wpIn_wide.2 (reg2 g2 (fun w' hw'=>?_) Tryz.underlying106 Tryz.underlying53 rfl rfl rfl rfl rfl rfl rfl rfl rfl rfl rfl)
  gi_wp2
  exact post_cell2 rfl rfl rfl rfl (lv_all (hold_up [_,_] hw') Tryz.underlying106 rfl (by kernel_rfl)) (lv_all (hold_up [_,_,_] hw') Tryz.underlying53 rfl (by kernel_rfl)) (by rw [ho.out]; first | exact ⟨_,_,_,rfl,hold_drop (r:=[_,_,_,_]) hw'⟩ | exact ⟨_,_,⟨_,rfl⟩,hold_drop (r:=[_,_,_,_]) hw'⟩ | exact ⟨_,⟨_,_,rfl⟩,hold_drop (r:=[_,_,_,_]) hw'⟩)
end
end Go.Proofs.YtkmccgombmogmaaGreat
namespace Go.Proofs.YtkmccgombmogmaaGreat
open Go.RowKit
set_option linter.unusedVariables false
set_option linter.unusedSimpArgs false
set_option maxRecDepth 8000
section
variable {ctx:Ev.Ctx} {w:World} {r:List Ev.Asr} {c:Cfg} {p:Nat} {m:MemM} {rv tk hd:Value}
set_option maxHeartbeats 8000000 in
theorem put9_3 (n:Nat) (hp:p < c.n) {x:PutS} (hx:PutOk c x) (hk:x.st=3) (hm:MemOk c m) (h:Ev.Hold ctx (uA rv m.cells::isA tk x.ts::isA hd x.hs::r) w) : Put9 ctx r c p m rv tk hd x n w:=by
 have h0:x.st ≠ 0:=by omega
 unfold Put9
 obtain ⟨av,ak,rfl⟩:=slr_val (hold_slr h)
 obtain ⟨ta,tc,rfl⟩:=slr_val (hold_slr (hold_drop (r:=[_]) h))
 obtain ⟨ha,hc,rfl⟩:=slr_val (hold_slr (hold_drop (r:=[_,_]) h))
 have hst:=hx.st
 have hw0:U64 x.w:=hx.w
 have hts:=hx.ts
 have hgg:=hx.gg h0
 obtain ⟨st,gg,w0,ts,hs⟩:=x
 dsimp only at hst hw0 h0 hts hgg
 have hbig:=hm.big
 obtain ⟨b1,W1,hb1,hW1,q1⟩:=newN (p9L c p gg (st:Int) w0 (.slice ta ts.length tc) (.slice ha hs.length hc)) 106 h
 obtain ⟨b2,W2,hb2,hW2,q2⟩:=newN [.slice av m.cells.length ak,.int .u64 m.ops] 53 q1
 obtain ⟨b3,W3,hb3,hW3,q3⟩:=newN p9Z 106 q2
 obtain ⟨b4,W4,hb4,hW4,q4⟩:=newN [.slice none 0 0,.int .u64 0] 53 q3
 have g0:Ev.Hold ctx (H9 c p b1 b2 b3 b4 (p9L c p gg (st:Int) w0 (.slice ta ts.length tc) (.slice ha hs.length hc)) (.slice av m.cells.length ak) m.cells m.ops (.slice ta ts.length tc) (.slice ha hs.length hc) ts hs r) W4:=hsel [_,_,_,_,_] q4 [3,2,1,0,4]
 clear q1 q2 q3 q4
 have gd:=g0
 obtain ⟨Y,hY⟩ : ∃ Y,putStep c p ⟨st,gg,w0,ts,hs⟩ m=Y:=⟨_,rfl⟩
 have eg:∀ (a b:Value),p9 c p ⟨st,gg,w0,ts,hs⟩ a b=(p9L c p gg (st:Int) w0 a b).toArray:=fun _ _=>rfl
 rw [eg,hY]
 clear eg
 have x9:=blkc gd 9 _
 have x8:=blkc gd 8 _
 refine wen Tryz.func53 160 ?_
 gi_wp2
 refine wcw (rTail w0 hw0 _) ?_
 rintro e w1 ⟨rfl,rfl⟩
 clear hW1 hW2 hW3 hW4 hb1 hb2 hb3 hb4 g0 x9
 have hd:=hold_keep gd (Below.refl _ _).drew
 obtain ⟨ops',ho'⟩ : ∃ o,IntKind.u64.wrap (m.ops+1)=o:=⟨_,rfl⟩
 obtain rfl:st=3:=hk
 obtain ⟨hx,-⟩:=hm.at_ (hm.lt_word hp)
 obtain ⟨x,hxe⟩ : ∃ x,ld m (c.word p)=x:=⟨_,rfl⟩
 rw [hxe] at hx
 obtain ⟨z,hz'⟩ : ∃ z,decide (x=w0)=z:=⟨_,rfl⟩
 obtain ⟨CS,hCS⟩ : ∃ CS,(if x=w0 then m.cells.set (c.word p) (mvW w0 1) else m.cells)=CS:=⟨_,rfl⟩
 have x9d:=blkc hd 9 _
 gi_upto_region 14 with fail
 gi_cut [7] from 15 (fun s7 wx=>∃ a2 k2,s7=.bool z∧Ev.Hold ctx (H9 c p b1 b2 b3 b4 (p9L c p gg 3 w0 (.slice ta ts.length tc) (.slice ha hs.length hc)) (.slice a2 CS.length k2) CS ops' (.slice ta ts.length tc) (.slice ha hs.length hc) ts hs r) wx)
 case first =>
  have y0:=blkc (hold_up [_] hd) 0 _
  have y1:=blkc (hold_up [_] hd) 1 _
  have cL:∀ {R:List Ev.Asr} {W:World},Ev.Hold ctx (uA (.slice av m.cells.length ak) m.cells::R) W→Calls Tryz.prog 85 #[.agg #[(.slice av m.cells.length ak),.int .u64 m.ops],.int .i64 ((c.word p:Nat) : Int),.int .u64 w0,.int .u64 (mvW w0 1)] W fun e w'=>∃ a2 k2,e=.returned (.tuple #[.agg #[(.slice a2 CS.length k2),.int .u64 ops'],.bool z])∧Ev.Hold ctx (uA (.slice a2 CS.length k2) CS::R) w':=fun {R W} hh=>by
   refine (callsIn_wide.1 (rcas_in 0 (ops:=m.ops) (by omega) hx w0 (mvW w0 1) hh)).mono ?_
   rintro e w' ⟨al,rfl,h1⟩
   rw [hz',ho']
   rw [hCS] at h1
   obtain ⟨a2,k2,rfl⟩:=slr_val (hold_slr h1)
   exact ⟨a2,k2,rfl,h1⟩
  have e3:IntKind.u32.wrap (tlW w0+1)=(tlW w0+1) % 4294967296:=wrap32 _
  have cP:=fun W=>rPack (hdW w0) ((tlW w0+1) % 4294967296) (hdW_bd hw0) (by omega) W
  rw [show packW (hdW w0) ((tlW w0+1) % 4294967296)=mvW w0 1 from rfl] at cP
  refine wpIn_wide.2 ?_
  refine wp_region_noPanic ?_
  refine wp_region_B (fun W=>cpC c p b1 W∧W.cell? ⟨b2,0,none⟩=some (.slice av m.cells.length ak)∧W.cell? ⟨b2,1,none⟩=some (.int .u64 m.ops)∧W.cell? ⟨b1,9,none⟩=some (.int .u64 w0)) 18 (by kernel_rfl) ?_ (fun hHeld=>?_)
  ·(try dsimp only); (first | exact ⟨cpc hd,blkc (hold_up [_] hd) 0 _,blkc (hold_up [_] hd) 1 _,blkc hd 9 _⟩ | exact ⟨cpc h1,blkc (hold_up [_] h1) 0 _,blkc (hold_up [_] h1) 1 _,blkc h1 9 _⟩ | exact ⟨cpc h2,blkc (hold_up [_] h2) 0 _,blkc (hold_up [_] h2) 1 _,blkc h2 9 _⟩)
  refine takeB (i:=0) (v:=?_) (Or.inl ⟨by kernel_rfl,?_⟩) (by assumption) ?_
  rotate_left
  ·intro w hSw; (try dsimp only at hSw); go_simp; try with_reducible rfl
  try simp only [Act.put,List.setIfInBounds_toArray,List.set_cons_zero,List.set_cons_succ]
  refine takeB0 (i:=1) (v:=?_) (Or.inl ⟨by kernel_rfl,?_⟩) (by assumption) ?_
  rotate_left
  ·intro w _; go_simp; try with_reducible rfl
  try simp only [Act.put,List.setIfInBounds_toArray,List.set_cons_zero,List.set_cons_succ]
  refine takeB (i:=2) (v:=?_) (Or.inl ⟨by kernel_rfl,?_⟩) (by assumption) ?_
  rotate_left
  ·intro w hSw; (try dsimp only at hSw); go_simp; try with_reducible rfl
  try simp only [Act.put,List.setIfInBounds_toArray,List.set_cons_zero,List.set_cons_succ]
  refine takeB0 (i:=3) (v:=?_) (Or.inl ⟨by kernel_rfl,?_⟩) (by assumption) ?_
  rotate_left
  ·intro w _; go_simp; try with_reducible rfl
  try simp only [Act.put,List.setIfInBounds_toArray,List.set_cons_zero,List.set_cons_succ]
  refine takeB (i:=4) (v:=?_) (Or.inl ⟨by kernel_rfl,?_⟩) (by assumption) ?_
  rotate_left
  ·intro w hSw; (try dsimp only at hSw); go_simp; try with_reducible rfl
  try simp only [Act.put,List.setIfInBounds_toArray,List.set_cons_zero,List.set_cons_succ]
  refine takeB0 (i:=6) (v:=?_) (Or.inl ⟨by kernel_rfl,?_⟩) (by assumption) ?_
  rotate_left
  ·intro w _; go_simp; try with_reducible rfl
  try simp only [Act.put,List.setIfInBounds_toArray,List.set_cons_zero,List.set_cons_succ]
  refine takeB (i:=7) (v:=?_) (Or.inl ⟨by kernel_rfl,?_⟩) (by assumption) ?_
  rotate_left
  ·intro w hSw; (try dsimp only at hSw); go_simp; try with_reducible rfl
  try simp only [Act.put,List.setIfInBounds_toArray,List.set_cons_zero,List.set_cons_succ]
  refine takeB0 (i:=8) (v:=?_) (Or.inl ⟨by kernel_rfl,?_⟩) (by assumption) ?_
  rotate_left
  ·intro w _; go_simp; try with_reducible rfl
  try simp only [Act.put,List.setIfInBounds_toArray,List.set_cons_zero,List.set_cons_succ]
  refine takeB (i:=9) (v:=?_) (Or.inl ⟨by kernel_rfl,?_⟩) (by assumption) ?_
  rotate_left
  ·intro w hSw; (try dsimp only at hSw); go_simp; try with_reducible rfl
  try simp only [Act.put,List.setIfInBounds_toArray,List.set_cons_zero,List.set_cons_succ]
  refine takeB0 (i:=11) (v:=?_) (Or.inl ⟨by kernel_rfl,?_⟩) (by assumption) ?_
  rotate_left
  ·intro w _; go_simp; try with_reducible rfl
  try simp only [Act.put,List.setIfInBounds_toArray,List.set_cons_zero,List.set_cons_succ]
  refine takeB0 (i:=12) (v:=?_) (Or.inl ⟨by kernel_rfl,?_⟩) (by assumption) ?_
  rotate_left
  ·intro w _; go_simp; try with_reducible rfl
  try simp only [Act.put,List.setIfInBounds_toArray,List.set_cons_zero,List.set_cons_succ]
  refine nextB (i:=5) (ho:=rfl) (fun K hK=>?_)
  go_simp
  (have hcon:=rWord_ok c p hp W4.drew; (with_reducible refine hcon.mono ?_); clear hcon; rintro e w1 ⟨rfl,b1'⟩; have h1:=hold_keep hd b1'; have z0:=blkc (hold_up [_] h1) 0 _; have z1:=blkc (hold_up [_] h1) 1 _)
  first | refine hK.out _ _ ?_ (fun hHeld=>?_) | (go_wp2_with fail; refine hK.out _ _ ?_ (fun hHeld=>?_))
  ·(try dsimp only); (first | exact ⟨cpc hd,blkc (hold_up [_] hd) 0 _,blkc (hold_up [_] hd) 1 _,blkc hd 9 _⟩ | exact ⟨cpc h1,blkc (hold_up [_] h1) 0 _,blkc (hold_up [_] h1) 1 _,blkc h1 9 _⟩ | exact ⟨cpc h2,blkc (hold_up [_] h2) 0 _,blkc (hold_up [_] h2) 1 _,blkc h2 9 _⟩)
  clear hK K
  try simp only [Act.put,List.setIfInBounds_toArray,List.set_cons_zero,List.set_cons_succ]
  refine nextB (i:=10) (ho:=rfl) (fun K hK=>?_)
  go_simp
  (have hcon:=rHead w0 hw0 w1; (with_reducible refine hcon.mono ?_); clear hcon; rintro e w1' ⟨rfl,hw1⟩; subst hw1)
  first | refine hK.out _ _ ?_ (fun hHeld=>?_) | (go_wp2_with fail; refine hK.out _ _ ?_ (fun hHeld=>?_))
  ·(try dsimp only); (first | exact ⟨cpc hd,blkc (hold_up [_] hd) 0 _,blkc (hold_up [_] hd) 1 _,blkc hd 9 _⟩ | exact ⟨cpc h1,blkc (hold_up [_] h1) 0 _,blkc (hold_up [_] h1) 1 _,blkc h1 9 _⟩ | exact ⟨cpc h2,blkc (hold_up [_] h2) 0 _,blkc (hold_up [_] h2) 1 _,blkc h2 9 _⟩)
  clear hK K
  try simp only [Act.put,List.setIfInBounds_toArray,List.set_cons_zero,List.set_cons_succ]
  refine nextB (i:=13) (ho:=rfl) (fun K hK=>?_)
  go_simp
  (have hcon:=cP w1; (with_reducible refine hcon.mono ?_); clear hcon; rintro e w1' ⟨rfl,hw1⟩; subst hw1)
  first | refine hK.out _ _ ?_ (fun hHeld=>?_) | (go_wp2_with fail; refine hK.out _ _ ?_ (fun hHeld=>?_))
  ·(try dsimp only); (first | exact ⟨cpc hd,blkc (hold_up [_] hd) 0 _,blkc (hold_up [_] hd) 1 _,blkc hd 9 _⟩ | exact ⟨cpc h1,blkc (hold_up [_] h1) 0 _,blkc (hold_up [_] h1) 1 _,blkc h1 9 _⟩ | exact ⟨cpc h2,blkc (hold_up [_] h2) 0 _,blkc (hold_up [_] h2) 1 _,blkc h2 9 _⟩)
  clear hK K
  try simp only [Act.put,List.setIfInBounds_toArray,List.set_cons_zero,List.set_cons_succ]
  refine nextB (i:=14) (ho:=rfl) (fun K hK=>?_)
  go_simp
  (have hcon:=cL (hold_up [_,_,_,_] h1); (with_reducible refine hcon.mono ?_); clear hcon; rintro e w2 ⟨a2,k2,rfl,h2⟩; replace h2:=hold_dn [_,_,_,_] h2; have x20:=blkc (hold_up [_] h2) 0 _; have x21:=blkc (hold_up [_] h2) 1 _; have f20:=froz_of (hold_blk (hold_up [_] h2)) 0; have f21:=froz_of (hold_blk (hold_up [_] h2)) 1; have h3:=hold_dn [_] (hold_set 1 (.int .u64 ops') (hold_set 0 (.slice a2 CS.length k2) (hold_up [_] h2))))
  first | refine hK.out _ _ ?_ (fun hHeld=>?_) | (go_wp2_with fail; refine hK.out _ _ ?_ (fun hHeld=>?_))
  ·(try dsimp only); (first | exact ⟨cpc hd,blkc (hold_up [_] hd) 0 _,blkc (hold_up [_] hd) 1 _,blkc hd 9 _⟩ | exact ⟨cpc h1,blkc (hold_up [_] h1) 0 _,blkc (hold_up [_] h1) 1 _,blkc h1 9 _⟩ | exact ⟨cpc h2,blkc (hold_up [_] h2) 0 _,blkc (hold_up [_] h2) 1 _,blkc h2 9 _⟩)
  clear hK K
  try simp only [Act.put,List.setIfInBounds_toArray,List.set_cons_zero,List.set_cons_succ]
  refine takeB0 (i:=15) (v:=?_) (Or.inl ⟨by kernel_rfl,?_⟩) (by assumption) ?_
  rotate_left
  ·intro w _; go_simp; try with_reducible rfl
  try simp only [Act.put,List.setIfInBounds_toArray,List.set_cons_zero,List.set_cons_succ]
  refine takeB0 (i:=16) (v:=?_) (Or.inl ⟨by kernel_rfl,?_⟩) (by assumption) ?_
  rotate_left
  ·intro w _; go_simp; try with_reducible rfl
  try simp only [Act.put,List.setIfInBounds_toArray,List.set_cons_zero,List.set_cons_succ]
  refine takeB0 (i:=17) (v:=?_) (Or.inl ⟨by kernel_rfl,?_⟩) (by assumption) ?_
  rotate_left
  ·intro w _; go_simp; try with_reducible rfl
  try simp only [Act.put,List.setIfInBounds_toArray,List.set_cons_zero,List.set_cons_succ]
  refine lastB (i:=18) (ho:=rfl) (fun K hK=>?_)
  go_simp
  refine hK.out _ _ ?_
  clear hK K
  try simp only [Act.put,List.setIfInBounds_toArray,List.set_cons_zero,List.set_cons_succ]
  refine lastB (i:=19) (ho:=rfl) (fun K hK=>?_)
  go_simp
  refine hK.out _ _ ?_
  clear hK K
  try simp only [Act.put,List.setIfInBounds_toArray,List.set_cons_zero,List.set_cons_succ]
  refine (doneB (h:=?_) (hr:=by kernel_rfl)) _
  refine NoPanic.normal ?_
  all_goals
   gi_wp2
   gi_meet
   case rel=>exact ⟨_,_,rfl,h3⟩
 case rest =>
  obtain ⟨a2,k2,rfl,g1⟩:=hcut
  clear hd gd x9d
  have x8:=blkc g1 8 _
  have f8:=froz_of (hold_blk g1) 8
  have g2:=hold_set 8 (.int .i64 1) g1
  by_cases he:x=w0
  ·obtain rfl:true=z:=by rw [← hz']; simp [he]
   have y8:=blkc g2 8 _
   have i8:=froz_of (hold_blk g2) 8
   have g3:=hold_set 8 (.int .i64 0) g2
   have y11:=blkc g3 11 _
   have i11:=froz_of (hold_blk g3) 11
   have g4:=hold_set 11 (.slice none 0 0) g3
   have g5:Ev.Hold ctx (H9 c p b1 b2 b3 b4 (p9L c p gg 0 w0 (.slice ta ts.length tc) (.slice none 0 0)) (.slice a2 CS.length k2) CS ops' (.slice ta ts.length tc) (.slice none 0 0) ts [] r) _:=hsel [_,_,_,_,_,_,_,_] (g4.nilSl (e := 3) (sz:=1)) [1,2,3,4,5,6,0]
   have ho:Aside (Y=(⟨0,gg,w0,ts,[]⟩,⟨CS,ops'⟩)):=by show Y=_; rw [← hY]; simp only [putStep,ge_iff_le,← hCS,hxe,if_pos he,MemM.tick,MemM.put,ho']
   clear hCS hz'
   gi_upto_region 36 with fail
   refine wpIn_wide.2 (reg2 g5 (fun w' hw'=>?_) Tryz.underlying106 Tryz.underlying53 rfl rfl rfl rfl rfl rfl rfl rfl rfl rfl rfl)
   gi_wp2
   exact post_cell2 rfl rfl rfl rfl (lv_all (hold_up [_,_] hw') Tryz.underlying106 rfl (by kernel_rfl)) (lv_all (hold_up [_,_,_] hw') Tryz.underlying53 rfl (by kernel_rfl)) (by rw [ho.out]; first | exact ⟨_,_,_,rfl,hold_drop (r:=[_,_,_,_]) hw'⟩ | exact ⟨_,_,⟨_,rfl⟩,hold_drop (r:=[_,_,_,_]) hw'⟩ | exact ⟨_,⟨_,_,rfl⟩,hold_drop (r:=[_,_,_,_]) hw'⟩)
  ·obtain rfl:false=z:=by rw [← hz']; simp [he]
   have g5:Ev.Hold ctx (H9 c p b1 b2 b3 b4 (p9L c p gg 1 w0 (.slice ta ts.length tc) (.slice ha hs.length hc)) (.slice a2 CS.length k2) CS ops' (.slice ta ts.length tc) (.slice ha hs.length hc) ts hs r) _:=g2
   have ho:Aside (Y=(⟨1,gg,w0,ts,hs⟩,⟨CS,ops'⟩)):=by show Y=_; rw [← hY]; simp only [putStep,ge_iff_le,← hCS,hxe,if_neg he,MemM.tick,MemM.put,ho']
   clear hCS hz'
   gi_upto_region 36 with fail
   refine wpIn_wide.2 (reg2 g5 (fun w' hw'=>?_) Tryz.underlying106 Tryz.underlying53 rfl rfl rfl rfl rfl rfl rfl rfl rfl rfl rfl)
   gi_wp2
   exact post_cell2 rfl rfl rfl rfl (lv_all (hold_up [_,_] hw') Tryz.underlying106 rfl (by kernel_rfl)) (lv_all (hold_up [_,_,_] hw') Tryz.underlying53 rfl (by kernel_rfl)) (by rw [ho.out]; first | exact ⟨_,_,_,rfl,hold_drop (r:=[_,_,_,_]) hw'⟩ | exact ⟨_,_,⟨_,rfl⟩,hold_drop (r:=[_,_,_,_]) hw'⟩ | exact ⟨_,⟨_,_,rfl⟩,hold_drop (r:=[_,_,_,_]) hw'⟩)
end
end Go.Proofs.YtkmccgombmogmaaGreat
