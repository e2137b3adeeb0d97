/- Part of a proof: see the last text. -/
import Derived.Test.YtkmccgombmogmaaGreatZk1
import Derived.Test.YtkmccgombmogmaaGreatZk11
namespace Go.Proofs.YtkmccgombmogmaaGreat
open Go.RowKit
set_option linter.unusedVariables false
set_option linter.unusedSimpArgs false
set_option maxRecDepth 8000
def OutS.k:Option OutS→Int
 | none=>0
 | some o=>o.kd
def OutS.g:Option OutS→Int
 | none=>0
 | some o=>o.got
def OutS.l:Option OutS→List Int
 | none=>[]
 | some o=>o.over
theorem mac_gone {ctx:Ev.Ctx} {w:World} {r m:List Ev.Asr} {c:Cfg} {p:Nat} {o:OwnS} {e:OwnV} (h:Ev.Hold ctx (ownL c p o e++(r++m)) w) : Ev.Hold ctx (ownL c p (o.now none) ⟨e.d,.nilIface,e.rv⟩++(r++m)) w:=by
 have h1:Ev.Hold ctx ([macA c p e.mv o.mac]++(dqA c e.d o.dq::isA e.rv o.rs::(r++m))) w:=hold_perm (perm_of (fun f=>by simp only [ownL,List.cons_append,List.nil_append,List.map_append,List.map_cons,List.map_nil,List.sum_append,List.sum_cons,List.sum_nil]; omega)) h
 obtain ⟨F',m1,m2,m3⟩:=(hold_drop h1).ex
 have h3:Ev.Hold ctx (macA c p .nilIface none::dqA c e.d o.dq::isA e.rv o.rs::(r++m)) w:=by
  have q:=Ev.now_cons (a:=macA c p .nilIface none) (Fa:=fun _=>False) ⟨(),rfl,fun j hj=>hj⟩ m1 (fun j hj=>hj.elim) (fun j hj=>hj.elim)
  exact ⟨F',Ev.now_same q (fun j=>⟨fun h=>h.elim False.elim id,.inr⟩),m2,m3⟩
 exact hold_swap h3
theorem race_bad {ctx:Ev.Ctx} {w:World} {a:Ev.Asr} {b:RB} {c:Cfg} {x:RaceS} {es:Nat→OwnV} (hx:x.bad=false) (h:Ev.Hold ctx ([a]++raceL b c x es) w) : Ev.Hold ctx ([a]++raceL b c x es) (w.setCell ⟨b.br,9,none⟩ (.bool false)):=by
 have h1:Ev.Hold ctx (raceV b c x::a::([memA b.bm x.m,rowsA b c x.ow es]++ownsL c x.ow es)) w:=hold_swap h
 have h2:=hold_set 9 (.bool false) h1
 have e:Ev.blkA b.br (List.set [.int .i64 (c.n:Int),.int .i64 (c.q:Int),.int .i64 c.g,.int .i64 c.m,.int .i64 c.t,.int .i64 c.s,.pointer (some ⟨b.bm,0,none⟩),.slice (some ⟨b.bo,0,none⟩) c.n b.cp,.int .i64 x.pts,.bool x.bad] 9 (.bool false)) 73 = raceV b c x:=by
  unfold raceV
  rw [hx]
  rfl
 rw [e] at h2
 exact hold_swap h2
set_option maxHeartbeats 4000000 in
theorem step_in (m:Nat) {b:RB} {c:Cfg} {B:Int} {x:RaceS} {p:Nat} {o:OwnS} {M:MacS} (hI:RaceI c B x) (hB:B+8≤1073741824) (ho:x.ow[p]? = some o) (hM:o.mac=some M) {F:Nat→Prop} {w:World} (h:Ev.Now [raceA b c x] F w) :
  CallsIn Fence.wide m Tryz.prog 13 #[.pointer (some ⟨b.br,0,none⟩),.int .i64 (p:Int)] w fun e w'=>∃ v,Ev.leafV v=true∧e=.returned (.tuple #[.agg #[.int .i64 (OutS.k (raceStep c x p o M).2),.int .i64 (OutS.g (raceStep c x p o M).2),v],.bool (raceStep c x p o M).2.isSome])∧Ev.Hold ⟨w,F⟩ [isA v (OutS.l (raceStep c x p o M).2),raceA b c (raceStep c x p o M).1] w':=by
 refine callsIn_of_wp Tryz.func13 rfl trivial ?_ rfl
 simp only [Tryz.ntmps13,List.size_toArray,List.length_cons,List.length_nil,Nat.reduceAdd,Nat.reduceSub,Array.replicate_succ,Array.replicate_zero,List.push_toArray,List.append_toArray,List.nil_append,List.cons_append]
 obtain ⟨es,hst⟩:=race_open (Ev.Hold.start h)
 rw [List.append_nil] at hst
 have hlt:p < x.ow.length:=(List.getElem?_eq_some_iff.1 ho).1
 have hp:p < c.n:=by rw [← hI.len]; exact hlt
 have hpI:(p:Int) < (c.n:Int):=by omega
 have hq8:c.q≤8:=by have:=hI.R.h8; omega
 obtain ⟨h0,hMI,hC⟩:=(hI.ow p o ho).mac M hM
 obtain ⟨r1,r2,r3,r4,r5⟩:=race_step hI hB ho hM
 obtain ⟨W1,hW1⟩ : ∃ W1,w.alloc (.cells #[.int .i64 0,.int .i64 0,.slice none 0 0] 37)=W1:=⟨_,rfl⟩
 have h1:Ev.Hold ⟨w,F⟩ ([Ev.blkA w.heap.size [.int .i64 0,.int .i64 0,.slice none 0 0] 37]++raceL b c x es) W1:=by rw [← hW1]; exact hold_new _ _ hst
 obtain ⟨mv,hmv⟩ : ∃ mv,(es p).mv=mv:=⟨_,rfl⟩
 have hb1:=race_at h1
 have e7:W1.cell? ⟨b.br,7,none⟩=some (.slice (some ⟨b.bo,0,none⟩) c.n b.cp):=cell_of hb1 7 _ rfl
 have e3:W1.cell? ⟨b.bo,p * 7+3,none⟩=some mv:=row_at hp ho h1 (by rw [← hmv]; rfl)
 obtain ⟨F1,k1,back⟩:=own_mm hp ho (hold_keep h1 ((Below.refl _ W1).drew))
 rw [hmv,hM] at k1
 rw [hmv] at back
 have hmvb:MvB mv true:=by
  have:=mac_val (Ev.Hold.start k1)
  exact this
 obtain ⟨T,bp,f,hmvE,hinv,hcall⟩:=mac_step hp (macI_ok hMI) h0 hI.R.mem hI.R.sl k1
 have hpt:=point_ok hI ho hM
 have hxs:RaceS.own ⟨(M.step c p x.m).2,x.ow,x.pts,x.bad⟩ p (o.now (some (M.step c p x.m).1))=atStep c x p o M:=rfl
 have hos:(atStep c x p o M).ow[p]? = some (o.now (some (M.step c p x.m).1)):=List.getElem?_set_self hlt
 have hpe:racePoint c (atStep c x p o M) p (o.now (some (M.step c p x.m).1)) (M.step c p x.m).1=atPoint c x p o M:=rfl
 obtain ⟨bd,hbd⟩ : ∃ bd,decide ((M.step c p x.m).1.st=0)=bd:=⟨_,rfl⟩
 gi_wp2
 refine ⟨trivial,fun h=>by simp [Fence.wide] at h,(busy_in (m - 1) hb1 hp e3 hmvb).mono ?_⟩
 rintro e w' ⟨rfl,hw'⟩
 replace hw':=hw'.symm
 subst hw'
 subst hmvE
 clear hmvb
 gi_wp2
 have hS1:∀ (x':RaceS) (o':OwnS) (r:List Ev.Asr) (w':World),x'.ow[p]? = some o'→Ev.Hold ⟨w,F⟩ (r++raceL b c x' es) w'→w'.cell? ⟨b.br,6,none⟩=some (.pointer (some ⟨b.bm,0,none⟩))∧w'.cell? ⟨b.bo,p * 7+3,none⟩=some (.iface T (.pointer (some ⟨bp,0,none⟩))):=fun x' o' r w' ho' hh=>⟨cell_of (race_at hh) 6 _ rfl,row_at hp ho' hh (by rw [← hmv]; rfl)⟩
 have h1d:=hold_keep h1 ((Below.refl _ W1).drew)
 refine wpIn_wide.2 ?_
 go_region_held3 (fun w'=>w'.cell? ⟨b.br,6,none⟩=some (.pointer (some ⟨b.bm,0,none⟩))∧w'.cell? ⟨b.bo,p * 7+3,none⟩=some (.iface T (.pointer (some ⟨bp,0,none⟩)))) ((first | exact hS1 _ _ _ _ ho h1d | exact hS1 _ _ _ _ hos h3 | fail)) ((first
  | (rw [if_pos (by rfl)]; refine wp_invoke (.tmp 30) "Step" #[.tmp 28] _ rfl ?hr hcall ?hk; (case hr=>(simp only [List.map_toArray,List.map_cons,List.map_nil]; exact hinv _)); rintro e w3 ⟨rfl,hh⟩; refine ⟨_,rfl,?_⟩; have h3:=back _ _ _ hh)
  | (refine wp_invoke (.tmp 30) "Step" #[.tmp 28] _ rfl ?hr hcall ?hk; (case hr=>(simp only [List.map_toArray,List.map_cons,List.map_nil]; exact hinv _)); rintro e w3 ⟨rfl,hh⟩; refine ⟨_,rfl,?_⟩; have h3:=back _ _ _ hh)))
 rw [hxs] at h3
 have hpt':=rpoint_in (m - 1) hp hos rfl hpt h3
 rw [hbd,hpe] at hpt'
 gi_wp2
 refine ⟨trivial,fun h=>by simp [Fence.wide] at h,hpt'.mono ?_⟩
 rintro e w4 ⟨rfl,es',h4⟩
 obtain ⟨x2,hx2⟩ : ∃ x2,atPoint c x p o M=x2:=⟨_,rfl⟩
 rw [hx2] at h4 r4 r3
 have hmem2:MemOk c x2.m:=by rw [r4.mem]; exact r5.mem
 have hsame:∀ (q:Nat) oq,x2.ow[q]? = some oq→DqOk c oq.dq∧ringL c x2.m q=dqAll c oq.dq:=fun q oq hq=>by
  have:=mid_same hI r4 r5.sl ho hq
  rw [r4.mem]
  exact ⟨this.1.ok,this.2⟩
 have e7':w4.cell? ⟨b.br,7,none⟩=some (.slice (some ⟨b.bo,0,none⟩) c.n b.cp):=cell_of (race_at h4) 7 _ rfl
 have hnb:=c.nb
 gi_wp2
 gi_loopw [41] (fun q wr=>∃ k:Nat,q=.int .i64 (k:Int)∧k≤c.n∧Ev.Hold ⟨w,F⟩ ([Ev.blkA w.heap.size [.int .i64 0,.int .i64 0,.slice none 0 0] 37]++raceL b c x2 es') wr) (fun q _=>c.n - (intOf q).toNat)
 case atStart=>exact ⟨0,rfl,Nat.zero_le _,h4⟩
 case round =>
  obtain ⟨k,rfl,hk,hH⟩:=hrel
  by_cases hkn:k < c.n
  ·have hlI:(k:Int) < (c.n:Int):=by omega
   obtain ⟨oq,hoq⟩ : ∃ oq,x2.ow[k]? = some oq:=⟨_,List.getElem?_eq_getElem (by rw [r4.len]; exact hkn)⟩
   obtain ⟨hdk,hrk⟩:=hsame k oq hoq
   have e9:wr.cell? ⟨b.br,9,none⟩=some (.bool false):=cell_of (race_at hH) 9 _ (by rw [← r4.bad]; rfl)
   have hring:=rring_in (m - 1) hkn hmem2 hH
   rw [hrk] at hring
   clear hrk
   gi_wp2
   refine ⟨trivial,fun h=>by simp [Fence.wide] at h,hring.mono ?_⟩
   rintro e w5 ⟨a5,k5,rfl,h5⟩
   gi_wp2
   refine ⟨trivial,fun h=>by simp [Fence.wide] at h,(rdeque_in (m - 1) (r:=isA _ _::[_]) hq8 hkn hoq hdk h5).mono ?_⟩
   rintro e w6 ⟨a6,k6,rfl,h6'⟩
   have h6:Ev.Hold ⟨w,F⟩ ([isA (.slice a6 (dqAll c oq.dq).length k6) (dqAll c oq.dq),isA (.slice a5 (dqAll c oq.dq).length k5) (dqAll c oq.dq),Ev.blkA w.heap.size [.int .i64 0,.int .i64 0,.slice none 0 0] 37]++raceL b c x2 es') w6:=h6'
   clear h6'
   have s6:=hold_slr h6
   have s5:=hold_slr (hold_swap h6)
   have hl100:(dqAll c oq.dq).length≤100000:=by
    have:=hdk.sz
    have:=c.qb
    simp only [dqAll,List.length_map,List.length_range]
    omega
   have hcon:=equal_in (m - 1) _ _ (dqAll c oq.dq) (dqAll c oq.dq) w6 s5 s6 hl100
   rw [decide_eq_true rfl] at hcon
   gi_wp2
   refine ⟨trivial,fun h=>by simp [Fence.wide] at h,?_⟩
   with_reducible refine hcon.mono ?_
   rintro e w7 ⟨rfl,B7⟩
   have h7:Ev.Hold ⟨w,F⟩ ([Ev.blkA w.heap.size [.int .i64 0,.int .i64 0,.slice none 0 0] 37]++raceL b c x2 es') w7:=hold_drop (r:=[isA (.slice a6 (dqAll c oq.dq).length k6) (dqAll c oq.dq),isA (.slice a5 (dqAll c oq.dq).length k5) (dqAll c oq.dq)]) (hold_keep h6 B7)
   have f9:w7.frozen? ⟨b.br,9,none⟩=false:=froz_of (race_at h7) 9
   have c9:w7.cell? ⟨b.br,9,none⟩=some (.bool false):=cell_of (race_at h7) 9 _ (by rw [← r4.bad]; rfl)
   have h8:=race_bad r4.bad h7
   gi_wp2
   exact ⟨⟨k+1,rfl,by omega,h8⟩,by simp [intOf]; omega⟩
  ·obtain rfl:k=c.n:=by omega
   have hlI:¬ ((c.n:Nat) : Int) < (c.n:Int):=by omega
   have bt:=hold_blk hH
   have t0:wr.cell? ⟨w.heap.size,0,none⟩=some (.int .i64 0):=cell_of bt 0 _ rfl
   have t1:wr.cell? ⟨w.heap.size,1,none⟩=some (.int .i64 0):=cell_of bt 1 _ rfl
   have t2:wr.cell? ⟨w.heap.size,2,none⟩=some (.slice none 0 0):=cell_of bt 2 _ rfl
   have f0:wr.frozen? ⟨w.heap.size,0,none⟩=false:=froz_of bt 0
   have f1:wr.frozen? ⟨w.heap.size,1,none⟩=false:=froz_of bt 1
   have f2:wr.frozen? ⟨w.heap.size,2,none⟩=false:=froz_of bt 2
   cases bd with
   | false =>
    have hd0:¬ (M.step c p x.m).1.st=0:=of_decide_eq_false hbd
    have er:raceStep c x p o M=(x2,none):=by
     unfold raceStep
     rw [if_neg hd0,r3]
    have h9:=hold_set 2 (.slice none 0 0) (hold_set 1 (.int .i64 0) (hold_set 0 (.int .i64 0) hH))
    gi_wp2
    refine post_cellT rfl rfl rfl (loadOut _ _ _ _ _ (hold_blk h9)) ?_
    first | rw [er] | skip
    refine ⟨.slice none 0 0,rfl,rfl,?_⟩
    exact (race_close (l:=[]) (by rw [List.append_nil]; exact hold_drop (r:=[_]) h9)).nilSl (e := 3) (sz:=1)
   | true =>
    have hd0:(M.step c p x.m).1.st=0:=of_decide_eq_true hbd
    obtain ⟨o2,o21,o22,o23,o24,o25,o26,o27,o28⟩:=r4.self
    have er:raceStep c x p o M=(x2.own p (o2.now none),some ⟨o.kd,(M.step c p x.m).1.got,(M.step c p x.m).1.over⟩):=by
     unfold raceStep
     rw [if_pos hd0,r3,o21]
    gi_wp2
    refine ⟨trivial,fun h=>by simp [Fence.wide] at h,(rout_in (m - 1) hp o21 o25 (macStep_ok hI ho hM) hmem2 hH).mono ?_⟩
    rintro e w5 ⟨a5,k5,rfl,h5⟩
    obtain ⟨ov,hov⟩ : ∃ ov,Value.slice a5 (M.step c p x.m).1.over.length k5=ov:=⟨_,rfl⟩
    obtain ⟨gz,hgz⟩ : ∃ gz,(M.step c p x.m).1.got=gz:=⟨_,rfl⟩
    obtain ⟨lz,hlz⟩ : ∃ lz,(M.step c p x.m).1.over=lz:=⟨_,rfl⟩
    rw [hov,hlz] at h5
    rw [hgz,hlz] at er
    rw [o22,hgz,hov]
    obtain ⟨aa,nn,kk,e0⟩ : ∃ a n k,ov=.slice a n k:=⟨_,_,_,hov.symm⟩
    clear hov
    subst e0
    obtain ⟨W6,hW6⟩ : ∃ W6,w5.alloc (.cells #[.int .i64 0,.int .i64 0,.slice none 0 0] 37)=W6:=⟨_,rfl⟩
    have h6:Ev.Hold ⟨w,F⟩ ([Ev.blkA w5.heap.size [.int .i64 0,.int .i64 0,.slice none 0 0] 37,isA (.slice aa nn kk) lz,Ev.blkA w.heap.size [.int .i64 0,.int .i64 0,.slice none 0 0] 37]++raceL b c x2 es') W6:=by rw [← hW6]; exact hold_new _ _ h5
    have b6:=hold_blk h6
    have n0:W6.cell? ⟨w5.heap.size,0,none⟩=some (.int .i64 0):=cell_of b6 0 _ rfl
    have n1:W6.cell? ⟨w5.heap.size,1,none⟩=some (.int .i64 0):=cell_of b6 1 _ rfl
    have n2:W6.cell? ⟨w5.heap.size,2,none⟩=some (.slice none 0 0):=cell_of b6 2 _ rfl
    have l0:W6.frozen? ⟨w5.heap.size,0,none⟩=false:=froz_of b6 0
    have l1:W6.frozen? ⟨w5.heap.size,1,none⟩=false:=froz_of b6 1
    have l2:W6.frozen? ⟨w5.heap.size,2,none⟩=false:=froz_of b6 2
    have h7:Ev.Hold ⟨w,F⟩ ([Ev.blkA w5.heap.size [.int .i64 o.kd,.int .i64 gz,(.slice aa nn kk)] 37,isA (.slice aa nn kk) lz,Ev.blkA w.heap.size [.int .i64 0,.int .i64 0,.slice none 0 0] 37]++raceL b c x2 es') _:=hold_set 2 (.slice aa nn kk) (hold_set 1 (.int .i64 gz) (hold_set 0 (.int .i64 o.kd) h6))
    obtain ⟨W7,hW7⟩ : ∃ W7,((W6.setCell ⟨w5.heap.size,0,none⟩ (.int .i64 o.kd)).setCell ⟨w5.heap.size,1,none⟩ (.int .i64 gz)).setCell ⟨w5.heap.size,2,none⟩ (.slice aa nn kk)=W7:=⟨_,rfl⟩
    rw [hW7] at h7
    obtain ⟨Tq,vq,hmq⟩ : ∃ T v,(es' p).mv=.iface T v:=by
     obtain ⟨bq,q⟩:=mac_is hp o21 o25 h7
     exact ⟨_,_,q⟩
    have c3:W7.cell? ⟨b.bo,p * 7+3,none⟩=some (.iface Tq vq):=row_at hp o21 h7 (by rw [← hmq]; rfl)
    have f3:W7.frozen? ⟨b.bo,p * 7+3,none⟩=false:=row_froz h7 _
    have h8:=row_set (o':=o2.now none) (e':=⟨(es' p).d,.nilIface,(es' p).rv⟩) hp o21 3 (by decide) .nilIface rfl _ (fun m w h=>mac_gone h) h7
    obtain ⟨W8,hW8⟩ : ∃ W8,W7.setCell ⟨b.bo,p * 7+3,none⟩ .nilIface=W8:=⟨_,rfl⟩
    rw [hW8] at h8
    have h8':Ev.Hold ⟨w,F⟩ ([Ev.blkA w5.heap.size [.int .i64 o.kd,.int .i64 gz,(.slice aa nn kk)] 37,Ev.blkA w.heap.size [.int .i64 0,.int .i64 0,.slice none 0 0] 37,isA (.slice aa nn kk) lz]++raceL b c (x2.own p (o2.now none)) (esAt es' p ⟨(es' p).d,.nilIface,(es' p).rv⟩)) W8:=hold_perm (perm_of (fun f=>by simp only [List.map_append,List.map_cons,List.map_nil,List.sum_append,List.sum_cons,List.sum_nil]; omega)) h8
    obtain ⟨p0,p1,p2,s0,s1,s2,z0,z1,z2,hfin,hload⟩:=out_facts h8'
    gi_wp2
    refine post_cellT rfl rfl rfl hload ?_
    first | rw [er] | skip
    refine ⟨.slice aa nn kk,rfl,rfl,?_⟩
    exact hold_swap (race_close (l:=[isA (.slice aa nn kk) lz]) (hold_perm List.perm_append_comm hfin))
end Go.Proofs.YtkmccgombmogmaaGreat
namespace Go.Proofs.YtkmccgombmogmaaGreat
open Go.RowKit
set_option linter.unusedVariables false
set_option linter.unusedSimpArgs false
set_option maxRecDepth 8000
theorem mac_new {ctx:Ev.Ctx} {w:World} {m:List Ev.Asr} {c:Cfg} {p:Nat} {o:OwnS} {e:OwnV} {M:MacS} {mv:Value} {kd cv cg:Int} {a:Ev.Asr} (h:Ev.Hold ctx (ownL c p ⟨kd,cv,cg,o.mac,o.dq,o.gn,o.rs⟩ e++(macA c p mv (some M)::a::m)) w) : Ev.Hold ctx (ownL c p ⟨kd,cv,cg,some M,o.dq,o.gn,o.rs⟩ ⟨e.d,mv,e.rv⟩++([a]++m)) w:=by
 have h1:Ev.Hold ctx ([macA c p e.mv o.mac]++(dqA c e.d o.dq::macA c p mv (some M)::isA e.rv o.rs::([a]++m))) w:=hold_perm (perm_of (fun f=>by simp only [ownL,List.cons_append,List.nil_append,List.map_append,List.map_cons,List.map_nil,List.sum_append,List.sum_cons,List.sum_nil]; omega)) h
 exact hold_drop h1
section
variable {ctx:Ev.Ctx} {w:World} {l m:List Ev.Asr} {c:Cfg} {p v bp:Nat} {a:Ev.Asr}
theorem put_in3 {u:PutS} (h:Ev.Hold ctx (l++([putA c p bp u,a]++m)) w) : Ev.Hold ctx (l++(macA c p (.iface 81 (.pointer (some ⟨bp,0,none⟩))) (some (.put u))::a::m)) w:=hold_perm (perm_of (fun f=>by simp only [List.cons_append,List.nil_append,List.map_append,List.map_cons,List.map_nil,List.sum_append,List.sum_cons,List.sum_nil]; omega)) (put_mac (c:=c) (p:=p) (bp:=bp) (u:=u) (r:=l++a::m) (hold_perm (perm_of (fun f=>by simp only [List.cons_append,List.nil_append,List.map_append,List.map_cons,List.map_nil,List.sum_append,List.sum_cons,List.sum_nil]; omega)) h))
theorem get_in3 {u:GetS} (h:Ev.Hold ctx (l++([getA c p bp u,a]++m)) w) : Ev.Hold ctx (l++(macA c p (.iface 83 (.pointer (some ⟨bp,0,none⟩))) (some (.get u))::a::m)) w:=hold_perm (perm_of (fun f=>by simp only [List.cons_append,List.nil_append,List.map_append,List.map_cons,List.map_nil,List.sum_append,List.sum_cons,List.sum_nil]; omega)) (get_mac (c:=c) (p:=p) (bp:=bp) (u:=u) (r:=l++a::m) (hold_perm (perm_of (fun f=>by simp only [List.cons_append,List.nil_append,List.map_append,List.map_cons,List.map_nil,List.sum_append,List.sum_cons,List.sum_nil]; omega)) h))
theorem steal_in3 {u:StealS} (h:Ev.Hold ctx (l++([stealA c p v bp u,a]++m)) w) : Ev.Hold ctx (l++(macA c p (.iface 85 (.pointer (some ⟨bp,0,none⟩))) (some (.steal v u))::a::m)) w:=hold_perm (perm_of (fun f=>by simp only [List.cons_append,List.nil_append,List.map_append,List.map_cons,List.map_nil,List.sum_append,List.sum_cons,List.sum_nil]; omega)) (steal_mac (c:=c) (p:=p) (bp:=bp) (v:=v) (u:=u) (r:=l++a::m) (hold_perm (perm_of (fun f=>by simp only [List.cons_append,List.nil_append,List.map_append,List.map_cons,List.map_nil,List.sum_append,List.sum_cons,List.sum_nil]; omega)) h))
end
def begErr (c:Cfg) (p:Nat) (o:OwnS) (kd cv cg:Int) : Int:=if (newMac c p kd cv cg).isNone then 2 else if o.mac.isSome then 4 else 0
def begRace (c:Cfg) (x:RaceS) (p:Nat) (o:OwnS) (kd cv cg:Int) : RaceS:=match newMac c p kd cv cg with | none=>x | some M=>if o.mac.isSome then x else x.own p (o.beg kd cv cg M)
set_option maxHeartbeats 4000000 in
theorem begin_in (m:Nat) {b:RB} {c:Cfg} {x:RaceS} {p:Nat} {o:OwnS} (hlen:x.ow.length=c.n) (ho:x.ow[p]? = some o) (kd cv cg:Int) {F:Nat→Prop} {w:World} (h:Ev.Now [raceA b c x] F w) :
  CallsIn Fence.wide m Tryz.prog 11 #[.pointer (some ⟨b.br,0,none⟩),.int .i64 (p:Int),.agg #[.int .i64 kd,.int .i64 cv,.int .i64 cg]] w fun e w'=>e=.returned (.int .i64 (begErr c p o kd cv cg))∧Ev.Hold ⟨w,F⟩ [raceA b c (begRace c x p o kd cv cg)] w':=by
 refine callsIn_of_wp Tryz.func11 rfl trivial ?_ rfl
 simp only [Tryz.ntmps11,List.size_toArray,List.length_cons,List.length_nil,Nat.reduceAdd,Nat.reduceSub,Array.replicate_succ,Array.replicate_zero,List.push_toArray,List.append_toArray,List.nil_append,List.cons_append]
 obtain ⟨es,hst⟩:=race_open (Ev.Hold.start h)
 rw [List.append_nil] at hst
 have hlt:p < x.ow.length:=(List.getElem?_eq_some_iff.1 ho).1
 have hp:p < c.n:=by rw [← hlen]; exact hlt
 have hpI:(p:Int) < (c.n:Int):=by omega
 obtain ⟨W1,hW1⟩ : ∃ W1,w.alloc (.cells #[.int .i64 kd,.int .i64 cv,.int .i64 cg] 26)=W1:=⟨_,rfl⟩
 have h1:Ev.Hold ⟨w,F⟩ ([Ev.blkA w.heap.size [.int .i64 kd,.int .i64 cv,.int .i64 cg] 26]++raceL b c x es) W1:=by rw [← hW1]; exact hold_new _ _ hst
 have hb1:=race_at h1
 have bt:=hold_blk h1
 have t0:W1.cell? ⟨w.heap.size,0,none⟩=some (.int .i64 kd):=cell_of bt 0 _ rfl
 have t1:W1.cell? ⟨w.heap.size,1,none⟩=some (.int .i64 cv):=cell_of bt 1 _ rfl
 have t2:W1.cell? ⟨w.heap.size,2,none⟩=some (.int .i64 cg):=cell_of bt 2 _ rfl
 have ed:decide (0≤(p:Int)∧(p:Int) < (c.n:Int))=true:=by simp [hp]
 obtain ⟨mv,hmv⟩ : ∃ mv,(es p).mv=mv:=⟨_,rfl⟩
 gi_wp2
 refine ⟨trivial,fun h=>by simp [Fence.wide] at h,(there_in (m - 1) hb1 (p:Int)).mono ?_⟩
 rintro e w' ⟨rfl,hw'⟩
 replace hw':=hw'.symm
 subst hw'
 rw [ed]
 by_cases hk1:kd=1
 ·subst hk1
  by_cases hg:0≤cg
  ·have hgg:cg ≥ 0:=hg
   have hnew:newMac c p 1 cv cg=some (.put (newPut cg)):=by simp [newMac,hg]
   have hd1:=hold_keep h1 ((Below.refl _ W1).drew)
   have hSA:∀ (r:List Ev.Asr) (w':World),Ev.Hold ⟨w,F⟩ ([Ev.blkA w.heap.size [.int .i64 1,.int .i64 cv,.int .i64 cg] 26]++(r++raceL b c x es)) w'→(w'.cell? ⟨b.br,0,none⟩=some (.int .i64 (c.n:Int))∧w'.cell? ⟨b.br,1,none⟩=some (.int .i64 (c.q:Int))∧w'.cell? ⟨b.br,2,none⟩=some (.int .i64 c.g)∧w'.cell? ⟨b.br,3,none⟩=some (.int .i64 c.m)∧w'.cell? ⟨b.br,4,none⟩=some (.int .i64 c.t)∧w'.cell? ⟨b.br,5,none⟩=some (.int .i64 c.s))∧w'.cell? ⟨w.heap.size,2,none⟩=some (.int .i64 cg):=fun r w' hh=>⟨⟨cell_of (race_at (hold_drop hh)) 0 _ rfl,cell_of (race_at (hold_drop hh)) 1 _ rfl,cell_of (race_at (hold_drop hh)) 2 _ rfl,cell_of (race_at (hold_drop hh)) 3 _ rfl,cell_of (race_at (hold_drop hh)) 4 _ rfl,cell_of (race_at (hold_drop hh)) 5 _ rfl⟩,cell_of (hold_blk hh) 2 _ rfl⟩
   gi_wp2
   refine wpIn_wide.2 ?_
   go_region_held3 (fun w'=>(w'.cell? ⟨b.br,0,none⟩=some (.int .i64 (c.n:Int))∧w'.cell? ⟨b.br,1,none⟩=some (.int .i64 (c.q:Int))∧w'.cell? ⟨b.br,2,none⟩=some (.int .i64 c.g)∧w'.cell? ⟨b.br,3,none⟩=some (.int .i64 c.m)∧w'.cell? ⟨b.br,4,none⟩=some (.int .i64 c.t)∧w'.cell? ⟨b.br,5,none⟩=some (.int .i64 c.s))∧w'.cell? ⟨w.heap.size,2,none⟩=some (.int .i64 cg)) ((first | exact hSA [] _ hd1 | exact hSA [_] _ (hold_swap h3) | fail)) ((first
    | (go_at_call 33; have hcon:=callsIn_wide.1 (rputnew 0 hp hg hd1); (with_reducible refine hcon.mono ?_); clear hcon; rintro e W3 ⟨bp,rfl,h3'⟩; have h3:Ev.Hold ⟨w,F⟩ ([putA c p bp (newPut cg),Ev.blkA w.heap.size [.int .i64 1,.int .i64 cv,.int .i64 cg] 26]++raceL b c x es) W3:=h3'; clear h3')))
   have e3:W3.cell? ⟨b.bo,p * 7+3,none⟩=some mv:=row_at hp ho h3 (by rw [← hmv]; rfl)
   have e7:W3.cell? ⟨b.br,7,none⟩=some (.slice (some ⟨b.bo,0,none⟩) c.n b.cp):=cell_of (race_at h3) 7 _ rfl
   cases hmac:o.mac with
   | some M0 =>
    obtain ⟨Tq,vq,hmq⟩ : ∃ T v,mv=.iface T v:=by
     obtain ⟨bq,q⟩:=mac_is hp ho hmac h3
     exact ⟨_,_,hmv.symm.trans q⟩
    subst hmq
    gi_wp2
    refine bodyPost_ret (results_tmp rfl _ _ _) rfl ⟨?_,?_⟩
    ·rw [show begErr c p o 1 cv cg=4 by simp [begErr,hnew,hmac]]
     rfl
    ·rw [show begRace c x p o 1 cv cg=x by simp [begRace,hnew,hmac]]
     exact race_close (l:=[]) (by rw [List.append_nil]; exact hold_drop h3)
   | none =>
    obtain rfl:mv=.nilIface:=by
     obtain ⟨F9,k9,_⟩:=own_mac hp ho h3
     rw [hmac] at k9
     exact hmv.symm.trans (mac_none (Ev.Hold.start k9))
    have bt3:=hold_blk (hold_swap h3)
    have q0:W3.cell? ⟨w.heap.size,0,none⟩=some (.int .i64 1):=cell_of bt3 0 _ rfl
    have q1:W3.cell? ⟨w.heap.size,1,none⟩=some (.int .i64 cv):=cell_of bt3 1 _ rfl
    have q2:W3.cell? ⟨w.heap.size,2,none⟩=some (.int .i64 cg):=cell_of bt3 2 _ rfl
    have c0:W3.cell? ⟨b.bo,p * 7,none⟩=some (.int .i64 o.kd):=row_at (j:=0) hp ho h3 rfl
    have c1:W3.cell? ⟨b.bo,p * 7+1,none⟩=some (.int .i64 o.cv):=row_at hp ho h3 rfl
    have c2:W3.cell? ⟨b.bo,p * 7+2,none⟩=some (.int .i64 o.cg):=row_at hp ho h3 rfl
    have c5:W3.cell? ⟨b.bo,p * 7+5,none⟩=some (.bool o.gn):=row_at hp ho h3 rfl
    have f0:W3.frozen? ⟨b.bo,p * 7,none⟩=false:=row_froz h3 _
    have f1:W3.frozen? ⟨b.bo,p * 7+1,none⟩=false:=row_froz h3 _
    have f2:W3.frozen? ⟨b.bo,p * 7+2,none⟩=false:=row_froz h3 _
    have f3:W3.frozen? ⟨b.bo,p * 7+3,none⟩=false:=row_froz h3 _
    have f5:W3.frozen? ⟨b.bo,p * 7+5,none⟩=false:=row_froz h3 _
    have hl:∀ (x':RaceS) (o':OwnS),p < x'.ow.length→(x'.own p o').ow[p]? = some o':=fun x' o' h=>List.getElem?_set_self h
    have hlen':∀ (o':OwnS),p < (x.own p o').ow.length:=fun o'=>by
     show p < (x.ow.set p o').length
     rw [List.length_set]
     exact hlt
    have g0:=row_set (o':=⟨1,o.cv,o.cg,o.mac,o.dq,o.gn,o.rs⟩) (e':=es p) hp ho 0 (by decide) (.int .i64 1) rfl _ (fun m w h=>h) h3
    rw [esAt_id] at g0
    have g1:=row_set (o':=⟨1,cv,o.cg,o.mac,o.dq,o.gn,o.rs⟩) (e':=es p) hp (hl x ⟨1,o.cv,o.cg,o.mac,o.dq,o.gn,o.rs⟩ hlt) 1 (by decide) (.int .i64 cv) rfl _ (fun m w h=>h) g0
    rw [esAt_id,own_own] at g1
    have g2:=row_set (o':=⟨1,cv,cg,o.mac,o.dq,o.gn,o.rs⟩) (e':=es p) hp (hl x ⟨1,cv,o.cg,o.mac,o.dq,o.gn,o.rs⟩ hlt) 2 (by decide) (.int .i64 cg) rfl _ (fun m w h=>h) g1
    rw [esAt_id,own_own] at g2
    have g3:=row_set (o':=⟨1,cv,cg,some (.put (newPut cg)),o.dq,o.gn,o.rs⟩) (e':=⟨(es p).d,.iface 81 (.pointer (some ⟨bp,0,none⟩)),(es p).rv⟩) hp (hl x ⟨1,cv,cg,o.mac,o.dq,o.gn,o.rs⟩ hlt) 3 (by decide) (.iface 81 (.pointer (some ⟨bp,0,none⟩))) rfl [Ev.blkA w.heap.size [.int .i64 1,.int .i64 cv,.int .i64 cg] 26] (fun m w h=>mac_new (put_in3 h)) g2
    rw [own_own] at g3
    have g5:=row_set (o':=⟨1,cv,cg,some (.put (newPut cg)),o.dq,false,o.rs⟩) (e':=⟨(es p).d,.iface 81 (.pointer (some ⟨bp,0,none⟩)),(es p).rv⟩) hp (hl x ⟨1,cv,cg,some (.put (newPut cg)),o.dq,o.gn,o.rs⟩ hlt) 5 (by decide) (.bool false) (by rw [esAt_self]; rfl) [Ev.blkA w.heap.size [.int .i64 1,.int .i64 cv,.int .i64 cg] 26] (fun m w h=>by rw [esAt_self] at h; exact h) g3
    rw [own_own] at g5
    gi_wp2
    refine bodyPost_ret (results_tmp rfl _ _ _) rfl ⟨?_,?_⟩
    ·rw [show begErr c p o 1 cv cg=0 by simp [begErr,hnew,hmac]]
     rfl
    ·rw [show begRace c x p o 1 cv cg=x.own p (o.beg 1 cv cg (.put (newPut cg))) by simp [begRace,hnew,hmac]]
     exact race_close (l:=[]) (by rw [List.append_nil]; exact hold_drop (r:=[_]) g5)
  ·have hgg:¬ cg ≥ 0:=hg
   have hnew:newMac c p 1 cv cg=none:=by simp [newMac,hg]
   gi_wp2
   refine ⟨trivial,?_⟩
   gi_wp2
   refine bodyPost_ret (results_tmp rfl _ _ _) rfl ⟨?_,?_⟩
   ·rw [show begErr c p o 1 cv cg=2 by simp [begErr,hnew]]
    rfl
   ·rw [show begRace c x p o 1 cv cg=x by simp [begRace,hnew]]
    exact race_close (l:=[]) (by rw [List.append_nil]; exact hold_drop h1)
 ·have hk1b:¬ kd=1:=hk1
  by_cases hk2:kd=2
  ·subst hk2
   have hnew:newMac c p 2 cv cg=some (.get newGet):=by simp [newMac]
   have e0:W1.cell? ⟨b.br,0,none⟩=some (.int .i64 (c.n:Int)):=cell_of hb1 0 _ rfl
   have e1:W1.cell? ⟨b.br,1,none⟩=some (.int .i64 (c.q:Int)):=cell_of hb1 1 _ rfl
   have e2:W1.cell? ⟨b.br,2,none⟩=some (.int .i64 c.g):=cell_of hb1 2 _ rfl
   have e3':W1.cell? ⟨b.br,3,none⟩=some (.int .i64 c.m):=cell_of hb1 3 _ rfl
   have e4:W1.cell? ⟨b.br,4,none⟩=some (.int .i64 c.t):=cell_of hb1 4 _ rfl
   have e5:W1.cell? ⟨b.br,5,none⟩=some (.int .i64 c.s):=cell_of hb1 5 _ rfl
   gi_wp2
   refine ⟨trivial,fun h=>by simp [Fence.wide] at h,(rgetnew (m - 1) hp h1).mono ?_⟩
   rintro e W3 ⟨bp,rfl,h3'⟩
   have h3:Ev.Hold ⟨w,F⟩ ([getA c p bp newGet,Ev.blkA w.heap.size [.int .i64 2,.int .i64 cv,.int .i64 cg] 26]++raceL b c x es) W3:=h3'
   clear h3' e3'
   have e3:W3.cell? ⟨b.bo,p * 7+3,none⟩=some mv:=row_at hp ho h3 (by rw [← hmv]; rfl)
   have e7:W3.cell? ⟨b.br,7,none⟩=some (.slice (some ⟨b.bo,0,none⟩) c.n b.cp):=cell_of (race_at h3) 7 _ rfl
   cases hmac:o.mac with
   | some M0 =>
    obtain ⟨Tq,vq,hmq⟩ : ∃ T v,mv=.iface T v:=by
     obtain ⟨bq,q⟩:=mac_is hp ho hmac h3
     exact ⟨_,_,hmv.symm.trans q⟩
    subst hmq
    gi_wp2
    refine bodyPost_ret (results_tmp rfl _ _ _) rfl ⟨?_,?_⟩
    ·rw [show begErr c p o 2 cv cg=4 by simp [begErr,hnew,hmac]]
     rfl
    ·rw [show begRace c x p o 2 cv cg=x by simp [begRace,hnew,hmac]]
     exact race_close (l:=[]) (by rw [List.append_nil]; exact hold_drop h3)
   | none =>
    obtain rfl:mv=.nilIface:=by
     obtain ⟨F9,k9,_⟩:=own_mac hp ho h3
     rw [hmac] at k9
     exact hmv.symm.trans (mac_none (Ev.Hold.start k9))
    have bt3:=hold_blk (hold_swap h3)
    have q0:W3.cell? ⟨w.heap.size,0,none⟩=some (.int .i64 2):=cell_of bt3 0 _ rfl
    have q1:W3.cell? ⟨w.heap.size,1,none⟩=some (.int .i64 cv):=cell_of bt3 1 _ rfl
    have q2:W3.cell? ⟨w.heap.size,2,none⟩=some (.int .i64 cg):=cell_of bt3 2 _ rfl
    have c0:W3.cell? ⟨b.bo,p * 7,none⟩=some (.int .i64 o.kd):=row_at (j:=0) hp ho h3 rfl
    have c1:W3.cell? ⟨b.bo,p * 7+1,none⟩=some (.int .i64 o.cv):=row_at hp ho h3 rfl
    have c2:W3.cell? ⟨b.bo,p * 7+2,none⟩=some (.int .i64 o.cg):=row_at hp ho h3 rfl
    have c5:W3.cell? ⟨b.bo,p * 7+5,none⟩=some (.bool o.gn):=row_at hp ho h3 rfl
    have f0:W3.frozen? ⟨b.bo,p * 7,none⟩=false:=row_froz h3 _
    have f1:W3.frozen? ⟨b.bo,p * 7+1,none⟩=false:=row_froz h3 _
    have f2:W3.frozen? ⟨b.bo,p * 7+2,none⟩=false:=row_froz h3 _
    have f3:W3.frozen? ⟨b.bo,p * 7+3,none⟩=false:=row_froz h3 _
    have f5:W3.frozen? ⟨b.bo,p * 7+5,none⟩=false:=row_froz h3 _
    have hl:∀ (x':RaceS) (o':OwnS),p < x'.ow.length→(x'.own p o').ow[p]? = some o':=fun x' o' h=>List.getElem?_set_self h
    have hlen':∀ (o':OwnS),p < (x.own p o').ow.length:=fun o'=>by
     show p < (x.ow.set p o').length
     rw [List.length_set]
     exact hlt
    have g0:=row_set (o':=⟨2,o.cv,o.cg,o.mac,o.dq,o.gn,o.rs⟩) (e':=es p) hp ho 0 (by decide) (.int .i64 2) rfl _ (fun m w h=>h) h3
    rw [esAt_id] at g0
    have g1:=row_set (o':=⟨2,cv,o.cg,o.mac,o.dq,o.gn,o.rs⟩) (e':=es p) hp (hl x ⟨2,o.cv,o.cg,o.mac,o.dq,o.gn,o.rs⟩ hlt) 1 (by decide) (.int .i64 cv) rfl _ (fun m w h=>h) g0
    rw [esAt_id,own_own] at g1
    have g2:=row_set (o':=⟨2,cv,cg,o.mac,o.dq,o.gn,o.rs⟩) (e':=es p) hp (hl x ⟨2,cv,o.cg,o.mac,o.dq,o.gn,o.rs⟩ hlt) 2 (by decide) (.int .i64 cg) rfl _ (fun m w h=>h) g1
    rw [esAt_id,own_own] at g2
    have g3:=row_set (o':=⟨2,cv,cg,some (.get newGet),o.dq,o.gn,o.rs⟩) (e':=⟨(es p).d,.iface 83 (.pointer (some ⟨bp,0,none⟩)),(es p).rv⟩) hp (hl x ⟨2,cv,cg,o.mac,o.dq,o.gn,o.rs⟩ hlt) 3 (by decide) (.iface 83 (.pointer (some ⟨bp,0,none⟩))) rfl [Ev.blkA w.heap.size [.int .i64 2,.int .i64 cv,.int .i64 cg] 26] (fun m w h=>mac_new (get_in3 h)) g2
    rw [own_own] at g3
    have g5:=row_set (o':=⟨2,cv,cg,some (.get newGet),o.dq,false,o.rs⟩) (e':=⟨(es p).d,.iface 83 (.pointer (some ⟨bp,0,none⟩)),(es p).rv⟩) hp (hl x ⟨2,cv,cg,some (.get newGet),o.dq,o.gn,o.rs⟩ hlt) 5 (by decide) (.bool false) (by rw [esAt_self]; rfl) [Ev.blkA w.heap.size [.int .i64 2,.int .i64 cv,.int .i64 cg] 26] (fun m w h=>by rw [esAt_self] at h; exact h) g3
    rw [own_own] at g5
    gi_wp2
    refine bodyPost_ret (results_tmp rfl _ _ _) rfl ⟨?_,?_⟩
    ·rw [show begErr c p o 2 cv cg=0 by simp [begErr,hnew,hmac]]
     rfl
    ·rw [show begRace c x p o 2 cv cg=x.own p (o.beg 2 cv cg (.get newGet)) by simp [begRace,hnew,hmac]]
     exact race_close (l:=[]) (by rw [List.append_nil]; exact hold_drop (r:=[_]) g5)
  ·by_cases hk3:kd=3
   ·subst hk3
    by_cases hv:0≤cv∧cv < (c.n:Int)
    ·obtain ⟨v,rfl⟩ : ∃ v:Nat,cv=(v:Int):=⟨cv.toNat,by omega⟩
     have hvn:v < c.n:=by omega
     have edv:decide (0≤(v:Int)∧(v:Int) < (c.n:Int))=true:=by simp [hvn]
     gi_wp2
     refine ⟨trivial,fun h=>by simp [Fence.wide] at h,(there_in (m - 1) hb1 (v:Int)).mono ?_⟩
     rintro e w' ⟨rfl,hw'⟩
     replace hw':=hw'.symm
     subst hw'
     rw [edv]
     by_cases hvp:v=p
     ·subst hvp
      have hnew:newMac c v 3 (v:Int) cg=none:=by simp [newMac]
      have hne:((v:Int) == (v:Int))=true:=by simp
      gi_wp2
      refine bodyPost_ret (results_tmp rfl _ _ _) rfl ⟨?_,?_⟩
      ·rw [show begErr c v o 3 (v:Int) cg=2 by simp [begErr,hnew]]
       rfl
      ·rw [show begRace c x v o 3 (v:Int) cg=x by simp [begRace,hnew]]
       exact race_close (l:=[]) (by rw [List.append_nil]; exact hold_drop h1)
     ·have hnew:newMac c p 3 (v:Int) cg=some (.steal v newSteal):=by
       unfold newMac
       rw [if_neg (by omega),if_neg (by omega),if_pos ⟨rfl,by omega,by omega,by omega⟩]
       rfl
      have hvpI:¬ (v:Int)=(p:Int):=by omega
      have hd1:=hold_keep h1 ((Below.refl _ W1).drew)
      have hSA:∀ (r:List Ev.Asr) (w':World),Ev.Hold ⟨w,F⟩ ([Ev.blkA w.heap.size [.int .i64 3,.int .i64 (v:Int),.int .i64 cg] 26]++(r++raceL b c x es)) w'→(w'.cell? ⟨b.br,0,none⟩=some (.int .i64 (c.n:Int))∧w'.cell? ⟨b.br,1,none⟩=some (.int .i64 (c.q:Int))∧w'.cell? ⟨b.br,2,none⟩=some (.int .i64 c.g)∧w'.cell? ⟨b.br,3,none⟩=some (.int .i64 c.m)∧w'.cell? ⟨b.br,4,none⟩=some (.int .i64 c.t)∧w'.cell? ⟨b.br,5,none⟩=some (.int .i64 c.s))∧w'.cell? ⟨w.heap.size,1,none⟩=some (.int .i64 (v:Int)):=fun r w' hh=>⟨⟨cell_of (race_at (hold_drop hh)) 0 _ rfl,cell_of (race_at (hold_drop hh)) 1 _ rfl,cell_of (race_at (hold_drop hh)) 2 _ rfl,cell_of (race_at (hold_drop hh)) 3 _ rfl,cell_of (race_at (hold_drop hh)) 4 _ rfl,cell_of (race_at (hold_drop hh)) 5 _ rfl⟩,cell_of (hold_blk hh) 1 _ rfl⟩
      have hcon0:∀ w',Ev.Hold ⟨w,F⟩ ([Ev.blkA w.heap.size [.int .i64 3,.int .i64 (v:Int),.int .i64 cg] 26]++raceL b c x es) w'→CallsIn Fence.wide 0 Tryz.prog 35 #[c.v,.int .i64 (p:Int),.int .i64 (v:Int)] w' fun e w'=>∃ bp,e=.returned (.pointer (some ⟨bp,0,none⟩))∧Ev.Hold ⟨w,F⟩ ([stealA c p v bp newSteal,Ev.blkA w.heap.size [.int .i64 3,.int .i64 (v:Int),.int .i64 cg] 26]++raceL b c x es) w':=fun w' hh=>by
       exact rstealnew 0 hp hvn (fun e=>hvp e.symm) hh
      gi_wp2
      refine wpIn_wide.2 ?_
      go_region_held3 (fun w'=>(w'.cell? ⟨b.br,0,none⟩=some (.int .i64 (c.n:Int))∧w'.cell? ⟨b.br,1,none⟩=some (.int .i64 (c.q:Int))∧w'.cell? ⟨b.br,2,none⟩=some (.int .i64 c.g)∧w'.cell? ⟨b.br,3,none⟩=some (.int .i64 c.m)∧w'.cell? ⟨b.br,4,none⟩=some (.int .i64 c.t)∧w'.cell? ⟨b.br,5,none⟩=some (.int .i64 c.s))∧w'.cell? ⟨w.heap.size,1,none⟩=some (.int .i64 (v:Int))) ((first | exact hSA [] _ hd1 | exact hSA [_] _ (hold_swap h3) | fail)) ((first
       | (go_at_call 35; have hcon:=callsIn_wide.1 (hcon0 _ hd1); (with_reducible refine hcon.mono ?_); clear hcon; rintro e W3 ⟨bp,rfl,h3⟩)))
      have e3:W3.cell? ⟨b.bo,p * 7+3,none⟩=some mv:=row_at hp ho h3 (by rw [← hmv]; rfl)
      have e7:W3.cell? ⟨b.br,7,none⟩=some (.slice (some ⟨b.bo,0,none⟩) c.n b.cp):=cell_of (race_at h3) 7 _ rfl
      cases hmac:o.mac with
      | some M0 =>
       obtain ⟨Tq,vq,hmq⟩ : ∃ T v,mv=.iface T v:=by
        obtain ⟨bq,q⟩:=mac_is hp ho hmac h3
        exact ⟨_,_,hmv.symm.trans q⟩
       subst hmq
       gi_wp2
       refine bodyPost_ret (results_tmp rfl _ _ _) rfl ⟨?_,?_⟩
       ·rw [show begErr c p o 3 (v:Int) cg=4 by simp [begErr,hnew,hmac]]
        rfl
       ·rw [show begRace c x p o 3 (v:Int) cg=x by simp [begRace,hnew,hmac]]
        exact race_close (l:=[]) (by rw [List.append_nil]; exact hold_drop h3)
      | none =>
       obtain rfl:mv=.nilIface:=by
        obtain ⟨F9,k9,_⟩:=own_mac hp ho h3
        rw [hmac] at k9
        exact hmv.symm.trans (mac_none (Ev.Hold.start k9))
       have bt3:=hold_blk (hold_swap h3)
       have q0:W3.cell? ⟨w.heap.size,0,none⟩=some (.int .i64 3):=cell_of bt3 0 _ rfl
       have q1:W3.cell? ⟨w.heap.size,1,none⟩=some (.int .i64 (v:Int)):=cell_of bt3 1 _ rfl
       have q2:W3.cell? ⟨w.heap.size,2,none⟩=some (.int .i64 cg):=cell_of bt3 2 _ rfl
       have c0:W3.cell? ⟨b.bo,p * 7,none⟩=some (.int .i64 o.kd):=row_at (j:=0) hp ho h3 rfl
       have c1:W3.cell? ⟨b.bo,p * 7+1,none⟩=some (.int .i64 o.cv):=row_at hp ho h3 rfl
       have c2:W3.cell? ⟨b.bo,p * 7+2,none⟩=some (.int .i64 o.cg):=row_at hp ho h3 rfl
       have c5:W3.cell? ⟨b.bo,p * 7+5,none⟩=some (.bool o.gn):=row_at hp ho h3 rfl
       have f0:W3.frozen? ⟨b.bo,p * 7,none⟩=false:=row_froz h3 _
       have f1:W3.frozen? ⟨b.bo,p * 7+1,none⟩=false:=row_froz h3 _
       have f2:W3.frozen? ⟨b.bo,p * 7+2,none⟩=false:=row_froz h3 _
       have f3:W3.frozen? ⟨b.bo,p * 7+3,none⟩=false:=row_froz h3 _
       have f5:W3.frozen? ⟨b.bo,p * 7+5,none⟩=false:=row_froz h3 _
       have hl:∀ (x':RaceS) (o':OwnS),p < x'.ow.length→(x'.own p o').ow[p]? = some o':=fun x' o' h=>List.getElem?_set_self h
       have hlen':∀ (o':OwnS),p < (x.own p o').ow.length:=fun o'=>by
        show p < (x.ow.set p o').length
        rw [List.length_set]
        exact hlt
       have g0:=row_set (o':=⟨3,o.cv,o.cg,o.mac,o.dq,o.gn,o.rs⟩) (e':=es p) hp ho 0 (by decide) (.int .i64 3) rfl _ (fun m w h=>h) h3
       rw [esAt_id] at g0
       have g1:=row_set (o':=⟨3,(v:Int),o.cg,o.mac,o.dq,o.gn,o.rs⟩) (e':=es p) hp (hl x ⟨3,o.cv,o.cg,o.mac,o.dq,o.gn,o.rs⟩ hlt) 1 (by decide) (.int .i64 (v:Int)) rfl _ (fun m w h=>h) g0
       rw [esAt_id,own_own] at g1
       have g2:=row_set (o':=⟨3,(v:Int),cg,o.mac,o.dq,o.gn,o.rs⟩) (e':=es p) hp (hl x ⟨3,(v:Int),o.cg,o.mac,o.dq,o.gn,o.rs⟩ hlt) 2 (by decide) (.int .i64 cg) rfl _ (fun m w h=>h) g1
       rw [esAt_id,own_own] at g2
       have g3:=row_set (o':=⟨3,(v:Int),cg,some (.steal v newSteal),o.dq,o.gn,o.rs⟩) (e':=⟨(es p).d,.iface 85 (.pointer (some ⟨bp,0,none⟩)),(es p).rv⟩) hp (hl x ⟨3,(v:Int),cg,o.mac,o.dq,o.gn,o.rs⟩ hlt) 3 (by decide) (.iface 85 (.pointer (some ⟨bp,0,none⟩))) rfl [Ev.blkA w.heap.size [.int .i64 3,.int .i64 (v:Int),.int .i64 cg] 26] (fun m w h=>mac_new (steal_in3 h)) g2
       rw [own_own] at g3
       have g5:=row_set (o':=⟨3,(v:Int),cg,some (.steal v newSteal),o.dq,false,o.rs⟩) (e':=⟨(es p).d,.iface 85 (.pointer (some ⟨bp,0,none⟩)),(es p).rv⟩) hp (hl x ⟨3,(v:Int),cg,some (.steal v newSteal),o.dq,o.gn,o.rs⟩ hlt) 5 (by decide) (.bool false) (by rw [esAt_self]; rfl) [Ev.blkA w.heap.size [.int .i64 3,.int .i64 (v:Int),.int .i64 cg] 26] (fun m w h=>by rw [esAt_self] at h; exact h) g3
       rw [own_own] at g5
       gi_wp2
       refine bodyPost_ret (results_tmp rfl _ _ _) rfl ⟨?_,?_⟩
       ·rw [show begErr c p o 3 (v:Int) cg=0 by simp [begErr,hnew,hmac]]
        rfl
       ·rw [show begRace c x p o 3 (v:Int) cg=x.own p (o.beg 3 (v:Int) cg (.steal v newSteal)) by simp [begRace,hnew,hmac]]
        exact race_close (l:=[]) (by rw [List.append_nil]; exact hold_drop (r:=[_]) g5)
    ·have edv:decide (0≤cv∧cv < (c.n:Int))=false:=decide_eq_false hv
     have hnew:newMac c p 3 cv cg=none:=by
      unfold newMac
      rw [if_neg (by omega),if_neg (by omega),if_neg (fun h=>hv ⟨h.2.1,h.2.2.1⟩)]
     gi_wp2
     refine ⟨trivial,fun h=>by simp [Fence.wide] at h,(there_in (m - 1) hb1 cv).mono ?_⟩
     rintro e w' ⟨rfl,hw'⟩
     replace hw':=hw'.symm
     subst hw'
     rw [edv]
     gi_wp2
     refine bodyPost_ret (results_tmp rfl _ _ _) rfl ⟨?_,?_⟩
     ·rw [show begErr c p o 3 cv cg=2 by simp [begErr,hnew]]
      rfl
     ·rw [show begRace c x p o 3 cv cg=x by simp [begRace,hnew]]
      exact race_close (l:=[]) (by rw [List.append_nil]; exact hold_drop h1)
   ·have hnew:newMac c p kd cv cg=none:=by simp [newMac,hk1,hk2,hk3]
    gi_wp2
    refine ⟨trivial,?_⟩
    gi_wp2
    refine bodyPost_ret (results_tmp rfl _ _ _) rfl ⟨?_,?_⟩
    ·rw [show begErr c p o kd cv cg=2 by simp [begErr,hnew]]
     rfl
    ·rw [show begRace c x p o kd cv cg=x by simp [begRace,hnew]]
     exact race_close (l:=[]) (by rw [List.append_nil]; exact hold_drop h1)
end Go.Proofs.YtkmccgombmogmaaGreat
namespace Go.Ev
open Go.RowKit
set_option linter.unusedVariables false
set_option linter.unusedSimpArgs false
set_option linter.unusedSectionVars false
def Off0 (v:Value) : Prop:=v=.slice none 0 0∨∃ b n c,v=.slice (some ⟨b,0,none⟩) n c
theorem off0_len {b off n m c:Nat} (h:Off0 (.slice (some ⟨b,off,none⟩) n c)) : Off0 (.slice (some ⟨b,off,none⟩) m c):=by
 rcases h with h | ⟨b',n',c',h⟩
 ·cases h
 ·cases h
  exact .inr ⟨_,_,_,rfl⟩
theorem SlV.append0 {P:Program} {t u ty e:TypeId} {i:TypeInfo} {z:Value} {v y:Value} {n m:Nat} {xs cs:List Value} {F:Nat→Prop} {w:World} (h:SlV e i.size v n xs F w) (ht:P.underlying t=some (.slice e)) (hi:P.info? e=some i) (hz:i.zero=some z) (hzs:z.cells.size=i.size)
  (hs:Src P i.size u y m cs w) (hb:(n+m) * i.bytes≤140737488355328) (hnm:n+m≤1000000000) (h0:Off0 v) :
  ∃ v' w' F',(Builtin.append_ #[t,u] ty #[v,y]).run P w=.ok v' w'∧SlV e i.size v' (n+m) (xs++cs) F' w'∧Turn F w w'∧(∀ j,F' j→j < w'.heap.size∧(F j∨w.heap.size≤j))∧Off0 v':=by
 obtain ⟨hl,hv⟩:=h
 have hcl:=hs.newsLen
 have grow:∀ (base:Option Addr) (c:Nat),v=.slice base n c→c < n+m→(Builtin.firstCells i.size n (.slice base n c)).run P w.drew=.ok xs.toArray w.drew →
   ∃ v' w' F',(Builtin.append_ #[t,u] ty #[v,y]).run P w=.ok v' w'∧SlV e i.size v' (n+m) (xs++cs) F' w'∧Turn F w w'∧(∀ j,F' j→j < w'.heap.size∧(F j∨w.heap.size≤j))∧Off0 v':=by
  intro base c hv0 hlt hold
  have hrun:=run_append_grow_src (P:=P) w t u ty e i z ht hi hz base n c xs hold y m cs hs hlt (by omega) (growslice_fits hlt hb)
  have hcap:=grownCap_ge w (n+m) c e
  generalize grownCap w (n+m) c e=cap at hrun hcap
  refine ⟨.slice (some ⟨w.heap.size,0,none⟩) (n+m) cap,w.drew.alloc (.cells ((xs++cs).toArray++Builtin.zeroCells z.cells (cap - (n+m))) e),(fun j=>j=w.heap.size),by rw [hv0]; exact hrun,⟨by rw [List.length_append,hl,hcl,Nat.add_mul],.inr ⟨w.heap.size,0,cap,(xs++cs).toArray++Builtin.zeroCells z.cells (cap - (n+m)),rfl,fun _=>Iff.rfl,?_,?_,?_,hcap⟩⟩,⟨rfl,rfl,rfl,by simp,fun k hk _=>?_⟩,fun j hj=>?_,.inr ⟨_,_,_,rfl⟩⟩
  ·show (w.heap.push _)[w.heap.size]? = _
   rw [Array.getElem?_push_size]
  ·intro k hk
   rw [Nat.zero_add,Array.getElem?_append_left (by simp [hl,hcl,← Nat.add_mul]; exact hk)]
   simp
  ·have e2:(Builtin.zeroCells z.cells (cap - (n+m))).size=(cap - (n+m)) * i.size:=by simp [Builtin.zeroCells,hzs]
   rw [Array.size_append,e2]
   simp only [List.size_toArray,List.length_append,hl,hcl]
   rw [Nat.zero_add,← Nat.add_mul,← Nat.add_mul]
   rw [show n+m+(cap - (n+m))=cap by omega]
   exact Nat.le_refl _
  ·exact Below.heap_alloc _ _ _ hk
  ·rw [hj]
   exact ⟨by simp,.inr (Nat.le_refl _)⟩
 rcases hv with ⟨hv,rfl,hF⟩ | ⟨b,off,c,arr,hv,hF,hb0,hx,hsz,hnc⟩
 ·by_cases hm:m=0
  ·subst hm
   have hcs:cs=[]:=List.eq_nil_of_length_eq_zero (by rw [hcl]; simp)
   subst hcs
   refine ⟨v,w,F,?_,⟨by simpa using hl,.inl ⟨hv,rfl,hF⟩⟩,⟨rfl,rfl,rfl,Nat.le_refl _,fun _ _ _=>rfl⟩,fun j hj=>(hF j hj).elim,h0⟩
   obtain ⟨a,hv⟩:=hv.base
   rw [hv]
   exact run_append_nothing w t u ty e i ht hi a 0 0 (Nat.le_refl _) y hs
  ·have hxs:xs=[]:=List.eq_nil_of_length_eq_zero (by rw [hl]; simp)
   rcases hv with hv | ⟨b,off,hv⟩
   ·exact grow none 0 hv (by omega) (by rw [hxs]; exact run_firstCells_none _ _ _ _ _)
   ·exact grow (some ⟨b,off,none⟩) 0 hv (by omega) (run_firstCells_some _ _ _ _ _ _ _ hl (fun j x hj=>by rw [hxs] at hj; cases hj))
 ·by_cases hroom:n+m≤c
  ·have hnm':(n+m) * i.size≤c * i.size:=Nat.mul_le_mul_right _ hroom
   rw [Nat.add_mul] at hnm'
   have cell:∀ j,j < cs.length→∃ x,w.cell? ⟨b,off+n * i.size+j,none⟩=some x:=by
    intro j hj
    have hlt:off+n * i.size+j < arr.size:=by omega
    exact ⟨arr[off+n * i.size+j],by simp [World.cell?,hb0,Array.getElem?_eq_getElem hlt]⟩
   have hrun:=run_append_room_src (P:=P) w t u ty e i ht hi b off n c y m cs hs hroom (fun j hj=>by obtain ⟨x,hx⟩:=cell j hj; rw [hx]; rfl) (fun j hj=>by simp [World.frozen?,hb0])
   obtain ⟨cur,s1,s2,s3,s4⟩:=@heap_setCells noSig _ _ cs (off+n * i.size) w arr hb0
   refine ⟨_,_,F,by rw [hv]; exact hrun,⟨by rw [List.length_append,hl,hcl,Nat.add_mul],.inr ⟨b,off,c,cur,rfl,hF,s1,?_,by rw [s2]; exact hsz,hroom⟩⟩,⟨?_,?_,?_,by rw [@setCells_size noSig]; exact Nat.le_refl _,fun k _ hk=>@setCells_other noSig _ _ _ _ _ (fun e=>hk ((hF k).2 e))⟩,fun j hj=>⟨?_,.inl hj⟩,by rw [hv] at h0; exact off0_len h0⟩
   ·intro k hk
    by_cases hkn:k < n * i.size
    ·rw [s3 _ (by omega),hx k hkn,List.getElem?_append_left (by omega)]
    ·have e1:off+k=off+n * i.size+(k - n * i.size):=by omega
     rw [Nat.add_mul] at hk
     have hlt2:k - n * i.size < cs.length:=by omega
     rw [List.getElem?_append_right (by omega),hl,e1,List.getElem?_eq_getElem hlt2]
     exact s4 _ _ (List.getElem?_eq_getElem hlt2) (by omega)
   ·exact (@setCells_below noSig (base:=fun _=>False) (b:=b) (fun h=>h) cs (off+n * i.size) w).os
   ·exact (@setCells_below noSig (base:=fun _=>False) (b:=b) (fun h=>h) cs (off+n * i.size) w).tape
   ·exact (@setCells_below noSig (base:=fun _=>False) (b:=b) (fun h=>h) cs (off+n * i.size) w).output
   ·rw [@setCells_size noSig,(hF j).1 hj]
    exact (Array.getElem?_eq_some_iff.1 hb0).1
  ·refine grow (some ⟨b,off,none⟩) c hv (by omega) (run_firstCells_some _ _ _ _ _ _ _ hl (fun j x hj=>?_))
   have hjl:j < n * i.size:=by
    rw [← hl]
    exact (List.getElem?_eq_some_iff.1 hj).1
   have:=hx j hjl
   rw [hj] at this
   show w.cell? ((⟨b,off,none⟩ : Addr).add j)=some x
   rw [addMk]
   simp [World.cell?,hb0,this]
theorem Hold.app0 {P:Program} {t u ty e:TypeId} {i:TypeInfo} {z:Value} {v y:Value} {n m:Nat} {xs cs:List Value} {ctx:Ctx} {l:List Asr} {w:World} (h:Hold ctx (slA e i.size v n xs::l) w) (ht:P.underlying t=some (.slice e)) (hi:P.info? e=some i) (hz:i.zero=some z) (hzs:z.cells.size=i.size)
  (hs:Src P i.size u y m cs w) (hb:(n+m) * i.bytes≤140737488355328) (hnm:n+m≤1000000000) (h0:Off0 v) :
  ∃ v' w',(Builtin.append_ #[t,u] ty #[v,y]).run P w=.ok v' w'∧Hold ctx (slA e i.size v' (n+m) (xs++cs)::l) w'∧Off0 v':=by
 obtain ⟨F',m1,m2,m3⟩:=h.ex
 obtain ⟨Fa,Fl,k1,k2,k3,k4⟩:=now_uncons m1
 obtain ⟨v',w',G,r1,r2,r3,r4,r5⟩:=SlV.append0 (ty:=ty) k1 ht hi hz hzs hs hb hnm h0
 have hFl:∀ j,Fl j→w'.heap[j]? = w.heap[j]?:=fun j hj=>r3.block j (k2.lt j hj) (fun hf=>k3 j hf hj)
 have h1:=now_keep k2 hFl r3.size
 have h2:=now_cons (a:=slA e i.size v' (n+m) (xs++cs)) (Fa:=G) r2 h1 (fun j hj=>(r4 j hj).1) (fun j hj hl=>by
  rcases (r4 j hj).2 with h | h
  ·exact k3 j h hl
  ·have:=k2.lt j hl
   omega)
 refine ⟨v',w',r1,⟨_,h2,⟨r3.os.trans m2.os,r3.tape.trans m2.tape,r3.output.trans m2.output,Nat.le_trans m2.size r3.size,fun j hj hx=>?_⟩,fun j hj=>?_⟩,r5⟩
 ·refine (r3.block j (Nat.lt_of_lt_of_le hj m2.size) (fun hf=>?_)).trans (m2.block j hj hx)
  rcases m3 j ((k4 j).2 (.inl hf)) with h | h
  ·exact hx h
  ·omega
 ·rcases hj with hj | hj
  ·rcases (r4 j hj).2 with h | h
   ·exact m3 j ((k4 j).2 (.inl h))
   ·exact .inr (Nat.le_trans m2.size h)
  ·exact m3 j ((k4 j).2 (.inr hj))
end Go.Ev
namespace Go.Proofs.YtkmccgombmogmaaGreat
open Go.RowKit
set_option linter.unusedVariables false
set_option linter.unusedSimpArgs false
set_option maxRecDepth 8000
theorem infOwn:∃ i z,Tryz.prog.info? 80 = some i∧i.size=7∧i.zero=some z∧z.cells.size=i.size∧i.bytes=80:=info_of (z:=.agg #[.int .i64 0,.int .i64 0,.int .i64 0,.nilIface,.pointer none,.bool false,.slice none 0 0]) (by kernel_rfl) (by kernel_rfl)
def ownNs (c:Cfg) : List OwnS:=List.replicate c.n (newOwn c)
theorem ownNs_get (c:Cfg) {q:Nat} (h:q < c.n) : (ownNs c)[q]? = some (newOwn c):=by simp [ownNs,h]
def someOwn (c:Cfg) (es:Nat→OwnV) (k:Nat) : List Ev.Asr:=(List.range k).map (ownP c (ownNs c) es)
theorem someOwn_succ (c:Cfg) (es:Nat→OwnV) {k:Nat} (hk:k < c.n) : someOwn c es (k+1)=someOwn c es k++[ownA c k (newOwn c) (es k)]:=by
 unfold someOwn
 rw [List.range_succ,List.map_append]
 congr 1
 simp [ownP,ownNs_get c hk]
theorem someOwn_at (c:Cfg) (es:Nat→OwnV) (k:Nat) (e:OwnV) : someOwn c (esAt es k e) k=someOwn c es k:=by
 unfold someOwn
 apply List.map_congr_left
 intro q hq
 rw [List.mem_range] at hq
 unfold ownP
 rw [esAt_ne (by omega)]
theorem flat_at (c:Cfg) (es:Nat→OwnV) {k:Nat} (hk:k < c.n) (e:OwnV) : flat7 (rowAt (ownNs c) (esAt es k e)) (k+1)=flat7 (rowAt (ownNs c) es) k++ownRow (newOwn c) e:=by
 rw [flat7_succ]
 congr 1
 ·apply flat7_congr
  intro q hq
  unfold rowAt
  rw [esAt_ne (by omega)]
 ·unfold rowAt
  rw [ownNs_get c hk,esAt_self]
theorem own_new {ctx:Ev.Ctx} {w:World} {l:List Ev.Asr} {c:Cfg} {p d:Nat} (h:Ev.Hold ctx (dqA c d (newDq c)::l) w) : Ev.Hold ctx (ownA c p (newOwn c) ⟨d,.nilIface,.slice none 0 0⟩::l) w:=by
 have h1:Ev.Hold ctx (isA (.slice none 0 0) []::dqA c d (newDq c)::l) w:=h.nilSl (e := 3) (sz:=1)
 obtain ⟨F',m1,m2,m3⟩:=h1.ex
 have q:=Ev.now_cons (a:=macA c p .nilIface none) (Fa:=fun _=>False) ⟨(),rfl,fun j hj=>hj⟩ m1 (fun j hj=>hj.elim) (fun j hj=>hj.elim)
 have h2:Ev.Hold ctx (macA c p .nilIface none::isA (.slice none 0 0) []::dqA c d (newDq c)::l) w:=⟨F',Ev.now_same q (fun j=>⟨fun h=>h.elim False.elim id,.inr⟩),m2,m3⟩
 refine Ev.Hold.shut ?_
 exact hold_perm (perm_of (fun f=>by simp only [newOwn,List.cons_append,List.nil_append,List.map_append,List.map_cons,List.map_nil,List.sum_append,List.sum_cons,List.sum_nil]; omega)) h2
def confL (c:Cfg) : List Value:=[.int .i64 (c.n:Int),.int .i64 (c.q:Int),.int .i64 c.g,.int .i64 c.m,.int .i64 c.t,.int .i64 c.s]
set_option maxHeartbeats 4000000 in
theorem new_in (m:Nat) (c:Cfg) {F:Nat→Prop} {w:World} (h:Ev.Now [] F w) :
  CallsIn Fence.wide m Tryz.prog 10 #[c.v] w fun e w'=>∃ b:RB,e=.returned (.tuple #[.pointer (some ⟨b.br,0,none⟩),.int .i64 0])∧Ev.Hold ⟨w,F⟩ [raceA b c (newRace c)] w':=by
 refine callsIn_of_wp Tryz.func10 rfl trivial ?_ rfl
 simp only [Tryz.ntmps10,List.size_toArray,List.length_cons,List.length_nil,Nat.reduceAdd,Nat.reduceSub,Array.replicate_succ,Array.replicate_zero,List.push_toArray,List.append_toArray,List.nil_append,List.cons_append]
 obtain ⟨W1,hW1⟩ : ∃ W1,w.alloc (.cells #[.int .i64 (c.n:Int),.int .i64 (c.q:Int),.int .i64 c.g,.int .i64 c.m,.int .i64 c.t,.int .i64 c.s] 23)=W1:=⟨_,rfl⟩
 have h1:Ev.Hold ⟨w,F⟩ ([Ev.blkA w.heap.size (confL c) 23]++[]) W1:=by rw [← hW1]; exact hold_new (confL c) _ (Ev.Hold.start h)
 have hcs:∀ (r:List Ev.Asr) (w':World),Ev.Hold ⟨w,F⟩ (Ev.blkA w.heap.size (confL c) 23 :: r) w'→w'.cell? ⟨w.heap.size,0,none⟩=some (.int .i64 (c.n:Int))∧w'.cell? ⟨w.heap.size,1,none⟩=some (.int .i64 (c.q:Int))∧w'.cell? ⟨w.heap.size,2,none⟩=some (.int .i64 c.g)∧w'.cell? ⟨w.heap.size,3,none⟩=some (.int .i64 c.m)∧w'.cell? ⟨w.heap.size,4,none⟩=some (.int .i64 c.t)∧w'.cell? ⟨w.heap.size,5,none⟩=some (.int .i64 c.s):=fun r w' hh=>⟨cell_of (hold_blk hh) 0 _ rfl,cell_of (hold_blk hh) 1 _ rfl,cell_of (hold_blk hh) 2 _ rfl,cell_of (hold_blk hh) 3 _ rfl,cell_of (hold_blk hh) 4 _ rfl,cell_of (hold_blk hh) 5 _ rfl⟩
 obtain ⟨e0,e1,e2,e3,e4,e5⟩:=hcs _ _ h1
 gi_wp2
 refine ⟨trivial,fun h=>by simp [Fence.wide] at h,(callsIn_wide.2 (c.right W1)).mono ?_⟩
 rintro e w2 ⟨rfl,B2⟩
 have h2:=hold_keep h1 B2
 have h2d:=hold_keep h2 ((Below.refl _ w2).drew)
 clear e0 e1 e2 e3 e4 e5
 have hcells:c.cells≤65536:=by have:=c.off_max; unfold Cfg.cells; omega
 gi_wp2
 refine wpIn_wide.2 ?_
 go_region_held3 (fun w'=>w'.cell? ⟨w.heap.size,0,none⟩=some (.int .i64 (c.n:Int))∧w'.cell? ⟨w.heap.size,1,none⟩=some (.int .i64 (c.q:Int))∧w'.cell? ⟨w.heap.size,2,none⟩=some (.int .i64 c.g)∧w'.cell? ⟨w.heap.size,3,none⟩=some (.int .i64 c.m)∧w'.cell? ⟨w.heap.size,4,none⟩=some (.int .i64 c.t)∧w'.cell? ⟨w.heap.size,5,none⟩=some (.int .i64 c.s)) ((first | exact hcs _ _ h2d | exact hcs _ _ h3 | exact hcs _ _ h4 | exact hcs _ _ (hold_keep h4 ((Below.refl _ _).alloc (Nat.le_refl _) _)) | fail)) ((first
  | (go_at_call 30; have hcon:=cells_ok c w2.drew; (with_reducible refine hcon.mono ?_); clear hcon; rintro e w3 ⟨rfl,B3⟩; have h3:=hold_keep h2d B3)
  | (go_at_call 29; obtain ⟨F1,k1,back⟩:=hold_fr (lp:=[]) h3; have hcon:=callsIn_wide.1 (mem_newI 0 hcells (Ev.Hold.start k1)); (with_reducible refine hcon.mono ?_); clear hcon; rintro e w4 ⟨bm,rfl,hh2⟩; have h4':=back _ _ hh2; have h4:Ev.Hold ⟨w,F⟩ (Ev.blkA w.heap.size (confL c) 23 :: [memA bm ⟨List.replicate c.cells 0,0⟩]) w4:=hold_swap h4'; clear h4' back k1 hh2)))
 obtain ⟨W5,hW5⟩ : ∃ W5,w4.alloc (.cells #[.int .i64 (c.n:Int),.int .i64 (c.q:Int),.int .i64 c.g,.int .i64 c.m,.int .i64 c.t,.int .i64 c.s,.pointer (some ⟨bm,0,none⟩),.slice none 0 0,.int .i64 0,.bool false] 73)=W5:=⟨_,rfl⟩
 have h5:Ev.Hold ⟨w,F⟩ (Ev.blkA w4.heap.size (confL c++[.pointer (some ⟨bm,0,none⟩),.slice none 0 0,.int .i64 0,.bool false]) 73 :: Ev.blkA w.heap.size (confL c) 23 :: [memA bm ⟨List.replicate c.cells 0,0⟩]) W5:=by rw [← hW5]; exact hold_new (confL c++_) _ h4
 have h6:Ev.Hold ⟨w,F⟩ (Ev.slA 80 7 (.slice none 0 0) 0 (flat7 (rowAt (ownNs c) (fun _=>⟨0,.nilIface,.slice none 0 0⟩)) 0)::Ev.blkA w4.heap.size (confL c++[.pointer (some ⟨bm,0,none⟩),.slice none 0 0,.int .i64 0,.bool false]) 73 :: Ev.blkA w.heap.size (confL c) 23 :: memA bm ⟨List.replicate c.cells 0,0⟩::someOwn c (fun _=>⟨0,.nilIface,.slice none 0 0⟩) 0) W5:=h5.nilSl (e := 80) (sz:=7)
 obtain ⟨br,hbr⟩ : ∃ br,w4.heap.size=br:=⟨_,rfl⟩
 obtain ⟨bc,hbc⟩ : ∃ bc,w.heap.size=bc:=⟨_,rfl⟩
 rw [hW5]
 rw [hbr,hbc] at h6
 have hcs':∀ (r:List Ev.Asr) (w':World),Ev.Hold ⟨w,F⟩ (Ev.blkA bc (confL c) 23 :: r) w'→w'.cell? ⟨bc,0,none⟩=some (.int .i64 (c.n:Int))∧w'.cell? ⟨bc,1,none⟩=some (.int .i64 (c.q:Int)):=fun r w' hh=>⟨cell_of (hold_blk hh) 0 _ rfl,cell_of (hold_blk hh) 1 _ rfl⟩
 obtain ⟨e0,_⟩:=hcs' _ _ (hold_drop (r:=[_,_]) h6)
 rw [hbr,hbc]
 have hnb:=c.nb
 gi_wp2
 gi_loopw [18] (fun q wr=>∃ (k:Nat) (es:Nat→OwnV) (a:Option Addr) (cc:Nat),q=.int .i64 (k:Int)∧k≤c.n∧Ev.Off0 (.slice a k cc)∧Ev.Hold ⟨w,F⟩ (Ev.slA 80 7 (.slice a k cc) k (flat7 (rowAt (ownNs c) es) k)::Ev.blkA br (confL c++[.pointer (some ⟨bm,0,none⟩),.slice a k cc,.int .i64 0,.bool false]) 73 :: Ev.blkA bc (confL c) 23 :: memA bm ⟨List.replicate c.cells 0,0⟩::someOwn c es k) wr) (fun q _=>c.n - (intOf q).toNat)
 case atStart=>exact ⟨0,_,none,0,rfl,Nat.zero_le _,.inl rfl,h6⟩
 case round =>
  obtain ⟨k,es,a,cc,rfl,hk,ho0,hH⟩:=hrel
  by_cases hlt:k < c.n
  ·have hlI:(k:Int) < (c.n:Int):=by omega
   obtain ⟨g0,g1⟩:=hcs' _ _ (hold_drop (r:=[_,_]) hH)
   obtain ⟨F1,k1,back⟩:=hold_fr (lp:=[]) hH
   gi_wp2
   refine ⟨trivial,fun h=>by simp [Fence.wide] at h,(dnew_in (m - 1) c k1).mono ?_⟩
   rintro e w6 ⟨d,kz,rfl,hd⟩
   have h7:=back _ _ hd
   have hbk:=hold_blk (hold_drop (r:=[_,_]) h7)
   have e7:w6.cell? ⟨br,7,none⟩=some (.slice a k cc):=cell_of hbk 7 _ rfl
   obtain ⟨W7,hW7⟩ : ∃ W7,w6.alloc (.cells #[.int .i64 0,.int .i64 0,.int .i64 0,.nilIface,.pointer (some ⟨d,0,none⟩),.bool false,.slice none 0 0] 80)=W7:=⟨_,rfl⟩
   have hB7:Below w6.heap.size w6 W7:=by rw [← hW7]; exact (Below.refl _ w6).alloc (Nat.le_refl _) _
   have h8:Ev.Hold ⟨w,F⟩ (Ev.slA 80 7 (.slice a k cc) k (flat7 (rowAt (ownNs c) es) k)::Ev.blkA br (confL c++[.pointer (some ⟨bm,0,none⟩),.slice a k cc,.int .i64 0,.bool false]) 73 :: dqA c d (newDq c)::Ev.blkA bc (confL c) 23 :: memA bm ⟨List.replicate c.cells 0,0⟩::someOwn c es k) W7:=by
    refine hold_keep (hold_perm (perm_of (fun f=>?_)) h7) hB7
    simp only [List.cons_append,List.nil_append,List.map_append,List.map_cons,List.map_nil,List.sum_append,List.sum_cons,List.sum_nil]
    omega
   obtain ⟨io,zo,hi,hz7,hz,hzz,hby⟩:=infOwn
   have hsrc:Src Tryz.prog io.size 71 (.slice (some ⟨w6.heap.size,0,none⟩) 1 1) 1 (ownRow (newOwn c) ⟨d,.nilIface,.slice none 0 0⟩) W7:=by
    refine Src.ofSlice W7 Tryz.underlying71 ⟨w6.heap.size,0,none⟩ 1 1 _ (by rw [hz7]; rfl) (fun j y hj=>?_) (fun y hy=>?_)
    ·rw [Ev.addMk,Nat.zero_add,← hW7]
     exact cell_of (World.alloc_heap_new w6 _) j y (by simpa [ownRow,newOwn] using hj)
    ·simp only [ownRow,newOwn,List.mem_cons,List.not_mem_nil,or_false] at hy
     rcases hy with rfl | rfl | rfl | rfl | rfl | rfl | rfl <;> rfl
   have h8':Ev.Hold ⟨w,F⟩ (Ev.slA 80 io.size (.slice a k cc) k (flat7 (rowAt (ownNs c) es) k)::Ev.blkA br (confL c++[.pointer (some ⟨bm,0,none⟩),.slice a k cc,.int .i64 0,.bool false]) 73 :: dqA c d (newDq c)::Ev.blkA bc (confL c) 23 :: memA bm ⟨List.replicate c.cells 0,0⟩::someOwn c es k) W7:=by rw [hz7]; exact h8
   obtain ⟨v',w8,q1,q2,q3⟩:=h8'.app0 (t := 71) (u := 71) (ty := 71) Tryz.underlying71 hi hz hzz hsrc (by rw [hby]; omega) (by omega) ho0
   rw [hz7,← flat_at c es hlt] at q2
   obtain ⟨a',cc',rfl⟩ : ∃ a' cc',v'=.slice a' (k+1) cc':=by
    rcases (hold_slr q2).2 with ⟨e,_⟩ | ⟨b2,off,c2,e,_⟩
    ·omega
    ·exact ⟨_,_,e⟩
   have h9:=hold_swap q2
   have hb9:=hold_blk h9
   have f9:w8.frozen? ⟨br,7,none⟩=false:=froz_of hb9 7
   have c9:w8.cell? ⟨br,7,none⟩=some (.slice a k cc):=cell_of hb9 7 _ rfl
   have h10:=hold_set 7 (.slice a' (k+1) cc') h9
   gi_wp2_with (gi_at_builtin; refine wpListIn_append_run rfl _ _ _ rfl q1 ?_)
   refine ⟨⟨k+1,esAt es k ⟨d,.nilIface,.slice none 0 0⟩,a',cc',rfl,by omega,q3,?_⟩,by simp [intOf]; omega⟩
   rw [someOwn_succ c _ hlt,someOwn_at,esAt_self]
   have h11:Ev.Hold ⟨w,F⟩ (dqA c d (newDq c)::(Ev.slA 80 7 (.slice a' (k+1) cc') (k+1) (flat7 (rowAt (ownNs c) (esAt es k ⟨d,.nilIface,.slice none 0 0⟩)) (k+1))::Ev.blkA br (confL c++[.pointer (some ⟨bm,0,none⟩),.slice a' (k+1) cc',.int .i64 0,.bool false]) 73 :: Ev.blkA bc (confL c) 23 :: memA bm ⟨List.replicate c.cells 0,0⟩::someOwn c es k)) (w8.setCell ⟨br,7,none⟩ (.slice a' (k+1) cc')):=by
    refine hold_perm (perm_of (fun f=>?_)) h10
    have e:List.set (confL c++[Value.pointer (some ⟨bm,0,none⟩),.slice a k cc,.int .i64 0,.bool false]) 7 (.slice a' (k+1) cc')=confL c++[.pointer (some ⟨bm,0,none⟩),.slice a' (k+1) cc',.int .i64 0,.bool false]:=rfl
    rw [e]
    simp only [List.cons_append,List.nil_append,List.map_append,List.map_cons,List.map_nil,List.sum_append,List.sum_cons,List.sum_nil]
    omega
   have h12:=own_new (p:=k) h11
   refine hold_perm (perm_of (fun f=>?_)) h12
   simp only [List.cons_append,List.nil_append,List.map_append,List.map_cons,List.map_nil,List.sum_append,List.sum_cons,List.sum_nil]
   omega
  ·obtain rfl:k=c.n:=by omega
   have hlI:¬ ((c.n:Nat) : Int) < (c.n:Int):=by omega
   obtain ⟨bo,rfl⟩ : ∃ bo,a=some ⟨bo,0,none⟩:=by
    rcases (hold_slr hH).2 with ⟨e,_⟩ | ⟨b2,off,c2,e,_⟩
    ·omega
    ·rcases ho0 with h0 | ⟨b3,n3,c3,h0⟩
     ·rw [h0] at e; cases e
     ·cases h0; exact ⟨_,rfl⟩
   gi_wp2
   refine bodyPost_ret (results_two rfl _) rfl ⟨⟨br,bm,bo,cc⟩,rfl,?_⟩
   refine race_close (es:=es) (l:=[]) ?_
   have h20:Ev.Hold ⟨w,F⟩ ([Ev.blkA bc (confL c) 23]++(Ev.slA 80 7 (.slice (some ⟨bo,0,none⟩) c.n cc) c.n (flat7 (rowAt (ownNs c) es) c.n)::Ev.blkA br (confL c++[.pointer (some ⟨bm,0,none⟩),.slice (some ⟨bo,0,none⟩) c.n cc,.int .i64 0,.bool false]) 73 :: memA bm ⟨List.replicate c.cells 0,0⟩::someOwn c es c.n)) wr:=by
    refine hold_perm (perm_of (fun f=>?_)) hH
    simp only [List.cons_append,List.nil_append,List.map_append,List.map_cons,List.map_nil,List.sum_append,List.sum_cons,List.sum_nil]
    omega
   have e20:raceL ⟨br,bm,bo,cc⟩ c (newRace c) es++[]=[Ev.blkA br (confL c++[.pointer (some ⟨bm,0,none⟩),.slice (some ⟨bo,0,none⟩) c.n cc,.int .i64 0,.bool false]) 73,memA bm ⟨List.replicate c.cells 0,0⟩,Ev.slA 80 7 (.slice (some ⟨bo,0,none⟩) c.n cc) c.n (flat7 (rowAt (ownNs c) es) c.n)]++someOwn c es c.n:=by
    rw [List.append_nil]
    rfl
   rw [e20]
   refine hold_perm (perm_of (fun f=>?_)) (hold_drop h20)
   simp only [List.cons_append,List.nil_append,List.map_append,List.map_cons,List.map_nil,List.sum_append,List.sum_cons,List.sum_nil]
   omega
end Go.Proofs.YtkmccgombmogmaaGreat
