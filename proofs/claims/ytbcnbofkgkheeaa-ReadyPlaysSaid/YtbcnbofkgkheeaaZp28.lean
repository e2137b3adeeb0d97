/- 'ReadyPlays' returns true, whatever its arguments are (pokes of at most 60 steps, and at most 40 bytes, are looked at), and leaves them as they were. -/
import Derived.Test.YtbcnbofkgkheeaaZp27
import Derived.Test.YtbcnbofkgkheeaaZp10
import Derived.Test.YtbcnbofkgkheeaaRows
import Derived.WalkKit
import Derived.ProofKit
import Derived.OpenShut
import Derived.Carry
import Derived.Deep.Fields
import Derived.Deep.Slices
import Derived.ChangeSame
namespace Go.Proofs.Ytbcnbofkgkheeaa
open Go.RowKit
open Go.Ev (sy iz uz wz iN uN wN pz dv fc fn ak vk vd kn pc cc cr cm cd fr)
set_option linter.unusedVariables false
set_option linter.unusedSimpArgs false
set_option maxRecDepth 8000
attribute [local irreducible] Ev.wpL
structure LP where
 W:World
 lv:Value
 ps:List PokeS
 hl:Ev.SlR 3 lv ps.length (ps.flatMap PokeS.cells) W
 hv:∀ k ∈ ps,U64 k.v
 bv:Value
 bs:List Int
 hs:Ev.SlR 1 bv bs.length (u8s bs) W
 hz:∀ i,0≤bs.getD i 0∧bs.getD i 0 < 256
theorem yAt_r (c:Cfg) {p:Nat} (hp:p < c.n) {gg:Int} (hg:0≤gg) (w:World) : Calls Try.prog 19 #[c.v,.int .i64 (p:Int),.int .i64 gg] w fun e w'=>e=.returned (.agg (yL (newR c p gg) false false (.slice none 0 0) (.slice none 0 0)).toArray)∧Below w.heap.size w w':=rnrok_at c p hp gg hg w
theorem kick0_ok (c:Cfg) {dem:Bool} {g:Int} (hg:dem=false→0≤g∧g≤9223372036854775807) : KickOk c ⟨dem,g,1,0,none⟩ :=
 ⟨show 1≤3 by decide,hg,show U64 0 by unfold U64; omega,(fun x h=>by cases h),(fun _=>rfl),(fun h=>by cases h),(fun h=>by cases h)⟩
theorem good_mem (c:Cfg) {us:List Int} {o:Int} (h:GoodF c.cf us) : MemOk c ⟨us,o⟩:=⟨(h.good c rfl).len,h.u⟩
theorem fresh_R (c:Cfg) {p:Nat} (hp:p < c.n) {g:Int} (hg:0≤g∧g≤9223372036854775807) : Fresh (newR c p g) c.cf:=⟨fun us h=>⟨rfl,hp,kick0_ok c (fun _=>hg),good_mem c h⟩,rfl,rfl,rfl⟩
theorem fresh_dead (d:Bool) (c:Cf) : Fresh ⟨d,none⟩ c:=⟨fun us h=>trivial,rfl,rfl,rfl⟩
theorem old_lt {w0 w:World} {X:Nat→Prop} (ho:Ev.OldW w0 X w) {j:Nat} (hj:j < w0.heap.size) (hx:¬ X j) : j < w.heap.size:=by
 have:=ho j hj hx
 rw [Array.getElem?_eq_getElem hj] at this
 exact (Array.getElem?_eq_some_iff.1 this).1
theorem plays_at (s:LP) (c:Cf) (hlp:s.ps.length≤60) (hlb:s.bs.length≤40) {x:XS} (hf:Fresh x c) {d:Bool} (hd:x.dm=d) {v:Value} {w:World} {F:Nat→Prop} (ho:Ev.OldW s.W (fun _=>False) w) (hF:∀ j,F j→False∨s.W.heap.size≤j) (h:Ev.Now [xW x v] F w) :
  Calls Try.prog 17 #[(bif x.dem then .iface 60 v else .iface 50 v),.agg (yL x d false (.slice none 0 0) (.slice none 0 0)).toArray,c.v,s.bv,s.lv] w fun e w'=>e=.returned (.bool true)∧Ev.Hold ⟨w,F⟩ [] w':=by
 subst hd
 obtain ⟨bx,rfl,hh⟩:=hold_xW (Ev.Hold.start h)
 obtain ⟨F',n1,n2,n3⟩:=hh.ex
 have hoff:∀ j,j < s.W.heap.size→¬ False→¬ F' j:=fun j hj _ hf'=>by
  rcases n3 j hf' with h' | h'
  ·rcases hF j h' with h'' | h''
   ·exact h''
   ·omega
  ·have:=old_lt ho hj (fun h=>h)
   have h2:w.heap.size≤j:=h'
   omega
 let q:PL:=⟨w,F',s.lv,s.ps,s.hl.old ho (Ev.offNone _),s.hl.offX (X:=fun _=>False) (Ev.offNone _) hoff,hlp,s.hv,c,s.bv,s.bs,s.hs.old ho (Ev.offNone _),s.hs.offX (X:=fun _=>False) (Ev.offNone _) hoff,by omega,s.hz⟩
 refine (plays_ok q hf n1).mono ?_
 rintro e w' ⟨rfl,h1⟩
 exact ⟨rfl,h1.into (l:=[]) n2 n3⟩
abbrev lw1a1 (c:Cfg) : Value:=(.agg #[(iN (c.n)),(iN (c.q)),(iz (c.g)),(iz (c.m)),(iz (c.t)),(iz (c.s))])
abbrev lw1a3 (c:Cf) : Value:=(.agg #[(iz (c.n)),(iz (c.q)),(iz (c.g)),(iz (c.m)),(iz (c.t)),(iz (c.s))])
abbrev lw1a5:Value:=(.agg #[(iz ((⟨false,none⟩ : XS).yi 0)),(iz ((⟨false,none⟩ : XS).yi 1)),(iz ((⟨false,none⟩ : XS).yi 2)),(iz ((⟨false,none⟩ : XS).yi 3)),(iz ((⟨false,none⟩ : XS).yi 4)),(iz ((⟨false,none⟩ : XS).yi 5)),(iz ((⟨false,none⟩ : XS).yi 6)),(iz ((⟨false,none⟩ : XS).yi 7)),(.bool false),(iz ((⟨false,none⟩ : XS).yi 9)),(uz ((⟨false,none⟩ : XS).yi 10)),(.bool false),(iz ((⟨false,none⟩ : XS).yi 12)),(iz ((⟨false,none⟩ : XS).yi 13)),(iz ((⟨false,none⟩ : XS).yi 14)),(iz ((⟨false,none⟩ : XS).yi 15)),(iz ((⟨false,none⟩ : XS).yi 16)),(iz ((⟨false,none⟩ : XS).yi 17)),(iz ((⟨false,none⟩ : XS).yi 18)),(iz ((⟨false,none⟩ : XS).yi 19)),(iz ((⟨false,none⟩ : XS).yi 20)),(uz ((⟨false,none⟩ : XS).yi 21)),(.slice none 0 0),(.slice none 0 0)])
abbrev lw1a14:List (Nat×Value):=[(0,.agg #[sy 2,sy 3,sy 4,sy 5,sy 6,sy 7]),(1,sy 8),(2,sy 9),(3,sy 0),(4,sy 1)]
abbrev lw1a15 (s:LP) (c:Cf) (p:Int) (gg:Int) : List (Nat×Value):=[(0,(lw1a3 c)),(1,(iz (p))),(2,(iz (gg))),(3,(s.bv)),(4,(s.lv))]
abbrev lw1a18 (s:LP) (c:Cfg) (p:Nat) (gg:Int) : List (Nat×Value):=[(0,(lw1a1 c)),(1,(iN (p))),(2,(iz (gg))),(3,(s.bv)),(4,(s.lv))]
abbrev lw1a20:List Ev.Asr:=[Ev.atD 407 (fun v=>xW (⟨false,none⟩ : XS) v)]
abbrev lw1a21 (s:LP) (c:Cfg) (p:Int) (gg:Int) : List (Nat×Value):=[(0,(lw1a1 c)),(1,(iz (p))),(2,(iz (gg))),(3,(s.bv)),(4,(s.lv))]
theorem lwrL1 (s:LP) (c:Cf) (p:Int) (gg:Int) (hb:s.ps.length > 60) : Ev.PieE Try.prog 4 [] 0 37 ⟨s.W,fun _=>False⟩ (lw1a15 s c p gg) [] (fun κ:Ev.Ren=>(.bool true)) (fun κ:Ev.Ren=>[]):=(trE (c:=⟨s.W,fun _=>False⟩) 5 (kn [s.bv,s.lv,iz (c.n),iz (c.q),iz (c.g),iz (c.m),iz (c.t),iz (c.s),iz (p),iz (gg),iN (s.ps.length)] (fc s.hs.leaf (fc s.hl.leaf fr)) [(.gtr,sy 10,.int .i64 60,.bool true)] [] [] (fc (fun _ _ _=>Ev.bt_gtr (by first | (simp; done) | (simp; omega))) fn) fn fn s.W (fun _=>False) [[]] [⟨[10,48],[sy 1],none,0,none,sy 10,none⟩] [⟨6,[],0,none,.bool true,none⟩]) (fc (Ev.ro_len (ci:=0) rfl rfl s.hl Try.underlying48 rfl rfl) fn) (fc (pc (args:=[]) rfl (fun w hb=>works_any _)) fn) rfl [] [] [] 0 rfl rfl lw1a14 (.bool true))
theorem lwrL2 (s:LP) (c:Cf) (p:Int) (gg:Int) (hb:¬ s.ps.length > 60) (hb2:s.bs.length > 40) : Ev.PieE Try.prog 4 [] 0 37 ⟨s.W,fun _=>False⟩ (lw1a15 s c p gg) [] (fun κ:Ev.Ren=>(.bool true)) (fun κ:Ev.Ren=>[]):=(trE (c:=⟨s.W,fun _=>False⟩) 5 (kn [s.bv,s.lv,iz (c.n),iz (c.q),iz (c.g),iz (c.m),iz (c.t),iz (c.s),iz (p),iz (gg),iN (s.ps.length),iN (s.bs.length)] (fc s.hs.leaf (fc s.hl.leaf fr)) [(.gtr,sy 10,.int .i64 60,.bool false),(.gtr,sy 11,.int .i64 40,.bool true)] [] [] (fc (fun _ _ _=>Ev.bt_gtr (by first | (simp; done) | (simp; omega))) (fc (fun _ _ _=>Ev.bt_gtr (by first | (simp; done) | (simp; omega))) fn)) fn fn s.W (fun _=>False) [[]] [⟨[10,48],[sy 1],none,0,none,sy 10,none⟩,⟨[10,24],[sy 0],none,0,none,sy 11,none⟩] [⟨6,[],0,none,.bool true,none⟩]) (fc (Ev.ro_len (ci:=0) rfl rfl s.hl Try.underlying48 rfl rfl) (fc (Ev.ro_len (ci:=0) rfl rfl s.hs Try.underlying24 rfl rfl) fn)) (fc (pc (args:=[]) rfl (fun w hb=>works_any _)) fn) rfl [] [] [] 0 rfl rfl lw1a14 (.bool true))
theorem lwrok (s:LP) (c:Cfg) (p:Nat) (hp:p < c.n) (gg:Int) (hg:0≤gg∧gg≤9223372036854775807) (hlp:s.ps.length≤60) (hlb:s.bs.length≤40) : Ev.PieE Try.prog 4 [] 0 37 ⟨s.W,fun _=>False⟩ (lw1a18 s c p gg) [] (fun κ:Ev.Ren=>(.bool true)) (fun κ:Ev.Ren=>[]):=(trE (c:=⟨s.W,fun _=>False⟩) 5 (kn [s.bv,s.lv,iN (c.n),iN (c.q),iz (c.g),iz (c.m),iz (c.t),iz (c.s),iN (p),iz (gg),iN (s.ps.length),iN (s.bs.length),iz ((newR c p gg).yi 0),iz ((newR c p gg).yi 1),iz ((newR c p gg).yi 2),iz ((newR c p gg).yi 3),iz ((newR c p gg).yi 4),iz ((newR c p gg).yi 5),iz ((newR c p gg).yi 6),iz ((newR c p gg).yi 7),iz ((newR c p gg).yi 9),uz ((newR c p gg).yi 10),iz ((newR c p gg).yi 12),iz ((newR c p gg).yi 13),iz ((newR c p gg).yi 14),iz ((newR c p gg).yi 15),iz ((newR c p gg).yi 16),iz ((newR c p gg).yi 17),iz ((newR c p gg).yi 18),iz ((newR c p gg).yi 19),iz ((newR c p gg).yi 20),uz ((newR c p gg).yi 21)] (fc s.hs.leaf (fc s.hl.leaf fr)) [(.gtr,sy 10,.int .i64 60,.bool false),(.gtr,sy 11,.int .i64 40,.bool false)] [] [] (fc (fun _ _ _=>Ev.bt_gtr (by first | (simp; done) | (simp; omega))) (fc (fun _ _ _=>Ev.bt_gtr (by first | (simp; done) | (simp; omega))) fn)) fn fn s.W (fun _=>False) [[],[Ev.atD 407 (fun v=>xW (newR c p gg) v)],[]] [⟨[10,48],[sy 1],none,0,none,sy 10,none⟩,⟨[10,24],[sy 0],none,0,none,sy 11,none⟩] [⟨18,[.agg #[sy 2,sy 3,sy 4,sy 5,sy 6,sy 7],sy 8,sy 9],0,some 407,.complex .f32 407 0,some 1⟩,⟨20,[.agg #[sy 2,sy 3,sy 4,sy 5,sy 6,sy 7]],1,none,.agg #[sy 2,sy 3,sy 4,sy 5,sy 6,sy 7],none⟩,⟨19,[.agg #[sy 2,sy 3,sy 4,sy 5,sy 6,sy 7],sy 8,sy 9],1,none,.agg #[sy 12,sy 13,sy 14,sy 15,sy 16,sy 17,sy 18,sy 19,.bool false,sy 20,sy 21,.bool false,sy 22,sy 23,sy 24,sy 25,sy 26,sy 27,sy 28,sy 29,sy 30,sy 31,.slice none 0 0,.slice none 0 0],none⟩,⟨17,[.iface 50 (.complex .f32 407 0),.agg #[sy 12,sy 13,sy 14,sy 15,sy 16,sy 17,sy 18,sy 19,.bool false,sy 20,sy 21,.bool false,sy 22,sy 23,sy 24,sy 25,sy 26,sy 27,sy 28,sy 29,sy 30,sy 31,.slice none 0 0,.slice none 0 0],.agg #[sy 2,sy 3,sy 4,sy 5,sy 6,sy 7],sy 0,sy 1],1,none,.bool true,some 2⟩,⟨6,[],2,none,.bool true,none⟩]) (fc (Ev.ro_len (ci:=0) rfl rfl s.hl Try.underlying48 rfl rfl) (fc (Ev.ro_len (ci:=0) rfl rfl s.hs Try.underlying24 rfl rfl) fn)) (fc (cd rfl [fun v=>xW (newR c p gg) v] [] [] (fun w F ho hn hF=>newR_ok c hp gg hg hn)) (fc (pc rfl (fun w hb=>docs_ok c.cf w)) (fc (pc rfl (fun w hb=>yAt_r c hp hg.1 w)) (fc (Ev.gc_ofD (c:=⟨s.W,fun _=>False⟩) (lpd:=[Ev.atD 407 (fun v=>xW (newR c p gg) v)]) (lp:=fun v=>[xW (newR c p gg) v]) (lq:=[]) (args:=fun v=>[.iface 50 v,(.agg #[(iz ((newR c p gg).yi 0)),(iz ((newR c p gg).yi 1)),(iz ((newR c p gg).yi 2)),(iz ((newR c p gg).yi 3)),(iz ((newR c p gg).yi 4)),(iz ((newR c p gg).yi 5)),(iz ((newR c p gg).yi 6)),(iz ((newR c p gg).yi 7)),(.bool false),(iz ((newR c p gg).yi 9)),(uz ((newR c p gg).yi 10)),(.bool false),(iz ((newR c p gg).yi 12)),(iz ((newR c p gg).yi 13)),(iz ((newR c p gg).yi 14)),(iz ((newR c p gg).yi 15)),(iz ((newR c p gg).yi 16)),(iz ((newR c p gg).yi 17)),(iz ((newR c p gg).yi 18)),(iz ((newR c p gg).yi 19)),(iz ((newR c p gg).yi 20)),(uz ((newR c p gg).yi 21)),(.slice none 0 0),(.slice none 0 0)]),(lw1a1 c),(s.bv),(s.lv)]) [0] [] rfl rfl rfl rfl (Ev.hf_at (fun _ _ _ _ _ h=>h) Ev.hf_nil) (Ev.argD_iface (ak (by kernel_rfl) (by kernel_rfl))) (fun ι=>(vk (by kernel_rfl) (by kernel_rfl))) (fun v w F ho hn hF=>plays_at s c.cf hlp hlb (fresh_R c hp hg) rfl ho hF hn)) (fc (pc (args:=[]) rfl (fun w hb=>works_any _)) fn))))) rfl [] [] [] 2 rfl rfl lw1a14 (.bool true))
theorem lwrno (s:LP) (c:Cf) (p:Int) (hc:c.ok=false) (gg:Int) (hg:0≤gg∧gg≤9223372036854775807) (hlp:s.ps.length≤60) (hlb:s.bs.length≤40) : Ev.PieE Try.prog 4 [] 0 37 ⟨s.W,fun _=>False⟩ (lw1a15 s c p gg) [] (fun κ:Ev.Ren=>(.bool true)) (fun κ:Ev.Ren=>[]):=(trE (c:=⟨s.W,fun _=>False⟩) 5 (kn [s.bv,s.lv,iz (c.n),iz (c.q),iz (c.g),iz (c.m),iz (c.t),iz (c.s),iz (p),iz (gg),iN (s.ps.length),iN (s.bs.length),iz ((⟨false,none⟩ : XS).yi 0),iz ((⟨false,none⟩ : XS).yi 1),iz ((⟨false,none⟩ : XS).yi 2),iz ((⟨false,none⟩ : XS).yi 3),iz ((⟨false,none⟩ : XS).yi 4),iz ((⟨false,none⟩ : XS).yi 5),iz ((⟨false,none⟩ : XS).yi 6),iz ((⟨false,none⟩ : XS).yi 7),iz ((⟨false,none⟩ : XS).yi 9),uz ((⟨false,none⟩ : XS).yi 10),iz ((⟨false,none⟩ : XS).yi 12),iz ((⟨false,none⟩ : XS).yi 13),iz ((⟨false,none⟩ : XS).yi 14),iz ((⟨false,none⟩ : XS).yi 15),iz ((⟨false,none⟩ : XS).yi 16),iz ((⟨false,none⟩ : XS).yi 17),iz ((⟨false,none⟩ : XS).yi 18),iz ((⟨false,none⟩ : XS).yi 19),iz ((⟨false,none⟩ : XS).yi 20),uz ((⟨false,none⟩ : XS).yi 21)] (fc s.hs.leaf (fc s.hl.leaf fr)) [(.gtr,sy 10,.int .i64 60,.bool false),(.gtr,sy 11,.int .i64 40,.bool false)] [] [] (fc (fun _ _ _=>Ev.bt_gtr (by first | (simp; done) | (simp; omega))) (fc (fun _ _ _=>Ev.bt_gtr (by first | (simp; done) | (simp; omega))) fn)) fn fn s.W (fun _=>False) [[],lw1a20,[]] [⟨[10,48],[sy 1],none,0,none,sy 10,none⟩,⟨[10,24],[sy 0],none,0,none,sy 11,none⟩] [⟨18,[.agg #[sy 2,sy 3,sy 4,sy 5,sy 6,sy 7],sy 8,sy 9],0,some 407,.complex .f32 407 0,some 1⟩,⟨20,[.agg #[sy 2,sy 3,sy 4,sy 5,sy 6,sy 7]],1,none,.agg #[sy 2,sy 3,sy 4,sy 5,sy 6,sy 7],none⟩,⟨19,[.agg #[sy 2,sy 3,sy 4,sy 5,sy 6,sy 7],sy 8,sy 9],1,none,.agg #[sy 12,sy 13,sy 14,sy 15,sy 16,sy 17,sy 18,sy 19,.bool false,sy 20,sy 21,.bool false,sy 22,sy 23,sy 24,sy 25,sy 26,sy 27,sy 28,sy 29,sy 30,sy 31,.slice none 0 0,.slice none 0 0],none⟩,⟨17,[.iface 50 (.complex .f32 407 0),.agg #[sy 12,sy 13,sy 14,sy 15,sy 16,sy 17,sy 18,sy 19,.bool false,sy 20,sy 21,.bool false,sy 22,sy 23,sy 24,sy 25,sy 26,sy 27,sy 28,sy 29,sy 30,sy 31,.slice none 0 0,.slice none 0 0],.agg #[sy 2,sy 3,sy 4,sy 5,sy 6,sy 7],sy 0,sy 1],1,none,.bool true,some 2⟩,⟨6,[],2,none,.bool true,none⟩]) (fc (Ev.ro_len (ci:=0) rfl rfl s.hl Try.underlying48 rfl rfl) (fc (Ev.ro_len (ci:=0) rfl rfl s.hs Try.underlying24 rfl rfl) fn)) (fc (cd rfl [fun v=>xW (⟨false,none⟩ : XS) v] [] [] (fun w F ho hn hF=>newR_no c p hc gg hg hn)) (fc (pc rfl (fun w hb=>docs_ok c w)) (fc (pc rfl (fun w hb=>rnrno_at c p hc gg w)) (fc (Ev.gc_ofD (c:=⟨s.W,fun _=>False⟩) (lpd:=[Ev.atD 407 (fun v=>xW (⟨false,none⟩ : XS) v)]) (lp:=fun v=>[xW (⟨false,none⟩ : XS) v]) (lq:=[]) (args:=fun v=>[.iface 50 v,lw1a5,(lw1a3 c),(s.bv),(s.lv)]) [0] [] rfl rfl rfl rfl (Ev.hf_at (fun _ _ _ _ _ h=>h) Ev.hf_nil) (Ev.argD_iface (ak (by kernel_rfl) (by kernel_rfl))) (fun ι=>(vk (by kernel_rfl) (by kernel_rfl))) (fun v w F ho hn hF=>plays_at s c hlp hlb (fresh_dead _ _) rfl ho hF hn)) (fc (pc (args:=[]) rfl (fun w hb=>works_any _)) fn))))) rfl [] [] [] 2 rfl rfl lw1a14 (.bool true))
theorem lwroff (s:LP) (c:Cfg) (p:Int) (hp:¬ (0≤p∧p < c.n)) (gg:Int) (hg:0≤gg∧gg≤9223372036854775807) (hlp:s.ps.length≤60) (hlb:s.bs.length≤40) : Ev.PieE Try.prog 4 [] 0 37 ⟨s.W,fun _=>False⟩ (lw1a21 s c p gg) [] (fun κ:Ev.Ren=>(.bool true)) (fun κ:Ev.Ren=>[]):=(trE (c:=⟨s.W,fun _=>False⟩) 5 (kn [s.bv,s.lv,iN (c.n),iN (c.q),iz (c.g),iz (c.m),iz (c.t),iz (c.s),iz (p),iz (gg),iN (s.ps.length),iN (s.bs.length),iz ((⟨false,none⟩ : XS).yi 0),iz ((⟨false,none⟩ : XS).yi 1),iz ((⟨false,none⟩ : XS).yi 2),iz ((⟨false,none⟩ : XS).yi 3),iz ((⟨false,none⟩ : XS).yi 4),iz ((⟨false,none⟩ : XS).yi 5),iz ((⟨false,none⟩ : XS).yi 6),iz ((⟨false,none⟩ : XS).yi 7),iz ((⟨false,none⟩ : XS).yi 9),uz ((⟨false,none⟩ : XS).yi 10),iz ((⟨false,none⟩ : XS).yi 12),iz ((⟨false,none⟩ : XS).yi 13),iz ((⟨false,none⟩ : XS).yi 14),iz ((⟨false,none⟩ : XS).yi 15),iz ((⟨false,none⟩ : XS).yi 16),iz ((⟨false,none⟩ : XS).yi 17),iz ((⟨false,none⟩ : XS).yi 18),iz ((⟨false,none⟩ : XS).yi 19),iz ((⟨false,none⟩ : XS).yi 20),uz ((⟨false,none⟩ : XS).yi 21)] (fc s.hs.leaf (fc s.hl.leaf fr)) [(.gtr,sy 10,.int .i64 60,.bool false),(.gtr,sy 11,.int .i64 40,.bool false)] [] [] (fc (fun _ _ _=>Ev.bt_gtr (by first | (simp; done) | (simp; omega))) (fc (fun _ _ _=>Ev.bt_gtr (by first | (simp; done) | (simp; omega))) fn)) fn fn s.W (fun _=>False) [[],lw1a20,[]] [⟨[10,48],[sy 1],none,0,none,sy 10,none⟩,⟨[10,24],[sy 0],none,0,none,sy 11,none⟩] [⟨18,[.agg #[sy 2,sy 3,sy 4,sy 5,sy 6,sy 7],sy 8,sy 9],0,some 407,.complex .f32 407 0,some 1⟩,⟨20,[.agg #[sy 2,sy 3,sy 4,sy 5,sy 6,sy 7]],1,none,.agg #[sy 2,sy 3,sy 4,sy 5,sy 6,sy 7],none⟩,⟨19,[.agg #[sy 2,sy 3,sy 4,sy 5,sy 6,sy 7],sy 8,sy 9],1,none,.agg #[sy 12,sy 13,sy 14,sy 15,sy 16,sy 17,sy 18,sy 19,.bool false,sy 20,sy 21,.bool false,sy 22,sy 23,sy 24,sy 25,sy 26,sy 27,sy 28,sy 29,sy 30,sy 31,.slice none 0 0,.slice none 0 0],none⟩,⟨17,[.iface 50 (.complex .f32 407 0),.agg #[sy 12,sy 13,sy 14,sy 15,sy 16,sy 17,sy 18,sy 19,.bool false,sy 20,sy 21,.bool false,sy 22,sy 23,sy 24,sy 25,sy 26,sy 27,sy 28,sy 29,sy 30,sy 31,.slice none 0 0,.slice none 0 0],.agg #[sy 2,sy 3,sy 4,sy 5,sy 6,sy 7],sy 0,sy 1],1,none,.bool true,some 2⟩,⟨6,[],2,none,.bool true,none⟩]) (fc (Ev.ro_len (ci:=0) rfl rfl s.hl Try.underlying48 rfl rfl) (fc (Ev.ro_len (ci:=0) rfl rfl s.hs Try.underlying24 rfl rfl) fn)) (fc (cd rfl [fun v=>xW (⟨false,none⟩ : XS) v] [] [] (fun w F ho hn hF=>newR_off c p hp gg hg hn)) (fc (pc rfl (fun w hb=>docs_ok c.cf w)) (fc (pc rfl (fun w hb=>rnroff_at c p hp gg w)) (fc (Ev.gc_ofD (c:=⟨s.W,fun _=>False⟩) (lpd:=[Ev.atD 407 (fun v=>xW (⟨false,none⟩ : XS) v)]) (lp:=fun v=>[xW (⟨false,none⟩ : XS) v]) (lq:=[]) (args:=fun v=>[.iface 50 v,lw1a5,(lw1a1 c),(s.bv),(s.lv)]) [0] [] rfl rfl rfl rfl (Ev.hf_at (fun _ _ _ _ _ h=>h) Ev.hf_nil) (Ev.argD_iface (ak (by kernel_rfl) (by kernel_rfl))) (fun ι=>(vk (by kernel_rfl) (by kernel_rfl))) (fun v w F ho hn hF=>plays_at s c.cf hlp hlb (fresh_dead _ _) rfl ho hF hn)) (fc (pc (args:=[]) rfl (fun w hb=>works_any _)) fn))))) rfl [] [] [] 2 rfl rfl lw1a14 (.bool true))
theorem lwrokN (s:LP) (c:Cfg) (p:Nat) (hp:p < c.n) (gg:Int) (hg:¬ 0≤gg) (hlp:s.ps.length≤60) (hlb:s.bs.length≤40) : Ev.PieE Try.prog 4 [] 0 37 ⟨s.W,fun _=>False⟩ (lw1a18 s c p gg) [] (fun κ:Ev.Ren=>(.bool true)) (fun κ:Ev.Ren=>[]):=(trE (c:=⟨s.W,fun _=>False⟩) 5 (kn [s.bv,s.lv,iN (c.n),iN (c.q),iz (c.g),iz (c.m),iz (c.t),iz (c.s),iN (p),iz (gg),iN (s.ps.length),iN (s.bs.length),iz ((⟨false,none⟩ : XS).yi 0),iz ((⟨false,none⟩ : XS).yi 1),iz ((⟨false,none⟩ : XS).yi 2),iz ((⟨false,none⟩ : XS).yi 3),iz ((⟨false,none⟩ : XS).yi 4),iz ((⟨false,none⟩ : XS).yi 5),iz ((⟨false,none⟩ : XS).yi 6),iz ((⟨false,none⟩ : XS).yi 7),iz ((⟨false,none⟩ : XS).yi 9),uz ((⟨false,none⟩ : XS).yi 10),iz ((⟨false,none⟩ : XS).yi 12),iz ((⟨false,none⟩ : XS).yi 13),iz ((⟨false,none⟩ : XS).yi 14),iz ((⟨false,none⟩ : XS).yi 15),iz ((⟨false,none⟩ : XS).yi 16),iz ((⟨false,none⟩ : XS).yi 17),iz ((⟨false,none⟩ : XS).yi 18),iz ((⟨false,none⟩ : XS).yi 19),iz ((⟨false,none⟩ : XS).yi 20),uz ((⟨false,none⟩ : XS).yi 21)] (fc s.hs.leaf (fc s.hl.leaf fr)) [(.gtr,sy 10,.int .i64 60,.bool false),(.gtr,sy 11,.int .i64 40,.bool false)] [] [] (fc (fun _ _ _=>Ev.bt_gtr (by first | (simp; done) | (simp; omega))) (fc (fun _ _ _=>Ev.bt_gtr (by first | (simp; done) | (simp; omega))) fn)) fn fn s.W (fun _=>False) [[],lw1a20,[]] [⟨[10,48],[sy 1],none,0,none,sy 10,none⟩,⟨[10,24],[sy 0],none,0,none,sy 11,none⟩] [⟨18,[.agg #[sy 2,sy 3,sy 4,sy 5,sy 6,sy 7],sy 8,sy 9],0,some 407,.complex .f32 407 0,some 1⟩,⟨20,[.agg #[sy 2,sy 3,sy 4,sy 5,sy 6,sy 7]],1,none,.agg #[sy 2,sy 3,sy 4,sy 5,sy 6,sy 7],none⟩,⟨19,[.agg #[sy 2,sy 3,sy 4,sy 5,sy 6,sy 7],sy 8,sy 9],1,none,.agg #[sy 12,sy 13,sy 14,sy 15,sy 16,sy 17,sy 18,sy 19,.bool false,sy 20,sy 21,.bool false,sy 22,sy 23,sy 24,sy 25,sy 26,sy 27,sy 28,sy 29,sy 30,sy 31,.slice none 0 0,.slice none 0 0],none⟩,⟨17,[.iface 50 (.complex .f32 407 0),.agg #[sy 12,sy 13,sy 14,sy 15,sy 16,sy 17,sy 18,sy 19,.bool false,sy 20,sy 21,.bool false,sy 22,sy 23,sy 24,sy 25,sy 26,sy 27,sy 28,sy 29,sy 30,sy 31,.slice none 0 0,.slice none 0 0],.agg #[sy 2,sy 3,sy 4,sy 5,sy 6,sy 7],sy 0,sy 1],1,none,.bool true,some 2⟩,⟨6,[],2,none,.bool true,none⟩]) (fc (Ev.ro_len (ci:=0) rfl rfl s.hl Try.underlying48 rfl rfl) (fc (Ev.ro_len (ci:=0) rfl rfl s.hs Try.underlying24 rfl rfl) fn)) (fc (cd rfl [fun v=>xW (⟨false,none⟩ : XS) v] [] [] (fun w F ho hn hF=>newR_neg c.cf ((p:Nat) : Int) gg hg hn)) (fc (pc rfl (fun w hb=>docs_ok c.cf w)) (fc (pc rfl (fun w hb=>rnronG_at c p hp gg hg w)) (fc (Ev.gc_ofD (c:=⟨s.W,fun _=>False⟩) (lpd:=[Ev.atD 407 (fun v=>xW (⟨false,none⟩ : XS) v)]) (lp:=fun v=>[xW (⟨false,none⟩ : XS) v]) (lq:=[]) (args:=fun v=>[.iface 50 v,lw1a5,(lw1a1 c),(s.bv),(s.lv)]) [0] [] rfl rfl rfl rfl (Ev.hf_at (fun _ _ _ _ _ h=>h) Ev.hf_nil) (Ev.argD_iface (ak (by kernel_rfl) (by kernel_rfl))) (fun ι=>(vk (by kernel_rfl) (by kernel_rfl))) (fun v w F ho hn hF=>plays_at s c.cf hlp hlb (fresh_dead _ _) rfl ho hF hn)) (fc (pc (args:=[]) rfl (fun w hb=>works_any _)) fn))))) rfl [] [] [] 2 rfl rfl lw1a14 (.bool true))
theorem lwrnoN (s:LP) (c:Cf) (p:Int) (hc:c.ok=false) (gg:Int) (hg:¬ 0≤gg) (hlp:s.ps.length≤60) (hlb:s.bs.length≤40) : Ev.PieE Try.prog 4 [] 0 37 ⟨s.W,fun _=>False⟩ (lw1a15 s c p gg) [] (fun κ:Ev.Ren=>(.bool true)) (fun κ:Ev.Ren=>[]):=(trE (c:=⟨s.W,fun _=>False⟩) 5 (kn [s.bv,s.lv,iz (c.n),iz (c.q),iz (c.g),iz (c.m),iz (c.t),iz (c.s),iz (p),iz (gg),iN (s.ps.length),iN (s.bs.length),iz ((⟨false,none⟩ : XS).yi 0),iz ((⟨false,none⟩ : XS).yi 1),iz ((⟨false,none⟩ : XS).yi 2),iz ((⟨false,none⟩ : XS).yi 3),iz ((⟨false,none⟩ : XS).yi 4),iz ((⟨false,none⟩ : XS).yi 5),iz ((⟨false,none⟩ : XS).yi 6),iz ((⟨false,none⟩ : XS).yi 7),iz ((⟨false,none⟩ : XS).yi 9),uz ((⟨false,none⟩ : XS).yi 10),iz ((⟨false,none⟩ : XS).yi 12),iz ((⟨false,none⟩ : XS).yi 13),iz ((⟨false,none⟩ : XS).yi 14),iz ((⟨false,none⟩ : XS).yi 15),iz ((⟨false,none⟩ : XS).yi 16),iz ((⟨false,none⟩ : XS).yi 17),iz ((⟨false,none⟩ : XS).yi 18),iz ((⟨false,none⟩ : XS).yi 19),iz ((⟨false,none⟩ : XS).yi 20),uz ((⟨false,none⟩ : XS).yi 21)] (fc s.hs.leaf (fc s.hl.leaf fr)) [(.gtr,sy 10,.int .i64 60,.bool false),(.gtr,sy 11,.int .i64 40,.bool false)] [] [] (fc (fun _ _ _=>Ev.bt_gtr (by first | (simp; done) | (simp; omega))) (fc (fun _ _ _=>Ev.bt_gtr (by first | (simp; done) | (simp; omega))) fn)) fn fn s.W (fun _=>False) [[],lw1a20,[]] [⟨[10,48],[sy 1],none,0,none,sy 10,none⟩,⟨[10,24],[sy 0],none,0,none,sy 11,none⟩] [⟨18,[.agg #[sy 2,sy 3,sy 4,sy 5,sy 6,sy 7],sy 8,sy 9],0,some 407,.complex .f32 407 0,some 1⟩,⟨20,[.agg #[sy 2,sy 3,sy 4,sy 5,sy 6,sy 7]],1,none,.agg #[sy 2,sy 3,sy 4,sy 5,sy 6,sy 7],none⟩,⟨19,[.agg #[sy 2,sy 3,sy 4,sy 5,sy 6,sy 7],sy 8,sy 9],1,none,.agg #[sy 12,sy 13,sy 14,sy 15,sy 16,sy 17,sy 18,sy 19,.bool false,sy 20,sy 21,.bool false,sy 22,sy 23,sy 24,sy 25,sy 26,sy 27,sy 28,sy 29,sy 30,sy 31,.slice none 0 0,.slice none 0 0],none⟩,⟨17,[.iface 50 (.complex .f32 407 0),.agg #[sy 12,sy 13,sy 14,sy 15,sy 16,sy 17,sy 18,sy 19,.bool false,sy 20,sy 21,.bool false,sy 22,sy 23,sy 24,sy 25,sy 26,sy 27,sy 28,sy 29,sy 30,sy 31,.slice none 0 0,.slice none 0 0],.agg #[sy 2,sy 3,sy 4,sy 5,sy 6,sy 7],sy 0,sy 1],1,none,.bool true,some 2⟩,⟨6,[],2,none,.bool true,none⟩]) (fc (Ev.ro_len (ci:=0) rfl rfl s.hl Try.underlying48 rfl rfl) (fc (Ev.ro_len (ci:=0) rfl rfl s.hs Try.underlying24 rfl rfl) fn)) (fc (cd rfl [fun v=>xW (⟨false,none⟩ : XS) v] [] [] (fun w F ho hn hF=>newR_neg c p gg hg hn)) (fc (pc rfl (fun w hb=>docs_ok c w)) (fc (pc rfl (fun w hb=>rnrno_at c p hc gg w)) (fc (Ev.gc_ofD (c:=⟨s.W,fun _=>False⟩) (lpd:=[Ev.atD 407 (fun v=>xW (⟨false,none⟩ : XS) v)]) (lp:=fun v=>[xW (⟨false,none⟩ : XS) v]) (lq:=[]) (args:=fun v=>[.iface 50 v,lw1a5,(lw1a3 c),(s.bv),(s.lv)]) [0] [] rfl rfl rfl rfl (Ev.hf_at (fun _ _ _ _ _ h=>h) Ev.hf_nil) (Ev.argD_iface (ak (by kernel_rfl) (by kernel_rfl))) (fun ι=>(vk (by kernel_rfl) (by kernel_rfl))) (fun v w F ho hn hF=>plays_at s c hlp hlb (fresh_dead _ _) rfl ho hF hn)) (fc (pc (args:=[]) rfl (fun w hb=>works_any _)) fn))))) rfl [] [] [] 2 rfl rfl lw1a14 (.bool true))
theorem lwroffN (s:LP) (c:Cfg) (p:Int) (hp:¬ (0≤p∧p < c.n)) (gg:Int) (hg:¬ 0≤gg) (hlp:s.ps.length≤60) (hlb:s.bs.length≤40) : Ev.PieE Try.prog 4 [] 0 37 ⟨s.W,fun _=>False⟩ (lw1a21 s c p gg) [] (fun κ:Ev.Ren=>(.bool true)) (fun κ:Ev.Ren=>[]):=(trE (c:=⟨s.W,fun _=>False⟩) 5 (kn [s.bv,s.lv,iN (c.n),iN (c.q),iz (c.g),iz (c.m),iz (c.t),iz (c.s),iz (p),iz (gg),iN (s.ps.length),iN (s.bs.length),iz ((⟨false,none⟩ : XS).yi 0),iz ((⟨false,none⟩ : XS).yi 1),iz ((⟨false,none⟩ : XS).yi 2),iz ((⟨false,none⟩ : XS).yi 3),iz ((⟨false,none⟩ : XS).yi 4),iz ((⟨false,none⟩ : XS).yi 5),iz ((⟨false,none⟩ : XS).yi 6),iz ((⟨false,none⟩ : XS).yi 7),iz ((⟨false,none⟩ : XS).yi 9),uz ((⟨false,none⟩ : XS).yi 10),iz ((⟨false,none⟩ : XS).yi 12),iz ((⟨false,none⟩ : XS).yi 13),iz ((⟨false,none⟩ : XS).yi 14),iz ((⟨false,none⟩ : XS).yi 15),iz ((⟨false,none⟩ : XS).yi 16),iz ((⟨false,none⟩ : XS).yi 17),iz ((⟨false,none⟩ : XS).yi 18),iz ((⟨false,none⟩ : XS).yi 19),iz ((⟨false,none⟩ : XS).yi 20),uz ((⟨false,none⟩ : XS).yi 21)] (fc s.hs.leaf (fc s.hl.leaf fr)) [(.gtr,sy 10,.int .i64 60,.bool false),(.gtr,sy 11,.int .i64 40,.bool false)] [] [] (fc (fun _ _ _=>Ev.bt_gtr (by first | (simp; done) | (simp; omega))) (fc (fun _ _ _=>Ev.bt_gtr (by first | (simp; done) | (simp; omega))) fn)) fn fn s.W (fun _=>False) [[],lw1a20,[]] [⟨[10,48],[sy 1],none,0,none,sy 10,none⟩,⟨[10,24],[sy 0],none,0,none,sy 11,none⟩] [⟨18,[.agg #[sy 2,sy 3,sy 4,sy 5,sy 6,sy 7],sy 8,sy 9],0,some 407,.complex .f32 407 0,some 1⟩,⟨20,[.agg #[sy 2,sy 3,sy 4,sy 5,sy 6,sy 7]],1,none,.agg #[sy 2,sy 3,sy 4,sy 5,sy 6,sy 7],none⟩,⟨19,[.agg #[sy 2,sy 3,sy 4,sy 5,sy 6,sy 7],sy 8,sy 9],1,none,.agg #[sy 12,sy 13,sy 14,sy 15,sy 16,sy 17,sy 18,sy 19,.bool false,sy 20,sy 21,.bool false,sy 22,sy 23,sy 24,sy 25,sy 26,sy 27,sy 28,sy 29,sy 30,sy 31,.slice none 0 0,.slice none 0 0],none⟩,⟨17,[.iface 50 (.complex .f32 407 0),.agg #[sy 12,sy 13,sy 14,sy 15,sy 16,sy 17,sy 18,sy 19,.bool false,sy 20,sy 21,.bool false,sy 22,sy 23,sy 24,sy 25,sy 26,sy 27,sy 28,sy 29,sy 30,sy 31,.slice none 0 0,.slice none 0 0],.agg #[sy 2,sy 3,sy 4,sy 5,sy 6,sy 7],sy 0,sy 1],1,none,.bool true,some 2⟩,⟨6,[],2,none,.bool true,none⟩]) (fc (Ev.ro_len (ci:=0) rfl rfl s.hl Try.underlying48 rfl rfl) (fc (Ev.ro_len (ci:=0) rfl rfl s.hs Try.underlying24 rfl rfl) fn)) (fc (cd rfl [fun v=>xW (⟨false,none⟩ : XS) v] [] [] (fun w F ho hn hF=>newR_neg c.cf p gg hg hn)) (fc (pc rfl (fun w hb=>docs_ok c.cf w)) (fc (pc rfl (fun w hb=>rnroff_at c p hp gg w)) (fc (Ev.gc_ofD (c:=⟨s.W,fun _=>False⟩) (lpd:=[Ev.atD 407 (fun v=>xW (⟨false,none⟩ : XS) v)]) (lp:=fun v=>[xW (⟨false,none⟩ : XS) v]) (lq:=[]) (args:=fun v=>[.iface 50 v,lw1a5,(lw1a1 c),(s.bv),(s.lv)]) [0] [] rfl rfl rfl rfl (Ev.hf_at (fun _ _ _ _ _ h=>h) Ev.hf_nil) (Ev.argD_iface (ak (by kernel_rfl) (by kernel_rfl))) (fun ι=>(vk (by kernel_rfl) (by kernel_rfl))) (fun v w F ho hn hF=>plays_at s c.cf hlp hlb (fresh_dead _ _) rfl ho hF hn)) (fc (pc (args:=[]) rfl (fun w hb=>works_any _)) fn))))) rfl [] [] [] 2 rfl rfl lw1a14 (.bool true))
end Go.Proofs.Ytbcnbofkgkheeaa
namespace Go.Proofs.Ytbcnbofkgkheeaa
open Go.ChangeShapes Go.WideShapes Go.ChangeAt Go.RowKit Go.Deep
set_option linter.unusedVariables false
section
variable {H:Type} {enc:TypeId×Value→H} {P:Program}
theorem trodAll_below (hl:laidOutB P=true) {W W':World} (hb:Below W.heap.size W W') : ∀ (ts:List TypeId) (vs:List Value) (ds:List (DataW H)) (ps:List MemPlace),
  DataW.TrodAll enc P W 0 (fun _=>true) true ts vs ds ps→(∀ t ∈ ts,P.readableRec t=true∧t < P.types.size)→(∀ x ∈ ps,x.block < W.heap.size) →
  DataW.TrodAll enc P W' 0 (fun b=>decide (b < W.heap.size)) true ts vs ds ps:=by
 intro ts
 induction ts with
 | nil =>
  intro vs ds ps h _ _
  obtain ⟨rfl,rfl,rfl⟩:=trodAll_nil h
  exact trodAll_mk0
 | cons t ts ih =>
  intro vs ds ps h hr hlt
  obtain ⟨v,vs',d,ds',p,q,rfl,rfl,rfl,h1,h2⟩:=trodAll_cons h
  exact trodAll_cons_mk ((hb.trod hl (hr t (List.mem_cons_self ..)).1 (hr t (List.mem_cons_self ..)).2 h1 (fun x hx=>hlt x (List.mem_append_left _ hx))))
   (ih vs' ds' q h2 (fun t' ht'=>hr t' (List.mem_cons_of_mem _ ht')) (fun x hx=>hlt x (List.mem_append_right _ hx)))
theorem law_post {f:Func} {s:ChangeSpec} {W W':World} {args:Array Value} {ds gs:List (DataW H)} {before:List MemPlace} {tb:TypeId} (hl:laidOutB P=true)
  (hW:DataW.Whole enc P f.params.toList s.vars false W args.toList ds gs before) (hvars:s.vars=[]) (hres:f.resultTypes = #[tb]) (hbool:P.underlying tb=some .bool)
  (hfn:s.fn H ds = { results:=[.lit (.bool true)],args:=ds }) (hread:∀ t ∈ f.params.toList,P.readableRec t=true∧t < P.types.size) (hb:Below W.heap.size W W') :
  s.post enc P f false true false false W args (.bool true) W':=by
 have hW0:=hW
 obtain ⟨p,q,hA,hV,hpq,hz,hn⟩:=hW
 rw [hvars] at hV
 obtain ⟨rfl,rfl⟩:=trodVars_none hV
 have hlt:∀ x ∈ before,x.block < W.heap.size:=fun x hx=>hW0.lt x hx
 have hpl:before=p:=by rw [hpq,List.append_nil]
 refine ⟨ds,[],before,[],p,[],hW0,?_,?_,?_,?_,fun h=>by cases h⟩
 ·rw [List.append_nil,hfn,hres]
  exact trodAll_mk1 (shut_bool hbool true)
 ·rw [List.append_nil,hfn]
  exact trodAll_below hl hb _ _ _ _ hA hread (fun x hx=>hlt x (by rw [hpl]; exact hx))
 ·rw [hvars,List.append_nil,hfn]
  rfl
 ·exact World.keptBut_mono (fun x hx=>⟨hx,.inr (.inl (by rw [hpl] at hx; exact hx))⟩) (hb.frame (· ∈ before))
theorem open_cells {W:World} {base b0:Nat} {spare:Nat→Bool} {held:Bool} {r:Reach} {t:TypeId} {fs:Array Field} {v:Value} {d:DataW H} {p:List MemPlace} (hs:P.underlying t=some (.struct fs)) (hone:oneCellFields P fs=true) (hC:P.cellsOf t=fs.size)
  (hv:Value.okWide P W r b0 t v) (h:DataW.Trod enc P W base spare held t v d p) :
  ∃ cs:Array Value,v=.agg cs∧cs.size=fs.size∧∀ (j:Nat) (f:Field),fs[j]? = some f→∃ n x y,cs[j]? = some x∧DataW.trod enc P W base spare held n f.type [x]=some y:=by
 obtain ⟨cs,rfl,hsz⟩:=okWide_struct hs hv
 obtain ⟨fuel,hf⟩:=h
 obtain ⟨ys,n,hn,hy,hlen,hyl,hfs⟩:=DataW.trod_struct hs hf
 rw [hC] at hsz
 refine ⟨cs,rfl,hsz,fun j f hj=>?_⟩
 obtain ⟨ho,hk⟩:=hone_of hone j f hj
 have hjl:j < cs.size:=by rw [hsz]; exact (Array.getElem?_eq_some_iff.1 hj).1
 have h1:=hfs j f hj
 have hjy:j < ys.length:=by rw [hyl]; exact (Array.getElem?_eq_some_iff.1 hj).1
 have hys:ys[j]? = some (ys[j]'hjy):=List.getElem?_eq_getElem hjy
 have hc:(((Value.agg cs).cells.toList.drop f.offset).take (P.cellsOf f.type))=[cs[j]]:=by
  rw [ho,hk]
  show ((cs.toList.drop j).take 1)=_
  rw [List.drop_eq_getElem_cons (by simpa using hjl)]
  rfl
 refine ⟨n,cs[j],ys[j]'hjy,Array.getElem?_eq_getElem hjl,?_⟩
 rw [← hc,← hys]
 exact h1
end
end Go.Proofs.Ytbcnbofkgkheeaa
namespace Go.Proofs.Ytbcnbofkgkheeaa
open Go.ChangeShapes Go.WideShapes Go.ChangeAt Go.RowKit Go.Deep
set_option linter.unusedVariables false
set_option linter.unusedSimpArgs false
set_option maxRecDepth 100000
section
variable {H:Type} {enc:TypeId×Value→H} {w:World}
theorem cell_lt {a:Addr} {v:Value} (h:w.cell? a=some v) : a.block < w.heap.size:=by
 unfold World.cell? at h
 cases hb:w.heap[a.block]? with
 | none=>rw [hb] at h; cases h
 | some o=>exact (Array.getElem?_eq_some_iff.1 hb).1
theorem add_none {b off n:Nat} : (⟨b,off,none⟩ : Addr).add n=⟨b,off+n,none⟩:=Ev.addMk b off n
theorem u8_bd {n:Int} (h:(Lit.int .u8 n).wf=true) : 0≤n∧n < 256:=by
 simp [Lit.wf,IntKind.min,IntKind.max,IntKind.signed,IntKind.bits] at h
 omega
theorem u64_bd {n:Int} (h:(Lit.int .u64 n).wf=true) : U64 n:=by
 simp [Lit.wf,IntKind.min,IntKind.max,IntKind.signed,IntKind.bits] at h
 unfold U64
 omega
theorem i64_max {n:Int} (h:(Lit.int .i64 n).wf=true) : n≤9223372036854775807:=by
 simp [Lit.wf,IntKind.min,IntKind.max,IntKind.signed,IntKind.bits] at h
 omega
theorem open_bytes {v:Value} {d:DataW H} {ps:List MemPlace} {r:Reach} {b0:Nat} (hv:Value.okWide Try.prog w r b0 24 v) (h:DataW.Trod enc Try.prog w 0 (fun _=>true) true 24 v d ps) :
  ∃ zs:List Int,Ev.SlR 1 v zs.length (u8s zs) w∧∀ i,0≤zs.getD i 0∧zs.getD i 0 < 256:=by
 obtain ⟨a0,n0,c0,rfl⟩:=okWide_slice Try.underlying24 hv
 obtain ⟨fuel,hf⟩:=h
 have key:∀ zs:List Int,(∀ z ∈ zs,0≤z∧z < 256)→∀ i,0≤zs.getD i 0∧zs.getD i 0 < 256:=fun zs hz i=>by
  rcases Nat.lt_or_ge i zs.length with h | h
  ·rw [List.getD_eq_getElem?_getD,List.getElem?_eq_getElem h]
   exact hz _ (List.getElem_mem h)
  ·rw [List.getD_eq_getElem?_getD,List.getElem?_eq_none h]
   decide
 rcases open_ints Try.underlying24 Try.underlying5 (by kernel_rfl) hf with ⟨hcs,_⟩ | ⟨a,len,cap,zs,hcs,_,hl,_,hz,_,hc,hwz⟩
 ·simp [Value.cells] at hcs
  obtain ⟨rfl,rfl,rfl⟩:=hcs
  exact ⟨[],⟨rfl,.inl ⟨rfl,_,_,rfl⟩⟩,key [] (fun z hz=>by cases hz)⟩
 ·simp [Value.cells] at hcs
  obtain ⟨rfl,rfl,rfl⟩:=hcs
  simp only [if_true] at hz
  have hlen:(zs.take n0).length=n0:=by rw [List.length_take]; omega
  refine ⟨zs.take n0,⟨by simp [u8s],?_⟩,key _ (fun z hm=>u8_bd (hwz z (List.mem_of_mem_take hm)))⟩
  rw [hlen]
  rcases Nat.eq_zero_or_pos n0 with h0 | h0
  ·subst h0
   exact .inl ⟨rfl,some a,_,rfl⟩
  ·have h1:=hc 0 (by omega)
   have hs:a.spot=none:=by simpa [Addr.add] using World.cell?_spot h1
   obtain ⟨b,off,spot⟩:=a
   simp only at hs
   subst hs
   have hb:b < w.heap.size:=by
    have:=cell_lt h1
    rw [add_none] at this
    exact this
   refine .inr ⟨b,off,_,rfl,⟨hb,hl⟩,fun j hj=>?_⟩
   have h2:=hc j (by omega)
   rw [add_none] at h2
   rw [h2]
   simp only [u8s]
   rw [List.getElem?_map,List.getElem?_take,if_pos (by omega),List.getElem?_eq_getElem (by omega)]
   simp [List.getD_eq_getElem?_getD,List.getElem?_eq_getElem (show j < zs.length by omega)]
theorem open_poke {fuel:Nat} {cs:List Value} {x:DataW H×List MemPlace} (h:DataW.trod enc Try.prog w 0 (fun _=>true) true fuel 86 cs=some x) : ∃ s:PokeS,cs=s.cells∧U64 s.v:=by
 obtain ⟨ys,n,_,_,hlen,hyl,hf⟩:=DataW.trod_struct Try.underlying86 h
 have hC:Try.prog.cellsOf 86 = 3:=by kernel_rfl
 rw [hC] at hlen
 match cs,hlen with
 | [c0,c1,c2],_ =>
  have k0:=hf 0 _ rfl
  have k1:=hf 1 _ rfl
  have k2:=hf 2 _ rfl
  have one:∀ t:TypeId,Try.prog.cellsOf t=1→∀ (c:Value) (l:List Value),(c::l).take (Try.prog.cellsOf t)=[c]:=fun t ht c l=>by rw [ht]; rfl
  have i1:Try.prog.cellsOf 4 = 1:=by kernel_rfl
  have i2:Try.prog.cellsOf 3 = 1:=by kernel_rfl
  have i3:Try.prog.cellsOf 30 = 1:=by kernel_rfl
  have g:∀ i,i < 3→∃ y,ys[i]? = some y:=fun i hi=>⟨_,List.getElem?_eq_getElem (by rw [hyl]; exact hi)⟩
  obtain ⟨y0,e0⟩:=g 0 (by omega)
  obtain ⟨y1,e1⟩:=g 1 (by omega)
  obtain ⟨y2,e2⟩:=g 2 (by omega)
  replace k0:DataW.trod enc Try.prog w 0 (fun _=>true) true n 4 [c0]=some y0:=by rw [← e0,← k0,← one _ i1 c0 [c1,c2]]; rfl
  replace k1:DataW.trod enc Try.prog w 0 (fun _=>true) true n 3 [c1]=some y1:=by rw [← e1,← k1,← one _ i2 c1 [c2]]; rfl
  replace k2:DataW.trod enc Try.prog w 0 (fun _=>true) true n 30 [c2]=some y2:=by rw [← e2,← k2,← one _ i3 c2 []]; rfl
  obtain ⟨m0,q0,_⟩:=DataW.trod_bool Try.underlying4 k0
  obtain ⟨m1,q1,_,w1⟩:=DataW.trod_int Try.underlying3 k1
  obtain ⟨m2,q2,_,w2⟩:=DataW.trod_int Try.underlying30 k2
  simp only [List.cons.injEq,and_true] at q0 q1 q2
  subst q0 q1 q2
  exact ⟨⟨m0,m1,m2⟩,rfl,u64_bd w2⟩
theorem pokes_of {n:Nat} {Q:Nat→PokeS→Prop} (h:∀ i,i < n→∃ s,Q i s) : ∃ ss:List PokeS,ss.length=n∧∀ (i:Nat) s,ss[i]? = some s→Q i s:=by
 induction n with
 | zero=>exact ⟨[],rfl,fun i s h=>by cases h⟩
 | succ n ih =>
  obtain ⟨ss,h1,h2⟩:=ih (fun i hi=>h i (by omega))
  obtain ⟨s,hs⟩:=h n (by omega)
  refine ⟨ss++[s],by simp [h1],fun i x hx=>?_⟩
  rcases Nat.lt_or_ge i ss.length with hi | hi
  ·rw [List.getElem?_append_left hi] at hx
   exact h2 i x hx
  ·rw [List.getElem?_append_right hi] at hx
   cases hk:i - ss.length with
   | zero =>
    rw [hk] at hx
    cases hx
    obtain rfl:i=n:=by omega
    exact hs
   | succ m=>rw [hk] at hx; cases hx
theorem pokes_len (ss:List PokeS) : (ss.flatMap PokeS.cells).length=ss.length * 3:=by
 induction ss with
 | nil=>rfl
 | cons s ss ih=>rw [List.flatMap_cons,List.length_append,ih,List.length_cons]; simp [PokeS.cells]; omega
theorem open_pokes {v:Value} {d:DataW H} {ps:List MemPlace} {r:Reach} {b0:Nat} (hv:Value.okWide Try.prog w r b0 48 v) (h:DataW.Trod enc Try.prog w 0 (fun _=>true) true 48 v d ps) :
  ∃ ss:List PokeS,Ev.SlR 3 v ss.length (ss.flatMap PokeS.cells) w∧∀ s ∈ ss,U64 s.v:=by
 have hC:Try.prog.cellsOf 86 = 3:=by kernel_rfl
 obtain ⟨a0,n0,c0,rfl⟩:=okWide_slice Try.underlying48 hv
 obtain ⟨fuel,hf⟩:=h
 rcases open_slice Try.underlying48 hf with ⟨hcs,_⟩ | ⟨a,len,cap,m,n,D,Pl,hcs,_,hl,_,hm,_,hi⟩
 ·simp [Value.cells] at hcs
  obtain ⟨rfl,rfl,rfl⟩:=hcs
  exact ⟨[],⟨rfl,.inl ⟨rfl,_,_,rfl⟩⟩,fun s hs=>by cases hs⟩
 ·simp [Value.cells] at hcs
  obtain ⟨rfl,rfl,rfl⟩:=hcs
  simp only [if_true] at hm
  subst hm
  rw [hC] at hi
  obtain ⟨ss,h1,h2⟩:=pokes_of (n:=n0) (Q:=fun i s=>w.cells? 0 (a.add (i * 3)) 3=some s.cells∧U64 s.v) (fun i hlt=>by
   obtain ⟨cs',hc,ht⟩:=hi i (by omega)
   obtain ⟨s,rfl,h3⟩:=open_poke ht
   exact ⟨s,hc,h3⟩)
  refine ⟨ss,?_,fun s hs=>?_⟩
  ·refine ⟨pokes_len ss,?_⟩
   rw [h1]
   rcases Nat.eq_zero_or_pos n0 with h0 | h0
   ·subst h0
    exact .inl ⟨rfl,_,_,rfl⟩
   ·have hat:∀ i s,ss[i]? = some s→∀ j,j < 3→w.cell? ((a.add (i * 3)).add j)=s.cells[j]?:=fun i s hs j hj=>(World.cells?_some (h2 i s hs).1).2.2 j hj
    have e0:=hat 0 ss[0] (List.getElem?_eq_getElem (by omega)) 0 (by omega)
    have hs:a.spot=none:=by
     have:=World.cell?_spot (e0.trans (show _=some (Value.bool ss[0].on) from rfl))
     simpa [Addr.add] using this
    have hb:=cell_lt (e0.trans (show _=some (Value.bool ss[0].on) from rfl))
    obtain ⟨b,off,spot⟩:=a
    simp only at hs
    subst hs
    rw [add_none,add_none] at hb
    refine .inr ⟨b,off,_,rfl,⟨hb,hl⟩,fun j hj=>?_⟩
    have hq:j / 3 < ss.length:=by omega
    have e1:=hat (j / 3) ss[j / 3] (List.getElem?_eq_getElem hq) (j % 3) (by omega)
    rw [add_none,add_none] at e1
    rw [show off+j=off+j / 3 * 3+j % 3 by omega,e1]
    have e3:=poke_at ss (j:=j / 3) (i:=j % 3) (List.getElem?_eq_getElem hq) (by omega)
    rw [show j / 3 * 3+j % 3=j by omega] at e3
    exact e3.symm
  ·obtain ⟨i,hi,e⟩:=List.getElem_of_mem hs
   exact (h2 i s (by rw [List.getElem?_eq_getElem hi,e])).2
theorem open_config {base b0:Nat} {spare:Nat→Bool} {held:Bool} {r:Reach} {v:Value} {d:DataW H} {p:List MemPlace}
  (hv:Value.okWide Try.prog w r b0 23 v) (h:DataW.Trod enc Try.prog w base spare held 23 v d p) : ∃ c:Cf,v=c.v:=by
 obtain ⟨cs,rfl,hsz,hf⟩:=open_cells Try.underlying23 (by kernel_rfl) (by kernel_rfl) hv h
 obtain ⟨l⟩:=cs
 have hl:l.length=6:=hsz
 match l,hl with
 | [c0,c1,c2,c3,c4,c5],_ =>
  obtain ⟨n0,y0,z0,hy0,hz0⟩:=hf 0 _ rfl
  cases hy0
  obtain ⟨m0,hm0,_,_⟩:=DataW.trod_int Try.underlying3 hz0
  cases hm0
  obtain ⟨n1,y1,z1,hy1,hz1⟩:=hf 1 _ rfl
  cases hy1
  obtain ⟨m1,hm1,_,_⟩:=DataW.trod_int Try.underlying3 hz1
  cases hm1
  obtain ⟨n2,y2,z2,hy2,hz2⟩:=hf 2 _ rfl
  cases hy2
  obtain ⟨m2,hm2,_,_⟩:=DataW.trod_int Try.underlying3 hz2
  cases hm2
  obtain ⟨n3,y3,z3,hy3,hz3⟩:=hf 3 _ rfl
  cases hy3
  obtain ⟨m3,hm3,_,_⟩:=DataW.trod_int Try.underlying3 hz3
  cases hm3
  obtain ⟨n4,y4,z4,hy4,hz4⟩:=hf 4 _ rfl
  cases hy4
  obtain ⟨m4,hm4,_,_⟩:=DataW.trod_int Try.underlying3 hz4
  cases hm4
  obtain ⟨n5,y5,z5,hy5,hz5⟩:=hf 5 _ rfl
  cases hy5
  obtain ⟨m5,hm5,_,_⟩:=DataW.trod_int Try.underlying3 hz5
  cases hm5
  exact ⟨⟨m0,m1,m2,m3,m4,m5⟩,rfl⟩
end
theorem own:ownKnob Try.prog.godebug=none:=by kernel_rfl
theorem laidOut:laidOutB Try.prog=true:=by kernel_rfl
theorem run0 {W:World} {N:Nat} {f:FuncId} {args:Array Value} {tm:List (Nat×Value)} {r:Value} (h:Ev.PieE Try.prog f [] 0 N ⟨W,fun _=>False⟩ tm [] (fun κ:Ev.Ren=>r) (fun κ:Ev.Ren=>[])) (hN:Ev.withB Try.prog (fun B=>Ev.segB B f [] (fun fn _=>Nat.beq fn.ntmps N))=true) (ha:args.size≤N) (ht:∀ p ∈ tm,args[p.1]? = some p.2) : Calls Try.prog f args W fun e w'=>e=.returned r∧Below W.heap.size W w' :=
 Ev.con_start hN (Ev.now_nil W) ha ht (fun A hA=>h A W _ hA (fun κ w1 h1=>⟨rfl,h1.below (fun _ h=>h)⟩))
end Go.Proofs.Ytbcnbofkgkheeaa
namespace Go.Proofs.Ytbcnbofkgkheeaa
open Go.ChangeShapes Go.WideShapes Go.ChangeAt Go.RowKit Go.Deep
set_option linter.unusedVariables false
set_option linter.unusedSimpArgs false
set_option maxRecDepth 100000
theorem readyPlays_walk (s:LP) (c:Cf) (p:Int) (g:Int) (hg:g≤9223372036854775807) : Calls Try.prog 4 #[c.v,.int .i64 p,.int .i64 g,s.bv,s.lv] s.W fun e w'=>e=.returned (.bool true)∧Below s.W.heap.size s.W w':=by
 by_cases h60:s.ps.length > 60
 ·exact run0 (lwrL1 s c p g h60) (by kernel_rfl) (by simp) (by simp)
 by_cases h40:s.bs.length > 40
 ·exact run0 (lwrL2 s c p g h60 h40) (by kernel_rfl) (by simp) (by simp)
 replace h60:s.ps.length≤60:=by omega
 replace h40:s.bs.length≤40:=by omega
 by_cases h0:0≤g
 ·have hg0:0≤g∧g≤9223372036854775807:=⟨h0,hg⟩
  cases hc:c.ok with
  | false=>exact run0 (lwrno s c p hc g hg0 h60 h40) (by kernel_rfl) (by simp) (by simp)
  | true =>
   obtain ⟨d,rfl⟩:=Cf.cfg hc
   by_cases hp:0≤p∧p < (d.n:Int)
   ·obtain ⟨q,rfl⟩:=Int.eq_ofNat_of_zero_le hp.1
    exact run0 (lwrok s d q (by omega) g hg0 h60 h40) (by kernel_rfl) (by simp) (by simp)
   ·exact run0 (lwroff s d p hp g hg0 h60 h40) (by kernel_rfl) (by simp) (by simp)
 ·have hg0:=h0
  cases hc:c.ok with
  | false=>exact run0 (lwrnoN s c p hc g hg0 h60 h40) (by kernel_rfl) (by simp) (by simp)
  | true =>
   obtain ⟨d,rfl⟩:=Cf.cfg hc
   by_cases hp:0≤p∧p < (d.n:Int)
   ·obtain ⟨q,rfl⟩:=Int.eq_ofNat_of_zero_le hp.1
    exact run0 (lwrokN s d q (by omega) g hg0 h60 h40) (by kernel_rfl) (by simp) (by simp)
   ·exact run0 (lwroffN s d p hp g hg0 h60 h40) (by kernel_rfl) (by simp) (by simp)
theorem readyPlays_contract (H:Type) (enc:TypeId×Value→H) (W:World) (base:Nat) (args:Array Value) (ds gs:List (DataW H)) (before:List MemPlace)
  (hval:∀ (j:Nat) t v,Try.f4.params[j]? = some t→args[j]? = some v→Value.okWide Try.prog W .any base t v)
  (hW:DataW.Whole enc Try.prog Try.f4.params.toList Rows.readyPlaysSpec.vars false W args.toList ds gs before) :
  Calls Try.prog 4 args W fun e W'=>∃ v,e=.returned v∧Rows.readyPlaysSpec.post enc Try.prog Try.f4 false true false false W args v W':=by
 have hW':=hW
 obtain ⟨p,q,hA0,hV,rfl,hfz,hnd⟩:=hW
 have hA:DataW.TrodAll enc Try.prog W 0 (fun _=>true) true Try.f4.params.toList args.toList ds p:=hA0
 rw [Try.params4] at hA hval
 obtain ⟨v0,vs0,d0,ds0,p0,q0,hargs0,rfl,rfl,h0,r0⟩:=trodAll_cons hA
 obtain ⟨v1,vs1,d1,ds1,p1,q1,rfl,rfl,rfl,h1,r1⟩:=trodAll_cons r0
 obtain ⟨v2,vs2,d2,ds2,p2,q2,rfl,rfl,rfl,h2,r2⟩:=trodAll_cons r1
 obtain ⟨v3,vs3,d3,ds3,p3,q3,rfl,rfl,rfl,h3,r3⟩:=trodAll_cons r2
 obtain ⟨v4,vs4,d4,ds4,p4,q4,rfl,rfl,rfl,h4,r4⟩:=trodAll_cons r3
 obtain ⟨rfl,rfl,rfl⟩:=trodAll_nil r4
 obtain rfl:args = #[v0,v1,v2,v3,v4]:=by cases args; simp_all
 obtain ⟨c,rfl⟩:=open_config (hval 0 _ v0 rfl rfl) h0
 obtain ⟨p,rfl,rfl,rfl,wp⟩:=open_int Try.underlying3 (hval 1 _ v1 rfl rfl) h1
 obtain ⟨g,rfl,rfl,rfl,wg⟩:=open_int Try.underlying3 (hval 2 _ v2 rfl rfl) h2
 obtain ⟨bs,hs,hz⟩:=open_bytes (hval 3 _ v3 rfl rfl) h3
 obtain ⟨ss,hl,hv⟩:=open_pokes (hval 4 _ v4 rfl rfl) h4
 refine (readyPlays_walk ⟨W,v4,ss,hl,hv,v3,bs,hs,hz⟩ c p g (i64_max wg)).mono fun x W' ⟨he,hb⟩=>?_
 subst he
 exact ⟨_,rfl,law_post laidOut hW' rfl (by kernel_rfl) Try.underlying4 rfl (by
  rw [Try.params4]
  intro t ht
  simp only [List.mem_cons,List.not_mem_nil,or_false] at ht
  rcases ht with rfl | rfl | rfl | rfl | rfl <;> exact ⟨by kernel_rfl,of_decide_eq_true (by kernel_rfl)⟩) hb⟩
set_option maxRecDepth 100000 in
theorem readyPlays_lifted (os:Os) (started:os.Started) (H:Type) (enc:TypeId×Value→H) :
  ReturnsInHanded {} Try.checked os 4 .any (Rows.readyPlaysSpec.pre6 enc Try.prog Try.f4 Rows.readyPlaysRow.domain false) (Rows.readyPlaysSpec.post enc Try.prog Try.f4 false true false false):=by
 refine returnsInHanded_of_change (C:=Try.checked) own started (by kernel_rfl) Try.func4
  (ChangeSpec.witness6 (enc:=enc) (C:=Try.checked) false ⟨#[],#[.agg #[.int .i64 0,.int .i64 0,.int .i64 0,.int .i64 0,.int .i64 0,.int .i64 0],.int .i64 0,.int .i64 0,.slice none 0 0,.slice none 0 0],[]⟩ 8 (by kernel_rfl) (by kernel_rfl) (by kernel_rfl) (by kernel_rfl)) ?_
 intro W base args ds gs before hval hW _ _
 exact readyPlays_contract H enc W base args ds gs before hval hW
theorem readyPlays_holds:Rows.ReadyPlaysSaid :=
 OpenClaim.holds_of_wide 4 Try.f4 rfl rfl rfl rfl rfl rfl rfl ⟨rfl,rfl,rfl,rfl,rfl⟩ rfl rfl rfl rfl rfl (by kernel_rfl) Try.func4 (by kernel_rfl)
  (of_decide_eq_true (by kernel_rfl)) (by unfold Func.isWrapper; first | (rw [if_pos (by decide +kernel)]; kernel_rfl) | (rw [if_neg (by decide +kernel)]; exact ⟨rfl,rfl⟩))
  (fun os started H enc _=>readyPlays_lifted os started H enc)
end Go.Proofs.Ytbcnbofkgkheeaa
