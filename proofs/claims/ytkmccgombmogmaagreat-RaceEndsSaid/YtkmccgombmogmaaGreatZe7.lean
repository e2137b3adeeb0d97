/- Part of a proof: see the last text. -/
import Derived.Test.YtkmccgombmogmaaGreatZe6
import Derived.RangeFuncLeaves
import Derived.RangeFuncCalls
import Derived.OrdersIn
import Derived.TacticsIn
import Derived.LoopNIn
set_option linter.unusedSectionVars false
set_option linter.unusedSimpArgs false
set_option linter.unusedVariables false
namespace Go.Ev
open Go.RowKit
variable[bg]
def FR:Option Nat->Fence
 | none=>Fence.wide
 | some b=>Fence.wide.inRound b
theorem A6(r:Option Nat)(f:FuncId):(FR r).fn f:=by cases r<;>trivial
theorem Eb(r:Option Nat):(FR r).round=r:=by cases r<;>rfl
theorem Ec(r:Option Nat):(FR r).depth=none:=by cases r<;>rfl
theorem vh(r:Option Nat){n:Nat} : (FR r).depth.isSome=true->1<=n:=by rw[Ec];intro h;cases h
theorem A7(r:Option Nat){n:Nat}{P:Program}{f:FuncId}{args:Array Value}{w:World}{R:Ending->World->Prop}(h:Calls P f args w R):CallsIn (FR r) n P f args w R:=by
 cases r with
 | none=>exact callsIn_wide.2 h
 | some b=>exact CallsIn.inRound b (callsIn_wide.2 h)
theorem If(r:Option Nat){n:Nat}{P:Program}{l:Nat}{f:FuncId}{tmps:Array Value}{assign body:Code}{w:World}{R:Ending->World->Prop}(h:RoundIn Fence.wide n P l f tmps assign body w R):RoundIn (FR r) n P l f tmps assign body w R:=by
 cases r<;>exact h
def nh(P:Program)(base:Nat->Prop)(call:Caller):Prop :=
 (∀ f args s v s1,call (.fn f args) s=some (v,s1)->mL s s.next s1.next->∀ ι args' w,dA P base ι s.look w->bN ι args args'->d8 ι s s1->
  Calls P f args' w λe w1=>∃ κ v',e=.returned v'/\Goes P base ι κ s s1 w w1/\ao κ v v')/\
 (∀ l tmps assign body s v s1,call (.D2 l tmps assign body) s=some (v,s1)->bL P assign->bL P body->mL s s.next s1.next->∀ ι l' mH w,dA P base ι s.look w->ι l=some l'->bN ι tmps mH->d8 ι s s1->
  ∀ f',RoundIn Fence.wide 0 P l' f' mH assign body w λe w1=>∃ κ v',e=.returned v'/\Goes P base ι κ s s1 w w1/\ao κ v v')
structure Turn(F:Nat->Prop)(w w':World):Prop where
 os:w'.os=w.os
 tape:w'.tape=w.tape
 output:w'.output=w.output
 size:w.heap.size<=w'.heap.size
 block:∀ k,k<w.heap.size->¬ F k->w'.heap[k]? = w.heap[k]?
theorem Turn.below{F:Nat->Prop}{w w':World}(h:Below w.heap.size w w'):Turn F w w':=⟨h.os,h.tape,h.output,h.size,λk hk _=>h.block k hk⟩
def vi(ι:am)(d:Nat)(F:Nat->Prop)(w:World)(r:Value)(ng:Option Nat)(v':Value)(w':World):Prop :=
 match ng with
 | none=>ao ι r v'/\Below w.heap.size w w'
 | some g'=>∃ (c:Nat) (F':Nat->Prop),ao (ι.upd d c) r v'/\bg.GR g' (ι.upd d c) F' w'/\Turn F w w'/\∀ j,F' j->j<w'.heap.size/\(F j\/w.heap.size<=j)
def M6(P:Program):Prop:=∀ op vals rq,bg.HZ op vals=some rq->(∀ c,op≠.defer c)/\∀ (c:List Value) g d r ng,rq.q c g d=some (r,ng)->∀ (o:Oper) (ev:Operand->Value) (ι:am) (F:Nat->Prop) (w:World),o.op=op->dL ι vals (op.operands.toList.map ev)->
 (∀ sz j q,rq=.src sz j q->∃ (y:Value) (c':Array Value) (m:Nat),(op.operands.toList.map ev)[j]? = some y/\dL ι c c'.toList/\c.length=m*sz/\c.all oneCell=true/\(∀ w':World,w'.heap=w.heap->(Builtin.firstCells sz m y).run P w'=.ok c' w')/\(∀ w':World,(Builtin.lenOf y).run P w'=.ok m w'))->
 bg.GR g ι F w->(∀ j,F j->j<w.heap.size)->(ι d=none\/ng=none)->∃ n v' w',(execOp ev o).run P w=.ok n w'/\(n=.value v'\/n=.skip/\v'=undef)/\vi ι d F w r ng v' w'
def K_(P:Program):Prop:=∀ f (args:Array Value) q,bg.wF f args.toList=some q->∀ g d r ng,q g d=some (r,ng)->∀ (ι:am) (args':Array Value) (F:Nat->Prop) (w:World),bN ι args args'->
 bg.GR g ι F w->(∀ j,F j->j<w.heap.size)->(ι d=none\/ng=none)->Calls P f args' w λe w'=>∃ v',e=.returned v'/\vi ι d F w r ng v' w'
structure dH(P:Program):Prop where
 H3:∀ f (args:Array Value) r,bg.H3 f args.toList=some r->∀ ι args' w,bN ι args args'->Calls P f args' w λe w'=>∃ v',e=.returned v'/\ao ι r v'/\Below w.heap.size w w'
 HZ:M6 P
 wF:K_ P
theorem Goes.pi{P:Program}{base:Nat->Prop}{ι:am}{s:St}{w w1:World}(h:dA P base ι s.look w)(hb:Below w.heap.size w w1)(s1:St)(hs:∀ id,s1.look id=s.look id):Goes P base ι ι s s1 w w1:=by
 have hlt:∀ id o b,s.look id=some o->ι id=some b->b<w.heap.size:=by
  intro id o b ho hbb;obtain⟨b',o',i1,i2,_⟩:=h.there id o ho (h.real ho hbb);rw[hbb]at i1;cases i1;rcases Nat.lt_or_ge b w.heap.size with g | g
  ·exact g
  ·rw[Array.getElem?_eq_none g]at i2;cases i2
 have hrep:dA P base ι s.look w1:=by
  refine⟨h.inj,λid o ho hrl=>?_,λk hk=>Nat.lt_of_lt_of_le (h.sz k hk) hb.size,h.J4 (λ_ _ _ g _=>g) (jf.refl _) rfl hb.size (λj _ hj=>hb.block j hj) (λx ox b g1 g2=>.inl ⟨x,ox,g1,g2⟩)⟩;obtain⟨b,o',i1,i2,i3,i4⟩:=h.there id o ho hrl;exact⟨b,o',i1,by rw[hb.block b (hlt id o b ho i1)];exact i2,i3,i4⟩
 exact⟨hrep.look_eq hs,λ_ _=>rfl,Below.out hb (λk hk=>h.sz k hk)⟩
theorem ni{P:Program}{base:Nat->Prop}{q:GQ}{s s1:St}{v:Value}(h:sR q s=some (v,s1))(hwin:mL s s.next s1.next){ι:am}{w:World}(hr:dA P base ι s.look w)(hfr:d8 ι s s1) :
  ∃ g F ng,q g (4*s.next+3)=some (v,ng)/\bg.GR g ι F w/\(∀ j,F j->j<w.heap.size)/\(ι (4*s.next+3)=none\/ng=none)/\
   ∀ v' w',vi ι (4*s.next+3) F w v ng v' w'->∃ κ,Goes P base ι κ s s1 w w'/\ao κ v v':=by
 unfold sR at h
 split at h
 case h_2=>cases h
 rename_i x hl;obtain⟨_,n3,F,q1,q2,q3⟩:=hr.gh 3 _ x.block hl rfl
 split at h
 ·rename_i r hq
  cases h;exact⟨_,F,none,hq,q1,λj hj=>(q2 j hj).1,.inr rfl,λv' w' ⟨e1,e2⟩=>⟨ι,Goes.pi hr e2 _ (λ_=>rfl),e1⟩⟩
 ·rename_i r g hq
  cases h;have hd:ι (4*s.next+3)=none:=hfr _ (by omega) (by show 4*s.next+3<4*(s.next+1);omega);refine⟨_,F,some g,hq,q1,λj hj=>(q2 j hj).1,.inl hd,λv' w' ⟨c,F',e1,e2,e3,e4⟩=>⟨ι.upd (4*s.next+3) c,?_,e1⟩⟩;have hle:jf ι (ι.upd (4*s.next+3) c):=am.gZ hd;have hn:1<=s.next:=by
   rcases Nat.eq_zero_or_pos s.next with e | e
   ·have:=hwin 3 (by omega) (by show 3<4*(s.next+1);omega)
    rw[hl]at this;cases this
   ·exact e
  have lk:∀ j,(({ (s.put 3 (some (il g))).touch 3 (some 1) true with next:=s.next+1 } : St)).look j=if j=3 then some (il g) else s.look j:=by
   intro j
   by_cases ej:j=3
   ·rw[if_pos ej,ej];exact St.bZ _ 3 _ (show 3<lim by unfold lim;omega)
   ·rw[if_neg ej];exact St.bh _ _ _ _ ej
  have old:∀ id o b,(({ (s.put 3 (some (il g))).touch 3 (some 1) true with next:=s.next+1 } : St)).look id=some o->(ι.upd (4*s.next+3) c) id=some b->id≠3/\s.look id=some o/\ι id=some b:=by
   intro id o b ho hb;rw[lk]at ho
   by_cases e3:id=3
   ·exfalso
    subst e3;unfold am.upd at hb;rw[if_neg (by omega),n3]at hb;cases hb
   ·rw[if_neg e3]at ho
    refine⟨e3,ho,?_⟩;unfold am.upd at hb
    by_cases ed:id=4*s.next+3
    ·exfalso
     have:=hwin id (by omega) (by show id<4*(s.next+1);omega);rw[this]at ho;cases ho
    ·rw[if_neg ed]at hb
     exact hb
  have hlt:∀ id o b,s.look id=some o->ι id=some b->b<w.heap.size/\¬ F b:=by
   intro id o b ho hbb;obtain⟨b',o',i1,i2,_⟩:=hr.there id o ho (hr.real ho hbb);rw[hbb]at i1;cases i1;refine⟨?_,q3 id o b ho hbb⟩;rcases Nat.lt_or_ge b w.heap.size with g | g
   ·exact g
   ·rw[Array.getElem?_eq_none g]at i2;cases i2
  refine⟨⟨?_,?_,λk hk=>Nat.lt_of_lt_of_le (hr.sz k hk) e3.size,?_⟩,?_,⟨e3.os,e3.tape,e3.output,e3.size,λk hk=>e3.block k (hr.sz k hk) (λhf=>(q2 k hf).2 hk)⟩⟩
  ·intro x y ox oy bb hx hy h1 h2
   obtain⟨_,x2,x3⟩:=old x ox bb hx h1;obtain⟨_,y2,y3⟩:=old y oy bb hy h2;exact hr.inj x y ox oy bb x2 y2 x3 y3
  ·intro id o ho hrl
   have ho':=ho;rw[lk]at ho
   by_cases e3':id=3
   ·exfalso
    rw[if_pos e3']at ho;cases ho;cases hrl
   ·rw[if_neg e3']at ho
    obtain⟨b,o',i1,i2,i3,i4⟩:=hr.there id o ho hrl;obtain⟨l1,l2⟩:=hlt id o b ho i1;exact⟨b,o',hle _ _ i1,by rw[e3.block b l1 l2];exact i2,i3.mono hle,i4⟩
  ·intro id o gg ho hg
   rw[lk]at ho
   by_cases e3':id=3
   ·rw[if_pos e3']at ho
    cases ho;cases hg;refine⟨e3',by unfold am.upd;rw[if_neg (by omega)];exact n3,F',e2,λj hj=>⟨(e4 j hj).1,λhb=>?_⟩,λx ox b h1 h2 hF=>?_⟩
    ·rcases(e4 j hj).2 with h | h
     ·exact(q2 j h).2 hb
     ·have:=hr.sz j hb
      omega
    ·obtain⟨_,x2,x3⟩:=old x ox b h1 h2
     obtain⟨l1,l2⟩:=hlt x ox b x2 x3;rcases(e4 b hF).2 with h | h
     ·exact l2 h
     ·omega
   ·exfalso
    rw[if_neg e3']at ho;exact e3' (hr.gh id o gg ho hg).1
  ·intro id hid
   have OP:id<4*s.next\/4*(s.next+1)<=id:=hid
   unfold am.upd;rw[if_neg (by omega)]
 ·cases h
theorem gE{P:Program}{a:Act}{o:Oper}{s:St}{r:Next×St}(h:bf P a o s=some r):∀ c,o.op≠.defer c:=by
 intro c e;unfold bf at h;rw[e]at h;cases h
theorem pS{P:Program}{base:Nat->Prop}(dh:dH P){call:Caller}(hcl:dU call)(hc:nh P base call)(rd:Option Nat){a a1:Act}{o:Oper}{s s1:St}(h:ib P call a o s=some (a1,s1))(hwin:mL s s.next s1.next){ι:am}{A:Act}{w:World}(hA:cn ι a A)(hr:dA P base ι s.look w)(hfr:d8 ι s s1)
  {K:Act->World->Prop} {Q:Exit->Act->World->Prop} (hK:∀ κ A1 w1,cn κ a1 A1->Goes P base ι κ s s1 w w1->K A1 w1):o.wpIn (FR rd) 0 P A w K Q:=by
 unfold ib at h;refine⟨λf _=>A6 rd f,?_⟩
 split at h
 ·rename_i q hq
  split at h
  case h_2=>cases h
  rename_i v s2 hg;cases h;unfold qN at hg
  split at hg
  case isFalse=>cases hg
  rename_i hok;obtain⟨k1,k2⟩:=dh.HZ _ _ q hq;rw[Oper.semAt_eq _ _ _ k1];have hv:dL ι (kW a o.op) (o.op.operands.toList.map A.eval):=by
   unfold kW;refine⟨by simp,λi x y h1 h2=>?_⟩;rw[List.getElem?_map]at h1 h2;cases hoi:o.op.operands.toList[i]? with
   | none=>rw[hoi]at h1;cases h1
   | some z =>
    rw[hoi]at h1 h2;cases h1;cases h2;refine aD hA z ?_;unfold bM at hok;rw[List.all_eq_true]at hok;exact hok z (List.mem_of_getElem? hoi)
  unfold m7 at hg
  split at hg
  ·rename_i q0
   obtain⟨g,F,ng,g1,g2,g3,g4,g5⟩:=ni hg hwin hr hfr;obtain⟨n,v',w',e1,e2,e3⟩:=k2 [] g _ _ ng g1 o A.eval ι F w rfl hv (λ_ _ _ e=>by cases e) g2 g3 g4;obtain⟨κ,gg,M7⟩:=g5 v' w' e3;have hA1:=iq (hA.mono (gg.le hfr)) M7 o.dst;rw[e1];rcases e2 with rfl | ⟨rfl,rfl⟩
   ·exact hK κ _ w' hA1 gg
   ·exact hK κ _ w' hA1 gg
  ·rename_i r0
   split at hg
   case h_2=>cases hg
   rename_i a0 ha0;cases hg;obtain⟨x0,hl0,rfl⟩:∃ x0,s.look 3=some (.view x0 0)/\r0=v:=by
    unfold qM at ha0
    split at ha0
    ·rename_i x0 h0
     cases ha0;exact⟨x0,h0,rfl⟩
    ·cases ha0
   obtain⟨_,n3,F,q1,q2,q3⟩:=hr.gh 3 _ x0.block hl0 rfl;obtain⟨n,v',w',e1,e2,e3⟩:=k2 [] x0.block 0 _ none rfl o A.eval ι F w rfl hv (λ_ _ _ e=>by cases e) q1 (λj hj=>(q2 j hj).1) (.inr rfl);obtain⟨M7,hbl⟩:ao ι r0 v'/\Below w.heap.size w w':=e3;have gg:Goes P base ι ι s (s.touch 3 (some 0) false) w w':=Goes.pi hr hbl _ (λ_=>rfl);have hA1:=iq hA M7 o.dst;rw[e1];rcases e2 with rfl | ⟨rfl,rfl⟩
   ·exact hK ι _ w' hA1 gg
   ·exact hK ι _ w' hA1 gg
  ·rename_i sz j q0
   split at hg
   case h_2=>cases hg
   rename_i y hy
   split at hg
   case h_2=>cases hg
   rename_i c s3 hc;obtain⟨m1,m2⟩:s3.next=s.next/\∀ id,s3.look id=s.look id:=by
    unfold wY at hc
    split at hc
    ·cases hc;exact⟨rfl,λ_=>rfl⟩
    ·cases hc
   obtain⟨c0,l0,hsrc,hc0⟩:∃ c0 l0,bO s sz y=some (c0,l0)/\c0=c:=by
    unfold wY at hc
    split at hc
    ·rename_i c0 l0 h0
     cases hc;exact⟨_,_,h0,rfl⟩
    ·cases hc
   subst hc0;have M8:mL s3 s3.next s1.next:=λid x z=>by rw[m2];exact hwin id (by omega) z
   have O8:d8 ι s3 s1:=λid x z=>hfr id (by omega) z
   obtain⟨g,F,ng,g1,g2,g3,g4,g5⟩:=ni hg M8 (hr.look_eq m2) O8;obtain⟨y',hy',M9⟩:∃ y',(o.op.operands.toList.map A.eval)[j]? = some y'/\ao ι y y':=by
    have hlt:j<(o.op.operands.toList.map A.eval).length:=by
     rw[← hv.1];exact(List.getElem?_eq_some_iff.1 hy).1
    exact⟨_,List.getElem?_eq_getElem hlt,hv.2 j _ _ hy (List.getElem?_eq_getElem hlt)⟩
   obtain⟨m,hm⟩:∃ m,eM y=some m:=by
    unfold bO at hsrc
    split at hsrc<;>first | exact⟨_,rfl⟩ | cases hsrc
   obtain⟨c',c1,c2,c3,c4,c5⟩:=fO hr M9 hsrc hm
   obtain⟨n,v',w',e1,e2,e3⟩:=k2 c0.toList g _ _ ng g1 o A.eval ι F w rfl hv (λsz' j' q' e=>by
    cases e
    exact⟨y',c',m,hy',c1.list,by simpa using c2,c3,c4,c5⟩) g2 g3 g4
   obtain⟨κ,gg,M7⟩:=g5 v' w' e3;have O9:Goes P base ι κ s s1 w w':=⟨gg.rep,λid hid=>gg.ext id (by rw[m1];exact hid),gg.below⟩;have hA1:=iq (hA.mono (O9.le hfr)) M7 o.dst;rw[e1];rcases e2 with rfl | ⟨rfl,rfl⟩
   ·exact hK κ _ w' hA1 O9
   ·exact hK κ _ w' hA1 O9
 rename_i hq
 split at h
 ·rename_i v s2 he
  cases h;rw[Oper.semAt_eq _ _ _ (gE he)];obtain⟨κ,n',w1,r1,r2,r3,r4,r5⟩:=jl hA hr he hfr;have g:Goes P base ι κ s s1 w w1:=⟨r2,r3,r5⟩;cases n' with
  | value v' =>
   rw[r1];exact hK κ _ w1 (iq (hA.mono (g.le hfr)) r4 _) g
  | _=>exact r4.elim
 ·rename_i s2 he
  cases h;rw[Oper.semAt_eq _ _ _ (gE he)];obtain⟨κ,n',w1,r1,r2,r3,r4,r5⟩:=jl hA hr he hfr;have g:Goes P base ι κ s s1 w w1:=⟨r2,r3,r5⟩;cases n' with
  | skip =>
   rw[r1];exact hK κ _ w1 (iq (hA.mono (g.le hfr)) (eV κ) _) g
  | _=>exact r4.elim
 ·rename_i f args s2 he
  split at h
  ·rename_i v s3 hcall
   cases h;rw[Oper.semAt_eq _ _ _ (gE he)];have n1:=qP he;have n2:=(hcl (.fn f args)).next hcall
   have w2:=(lG P a o).win he hwin n2;obtain⟨κ,n',w1,r1,r2,r3,r4,r5⟩:=jl hA hr he (hfr.left n2);have g:Goes P base ι κ s s2 w w1:=⟨r2,r3,r5⟩;cases n' with
   | enter f' args' =>
    obtain⟨rfl,hargs⟩:=r4;rw[r1,Oper.uponIn_enter];refine⟨vh rd,A7 rd ((hc.1 _ _ _ _ _ hcall w2 κ args' w1 r2 hargs (hfr.right g n1)).mono ?_)⟩;rintro e w2 ⟨μ,v',rfl,g2,hv⟩;have g3:=g.trans g2 n1 n2;exact hK μ _ w2 (iq (hA.mono (g3.le hfr)) hv _) g3
   | _=>exact r4.elim
  ·cases h
 ·rename_i l f tmps assign body s2 he
  split at h
  ·rename_i v s3 hcall
   cases h;rw[Oper.semAt_eq _ _ _ (gE he)];have n1:=qP he;have n2:=(hcl (.D2 l tmps assign body)).next hcall
   have w2:=(lG P a o).win he hwin n2;obtain⟨κ,n',w1,r1,r2,r3,r4,r5⟩:=jl hA hr he (hfr.left n2);have g:Goes P base ι κ s s2 w w1:=⟨r2,r3,r5⟩;cases n' with
   | round l' f' mH assign' body' =>
    obtain⟨hl,ht,rfl,rfl,o1,o2⟩:=r4;rw[r1,Oper.uponIn_round];refine⟨vh rd,If rd ((hc.2 _ _ _ _ _ _ _ hcall o1 o2 w2 κ l' mH w1 r2 hl ht (hfr.right g n1) f').mono ?_)⟩;rintro e w2 ⟨μ,v',rfl,g2,hv⟩;have g3:=g.trans g2 n1 n2;exact hK μ _ w2 (iq (hA.mono (g3.le hfr)) hv _) g3
   | _=>exact r4.elim
  ·cases h
 ·cases h
theorem xv{P:Program}{base:Nat->Prop}(dh:dH P){call:Caller}(hcl:dU call)(hc:nh P base call)(rd:Option Nat)(ops:Array Oper):∀ (l:List Oper) (a:Act) (s:St) (a1:Act) (s1:St),lA P call ops l a s=some (a1,s1)->mL s s.next s1.next->
  ∀ (ι:am) (A:Act) (w:World),cn ι a A->dA P base ι s.look w->d8 ι s s1->∀ Q:Exit->Act->World->Prop,(∀ κ A1 w1,cn κ a1 A1->Goes P base ι κ s s1 w w1->Q .normal A1 w1)->wpListIn (FR rd) 0 P ops Q l A w:=by
 intro l
 induction l with
 | nil =>
  intro a s a1 s1 h hwin ι A w hA hr hfr Q hQ;cases h;exact hQ ι A w hA (Goes.refl hr)
 | cons o rest ih =>
  intro a s a1 s1 h hwin ι A w hA hr hfr Q hQ;simp only[lA]at h;refine wpListIn_step (λK hK=>?_);rw[qQ hA]
  split at h
  ·rename_i hw
   rw[if_pos hw]
   split at h
   ·rename_i a2 s2 hs
    have n1:=(jm (P:=P) hcl a o).next hs
    have n2:=(pQ (P:=P) hcl ops rest a2).next h
    refine pS dh hcl hc rd hs (hwin.left n2) hA hr (hfr.left n2) (λκ A1 w1 hA1 g=>hK _ _ ?_);exact ih _ _ _ _ h ((jm (P:=P) hcl a o).win hs hwin n2) κ A1 w1 hA1 g.rep (hfr.right g n1) Q (λμ A2 w2 hA2 g2=>hQ μ A2 w2 hA2 (g.trans g2 n1 n2))
   ·cases h
  ·rename_i hw
   rw[if_neg hw];exact⟨λf _=>A6 rd f,hK _ _ (ih _ _ _ _ h hwin ι _ w (iq hA (eV ι) _) hr hfr Q hQ)⟩
structure Rn(P:Program)(call:Caller)(ops:Array Oper)(ac:Nat->Act)(S:Nat->St)(Lf:Nat->List Touch):Prop where
 loc:dU call
 Ou:∀ i o,ops[i]? = some o->Stp P call ops o (ac i) (S i) (ac (i+1)) (S (i+1)) (Lf i)
 win:mL (S 0) (S 0).next (S ops.size).next
 edges:∀ (i:Nat) (o:Oper),ops[i]? = some o->∀ e ∈ o.after,Region.binds .any e=true->e.on<i
 guards:∀ (i:Nat) (o:Oper) (j:Nat) (b:Bool),ops[i]? = some o->o.guard=some (j,b)->(∃ e ∈ o.after,e.on=j/\Region.binds .any e=true)/\∃ d,(ops[j]?).bind (·.dst)=some d
 tms:Region.temporariesOk ops (Region.before ops)=true
 gd:gJ ops=true
 nc:∀ i m,i<m->m<ops.size->clashes (Lf m) (Lf i)=true->((Region.before ops).getD m 0).testBit i=true
section
variable{P:Program}{call:Caller}{ops:Array Oper}{ac:Nat->Act}{S:Nat->St}{Lf:Nat->List Touch}
theorem Rn.one(h:Rn P call ops ac S Lf){i:Nat}(hi:i<ops.size):(S i).next<=(S (i+1)).next :=
 (Stp.known h.loc (h.Ou i ops[i] (Array.getElem?_eq_getElem hi))).1
theorem Rn.mono(h:Rn P call ops ac S Lf)(i:Nat):∀ d,i+d<=ops.size->(S i).next<=(S (i+d)).next:=by
 intro d
 induction d with
 | zero=>intro _;exact Nat.le_refl _
 | succ d ih=>intro hd;exact Nat.le_trans (ih (by omega)) (h.one (by omega))
theorem Rn.le(h:Rn P call ops ac S Lf){i j:Nat}(hij:i<=j)(hj:j<=ops.size):(S i).next<=(S j).next:=by
 have:=h.mono i (j-i) (by omega);rw[show i+(j-i)=j by omega]at this;exact this
theorem Rn.Ed(h:Rn P call ops ac S Lf):∀ i,i<=ops.size->mL (S i) (S i).next (S ops.size).next:=by
 intro i
 induction i with
 | zero=>intro _;exact h.win
 | succ i ih =>
  intro hi;have w:=ih (by omega);obtain⟨n,k⟩:=Stp.known h.loc (h.Ou i ops[i] (Array.getElem?_eq_getElem (by omega)));obtain⟨u,b,_⟩:=k (w.left (h.le hi (Nat.le_refl _)));intro id x y;have free:¬ iW (Lf i) id:=λ⟨t,ht,hid,_⟩=>b t ht (λhh=>by omega) (by rw[hid];exact w id (by omega) y)
  exact dM (by rw[(u id free).1,w id (by omega) y];rfl)
theorem Rn.known(h:Rn P call ops ac S Lf){i:Nat}{o:Oper}(ho:ops[i]? = some o) :
  MZ (Lf i) (S i) (S (i+1))/\(∀ t ∈ Lf i,Old (S i).next (S (i+1)).next t.id->(S i).look t.id≠none)/\∃ v,ac (i+1)=(ac i).put o.dst v/\
   ∀ (b:Act) (z:St),Region.wanted o (yielded ops b.tmps)=Region.wanted o (yielded ops (ac i).tmps)->(∀ x ∈ o.op.operands,b.eval x=(ac i).eval x)->z.next=(S i).next->
    (∀ t ∈ Lf i,Old (S i).next (S (i+1)).next t.id->D4 t ((S i).look t.id) (z.look t.id))->mL z (S i).next (S (i+1)).next->
    (Region.wanted o (yielded ops b.tmps)=true/\∃ z1,ib P call b o z=some (b.put o.dst v,z1)/\z1.next=(S (i+1)).next/\J6 (Lf i) (S (i+1)) z z1)\/
    (Region.wanted o (yielded ops b.tmps)=false/\v=undef/\S (i+1)=S i/\Lf i=[]):=by
 have hlt:i<ops.size:=(Array.getElem?_eq_some_iff.1 ho).1;obtain⟨n,k⟩:=Stp.known h.loc (h.Ou i o ho);exact k ((h.Ed i (by omega)).left (h.le (by omega) (Nat.le_refl _)))
theorem Rn.hV(h:Rn P call ops ac S Lf)(x:Loc)(i:Nat)(hi:i<ops.size)(hw:¬ Wr (Lf i) x):val (S (i+1)).look x=val (S i).look x :=
 (h.known (Array.getElem?_eq_getElem hi)).1.val x hw
def Wt(ops:Array Oper)(i:Nat)(t:Tmp):Prop:=∃ o,ops[i]? = some o/\o.dst=some t
theorem tH{a:Act}{d:Option Tmp}{v:Value}{t:Tmp}(h:d≠some t):(a.put d v).tmps[t]? = a.tmps[t]?:=by
 cases d with
 | none=>rfl
 | some d =>
  have:d≠t:=λe=>h (by rw[e])
  simp[Act.put,Array.getElem?_setIfInBounds_ne this]
theorem Ee{a b:Act}{v:Value}{t:Tmp}(h:a.tmps.size=b.tmps.size):(a.put (some t) v).tmps[t]? = (b.put (some t) v).tmps[t]?:=by
 simp[Act.put,Array.getElem?_setIfInBounds,h]
theorem xw(a:Act)(d:Option Tmp)(v:Value):(a.put d v).tmps.size=a.tmps.size:=by
 cases d<;>simp[Act.put]
theorem xx(a:Act)(d:Option Tmp)(v:Value):(a.put d v).defers=a.defers:=by
 cases d<;>rfl
theorem Rn.hT(h:Rn P call ops ac S Lf)(t:Tmp)(i:Nat)(hi:i<ops.size)(hw:¬ Wt ops i t):(ac (i+1)).tmps[t]? = (ac i).tmps[t]?:=by
 have ho:ops[i]? = some ops[i]:=Array.getElem?_eq_getElem hi;obtain⟨_,_,v,e,_⟩:=h.known ho;rw[e];exact tH (λhd=>hw ⟨_,ho,hd⟩)
theorem Rn.Qw(h:Rn P call ops ac S Lf):∀ i,i<=ops.size->(ac i).tmps.size=(ac 0).tmps.size/\(ac i).defers=(ac 0).defers:=by
 intro i
 induction i with
 | zero=>intro _;exact⟨rfl,rfl⟩
 | succ i ih =>
  intro hi;obtain⟨_,_,v,e,_⟩:=h.known (Array.getElem?_eq_getElem (show i<ops.size by omega));rw[e,xw,xx];exact ih (by omega)
abbrev Dn(listed:Array Bool)(m:Nat):Prop:=listed.getD m false=true
structure Inv(P:Program)(base:Nat->Prop)(ops:Array Oper)(ac:Nat->Act)(S:Nat->St)(Lf:Nat->List Touch)(ι0:am)(w0:World)(listed:Array Bool)(ι:am)(a:Act)(z:St)(A:Act)(w:World):Prop where
 size:listed.size=ops.size
 down:Down ops (Dn listed)
 mem:∀ x,Holds (Dn listed) (λm=>Wr (Lf m)) (λm=>val (S m).look) (val z.look) x
 tmp:∀ t,Holds (Dn listed) (Wt ops) (λm t=>(ac m).tmps[t]?) (λt=>a.tmps[t]?) t
 Qx:a.tmps.size=(ac 0).tmps.size
 H6:a.defers=(ac 0).defers
 act:cn ι a A
 rep:dA P base ι z.look w
 fresh:∀ j,j<ops.size->¬ Dn listed j->∀ id,4*(S j).next<=id->id<4*(S (j+1)).next->ι id=none
 ext:∀ id,(id<4*(S 0).next\/4*(S ops.size).next<=id)->ι id=ι0 id
 below:Out base w0 w
variable{base:Nat->Prop}{ι0 ι κ:am}{w0 w w1:World}{listed:Array Bool}{a A A1:Act}{z z1:St}
theorem Inv.lt(h:Inv P base ops ac S Lf ι0 w0 listed ι a z A w)(m:Nat)(hm:Dn listed m):m<ops.size:=by
 rcases Nat.lt_or_ge m ops.size with g | g
 ·exact g
 ·have hs:=h.size
  unfold Dn at hm;rw[Array.getD,dif_neg (by omega)]at hm;cases hm
theorem Ef{i:Nat}(hi:i<listed.size)(m:Nat):Dn (listed.setIfInBounds i true) m↔m=i\/Dn listed m:=by
 unfold Dn
 by_cases e:i=m
 ·subst e
  simp[hi]
 ·rw[getD_set_ne false e]
  exact⟨λh=>.inr h,λh=>h.resolve_left (λe'=>e e'.symm)⟩
theorem Inv.ord(h:Inv P base ops ac S Lf ι0 w0 listed ι a z A w){i:Nat}{o:Oper}(ho:ops[i]? = some o)(hn:¬ Dn listed i)(hall:∀ e ∈ o.after,Region.binds .any e=true->Dn listed e.on)
  {m:Nat} (hne:m≠i) (hb:((Region.before ops).getD (max m i) 0).testBit (min m i)=true):(m<i->Dn listed m)/\(i<m->¬ Dn listed m):=by
 constructor
 ·intro hlt
  rw[show max m i=i by omega,show min m i=m by omega]at hb;exact mN h.down (i+1) i m (by omega) hb (λo' ho' e he hbd=>by rw[ho]at ho';cases ho';exact hall e he hbd)
 ·intro hlt hm
  rw[show max m i=m by omega,show min m i=i by omega]at hb;exact hn (mN h.down (m+1) m i (by omega) hb (λo' ho' e he hbd=>h.down m o' ho' hm e he hbd))
theorem Inv.Eg(h:Inv P base ops ac S Lf ι0 w0 listed ι a z A w)(hr:Rn P call ops ac S Lf){i:Nat}{o:Oper}(ho:ops[i]? = some o)(hn:¬ Dn listed i)(hall:∀ e ∈ o.after,Region.binds .any e=true->Dn listed e.on)
  {t:Touch} (ht:t ∈ Lf i) {x:Loc} (hx:M5 t x) {m:Nat} (hm:m<ops.size) (hne:m≠i) (hw:Wr (Lf m) x):(m<i->Dn listed m)/\(i<m->¬ Dn listed m):=by
 have hi:i<ops.size:=(Array.getElem?_eq_some_iff.1 ho).1;obtain⟨c1,c2⟩:=zF ht hx hw;refine h.ord ho hn hall hne ?_;rcases Nat.lt_or_ge m i with g | g
 ·rw[show max m i=i by omega,show min m i=m by omega]
  exact hr.nc m i g hi c1
 ·rw[show max m i=m by omega,show min m i=i by omega]
  exact hr.nc i m (by omega) hm c2
theorem Inv.next(h:Inv P base ops ac S Lf ι0 w0 listed ι a z A w)(hr:Rn P call ops ac S Lf){i:Nat}{o:Oper}(ho:ops[i]? = some o)(hn:¬ Dn listed i)(hall:∀ e ∈ o.after,Region.binds .any e=true->Dn listed e.on){v:Value}
  (hv:ac (i+1)=(ac i).put o.dst v) (hz:∀ x,(Wr (Lf i) x->val z1.look x=val (S (i+1)).look x)/\(¬ Wr (Lf i) x->val z1.look x=val z.look x))
  (hA:cn κ (a.put o.dst v) A1) (hrep:dA P base κ z1.look w1) (hext:∀ id,(id<4*(S i).next\/4*(S (i+1)).next<=id)->κ id=ι id) (hb:Out base w w1) :
  Inv P base ops ac S Lf ι0 w0 (listed.setIfInBounds i true) κ (a.put o.dst v) z1 A1 w1:=by
 have hi:i<ops.size:=(Array.getElem?_eq_some_iff.1 ho).1;have hD:∀ m,Dn (listed.setIfInBounds i true) m↔m=i\/Dn listed m:=Ef (by rw[h.size];exact hi);refine⟨by simp[h.size],?_,?_,?_,by rw[xw];exact h.Qx,by rw[xx];exact h.H6,hA,hrep,?_,?_,h.below.trans hb⟩
 ·intro j o' ho' hj e he hbd
  rcases(hD j).1 hj with hj' | hj'
  ·subst hj'
   rw[ho]at ho';cases ho';exact(hD _).2 (.inr (hall e he hbd))
  ·exact(hD _).2 (.inr (h.down j o' ho' hj' e he hbd))
 ·intro x
  refine(h.mem x).step hD (hz x).1 (hz x).2 (λhw m Id hlt hm=>?_);obtain⟨t,ht,htx⟩:=Wr.Ot hw;exact(h.Eg hr ho hn hall ht htx (h.lt m hm) (by omega) Id).2 hlt hm
 ·intro t
  refine(h.tmp t).step hD (λhw=>?_) (λhw=>?_) (λhw m Id hlt hm=>?_)
  ·obtain⟨o',ho',hd⟩:=hw
   rw[ho]at ho';cases ho';rw[hv,hd];exact Ee (by rw[h.Qx,(hr.Qw i (by omega)).1])
  ·exact tH (λhd=>hw ⟨o,ho,hd⟩)
  ·obtain⟨o',ho',hd⟩:=hw
   rw[ho]at ho';cases ho';obtain⟨p,hp,M_⟩:=Id;exact(h.ord ho hn hall (by omega) (n6 hr.tms ho hp (.inl hd) M_ (by omega))).2 hlt hm
 ·intro j hj O_ id x y
  rw[hD,not_or]at O_;have hji:j≠i:=O_.1
  rw[hext id (by
   rcases Nat.lt_or_ge j i with g | g
   ·have:=hr.le (show j+1<=i by omega) (by omega);omega
   ·have:=hr.le (show i+1<=j by omega) (by omega);omega)]
  exact h.fresh j hj O_.2 id x y
 ·intro id hid
  have h1:=hr.le (Nat.zero_le i) (show i<=ops.size by omega);have h2:=hr.le (show i+1<=ops.size by omega) (Nat.le_refl _);rw[hext id (by omega)];exact h.ext id hid
theorem Inv.step(dh:dH P)(h:Inv P base ops ac S Lf ι0 w0 listed ι a z A w)(hr:Rn P call ops ac S Lf)(hc:nh P base call)(ro:Option Nat){Q:Exit->Act->World->Prop}{i:Nat}(hi:i ∈ Region.ready .any ops listed){K:Act->World->Prop}
  (hK:∀ ι' a' z' A' w',Inv P base ops ac S Lf ι0 w0 (listed.setIfInBounds i true) ι' a' z' A' w'->K A' w'):wpOpIn (FR ro) 0 P ops Q i K A w:=by
 obtain⟨hun,o,ho,hall⟩:=mem_ready.1 hi;have hlt:i<ops.size:=(Array.getElem?_eq_some_iff.1 ho).1;have hn:¬ Dn listed i:=by
  have hs:i<listed.size:=by rw[h.size];exact hlt
  unfold Dn;rw[Array.getD,dif_pos hs];rw[Array.getD,dif_pos hs]at hun;rw[hun];decide
 obtain⟨upd,Ot,v,hv,go⟩:=hr.known ho;have rd:∀ t ∈ Lf i,∀ x,M5 t x->val z.look x=val (S i).look x:=λt ht x hx =>
  (h.mem x).read (N:=ops.size) (by omega) h.lt hn (hr.hV x) (λm hm hne hw=>h.Eg hr ho hn hall ht hx hm hne hw)
 have wn:mL z (S i).next (S (i+1)).next:=by
  intro id x y;have nN:=hr.le (show i+1<=ops.size by omega) (Nat.le_refl _);have s0:(S i).look id=none:=hr.Ed i (by omega) id x (by omega);have e:val z.look (id,none)=val (S i).look (id,none):=by
   refine(h.mem (id,none)).read (N:=ops.size) (by omega) h.lt hn (hr.hV _) (λm hm hne hw=>?_);have old:Old (S m).next (S (m+1)).next id:=by
    intro hh;rcases Nat.lt_or_ge m i with g | g
    ·have:=hr.le (show m+1<=i by omega) (by omega);omega
    ·have:=hr.le (show i+1<=m by omega) (by omega);omega
   have there:(S m).look id≠none:=by
    obtain⟨t,ht,hid,_⟩:=hw;have:=(hr.known (Array.getElem?_eq_getElem hm)).2.1 t ht (by rw[hid];exact old);rw[hid]at this;exact this
   rcases Nat.lt_or_ge m i with g | g
   ·have:=hr.le (show m<=i by omega) (by omega)
    exact absurd (hr.Ed m (by omega) id (by omega) (by omega)) there
   ·
    have hex:Wr (Lf i) (id,none):=by
     by_cases hwi:Wr (Lf i) (id,none)
     ·exact hwi
     ·exfalso
      have Ig:∀ d,i+1+d<=m->(S (i+1+d)).look id=none:=by
       intro d
       induction d with
       | zero =>
        intro _;have:=hr.hV (id,none) i hlt hwi;exact dM (by rw[show kx ((S (i+1+0)).look id)=kx ((S i).look id) from Sum.inl.inj this,s0];rfl)
       | succ d Rm =>
        intro hd;have hd0:=Rm (by omega);have hnw:¬ Wr (Lf (i+1+d)) (id,none):=by
         rintro⟨t,ht,hid,_⟩;have hl:i+1+d<ops.size:=by omega
         have:=(hr.known (Array.getElem?_eq_getElem hl)).2.1 t ht (by
          intro hh;have:=hr.le (show i+1<=i+1+d by omega) (by omega)
          omega)
         rw[hid]at this;exact this hd0
        have:=hr.hV (id,none) (i+1+d) (by omega) hnw;exact dM (by rw[show kx ((S (i+1+(d+1))).look id)=kx ((S (i+1+d)).look id) from Sum.inl.inj this,hd0];rfl)
      have:=Ig (m-(i+1)) (by omega);rw[show i+1+(m-(i+1))=m by omega]at this;exact there this
    obtain⟨t,ht,htx⟩:=Wr.Ot hex;exact h.Eg hr ho hn hall ht htx hm hne hw
  exact dM (by rw[show kx (z.look id)=kx ((S i).look id) from Sum.inl.inj e,s0];rfl)
 have td:∀ t,(∀ m,m<ops.size->m≠i->Wt ops m t->(m<i->Dn listed m)/\(i<m->¬ Dn listed m))->a.tmps[t]? = (ac i).tmps[t]?:=λt hc =>
  (h.tmp t).read (N:=ops.size) (by omega) h.lt hn (hr.hT t) hc
 have ev:∀ x ∈ o.op.operands,a.eval x=(ac i).eval x:=by
  intro x hx;cases x with
  | tmp t =>
   have:=td t (λm hm hne hw=>by
    obtain⟨p,hp,M_⟩:=hw
    exact h.ord ho hn hall hne (n6 hr.tms ho hp (.inr hx) M_ hne))
   simp only[Act.eval,Array.getD_eq_getD_getElem?,this]
  | _=>rfl
 have wt:Region.wanted o (yielded ops a.tmps)=Region.wanted o (yielded ops (ac i).tmps):=by
  unfold Region.wanted;cases hg:o.guard with
  | none=>rfl
  | some gb =>
   obtain⟨g,b⟩:=gb;obtain⟨⟨e,he,hon,hbd⟩,d,hd⟩:=hr.guards i o g b ho hg;have Ro:Dn listed g:=by rw[← hon];exact hall e he hbd
   have hgi:g<i:=by rw[← hon];exact hr.edges i o ho e he hbd
   have hy:yielded ops a.tmps g=yielded ops (ac i).tmps g:=by
    unfold yielded;rw[hd];dsimp only[Option.bind]
    rw[td d (λm hm hne hw=>by
     obtain⟨p,hp,M_⟩:=hw;have:=zC hr.gd ho hg hd hp M_;subst this
     exact⟨λ_=>Ro,λhh=>by omega⟩)]
   dsimp only;rw[hy]
 have fr:d8 ι { z with next:=(S i).next } { z with next:=(S (i+1)).next }:=λid x y=>h.fresh i hlt hn id x y
 unfold wpOpIn;rw[ho];dsimp only;rw[qQ h.act];rcases go a { z with next:=(S i).next } wt ev rfl (λt ht _=>zD (H:=(S i).look) (H':=z.look) t (λx hx=>(rd t ht x hx).symm)) wn with ⟨hw,z1,hs,hz1,Rp⟩ | ⟨hw,rfl,e1,e2⟩
 ·rw[if_pos hw]
  refine(pS dh hr.loc hc ro hs (by rw[hz1];exact wn) h.act h.rep (by
   intro id x y;rw[hz1]at y
   exact h.fresh i hlt hn id x y) (λκ A1 w1 hA1 g=>hK κ (a.put o.dst v) z1 A1 w1 ?_))
  refine h.next hr ho hn hall hv Rp.val hA1 g.rep (λid hid=>g.ext id ?_) g.below
  rw[hz1];exact hid
 ·rw[if_neg (by rw[hw];decide)]
  refine⟨λf _=>A6 ro f,hK ι (a.put o.dst undef) z _ w (h.next hr ho hn hall hv (λx=>?_) (iq h.act (eV ι) _) h.rep (λ_ _=>rfl) (Out.refl _ _))⟩;rw[e2];refine⟨λhw=>?_,λ_=>rfl⟩;obtain⟨t,ht,_⟩:=Wr.Ot hw;cases ht
theorem Inv.all(h:Inv P base ops ac S Lf ι0 w0 listed ι a z A w)(hr:Rn P call ops ac S Lf)(hnil:Region.ready .any ops listed=[]):∀ j,j<ops.size->Dn listed j:=by
 have main:∀ n j,j<n->j<ops.size->Dn listed j:=by
  intro n
  induction n with
  | zero=>intro j h;omega
  | succ n ih =>
   intro j hjn hj
   by_cases hd:Dn listed j
   ·exact hd
   ·exfalso
    have ho:ops[j]? = some ops[j]:=Array.getElem?_eq_getElem hj;have:j ∈ Region.ready .any ops listed:=by
     rw[mem_ready];refine⟨?_,ops[j],ho,λe he hb=>?_⟩
     ·have hs:j<listed.size:=by rw[h.size];exact hj
      unfold Dn at hd;rw[Array.getD,dif_pos hs]at hd ⊢;simpa using hd
     ·have hlt:=hr.edges j _ ho e he hb
      exact ih e.on (by omega) (by omega)
    rw[hnil]at this;cases this
 exact λj hj=>main (j+1) j (by omega) hj
theorem Inv.done(h:Inv P base ops ac S Lf ι0 w0 listed ι a z A w)(hr:Rn P call ops ac S Lf)(hall:∀ j,j<ops.size->Dn listed j) :
  cn ι (ac ops.size) A/\Goes P base ι0 ι (S 0) (S ops.size) w0 w:=by
 have hn:¬ Dn listed ops.size:=λhh=>Nat.lt_irrefl _ (h.lt _ hh)
 have e1:z.look=(S ops.size).look:=xu (λx=>(h.mem x).read (N:=ops.size) (Nat.le_refl _) h.lt hn (hr.hV x) (λm hm _ _=>⟨λ_=>hall m hm,λhh=>by omega⟩));have e2:a=ac ops.size:=by
  have et:a.tmps=(ac ops.size).tmps:=by
   apply Array.ext_getElem?;intro t;exact(h.tmp t).read (N:=ops.size) (Nat.le_refl _) h.lt hn (hr.hT t) (λm hm _ _=>⟨λ_=>hall m hm,λhh=>by omega⟩)
  have ed:a.defers=(ac ops.size).defers:=by rw[h.H6,(hr.Qw _ (Nat.le_refl _)).2]
  cases a;cases hac:ac ops.size;rw[hac]at et ed;simp only at et ed;rw[et,ed]
 refine⟨e2▸h.act,?_,h.ext,h.below⟩;rw[← e1];exact h.rep
theorem Inv.any(dh:dH P)(hr:Rn P call ops ac S Lf)(hc:nh P base call)(ro:Option Nat){Q:Exit->Act->World->Prop}(hQ:∀ κ A1 w1,cn κ (ac ops.size) A1->Goes P base ι0 κ (S 0) (S ops.size) w0 w1->Q .normal A1 w1) :
  ∀ (fuel:Nat) (rest:List Nat) (listed:Array Bool) (ι:am) (a:Act) (z:St) (A:Act) (w:World),Inv P base ops ac S Lf ι0 w0 listed ι a z A w->rest.length<=fuel->(∀ j,j<ops.size->¬ Dn listed j->j ∈ rest)->wpAnyIn (FR ro) 0 P .any ops Q fuel listed A w:=by
 intro fuel
 induction fuel with
 | zero =>
  intro rest listed ι a z A w h hl hrest;have hnil:rest=[]:=List.length_eq_zero_iff.1 (by omega);have hall:∀ j,j<ops.size->Dn listed j:=by
   intro j hj
   by_cases hd:Dn listed j
   ·exact hd
   ·have:=hrest j hj hd
    rw[hnil]at this;cases this
  obtain⟨h1,h2⟩:=h.done hr hall;refine⟨?_,hQ _ _ _ h1 h2⟩;cases hrd:Region.ready .any ops listed with
  | nil=>rfl
  | cons j r =>
   exfalso;have hj:j ∈ Region.ready .any ops listed:=by rw[hrd];exact List.mem_cons_self ..
   obtain⟨hun,o,ho,_⟩:=mem_ready.1 hj;have hlt:j<ops.size:=(Array.getElem?_eq_some_iff.1 ho).1;have hd:=hall j hlt;have hs:j<listed.size:=by rw[h.size];exact hlt
   unfold Dn at hd;rw[Array.getD,dif_pos hs]at hd hun;rw[hun]at hd;cases hd
 | succ fuel ih =>
  intro rest listed ι a z A w h hl hrest;refine⟨λhnil=>?_,λi hi=>?_⟩
  ·obtain⟨h1,h2⟩:=h.done hr (h.all hr hnil)
   exact hQ _ _ _ h1 h2
  ·refine Inv.step dh h hr hc ro hi (λι' a' z' A' w' h'=>?_)
   obtain⟨hun,o,ho,_⟩:=mem_ready.1 hi;have hlt:i<ops.size:=(Array.getElem?_eq_some_iff.1 ho).1;have hs:i<listed.size:=by rw[h.size];exact hlt
   have hir:i ∈ rest:=hrest i hlt (by
    unfold Dn;rw[Array.getD,dif_pos hs]at hun ⊢;rw[hun]
    decide)
   refine ih (rest.erase i) _ ι' a' z' A' w' h' ?_ (λj hj hd=>?_)
   ·have:=List.length_erase_of_mem hir
    omega
   ·rw[Ef hs,not_or]at hd
    exact(List.mem_erase_of_ne hd.1).2 (hrest j hj hd.2)
end
theorem vj{P:Program}{base:Nat->Prop}(dh:dH P)(hm:P.follows .mixedOrders=true){call:Caller}(hcl:dU call)(hc:nh P base call)(ro:Option Nat){ops:Array Oper}{draw:Bool}(hok:Region.ok P.types ops draw=true){a a1:Act}{s s1:St}
  (h:fj P call ops draw a s=some (a1,s1)) (hwin:mL s s.next s1.next) (id:Nat) {ι:am} {A:Act} {w:World} (hA:cn ι a A) (hr:dA P base ι s.look w) (hfr:d8 ι s s1) {Q:Exit->Act->World->Prop}
  (hQ:∀ κ A1 w1,cn κ a1 A1->Goes P base ι κ s s1 w w1->Q .normal A1 w1):(Code.region id ops draw).wpIn (FR ro) 0 P Q A w:=by
 cases draw with
 | false =>
  have h':lA P call ops ops.toList a s=some (a1,s1):=by simpa[fj] using h
  exact wpIn_region_list (xv dh hcl hc ro ops _ _ _ _ _ h' hwin ι A w hA hr hfr Q hQ)
 | true =>
  simp only[fj,if_true]at h
  split at h
  ·rename_i a2 s2 ls hl
   split at h
   ·rename_i hch
    cases h;rw[Bool.and_eq_true]at hch;obtain⟨ac,S,Lf,e1,e2,e3,e4,e5,e6⟩:=xr _ _ _ _ _ _ _ hl;rw[List.append_nil]at e5;rw[Array.length_toList]at e3 e4 e5;obtain⟨k1,k2,k3⟩:=D9 hok
    have rn:Rn P call ops ac S Lf:={
     loc:=hcl
     Ou:=λi o hi=>e6 i o (by rw[Array.getElem?_toList];exact hi)
     win:=by rw[e2,e4];exact hwin
     edges:=k1
     guards:=k2
     tms:=k3
     gd:=hch.1
     nc:=λi m him hmm hcc=>vf (by rw[← e5];exact hch.2) him hmm hcc }
    refine wpIn_region_any hm ?_;have hno:∀ m,¬ Dn (Array.replicate ops.size false) m:=by
     intro m hm;unfold Dn at hm;rw[Array.getD]at hm
     split at hm
     ·simp at hm
     ·cases hm
    refine Inv.any (ι0:=ι) (w0:=w) (base:=base) dh rn hc ro ?_ ops.size (List.range ops.size) _ ι a s A _ ?_ (by simp) (λj hj _=>List.mem_range.2 hj)
    ·intro κ A1 w1 h1 h2
     rw[e3]at h1;rw[e2,e4]at h2;exact hQ κ A1 w1 h1 h2
    ·refine⟨by simp,λj o _ hj=>absurd hj (hno j),λx=>Holds.start hno _ x ?_,λt=>Holds.start hno _ t ?_,by rw[e1],by rw[e1],hA,⟨hr.inj,hr.there,hr.sz,hr.J4 (λ_ _ _ h _=>h) (jf.refl _) rfl (Nat.le_refl _) (λ_ _ _=>rfl) (λx ox bb hx hbb=>.inl ⟨x,ox,hx,hbb⟩)⟩,?_,λ_ _=>rfl,(Out.refl base w).drew⟩
     ·rw[e2]
     ·rw[e1]
     ·intro j hj _ id x y
      have n1:=rn.le (Nat.zero_le j) (show j<=ops.size by omega);have n2:=rn.le (show j+1<=ops.size by omega) (Nat.le_refl _);rw[e2]at n1;rw[e4]at n2;exact hfr id (by omega) (by omega)
   ·cases h
  ·cases h
end Go.Ev
