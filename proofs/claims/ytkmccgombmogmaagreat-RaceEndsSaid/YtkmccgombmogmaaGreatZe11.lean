/- Part of a proof: see the last text. -/
import Derived.Test.YtkmccgombmogmaaGreatZe10
set_option linter.unusedSectionVars false
set_option linter.unusedSimpArgs false
set_option linter.unusedVariables false
namespace Go.Ev
open Go.RowKit
structure aG where
 p:am->(Nat->Prop)->World->Prop
 keep:∀ ι F w w',(∀ j,F j->w'.heap[j]? = w.heap[j]?)->p ι F w->p ι F w'
 mono:∀ ι κ F w,jf ι κ->p ι F w->p κ F w
noncomputable def dV:Op->Option (List Nat)
 | .load t _=>some [1,t]
 | .store t _ _=>some [2,t]
 | .indexAddr t _ _=>some [3,t]
 | .slice t _ lo hi mx=>some [4,t,(match lo with | some _=>1 | none=>0),(match hi with | some _=>1 | none=>0),(match mx with | some _=>1 | none=>0)]
 | .lookup t _ _ ok=>some [5,t,(match ok with | true=>1 | false=>0)]
 | .mapUpdate t _ _ _=>some [6,t]
 | .fieldAddr t _ f=>some [7,t,f]
 | .index t _ _=>some [8,t]
 | .nilCheck _=>some [9]
 | .call { callee:=.builtin .len,args:=⟨[_]⟩,argTypes:=⟨[t]⟩ }=>some [10,t]
 | .call { callee:=.builtin .append,args:=⟨[_,_]⟩,argTypes:=⟨[t,u]⟩ }=>some [11,t,u]
 | .call { callee:=.builtin .delete,args:=⟨[_,_]⟩,argTypes:=⟨[t,u]⟩ }=>some [12,t,u]
 | .call { callee:=.builtin .min,args:=⟨[_,_]⟩,argTypes:=⟨[t,u]⟩ }=>some [16,t,u]
 | .call { callee:=.builtin .max,args:=⟨[_,_]⟩,argTypes:=⟨[t,u]⟩ }=>some [17,t,u]
 | .range t _=>some [13,t]
 | .next _ b=>some [14,(match b with | true=>1 | false=>0)]
 | .entry _=>some [15]
 | .makeMap t none=>some [18,t]
 | .makeSlice t _ _=>some [19,t]
 | .binOp .eql t _ _ _=>some [20,t]
 | .binOp .neq t _ _ _=>some [21,t]
 | .mapEntry t _ _=>some [22,t]
 | .entryStore t _ _ _=>some [23,t]
 | .buildSlice t 1 ⟨[(0,_)]⟩=>some [24,t]
 | _=>none
noncomputable def MB:List Nat->List Nat->Bool
 | [],[]=>true
 | x::l,y::m=>Nat.beq x y&&MB l m
 | _,_=>false
theorem zU:∀ {l m:List Nat},MB l m=true->l=m:=by
 intro l
 induction l with
 | nil=>intro m h;cases m with | nil=>rfl | cons y m=>cases h
 | cons x l ih =>
  intro m h;cases m with
  | nil=>cases h
  | cons y m =>
   have h':(Nat.beq x y&&MB l m)=true:=h;rw[Bool.and_eq_true]at h';rw[Nat.eq_of_beq_eq_true h'.1,ih h'.2]
structure qg where
 key:List Nat
 vals:List Value
 src:Option (Nat×Nat×List Value)
 g:Nat
 d:Option Nat
 r:Value
 ng:Option Nat
structure mP where
 f:FuncId
 args:List Value
 g:Nat
 d:Option Nat
 r:Value
 ng:Option Nat
noncomputable def Pp:Option Nat->Nat->Bool
 | none,_=>true
 | some x,d=>Nat.beq x d
theorem ES{x:Option Nat}{d:Nat}(h:Pp x d=true):∀ y,x=some y->y=d:=by
 intro y e;subst e;exact Nat.eq_of_beq_eq_true h
noncomputable def Nt(c:List Value):Option (Nat×Nat×List Value)->Bool
 | none=>false
 | some (_,_,l)=>qf (zT 4) c l
noncomputable def Nu:Bool->List Value->Option (Nat×Nat×List Value)->Bool
 | true,c,x=>Nt c x
 | false,_,none=>true
 | false,_,some _=>false
noncomputable def xN(src:Bool)(key:List Nat)(vals c:List Value)(g d:Nat):List qg->Option (Value×Option Nat)
 | []=>none
 | q::l=>if MB key q.key&&(qf (zT 4) (vals.take q.vals.length) q.vals&&(Nat.beq g q.g&&(Pp q.d d&&Nu src c q.src))) then some (q.r,q.ng) else xN src key vals c g d l
noncomputable def Lw(sz j:Nat):Bool:=Nat.beq j 7&&Nat.beq sz 0
noncomputable def ET:Option (Nat×Nat×List Value)->Bool
 | none=>false
 | some (sz,j,_)=>Lw sz j
noncomputable def Bu(rows:List qg)(key:List Nat)(vals:List Value):List qg->Option p_
 | []=>none
 | q::l=>if MB key q.key&&qf (zT 4) (vals.take q.vals.length) q.vals then (match q.src with | none=>some (.now (λg d=>xN false key vals [] g d rows)) | some (sz,j,_)=>@Bool.rec (λ_=>Option p_) (some (.src sz j (λc g d=>xN true key vals c g d (rows.filter (λr=>match r.src with | some (sz',j',_)=>Nat.beq sz' sz&&Nat.beq j' j | none=>false))))) (some (.stay q.r)) (Lw sz j)) else Bu rows key vals l
noncomputable def Pq:List Value->Bool
 | .complex _ _ _::_=>true
 | _::.complex _ _ _::_=>true
 | _=>false
noncomputable def Pr:Op->Bool
 | .makeMap _ _=>true
 | .makeSlice _ _ _=>true
 | .call { callee:=.builtin .append,args:=⟨[_,_]⟩,argTypes:=⟨[_,_]⟩ }=>true
 | _=>false
noncomputable def EU(rows:List qg)(op:Op)(vals:List Value):Option p_ :=
 @Bool.rec (λ_=>Option p_) none (match dV op with | some k=>Bu rows k vals rows | none=>none) (Pr op||Pq vals)
noncomputable def ru(f:FuncId)(args:List Value)(g d:Nat):List mP->Option (Value×Option Nat)
 | []=>none
 | q::l=>if Nat.beq f q.f&&(qf (zT 4) args q.args&&(Nat.beq g q.g&&Pp q.d d)) then some (q.r,q.ng) else ru f args g d l
noncomputable def rx(rows:List mP)(f:FuncId)(args:List Value):List mP->Option GQ
 | []=>none
 | q::l=>if Nat.beq f q.f&&qf (zT 4) args q.args then some (λg d=>ru f args g d rows) else rx rows f args l
theorem xO{src:Bool}{key:List Nat}{vals c:List Value}{g d:Nat}{r:Value}{ng:Option Nat} : ∀ {l:List qg},xN src key vals c g d l=some (r,ng)->
  ∃ q ∈ l,q.key=key/\q.vals=vals.take q.vals.length/\q.g=g/\(∀ y,q.d=some y->y=d)/\q.r=r/\q.ng=ng/\(match src with | true=>∃ sz j,q.src=some (sz,j,c) | false=>q.src=none):=by
 intro l
 induction l with
 | nil=>intro h;cases h
 | cons q l ih =>
  intro h;unfold xN at h
  split at h
  ·rename_i hc
   simp only[Bool.and_eq_true]at hc;obtain⟨h1,h2,h3,h4,h5⟩:=hc;cases h;refine⟨q,List.mem_cons_self ..,(zU h1).symm,(kG (nl 4) h2).symm,(Nat.eq_of_beq_eq_true h3).symm,ES h4,rfl,rfl,?_⟩;cases src with
   | true =>
    cases hs:q.src with
    | none=>rw[hs]at h5;cases h5
    | some x =>
     obtain⟨sz,j,l0⟩:=x;rw[hs]at h5;exact⟨sz,j,by rw[kG (nl 4) (show qf (zT 4) c l0=true from h5)]⟩
   | false =>
    cases hs:q.src with
    | none=>rfl
    | some x=>rw[hs]at h5;cases h5
  ·obtain⟨q',h1,h2⟩:=ih h
   exact⟨q',List.mem_cons_of_mem _ h1,h2⟩
theorem CM{f:FuncId}{args:List Value}{g d:Nat}{r:Value}{ng:Option Nat} : ∀ {l:List mP},ru f args g d l=some (r,ng)->
  ∃ q ∈ l,q.f=f/\q.args=args/\q.g=g/\(∀ y,q.d=some y->y=d)/\q.r=r/\q.ng=ng:=by
 intro l
 induction l with
 | nil=>intro h;cases h
 | cons q l ih =>
  intro h;unfold ru at h
  split at h
  ·rename_i hc
   simp only[Bool.and_eq_true]at hc;obtain⟨h1,h2,h3,h4⟩:=hc;cases h;exact⟨q,List.mem_cons_self ..,(Nat.eq_of_beq_eq_true h1).symm,(kG (nl 4) h2).symm,(Nat.eq_of_beq_eq_true h3).symm,ES h4,rfl,rfl⟩
  ·obtain⟨q',h1,h2⟩:=ih h
   exact⟨q',List.mem_cons_of_mem _ h1,h2⟩
structure Kn where
 val:Nat->Value
 leaf:∀ n,aV (val n)=true
 bs:List jn
 us:List jo
 cs:List jq
 ks:List kZ
 hb:∀ q ∈ bs,lK val q
 hu:∀ q ∈ us,lL val q
 hc:∀ q ∈ cs,k_ val q
 gs:List aG
 ops:List qg
 cls:List mP
@[reducible] noncomputable def Kn.sig(k:Kn):bg where
 val:=k.val
 leaf:=k.leaf
 bin:=λop x y=>Bq op x y k.bs
 zf:=λop x y r h=>by
  obtain⟨h1,h2,h3,h4⟩:=EM h;exact⟨h2,h3,h4,k.hb _ h1⟩
 Oi:=λop x=>Br op x k.us
 zg:=λop x r h=>by
  obtain⟨h1,h2,h3⟩:=EN h;exact⟨h2,h3,k.hu _ h1⟩
 Oj:=λkd x=>Bs kd x k.cs
 zh:=λkd x r h=>by
  obtain⟨h1,h2,h3⟩:=EO h;exact⟨h2,h3,k.hc _ h1⟩
 H3:=λf l=>Bt f l k.ks
 AY:=λf l r h=>(xM h).2.2
 GR:=λg ι F w=>∃ a,k.gs[g]? = some a/\a.p ι F w
 uB:=λg ι F w w' h ⟨a,h1,h2⟩=>⟨a,h1,a.keep ι F w w' h h2⟩
 uC:=λg ι κ F w h ⟨a,h1,h2⟩=>⟨a,h1,a.mono ι κ F w h h2⟩
 HZ:=λop vals=>EU k.ops op vals
 wF:=λf args=>rx k.cls f args k.cls
def Ps(k:Kn)(P:Program)(q:qg):Prop :=
 letI:bg:=k.sig
 ∀ (o:Oper),dV o.op=some q.key->∀ (ev:Operand->Value) (ι:am) (F:Nat->Prop) (w:World) (d:Nat),dL ι q.vals ((o.op.operands.toList.map ev).take q.vals.length)->
  (∀ sz j c,q.src=some (sz,j,c)->∃ (y:Value) (c':Array Value) (m:Nat),(o.op.operands.toList.map ev)[j]? = some y/\dL ι c c'.toList/\c.length=m*sz/\c.all oneCell=true/\(∀ w':World,w'.heap=w.heap->(Builtin.firstCells sz m y).run P w'=.ok c' w')/\(∀ w':World,(Builtin.lenOf y).run P w'=.ok m w'))->
  (∃ a,k.gs[q.g]? = some a/\a.p ι F w)->(∀ j,F j->j<w.heap.size)->(ι d=none\/q.ng=none)->(∀ y,q.d=some y->y=d)->
  ∃ n v' w',(execOp ev o).run P w=.ok n w'/\(n=.value v'\/n=.skip/\v'=undef)/\vi ι d F w q.r q.ng v' w'
def aZ(k:Kn)(P:Program)(q:qg):Prop:=match ET q.src with
 | true=>∀ g,Ps k P ⟨q.key,q.vals,none,g,none,q.r,none⟩
 | false=>Ps k P q
def fm(k:Kn)(P:Program)(q:mP):Prop :=
 letI:bg:=k.sig
 ∀ (ι:am) (args':Array Value) (F:Nat->Prop) (w:World) (d:Nat),dL ι q.args args'.toList->
  (∃ a,k.gs[q.g]? = some a/\a.p ι F w)->(∀ j,F j->j<w.heap.size)->(ι d=none\/q.ng=none)->(∀ y,q.d=some y->y=d)->
  Calls P q.f args' w λe w'=>∃ v',e=.returned v'/\vi ι d F w q.r q.ng v' w'
theorem vy{op:Op}{k:List Nat}(h:dV op=some k):∀ c,op≠.defer c:=by
 intro c e;subst e;cases h
theorem EV{rows:List qg}{key:List Nat}{vals:List Value}{rq:p_} : ∀ {l:List qg},(∀ q ∈ l,q ∈ rows)->Bu rows key vals l=some rq->∀ c g d r ng,rq.q c g d=some (r,ng)->
  ∃ q ∈ rows,q.key=key/\q.vals=vals.take q.vals.length/\((ET q.src=true/\q.r=r/\ng=none)\/(ET q.src=false/\q.g=g/\(∀ y,q.d=some y->y=d)/\q.r=r/\q.ng=ng/\(∀ sz j c',q.src=some (sz,j,c')->c'=c/\∃ q',rq=.src sz j q'))):=by
 intro l
 induction l with
 | nil=>intro _ h;cases h
 | cons q0 l ih =>
  intro hl h;unfold Bu at h
  split at h
  ·rename_i hc
   split at h
   ·cases h
    intro c g d r ng hx;obtain⟨q,h1,h2,h3,h4,h5,h6,h7,h8⟩:=xO hx;exact⟨q,h1,h2,h3,.inr ⟨by rw[h8];rfl,h4,h5,h6,h7,λsz j c' e=>by rw[h8]at e;cases e⟩⟩
   ·rename_i sz j c0 e0
    cases hst:Lw sz j with
    | true =>
     rw[hst]at h;cases h;intro c g d r ng hx;cases hx;rw[Bool.and_eq_true]at hc;exact⟨q0,hl _ List.mem_cons_self,(zU hc.1).symm,(kG (nl 4) hc.2).symm,.inl ⟨by rw[e0];exact hst,rfl,rfl⟩⟩
    | false =>
     rw[hst]at h;cases h;intro c g d r ng hx;obtain⟨q,h1,h2,h3,h4,h5,h6,h7,S0,j2,h8⟩:=xO hx;obtain⟨m1,m2⟩:=List.mem_filter.1 h1;rw[h8]at m2;simp only[Bool.and_eq_true]at m2;have e1:=Nat.eq_of_beq_eq_true m2.1;have e2:=Nat.eq_of_beq_eq_true m2.2;subst e1 e2;refine⟨q,m1,h2,h3,.inr ⟨by rw[h8];exact hst,h4,h5,h6,h7,λsz j c' e=>?_⟩⟩;rw[h8]at e;cases e;exact⟨rfl,_,rfl⟩
  ·exact ih (λq hq=>hl q (List.mem_cons_of_mem _ hq)) h
theorem CN{rows:List mP}{f:FuncId}{args:List Value}{q:GQ} : ∀ {l:List mP},rx rows f args l=some q->q=λg d=>ru f args g d rows:=by
 intro l
 induction l with
 | nil=>intro h;cases h
 | cons q0 l ih =>
  intro h;unfold rx at h
  split at h
  ·cases h;rfl
  ·exact ih h
theorem Kn.ok(k:Kn){P:Program}(hk:∀ q ∈ k.ks,Nr P k.val q)(ho:∀ q ∈ k.ops,aZ k P q)(hl:∀ q ∈ k.cls,fm k P q):@dH k.sig P:=by
 letI:bg:=k.sig;refine⟨?_,?_,?_⟩
 ·intro f args r h ι args' w ha
  obtain⟨h1,h2,h3⟩:=xM h;have he:args'=(args.toList.map (Pj k.val)).toArray:=by
   apply Array.ext (by simp[ha.1]);intro i g1 g2;have g3:i<args.size:=by rw[ha.1];exact g1
   have:=IE (ha.2 i _ _ (Array.getElem?_eq_getElem g3) (Array.getElem?_eq_getElem g1)) (h2 _ (by rw[Array.mem_toList_iff];exact Array.getElem_mem g3));rw[this];simp;rfl
  rw[he];refine(hk _ h1 w).mono ?_;rintro e w' ⟨rfl,hb'⟩;exact⟨_,rfl,ql h3,hb'⟩
 ·intro op vals rq h
  have h':EU k.ops op vals=some rq:=h;unfold EU at h';obtain⟨_,h2⟩:=cH h'
  split at h2
  case h_2=>cases h2
  rename_i key hkey;refine⟨vy hkey,λc g d r ng hx o ev ι F w hop hv hsrc hg hF hd=>?_⟩;obtain⟨q,m1,e1,e2,hor⟩:=EV (λ_ h=>h) h2 c g d r ng hx;subst hop;have hv0:∀ m,dL ι (vals.take m) ((o.op.operands.toList.map ev).take m):=by
   intro m;refine⟨by rw[List.length_take,List.length_take,hv.1],λj x y h1 h2=>?_⟩;rw[List.getElem?_take]at h1 h2
   split at h1
   ·rw[if_pos (by assumption)]at h2
    exact hv.2 j x y h1 h2
   ·cases h1
  have hv':=hv0 q.vals.length;rw[← e2]at hv';have hq:=ho q m1;unfold aZ at hq;rcases hor with ⟨s1,rfl,rfl⟩ | ⟨s1,rfl,e4,rfl,rfl,e7⟩
  ·rw[s1]at hq
   exact hq g o (by rw[hkey,e1]) ev ι F w d hv' (λsz j c' e=>by cases e) hg hF hd (λy e=>by cases e)
  ·rw[s1]at hq
   exact hq o (by rw[hkey,e1]) ev ι F w d hv' (λsz j c' e=>by
    obtain⟨rfl,q',hq'⟩:=e7 sz j c' e
    exact hsrc sz j q' hq') hg hF hd e4
 ·intro f args q h g d r ng hx ι args' F w ha hg hF hd
  have h':rx k.cls f args.toList k.cls=some q:=h;rw[CN h']at hx;obtain⟨q',m1,e1,e2,e3,e4,e5,e6⟩:=CM hx;subst e1 e3 e5 e6;exact hl q' m1 ι args' F w d (by rw[e2];exact ha.list) hg hF hd e4
theorem IF{op:Op}{t:TypeId}(h:dV op=some [1,t]):∃ x,op=.load t x:=by
 unfold dV at h
 split at h<;>first | (cases h;done) | skip
 all_goals first | (cases h;exact⟨_,rfl⟩) | (simp at h)
theorem EW{op:Op}{t:TypeId}(h:dV op=some [2,t]):∃ x y,op=.store t x y:=by
 unfold dV at h
 split at h<;>first | (cases h;done) | skip
 all_goals first | (cases h;exact⟨_,_,rfl⟩) | (simp at h)
theorem EX{op:Op}{t:TypeId}(h:dV op=some [3,t]):∃ x y,op=.indexAddr t x y:=by
 unfold dV at h
 split at h<;>first | (cases h;done) | skip
 all_goals first | (cases h;exact⟨_,_,rfl⟩) | (simp at h)
theorem xP{op:Op}{t:TypeId}(h:dV op=some [4,t,1,0,0]):∃ x lo,op=.slice t x (some lo) none none:=by
 unfold dV at h
 split at h<;>first | (cases h;done) | skip
 all_goals first | (simp at h;done) | skip
 rename_i t' x lo hi mx;cases lo<;>cases hi<;>cases mx<;>simp at h
 subst h;exact⟨_,_,rfl⟩
theorem Lx{op:Op}{t:TypeId}(h:dV op=some [10,t]):∃ x,op=.call { callee:=.builtin .len,args:=#[x],argTypes:=#[t] }:=by
 unfold dV at h
 split at h<;>first | (cases h;done) | skip
 all_goals first | (cases h;exact⟨_,rfl⟩) | (simp at h)
theorem CO{op:Op}{t u:TypeId}(h:dV op=some [11,t,u]):∃ x y,op=.call { callee:=.builtin .append,args:=#[x,y],argTypes:=#[t,u] }:=by
 unfold dV at h
 split at h<;>first | (cases h;done) | skip
 all_goals first | (cases h;exact⟨_,_,rfl⟩) | (simp at h)
section
variable[bg]
def ie(P:Program)(m:Sem Value)(ι:am)(d:Nat)(F:Nat->Prop)(w:World)(r:Value)(ng:Option Nat):Prop:=∃ v' w',m.run P w=.ok v' w'/\vi ι d F w r ng v' w'
def EY(P:Program)(m:Sem Unit)(ι:am)(d:Nat)(F:Nat->Prop)(w:World)(ng:Option Nat):Prop:=∃ w',m.run P w=.ok () w'/\vi ι d F w undef ng undef w'
end
structure Ask(k:Kn)(g:Nat)(d0:Option Nat)(ng:Option Nat)(ι:am)(F:Nat->Prop)(w:World)(d:Nat):Prop where
 st:∃ a,k.gs[g]? = some a/\a.p ι F w
 lt:∀ j,F j->j<w.heap.size
 fresh:ι d=none\/ng=none
 name:∀ y,d0=some y->y=d
theorem zV{ι:am}[bg]{x:Value}{l:List Value}(h:dL ι [x] l):∃ x',l=[x']/\ao ι x x':=by
 match l,h with
 | [],h=>exact absurd h.1 (by simp)
 | [x'],h=>exact⟨x',rfl,h.2 0 x x' rfl rfl⟩
 | _::_::_,h=>exact absurd h.1 (by simp)
theorem vz{ι:am}[bg]{x y:Value}{l:List Value}(h:dL ι [x,y] l):∃ x' y',l=[x',y']/\ao ι x x'/\ao ι y y':=by
 match l,h with
 | [],h=>exact absurd h.1 (by simp)
 | [_],h=>exact absurd h.1 (by simp)
 | [x',y'],h=>exact⟨x',y',rfl,h.2 0 x x' rfl rfl,h.2 1 y y' rfl rfl⟩
 | _::_::_::_,h=>exact absurd h.1 (by simp)
variable(k:Kn){P:Program}{g:Nat}{d0 ng:Option Nat}{r:Value}
theorem aZ.load{t:TypeId}{x:Value}(h:letI:bg:=k.sig;∀ ι F w d x',Ask k g d0 ng ι F w d->ao ι x x'->ie P (Instr.loadAt t x') ι d F w r ng):aZ k P ⟨[1,t],[x],none,g,d0,r,ng⟩:=by
 letI:bg:=k.sig;intro o hk ev ι F w d hv _ h1 h2 h3 h4;obtain⟨a,ho⟩:=IF hk;rw[ho]at hv;obtain⟨x',e,hx⟩:=zV hv;simp[Op.operands]at e;subst e;obtain⟨v',w',r1,r2⟩:=h ι F w d _ ⟨h1,h2,h3,h4⟩ hx;refine⟨.value v',v',w',?_,.inl rfl,r2⟩;unfold execOp;rw[ho];simp only;rw[Sem.run_bind,r1];rfl
theorem aZ.store{t:TypeId}{x y:Value}(h:letI:bg:=k.sig;∀ ι F w d x' y',Ask k g d0 ng ι F w d->ao ι x x'->ao ι y y'->EY P (Instr.storeAt t x' y') ι d F w ng):aZ k P ⟨[2,t],[x,y],none,g,d0,undef,ng⟩:=by
 letI:bg:=k.sig;intro o hk ev ι F w d hv _ h1 h2 h3 h4;obtain⟨a,b,ho⟩:=EW hk;rw[ho]at hv;obtain⟨x',y',e,hx,hy⟩:=vz hv;simp[Op.operands]at e;obtain⟨rfl,rfl⟩:=e;obtain⟨w',r1,r2⟩:=h ι F w d _ _ ⟨h1,h2,h3,h4⟩ hx hy;refine⟨.skip,undef,w',?_,.inr ⟨rfl,rfl⟩,r2⟩;unfold execOp;rw[ho];simp only;rw[Sem.run_bind,r1];rfl
theorem aZ.index{t:TypeId}{x y:Value}(h:letI:bg:=k.sig;∀ ι F w d x' y',Ask k g d0 ng ι F w d->ao ι x x'->ao ι y y'->ie P (Instr.indexAt t x' y') ι d F w r ng):aZ k P ⟨[3,t],[x,y],none,g,d0,r,ng⟩:=by
 letI:bg:=k.sig;intro o hk ev ι F w d hv _ h1 h2 h3 h4;obtain⟨a,b,ho⟩:=EX hk;rw[ho]at hv;obtain⟨x',y',e,hx,hy⟩:=vz hv;simp[Op.operands]at e;obtain⟨rfl,rfl⟩:=e;obtain⟨v',w',r1,r2⟩:=h ι F w d _ _ ⟨h1,h2,h3,h4⟩ hx hy;refine⟨.value v',v',w',?_,.inl rfl,r2⟩;unfold execOp;rw[ho];simp only;rw[Sem.run_bind,r1];rfl
theorem aZ.vA{t:TypeId}{x y:Value}(h:letI:bg:=k.sig;∀ ι F w d x' y',Ask k g d0 ng ι F w d->ao ι x x'->ao ι y y'->ie P (Instr.sliceAt t x' (some y') none none) ι d F w r ng):aZ k P ⟨[4,t,1,0,0],[x,y],none,g,d0,r,ng⟩:=by
 letI:bg:=k.sig;intro o hk ev ι F w d hv _ h1 h2 h3 h4;obtain⟨a,b,ho⟩:=xP hk;rw[ho]at hv;obtain⟨x',y',e,hx,hy⟩:=vz hv;simp[Op.operands]at e;obtain⟨rfl,rfl⟩:=e;obtain⟨v',w',r1,r2⟩:=h ι F w d _ _ ⟨h1,h2,h3,h4⟩ hx hy;refine⟨.value v',v',w',?_,.inl rfl,r2⟩;unfold execOp;rw[ho];simp only[Option.map];rw[Sem.run_bind,r1];rfl
theorem fS{ev:Operand->Value}{o:Oper}{c:Call}{b:Builtin}(ho:o.op=.call c)(hc:c.callee=.builtin b):∃ cs,execOp ev o=builtin b c.argTypes o.type cs (c.args.map ev):=by
 unfold execOp;rw[ho];simp only;unfold resolve;rw[hc];exact⟨_,rfl⟩
theorem aZ.len{t:TypeId}{x:Value}(h:letI:bg:=k.sig;∀ ι F w d x' ty,Ask k g d0 ng ι F w d->ao ι x x'->ie P (Builtin.len_ #[t] ty #[x']) ι d F w r ng):aZ k P ⟨[10,t],[x],none,g,d0,r,ng⟩:=by
  letI:bg:=k.sig;intro o hk ev ι F w d hv _ h1 h2 h3 h4;obtain⟨a,ho⟩:=Lx hk;obtain⟨cs,he⟩:=fS (ev:=ev) ho rfl;rw[ho]at hv;obtain⟨x',e,hx⟩:=zV hv;simp[Op.operands,Call.operands]at e;subst e;obtain⟨v',w',r1,r2⟩:=h ι F w d _ o.type ⟨h1,h2,h3,h4⟩ hx;refine⟨.value v',v',w',?_,.inl rfl,r2⟩;rw[he];have hb:builtin .len #[t] o.type cs #[ev a]=(do pure (Next.value (← Builtin.len_ #[t] o.type #[ev a]))):=rfl;simp only[List.map_toArray,List.map_cons,List.map_nil];rw[hb];rw[Sem.run_bind,r1];rfl
theorem aZ.append{t u:TypeId}{x:Value}{sz:Nat}{c:List Value}(h:letI:bg:=k.sig;∀ ι F w d x' y' c' m ty,Ask k g d0 ng ι F w d->ao ι x x'->dL ι c c'->c.length=m*sz->c.all oneCell=true->
      (∀ w':World,w'.heap=w.heap->(Builtin.firstCells sz m y').run P w'=.ok c'.toArray w')->(∀ w':World,(Builtin.lenOf y').run P w'=.ok m w')->ie P (Builtin.append_ #[t,u] ty #[x',y']) ι d F w r ng):aZ k P ⟨[11,t,u],[x],some (sz,1,c),g,d0,r,ng⟩:=by
  letI:bg:=k.sig;intro o hk ev ι F w d hv hs h1 h2 h3 h4;obtain⟨a,b,ho⟩:=CO hk;obtain⟨cs,he⟩:=fS (ev:=ev) ho rfl;rw[ho]at hv hs;obtain⟨x',e,hx⟩:=zV hv;obtain⟨y2,c',m,q1,q2,q3,q4,q5,q6⟩:=hs sz 1 c rfl;simp[Op.operands,Call.operands]at e q1;subst e;subst q1;obtain⟨v',w',r1,r2⟩:=h ι F w d _ _ c'.toList m o.type ⟨h1,h2,h3,h4⟩ hx q2 q3 q4 (by simpa using q5) q6;refine⟨.value v',v',w',?_,.inl rfl,r2⟩;rw[he];have hb:builtin .append #[t,u] o.type cs #[ev a,ev b]=(do pure (Next.value (← Builtin.append_ #[t,u] o.type #[ev a,ev b]))):=rfl;simp only[List.map_toArray,List.map_cons,List.map_nil];rw[hb];rw[Sem.run_bind,r1];rfl
end Go.Ev
namespace Go.Ev
open Go.RowKit
theorem fB(b off n:Nat):(⟨b,off,none⟩:Addr).add n=⟨b,off+n,none⟩:=@Addr.fL dk b off n
def Ly(v:Value):Prop:=v=.slice none 0 0\/∃ b off,v=.slice (some ⟨b,off,none⟩) 0 0
theorem Ly.base{v:Value}(h:Ly v):∃ a:Option Addr,v=.slice a 0 0:=by
 rcases h with rfl | ⟨b,off,rfl⟩<;>exact⟨_,rfl⟩
def dQ(e:TypeId)(sz:Nat)(v:Value)(n:Nat)(xs:List Value)(F:Nat->Prop)(w:World):Prop :=
 xs.length=n*sz/\((Ly v/\n=0/\∀ j,¬ F j)\/
  ∃ b off c arr,v=.slice (some ⟨b,off,none⟩) n c/\(∀ j,F j↔j=b)/\w.heap[b]? = some (.cells arr e (0,0))/\(∀ i,i<n*sz->arr[off+i]? = xs[i]?)/\off+c*sz<=arr.size/\n<=c)
theorem dQ.keep{e:TypeId}{sz n:Nat}{v:Value}{xs:List Value}{F:Nat->Prop}{w w':World}(h:dQ e sz v n xs F w)(hk:∀ j,F j->w'.heap[j]? = w.heap[j]?):dQ e sz v n xs F w':=by
 obtain⟨h1,h2 | ⟨b,off,c,arr,k1,k2,k3,k4⟩⟩:=h
 ·exact⟨h1,.inl h2⟩
 ·exact⟨h1,.inr ⟨b,off,c,arr,k1,k2,by rw[hk b ((k2 b).2 rfl)];exact k3,k4⟩⟩
theorem dQ.lt{e:TypeId}{sz n:Nat}{v:Value}{xs:List Value}{F:Nat->Prop}{w:World}(h:dQ e sz v n xs F w):∀ j,F j->j<w.heap.size:=by
 intro j hj;obtain⟨h1,⟨_,_,h2⟩ | ⟨b,off,c,arr,k1,k2,k3,k4⟩⟩:=h
 ·exact(h2 j hj).elim
 ·rw[(k2 j).1 hj]
  exact(Array.getElem?_eq_some_iff.1 k3).1
theorem dQ.code{e:TypeId}{sz n:Nat}{v:Value}{xs:List Value}{F:Nat->Prop}{w:World}(h:dQ e sz v n xs F w):∃ c,dec c=v:=by
 obtain⟨h1,⟨rfl | ⟨b,off,rfl⟩,_⟩ | ⟨b,off,c,arr,rfl,_⟩⟩:=h
 ·exact⟨_,mW⟩
 ·exact⟨_,l3 b off 0 0⟩
 ·exact⟨_,l3 b off n c⟩
theorem dQ.leaf{e:TypeId}{sz n:Nat}{v:Value}{xs:List Value}{F:Nat->Prop}{w:World}(h:dQ e sz v n xs F w):aV v=true:=by
 obtain⟨h1,⟨rfl | ⟨b,off,rfl⟩,_⟩ | ⟨b,off,c,arr,rfl,_⟩⟩:=h<;>rfl
theorem dQ.nil(e:TypeId)(sz:Nat)(w:World):dQ e sz (.slice none 0 0) 0 [] (λ_=>False) w:=⟨by simp,.inl ⟨.inl rfl,rfl,λ_ h=>h⟩⟩
theorem dQ.append{P:Program}{t u ty e:TypeId}{i:TypeInfo}{z:Value}{v y:Value}{n m:Nat}{xs cs:List Value}{F:Nat->Prop}{w:World}(h:dQ e i.size v n xs F w)(ht:P.underlying t=some (.slice e))(hi:P.info? e=some i)(hz:i.zero=some z)(hzs:z.cells.size=i.size)
  (hs:Src P i.size u y m cs w) (hb:(n+m)*i.bytes<=140737488355328) (hnm:n+m<=1000000000) :
  ∃ v' w' F',(Builtin.append_ #[t,u] ty #[v,y]).run P w=.ok v' w'/\dQ e i.size v' (n+m) (xs++cs) F' w'/\Turn F w w'/\(∀ j,F' j->j<w'.heap.size/\(F j\/w.heap.size<=j)):=by
 obtain⟨hl,hv⟩:=h;have hcl:=hs.newsLen;have grow:∀ (base:Option Addr) (c:Nat),v=.slice base n c->c<n+m->(Builtin.firstCells i.size n (.slice base n c)).run P w.drew=.ok xs.toArray w.drew->
   ∃ v' w' F',(Builtin.append_ #[t,u] ty #[v,y]).run P w=.ok v' w'/\dQ e i.size v' (n+m) (xs++cs) F' w'/\Turn F w w'/\(∀ j,F' j->j<w'.heap.size/\(F j\/w.heap.size<=j)):=by
  intro base c hv0 hlt hold;have hrun:=run_append_grow_src (P:=P) w t u ty e i z ht hi hz base n c xs hold y m cs hs hlt (by omega) (growslice_fits hlt hb);have hcap:=grownCap_ge w (n+m) c e;generalize grownCap w (n+m) c e=cap at hrun hcap;refine⟨.slice (some ⟨w.heap.size,0,none⟩) (n+m) cap,w.drew.alloc (.cells ((xs++cs).toArray++Builtin.zeroCells z.cells (cap-(n+m))) e),(λj=>j=w.heap.size),by rw[hv0];exact hrun,⟨by rw[List.length_append,hl,hcl,Nat.add_mul],.inr ⟨w.heap.size,0,cap,(xs++cs).toArray++Builtin.zeroCells z.cells (cap-(n+m)),rfl,λ_=>Iff.rfl,?_,?_,?_,hcap⟩⟩,⟨rfl,rfl,rfl,by simp,λk hk _=>?_⟩,λj hj=>?_⟩
  ·show(w.heap.push _)[w.heap.size]? = _
   rw[Array.getElem?_push_size]
  ·intro k hk
   rw[Nat.zero_add,Array.getElem?_append_left (by simp[hl,hcl,← Nat.add_mul];exact hk)];simp
  ·have e2:(Builtin.zeroCells z.cells (cap-(n+m))).size=(cap-(n+m))*i.size:=by simp[Builtin.zeroCells,hzs]
   rw[Array.size_append,e2];simp only[List.size_toArray,List.length_append,hl,hcl];rw[Nat.zero_add,← Nat.add_mul,← Nat.add_mul];rw[show n+m+(cap-(n+m))=cap by omega];exact Nat.le_refl _
  ·exact Below.heap_alloc _ _ _ hk
  ·rw[hj]
   exact⟨by simp,.inr (Nat.le_refl _)⟩
 rcases hv with ⟨hv,rfl,hF⟩ | ⟨b,off,c,arr,hv,hF,hb0,hx,hsz,hnc⟩
 ·by_cases hm:m=0
  ·subst hm
   have hcs:cs=[]:=List.eq_nil_of_length_eq_zero (by rw[hcl];simp);subst hcs;refine⟨v,w,F,?_,⟨by simpa using hl,.inl ⟨hv,rfl,hF⟩⟩,⟨rfl,rfl,rfl,Nat.le_refl _,λ_ _ _=>rfl⟩,λj hj=>(hF j hj).elim⟩;obtain⟨a,hv⟩:=hv.base;rw[hv];exact run_append_nothing w t u ty e i ht hi a 0 0 (Nat.le_refl _) y hs
  ·have hxs:xs=[]:=List.eq_nil_of_length_eq_zero (by rw[hl];simp)
   rcases hv with hv | ⟨b,off,hv⟩
   ·exact grow none 0 hv (by omega) (by rw[hxs];exact run_firstCells_none _ _ _ _ _)
   ·exact grow (some ⟨b,off,none⟩) 0 hv (by omega) (run_firstCells_some _ _ _ _ _ _ _ hl (λj x hj=>by rw[hxs]at hj;cases hj))
 ·by_cases hroom:n+m<=c
  ·have hnm':(n+m)*i.size<=c*i.size:=Nat.mul_le_mul_right _ hroom
   rw[Nat.add_mul]at hnm';have cell:∀ j,j<cs.length->∃ x,w.cell? ⟨b,off+n*i.size+j,none⟩=some x:=by
    intro j hj;have hlt:off+n*i.size+j<arr.size:=by omega
    exact⟨arr[off+n*i.size+j],by simp[World.cell?,hb0,Array.getElem?_eq_getElem hlt]⟩
   have hrun:=run_append_room_src (P:=P) w t u ty e i ht hi b off n c y m cs hs hroom (λj hj=>by obtain⟨x,hx⟩:=cell j hj;rw[hx];rfl) (λj hj=>by simp[World.frozen?,hb0]);obtain⟨cur,s1,s2,s3,s4⟩:=@jA dk _ _ cs (off+n*i.size) w arr hb0;refine⟨_,_,F,by rw[hv];exact hrun,⟨by rw[List.length_append,hl,hcl,Nat.add_mul],.inr ⟨b,off,c,cur,rfl,hF,s1,?_,by rw[s2];exact hsz,hroom⟩⟩,⟨?_,?_,?_,by rw[@setCells_size dk];exact Nat.le_refl _,λk _ hk=>@eK dk _ _ _ _ _ (λe=>hk ((hF k).2 e))⟩,λj hj=>⟨?_,.inl hj⟩⟩
   ·intro k hk
    by_cases hkn:k<n*i.size
    ·rw[s3 _ (by omega),hx k hkn,List.getElem?_append_left (by omega)]
    ·have e1:off+k=off+n*i.size+(k-n*i.size):=by omega
     rw[Nat.add_mul]at hk;have hlt2:k-n*i.size<cs.length:=by omega
     rw[List.getElem?_append_right (by omega),hl,e1,List.getElem?_eq_getElem hlt2];exact s4 _ _ (List.getElem?_eq_getElem hlt2) (by omega)
   ·exact(@da dk (base:=λ_=>False) (b:=b) (λh=>h) cs (off+n*i.size) w).os
   ·exact(@da dk (base:=λ_=>False) (b:=b) (λh=>h) cs (off+n*i.size) w).tape
   ·exact(@da dk (base:=λ_=>False) (b:=b) (λh=>h) cs (off+n*i.size) w).output
   ·rw[@setCells_size dk,(hF j).1 hj]
    exact(Array.getElem?_eq_some_iff.1 hb0).1
  ·refine grow (some ⟨b,off,none⟩) c hv (by omega) (run_firstCells_some _ _ _ _ _ _ _ hl (λj x hj=>?_))
   have hjl:j<n*i.size:=by
    rw[← hl];exact(List.getElem?_eq_some_iff.1 hj).1
   have:=hx j hjl;rw[hj]at this;show w.cell? ((⟨b,off,none⟩:Addr).add j)=some x;rw[fB];simp[World.cell?,hb0,this]
section
variable{P:Program}{t e:TypeId}{i:TypeInfo}{v:Value}{n:Nat}{xs:List Value}{F:Nat->Prop}{w:World}
theorem dQ.len(h:dQ e i.size v n xs F w)(ht:P.underlying t=some (.slice e))(ty:TypeId):(Builtin.len_ #[t] ty #[v]).run P w=.ok (.int .i64 n) w:=by
 obtain⟨h1,⟨rfl | ⟨b,off,rfl⟩,rfl,_⟩ | ⟨b,off,c,arr,rfl,_⟩⟩:=h<;>simp[Builtin.len_,run_underlying ht,goInt]
theorem dQ.drop(h:dQ e i.size v n xs F w)(ht:P.underlying t=some (.slice e))(hi:P.info? e=some i){kd:IntKind}{lo:Nat}(hlo:lo<=n) :
  ∃ v',(Instr.sliceAt t v (some (.int kd lo)) none none).run P w=.ok v' w/\dQ e i.size v' (n-lo) (xs.drop (lo*i.size)) F w:=by
 obtain⟨h1,h2⟩:=h;have hle:=Nat.mul_le_mul_right i.size hlo;have hbd:∀ c:Nat,n<=c->(Instr.sliceBounds true n c (some (.int kd lo)) none none).run P w=.ok (lo,n,c) w:=by
  intro c hc;simp[Instr.sliceBounds,run_sliceBound,hlo,hc]
 have hs:(Instr.sliceAt t v (some (.int kd lo)) none none).run P w=(Instr.slice t v (some (.int kd lo)) none none).run P w:=by
  simp[Instr.sliceAt,run_underlying ht]
 rcases h2 with ⟨he,rfl,hF⟩ | ⟨b,off,c,arr,rfl,hF,hb0,hx,hsz,hnc⟩
 ·obtain rfl:lo=0:=by omega
  refine⟨v,?_,⟨by simp[h1],.inl ⟨he,rfl,hF⟩⟩⟩;rw[hs];rcases he with rfl | ⟨b,off,rfl⟩
  ·simp only[Instr.slice,Sem.run_bind,run_underlying ht,Result.andThen]
   rw[hbd 0 (Nat.le_refl _)];simp[sizeOf,typeInfo,hi]
  ·simp only[Instr.slice,Sem.run_bind,run_underlying ht,Result.andThen]
   rw[hbd 0 (Nat.le_refl _)];simp[sizeOf,typeInfo,hi]
 ·have hlc:=Nat.mul_le_mul_right i.size (Nat.le_trans hlo hnc)
  by_cases e1:c=lo
  ·obtain rfl:n=lo:=by omega
   subst e1;refine⟨.slice (some ⟨b,off,none⟩) 0 0,?_,⟨by simp[h1],.inr ⟨b,off,0,arr,by rw[Nat.sub_self],hF,hb0,λk hk=>by simp at hk,by omega,by omega⟩⟩⟩;rw[hs];simp only[Instr.slice,Sem.run_bind,run_underlying ht,Result.andThen];rw[hbd c (Nat.le_refl _)];simp[sizeOf,typeInfo,hi]
  ·refine⟨.slice (some ⟨b,off+lo*i.size,none⟩) (n-lo) (c-lo),?_,⟨by rw[List.length_drop,h1,Nat.sub_mul],.inr ⟨b,off+lo*i.size,c-lo,arr,rfl,hF,hb0,λk hk=>?_,?_,by omega⟩⟩⟩
   ·rw[hs]
    simp only[Instr.slice,Sem.run_bind,run_underlying ht,Result.andThen];rw[hbd c hnc];simp[sizeOf,typeInfo,hi,e1,fB]
   ·rw[Nat.sub_mul]at hk
    rw[List.getElem?_drop,Nat.add_assoc];exact hx _ (by omega)
   ·rw[Nat.sub_mul]
    omega
theorem dQ.take(h:dQ e i.size v n xs F w)(ht:P.underlying t=some (.slice e))(hi:P.info? e=some i){kd:IntKind}{m:Nat}(hm:m<=n) :
  ∃ v',(Instr.sliceAt t v none (some (.int kd m)) none).run P w=.ok v' w/\dQ e i.size v' m (xs.take (m*i.size)) F w:=by
 obtain⟨h1,h2⟩:=h;have hle:=Nat.mul_le_mul_right i.size hm;have hs:(Instr.sliceAt t v none (some (.int kd m)) none).run P w=(Instr.slice t v none (some (.int kd m)) none).run P w:=by
  simp[Instr.sliceAt,run_underlying ht]
 rcases h2 with ⟨he,rfl,hF⟩ | ⟨b,off,c,arr,rfl,hF,hb0,hx,hsz,hnc⟩
 ·obtain rfl:m=0:=by omega
  refine⟨v,?_,⟨by simp,.inl ⟨he,rfl,hF⟩⟩⟩;rw[hs];rcases he with rfl | ⟨b,off,rfl⟩
  ·simp[Instr.slice,run_underlying ht,Instr.sliceBounds,run_sliceBound,sizeOf,typeInfo,hi]
  ·simp[Instr.slice,run_underlying ht,Instr.sliceBounds,run_sliceBound,sizeOf,typeInfo,hi]
 ·refine⟨.slice (some ⟨b,off,none⟩) m c,?_,⟨by rw[List.length_take,h1];omega,.inr ⟨b,off,c,arr,rfl,hF,hb0,λk hk=>?_,hsz,by omega⟩⟩⟩
  ·rw[hs]
   have hmc:(m:Int)<=c:=by omega
   simp[Instr.slice,run_underlying ht,Instr.sliceBounds,run_sliceBound,sizeOf,typeInfo,hi,hmc,fB]
  ·rw[List.getElem?_take,if_pos hk]
   exact hx k (by omega)
theorem dQ.at(h:dQ e i.size v n xs F w)(ht:P.underlying t=some (.slice e))(hi:P.info? e=some i){kd:IntKind}{k:Nat}(hk:k<n) :
  ∃ b off c,v=.slice (some ⟨b,off,none⟩) n c/\(Instr.indexAt t v (.int kd k)).run P w=.ok (.pointer (some ⟨b,off+k*i.size,none⟩)) w/\F b/\∀ j,j<i.size->w.cell? ⟨b,off+k*i.size+j,none⟩=xs[k*i.size+j]?/\w.frozen? ⟨b,off+k*i.size+j,none⟩=false:=by
 obtain⟨h1,h2⟩:=h;rcases h2 with ⟨_,rfl,hF⟩ | ⟨b,off,c,arr,rfl,hF,hb0,hx,hsz,hnc⟩
 ·omega
 ·refine⟨b,off,c,rfl,?_,(hF b).2 rfl,λj hj=>?_⟩
  ·have hc:(0:Int)<=(k:Int)/\(k:Int)<(n:Int):=⟨by omega,by omega⟩
   simp[Instr.indexAt,run_underlying ht,hc,sizeOf,typeInfo,hi,fB,asIntOf];intro h;omega
  ·have hlt:k*i.size+j<n*i.size:=by
    have:=Nat.mul_le_mul_right i.size (show k+1<=n by omega);rw[Nat.add_mul]at this;omega
   refine⟨?_,by simp[World.frozen?,hb0]⟩;rw[← hx _ hlt];simp[World.cell?,hb0,Nat.add_assoc]
theorem dQ.set{sz b off c k:Nat}(h:dQ e sz v n xs F w)(hv:v=.slice (some ⟨b,off,none⟩) n c)(hk:k<n*sz)(x:Value):dQ e sz v n (xs.set k x) F (w.setCell ⟨b,off+k,none⟩ x):=by
 obtain⟨h1,h2⟩:=h;rcases h2 with ⟨_,rfl,hF⟩ | ⟨b',off',c',arr,hv',hF,hb0,hx,hsz,hnc⟩
 ·simp at hk
 ·rw[hv]at hv'
  cases hv';have hn:=Nat.mul_le_mul_right sz hnc;refine⟨by simpa using h1,.inr ⟨b,off,c,arr.setIfInBounds (off+k) x,hv,hF,@heap_setCell_same dk _ _ _ _ _ _ hb0,λi hi=>?_,by simpa using hsz,hnc⟩⟩;rw[Array.getElem?_setIfInBounds,List.getElem?_set]
  by_cases e:k=i
  ·subst e
   rw[if_pos rfl,if_pos rfl,if_pos (by omega),if_pos (by omega)]
  ·rw[if_neg (by omega),if_neg e]
   exact hx i hi
end
end Go.Ev
namespace Go.Proofs.YtkmccgombmogmaaGreat
open Go.Ev Go.Proofs.Tryz
open Go.RowKit
open Go.Ev (sy)
theorem vB{P:Program}{t:TypeId}{z:Value}{n b:Nat}(h:(P.info? t).map (λi=>(i.zero,i.size,i.bytes))=some (some z,n,b))(hz:z.cells.size=n):∃ i z,P.info? t=some i/\i.size=n/\i.zero=some z/\z.cells.size=i.size/\i.bytes=b:=by
 cases hi:P.info? t with
 | none=>rw[hi]at h;cases h
 | some i =>
  rw[hi]at h;simp only[Option.map_some,Option.some.injEq,Prod.mk.injEq]at h;exact⟨i,z,rfl,h.2.1,h.1,by rw[h.2.1];exact hz,h.2.2⟩
theorem vC:∃ i z,prog.info? 234 = some i/\i.size=4/\i.zero=some z/\z.cells.size=i.size/\i.bytes=32:=vB (z:=.agg #[.int .i64 0,.int .i64 0,.int .u64 0,.int .u64 0]) (by kernel_rfl) rfl
theorem qq:∃ i z,prog.info? 51 = some i/\i.size=1/\i.zero=some z/\z.cells.size=i.size/\i.bytes=8:=vB (z:=.int .u64 0) (by kernel_rfl) rfl
def iy(xs:List Int):List Value:=xs.map (Value.int .u64)
inductive LV where
 | st (v:Value)
 | dy (d:Nat)
def LV.is(ι:am)(v:Value):LV->Prop
 | .st v0=>v=v0
 | .dy d=>∃ c,ι d=some c/\Ev.dec c=v
theorem LV.mono{ι κ:am}(h:jf ι κ){v:Value}{l:LV}(hl:l.is ι v):l.is κ v:=by
 cases l with
 | st v0=>exact hl
 | dy d=>obtain⟨c,h1,h2⟩:=hl;exact⟨c,h _ _ h1,h2⟩
def kI(lg:LV)(n:Nat)(cl:Value)(cells:List Int)(ι:am)(F:Nat->Prop)(w:World):Prop :=
 ∃ v xl Fl Fc,lg.is ι v/\dQ 234 4 v n xl Fl w/\dQ 51 1 cl cells.length (iy cells) Fc w/\(∀ j,Fl j->¬ Fc j)/\∀ j,F j↔Fl j\/Fc j
def dZ(lg:LV)(n:Nat)(cl:Value)(cells:List Int):aG where
 p:=kI lg n cl cells
 keep:=by
  rintro ι F w w' h ⟨v,xl,Fl,Fc,h1,h2,h3,h4,h5⟩;exact⟨v,xl,Fl,Fc,h1,h2.keep (λj hj=>h j ((h5 j).2 (.inl hj))),h3.keep (λj hj=>h j ((h5 j).2 (.inr hj))),h4,h5⟩
 mono:=by
  rintro ι κ F w h ⟨v,xl,Fl,Fc,h1,h2⟩;exact⟨v,xl,Fl,Fc,LV.mono h h1,h2⟩
def jr(cl:Value)(a:Nat):Value :=
 match cl with
 | .slice (some ⟨b,off,_⟩) _ _=>.pointer (some ⟨b,off+a,none⟩)
 | _=>.pointer none
section
variable{k:Ev.Kn}{g g' n a sC sA sP sV:Nat}{lg:LV}{cl:Value}{cells:List Int}{d0:Option Nat}
theorem vD{ι:am}{m:Nat}{x':Value}(h:letI:bg:=k.sig;ao ι (sy m) x'):x'=k.val m:=by
 letI:bg:=k.sig;cases h with
 | sym n m' _ h=>exact h.symm
theorem Pt{ι:am}{kd:IntKind}{m:Int}{x':Value}(h:letI:bg:=k.sig;ao ι (.int kd m) x'):x'=.int kd m:=by
 letI:bg:=k.sig;cases h with
 | int=>rfl
theorem Nv{ι:am}{d:Nat}{x':Value}(h:letI:bg:=k.sig;ao ι (.complex .f32 d 0) x'):∃ c,ι d=some c/\Ev.dec c=x':=by
 letI:bg:=k.sig;cases h with
 | dyn id c _ h h'=>exact⟨c,h,h'⟩
theorem IG{ι:am}{m:Nat}{x':Value}(h:k.val m=x'):letI:bg:=k.sig;ao ι (sy m) x':=by
 letI:bg:=k.sig;exact .sym m 0 x' h
theorem ry{ι:am}{F:Nat->Prop}{w:World}{d:Nat}{ng:Option Nat}(hg:k.gs[g]? = some (dZ lg n cl cells))(q:Ev.Ask k g d0 ng ι F w d):kI lg n cl cells ι F w:=by
 obtain⟨a,q1,q2⟩:=q.st;rw[hg]at q1;cases q1;exact q2
theorem zW{b off c m:Nat}(h:cl=.slice (some ⟨b,off,none⟩) m c)(a:Nat):jr cl a=.pointer (some ⟨b,off+a,none⟩):=by subst h;rfl
theorem EZ{i a:Nat}(hi:i=1):(iy cells)[a*i+0]? = (cells[a]?).map (Value.int .u64):=by subst hi;simp[iy]
theorem fC(hg:k.gs[g]? = some (dZ lg n cl cells))(hC:k.val sC=cl)(hA:k.val sA=.int .i64 (a:Int))(hP:k.val sP=jr cl a)(ha:a<cells.length):aZ k prog ⟨[3,50],[sy sC,sy sA],none,g,none,sy sP,none⟩:=by
 obtain⟨i,z,i1,i2,i3,i4,i5⟩:=qq;refine aZ.index k ?_;letI:bg:=k.sig;intro ι F w d x' y' q hx hy;obtain⟨v,xl,Fl,Fc,h1,h2,h3,h4,h5⟩:=ry hg q;rw[vD hx,vD hy,hC,hA];rw[← i2]at h3;obtain⟨b,off,c,e1,e2,e3,e4⟩:=h3.at (P:=prog) (t := 50) (kd:=.i64) underlying50 i1 ha;exact⟨_,w,e2,IG (by rw[hP,zW e1,i2,Nat.mul_one]),Below.refl _ _⟩
theorem jt(hg:k.gs[g]? = some (dZ lg n cl cells))(hC:k.val sC=cl)(hP:k.val sP=.int .i64 (cells.length:Int)):aZ k prog ⟨[10,50],[sy sC],none,g,none,sy sP,none⟩:=by
 obtain⟨i,z,i1,i2,i3,i4,i5⟩:=qq;refine aZ.len k ?_;letI:bg:=k.sig;intro ι F w d x' ty q hx;obtain⟨v,xl,Fl,Fc,h1,h2,h3,h4,h5⟩:=ry hg q;rw[vD hx,hC];rw[← i2]at h3;exact⟨_,w,h3.len underlying50 ty,IG hP,Below.refl _ _⟩
theorem gN(hg:k.gs[g]? = some (dZ lg n cl cells))(hP:k.val sP=jr cl a)(ha:a<cells.length)(hV:k.val sV=.int .u64 cells[a]):aZ k prog ⟨[1,51],[sy sP],none,g,none,sy sV,none⟩:=by
 obtain⟨i,z,i1,i2,i3,i4,i5⟩:=qq;refine aZ.load k ?_;letI:bg:=k.sig;intro ι F w d x' q hx;obtain⟨v,xl,Fl,Fc,h1,h2,h3,h4,h5⟩:=ry hg q;rw[← i2]at h3;obtain⟨b,off,c,e1,e2,e3,e4⟩:=h3.at (P:=prog) (t := 50) (kd:=.i64) underlying50 i1 ha;obtain⟨c1,c2⟩:=e4 0 (by omega);rw[EZ i2,List.getElem?_eq_getElem ha,Nat.add_zero]at c1;rw[vD hx,hP,zW e1];rw[i2,Nat.mul_one]at c1;refine⟨_,w,?_,IG hV,Below.refl _ _⟩;simp[Instr.loadAt,Instr.sureAddr,loadVar,isAgg,run_underlying underlying51,c1]
theorem fD{sW:Nat}{x:Int}(hg:k.gs[g]? = some (dZ lg n cl cells))(hg':k.gs[g']? = some (dZ lg n cl (cells.set a x)))(hP:k.val sP=jr cl a)(ha:a<cells.length)(hV:k.val sW=.int .u64 x):aZ k prog ⟨[2,51],[sy sP,sy sW],none,g,none,undef,some g'⟩:=by
 obtain⟨i,z,i1,i2,i3,i4,i5⟩:=qq;refine aZ.store k ?_;letI:bg:=k.sig;intro ι F w d x' y' q hx hy;obtain⟨v,xl,Fl,Fc,h1,h2,h3,h4,h5⟩:=ry hg q;have h3':=h3;rw[← i2]at h3';obtain⟨b,off,c,e1,e2,e3,e4⟩:=h3'.at (P:=prog) (t := 50) (kd:=.i64) underlying50 i1 ha;obtain⟨c1,c2⟩:=e4 0 (by omega);rw[EZ i2,List.getElem?_eq_getElem ha,Nat.add_zero,i2,Nat.mul_one]at c1;rw[Nat.add_zero,i2,Nat.mul_one]at c2;rw[vD hx,vD hy,hP,hV,zW e1];have hd:ι d=none:=by
  rcases q.fresh with h | h
  ·exact h
  ·cases h
 refine⟨w.setCell ⟨b,off+a,none⟩ (.int .u64 x),?_,0,F,eV _,⟨_,hg',v,xl,Fl,Fc,LV.mono (am.gZ hd) h1,h2.keep (λj hj=>?_),?_,h4,h5⟩,⟨rfl,rfl,rfl,by simp[World.setCell],λj hj hn=>?_⟩,λj hj=>⟨?_,.inl hj⟩⟩
 ·have hs:(Go.store ⟨b,off+a,none⟩ (.int .u64 x)).run prog w=.ok () (w.setCell ⟨b,off+a,none⟩ (.int .u64 x)):=by
   simp[Go.store,Sem.run,c1,c2]
  have e0:(⟨b,off+a,none⟩:Addr).add 0=⟨b,off+a,none⟩:=fB b (off+a) 0;simp[Instr.storeAt,Instr.sureAddr,storeVar,sizeOf,typeInfo,i1,i2,storeCells,Value.cells,e0,hs]
 ·exact Below.heap_setCell _ _ _ _ (λe=>h4 j hj (by rw[e];exact e3))
 ·have:=h3.set e1 (k:=a) (by omega) (.int .u64 x)
  simpa[iy] using this
 ·exact Below.heap_setCell _ _ _ _ (λe=>hn ((h5 j).2 (.inr (by rw[e];exact e3))))
 ·have:=q.lt j hj
  simpa[World.setCell] using this
theorem xQ{ι:am}{F:Nat->Prop}{w:World}{d:Nat}(q:Ev.Ask k g d0 (some g') ι F w d):ι d=none:=by
 rcases q.fresh with h | h
 ·exact h
 ·cases h
theorem qk{ι:am}{c c':List Value}(h:letI:bg:=k.sig;dL ι c c')(ho:c.all Ev.oneCell=true):∀ u ∈ c',u.oneCell'=true:=by
 letI:bg:=k.sig;intro u hu;rw[List.all_eq_true]at ho;obtain⟨i,hi⟩:=List.getElem?_of_mem hu;have hlt:i<c.length:=by
  rw[h.1];exact(List.getElem?_eq_some_iff.1 hi).1
 exact Ev.one_one ((h.2 i _ _ (List.getElem?_eq_getElem hlt) hi).one (ho _ (List.getElem_mem hlt)))
theorem xR{ι κ:am}{lg Nj:LV}{n n2:Nat}{v2:Value}{x2:List Value}{F Fl MC Fc:Nat->Prop}{w w2:World}(hle:jf ι κ)(hl2:Nj.is κ v2)(h2:dQ 234 4 v2 n2 x2 MC w2)(h3:dQ 51 1 cl cells.length (iy cells) Fc w)(h4:∀ j,Fl j->¬ Fc j)(h5:∀ j,F j↔Fl j\/Fc j)
  (ht:Ev.Turn Fl w w2) (hs:∀ j,MC j->j<w2.heap.size/\(Fl j\/w.heap.size<=j)):kI Nj n2 cl cells κ (λj=>MC j\/Fc j) w2/\Ev.Turn F w w2/\∀ j,(MC j\/Fc j)->j<w2.heap.size/\(F j\/w.heap.size<=j):=by
 have hc:=h3.lt;refine⟨⟨v2,x2,MC,Fc,hl2,h2,h3.keep (λj hj=>ht.block j (hc j hj) (λhf=>h4 j hf hj)),λj hj hf=>?_,λj=>Iff.rfl⟩,⟨ht.os,ht.tape,ht.output,ht.size,λj hj hn=>ht.block j hj (λhf=>hn ((h5 j).2 (.inl hf)))⟩,λj hj=>?_⟩
 ·rcases(hs j hj).2 with h | h
  ·exact h4 j h hf
  ·have:=hc j hf
   omega
 ·rcases hj with h | h
  ·refine⟨(hs j h).1,(hs j h).2.imp (λhf=>(h5 j).2 (.inl hf)) id⟩
  ·exact⟨Nat.lt_of_lt_of_le (hc j h) ht.size,.inl ((h5 j).2 (.inr h))⟩
theorem gO{sL d1:Nat}{v0:Value}{c:List Value}(hg:k.gs[g]? = some (dZ (.st v0) n cl cells))(hg':k.gs[g']? = some (dZ (.dy d1) (n+1) cl cells))(hL:k.val sL=v0)(hn:n<=256)(hc4:c.length=4):aZ k prog ⟨[11,133,133],[sy sL],some (4,1,c),g,some d1,.complex .f32 d1 0,some g'⟩:=by
 obtain⟨i,z,i1,i2,i3,i4,i5⟩:=vC;refine aZ.append k ?_;letI:bg:=k.sig;intro ι F w d x' y' c' m ty q hx hc hm ho hr hl;obtain⟨v,xl,Fl,Fc,h1,h2,h3,h4,h5⟩:=ry hg q;have h1':v=v0:=h1;obtain rfl:m=1:=by omega
 obtain rfl:=q.name d1 rfl;rw[vD hx,hL,← h1'];rw[← i2]at h2;have hs:Src prog i.size 133 y' 1 c' w:=⟨.inl ⟨_,underlying133⟩,hl,by rw[i2];exact hr w rfl,by rw[i2];exact hr w.drew rfl,by rw[← hc.1,hc4,i2],qk hc ho⟩;obtain⟨v2,w2,MC,r1,r2,r3,r4⟩:=h2.append (ty:=ty) underlying133 i1 i3 i4 hs (by rw[i5];omega) (by omega);obtain⟨cc,hcc⟩:=r2.code;rw[i2]at r2;have hup:(ι.upd d1 cc) d1=some cc:=by simp[am.upd]
 obtain⟨m1,m2,m3⟩:=xR (lg:=.st v0) (n:=n) (Nj:=.dy d1) (am.gZ (b:=cc) (xQ q)) ⟨cc,hup,hcc⟩ r2 h3 h4 h5 r3 r4;exact⟨v2,w2,r1,cc,_,.dyn d1 cc v2 hup hcc,⟨_,hg',m1⟩,m2,m3⟩
theorem qr{d1 d2:Nat}(hg:k.gs[g]? = some (dZ (.dy d1) (n+1) cl cells))(hg':k.gs[g']? = some (dZ (.dy d2) n cl cells)):aZ k prog ⟨[4,133,1,0,0],[.complex .f32 d1 0,.int .i64 1],none,g,some d2,.complex .f32 d2 0,some g'⟩:=by
 obtain⟨i,z,i1,i2,i3,i4,i5⟩:=vC;refine aZ.vA k ?_;letI:bg:=k.sig;intro ι F w d x' y' q hx hy;obtain⟨v,xl,Fl,Fc,⟨c1,h0,h1⟩,h2,h3,h4,h5⟩:=ry hg q;obtain⟨c0,e0,e1⟩:=Nv hx;rw[h0]at e0;cases e0;rw[h1]at e1;subst e1;obtain rfl:=q.name d2 rfl;rw[Pt hy];rw[← i2]at h2;obtain⟨v2,r1,r2⟩:=h2.drop (kd:=.i64) (lo:=1) underlying133 i1 (by omega);obtain⟨cc,hcc⟩:=r2.code;rw[i2]at r2;have hl:=h2.lt;have hup:(ι.upd d2 cc) d2=some cc:=by simp[am.upd]
 obtain⟨m1,m2,m3⟩:=xR (lg:=.dy d1) (n:=n+1) (Nj:=.dy d2) (am.gZ (b:=cc) (xQ q)) ⟨cc,hup,hcc⟩ r2 h3 h4 h5 (Ev.Turn.below (Below.refl _ _)) (λj hj=>⟨hl j hj,.inl hj⟩);exact⟨v2,w,r1,cc,_,.dyn d2 cc v2 hup hcc,⟨_,hg',m1⟩,m2,m3⟩
theorem eO{d1:Nat}(hg:k.gs[g]? = some (dZ (.dy d1) n cl cells))(hP:k.val sP=.int .i64 (n:Int)):aZ k prog ⟨[10,133],[.complex .f32 d1 0],none,g,none,sy sP,none⟩:=by
 obtain⟨i,z,i1,i2,i3,i4,i5⟩:=vC;refine aZ.len k ?_;letI:bg:=k.sig;intro ι F w d x' ty q hx;obtain⟨v,xl,Fl,Fc,⟨c1,h0,h1⟩,h2,h3,h4,h5⟩:=ry hg q;obtain⟨c0,e0,e1⟩:=Nv hx;rw[h0]at e0;cases e0;rw[h1]at e1;subst e1;rw[← i2]at h2;exact⟨_,w,h2.len underlying133 ty,IG hP,Below.refl _ _⟩
end
end Go.Proofs.YtkmccgombmogmaaGreat
