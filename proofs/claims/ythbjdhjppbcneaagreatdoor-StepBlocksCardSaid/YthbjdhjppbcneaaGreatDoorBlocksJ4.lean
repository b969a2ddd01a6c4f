import Derived.Test.YthbjdhjppbcneaaGreatDoorBlocksJ3
namespace Go.Proofs.YthbjdhjppbcneaaGreatDoor
set_option maxRecDepth 100000
set_option maxHeartbeats 20000000
open Go.RowKit Tryz
open Lib renaming hid->V
set_option linter.all false
def ny (P:Program) (ops:Array Oper) (Q:Exit ->Act ->World ->Prop) (S:World ->Prop) (d:Nat):Nat ->Array Bool ->Act ->World ->Prop
 | 0,listed,a,w=>Region.ready .any ops listed=[]/\Q .normal a w
 | fuel+1,listed,a,w=>
  (Region.ready .any ops listed=[] ->Q .normal a w)/\
  ∀i∈Region.ready .any ops listed,wpOp P ops Q i (fun a' w'=>(i=d ->wpAny P .any ops Q fuel (listed.setIfInBounds i true) a' w')/\(i≠d ->S w'/\ny P ops Q S d fuel (listed.setIfInBounds i true) a' w')) a w
theorem qU {P:Program} {ops:Array Oper} {Q:Exit ->Act ->World ->Prop} {S:World ->Prop} {d:Nat}:∀(fuel:Nat) (listed:Array Bool) (a:Act) (w:World),ny P ops Q S d fuel listed a w ->wpAny P .any ops Q fuel listed a w
 | 0,_,_,_,h=>h
 | fuel+1,_,_,_,h=>⟨h.1,fun i hi=>dW (fun a' w' h'=>by
   by_cases hd:i=d
   ·exact h'.1 hd
   ·exact qU fuel _ a' w' (h'.2 hd).2) (h.2 i hi)⟩
def blocked (ops:Array Oper) (listed:Array Bool) (i:Nat) (K:List Nat):Bool:=
 K.all fun k=>(listed.getD k true==false)&& !(k==i)&&(match ops[k]? with | some o=>o.after.any (fun e=>Region.binds .any e&&(e.on==i || K.contains e.on)) | none=>false)
def EP (ops:Array Oper) (listed:Array Bool) (i:Nat):List Nat:=
 Nat.repeat (fun K=>K.filter fun k=>match ops[k]? with | some o=>o.after.any (fun e=>Region.binds .any e&&(e.on==i || K.contains e.on)) | none=>false) ops.size
  ((List.range ops.size).filter fun k=> !(k==i)&&(listed.getD k true==false))
theorem oJ {listed:Array Bool} {i:Nat} (h:listed.getD i true=false):listed.getD i false=false:=by
 rcases bD i listed.size with h' | h'
 ·simp [h']at h⊢;exact h
 ·simp [Array.getElem?_eq_none h']at h
theorem pL {ops:Array Oper} {listed:Array Bool} {i:Nat} {K:List Nat} (hb:blocked ops listed i K=true) (hi:listed.getD i true=false) {k:Nat} (hk:k∈K):k≠i/\k∉Region.ready .any ops listed:=by
 simp only [blocked,List.all_eq_true]at hb;have h1:=hb k hk;simp only [bz,du,dt,dC]at h1;obtain⟨⟨h2,h3⟩,h4⟩:=h1;refine⟨h3,fun hr=>?_⟩;obtain⟨_,o,ho,LM⟩:=dL.1 hr;rw [ho]at h4;obtain⟨e,he,Ql⟩:=Array.any_eq_true'.1 h4;simp only [bz,Bool.or_eq_true,du]at Ql;have h5:=LM e he Ql.1;rcases Ql.2 with h6 | h6
 ·rw [h6,oJ hi]at h5
  cases h5
 ·have h7:=hb e.on (by simpa using h6)
  simp only [bz,du]at h7;rw [oJ h7.1.1]at h5;cases h5
theorem yM {ops:Array Oper} {listed:Array Bool} {i j:Nat} {K:List Nat} (hb:blocked ops listed i K=true) (hj:j∉K):blocked ops (listed.setIfInBounds j true) i K=true:=by
 simp only [blocked,List.all_eq_true]at hb⊢;intro k hk;have h1:=hb k hk;have hjk:j≠k:=fun h=>hj (by rw [h];exact hk);rw [getD_set_ne true hjk];exact h1
theorem oz {P:Program} {ops:Array Oper} {Q:Exit ->Act ->World ->Prop} {S:World ->Prop} {d i:Nat} {oi:Oper} {v:Value} {K:List Nat} (hd:d∈K) (hi:ops[i]?=some oi) (hsel:∀(j:Nat) (o:Oper) cs b,ops[j]?=some o ->o.op≠ .select cs b)
  (hQ:∀c a w,¬ Q (.panic c) a w):
  ∀(fuel:Nat) (listed:Array Bool) (a:Act) (w:World),
   (∀j oj,ops[j]?=some oj ->j≠i ->listed.getD j true=false ->(∀e∈oj.after,Region.binds .any e=true ->e.on≠i) ->oi.apart ops oj=true) ->
   i∈Region.ready .any ops listed ->blocked ops listed i K=true ->YieldsIf P ops S oi v a ->S w ->
   ny P ops Q S d fuel (listed.setIfInBounds i true) (a.put oi.dst v) w ->ny P ops Q S d (fuel+1) listed a w:=by
 intro fuel
 induction fuel with
 | zero=>
  intro listed a w _ hr hb hy hS H;refine⟨fun h=>(by rw [h]at hr;cases hr),fun j hj=>?_⟩;have hdi:=(pL hb (dL.1 hr).1 hd).1;by_cases hji:j=i
  ·subst hji;exact hy.wpOp hi hS ⟨fun h=>absurd h.symm hdi,fun _=>⟨hS,H⟩⟩
  ·have:=dY hj hji
   rw [H.1]at this;cases this
 | succ fuel ih=>
  intro listed a w Qz hr hb hy hS H;refine⟨fun h=>(by rw [h]at hr;cases hr),fun j hj=>?_⟩;have hdi:=(pL hb (dL.1 hr).1 hd).1;by_cases hji:j=i
  ·subst hji;exact hy.wpOp hi hS ⟨fun h=>absurd h.symm hdi,fun _=>⟨hS,H⟩⟩
  ·have hjK:j∉K:=fun h=>(pL hb (dL.1 hr).1 h).2 hj
   have hjd:j≠d:=fun h=>hjK (h▸hd);have h1:=dW (fun a' w' h=>h.2 hjd) (H.2 j (dY hj hji));obtain⟨P6,oj,hoj,LM⟩:=dL.1 hj;have Mp:∀e∈oj.after,Region.binds .any e=true ->e.on≠i:=fun e he hb heq=>by
    have h1:=LM e he hb;have h0:=(dL.1 hr).1;rw [heq,oJ h0]at h1;cases h1
   have h2:=wpOp_putIf hoj (Qz j oj hoj hji P6 Mp) (fun cs b=>hsel i oi cs b hi) (fun cs b=>hsel j oj cs b hoj) (fun c a w h=>(hQ _ _ _ h).elim) hy h1;have hfree':∀k ok,ops[k]?=some ok ->k≠i ->(listed.setIfInBounds j true).getD k true=false ->
     (∀e∈ok.after,Region.binds .any e=true ->e.on≠i) ->oi.apart ops ok=true:=fun k ok hk hki hun OB=>by
    refine Qz k ok hk hki ?_ OB;by_cases hjk:j=k
    ·subst hjk;exact P6
    ·rw [getD_set_ne true hjk]at hun;exact hun
   refine dW (fun a' w' h3=>⟨fun h=>absurd h hjd,fun _=>⟨h3.2.1,ih (listed.setIfInBounds j true) a' w' hfree' (dY hr (Ne.symm hji)) (yM hb hjK) h3.1 h3.2.1 ?_⟩⟩) h2;rw [dX _ _ hji];exact h3.2.2
def yF (P:Program) (ops:List Oper) (Q:Exit ->Act ->World ->Prop) (d:Nat):Exit ->Act ->World ->Prop
 | .normal,a,w=>∃o,nth ops d=some o/\
   ((ko ops o.guard a=true/\wpList P #[] (nK Q (fun _=>True) (Q .normal)) [bare o] a w)\/(ko ops o.guard a=false/\Q .normal (a.put o.dst undef) w))
 | e,a,w=>Q e a w
def qJ (ops:Array Oper) (d:Nat):List (Nat × Bool) ->Array Bool ->Bool
 | [],listed=>(Region.ready .any ops listed==[d])&&(Region.ready .any ops (listed.setIfInBounds d true)).isEmpty
 | (i,true)::rest,listed=>(ops[i]?.any fun o=>isVal o.op)&&(Region.ready .any ops listed).contains i&&Region.free .any ops listed i&&blocked ops listed i (EP ops listed i)&&(EP ops listed i).contains d&&qJ ops d rest (listed.setIfInBounds i true)
 | (i,false)::rest,listed=> !(i==d)&&(Region.ready .any ops listed==[i])&&qJ ops d rest (listed.setIfInBounds i true)
theorem xC {P:Program} {ops:Array Oper} {Q Q':Exit ->Act ->World ->Prop} {i:Nat} {K:Act ->World ->Prop} {a:Act} {w:World} (hp:∀c a w,Q (.panic c) a w ->Q' (.panic c) a w) (hl:LetsOut Q ->LetsOut Q') (h:wpOp P ops Q i K a w):wpOp P ops Q' i K a w:=by
 unfold wpOp at*;split
 ·rename_i ho
  simp only [ho]at h;exact h
 ·rename_i o ho
  simp only [ho]at h;split
  ·rename_i hw
   simp only [hw,dc]at h;rcases h with h | ⟨h1,h2⟩
   ·left
    unfold Oper.wp at*;generalize(execOp a.eval o).run P w=r at*;cases r with
    | ok n w'=>
     cases n <;>simp only [Oper.upon]at h⊢
     case value=>exact h
     case skip=>exact h
     case defer=>exact h
     case enter=>
      refine bU h fun e w'' he=>?_;cases e with
      | returned v=>exact he
      | panicked c=>exact hp _ _ _ he
      | outgrown=>exact hl he
     case row=>exact Rows.mono h fun _ _ he=>he
    | halt x w'=>
     cases x <;>simp only [Oper.upon]at h⊢
     case panic=>exact hp _ _ _ h
   ·exact .inr ⟨h1,hl h2⟩
  ·rename_i hw
   simp only [hw]at h;exact h
theorem nE {P:Program} {ops:Array Oper} {Q:Exit ->Act ->World ->Prop} {S:World ->Prop} {d:Nat} (hQ:∀c a w,¬ Q (.panic c) a w) (hs:Region.noSelect ops=true):
  ∀(l:List (Nat × Bool)) (fuel:Nat) (listed:Array Bool) (a:Act) (w:World),l.length+1 <=fuel ->qJ ops d l listed=true ->S w ->
   gC P ops.toList (yF P ops.toList Q d) S l a w ->ny P ops Q S d fuel listed a w
 | l,0,_,_,_,hl,_,_,_=>by omega
 | [],fuel+1,listed,a,w,_,Ly,_,h=>by
  simp only [qJ,bz,du,List.isEmpty_iff]at Ly;refine⟨fun h0=>(by rw [Ly.1]at h0;cases h0),fun j hj=>?_⟩;rw [Ly.1]at hj;obtain rfl:j=d:=by simpa using hj
  have h2:=kM (S:=fun _=>True) (K:=Q .normal) (K':=Q .normal) (Q:=Q) (ops:=ops) (j:=j) trivial (fun a w _ h=>h) h;refine dW (fun a' w' h3=>⟨fun _=>?_,fun h=>absurd rfl h⟩) h2;cases fuel with
  | zero=>exact⟨Ly.2,h3.2⟩
  | succ f=>exact⟨fun _=>h3.2,by rw [Ly.2];simp⟩
 | (i,true)::rest,fuel+1,listed,a,w,hl,Ly,hS,h=>by
  simp only [qJ,bz]at Ly;obtain⟨⟨⟨⟨⟨hv,hr⟩,hf⟩,Ml⟩,hkd⟩,Ma⟩:=Ly;have hkd:d∈EP ops listed i:=by simpa using hkd
  simp only [aF]at hl;obtain⟨o,ho,h⟩:=h;rw [nO,cm]at ho;rw [ho]at hv;simp only [Option.any_some]at hv;rcases h with⟨hg,d',hd,hds,a',hp,hk⟩ | ⟨hg,hk⟩
  ·refine oz (v:=a'.tmps.getD d' undef) hkd ho (dN hs) hQ fuel listed a w (Region.free_spec ho hf) (by simpa using hr) Ml (.inl ⟨by rw [kY];exact hg,fun w' hw'=>?_⟩) hS ?_
   ·rcases lW (hp w' hw')with h1 | ⟨_,h2⟩
    ·unfold Oper.wp at h1
     rw [iF]at h1;rcases lU (P:=P) (ρ:=a.eval) hv w' with⟨v,w2,LA⟩ | ⟨x,w2,LA⟩
     ·rw [LA]at h1⊢
      obtain⟨_,h3,h4⟩:=h1;subst h4;subst h3;have:(bare o).dst=some d':=hd;rw [this];simp [Act.put,hds]
     ·rw [LA]at h1
      cases x <;>simp only [Oper.upon]at h1
      case panic=>exact absurd h1.1 (by simp)
    ·obtain⟨_,_,h3,_⟩:=h2
     exact absurd h3 (by simp)
   ·have ha:a.put o.dst (a'.tmps.getD d' undef)=a':=by
     rcases lW (hp w hS)with h1 | ⟨_,h2⟩
     ·unfold Oper.wp at h1
      rw [iF]at h1;rcases lU (P:=P) (ρ:=a.eval) hv w with⟨v,w2,LA⟩ | ⟨x,w2,LA⟩
      ·rw [LA]at h1
       obtain⟨_,h3,h4⟩:=h1;have hd':(bare o).dst=some d':=hd;rw [<- h3,hd',hd];simp [Act.put,hds]
      ·rw [LA]at h1
       cases x <;>simp only [Oper.upon]at h1
       case panic=>exact absurd h1.1 (by simp)
     ·obtain⟨_,_,h3,_⟩:=h2
      exact absurd h3 (by simp)
    rw [ha];exact nE hQ hs rest fuel _ _ _ (by omega) Ma hS hk
  ·refine oz (v:=undef) hkd ho (dN hs) hQ fuel listed a w (Region.free_spec ho hf) (by simpa using hr) Ml (.inr ⟨by rw [kY];exact hg,rfl⟩) hS ?_
   exact nE hQ hs rest fuel _ _ _ (by omega) Ma hS hk
 | (i,false)::rest,fuel+1,listed,a,w,hl,Ly,hS,h=>by
  simp only [qJ,bz,du,dt,dC]at Ly;obtain⟨⟨V,hr⟩,Ma⟩:=Ly;simp only [aF]at hl;refine⟨fun h0=>(by rw [hr]at h0;cases h0),fun j hj=>?_⟩;rw [hr]at hj;obtain rfl:j=i:=by simpa using hj
  have hlq:LetsOut (yF P ops.toList Q d) ->LetsOut Q:=fun⟨a,w,h⟩=>⟨a,w,h⟩;have h2:=kM (S:=S) (Q:=yF P ops.toList Q d) (K':=ny P ops Q S d fuel (listed.setIfInBounds j true)) (ops:=ops) (j:=j) hS (fun a w hS h=>nE hQ hs rest fuel _ a w (by omega) Ma hS h) h;exact xC (fun c a w h=>h) hlq (dW (fun a' w' h3=>⟨fun h=>absurd h V,fun _=>h3⟩) h2)
theorem eX {P:Program} {ops:List Oper} {Q:Exit ->Act ->World ->Prop} {id:Nat} {a:Act} {w:World} (S:World ->Prop) (d:Nat) (l:List (Nat × Bool)) (hm:P.follows .mixedOrders=true)
  (Ly:(qJ ops.toArray d l (Array.replicate ops.length false)&&Region.noSelect ops.toArray&&decide (l.length+1 <=ops.length))=true) (hS:S w.drew)
  (h:gC P ops (yF P ops (NoPanic Q) d) S l a w.drew):(Code.region id ops.toArray true).wp P Q a w:=by
 simp only [bz,db]at Ly;obtain⟨⟨Ly,hn⟩,hl⟩:=Ly;refine dH (wp_region_any hm (qU (S:=S) (d:=d) _ _ _ _ ?_));refine nE (S:=S) (fun c a w h=>h) hn l _ _ a _ ?_ ?_ hS ?_
 ·simpa using hl
 ·simpa using Ly
 ·simpa using h
theorem fP {P:Program} {ops:List Oper} {Q:Exit ->Act ->World ->Prop} {S:World ->Prop} {d:Nat} {a:Act} {w:World} {op:Op} {t:TypeId} {p:String} {af:Array Edge} {g:Option (Nat × Bool)} {dst:Option Tmp}
  (hi:nth ops d=some ⟨dst,op,t,p,af,g⟩) (hg:ko ops g a=true) (h:wpList P #[] (nK Q (fun _=>True) (Q .normal)) [⟨dst,op,t,p,#[],none⟩] a w):gC P ops (yF P ops Q d) S [] a w:=
 ⟨_,hi, .inl ⟨hg,h⟩⟩
theorem y9 (c d:fc) (u x u2 x2:Value) (w:World) (hu:ew 2 gw w u c.locals) (hx:ew 2 kq w x c.labels) (No:ew 2 gw w u2 d.locals) (OX:ew 2 kq w x2 d.labels):
  Calls prog 131 #[.agg #[.int .i64 c.fn, .int .i64 c.pc,u, .int .i64 c.base,x], .agg #[.int .i64 d.fn, .int .i64 d.pc,u2, .int .i64 d.base,x2]] w
   (fun e w'=>∃r:Bool,e= .returned (.bool r)/\(r=true↔c=d)/\Below w.heap.size w w'):=by
 have HU:=V hu;have HV:=V hx;have PF:=V No;have OD:=V OX;obtain⟨au,Lx,rfl,_,_,_⟩:=hu;obtain⟨ax,MC,rfl,_,_,_⟩:=hx;obtain⟨QA,Pm,rfl,_,_,_⟩:=No;obtain⟨ax2,Pn,rfl,_,_,_⟩:=OX;have hb:Below w.heap.size w ((w.alloc (.cells #[.int .i64 c.fn, .int .i64 c.pc, .slice au c.locals.length Lx, .int .i64 c.base, .slice ax c.labels.length MC] 40)).alloc (.cells #[.int .i64 d.fn, .int .i64 d.pc, .slice QA d.locals.length Pm, .int .i64 d.base, .slice ax2 d.labels.length Pn] 40)):=
  ((an w.heap.size w).alloc (ag _) _).alloc (by simp) _
 have MQ:eP ((w.alloc (.cells #[.int .i64 c.fn, .int .i64 c.pc, .slice au c.locals.length Lx, .int .i64 c.base, .slice ax c.labels.length MC] 40)).alloc (.cells #[.int .i64 d.fn, .int .i64 d.pc, .slice QA d.locals.length Pm, .int .i64 d.base, .slice ax2 d.labels.length Pn] 40)) w.heap.size #[.int .i64 c.fn, .int .i64 c.pc, .slice au c.locals.length Lx, .int .i64 c.base, .slice ax c.labels.length MC] 40:=(eP.new w _ _).alloc _;have N7:eP ((w.alloc (.cells #[.int .i64 c.fn, .int .i64 c.pc, .slice au c.locals.length Lx, .int .i64 c.base, .slice ax c.labels.length MC] 40)).alloc (.cells #[.int .i64 d.fn, .int .i64 d.pc, .slice QA d.locals.length Pm, .int .i64 d.base, .slice ax2 d.labels.length Pn] 40)) (w.heap.size+1) #[.int .i64 d.fn, .int .i64 d.pc, .slice QA d.locals.length Pm, .int .i64 d.base, .slice ax2 d.labels.length Pn] 40:=by
  have:=eP.new (w.alloc (.cells #[.int .i64 c.fn, .int .i64 c.pc, .slice au c.locals.length Lx, .int .i64 c.base, .slice ax c.labels.length MC] 40)) #[.int .i64 d.fn, .int .i64 d.pc, .slice QA d.locals.length Pm, .int .i64 d.base, .slice ax2 d.labels.length Pn] 40;rw [aE]at this;exact this
 go_enter func131,ntmps131;by_cases q1:c.fn=d.fn;rotate_left
 ·have f1:=ed q1
  have HX:=V (show c.fn≠d.fn from q1);clear q1;go_wp2_with fail;go_ret;exact⟨false,rfl,⟨fun h=>(by cases h),fun h=>(HX.out (by rw [h])).elim⟩,hb⟩
 have f1:=eQ q1;have Q1:=V q1;clear q1;by_cases q2:c.pc=d.pc;rotate_left
 ·have f2:=ed q2
  have HX:=V (show c.pc≠d.pc from q2);clear q2;go_wp2_with fail;go_ret;exact⟨false,rfl,⟨fun h=>(by cases h),fun h=>(HX.out (by rw [h])).elim⟩,hb⟩
 have f2:=eQ q2;have Q2:=V q2;clear q2;by_cases q3:c.base=d.base;rotate_left
 ·have f3:=ed q3
  have HX:=V (show c.base≠d.base from q3);clear q3;go_wp2_with fail;go_ret;exact⟨false,rfl,⟨fun h=>(by cases h),fun h=>(HX.out (by rw [h])).elim⟩,hb⟩
 have f3:=eQ q3;have Q3:=V q3;clear q3;go_wp2_with fail;refine(sz _ _ c.locals d.locals _ (HU.out.below (hb.mono (ag _))) (PF.out.below (hb.mono (ag _)))).mono ?_;rintro y w2 ⟨r,rfl,hr,Lr⟩;have Oa:=MQ.below Lr MQ.lt;have hby2:=N7.below Lr N7.lt;have LP:=hb.trans (Lr.mono hb.size);have NT:=V hr;obtain⟨x0,x1,x2,x3,x4⟩:=Oa.sr;obtain⟨y0,y1,y2,y3,y4⟩:=hby2.sr;clear hr Lr MQ N7 hb Oa hby2;cases r with
 | false=>
  go_wp2_with fail;go_ret;refine⟨false,rfl,⟨fun h=>(by cases h),fun h=>?_⟩,LP⟩;have g:=NT.out.2 (by rw [h]);simp at g
 | true=>
  go_wp2_with fail;refine(xU _ _ c.labels d.labels _ (HV.out.below (LP.mono (ag _))) (OD.out.below (LP.mono (ag _)))).mono ?_;rintro y w3 ⟨r2,rfl,OA,Mf⟩;have hb'':=LP.trans (Mf.mono LP.size);have Po:=V OA;clear OA Mf LP x0 x1 x2 x3 x4 y0 y1 y2 y3 y4;go_wp2_with fail;go_ret;refine⟨r2,rfl,⟨fun h=>?_,fun h=>Po.out.2 (by rw [h])⟩,hb''⟩;have g:=NT.out.1 (by simp);have g':=Po.out.1 h;obtain⟨p0,p1,p2,p3,p4⟩:=c;obtain⟨s0,s1,s2,s3,s4⟩:=d;have g1:=Q1.out;have g2:=Q2.out;have g3:=Q3.out;simp only at g g' g1 g2 g3;rw [g,g',g1,g2,g3]
theorem Al (va vb:Value) (la lb:List fc) (w:World) (ha:gr w va la) (hb:gr w vb lb):
  Calls prog 130 #[va,vb, .func (.func 131) #[] #[]] w (pC la lb w):=by
 have HA:=V ha;have HB:=V hb;obtain⟨a,cap,rfl,h1,h2⟩:=ha.slice;obtain⟨a2,Lu,rfl,h3,h4⟩:=hb.slice;clear ha hb;by_cases hlen:la.length=lb.length;rotate_left
 ·have f1:(((la.length:Int)) !=((lb.length:Int)))=true:=fw (by omega)
  have HL:=V hlen;clear hlen;go_enter func130,ntmps130;go_wp2_with fail;go_ret;exact⟨false,rfl,⟨fun h=>(by cases h),fun h=>absurd (cX List.length h) HL.out⟩,an _ _⟩
 rw [<- hlen]at h3 HB⊢;have HL:=V hlen;clear hlen;go_enter func130,ntmps130;go_wp2_with fail;refine eJ (fun a' w'=>∃(k:Nat),a'=fr (.slice a la.length cap:: .slice a2 la.length Lu:: .func (.func 131) #[] #[]::gs a' 3 12 (.slice a la.length cap:: .int .i64 la.length:: .int .i64 k::gs a' 18 14 []))/\zo la lb w w' k) (fun a' _=>(la.length - (intOf (a'.tmps.getD 17 undef)).toNat)) ?_ ?_
 ·exact⟨0,rfl,by omega,rfl,an _ _⟩
 ·skip
  rintro R a' w1 ⟨k,Lp,hJ⟩ HR;dsimp only [fr,gs]at Lp;generalize slot a'=f at Lp;subst Lp;obtain⟨hk,O3,hb⟩:=hJ;have HT:=V O3;clear O3;by_cases Mm:k < la.length;rotate_left
  ·obtain rfl:k=la.length:=by omega
   go_wp2_with fail;go_ret;refine⟨true,rfl,⟨fun _=>?_,fun _=>rfl⟩,hb⟩;have:=HT.out;rw [aV,HL.out,aV]at this;exact this
  obtain⟨c,he⟩:∃e,la[k]?=some e:=⟨_,aw Mm⟩;obtain⟨d,hd⟩:∃d,lb[k]?=some d:=⟨_,aw (by have:=HL.out;omega)⟩;obtain⟨b,off,u,x,rfl,Lw,⟨c0,c1,c2,c3,c4⟩,hu,hx,-⟩:=(HA.out.below (hb.mono (ag _))).get he;obtain⟨b2,LV,u2,x2,rfl,Nc,⟨d0,d1,d2,d3,d4⟩,No,OX,-⟩:=(HB.out.below (hb.mono (ag _))).get hd;have HU:=V hu;have HV:=V hx;have PF:=V No;have OD:=V OX;obtain⟨au,Lx,rfl,_,_,_⟩:=hu;obtain⟨ax,MC,rfl,_,_,_⟩:=hx;obtain⟨QA,Pm,rfl,_,_,_⟩:=No;obtain⟨ax2,Pn,rfl,_,_,_⟩:=OX;have HE:=V he;have HD:=V hd;clear he hd;have NF:Below w1.heap.size w1 (w1.alloc (.cells #[.int .i64 c.fn, .int .i64 c.pc, .slice au c.locals.length Lx, .int .i64 c.base, .slice ax c.labels.length MC] 40)):=(an w1.heap.size w1).alloc (ag _) _;have M5:Below w1.heap.size w1 ((w1.alloc (.cells #[.int .i64 c.fn, .int .i64 c.pc, .slice au c.locals.length Lx, .int .i64 c.base, .slice ax c.labels.length MC] 40)).alloc (.cells #[.int .i64 d.fn, .int .i64 d.pc, .slice QA d.locals.length Pm, .int .i64 d.base, .slice ax2 d.labels.length Pn] 40)):=NF.alloc (by simp) _;have e0:=(NF.cell (p:=⟨b2,LV+k*5,none⟩) Nc).trans d0;have e1:=(NF.cell (p:=⟨b2,LV+k*5+1,none⟩) Nc).trans d1;have e2:=(NF.cell (p:=⟨b2,LV+k*5+2,none⟩) Nc).trans d2;have e3:=(NF.cell (p:=⟨b2,LV+k*5+3,none⟩) Nc).trans d3;have e4:=(NF.cell (p:=⟨b2,LV+k*5+4,none⟩) Nc).trans d4;go_wp2_with fail;refine(y9 c d _ _ _ _ _ (HU.out.below M5) (HV.out.below M5) (PF.out.below M5) (OD.out.below M5)).mono ?_;rintro y w2 ⟨r,rfl,hr,Lr⟩;replace hb:=hb.trans ((M5.trans (Lr.mono M5.size)).mono hb.size);clear Lr M5 NF c0 c1 c2 c3 c4 d0 d1 d2 d3 d4 e0 e1 e2 e3 e4;have NT:=V hr;clear hr;cases r with
  | false=>
   go_wp2_with fail;go_ret;refine⟨false,rfl,⟨fun h=>(by cases h),fun h=>?_⟩,hb⟩;have h1:=HE.out;rw [h,HD.out]at h1;injection h1 with h1;exact NT.out.2 h1.symm
  | true=>
   go_wp2_with fail;refine HR.out _ _ ⟨k+1,rfl,by omega,?_,hb⟩ ?_
   ·rw [aR,aR,HT.out,HE.out,HD.out,NT.out.1 (by simp)]
   ·simp [intOf]
    omega
theorem sy (uv uf uv2 uf2:Value) (s t:gV) (w:World) (hs:jP w uv uf s) (ht:jP w uv2 uf2 t):
  Calls prog 81 #[.agg #[uv,uf, .int .i64 s.asks], .agg #[uv2,uf2, .int .i64 t.asks]] w
   (fun e w'=>∃r:Bool,e= .returned (.bool r)/\(r=true↔s=t)/\Below w.heap.size w w'):=by
 obtain⟨hv,hf,-⟩:=hs;obtain⟨M4,hf2,-⟩:=ht;have HV:=V hv;have HF:=V hf;have OD:=V M4;have HF2:=V hf2;obtain⟨av,LR,rfl,_,_,_⟩:=hv;obtain⟨af,Nd,rfl,_,_⟩:=hf.slice;obtain⟨PK,OK,rfl,_,_,_⟩:=M4;obtain⟨af2,OL,rfl,_,_⟩:=hf2.slice;clear hf hf2;have hb:Below w.heap.size w ((w.alloc (.cells #[.slice av s.ej.length LR, .slice af s.ey.length Nd, .int .i64 s.asks] 37)).alloc (.cells #[.slice PK t.ej.length OK, .slice af2 t.ey.length OL, .int .i64 t.asks] 37)):=
  ((an w.heap.size w).alloc (ag _) _).alloc (by simp) _
 have MQ:eP ((w.alloc (.cells #[.slice av s.ej.length LR, .slice af s.ey.length Nd, .int .i64 s.asks] 37)).alloc (.cells #[.slice PK t.ej.length OK, .slice af2 t.ey.length OL, .int .i64 t.asks] 37)) w.heap.size #[.slice av s.ej.length LR, .slice af s.ey.length Nd, .int .i64 s.asks] 37:=(eP.new w _ _).alloc _;have N7:eP ((w.alloc (.cells #[.slice av s.ej.length LR, .slice af s.ey.length Nd, .int .i64 s.asks] 37)).alloc (.cells #[.slice PK t.ej.length OK, .slice af2 t.ey.length OL, .int .i64 t.asks] 37)) (w.heap.size+1) #[.slice PK t.ej.length OK, .slice af2 t.ey.length OL, .int .i64 t.asks] 37:=by
  have:=eP.new (w.alloc (.cells #[.slice av s.ej.length LR, .slice af s.ey.length Nd, .int .i64 s.asks] 37)) #[.slice PK t.ej.length OK, .slice af2 t.ey.length OL, .int .i64 t.asks] 37;rw [aE]at this;exact this
 go_enter func81,ntmps81;by_cases q1:s.asks=t.asks;rotate_left
 ·have f1:=ed q1
  have HX:=V (show s.asks≠t.asks from q1);clear q1;go_wp2_with fail;go_ret;exact⟨false,rfl,⟨fun h=>(by cases h),fun h=>(HX.out (by rw [h])).elim⟩,hb⟩
 have f1:=eQ q1;have Q1:=V q1;clear q1;go_wp2_with fail;refine(sz _ _ s.ej t.ej _ (HV.out.below (hb.mono (ag _))) (OD.out.below (hb.mono (ag _)))).mono ?_;rintro y w2 ⟨r,rfl,hr,Lr⟩;have Oa:=MQ.below Lr MQ.lt;have hby2:=N7.below Lr N7.lt;have LP:=hb.trans (Lr.mono hb.size);have NT:=V hr;obtain⟨x0,x1,x2⟩:=Oa.three;obtain⟨y0,y1,y2⟩:=hby2.three;clear hr Lr MQ N7 hb Oa hby2;cases r with
 | false=>
  go_wp2_with fail;go_ret;refine⟨false,rfl,⟨fun h=>(by cases h),fun h=>?_⟩,LP⟩;have g:=NT.out.2 (by rw [h]);simp at g
 | true=>
  go_wp2_with fail;refine(Al _ _ s.ey t.ey _ (HF.out.below (LP.mono (ag _))) (HF2.out.below (LP.mono (ag _)))).mono ?_;rintro y w3 ⟨r2,rfl,OA,Mf⟩;have hb'':=LP.trans (Mf.mono LP.size);have Po:=V OA;clear OA Mf LP x0 x1 x2 y0 y1 y2;go_wp2_with fail;go_ret;refine⟨r2,rfl,⟨fun h=>?_,fun h=>Po.out.2 (by rw [h])⟩,hb''⟩;have g:=NT.out.1 (by simp);have g':=Po.out.1 h;obtain⟨p0,p1,p2⟩:=s;obtain⟨s0,s1,s2⟩:=t;have g1:=Q1.out;simp only at g g' g1;rw [g,g',g1]
def IS (s:gV) (w:World) (e:Ending) (w':World):Prop:=
 ∃v,e= .returned v/\Below w.heap.size w w'/\((s.may/\eg w' w.heap.size v (jd s))\/(¬ s.may/\v= .slice none 0 0))
def vH (s:gV):List UInt8:=jU s.ej++eY (s.asks+1).toNat++eY s.ey.length
def JT (s:gV) (w w':World) (v:Value) (k:Nat):Prop:=
 k <=s.ey.length/\eg w' (w.heap.size+1) v (vH s++ir (s.ey.take k))/\Below w.heap.size w w'
def J6 (L:List UInt8) (xL:List jD) (w w':World) (v:Value) (m:Nat):Prop:=
 m <=xL.length/\eg w' (w.heap.size+1) v (L++((xL.take m).map pN).flatten)/\Below w.heap.size w w'
theorem EH {α:Type} {k:Nat} {enc:α ->List Value} {w:World} {a:Option Addr} {n cap:Nat} {l:List α} (h:ew k enc w (.slice a n cap) l):l≠[] ->∀ad,a=some ad ->ad.block < w.heap.size:=by
 obtain⟨a',LO,hv,_,_,hc⟩:=h;injection hv with e1 e2 e3;subst e1;intro Nm ad ha;obtain⟨x,xs,Ri⟩:=List.exists_cons_of_ne_nil Nm;obtain⟨b1,off1,g1,g2,_⟩:=hc 0 x (by rw [Ri];rfl);rw [ha]at g1;injection g1 with g1;rw [g1];exact g2
theorem mF (uv uf:Value) (s:gV) (w:World) (LI:jP w uv uf s):
  Calls prog 78 #[.agg #[uv,uf, .int .i64 s.asks]] w (IS s w):=by
 have HS:=V LI;obtain⟨hv,hf,⟨o1,o2⟩,RV,Qm⟩:=id LI;obtain⟨av,LR,rfl,_,MR,_⟩:=id hv;obtain⟨af,Nd,rfl,_,Qk⟩:=hf.slice;unfold maxLen at MR;have HV:=V hv;have HF:=V hf;have HOV:=V RV;have P7:=V Qm;clear hv hf RV Qm;have LQ:Below w.heap.size w (w.alloc (.cells #[.slice av s.ej.length LR, .slice af s.ey.length Nd, .int .i64 s.asks] 37)):=(an _ _).alloc (ag _) _;have hbx0:=eP.new w #[.slice av s.ej.length LR, .slice af s.ey.length Nd, .int .i64 s.asks] 37;go_enter func78,ntmps78;go_wp2_with fail;refine(ow _ _ s _ (LI.below (LQ.mono (ag _)))).mono ?_;rintro x w1 ⟨rfl,hbm⟩;have hbx1:=hbx0.below hbm (by simp);have LC:=LQ.trans (hbm.mono LQ.size);have Rj:=hbm.size;simp only [aE]at Rj;clear hbm hbx0 LQ LI;by_cases hm:s.may;rotate_left
 ·have hr:decide s.may=false:=aq hm
  rw [hr];have HM:=V hm;clear hm hr;go_wp2_with fail;go_ret;exact⟨_,rfl,LC, .inr ⟨HM.out,rfl⟩⟩
 have hr:decide s.may=true:=aA hm;rw [hr];have HM:=V hm;obtain⟨m1,m2,m3,m4,-,-⟩:=hm;clear hr;obtain⟨n0,MZ⟩:∃n:Nat,s.asks+1=n:=⟨(s.asks+1).toNat,by omega⟩;have Pf:n0 <=10001:=by omega
 have HN:=V MZ;obtain⟨x0,x1,x2⟩:=hbx1.three;clear MZ;have hq:∀i,(⟨i,0,none⟩:Addr)=⟨i,0,none⟩:=fun _=>rfl;clear hq;have f0:s.asks+1=(n0:Int):=HN.out;go_wp2_with fail;refine eu (fun w'=>w'.cell? ⟨w.heap.size,0,none⟩=some (.slice av s.ej.length LR)/\w'.cell? ⟨w.heap.size,1,none⟩=some (.slice af s.ey.length Nd)/\w'.cell? ⟨w.heap.size,2,none⟩=some (.int .i64 s.asks))
  ((0,true)::(1,true)::up 3 3 (up 7 3 ((2,false)::(6,false)::(10,false)::(11,true)::[]))) (by kernel_rfl) (by kernel_rfl) ⟨x0,x1,x2⟩ ?_
 clear x0 x1 x2;iterate 8 (first | (apply sk rfl rfl;simp only [pt]) | (apply ef rfl rfl rfl;·(rintro w' ⟨t0,t1,t2⟩;go_wp2;exact⟨rfl,rfl,rfl⟩)))
 refine eo rfl rfl ?_;go_wp2_with fail;have hnx1:¬ eH (.slice none 0 0) w.heap.size:=by simp [eH,Value.ownBlock]
 refine(sE (.slice none 0 0) [] _ s.ej (w.heap.size+1) w1.drew (eg.nil _ _) (by simp) (by simp;omega) (HV.out.below (LC.drew.mono (ag _))) HM.out.2.2.2.2.1 HOV.out (by omega) (fun _ i hi=>by simp [eH,Value.ownBlock]at hi)).mono ?_;rintro x w2 ⟨v2,rfl,LL,Lv,LB⟩;have Oa:=hbx1.drew.keeps Lv hnx1;have hnx2:¬ eH v2 w.heap.size:=fun h=>by have:=(eE LL h).1;omega
 have Lr:Below w.heap.size w w2:=LC.drew.trans (Lv.below LC.size (fun i hi=>by simp [eH,Value.ownBlock]at hi));rw [bL]at LL;clear Lv LB hbx1;have hl2:(jU s.ej).length <=21000:=by
  have g1:=n5 s.ej HOV.out;have g2:=(eO s.ej.length).2;simp only [jU,ah];omega
 have OU:=Oa.lt;go_wp2_with fail;refine⟨Oa.three,?_⟩;refine eo rfl rfl ?_;go_wp2_with fail;refine(mc v2 _ n0 (by omega) (w.heap.size+1) w2 LL (by omega) (by omega)).mono ?_;rintro x w3 ⟨v3,rfl,MB,L5,M0⟩;have Qx:=Oa.keeps L5 hnx2;have hnx3:¬ eH v3 w.heap.size:=fun h=>(M0 _ h).elim hnx2 (fun g=>by have:=Oa.lt;(try simp at g this);omega);have Mf:Below w.heap.size w w3:=Lr.trans (L5.below Lr.size (fun i hi=>by have:=(eE LL hi).1;omega));clear L5 M0;have hl3:=(eO n0).2;have OV:=Qx.lt;go_wp2_with fail;refine⟨Qx.three,?_⟩;refine eo rfl rfl ?_;go_wp2_with fail;refine(mc v3 _ s.ey.length (by omega) (w.heap.size+1) w3 MB (by simp only [ah];omega) (by omega)).mono ?_;rintro x w4 ⟨v4,rfl,Nb,Pb,Nr⟩;have P8:=Qx.keeps Pb hnx3;have hnx4:¬ eH v4 w.heap.size:=fun h=>(Nr _ h).elim hnx3 (fun g=>by have:=Qx.lt;(try simp at g this);omega);have Nl:Below w.heap.size w w4:=Mf.trans (Pb.below Mf.size (fun i hi=>by have:=(eE MB hi).1;omega));clear Pb Nr;have hl4:=(eO s.ey.length).2;go_wp2_with fail;refine⟨P8.three,?_⟩;iterate 1 (first | (apply sk rfl rfl;simp only [pt]) | (apply ef rfl rfl rfl;·(rintro w' ⟨t0,t1,t2⟩;go_wp2;exact⟨rfl,rfl,rfl⟩)))
 refine eV ?_;refine aD ?_;obtain⟨x0,x1,x2⟩:=P8.three;have hhead:jU s.ej++eY n0++eY s.ey.length=vH s:=by rw [vH,f0];rfl
 have hlh:(vH s).length <=21020:=by rw [<- hhead];simp only [ah];omega
 rw [hhead]at Nb;clear hhead Oa Qx P8 hnx1 hnx2 hnx3 hnx4 LL MB Lr Mf hl2 hl3 hl4 f0;go_wp2_with fail;clear x0 x1 x2;refine eJ (fun a' w'=>∃(v:Value) (k:Nat),a'=fr (gs a' 0 3 (v::gs a' 4 19 (.slice af s.ey.length Nd:: .int .i64 s.ey.length:: .int .i64 k::gs a' 26 38 [])))/\JT s w w' v k) (fun a' _=>(s.ey.length - (intOf (a'.tmps.getD 25 undef)).toNat)) ?_ ?_
 ·exact⟨v4,0,rfl,by omega,by simpa [ir] using Nb,Nl⟩
 clear Nb Nl LC Rj OU OV;rintro R a' w5 ⟨v,k,Lp,hJ⟩ HR;dsimp only [fr,gs]at Lp;generalize slot a'=f at Lp;subst Lp;obtain⟨hk,ho,hb⟩:=hJ;by_cases Mm:k < s.ey.length;rotate_left
 ·obtain rfl:k=s.ey.length:=by omega
  go_wp2_with fail;go_ret;refine⟨v,rfl,hb, .inl ⟨HM.out,?_⟩⟩;rw [aV]at ho;have:=mW (base':=w.heap.size) ho (fun i hi=>by have:=(eE ho hi).1;omega);rw [jd];exact this
 obtain⟨g,he⟩:∃e,s.ey[k]?=some e:=⟨_,aw Mm⟩;obtain⟨b,off,u,x,rfl,Lw,⟨d0,d1,d2,d3,d4⟩,hu,hx,Ly⟩:=HF.out.get he;have c0:w5.cell? ⟨b,off+k*5,none⟩=some (.int .i64 g.fn):=by rw [hb.cell Lw];exact d0
 have c1:w5.cell? ⟨b,off+k*5+1,none⟩=some (.int .i64 g.pc):=by rw [hb.cell Lw];exact d1
 have c2:w5.cell? ⟨b,off+k*5+2,none⟩=some u:=by rw [hb.cell Lw];exact d2
 have c3:w5.cell? ⟨b,off+k*5+3,none⟩=some (.int .i64 g.base):=by rw [hb.cell Lw];exact d3
 have c4:w5.cell? ⟨b,off+k*5+4,none⟩=some x:=by rw [hb.cell Lw];exact d4
 have HU:=V hu;have HX:=V hx;obtain⟨au,Lx,rfl,_,hcu,_⟩:=id hu;obtain⟨ax,MC,rfl,hcx1,hcx,_⟩:=id hx;unfold maxLen at hcu hcx;have HUB:=V (EH hu);obtain⟨p1,p2,p3,p4,⟨p5,p6⟩,⟨p7,p8⟩,p9,p10⟩:=HM.out.2.2.2.2.2 g (aO he);have HP1:=V p1;have HP4:=V p4;have HOL:=V Ly.2.2.2.1;obtain⟨nf,hnf⟩:∃n:Nat,g.fn=n:=⟨g.fn.toNat,by omega⟩;obtain⟨np,hnp⟩:∃n:Nat,g.pc=n:=⟨g.pc.toNat,by omega⟩;obtain⟨nb,hnb⟩:∃n:Nat,g.base=n:=⟨g.base.toNat,by omega⟩;have HFB:=V (show oX g=jU g.locals++eY nf++eY np++eY nb++(eY g.labels.length++(g.labels.map pN).flatten)by rw [oX,Cp,hnf,hnp,hnb];rfl);have hlen:(vH s++ir (s.ey.take k)).length <=75000:=by
  have g2:=pw (s.ey.take k) (fun y hy=>⟨HM.out.2.2.2.2.2 y (cF hy),P7.out y (cF hy)⟩);have g3:(s.ey.take k).length <=32:=by rw [aS];omega
  rw [ah];omega
 have HE:=V he;rw [hnf]at c0 p5 p6;rw [hnp]at c1 p7 p8;rw [hnb]at c3 p9 p10;generalize hL:vH s++ir (s.ey.take k)=L at ho hlen;have HL:=V hL;have Ow:=(eP.new w5 #[.int .i64 nf, .int .i64 np, .slice au g.locals.length Lx, .int .i64 nb, .slice ax g.labels.length MC] 40).drew;have P9:¬ eH v w5.heap.size:=fun h=>by have:=(eE ho h).2;omega
 have hoa:=ho.keeps (((ee.refl (fun _=>False) w5).alloc (.cells #[.int .i64 nf, .int .i64 np, .slice au g.locals.length Lx, .int .i64 nb, .slice ax g.labels.length MC] 40)).drew) (fun _ _ h=>h);have NF:=(hb.alloc hb.size (.cells #[.int .i64 nf, .int .i64 np, .slice au g.locals.length Lx, .int .i64 nb, .slice ax g.labels.length MC] 40)).drew;have hba1:w.heap.size+1 <=w5.heap.size+1:=by have:=hb.size;omega
 clear hL d0 d1 d2 d3 d4 he Ly p1 p4 hnf hnp hnb hu hx ho hb;have HRO:=HR;clear HR;go_wp2_with fail;refine eu (fun w'=>w'.cell? ⟨w5.heap.size,0,none⟩=some (.int .i64 nf)/\w'.cell? ⟨w5.heap.size,1,none⟩=some (.int .i64 np)/\w'.cell? ⟨w5.heap.size,2,none⟩=some (.slice au g.locals.length Lx)/\w'.cell? ⟨w5.heap.size,3,none⟩=some (.int .i64 nb)/\w'.cell? ⟨w5.heap.size,4,none⟩=some (.slice ax g.labels.length MC))
  (up 0 3 ((4,true)::(5,true)::(7,true)::(8,true)::(10,true)::(11,true)::(3,false)::(6,false)::(9,false)::(12,false)::(13,true)::[])) (by kernel_rfl) (by kernel_rfl) Ow.sr ?_
 clear c0 c1 c2 c3 c4;obtain⟨Y,hY⟩:∃Y,Y=w5.heap.size:=⟨_,rfl⟩;rw [<- hY]at Ow P9 hba1⊢;clear hY;generalize(w5.alloc (.cells #[.int .i64 nf, .int .i64 np, .slice au g.locals.length Lx, .int .i64 nb, .slice ax g.labels.length MC] 40)).drew=wa at Ow hoa NF⊢;obtain⟨va,hva⟩:∃va,va=v:=⟨_,rfl⟩;have hszY:=Ow.lt;iterate 9 (first | (apply sk rfl rfl;simp only [pt]) | (apply ef rfl rfl rfl;·(rintro w' ⟨t0,t1,t2,t3,t4⟩;go_wp2;exact⟨rfl,rfl,rfl⟩)))
 refine eo rfl rfl ?_;go_wp2_with fail;subst hva;refine(sE va L _ g.locals (w.heap.size+1) wa hoa (by omega) (by omega) (HU.out.below (NF.mono (ag _))) HP4.out HOL.out (by omega) (fun Nm i hi a n cp he=>by
  injection he with e1 e2 e3;have:=HUB.out Nm a e1;have:=(eE hoa hi).1;omega)).mono ?_
 rintro x wb ⟨vb,rfl,hob,hkb,hsb⟩;have Pc:=Ow.keeps hkb P9;have Rk:¬ eH vb Y:=fun h=>(hsb _ h).elim P9 (fun q=>by omega);have M5:Below w.heap.size w wb:=NF.trans (hkb.below NF.size (fun i hi=>by have:=(eE hoa hi).1;omega));clear hkb hsb;have hlb:(L++jU g.locals).length <=76000:=by
  have g1:=n5 g.locals HOL.out;have g2:=(eO g.locals.length).2;simp only [jU,ah];omega
 have hszb:=Pc.lt;go_wp2_with fail;refine⟨Pc.sr,?_⟩;refine eo rfl rfl ?_;go_wp2_with fail;refine(mc vb _ nf (by omega) (w.heap.size+1) wb hob (by omega) (by omega)).mono ?_;rintro x wc ⟨vc,rfl,hoc,hkc,hsc⟩;have QB:=Pc.keeps hkc Rk;have hnxc:¬ eH vc Y:=fun h=>(hsc _ h).elim Rk (fun g=>by have:=Pc.lt;(try simp at g this);omega);have hbc:Below w.heap.size w wc:=M5.trans (hkc.below M5.size (fun i hi=>by have:=(eE hob hi).1;omega));clear hkc hsc;have hlc:=(eO nf).2;have hszc:=QB.lt;go_wp2_with fail;refine⟨QB.sr,?_⟩;refine eo rfl rfl ?_;go_wp2_with fail;refine(mc vc _ np (by omega) (w.heap.size+1) wc hoc (by simp only [ah]at*;omega) (by omega)).mono ?_;rintro x wd ⟨vd,rfl,hod,hkd,hsd⟩;have hbxd:=QB.keeps hkd hnxc;have hnxd:¬ eH vd Y:=fun h=>(hsd _ h).elim hnxc (fun g=>by have:=QB.lt;(try simp at g this);omega);have Ox:Below w.heap.size w wd:=hbc.trans (hkd.below hbc.size (fun i hi=>by have:=(eE hoc hi).1;omega));clear hkd hsd;have hld:=(eO np).2;have hszd:=hbxd.lt;go_wp2_with fail;refine⟨hbxd.sr,?_⟩;refine eo rfl rfl ?_;go_wp2_with fail;refine(mc vd _ nb (by omega) (w.heap.size+1) wd hod (by simp only [ah]at*;omega) (by omega)).mono ?_;rintro x we ⟨ve,rfl,hoe,hke,hse⟩;have hbxe:=hbxd.keeps hke hnxd;have hnxe:¬ eH ve Y:=fun h=>(hse _ h).elim hnxd (fun g=>by have:=hbxd.lt;(try simp at g this);omega);have Ql:Below w.heap.size w we:=Ox.trans (hke.below Ox.size (fun i hi=>by have:=(eE hod hi).1;omega));clear hke hse;have hle:=(eO nb).2;have hsze:=hbxe.lt;go_wp2_with fail;refine⟨hbxe.sr,?_⟩;iterate 1 (first | (apply sk rfl rfl;simp only [pt]) | (apply ef rfl rfl rfl;·(rintro w' ⟨t0,t1,t2,t3,t4⟩;go_wp2;exact⟨rfl,rfl,rfl⟩)))
 refine eV ?_;refine aD ?_;have hl5:(L++jU g.locals++eY nf++eY np++eY nb).length <=77000:=by simp only [ah]at*;omega
 clear Ow Pc QB hbxd P9 Rk hnxc hnxd hoa hob hoc hod NF M5 hbc Ox hlb hlc hld hle;obtain⟨x0,x1,x2,x3,x4⟩:=hbxe.sr;go_wp2_with fail;refine(mc ve _ g.labels.length (by omega) (w.heap.size+1) we hoe (by omega) (by omega)).mono ?_;rintro x wh ⟨vh,rfl,hoh,hkh,hsh⟩;have hbxh:=hbxe.keeps hkh hnxe;have hnxh:¬ eH vh Y:=fun h=>(hsh _ h).elim hnxe (fun g=>by have:=hbxe.lt;(try simp at g this);omega);have hbh:Below w.heap.size w wh:=Ql.trans (hkh.below Ql.size (fun i hi=>by have:=(eE hoe hi).1;omega));clear hkh hsh;have hlh2:=(eO g.labels.length).2;have hl6:(L++jU g.locals++eY nf++eY np++eY nb++eY g.labels.length).length <=77100:=by rw [ah];omega
 clear x0 x1 x2 x3 x4;obtain⟨x0,x1,x2,x3,x4⟩:=hbxh.sr;have hL2:vH s++ir (s.ey.take (k+1))=L++jU g.locals++eY nf++eY np++eY nb++eY g.labels.length++(g.labels.map pN).flatten:=by
  rw [aR,HE.out,Ah, <- aP,HL.out];simp [ir,HFB.out]
 have QY:=V hL2;clear hL2 hl5 Ql hoe hbxe hnxe hnxh;generalize L++jU g.locals++eY nf++eY np++eY nb++eY g.labels.length=L2 at QY hoh hl6;go_wp2_with fail;clear x0 x1 x2 x3 x4 hbxh;refine eJ (fun a' w'=>∃(v:Value) (m:Nat),a'=fr (gs a' 0 3 (v::gs a' 4 19 (.slice (some ⟨b,off,none⟩) s.ey.length Nd:: .int .i64 s.ey.length:: .int .i64 k::gs a' 26 22 (.slice ax g.labels.length MC:: .int .i64 g.labels.length:: .int .i64 m::gs a' 51 13 []))))/\J6 L2 g.labels w w' v m) (fun a' _=>(g.labels.length - (intOf (a'.tmps.getD 50 undef)).toNat)) ?_ ?_
 ·exact⟨vh,0,rfl,by omega,by simpa using hoh,hbh⟩
 clear hoh hbh hszY hszb hszc hszd hsze hba1;rintro R a' w5 ⟨v,m,Lp,hJ⟩ HR;dsimp only [fr,gs]at Lp;generalize slot a'=f at Lp;subst Lp;obtain⟨hm,ho,hb⟩:=hJ;by_cases hml:m < g.labels.length;rotate_left
 ·obtain rfl:m=g.labels.length:=by omega
  go_wp2_with fail;refine HRO.out _ _ ⟨v,k+1,rfl,by omega,?_,hb⟩ ?_
  ·rw [QY.out]
   rw [aV]at ho;exact ho
  ·simp [intOf]
   omega
 obtain⟨e,hee⟩:∃e,g.labels[m]?=some e:=⟨_,aw hml⟩;obtain⟨a',LO,hva,_,_,Ln⟩:=HX.out.below (hb.mono (ag _));injection hva with e1 e2 e3;subst e1 e3;obtain⟨bl,offl,rfl,hltl,PD⟩:=Ln m e hee;have y0:=PD 0 _ rfl;have y1:=PD 1 _ rfl;rw [aK]at y0;obtain⟨⟨r1,r2⟩,r3,r4⟩:=HP1.out e (aO hee);obtain⟨na,hna⟩:∃n:Nat,e.pos=n:=⟨e.pos.toNat,by omega⟩;obtain⟨nh,hnh⟩:∃n:Nat,e.eR=n:=⟨e.eR.toNat,by omega⟩;have HLB:=V (show pN e=eY na++eY nh by rw [pN,hna,hnh];rfl);rw [hna]at y0 r1 r2;rw [hnh]at y1 r3 r4;have hlen2:(L2++((g.labels.take m).map pN).flatten).length <=78000:=by
  have q1:=uR (g.labels.take m);have q2:(g.labels.take m).length <=40:=by rw [aS];omega
  rw [ah];omega
 have HEE:=V hee;generalize hL3:L2++((g.labels.take m).map pN).flatten=L3 at ho hlen2;have HL3:=V hL3;have Ow:=(eP.new w5 #[.int .i64 na, .int .i64 nh] 46).drew;have P9:¬ eH v w5.heap.size:=fun h=>by have:=(eE ho h).2;omega
 have hoa:=ho.keeps (((ee.refl (fun _=>False) w5).alloc (.cells #[.int .i64 na, .int .i64 nh] 46)).drew) (fun _ _ h=>h);have NF:=(hb.alloc hb.size (.cells #[.int .i64 na, .int .i64 nh] 46)).drew;have hba1:w.heap.size+1 <=w5.heap.size+1:=by have:=hb.size;omega
 clear hL3 Ln PD e2 hee hna hnh ho hb;go_wp2_with fail;refine eu (fun w'=>w'.cell? ⟨w5.heap.size,0,none⟩=some (.int .i64 na)/\w'.cell? ⟨w5.heap.size,1,none⟩=some (.int .i64 nh)) (up 0 3 ((4,true)::(5,true)::(3,false)::(6,false)::(7,true)::[])) (by kernel_rfl) (by kernel_rfl) ⟨Ow.cell 0,Ow.cell 1⟩ ?_;clear y0 y1;obtain⟨Z,hZ⟩:∃Z,Z=w5.heap.size:=⟨_,rfl⟩;rw [<- hZ]at Ow P9 hba1⊢;clear hZ;generalize(w5.alloc (.cells #[.int .i64 na, .int .i64 nh] 46)).drew=wa at Ow hoa NF⊢;have hszZ:=Ow.lt;iterate 5 (first | (apply sk rfl rfl;simp only [pt]) | (apply ef rfl rfl rfl;·(rintro w' ⟨t0,t1⟩;go_wp2;exact⟨rfl,rfl,rfl⟩)))
 refine eo rfl rfl ?_;go_wp2_with fail;refine(mc v _ na (by omega) (w.heap.size+1) wa hoa (by omega) (by omega)).mono ?_;rintro x wb ⟨vb,rfl,hob,hkb,hsb⟩;have Pc:=Ow.keeps hkb P9;have Rk:¬ eH vb Z:=fun h=>(hsb _ h).elim P9 (fun g=>by have:=Ow.lt;(try simp at g this);omega);have M5:Below w.heap.size w wb:=NF.trans (hkb.below NF.size (fun i hi=>by have:=(eE hoa hi).1;omega));clear hkb hsb;have hlb:=(eO na).2;have hszb:=Pc.lt;go_wp2_with fail;refine⟨⟨Pc.cell 0,Pc.cell 1⟩,?_⟩;refine eo rfl rfl ?_;go_wp2_with fail;refine(mc vb _ nh (by omega) (w.heap.size+1) wb hob (by simp only [ah]at*;omega) (by omega)).mono ?_;rintro x wc ⟨vc,rfl,hoc,hkc,hsc⟩;have QB:=Pc.keeps hkc Rk;have hnxc:¬ eH vc Z:=fun h=>(hsc _ h).elim Rk (fun g=>by have:=Pc.lt;(try simp at g this);omega);have hbc:Below w.heap.size w wc:=M5.trans (hkc.below M5.size (fun i hi=>by have:=(eE hob hi).1;omega));clear hkc hsc;clear Ow Pc P9 Rk hoa hob NF M5;go_wp2_with fail;refine⟨⟨QB.cell 0,QB.cell 1⟩,?_⟩;iterate 1 (first | (apply sk rfl rfl;simp only [pt]) | (apply ef rfl rfl rfl;·(rintro w' ⟨t0,t1⟩;go_wp2;exact⟨rfl,rfl,rfl⟩)))
 refine eV ?_;refine aD ?_;go_wp2_with fail;refine HR.out _ _ ⟨vc,m+1,rfl,by omega,?_,hbc⟩ ?_
 ·have e1:L2++((g.labels.take (m+1)).map pN).flatten=L3++eY na++eY nh:=by
   rw [<- HL3.out,aR,HEE.out];simp [HLB.out]
  rw [e1];exact hoc
 ·simp [intOf]
  omega
def EJ (l m:List UInt8) (w:World) (e:Ending) (w':World):Prop:=e= .returned (.bool (l==m))/\w=w'
theorem sY (a b:Value) (l m:List UInt8) (w:World) (ha:eW w a l) (hb:eW w b m):
  Calls prog 112 #[a,b] w (EJ l m w):=by
 have h1:=qa ha;have h2:=qa hb;clear ha hb;go_enter func112,ntmps112;go_wp2;go_ret;exact⟨by rw [lR,lR];rfl,rfl⟩
def vM (B:Nat) (w:World) (v u:Value):Prop:=∀a n cap,u= .slice (some a) n cap ->B <=a.block/\a.block < w.heap.size/\¬ eH v a.block
def ic (w:World) (B:Nat) (v:Value) (l:List fc):Prop:=
 ∃us:List (Value × Value),us.length=l.length/\ea 40 5 mg w B v (l.zip us)/\(∀f∈l,f.ok)/\
  ∀(i:Nat) (f:fc) (u:Value × Value),l[i]?=some f ->us[i]?=some u ->(ew 2 gw w u.1 f.locals/\vM B w v u.1)/\ew 2 kq w u.2 f.labels/\vM B w v u.2
theorem ic.nil (w:World) (B:Nat):ic w B (.slice none 0 0) []:=⟨[],rfl,ea.nil _ _,by simp,by simp⟩
theorem ic.kp {w:World} {B:Nat} {v:Value} {l:List fc} (h:ic w B v l):gr w v l:=by
 obtain⟨us,h1,h2,h3,h4⟩:=h;exact⟨us,h1,h2.fR iH,fun i f u hf hu=>⟨(h4 i f u hf hu).1.1,(h4 i f u hf hu).2.1⟩,h3⟩
theorem ic.lt {w:World} {B:Nat} {v:Value} {l:List fc} (h:ic w B v l) {i:Nat} (hi:eH v i):B <=i/\i < w.heap.size:=by
 obtain⟨us,h1,h2,h3,h4⟩:=h;exact eE h2 hi
theorem ic.keeps {w w':World} {B:Nat} {v:Value} {l:List fc} {T:Nat ->Prop} (h:ic w B v l) (hk:ee T w w') (hT:∀i,T i ->i < B):ic w' B v l:=by
 obtain⟨us,h1,h2,h3,h4⟩:=h;refine⟨us,h1,h2.keeps hk (fun i hi hj=>by have:=(eE h2 hi).1;have:=hT i hj;omega),h3,fun i f u hf hu=>?_⟩;have conv:∀x,vM B w v x ->vM B w' v x:=fun x hx a n cap he=>by
  obtain⟨g1,g2,g3⟩:=hx a n cap he;exact⟨g1,bK g2 hk.size,g3⟩
 have away:∀x,vM B w v x ->∀a n cap,x= .slice (some a) n cap ->¬ T a.block:=fun x hx a n cap he hj=>by
  have:=(hx a n cap he).1;have:=hT _ hj;omega
 obtain⟨⟨g1,g2⟩,g3,g4⟩:=h4 i f u hf hu;exact⟨⟨g1.keeps hk (away _ g2),conv _ g2⟩,g3.keeps hk (away _ g4),conv _ g4⟩
theorem ic.app {w w':World} {B:Nat} {v v':Value} {l:List fc} {us:List (Value × Value)} (h1:us.length=l.length) (h3:∀f∈l,f.ok)
  (h4:∀(i:Nat) (f:fc) (u:Value × Value),l[i]?=some f ->us[i]?=some u ->(ew 2 gw w u.1 f.locals/\vM B w v u.1)/\ew 2 kq w u.2 f.labels/\vM B w v u.2)
  (hk:ee (eH v) w w') (hs:eM w v v') {f:fc} {u:Value × Value} (hf:f.ok)
  (hu:(ew 2 gw w u.1 f.locals/\vM B w v u.1)/\ew 2 kq w u.2 f.labels/\vM B w v u.2)
  (ho:ea 40 5 mg w' B v' (l.zip us++[(f,u)])):ic w' B v' (l++[f]):=by
 have key:∀a:Addr,a.block < w.heap.size ->¬ eH v a.block ->¬ eH v' a.block:=fun a h1 h2 h3=>(hs _ h3).elim h2 (fun g=>by omega);have conv:∀x,vM B w v x ->vM B w' v' x:=fun x hx a n cap he=>by
  obtain⟨g1,g2,g3⟩:=hx a n cap he;exact⟨g1,bK g2 hk.size,key a g2 g3⟩
 have away:∀x,vM B w v x ->∀a n cap,x= .slice (some a) n cap ->¬ eH v a.block:=fun x hx a n cap he=>(hx a n cap he).2.2;refine⟨us++[u],by simp [h1],?_,?_,?_⟩
 ·rw [dq h1.symm]
  exact ho
 ·intro d hd
  rcases aZ.1 hd with h | h
  ·exact h3 d h
  ·obtain rfl:=aQ.1 h
   exact hf
 ·intro i d x hd hx
  have all:∀(d:fc) (x:Value × Value),((ew 2 gw w x.1 d.locals/\vM B w v x.1)/\ew 2 kq w x.2 d.labels/\vM B w v x.2) ->
    (ew 2 gw w' x.1 d.locals/\vM B w' v' x.1)/\ew 2 kq w' x.2 d.labels/\vM B w' v' x.2:=by
   rintro d x ⟨⟨g1,g2⟩,g3,g4⟩;exact⟨⟨g1.keeps hk (away _ g2),conv _ g2⟩,g3.keeps hk (away _ g4),conv _ g4⟩
  rcases bD i l.length with h | h
  ·rw [bm h]at hd
   rw [bm (by omega)]at hx;exact all d x (h4 i d x hd hx)
  ·rw [bp h]at hd
   rw [bp (by omega),h1]at hx;have hi:i - l.length=0:=by
    rcases aY (i - l.length)with g | g
    ·exact g
    ·rw [dn (by simp only [aB];omega)]at hd
     cases hd
   rw [hi]at hd hx;simp at hd hx;subst hd hx;exact all f u hu
theorem oO:(prog.info? 46).map (fun i=>(i.zero,i.size,i.bytes))=some (some (.agg #[.int .i64 0, .int .i64 0]),2,16):=by kernel_rfl
theorem ns:(prog.info? 40).map (fun i=>(i.zero,i.size,i.bytes))=some (some (.agg #[.int .i64 0, .int .i64 0, .slice none 0 0, .int .i64 0, .slice none 0 0]),5,72):=by kernel_rfl
theorem eP.wV {w:World} {X:Nat} {u v:Value} {n:Int} {t:TypeId} (h:eP w X #[u,v, .int .i64 n] t):
  (loadVar 37 ⟨X,0,none⟩).run prog w= .ok (.agg #[u,v, .int .i64 n]) w:=by
 have hs:(prog.underlying 37).map (fun d=>match d with | .struct _ | .array _ _=>true | _=>false)=some true:=by kernel_rfl
 obtain⟨d,h1,h2⟩:=bC.1 hs;exact bZ w X t 37 _ _ d h h1 (by cases d <;>first | rfl | (exfalso;simp at h2)) (by kernel_rfl)
def IV (l:List UInt8) (w:World) (e:Ending) (w':World):Prop:=
 Below w.heap.size w w'/\∃uv uf s err,e= .returned (.tuple #[.agg #[uv,uf, .int .i64 s.asks], .int .i64 err])/\jP w' uv uf s/\
  ((err=0/\s.may/\jd s=l)\/(err=11/\s=⟨[],[],0⟩/\¬ ∃s:gV,s.may/\s.ok/\jd s=l))
def Kr (B0 Rb F:Nat) (cs:Value ->Array Value) (k0:Nat) (Ig:Option (List UInt8)) (w5 w':World) (v:Value) (acc:List jD) (n:Nat) (st:Option (List UInt8)):Prop:=
 n4 k0 Ig=(acc++(n4 n st).1,(n4 n st).2)/\ea 46 2 kq w' (F+1) v acc/\(∀x∈acc,x.ok)/\acc.length+ou st <=ou Ig/\Rd B0 w' Rb st/\
  eP w' F (cs v) 40/\ee (fun k=>k=Rb) w5 w'/\n < 4611686018427387904
def Kz (l:List UInt8) (ej:List fm) (asks:Int) (uv:Value) (C Rb Sb:Nat) (w w':World) (v:Value) (acc:List fc) (n:Nat) (st:Option (List UInt8)):Prop:=
 qS (some l)=(⟨ej,acc++(ki n st).1,asks⟩,(ki n st).2)/\ic w' (Sb+1) v acc/\acc.length+ou st <=l.length+1/\Rd w.heap.size w' Rb st/\
  eP w' C #[.slice none 0 0, .slice none 0 0, .int .i64 0] 37/\eP w' Sb #[uv,v, .int .i64 asks] 37/\ew 2 gw w' uv ej/\Below w.heap.size w w'/\n < 4611686018427387904
theorem eP.Dm {w:World} {X:Nat} {t:TypeId} {x0 x1 x2:Value} (h:eP w X #[x0,x1,x2] t) (y0 y1 y2:Value):
  eP (((w.setCell ⟨X,0,none⟩ y0).setCell ⟨X,1,none⟩ y1).setCell ⟨X,2,none⟩ y2) X #[y0,y1,y2] t:=by
 have:=((h.set 0 y0).set 1 y1).set 2 y2;simpa using this
theorem jh (w:World) (X i:Nat) (v:Value):ee (fun k=>k=X) w (w.setCell ⟨X,i,none⟩ v):=⟨rfl,rfl,rfl,by simp,fun k _ hk=>cM w ⟨X,i,none⟩ v k hk⟩
theorem wW (w:World) (X:Nat) (y0 y1 y2:Value):ee (fun k=>k=X) w (((w.setCell ⟨X,0,none⟩ y0).setCell ⟨X,1,none⟩ y1).setCell ⟨X,2,none⟩ y2):=
 ((jh w X 0 y0).trans (jh _ X 1 y1) (fun _ h=> .inl h)).trans (jh _ X 2 y2) (fun _ h=> .inl h)
theorem En (st:Option (List UInt8)):ou (fS st).2+1 <=max 1 (ou st):=by
 cases st with
 | none=>simp [fS,ou]
 | some l=>have:=tz l;omega
theorem rA (b:Value) (l:List UInt8) (w:World) (hb:eW w b l) (Pa:l.length <=400000):Calls prog 77 #[b] w (IV l w):=by
 obtain⟨a,cap,rfl,Mk,NZ,LN⟩:=id hb;have HB:=V hb;have hB0:l≠[] ->∀ad,a=some ad ->ad.block < w.heap.size:=by
  intro Nm ad ha;obtain⟨x,xs,Ri⟩:=List.exists_cons_of_ne_nil Nm;obtain⟨g,off,g1,g2⟩:=LN 0 x (by rw [Ri];rfl);rw [ha]at g1;injection g1 with g1;rw [g1];exact aT w _ g2
 unfold maxLen at NZ;clear LN;have hz:eP (w.alloc (.cells #[.slice none 0 0, .slice none 0 0, .int .i64 0] 37)) w.heap.size #[.slice none 0 0, .slice none 0 0, .int .i64 0] 37:=eP.new w _ _;have LC:Below w.heap.size w (w.alloc (.cells #[.slice none 0 0, .slice none 0 0, .int .i64 0] 37)):=(an _ _).alloc (ag _) _;have hi1:eW (w.alloc (.cells #[.slice none 0 0, .slice none 0 0, .int .i64 0] 37)) (.slice a l.length cap) l:=hb.below LC;have Rj:(w.alloc (.cells #[.slice none 0 0, .slice none 0 0, .int .i64 0] 37)).heap.size=w.heap.size+1:=aE _ _;clear hb;go_enter func77,ntmps77;go_wp2_with fail;rw [show w.heap.size+1=(w.alloc (.cells #[.slice none 0 0, .slice none 0 0, .int .i64 0] 37)).heap.size from Rj.symm];generalize w.alloc (.cells #[.slice none 0 0, .slice none 0 0, .int .i64 0] 37)=w0 at hz LC hi1 Rj⊢;have hC0:w.heap.size < w0.heap.size:=by omega
 have hC0':w0.heap.size < w.heap.size+2:=by omega
 clear Rj;have Mo:Rd w.heap.size (w0.alloc (.cells #[.slice a l.length cap, .bool false] 203)) w0.heap.size (some l):=
  ⟨a,l.length,cap,eP.new w0 _ _,l,hB0,hi1.below ((an _ _).alloc (ag _) _),fun l' h=>by injection h with h;exact h.symm⟩
 have HRD0:=V Mo;clear Mo hB0 hi1;obtain⟨ej,s1,e1⟩:∃x t,jo (some l)=(x,t):=⟨_,_,rfl⟩;obtain⟨xa,s2,e2⟩:∃x t,fS s1=(x,t):=⟨_,_,rfl⟩;obtain⟨n0,s3,e3⟩:∃x t,fS s2=(x,t):=⟨_,_,rfl⟩;have ba:=lZ s1;have bn:=lZ s2;have ta:=nt s1;have tn:=nt s2;rw [e2]at ba ta;rw [e3]at bn tn;simp only at ba bn ta tn;have NW:=hz.alloc (.cells #[.slice a l.length cap, .bool false] 203);have LQ:=LC.alloc (by omega) (.cells #[.slice a l.length cap, .bool false] 203);have hszr:(w0.alloc (.cells #[.slice a l.length cap, .bool false] 203)).heap.size=w0.heap.size+1:=aE _ _;refine(xi w.heap.size w0.heap.size (some l) _ HRD0.out (by simp only [ou];omega) (by rw [hszr];omega)).mono ?_;rintro x w1 ⟨u,rfl,hou,hvo,Oo,P3,MA⟩;rw [hszr]at hou;rw [e1]at hou hvo Oo P3;rw [show ou (some l)=l.length+1 from rfl]at Oo;simp only at hou hvo Oo P3;have N0:=MA.size;rw [hszr]at N0;have hui:=hou.fR gB;have hub:=hou.block;obtain⟨au,Lx,rfl,-,hcu,-⟩:=id hui;unfold maxLen at hcu;have HVO:=V hvo;have hC1:=NW.keeps MA (by omega);have Lr:=LQ.trans (MA.below (by rw [hszr];omega) (fun i h=>by omega));clear hou hvo MA NW LQ hszr hz LC;go_wp2_with fail;refine(kr w.heap.size w0.heap.size s1 w1 P3).mono ?_;rintro x w2 ⟨rfl,OA,Lv⟩;rw [e2]at OA⊢;have OU:=Lv.size;have Mf:=Lr.trans (Lv.below (by omega) (fun i h=>by omega));have Nv:=hC1.keeps Lv (by omega);have No:=hui.keeps Lv (fun a n cp he hj=>by have:=(hub a n cp he).1;omega);have HUB:=V (show∀a n cp,Value.slice au ej.length Lx= .slice (some a) n cp ->w0.heap.size < a.block/\a.block < w2.heap.size from fun a n cp he=>by have:=hub a n cp he;omega);clear P3 Lv hC1 hui hub Lr;go_wp2_with fail;have hia:∃asks:Int,(xa:Int) - 1=asks:=⟨_,rfl⟩;obtain⟨asks,N1⟩:=hia;have ha1: -1 <=asks:=by omega
 have ha2:asks < 4611686018427387904:=by omega
 rw [N1];have HAS:=V N1;clear N1;have hS0:=eP.new w2 #[.slice au ej.length Lx, .slice none 0 0, .int .i64 asks] 37;have hC3:=Nv.alloc (.cells #[.slice au ej.length Lx, .slice none 0 0, .int .i64 asks] 37);have Nl:=Mf.alloc (by omega) (.cells #[.slice au ej.length Lx, .slice none 0 0, .int .i64 asks] 37);have NN:=(an w2.heap.size w2).alloc (ag _) (.cells #[.slice au ej.length Lx, .slice none 0 0, .int .i64 asks] 37);have Rh:=OA.below NN;have hu3:=No.below NN;have hszs:(w2.alloc (.cells #[.slice au ej.length Lx, .slice none 0 0, .int .i64 asks] 37)).heap.size=w2.heap.size+1:=aE _ _;generalize hSb:w2.heap.size=Sb at hS0 hszs HUB OU Mf⊢;generalize w2.alloc (.cells #[.slice au ej.length Lx, .slice none 0 0, .int .i64 asks] 37)=w3 at hS0 hC3 Nl Rh hu3 hszs⊢;clear NN OA No Nv Mf hSb;refine(kr w.heap.size w0.heap.size s2 w3 Rh).mono ?_;rintro x w4 ⟨rfl,hr4,Pb⟩;rw [e3]at hr4⊢;have hS4:=hS0.keeps Pb (by omega);have hC4:=hC3.keeps Pb (by omega);have Mw:=Nl.trans (Pb.below (by omega) (fun i h=>by omega));have hu4:=hu3.keeps Pb (fun a n cp he hj=>by have:=(HUB.out a n cp he).1;omega);have hSlt:=hS4.lt;have hs0:w0.heap.size+1 <=Sb:=by omega
 clear Pb hS0 hC3 Nl Rh hu3 hszs;go_wp2_with fail;refine eJ (fun a' w'=>∃(v:Value) (acc:List fc) (n:Nat) (s:Option (List UInt8)),a'=fr (.slice a l.length cap::gs a' 1 1 (.pointer (some ⟨w.heap.size,0,none⟩):: .int .i64 0:: .pointer (some ⟨w0.heap.size,0,none⟩):: .pointer (some ⟨Sb,0,none⟩):: .int .i64 n::gs a' 7 81 []))/\Kz l ej asks (.slice au ej.length Lx) w.heap.size w0.heap.size Sb w w' v acc n s) (fun a' _=>(intOf (a'.tmps.getD 6 undef)).toNat) ?_ ?_
 ·refine⟨_,[],n0,s3,rfl,⟨?_,ic.nil _ _,?_,hr4,hC4,hS4,hu4,Mw,bn⟩⟩
  ·rw [qS,e1,e2,e3]
   simp only [bL,HAS.out]
  ·simp only [aL]
   omega
 ·clear hr4 hC4 hS4 hu4 Mw bn ba ta tn Oo N0 OU hSlt e1 e2 e3 HAS
  rintro R a' w1 ⟨v,acc,n,s,Lp,hJ⟩ HR;dsimp only [fr,gs]at Lp;generalize slot a'=f at Lp;subst Lp;obtain⟨hv,Qm,hlen,Mo,hC,hS,hu,hb,hn⟩:=hJ;obtain⟨av,LR,rfl,_,MR⟩:=Qm.kp.slice;have L4:=V Mo;have P7:=V Qm;obtain⟨ar,nr,P4,LK,_⟩:=Mo;have c1:w1.cell? ⟨w0.heap.size,1,none⟩=some (.bool s.isNone):=LK.cell 1;have Nf:=LK.lt;have hSlt:=hS.lt;clear LK Qm;rcases aY n with MZ | MZ
  ·subst MZ
   rw [ki,bO]at hv;cases s with
   | none=>
    skip
    have HC:=V (show qS (some l)=(⟨ej,acc,asks⟩,(none:Option (List UInt8)))from hv);have key:∀y:gV,y.may ->y.ok ->jd y=l ->y=⟨ej,acc,asks⟩/\(none:Option (List UInt8))=some []:=by
     intro y h1 h2 h3;have h4:=nd y h1 h2;rw [h3,HC.out]at h4;injection h4 with h4 h5;exact⟨h4.symm,h5⟩
    have KEY:=V key;have LI:jP w1 (.slice au ej.length Lx) (.slice av acc.length LR) ⟨ej,acc,asks⟩:=⟨hu,P7.out.kp,⟨by show(-9223372036854775808:Int) <=asks;omega,by show asks <=9223372036854775807;omega⟩,HVO.out,by obtain⟨_,_,_,h,_⟩:=P7.out;exact h⟩;have Ls:=V LI;obtain⟨s0,s1,s2⟩:=hS.three;clear key hv hlen LI HC;go_wp2_with fail;refine(mF _ _ ⟨ej,acc,asks⟩ w1 Ls.out).mono ?_;rintro x w2 ⟨c,rfl,Lr,hc⟩;obtain⟨ar,nr,P4,QC,-⟩:=L4.out.below Lr;have d1:w2.cell? ⟨w0.heap.size,1,none⟩=some (.bool true):=QC.cell 1;have Nv:=hC.below Lr hC.lt;obtain⟨c0',c1',c2'⟩:=Nv.three;have z0:=Nv.free 0;have z1:=Nv.free 1;have z2:=Nv.free 2;have Rl:=hS.below Lr hS.lt;obtain⟨s0',s1',s2'⟩:=Rl.three;have Ml:=HB.out.below ((hb.trans (Lr.mono hb.size)).mono (ag _));have HBL:=V Ml;have Nx:=V Lr.size;have HOF2:=V (P7.out.keeps (T:=fun _=>False) (ee.eh Lr) (fun _ h=>h.elim));have PF:=V (hu.below Lr);replace hb:=hb.trans (Lr.mono hb.size);clear QC Ml Lr c1 hC s0 s1 s2 hu hS;clear hc;go_wp2_with fail;have hx:=Nv.Dm (.slice none 0 0) (.slice none 0 0) (.int .i64 0);refine aN (fu rfl _ _ rfl hx.wV) rfl ?_;refine⟨((hb.setCell (ag _) _).setCell (ag _) _).setCell (ag _) _,_,_,⟨[],[],0⟩,_,rfl,⟨ew.nil _,gr.nil _,⟨by show(-9223372036854775808:Int) <=0;omega,by show(0:Int) <=9223372036854775807;omega⟩,by simp,by simp⟩, .inr ⟨rfl,rfl,?_⟩⟩;rintro⟨s,g1,g2,g3⟩;have:=(KEY.out s g1 g2 g3).2;cases this
   | some s=>
    skip
    have HC:=V (show qS (some l)=(⟨ej,acc,asks⟩,some s)from hv);have key:∀y:gV,y.may ->y.ok ->jd y=l ->y=⟨ej,acc,asks⟩/\some s=some []:=by
     intro y h1 h2 h3;have h4:=nd y h1 h2;rw [h3,HC.out]at h4;injection h4 with h4 h5;exact⟨h4.symm,h5⟩
    have KEY:=V key;have LI:jP w1 (.slice au ej.length Lx) (.slice av acc.length LR) ⟨ej,acc,asks⟩:=⟨hu,P7.out.kp,⟨by show(-9223372036854775808:Int) <=asks;omega,by show asks <=9223372036854775807;omega⟩,HVO.out,by obtain⟨_,_,_,h,_⟩:=P7.out;exact h⟩;have Ls:=V LI;obtain⟨s0,s1,s2⟩:=hS.three;clear key hv hlen LI HC;go_wp2_with fail;refine(mF _ _ ⟨ej,acc,asks⟩ w1 Ls.out).mono ?_;rintro x w2 ⟨c,rfl,Lr,hc⟩;obtain⟨ar,nr,P4,QC,-⟩:=L4.out.below Lr;have d1:w2.cell? ⟨w0.heap.size,1,none⟩=some (.bool false):=QC.cell 1;have Nv:=hC.below Lr hC.lt;obtain⟨c0',c1',c2'⟩:=Nv.three;have z0:=Nv.free 0;have z1:=Nv.free 1;have z2:=Nv.free 2;have Rl:=hS.below Lr hS.lt;obtain⟨s0',s1',s2'⟩:=Rl.three;have Ml:=HB.out.below ((hb.trans (Lr.mono hb.size)).mono (ag _));have HBL:=V Ml;have Nx:=V Lr.size;have HOF2:=V (P7.out.keeps (T:=fun _=>False) (ee.eh Lr) (fun _ h=>h.elim));have PF:=V (hu.below Lr);replace hb:=hb.trans (Lr.mono hb.size);clear QC Ml Lr c1 hC s0 s1 s2 hu hS;rcases hc with⟨hm,hoc⟩ | ⟨hm,rfl⟩
    ·have HM:=V hm
     obtain⟨g,OY,rfl,PE,NY,hg3,hg4,_,_⟩:=hoc.open (xe _);have hoi:=hoc.fF;have HOB:=V hoi;clear hoi hoc hm;have e1:=bR (P:=prog) w2 97 5 (some ⟨g,0,none⟩) (jd ⟨ej,acc,asks⟩).length OY 0 0 (by kernel_rfl);rw [di]at e1;go_wp2_with fail;refine(sY _ _ (jd ⟨ej,acc,asks⟩) l w2 HOB.out HBL.out).mono ?_;rintro x w3 ⟨rfl,rfl⟩;cases hq:jd ⟨ej,acc,asks⟩==l
     ·go_wp2_with fail
      have hx:=Nv.Dm (.slice none 0 0) (.slice none 0 0) (.int .i64 0);refine aN (fu rfl _ _ rfl hx.wV) rfl ?_;refine⟨((hb.setCell (ag _) _).setCell (ag _) _).setCell (ag _) _,_,_,⟨[],[],0⟩,_,rfl,⟨ew.nil _,gr.nil _,⟨by show(-9223372036854775808:Int) <=0;omega,by show(0:Int) <=9223372036854775807;omega⟩,by simp,by simp⟩, .inr ⟨rfl,rfl,?_⟩⟩;rintro⟨s,g1,g2,g3⟩;have h3:=(KEY.out s g1 g2 g3).1;rw [h3]at g3;simp [g3]at hq
     ·go_wp2_with fail
      have hx:=Nv.Dm (.slice au ej.length Lx) (.slice av acc.length LR) (.int .i64 asks);have Ng:=wW w2 w.heap.size (.slice au ej.length Lx) (.slice av acc.length LR) (.int .i64 asks);refine aN (fu rfl _ _ rfl hx.wV) rfl ?_;refine⟨((hb.setCell (ag _) _).setCell (ag _) _).setCell (ag _) _,_,_,⟨ej,acc,asks⟩,_,rfl,⟨PF.out.keeps Ng (fun a n cp he hj=>by have:=(HUB.out a n cp he).1;omega),(HOF2.out.keeps Ng (fun i h=>by omega)).kp,Ls.out.2.2⟩, .inl ⟨rfl,HM.out,by simpa using hq⟩⟩
    ·have HM:=V hm
     clear hm;have e1:=bR (P:=prog) w2 97 5 none 0 0 0 0 (by kernel_rfl);rw [dj]at e1;go_wp2_with fail;have hx:=Nv.Dm (.slice none 0 0) (.slice none 0 0) (.int .i64 0);refine aN (fu rfl _ _ rfl hx.wV) rfl ?_;refine⟨((hb.setCell (ag _) _).setCell (ag _) _).setCell (ag _) _,_,_,⟨[],[],0⟩,_,rfl,⟨ew.nil _,gr.nil _,⟨by show(-9223372036854775808:Int) <=0;omega,by show(0:Int) <=9223372036854775807;omega⟩,by simp,by simp⟩, .inr ⟨rfl,rfl,?_⟩⟩;rintro⟨s,g1,g2,g3⟩;have h3:=(KEY.out s g1 g2 g3).1;rw [h3]at g1;exact HM.out g1
  have f0:decide ((0:Int) < (n:Int))=true:=aA (by omega);cases s with
  | none=>
   have c1:w1.cell? ⟨w0.heap.size,1,none⟩=some (.bool true):=c1;rw [yw,bO]at hv;have HC:=V (show qS (some l)=(⟨ej,acc,asks⟩,(none:Option (List UInt8)))from hv);have key:∀y:gV,y.may ->y.ok ->jd y=l ->y=⟨ej,acc,asks⟩/\(none:Option (List UInt8))=some []:=by
    intro y h1 h2 h3;have h4:=nd y h1 h2;rw [h3,HC.out]at h4;injection h4 with h4 h5;exact⟨h4.symm,h5⟩
   have KEY:=V key;have LI:jP w1 (.slice au ej.length Lx) (.slice av acc.length LR) ⟨ej,acc,asks⟩:=⟨hu,P7.out.kp,⟨by show(-9223372036854775808:Int) <=asks;omega,by show asks <=9223372036854775807;omega⟩,HVO.out,by obtain⟨_,_,_,h,_⟩:=P7.out;exact h⟩;have Ls:=V LI;obtain⟨s0,s1,s2⟩:=hS.three;clear key hv hlen LI HC;go_wp2_with fail;refine(mF _ _ ⟨ej,acc,asks⟩ w1 Ls.out).mono ?_;rintro x w2 ⟨c,rfl,Lr,hc⟩;obtain⟨ar,nr,P4,QC,-⟩:=L4.out.below Lr;have d1:w2.cell? ⟨w0.heap.size,1,none⟩=some (.bool true):=QC.cell 1;have Nv:=hC.below Lr hC.lt;obtain⟨c0',c1',c2'⟩:=Nv.three;have z0:=Nv.free 0;have z1:=Nv.free 1;have z2:=Nv.free 2;have Rl:=hS.below Lr hS.lt;obtain⟨s0',s1',s2'⟩:=Rl.three;have Ml:=HB.out.below ((hb.trans (Lr.mono hb.size)).mono (ag _));have HBL:=V Ml;have Nx:=V Lr.size;have HOF2:=V (P7.out.keeps (T:=fun _=>False) (ee.eh Lr) (fun _ h=>h.elim));have PF:=V (hu.below Lr);replace hb:=hb.trans (Lr.mono hb.size);clear QC Ml Lr c1 hC s0 s1 s2 hu hS;clear hc;go_wp2_with fail;have hx:=Nv.Dm (.slice none 0 0) (.slice none 0 0) (.int .i64 0);refine aN (fu rfl _ _ rfl hx.wV) rfl ?_;refine⟨((hb.setCell (ag _) _).setCell (ag _) _).setCell (ag _) _,_,_,⟨[],[],0⟩,_,rfl,⟨ew.nil _,gr.nil _,⟨by show(-9223372036854775808:Int) <=0;omega,by show(0:Int) <=9223372036854775807;omega⟩,by simp,by simp⟩, .inr ⟨rfl,rfl,?_⟩⟩;rintro⟨s,g1,g2,g3⟩;have:=(KEY.out s g1 g2 g3).2;cases this
  | some s=>
   have c1:w1.cell? ⟨w0.heap.size,1,none⟩=some (.bool false):=c1;obtain⟨n',rfl⟩:∃n',n=n'+1:=⟨n - 1,by omega⟩;have HV:=V hv;obtain⟨Nh,r1,e0⟩:∃x t,jo (some s)=(x,t):=⟨_,_,rfl⟩;obtain⟨x0,r2,e1⟩:∃x t,fS r1=(x,t):=⟨_,_,rfl⟩;obtain⟨x1,r3,e2⟩:∃x t,fS r2=(x,t):=⟨_,_,rfl⟩;obtain⟨x2,r4,e3⟩:∃x t,fS r3=(x,t):=⟨_,_,rfl⟩;obtain⟨k0,r5,e4⟩:∃x t,fS r4=(x,t):=⟨_,_,rfl⟩;have b1:=lZ r1;have b2:=lZ r2;have b3:=lZ r3;have b4:=lZ r4;have t1:=En r1;have t2:=nt r2;have t3:=nt r3;have t4:=nt r4;rw [e1]at b1 t1;rw [e2]at b2 t2;rw [e3]at b3 t3;rw [e4]at b4 t4;simp only at b1 b2 b3 b4 t1 t2 t3 t4;have OW:ou (some s)=s.length+1:=rfl;have PL:acc.length <=400001:=by omega
   have M0:ou (some s) <=500000:=by omega
   have HT:=V (show ou r1 <=ou (some s) ->∀r6,ou r6 <=ou r5 ->acc.length+1+ou r6 <=l.length+1 by intro _ r6 _;omega);have HT5:=V (show ou r1 <=ou (some s) ->ou r5 <=500000 by intro _;omega);clear hv hlen t1 t2 t3 t4 OW;go_wp2_with fail;refine(xi w.heap.size w0.heap.size (some s) w1 L4.out M0 (by omega)).mono ?_;rintro x w2 ⟨u,rfl,hou,hvo,Oo,OA,Lv⟩;rw [e0]at hou hvo Oo OA;simp only at hou hvo Oo OA;have OU:=Lv.size;have hui:=hou.fR gB;have hub:=hou.block;obtain⟨au',Ny,rfl,-,hcu',-⟩:=id hui;unfold maxLen at hcu';have HLV:=V hvo;have HT:=V (HT.out (by omega));have hT5:=HT5.out (by omega);have HUI:=V hui;have HUR:=V hub;have HR2:=V OA;clear hou hvo Oo OA hui hub HT5 L4 c1;go_wp2_with fail;refine(kr w.heap.size w0.heap.size r1 w2 HR2.out).mono ?_;rintro x w3 ⟨rfl,Rh,L5⟩;rw [e1]at Rh⊢;have HR3:=V Rh;have OV:=L5.size;clear Rh HR2;go_wp2_with fail;refine(kr w.heap.size w0.heap.size r2 w3 HR3.out).mono ?_;rintro x w4 ⟨rfl,hr4,Pb⟩;rw [e2]at hr4⊢;have HR4:=V hr4;have hsz4:=Pb.size;clear hr4 HR3;go_wp2_with fail;refine(kr w.heap.size w0.heap.size r3 w4 HR4.out).mono ?_;rintro x w5 ⟨rfl,hr5,OM⟩;rw [e3]at hr5⊢;have HR5:=V hr5;have hsz5:=OM.size;have hk25:ee (fun k=>k=w0.heap.size) w2 w5:=(L5.trans Pb (fun i h=> .inl h)).trans OM (fun i h=> .inl h);have hk15:ee (fun k=>k=w0.heap.size) w1 w5:=Lv.trans hk25 (fun i h=> .inl h);have PM:=V (HUI.out.keeps hk25 (fun a n cp he hj=>by have:=(HUR.out a n cp he).1;omega));have HLOB:=V (show∀a n cp,Value.slice au' Nh.length Ny= .slice (some a) n cp ->w1.heap.size <=a.block/\a.block < w5.heap.size from fun a n cp he=>by have:=HUR.out a n cp he;omega);have hsz15:=hk15.size;clear hr5 HR4 Lv L5 Pb OM hk25 HUI OV hsz4;go_wp2_with fail;have hF0:=eP.new w5 #[.int .i64 x0, .int .i64 x1, .slice au' Nh.length Ny, .int .i64 x2, .slice none 0 0] 40;have hr5:=HR5.out.below ((an w5.heap.size w5).alloc (ag _) (.cells #[.int .i64 x0, .int .i64 x1, .slice au' Nh.length Ny, .int .i64 x2, .slice none 0 0] 40));have hka:=(ee.refl (fun k=>k=w0.heap.size) w5).alloc (.cells #[.int .i64 x0, .int .i64 x1, .slice au' Nh.length Ny, .int .i64 x2, .slice none 0 0] 40);obtain⟨F,hF⟩:∃F,F=w5.heap.size:=⟨_,rfl⟩;rw [<- hF]at hF0⊢;have hFa:w5.heap.size <=F:=by omega
   have hFb:F < w5.heap.size+1:=by omega
   clear hF;refine(kr w.heap.size w0.heap.size r4 _ hr5).mono ?_;rintro x w6 ⟨rfl,hr6,PZ⟩;rw [e4]at hr6⊢;have hF6:=hF0.keeps PZ (by omega);have ON:=hka.trans PZ (fun i h=> .inl h);clear PZ hka hF0 hr5 HR5;have HRO:=HR;clear HR;go_wp2_with fail;refine eJ (fun a' w'=>∃(v:Value) (MJ:List jD) (k:Nat) (r:Option (List UInt8)),a'=fr (.slice a l.length cap::gs a' 1 1 (.pointer (some ⟨w.heap.size,0,none⟩):: .int .i64 0:: .pointer (some ⟨w0.heap.size,0,none⟩):: .pointer (some ⟨Sb,0,none⟩):: .int .i64 ((n'+1:Nat):Int):: .pointer (some ⟨F,0,none⟩):: .int .i64 k::gs a' 9 79 []))/\Kr w.heap.size w0.heap.size F (fun v=>#[.int .i64 x0, .int .i64 x1, .slice au' Nh.length Ny, .int .i64 x2,v]) k0 r5 w5 w' v MJ k r) (fun a' _=>(intOf (a'.tmps.getD 8 undef)).toNat) ?_ ?_
   ·exact⟨_,[],k0,r5,rfl,⟨by simp,ea.nil _ _,by simp,by simp,hr6,hF6,ON,b4⟩⟩
   ·clear hr6 hF6 ON b4
    rintro R a' w7 ⟨v,MJ,k,r,Lp,hJ⟩ HR;dsimp only [fr,gs]at Lp;generalize slot a'=f at Lp;subst Lp;obtain⟨Oo,RW,hokl,hlenl,Mo,hF,ON,hk⟩:=hJ;obtain⟨al,OO,rfl,-,PD,-⟩:=RW.fR jS;unfold maxLen at PD;obtain⟨ar,nr,P4,LK,_⟩:=id Mo;have c1:w7.cell? ⟨w0.heap.size,1,none⟩=some (.bool r.isNone):=LK.cell 1;clear LK;rcases aY k with Qw | Qw
    ·subst Qw
     rw [n4]at Oo;have HFR:=V (show oN (some s)=(⟨x0,x1,Nh,x2,MJ⟩,r)by
      rw [oN,e0,e1,e2,e3,e4,Oo];simp)
     obtain⟨f0',f1',f2',f3',f4'⟩:=hF.sr;have HR6:=V Mo;have Oy:=hk15.trans ON (fun i h=> .inl h);have hof6:=P7.out.keeps Oy (fun i h=>by omega);have hS6:=hS.keeps Oy (by omega);have hC6:=hC.keeps Oy (by omega);have hu6:=hu.keeps Oy (fun a n cp he hj=>by have:=(HUB.out a n cp he).1;omega);have Ov:=hb.trans (Oy.below hb.size (fun i h=>by omega));have hl6:=PM.out.keeps ON (fun a n cp he hj=>by have:=(HLOB.out a n cp he).1;omega);have hlb:=RW.block;have RX:=RW.fR jS;have Rm:∀i,eH (.slice av acc.length LR) i ->i < w1.heap.size:=fun i hi=>(P7.out.lt hi).2;have Rn:∀u:Value,(∀a n cp,u= .slice (some a) n cp ->w1.heap.size <=a.block/\a.block < w7.heap.size) ->vM (Sb+1) w7 (.slice av acc.length LR) u:=fun u hx a n cp he=>by
      obtain⟨g1,g2⟩:=hx a n cp he;exact⟨by omega,g2,fun h=>by have:=Rm _ h;omega⟩
     have hsz56:=ON.size;have hsz16:=Oy.size;have HU6:=V (show(ew 2 gw w7 (Value.slice au' Nh.length Ny) Nh/\vM (Sb+1) w7 (.slice av acc.length LR) (.slice au' Nh.length Ny))/\ew 2 kq w7 (.slice al MJ.length OO) MJ/\vM (Sb+1) w7 (.slice av acc.length LR) (.slice al MJ.length OO)from
      ⟨⟨hl6,Rn _ (fun a n cp he=>by have:=HLOB.out a n cp he;omega)⟩,RX,Rn _ (fun a n cp he=>by have:=hlb a n cp he;omega)⟩)
     have HOKF:=V (show fc.ok ⟨x0,x1,Nh,x2,MJ⟩from⟨⟨by show(-9223372036854775808:Int) <=(x0:Int);omega,by show(x0:Int) <=9223372036854775807;omega⟩,⟨by show(-9223372036854775808:Int) <=(x1:Int);omega,by show(x1:Int) <=9223372036854775807;omega⟩,⟨by show(-9223372036854775808:Int) <=(x2:Int);omega,by show(x2:Int) <=9223372036854775807;omega⟩,HLV.out,hokl⟩);obtain⟨p0,p1,p2⟩:=hS6.three;have HTL:=V (show acc.length+1+ou r <=l.length+1 from HT.out _ (by omega));clear Oo hokl Mo hk15 ON hl6 hlb RX Rm Rn e0 e1 e2 e3 e4 hC hS hu hb HLOB PM HUR HT hlenl RW hF;go_wp2_with (first | (at_builtin;refine Stop.out ?_));change wpList _ _ _ _ _ (World.alloc _ (.cells #[.int .i64 x0, .int .i64 x1, .slice au' Nh.length Ny, .int .i64 x2, .slice al MJ.length OO] 40));obtain⟨us,k1,k2,k3,k4⟩:=hof6;have hzl:(acc.zip us).length <=400002:=by rw [bJ];omega
     refine fb w7 rfl _ _ 35 rfl _ 72 (by kernel_rfl) ns rfl (by decide) (by decide) (Sb+1) (.slice av acc.length LR) (acc.zip us) rfl k2 ((⟨x0,x1,Nh,x2,MJ⟩,(.slice au' Nh.length Ny, .slice al MJ.length OO)):fc × Value × Value) _ rfl rfl (by intro q hq;simp only [mg,bB,bN,cY]at hq;rcases hq with rfl | rfl | rfl | rfl | rfl <;>rfl) rfl (by omega) (by omega) ?_;intro v8 w8 ho8 NU hs8;have Lo:∀i,eH (.slice av acc.length LR) i ->Sb+1 <=i:=fun i hi=>(eE k2 hi).1;have OP:=ic.app k1 k3 k4 NU hs8 HOKF.out HU6.out ho8;generalize hA:acc++[(⟨x0,x1,Nh,x2,MJ⟩:fc)]=Oz at OP;have HA:=V hA;clear hA;have hr8:=HR6.out.keeps NU (fun h=>by have:=Lo _ h;omega) (fun i hi=>by have:=Lo _ hi;omega);have hC8:=hC6.keeps NU (fun h=>by have:=Lo _ h;omega);have hS8:=hS6.keeps NU (fun h=>by have:=Lo _ h;omega);have hu8:=hu6.keeps NU (fun a n cp he hj=>by have:=(HUB.out a n cp he).2;have:=Lo _ hj;omega);have hb8:=Ov.trans (NU.below (by omega) (fun i hi=>by have:=Lo _ hi;omega));obtain⟨av8,QD,rfl,-,-⟩:=OP.kp.slice;have y1:=hS8.free 1;obtain⟨q0',q1',q2'⟩:=hS8.three;have Ng:=jh w8 Sb 1 (.slice av8 Oz.length QD);have hof9:=OP.keeps Ng (fun i h=>by omega);have hr9:=hr8.keeps Ng (by omega) (fun i h=>by omega);have hC9:=hC8.keeps Ng (by omega);have hS9:=hS8.set 1 (.slice av8 Oz.length QD);have hu9:=hu8.keeps Ng (fun a n cp he hj=>by have:=(HUB.out a n cp he).2;omega);have hb9:=hb8.trans (Ng.below hb8.size (fun i h=>by omega));have HOF9:=V hof9;have HR9:=V hr9;have HC9:=V hC9;have HS9:=V hS9;have HU9:=V hu9;clear hof9 hr9 hC9 hS9 hu9 Ng OP hr8 hC8 hS8 hu8 hb8 Lo ho8 NU hs8 k1 k2 k3 k4 hC6 hS6 hu6 Ov Oy p0 p1 p2 f0' f1' f2' f3' f4' c1;go_wp2_with fail;refine HRO.out _ _ ⟨_,Oz,n',r,rfl,⟨?_,HOF9.out,?_,HR9.out,HC9.out,by simpa using HS9.out,HU9.out,hb9,by omega⟩⟩ ?_
     ·rw [HV.out,ki,HFR.out, <- HA.out]
      simp
     ·rw [<- HA.out,ah]
      exact HTL.out
     ·simp [intOf]
    have f1:decide ((0:Int) < (k:Int))=true:=aA (by omega);cases r with
    | none=>
     have c1:w7.cell? ⟨w0.heap.size,1,none⟩=some (.bool true):=c1;rw [Bk]at Oo;have HFR:=V (show oN (some s)=(⟨x0,x1,Nh,x2,MJ⟩,(none:Option (List UInt8)))by
      rw [oN,e0,e1,e2,e3,e4,Oo];simp)
     obtain⟨f0',f1',f2',f3',f4'⟩:=hF.sr;have HR6:=V Mo;have Oy:=hk15.trans ON (fun i h=> .inl h);have hof6:=P7.out.keeps Oy (fun i h=>by omega);have hS6:=hS.keeps Oy (by omega);have hC6:=hC.keeps Oy (by omega);have hu6:=hu.keeps Oy (fun a n cp he hj=>by have:=(HUB.out a n cp he).1;omega);have Ov:=hb.trans (Oy.below hb.size (fun i h=>by omega));have hl6:=PM.out.keeps ON (fun a n cp he hj=>by have:=(HLOB.out a n cp he).1;omega);have hlb:=RW.block;have RX:=RW.fR jS;have Rm:∀i,eH (.slice av acc.length LR) i ->i < w1.heap.size:=fun i hi=>(P7.out.lt hi).2;have Rn:∀u:Value,(∀a n cp,u= .slice (some a) n cp ->w1.heap.size <=a.block/\a.block < w7.heap.size) ->vM (Sb+1) w7 (.slice av acc.length LR) u:=fun u hx a n cp he=>by
      obtain⟨g1,g2⟩:=hx a n cp he;exact⟨by omega,g2,fun h=>by have:=Rm _ h;omega⟩
     have hsz56:=ON.size;have hsz16:=Oy.size;have HU6:=V (show(ew 2 gw w7 (Value.slice au' Nh.length Ny) Nh/\vM (Sb+1) w7 (.slice av acc.length LR) (.slice au' Nh.length Ny))/\ew 2 kq w7 (.slice al MJ.length OO) MJ/\vM (Sb+1) w7 (.slice av acc.length LR) (.slice al MJ.length OO)from
      ⟨⟨hl6,Rn _ (fun a n cp he=>by have:=HLOB.out a n cp he;omega)⟩,RX,Rn _ (fun a n cp he=>by have:=hlb a n cp he;omega)⟩)
     have HOKF:=V (show fc.ok ⟨x0,x1,Nh,x2,MJ⟩from⟨⟨by show(-9223372036854775808:Int) <=(x0:Int);omega,by show(x0:Int) <=9223372036854775807;omega⟩,⟨by show(-9223372036854775808:Int) <=(x1:Int);omega,by show(x1:Int) <=9223372036854775807;omega⟩,⟨by show(-9223372036854775808:Int) <=(x2:Int);omega,by show(x2:Int) <=9223372036854775807;omega⟩,HLV.out,hokl⟩);obtain⟨p0,p1,p2⟩:=hS6.three;have HTL:=V (show acc.length+1+ou (none:Option (List UInt8)) <=l.length+1 from HT.out _ (by omega));clear Oo hokl Mo hk15 ON hl6 hlb RX Rm Rn e0 e1 e2 e3 e4 hC hS hu hb HLOB PM HUR HT hlenl RW hF;go_wp2_with (first | (at_builtin;refine Stop.out ?_));change wpList _ _ _ _ _ (World.alloc _ (.cells #[.int .i64 x0, .int .i64 x1, .slice au' Nh.length Ny, .int .i64 x2, .slice al MJ.length OO] 40));obtain⟨us,k1,k2,k3,k4⟩:=hof6;have hzl:(acc.zip us).length <=400002:=by rw [bJ];omega
     refine fb w7 rfl _ _ 35 rfl _ 72 (by kernel_rfl) ns rfl (by decide) (by decide) (Sb+1) (.slice av acc.length LR) (acc.zip us) rfl k2 ((⟨x0,x1,Nh,x2,MJ⟩,(.slice au' Nh.length Ny, .slice al MJ.length OO)):fc × Value × Value) _ rfl rfl (by intro q hq;simp only [mg,bB,bN,cY]at hq;rcases hq with rfl | rfl | rfl | rfl | rfl <;>rfl) rfl (by omega) (by omega) ?_;intro v8 w8 ho8 NU hs8;have Lo:∀i,eH (.slice av acc.length LR) i ->Sb+1 <=i:=fun i hi=>(eE k2 hi).1;have OP:=ic.app k1 k3 k4 NU hs8 HOKF.out HU6.out ho8;generalize hA:acc++[(⟨x0,x1,Nh,x2,MJ⟩:fc)]=Oz at OP;have HA:=V hA;clear hA;have hr8:=HR6.out.keeps NU (fun h=>by have:=Lo _ h;omega) (fun i hi=>by have:=Lo _ hi;omega);have hC8:=hC6.keeps NU (fun h=>by have:=Lo _ h;omega);have hS8:=hS6.keeps NU (fun h=>by have:=Lo _ h;omega);have hu8:=hu6.keeps NU (fun a n cp he hj=>by have:=(HUB.out a n cp he).2;have:=Lo _ hj;omega);have hb8:=Ov.trans (NU.below (by omega) (fun i hi=>by have:=Lo _ hi;omega));obtain⟨av8,QD,rfl,-,-⟩:=OP.kp.slice;have y1:=hS8.free 1;obtain⟨q0',q1',q2'⟩:=hS8.three;have Ng:=jh w8 Sb 1 (.slice av8 Oz.length QD);have hof9:=OP.keeps Ng (fun i h=>by omega);have hr9:=hr8.keeps Ng (by omega) (fun i h=>by omega);have hC9:=hC8.keeps Ng (by omega);have hS9:=hS8.set 1 (.slice av8 Oz.length QD);have hu9:=hu8.keeps Ng (fun a n cp he hj=>by have:=(HUB.out a n cp he).2;omega);have hb9:=hb8.trans (Ng.below hb8.size (fun i h=>by omega));have HOF9:=V hof9;have HR9:=V hr9;have HC9:=V hC9;have HS9:=V hS9;have HU9:=V hu9;clear hof9 hr9 hC9 hS9 hu9 Ng OP hr8 hC8 hS8 hu8 hb8 Lo ho8 NU hs8 k1 k2 k3 k4 hC6 hS6 hu6 Ov Oy p0 p1 p2 f0' f1' f2' f3' f4' c1;go_wp2_with fail;refine HRO.out _ _ ⟨_,Oz,n',(none:Option (List UInt8)),rfl,⟨?_,HOF9.out,?_,HR9.out,HC9.out,by simpa using HS9.out,HU9.out,hb9,by omega⟩⟩ ?_
     ·rw [HV.out,ki,HFR.out, <- HA.out]
      simp
     ·rw [<- HA.out,ah]
      exact HTL.out
     ·simp [intOf]
    | some r=>
     have c1:w7.cell? ⟨w0.heap.size,1,none⟩=some (.bool false):=c1;obtain⟨k',rfl⟩:∃k',k=k'+1:=⟨k - 1,by omega⟩;have HVL:=V Oo;have HOKL:=V hokl;obtain⟨y0,q1,g0⟩:∃x t,fS (some r)=(x,t):=⟨_,_,rfl⟩;obtain⟨y1,q2,g1⟩:∃x t,fS q1=(x,t):=⟨_,_,rfl⟩;have by0:=lZ (some r);have by1:=lZ q1;have ty0:=tz r;have ty1:=nt q1;rw [g0]at by0 ty0;rw [g1]at by1 ty1;simp only at by0 by1 ty0 ty1;have HLL:=V (show MJ.length+1+ou q2 <=ou r5 by omega);have NN:MJ.length <=500000:=by omega
     have HRD7:=V Mo;have HOL:=V RW;have QE:=hF.cell 4;have QE:w7.cell? ⟨F,4,none⟩=some (.slice al MJ.length OO):=QE;have hFlt:=hF.lt;clear Oo hokl hlenl ty0 ty1 Mo RW;go_wp2_with fail;refine eX (fun w'=>w'.cell? ⟨F,4,none⟩=some (.slice al MJ.length OO)) 10
      (up 0 3 ((4,true)::(3,false)::(5,false)::(6,false)::(7,false)::(8,false)::(9,true)::[])) (by kernel_rfl) (by kernel_rfl) QE ?_
     clear c1 QE;iterate 4 (first | (apply sk rfl rfl;simp only [pt]) | (apply ef rfl rfl rfl;·(rintro w' t0;go_wp2;exact⟨rfl,rfl,rfl⟩)))
     refine eo rfl rfl ?_;go_wp2_with fail;refine(kr w.heap.size w0.heap.size (some r) w7.drew HRD7.out).mono ?_;rintro x w8 ⟨rfl,hr8,NU⟩;rw [g0]at hr8⊢;have hF8:=hF.drew.keeps NU (by omega);have hk78:=NU.Bn;clear NU;go_wp2_with fail;refine⟨hF8.cell 4,?_⟩;refine eo rfl rfl ?_;go_wp2_with fail;refine(kr w.heap.size w0.heap.size q1 w8 hr8).mono ?_;rintro x w9 ⟨rfl,hr9,hk9⟩;rw [g1]at hr9⊢;have hF9:=hF8.keeps hk9 (by omega);have hk79:=hk78.trans hk9 (fun i h=> .inl h);have hsz79:=hk79.size;have hsz57:=ON.size;have hol9:=HOL.out.keeps hk79 (fun i hi=>by have:=(eE HOL.out hi).1;omega);have hk59:=ON.trans hk79 (fun i h=> .inl h);have HR9:=V hr9;clear hk78 hk9 hF8 hr8 hr9 hk79 ON HRD7 HOL hF;go_wp2_with fail;refine⟨hF9.cell 4,?_⟩;refine eo rfl rfl ?_;go_wp2_with fail;refine⟨hF9.cell 4,?_⟩;refine eo rfl rfl ?_;go_wp2_with fail;refine⟨(hF9.alloc _).cell 4,?_⟩;refine eo rfl rfl ?_;refine fb w9 rfl _ _ 38 rfl _ 16 (by kernel_rfl) oO rfl (by decide) (by decide) (F+1) (.slice al MJ.length OO) MJ rfl hol9 (⟨y0,y1⟩:jD) _ rfl rfl (vD _) rfl (by omega) (by omega) ?_;intro v10 w10 PN P2 hs10;have Lo:∀i,eH (.slice al MJ.length OO) i ->F+1 <=i:=fun i hi=>(eE hol9 hi).1;have hr10:=HR9.out.keeps P2 (fun h=>by have:=Lo _ h;omega) (fun i hi=>by have:=Lo _ hi;omega);have hF10:=hF9.keeps P2 (fun h=>by have:=Lo _ h;omega);have hk5a:=hk59.trans P2 (fun i h=> .inr (by have:=Lo _ h;omega));generalize hA:MJ++[(⟨y0,y1⟩:jD)]=Oz at PN;have HA:=V hA;obtain⟨a9,cap9,rfl,-,-⟩:=PN.fR jS;clear hA P2 hs10 Lo hk59 hF9 hol9 HR9;have y1':=hF10.free 4;have QE:w10.cell? ⟨F,4,none⟩=some (.slice al MJ.length OO):=hF10.cell 4;go_wp2_with fail;refine⟨QE,?_⟩;iterate 1 (first | (apply sk rfl rfl;simp only [pt]) | (apply ef rfl rfl rfl;·(rintro w' t0;go_wp2;exact⟨rfl,rfl,rfl⟩)))
     refine fP rfl rfl ?_;have Ng:=jh w10 F 4 (.slice a9 Oz.length cap9);have hlx:=PN.keeps Ng (fun i hi=>by have:=(eE PN hi).1;omega);have hrx:=hr10.keeps Ng (by omega) (fun i h=>by omega);have hFx:=hF10.set 4 (.slice a9 Oz.length cap9);have hk5x:=hk5a.trans Ng (fun i h=> .inr (by omega));have HLX:=V hlx;have HRX:=V hrx;have HFX:=V hFx;clear hlx hrx hFx Ng hk5a PN hr10 hF10;go_wp2_with fail;refine⟨trivial,?_⟩;refine aD ?_;go_wp2_with fail;refine HR.out _ _ ⟨_,Oz,k',q2,rfl,⟨?_,HLX.out,?_,?_,HRX.out,by simpa using HFX.out,hk5x,by omega⟩⟩ ?_
     ·rw [HVL.out,n4,g0]
      simp only [g1, <- HA.out];simp
     ·rw [<- HA.out]
      intro z hz;rcases aZ.1 hz with h | h
      ·exact HOKL.out z h
      ·obtain rfl:=aQ.1 h
       exact⟨⟨by show(-9223372036854775808:Int) <=(y0:Int);omega,by show(y0:Int) <=9223372036854775807;omega⟩,by show(-9223372036854775808:Int) <=(y1:Int);omega,by show(y1:Int) <=9223372036854775807;omega⟩
     ·rw [<- HA.out,ah]
      exact HLL.out
     ·simp [intOf]
theorem eG {P:Program} {fn:Func} {t0:Tmp} {ty:TypeId} (h:fn.results=#[.cell t0 ty]) (tmps:Array Value) (w:World) {a:Addr} {v:Value} (ht:tmps.getD t0 undef= .pointer (some a))
  (hl:(loadVar ty a).run P w= .ok v w):(results fn tmps).run P w= .ok v w:=by
 have ht':tmps[t0]?.getD undef= .pointer (some a):=by simpa using ht
 simp [results,h,ht',asAddr,hl]
theorem ee.cell {S:Nat ->Prop} {w w':World} (h:ee S w w') {p:Addr} (hp:p.block < w.heap.size) (hs:¬ S p.block):w'.cell? p=w.cell? p:=bg (h.block p.block hp hs)
section
section
variable {α:Type} {k:Nat} {enc:α ->List Value} {t:TypeId}
theorem kU {P:Program} (w:World) {ops:Array Oper} {rest:List Oper} {o:Oper} {a:Act} {Q:Exit ->Act ->World ->Prop} (O9:o.guard=none) (s x:Operand) (ts:TypeId)
  (ho:o.op= .call {callee:= .builtin .append,args:=#[s,x],argTypes:=#[ts,ts]})
  (z:Value) (bytes:Nat) (ht:P.underlying ts=some (.slice t)) (hi:(P.info? t).map (fun i=>(i.zero,i.size,i.bytes))=some (some z,k,bytes)) (hzs:z.cells.size=k) (h0:0 < k) (N7:bytes <=100000000)
  (B:Nat) (v:Value) (l:List α) (hs:a.eval s=v) (Lo:ea t k enc w B v l) (hk:∀x,(enc x).length=k)
  (m:List α) (ad:Addr) (n c:Nat) (hx:a.eval x= .slice (some ad) n c) (hm:ew k enc w (.slice (some ad) n c) m) (h1:∀y∈m,∀u∈enc y,u.oneCell'=true)
  (PC:l.length+m.length <=1000000) (LY:B <=w.heap.size)
  (h:∀v' w',ea t k enc w' B v' (l++m) ->ee (eH v) w w' ->eM w v v' ->wpList P ops Q rest (a.put o.dst v') w'):
  wpList P ops Q (o::rest) a w:=by
 obtain⟨i0,hi,NW,MP,Nu⟩:=bX hi;obtain⟨a',LO,hv,M9,Mj,Rc⟩:=hm;injection hv with e1 e2 e3;subst e1 e2 e3;refine qR (P:=P) w O9 s x ts ho B t i0 z k bytes ht hi NW MP Nu hzs h0 v l.length (l.flatMap enc) hs Lo ad m.length c (m.flatMap enc) hx (kf hk m) ?_ ?_ (by simp only [maxLen];omega) ?_ LY ?_
 ·intro j u hu
  have hj:j < m.length*k:=by rw [<- kf hk];exact(aM.1 hu).1
  have hjk:j/k < m.length:=Nat.div_lt_of_lt_mul (by rw [Nat.mul_comm];exact hj);obtain⟨y,hy⟩:∃y,m[j/k]?=some y:=⟨_,aw hjk⟩;obtain⟨b,off,ha,Lw,hc⟩:=Rc _ y hy;injection ha with ha;subst ha;have h3:=rC hk m (j/k) y (j %k) hy (Nat.mod_lt _ h0);have h4:j/k*k+j %k=j:=Nat.div_add_mod' j k;rw [h4,hu]at h3;have h5:=hc (j %k) u h3.symm;have Pl:(⟨b,off,none⟩:Addr).add j=⟨b,off+j,none⟩:=by unfold Addr.add;split <;>simp_all
  rw [Pl, <- h5]
  congr 2
  omega
 ·intro u hu
  obtain⟨y,hy,hu⟩:=List.mem_flatMap.1 hu;exact h1 y hy u hu
 ·have:(l.length+m.length)*bytes <=1000000*100000000:=dx (by omega) N7
  omega
 ·intro v' w' h2 h3 h4
  refine h v' w' ?_ h3 h4;simpa [ea] using h2
theorem AK (hk:∀x,(enc x).length=k):∀(l:List α) (i:Nat) (x y:α) (j:Nat) (u:Value),l[i]?=some x ->j < k ->enc y=(enc x).set j u ->(l.set i y).flatMap enc=(l.flatMap enc).set (i*k+j) u
 | [],i,x,y,j,u,h,_,_=>by simp at h
 | d::l,0,x,y,j,u,h,hj,he=>by
  simp at h;subst h;rw [bH,bS,bS,he,List.set_append_left _ _ (by rw [hk];omega)];simp
 | d::l,i+1,x,y,j,u,h,hj,he=>by
  rw [bE,bS,bS,List.set_append_right _ _ (by rw [hk,cU];omega)];rw [show(i+1)*k+j - (enc d).length=i*k+j from by rw [hk,cU];omega];rw [AK hk l i x y j u (by simpa using h) hj he]
theorem ea.set {w:World} {B g n cap:Nat} {l:List α} (hk:∀x,(enc x).length=k) (h:ea t k enc w B (.slice (some ⟨g,0,none⟩) n cap) l) {i j:Nat} {x y:α} {u:Value} (hx:l[i]?=some x) (hj:j < k) (he:enc y=(enc x).set j u):
  ea t k enc (w.setCell ⟨g,i*k+j,none⟩ u) B (.slice (some ⟨g,0,none⟩) n cap) (l.set i y):=by
 obtain⟨hl,hv | ⟨g',LO,cur,hv,hb,hg,hn,hm,hs,ht⟩⟩:=h
 ·cases hv.1
 ·injection hv with e1 e2 e3
  injection e1 with e1;injection e1 with e1 e4;subst e1 e2 e3;refine⟨by rw [kf hk], .inr ⟨g,cap,cur.setIfInBounds (i*k+j) u,by rw [da],hb,heap_setCell_same w g _ cur _ _ hg,by rw [da];exact hn,hm,by simpa using hs,?_⟩⟩;rw [AK hk l i x y j u hx hj he,da];rw [Array.toList_setIfInBounds,List.take_set,ht]
theorem ea.open {w:World} {B:Nat} {v:Value} {l:List α} (h:ea t k enc w B v l) (hl:l≠[]):∃g cap cur,v= .slice (some ⟨g,0,none⟩) l.length cap/\B <=g/\g < w.heap.size/\w.heap[g]?=some (.cells cur t)/\l.length <=cap/\cap <=maxLen:=by
 obtain⟨_,hv | ⟨g,cap,cur,hv,hb,hg,hn,hm,hs,ht⟩⟩:=h
 ·exact absurd (aH hv.2) hl
 ·exact⟨g,cap,cur,hv,hb,(cq.1 hg).1,hg,hn,hm⟩
theorem ea.empty (w:World):ea t k enc (w.alloc (.cells #[] t)) w.heap.size (.slice (some ⟨w.heap.size,0,none⟩) 0 0) []:=
 ⟨by simp, .inr ⟨w.heap.size,0,#[],rfl,ag _,dw w _,ag _,by simp [maxLen],by simp,by simp⟩⟩
def tJ (t:TypeId) (k:Nat) (enc:α ->List Value) (l:List α) (w:World) (e:Ending) (w':World):Prop:=∃v,e= .returned v/\ea t k enc w' w.heap.size v l/\Below w.heap.size w w'
end
theorem oV (v:Value) (l:List fm) (w:World) (hl:ew 2 gw w v l) (Pa:l.length <=1000000):Calls prog 36 #[v] w (tJ 42 2 gw l w):=by
 obtain⟨a,cap,rfl,h1,h2,h3⟩:=id hl;unfold maxLen at h2;have HI:=V hl;cases a with
 | none=>
  obtain rfl:l=[]:=by
   cases l with
   | nil=>rfl
   | cons x l=>
    obtain⟨_,_,h,_⟩:=h3 0 x rfl;cases h
  clear h3 hl;have e1:=bR (P:=prog) w 30 42 none 0 cap 0 0 (by kernel_rfl);rw [dj]at e1;go_enter func36,ntmps36;go_wp2_with fail;go_ret;exact⟨_,rfl,ea.nil _ _,an _ _⟩
 | some ad=>
  clear h3 hl;have e1:=bR (P:=prog) w 30 42 (some ad) l.length cap 0 0 (by kernel_rfl);rw [di]at e1;go_enter func36,ntmps36;go_wp2_with (first | (at_builtin;refine Stop.out ?_));change wpList _ _ _ _ _ (World.alloc _ (.cells #[] 42));have Mg:=(an w.heap.size w).alloc (ag _) (.cells #[] 42);refine kU (w.alloc (.cells #[] 42)) rfl _ _ 30 rfl _ 16 (by kernel_rfl) lC rfl (by decide) (by decide) w.heap.size (.slice (some ⟨w.heap.size,0,none⟩) 0 0) [] rfl (ea.empty w) gB l ad l.length cap rfl (HI.out.below Mg) (fun y _=>mi y) (by simp only [aL];omega) Mg.size ?_;intro v w' ho hk hs;have hb:Below w.heap.size w w':=Mg.trans (hk.below Mg.size (fun i hi=>by simp [eH,Value.ownBlock]at hi;omega));clear hk hs Mg;go_wp2_with fail;go_ret;exact⟨v,rfl,by simpa using ho,hb⟩
theorem BD (v:Value) (l:List jD) (w:World) (hl:ew 2 kq w v l) (Pa:l.length <=1000000):Calls prog 122 #[v] w (tJ 46 2 kq l w):=by
 obtain⟨a,cap,rfl,h1,h2,h3⟩:=id hl;unfold maxLen at h2;have HI:=V hl;cases a with
 | none=>
  obtain rfl:l=[]:=by
   cases l with
   | nil=>rfl
   | cons x l=>
    obtain⟨_,_,h,_⟩:=h3 0 x rfl;cases h
  clear h3 hl;have e1:=bR (P:=prog) w 38 46 none 0 cap 0 0 (by kernel_rfl);rw [dj]at e1;go_enter func122,ntmps122;go_wp2_with fail;go_ret;exact⟨_,rfl,ea.nil _ _,an _ _⟩
 | some ad=>
  clear h3 hl;have e1:=bR (P:=prog) w 38 46 (some ad) l.length cap 0 0 (by kernel_rfl);rw [di]at e1;go_enter func122,ntmps122;go_wp2_with (first | (at_builtin;refine Stop.out ?_));change wpList _ _ _ _ _ (World.alloc _ (.cells #[] 46));have Mg:=(an w.heap.size w).alloc (ag _) (.cells #[] 46);refine kU (w.alloc (.cells #[] 46)) rfl _ _ 38 rfl _ 16 (by kernel_rfl) oO rfl (by decide) (by decide) w.heap.size (.slice (some ⟨w.heap.size,0,none⟩) 0 0) [] rfl (ea.empty w) jS l ad l.length cap rfl (HI.out.below Mg) (fun y _=>vD y) (by simp only [aL];omega) Mg.size ?_;intro v w' ho hk hs;have hb:Below w.heap.size w w':=Mg.trans (hk.below Mg.size (fun i hi=>by simp [eH,Value.ownBlock]at hi;omega));clear hk hs Mg;go_wp2_with fail;go_ret;exact⟨v,rfl,by simpa using ho,hb⟩
theorem Bc (v:Value) (l:List (fc × Value × Value)) (w:World) (hl:ew 5 mg w v l) (Pa:l.length <=1000000) (hone:∀y∈l,∀u∈mg y,u.oneCell'=true):Calls prog 121 #[v] w (tJ 40 5 mg l w):=by
 obtain⟨a,cap,rfl,h1,h2,h3⟩:=id hl;unfold maxLen at h2;have HI:=V hl;cases a with
 | none=>
  obtain rfl:l=[]:=by
   cases l with
   | nil=>rfl
   | cons x l=>
    obtain⟨_,_,h,_⟩:=h3 0 x rfl;cases h
  clear h3 hl;have e1:=bR (P:=prog) w 35 40 none 0 cap 0 0 (by kernel_rfl);rw [dj]at e1;go_enter func121,ntmps121;go_wp2_with fail;go_ret;exact⟨_,rfl,ea.nil _ _,an _ _⟩
 | some ad=>
  clear h3 hl;have e1:=bR (P:=prog) w 35 40 (some ad) l.length cap 0 0 (by kernel_rfl);rw [di]at e1;go_enter func121,ntmps121;go_wp2_with (first | (at_builtin;refine Stop.out ?_));change wpList _ _ _ _ _ (World.alloc _ (.cells #[] 40));have Mg:=(an w.heap.size w).alloc (ag _) (.cells #[] 40);refine kU (w.alloc (.cells #[] 40)) rfl _ _ 35 rfl _ 72 (by kernel_rfl) ns rfl (by decide) (by decide) w.heap.size (.slice (some ⟨w.heap.size,0,none⟩) 0 0) [] rfl (ea.empty w) iH l ad l.length cap rfl (HI.out.below Mg) hone (by simp only [aL];omega) Mg.size ?_;intro v w' ho hk hs;have hb:Below w.heap.size w w':=Mg.trans (hk.below Mg.size (fun i hi=>by simp [eH,Value.ownBlock]at hi;omega));clear hk hs Mg;go_wp2_with fail;go_ret;exact⟨v,rfl,by simpa using ho,hb⟩
end
theorem ea.ne {α β:Type} {t t':TypeId} {k k':Nat} {enc:α ->List Value} {enc':β ->List Value} {w:World} {B B':Nat} {v v':Value} {l:List α} {l':List β} (h:ea t k enc w B v l) (h':ea t' k' enc' w B' v' l') (Nm:t≠t') (g:Nat) (hg:eH v g):¬ eH v' g:=by
 intro RU;obtain⟨_,hv | ⟨g1,cap,cur,hv,hb,h1,_⟩⟩:=h
 ·rw [hv.1]at hg
  simp [eH,Value.ownBlock]at hg
 obtain⟨_,Qj | ⟨g2,LO,cur',Qj,LP,h2,_⟩⟩:=h'
 ·rw [Qj.1]at RU
  simp [eH,Value.ownBlock]at RU
 rw [hv]at hg;rw [Qj]at RU;simp [eH,Value.ownBlock]at hg RU;subst hg RU;rw [h1]at h2;injection h2 with h2;injection h2 with _ h2;exact Nm h2
theorem ea.cell {α:Type} {t:TypeId} {k:Nat} {enc:α ->List Value} {w:World} {B g n cap:Nat} {l:List α} (hk:∀x,(enc x).length=k) (h:ea t k enc w B (.slice (some ⟨g,0,none⟩) n cap) l) {i j:Nat} {x:α} {u:Value} (hx:l[i]?=some x) (hu:(enc x)[j]?=some u):w.cell? ⟨g,i*k+j,none⟩=some u:=by
 obtain⟨a,c,hv,_,_,hc⟩:=h.fR hk;obtain⟨b,off,ha,_,LN⟩:=hc i x hx;injection hv with e1 e2 e3;rw [<- e1]at ha;injection ha with ha;injection ha with e4 e5;subst e4 e5;have:=LN j u hu;rw [bP]at this;exact this
theorem Cs {α β:Type}:∀(l:List α) (us:List β) (k:Nat) (f:α) (u:β),l[k]?=some f ->(l.zip us).set k (f,u)=l.zip (us.set k u)
 | [],us,k,f,u,h=>by simp at h
 | d::l,[],k,f,u,h=>by simp
 | d::l,x::us,0,f,u,h=>by
  simp at h;simp [h]
 | d::l,x::us,k+1,f,u,h=>by
  simp only [List.zip_cons_cons,bE];rw [Cs l us k f u (by simpa using h)]
def kK (w:World) (M:Nat) (v:Value) (l:List fc):Prop:=
 ∃us:List (Value × Value),us.length=l.length/\ea 40 5 mg w M v (l.zip us)/\(∀f∈l,f.ok)/\
  ∀(i:Nat) (f:fc) (u:Value × Value),l[i]?=some f ->us[i]?=some u ->ea 42 2 gw w M u.1 f.locals/\ea 46 2 kq w M u.2 f.labels
theorem kK.kp {w:World} {M:Nat} {v:Value} {l:List fc} (h:kK w M v l):gr w v l:=by
 obtain⟨us,h1,h2,h3,h4⟩:=h;exact⟨us,h1,h2.fR iH,fun i f u hf hu=>⟨(h4 i f u hf hu).1.fR gB,(h4 i f u hf hu).2.fR jS⟩,h3⟩
theorem kK.keeps {w w':World} {M:Nat} {v:Value} {l:List fc} {S:Nat ->Prop} (h:kK w M v l) (hk:ee S w w') (hs:∀i,S i ->i < M):kK w' M v l:=by
 obtain⟨us,h1,h2,h3,h4⟩:=h;have key:∀{α:Type} {t:TypeId} {k:Nat} {enc:α ->List Value} {u:Value} {l:List α},ea t k enc w M u l ->ea t k enc w' M u l:=fun h=>h.keeps hk (fun i hi hj=>by have:=(eE h hi).1;have:=hs i hj;omega);exact⟨us,h1,key h2,h3,fun i f u hf hu=>⟨key (h4 i f u hf hu).1,key (h4 i f u hf hu).2⟩⟩
def Ho (s:gV) (w:World) (e:Ending) (w':World):Prop:=∃uv uf M,e= .returned (.agg #[uv,uf, .int .i64 s.asks])/\Below w.heap.size w w'/\w.heap.size <=M/\M <=w'.heap.size/\
 ea 42 2 gw w' w.heap.size uv s.ej/\(∀g,eH uv g ->g < M)/\kK w' M uf s.ey
def J3 (l:List fc) (us:List (Value × Value)) (M:Nat) (vf:Value) (w1 w':World) (P0:List (Value × Value)) (k:Nat):Prop:=
 k <=l.length/\ee (eH vf) w1 w'/\P0.length=l.length/\ea 40 5 mg w' M vf (l.zip P0)/\
  (∀(i:Nat) (f:fc) (u:Value × Value),i < k ->l[i]?=some f ->P0[i]?=some u ->ea 42 2 gw w' M u.1 f.locals/\ea 46 2 kq w' M u.2 f.labels)/\
  ∀i,k <=i ->P0[i]?=us[i]?
def zZ (B X:Nat) (vf u x:Value) (w:World):Prop:=w.cell? ⟨B,1,none⟩=some vf/\w.cell? ⟨X,2,none⟩=some u/\w.cell? ⟨X,4,none⟩=some x
theorem zZ.keeps {B X:Nat} {vf u x:Value} {w w':World} {S:Nat ->Prop} (h:zZ B X vf u x w) (hk:ee S w w') (hB:B < w.heap.size/\¬ S B) (hX:X < w.heap.size/\¬ S X):zZ B X vf u x w':=
 ⟨(bg (a:=⟨B,1,none⟩) (hk.block B hB.1 hB.2)).trans h.1,(bg (a:=⟨X,2,none⟩) (hk.block X hX.1 hX.2)).trans h.2.1,(bg (a:=⟨X,4,none⟩) (hk.block X hX.1 hX.2)).trans h.2.2⟩
theorem A2 {w:World} {l:List fc} {us:List (Value × Value)} (h:∀(i:Nat) (f:fc) (u:Value × Value),l[i]?=some f ->us[i]?=some u ->ew 2 gw w u.1 f.locals/\ew 2 kq w u.2 f.labels):
  ∀y∈l.zip us,∀u∈mg y,u.oneCell'=true:=by
 intro y hy u hu;obtain⟨i,hi⟩:=List.mem_iff_getElem?.1 hy;obtain⟨h1,h2⟩:=cJ.1 hi;obtain⟨⟨a,c,e1,_⟩,a2,c2,e2,_⟩:=h i _ _ h1 h2;simp only [mg,e1,e2,bB,bN,cY]at hu;rcases hu with rfl | rfl | rfl | rfl | rfl <;>rfl
theorem wi (uv uf:Value) (s:gV) (w:World) (LI:jP w uv uf s) (Ro:s.ej.length <=1000) (hl2:s.ey.length <=1000) (hl3:∀f∈s.ey,f.locals.length <=1000/\f.labels.length <=1000):
  Calls prog 79 #[.agg #[uv,uf, .int .i64 s.asks]] w (Ho s w):=by
 obtain⟨hv,hf,Ly⟩:=id LI;obtain⟨av,LR,rfl,hcv1,MR,_⟩:=id hv;obtain⟨us,hu1,No,hu3,hu4⟩:=id hf;obtain⟨af,Nd,rfl,hcf1,Qk⟩:=hf.slice;unfold maxLen at MR;have HL3:=V hl3;have MQ:=(eP.new w #[.slice av s.ej.length LR, .slice af s.ey.length Nd, .int .i64 s.asks] 37).alloc (.cells #[.slice none 0 0, .slice none 0 0, .int .i64 0] 37);have hbz:eP ((w.alloc (.cells #[.slice av s.ej.length LR, .slice af s.ey.length Nd, .int .i64 s.asks] 37)).alloc (.cells #[.slice none 0 0, .slice none 0 0, .int .i64 0] 37)) (w.heap.size+1) #[.slice none 0 0, .slice none 0 0, .int .i64 0] 37:=by
  have:=eP.new (w.alloc (.cells #[.slice av s.ej.length LR, .slice af s.ey.length Nd, .int .i64 s.asks] 37)) #[.slice none 0 0, .slice none 0 0, .int .i64 0] 37;rw [aE]at this;exact this
 have LQ:Below w.heap.size w ((w.alloc (.cells #[.slice av s.ej.length LR, .slice af s.ey.length Nd, .int .i64 s.asks] 37)).alloc (.cells #[.slice none 0 0, .slice none 0 0, .int .i64 0] 37)):=((an w.heap.size w).alloc (ag _) _).alloc (by simp) _;have HV:=V hv;have HU:=V hu3;have HZ:=V No;have HOKF:=V hu4;have HUL:=V hu1;have HONE:=V (A2 hu3);have hzl:(s.ey.zip us).length=s.ey.length:=by rw [bJ,hu1,cd]
 clear hv hf LI Ly hu1 No hu3 hu4 hl3;go_enter func79,ntmps79;go_wp2_with fail;generalize((w.alloc (.cells #[.slice av s.ej.length LR, .slice af s.ey.length Nd, .int .i64 s.asks] 37)).alloc (.cells #[.slice none 0 0, .slice none 0 0, .int .i64 0] 37))=w0 at MQ hbz LQ⊢;have hX0:w.heap.size+1 < w0.heap.size:=hbz.lt;obtain⟨x0,x1,x2⟩:=MQ.three;refine eX (fun w'=>w'.cell? ⟨w.heap.size,1,none⟩=some (.slice af s.ey.length Nd)) 9
  [(0,true),(3,true),(4,true),(1,false),(2,false),(6,true),(5,false),(7,false),(8,true)] (by kernel_rfl) (by kernel_rfl) x1 ?_
 iterate 3 (first | (apply sk rfl rfl;simp only [pt]) | (apply ef rfl rfl rfl;·(rintro w' t0;go_wp2;exact⟨rfl,rfl,rfl⟩)))
 refine eo rfl rfl ?_;go_wp2_with fail;refine⟨x1,?_⟩;refine eo rfl rfl ?_;go_wp2_with fail;refine(oV _ s.ej w0.drew (HV.out.below LQ.drew) (by omega)).mono ?_;rintro x w2 ⟨v,rfl,RV,hbv'⟩;have hbv:Below w0.heap.size w0 w2:=gd hbv';have RV:ea 42 2 gw w2 w0.heap.size v s.ej:=RV;have OX:=MQ.below hbv MQ.lt;have Nu:=hbz.below hbv hbz.lt;have Lr:=LQ.trans (hbv.mono LQ.size);have OU:=hbv.size;clear hbv' hbv MQ hbz LQ x0 x1 x2;go_wp2_with fail;refine⟨OX.cell 1,?_⟩;iterate 1 (first | (apply sk rfl rfl;simp only [pt]) | (apply ef rfl rfl rfl;·(rintro w' t0;go_wp2;exact⟨rfl,rfl,rfl⟩)))
 refine eo rfl rfl ?_;go_wp2_with fail;refine(Bc _ (s.ey.zip us) w2 (HZ.out.below Lr) (by omega) HONE.out).mono ?_;rintro x w3 ⟨vf,rfl,Qm,hbf⟩;have hx3:=OX.below hbf OX.lt;have hz3:=Nu.below hbf Nu.lt;have Mf:=Lr.trans (hbf.mono Lr.size);have hov3:=RV.below hbf;have OV:=hbf.size;obtain⟨a2,Lu,rfl,_,_,_⟩:=hov3.fR gB;obtain⟨a3,M7,hvf,_,_,_⟩:=Qm.fR iH;rw [hzl]at hvf;subst hvf;have f0:=hx3.free 0;have x0:w3.cell? ⟨w.heap.size,0,none⟩=some (.slice av s.ej.length LR):=hx3.cell 0;have hkx1:=jh w3 w.heap.size 0 (.slice a2 s.ej.length Lu);have hx4:eP (w3.setCell ⟨w.heap.size,0,none⟩ (.slice a2 s.ej.length Lu)) w.heap.size #[.slice a2 s.ej.length Lu, .slice af s.ey.length Nd, .int .i64 s.asks] 37:=by
  have:=hx3.set 0 (.slice a2 s.ej.length Lu);simpa using this
 have hM:=RV.block;have HOV:=V hov3;have Rp:=V (show∀g,eH (.slice a2 s.ej.length Lu) g ->w0.heap.size <=g/\g < w2.heap.size from fun g hg=>eE RV hg);have P7:=V Qm;clear RV hov3 Qm hM hbf;go_wp2_with fail;refine⟨hx3.cell 1,?_⟩;refine eo rfl rfl ?_;go_wp2_with fail;generalize w3.setCell ⟨w.heap.size,0,none⟩ (.slice a2 s.ej.length Lu)=w4 at hx4 hkx1⊢;have x1:w4.cell? ⟨w.heap.size,1,none⟩=some (.slice af s.ey.length Nd):=hx4.cell 1;have f1:=hx4.free 1;refine⟨x1,?_⟩;iterate 1 (first | (apply sk rfl rfl;simp only [pt]) | (apply ef rfl rfl rfl;·(rintro w' t0;go_wp2;exact⟨rfl,rfl,rfl⟩)))
 refine fP rfl rfl ?_;have hkx2:=jh w4 w.heap.size 1 (.slice a3 s.ey.length M7);have hx5:eP (w4.setCell ⟨w.heap.size,1,none⟩ (.slice a3 s.ey.length M7)) w.heap.size #[.slice a2 s.ej.length Lu, .slice a3 s.ey.length M7, .int .i64 s.asks] 37:=by
  have:=hx4.set 1 (.slice a3 s.ey.length M7);simpa using this
 have Ng:=hkx1.trans hkx2 (fun i h=> .inl h);clear x0 f0 hx4 hx3 OX hkx1;go_wp2_with fail;refine⟨trivial,?_⟩;refine aD ?_;generalize w4.setCell ⟨w.heap.size,1,none⟩ (.slice a3 s.ey.length M7)=w1 at hx5 Ng⊢;clear x1 f1 hkx2;have hM0:w0.heap.size <=w2.heap.size:=by omega
 have MP:=hz3.keeps Ng (by omega);have Rj:=Ng.size;have LC:=Mf.trans (Ng.below Mf.size (fun i h=>by omega));have HOV1:=V (HOV.out.keeps Ng (fun i hi=>by have:=Rp.out i hi;omega));have hof1:=P7.out.keeps Ng (fun i hi=>by have:=(eE P7.out hi).1;omega);have HX5:=V hx5;have HZ1:=V MP;have hMl:=hof1;clear hMl HOV P7 hx5 MP hz3 Nu Mf Lr Ng;obtain⟨M,hMM⟩:∃M,w2.heap.size=M:=⟨_,rfl⟩;rw [hMM]at hof1 hM0 OV;have Rp:=V (show∀g,eH (.slice a2 s.ej.length Lu) g ->w0.heap.size <=g/\g < M by rw [<- hMM];exact Rp.out);clear hMM OU;obtain⟨x0,x1,x2⟩:=HX5.out.three;go_wp2_with fail;clear x0 x1 x2;refine eJ (fun a' w'=>∃(P0:List (Value × Value)) (k:Nat),a'=fr (gs a' 0 1 (.pointer (some ⟨w.heap.size,0,none⟩):: .pointer (some ⟨w.heap.size+1,0,none⟩)::gs a' 3 11 (.slice a3 s.ey.length M7:: .int .i64 s.ey.length:: .int .i64 k::gs a' 17 22 [])))/\J3 s.ey us M (.slice a3 s.ey.length M7) w1 w' P0 k) (fun a' _=>(s.ey.length - (intOf (a'.tmps.getD 16 undef)).toNat)) ?_ ?_
 ·exact⟨us,0,rfl,by omega,ee.refl _ _,HUL.out,hof1,fun i f u hi=>by omega,fun i _=>rfl⟩
 clear hof1;rintro R a' wr ⟨P0,k,Lp,hJ⟩ HR;dsimp only [fr,gs]at Lp;generalize slot a'=f at Lp;subst Lp;obtain⟨hk,Np,N2,Qm,hold,hnew⟩:=hJ;have hszr:=Np.size;have hBM:∀g,eH (.slice a3 s.ey.length M7) g ->M <=g:=fun g hg=>(eE Qm hg).1;have hxr:=HX5.out.keeps Np (fun h=>by have:=hBM _ h;omega);have hbr:=LC.trans (Np.below LC.size (fun i h=>by have:=hBM _ h;omega));obtain⟨x0,x1,x2⟩:=hxr.three;have HOLD:=V hold;have HNEW:=V hnew;clear hold hnew;by_cases Mm:k < s.ey.length;rotate_left
 ·obtain rfl:k=s.ey.length:=by omega
  have hzr:=HZ1.out.keeps Np (fun h=>by have:=hBM _ h;omega);obtain⟨y0,y1,y2⟩:=hzr.three;have z0:=hzr.free 0;have z1:=hzr.free 1;have z2:=hzr.free 2;have HB:=V hBM;have Qa:=V Np;have HOFR:=V Qm;clear hBM Np Qm;go_wp2_with fail;have hx:=hzr.Dm (.slice a2 s.ej.length Lu) (.slice a3 s.ey.length M7) (.int .i64 s.asks);have Ng:=wW wr (w.heap.size+1) (.slice a2 s.ej.length Lu) (.slice a3 s.ey.length M7) (.int .i64 s.asks);refine aN (eG rfl _ _ rfl hx.wV) rfl ?_;have hsf:=Ng.size;refine⟨_,_,M,rfl,((hbr.setCell (p:=⟨w.heap.size+1,0,none⟩) (by show _ <=w.heap.size+1;omega) _).setCell (p:=⟨w.heap.size+1,1,none⟩) (by show _ <=w.heap.size+1;omega) _).setCell (p:=⟨w.heap.size+1,2,none⟩) (by show _ <=w.heap.size+1;omega) _,by omega,by omega,?_,fun g hg=>(Rp.out g hg).2,?_⟩
  ·exact mW ((HOV1.out.keeps Qa.out (fun i hi hj=>by have:=Rp.out i hi;have:=HB.out i hj;omega)).keeps Ng (fun i hi=>by have:=Rp.out i hi;omega)) (fun i hi=>by have:=Rp.out i hi;omega)
  ·have Qk:kK wr M (.slice a3 s.ey.length M7) s.ey:=⟨P0,N2,HOFR.out,HOKF.out,fun i f u hf hu=>HOLD.out i f u (aM.1 hf).1 hf hu⟩
   exact Qk.keeps Ng (fun i h=>by omega)
 obtain⟨c,he⟩:∃e,s.ey[k]?=some e:=⟨_,aw Mm⟩;obtain⟨⟨u,x⟩,hux⟩:∃e,us[k]?=some e:=⟨_,aw (by have:=HUL.out;omega)⟩;have hux':P0[k]?=some (u,x):=(HNEW.out k (ag _)).trans hux;have hz:(s.ey.zip P0)[k]?=some (c,(u,x)):=(cJ (z:=(c,(u,x)))).2 ⟨he,hux'⟩;obtain⟨g,capg,cur,hvg,PE,NY,hg3,_,_⟩:=Qm.open (by intro h;rw [h]at hz;simp at hz);injection hvg with e1 e2 e3;subst e1 e3;obtain⟨aa,capp,hva,_,_,Ln⟩:=Qm.fR iH;obtain⟨b,off,Mg,Lw,hc⟩:=Ln k _ hz;injection hva with e4 e5 e6;rw [<- e4]at Mg;injection Mg with Mg;injection Mg with e7 e8;subst e7 e8;have c0:=hc 0 _ rfl;have c1:=hc 1 _ rfl;have c2:=hc 2 _ rfl;have c3:=hc 3 _ rfl;have c4:=hc 4 _ rfl;rw [bP]at c0 c1 c2 c3 c4;rw [aK]at c0;obtain⟨hu,hx⟩:=HU.out k c (u,x) he hux;obtain⟨au,Lx,hue,hcu1,hcu,_⟩:=id hu;obtain⟨ax,MC,hxe,hcx1,hcx,_⟩:=id hx;simp only at hue hxe;subst hue hxe;obtain⟨hl31,hl32⟩:=HL3.out c (aO he);have NN:=(an wr.heap.size wr).alloc (ag _) (.cells #[.int .i64 c.fn, .int .i64 c.pc, .slice au c.locals.length Lx, .int .i64 c.base, .slice ax c.labels.length MC] 40);have HUa:=V ((hu.below hbr).below NN);have HXa:=V ((hx.below hbr).below NN);have hxa:=hxr.below NN hxr.lt;have hX:=eP.new wr #[.int .i64 c.fn, .int .i64 c.pc, .slice au c.locals.length Lx, .int .i64 c.base, .slice ax c.labels.length MC] 40;have HE:=V he;have HZZ:=V hz;have HUX:=V hux';have HOFR:=V Qm;have Qa:=V Np;have HC2:=V c2;have HC4:=V c4;have HG3:=V hg3;have HB:=V hBM;clear hu hx he hz hux hux' Qm Np hBM Ln hc e2 e4 e5 e6 hg3;unfold maxLen at hcu hcx;go_wp2_with fail;obtain⟨X,hXX⟩:∃X,X=wr.heap.size:=⟨_,rfl⟩;rw [<- hXX]at hX⊢;have hX1:wr.heap.size <=X:=by omega
 clear hXX c0 c1 c2 c3 c4 x0 x1 x2;generalize wr.alloc (.cells #[.int .i64 c.fn, .int .i64 c.pc, .slice au c.locals.length Lx, .int .i64 c.base, .slice ax c.labels.length MC] 40)=wa at NN hxa hX HUa HXa⊢;have hS:zZ w.heap.size X (.slice (some ⟨g,0,none⟩) s.ey.length M7) (.slice au c.locals.length Lx) (.slice ax c.labels.length MC) wa:=⟨hxa.cell 1,hX.cell 2,hX.cell 4⟩;have HS:=V hS;have hgl:g < wa.heap.size:=by have:=NN.size;omega
 have QZ:=hX.lt;have hBl:=hxa.lt;have hgB:w.heap.size≠g:=by omega
 clear hS;refine eu (zZ w.heap.size X (.slice (some ⟨g,0,none⟩) s.ey.length M7) (.slice au c.locals.length Lx) (.slice ax c.labels.length MC))
  (up 0 8 ((9,true)::(10,true)::(8,false)::(11,false)::(12,true)::(13,true)::(14,false)::(15,true)::(16,true)::(17,false)::[])) (by kernel_rfl) (by kernel_rfl) HS.out ?_
 clear hX hxa;iterate 10 (first | (apply sk rfl rfl;simp only [pt]) | (apply ef rfl rfl rfl;·(rintro w' ⟨t0,t1,t2⟩;go_wp2;exact⟨rfl,rfl,rfl⟩)))
 refine eo rfl rfl ?_;go_wp2_with fail;refine(oV _ c.locals wa.drew HUa.out (by omega)).mono ?_;rintro y w5 ⟨v1,rfl,OE,hb5'⟩;have Mw:Below wa.heap.size wa w5:=gd hb5';have OE:ea 42 2 gw w5 wa.heap.size v1 c.locals:=OE;obtain⟨p1,q1,rfl,_,_,_⟩:=OE.fR gB;have Nj:=V OE;clear hb5' OE;have hsa:=NN.size;go_wp2_with fail;refine⟨HS.out.keeps (ee.eh (S:=fun _=>False) Mw) ⟨hBl,fun h=>h⟩ ⟨QZ,fun h=>h⟩,?_⟩;refine eo rfl rfl ?_;go_wp2_with fail;refine(BD _ c.labels w5 (HXa.out.below Mw) (by omega)).mono ?_;rintro y w6 ⟨v2,rfl,LL,Ov⟩;have hsz5:=Mw.size;have hsz6:=Ov.size;have OE:=mW (Nj.out.below Ov) (base':=M) (fun g hg=>by have:=(eE Nj.out hg).1;omega);have ho1':∀b,eH (.slice p1 c.locals.length q1) b ->b≠g:=fun b hb=>by have:=(eE Nj.out hb).1;omega
 have ho2':∀b,eH v2 b ->b≠g:=fun b hb=>by have:=(eE LL hb).1;omega
 have ho2'':=mW LL (base':=M) (fun g hg=>by have:=(eE LL hg).1;omega);obtain⟨p2,q2,rfl,_,_,_⟩:=LL.fR jS;have hb56:=Mw.trans (Ov.mono (by omega));have PZ:ee (fun _=>False) wr w6:=(ee.eh NN).trans (ee.eh (S:=fun _=>False) hb56) (fun i h=> .inl h);have hS6:=HS.out.keeps (ee.eh (S:=fun _=>False) hb56) ⟨hBl,fun h=>h⟩ ⟨QZ,fun h=>h⟩;have hof6:=HOFR.out.keeps PZ (fun _ _ h=>h);have c2:w6.cell? ⟨g,k*5+2,none⟩=some (.slice au c.locals.length Lx):=(PZ.cell (p:=⟨g,k*5+2,none⟩) NY (fun h=>h)).trans HC2.out;have c4:w6.cell? ⟨g,k*5+4,none⟩=some (.slice ax c.labels.length MC):=(PZ.cell (p:=⟨g,k*5+4,none⟩) NY (fun h=>h)).trans HC4.out;have hg6:w6.heap[g]?=some (.cells cur 40):=(PZ.block g NY (fun h=>h)).trans HG3.out;have z2:w6.frozen? ⟨g,k*5+2,none⟩=false:=dd w6 g _ cur _ hg6;have hgl6:g < w6.heap.size:=by omega
 have Nj:=V OE;have HO1':=V ho1';have Mq:=V ho2'';have HO2':=V ho2';have HOF6:=V hof6;have HK6:=V PZ;clear OE ho1' LL ho2' ho2'' hof6 PZ Mw Ov hb56 NN;go_wp2_with fail;refine⟨hS6,?_⟩;iterate 2 (first | (apply sk rfl rfl;simp only [pt]) | (apply ef rfl rfl rfl;·(rintro w' ⟨t0,t1,t2⟩;go_wp2;exact⟨rfl,rfl,rfl⟩)))
 refine eo rfl rfl ?_;go_wp2_with fail;have hk67:=jh w6 g (k*5+2) (.slice p1 c.locals.length q1);have hS7:=hS6.keeps hk67 ⟨by omega,fun h=>hgB h⟩ ⟨by omega,fun h=>by omega⟩;have hof7:=HOF6.out.set iH (i:=k) (j:=2) (u:= .slice p1 c.locals.length q1) (y:=(c,(.slice p1 c.locals.length q1, .slice ax c.labels.length MC))) HZZ.out (by omega) rfl;have hg7:(w6.setCell ⟨g,k*5+2,none⟩ (.slice p1 c.locals.length q1)).heap[g]?=some (.cells (cur.setIfInBounds (k*5+2) (.slice p1 c.locals.length q1)) 40):=heap_setCell_same w6 g _ cur _ _ hg6;have hzz:((s.ey.zip P0).set k (c,(.slice p1 c.locals.length q1, .slice ax c.labels.length MC)))[k]?=some (c,(.slice p1 c.locals.length q1, .slice ax c.labels.length MC)):=by
  rw [List.getElem?_set_self (aM.1 HZZ.out).1]
 have c4':=hof7.cell iH (j:=4) hzz rfl;have OP:=hof7.set iH (i:=k) (j:=4) (u:= .slice p2 c.labels.length q2) (y:=(c,(.slice p1 c.locals.length q1, .slice p2 c.labels.length q2))) hzz (by omega) rfl;rw [List.set_set,Cs _ _ _ _ _ HE.out]at OP;generalize w6.setCell ⟨g,k*5+2,none⟩ (.slice p1 c.locals.length q1)=w7 at hk67 hS7 hg7 c4' OP⊢;have z4:w7.frozen? ⟨g,k*5+4,none⟩=false:=dd w7 g _ _ _ hg7;have hk78:=jh w7 g (k*5+4) (.slice p2 c.labels.length q2);have hs67:=hk67.size;have hS8:=hS7.keeps hk78 ⟨by omega,fun h=>hgB h⟩ ⟨by omega,fun h=>by omega⟩;have HOF8:=V OP;clear OP hof7 hzz c2 c4 z2 hg6 hg7;refine⟨hS7,?_⟩;iterate 2 (first | (apply sk rfl rfl;simp only [pt]) | (apply ef rfl rfl rfl;·(rintro w' ⟨t0,t1,t2⟩;go_wp2;exact⟨rfl,rfl,rfl⟩)))
 refine eo rfl rfl ?_;go_wp2_with fail;refine⟨hS8,?_⟩;refine eV ?_;refine aD ?_;have hk68:=hk67.trans hk78 (fun i h=> .inl h);have hkr8:ee (eH (.slice (some ⟨g,0,none⟩) s.ey.length M7)) wr _:=(HK6.out.mono (fun i h=>h.elim)).trans hk68 (fun i h=> .inl (by subst h;rfl));generalize w7.setCell ⟨g,k*5+4,none⟩ (.slice p2 c.labels.length q2)=w8 at HOF8 hk68 hkr8⊢;clear hS8 hS7 hS6 z4 c4' hk67 hk78;go_wp2_with fail;refine HR.out _ _ ⟨P0.set k (.slice p1 c.locals.length q1, .slice p2 c.labels.length q2),k+1,rfl,by omega,Qa.out.trans hkr8 (fun i h=> .inl h),by simpa using N2,HOF8.out,fun i f u hi hf hu=>?_,fun i hi=>?_⟩ ?_
 ·rcases bD i k with hik | hik
  ·rw [List.getElem?_set_ne (by omega)]at hu
   obtain⟨q1,q2⟩:=HOLD.out i f u hik hf hu;exact⟨q1.keeps hkr8 (fun b hb=>q1.ne HOFR.out (by decide) b hb),q2.keeps hkr8 (fun b hb=>q2.ne HOFR.out (by decide) b hb)⟩
  ·obtain rfl:i=k:=by omega
   rw [List.getElem?_set_self (by omega)]at hu;injection hu with hu;subst hu;rw [HE.out]at hf;injection hf with hf;subst hf;exact⟨mR Nj.out hk68 (fun b hb=>HO1'.out b hb),mR Mq.out hk68 (fun b hb=>HO2'.out b hb)⟩
 ·rw [List.getElem?_set_ne (by omega)]
  exact HNEW.out i (by omega)
 ·simp [intOf]
  omega
end Go.Proofs.YthbjdhjppbcneaaGreatDoor
