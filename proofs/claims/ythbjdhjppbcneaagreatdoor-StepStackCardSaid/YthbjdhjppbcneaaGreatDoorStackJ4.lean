import Derived.Test.YthbjdhjppbcneaaGreatDoorStackJ3
namespace Go.Proofs.YthbjdhjppbcneaaGreatDoor
set_option maxRecDepth 100000
set_option maxHeartbeats 20000000
open Go.RowKit Tryz
open Lib renaming hid->V
set_option linter.all false
def rB (P:Program) (ops:Array Oper) (Q:Exit ->Act ->World ->Prop) (S:World ->Prop) (d:Nat):Nat ->Array Bool ->Act ->World ->Prop
 | 0,listed,a,w=>Region.ready .any ops listed=[]/\Q .normal a w
 | fuel+1,listed,a,w=>
  (Region.ready .any ops listed=[] ->Q .normal a w)/\
  ∀i∈Region.ready .any ops listed,wpOp P ops Q i (fun a' w'=>(i=d ->wpAny P .any ops Q fuel (listed.setIfInBounds i true) a' w')/\(i≠d ->S w'/\rB P ops Q S d fuel (listed.setIfInBounds i true) a' w')) a w
theorem tI {P:Program} {ops:Array Oper} {Q:Exit ->Act ->World ->Prop} {S:World ->Prop} {d:Nat}:∀(fuel:Nat) (listed:Array Bool) (a:Act) (w:World),rB P ops Q S d fuel listed a w ->wpAny P .any ops Q fuel listed a w
 | 0,_,_,_,h=>h
 | fuel+1,_,_,_,h=>⟨h.1,fun i hi=>wpOp_mono (fun a' w' h'=>by
   by_cases hd:i=d
   ·exact h'.1 hd
   ·exact tI fuel _ a' w' (h'.2 hd).2) (h.2 i hi)⟩
def blocked (ops:Array Oper) (listed:Array Bool) (i:Nat) (K:List Nat):Bool:=
 K.all fun k=>(listed.getD k true==false)&& !(k==i)&&(match ops[k]? with | some o=>o.after.any (fun e=>Region.binds .any e&&(e.on==i || K.contains e.on)) | none=>false)
def Ig (ops:Array Oper) (listed:Array Bool) (i:Nat):List Nat:=
 Nat.repeat (fun K=>K.filter fun k=>match ops[k]? with | some o=>o.after.any (fun e=>Region.binds .any e&&(e.on==i || K.contains e.on)) | none=>false) ops.size
  ((List.range ops.size).filter fun k=> !(k==i)&&(listed.getD k true==false))
theorem qq {listed:Array Bool} {i:Nat} (h:listed.getD i true=false):listed.getD i false=false:=by
 rcases bq i listed.size with h' | h'
 ·simp [h']at h⊢;exact h
 ·simp [Array.getElem?_eq_none h']at h
theorem oW {ops:Array Oper} {listed:Array Bool} {i:Nat} {K:List Nat} (hb:blocked ops listed i K=true) (hi:listed.getD i true=false) {k:Nat} (hk:k∈K):k≠i/\k∉Region.ready .any ops listed:=by
 simp only [blocked,List.all_eq_true]at hb;have h1:=hb k hk;simp only [bN,dC,dN,dE]at h1;obtain⟨⟨h2,h3⟩,h4⟩:=h1;refine⟨h3,fun hr=>?_⟩;obtain⟨_,o,ho,KG⟩:=mem_ready.1 hr;rw [ho]at h4;obtain⟨e,he,PO⟩:=Array.any_eq_true'.1 h4;simp only [bN,Bool.or_eq_true,dC]at PO;have h5:=KG e he PO.1;rcases PO.2 with h6 | h6
 ·rw [h6,qq hi]at h5
  cases h5
 ·have h7:=hb e.on (by simpa using h6)
  simp only [bN,dC]at h7;rw [qq h7.1.1]at h5;cases h5
theorem zE {ops:Array Oper} {listed:Array Bool} {i j:Nat} {K:List Nat} (hb:blocked ops listed i K=true) (hj:j∉K):blocked ops (listed.setIfInBounds j true) i K=true:=by
 simp only [blocked,List.all_eq_true]at hb⊢;intro k hk;have h1:=hb k hk;have hjk:j≠k:=fun h=>hj (by rw [h];exact hk);rw [getD_set_ne true hjk];exact h1
theorem qE {P:Program} {ops:Array Oper} {Q:Exit ->Act ->World ->Prop} {S:World ->Prop} {d i:Nat} {oi:Oper} {v:Value} {K:List Nat} (hd:d∈K) (hi:ops[i]?=some oi) (hsel:∀(j:Nat) (o:Oper) cs b,ops[j]?=some o ->o.op≠ .select cs b)
  (hQ:∀c a w,¬ Q (.panic c) a w):
  ∀(fuel:Nat) (listed:Array Bool) (a:Act) (w:World),
   (∀j oj,ops[j]?=some oj ->j≠i ->listed.getD j true=false ->(∀e∈oj.after,Region.binds .any e=true ->e.on≠i) ->oi.apart ops oj=true) ->
   i∈Region.ready .any ops listed ->blocked ops listed i K=true ->YieldsIf P ops S oi v a ->S w ->
   rB P ops Q S d fuel (listed.setIfInBounds i true) (a.put oi.dst v) w ->rB P ops Q S d (fuel+1) listed a w:=by
 intro fuel
 induction fuel with
 | zero=>
  intro listed a w _ hr hb hy hS H;refine⟨fun h=>(by rw [h]at hr;cases hr),fun j hj=>?_⟩;have hdi:=(oW hb (mem_ready.1 hr).1 hd).1;by_cases hji:j=i
  ·subst hji;exact hy.wpOp hi hS ⟨fun h=>absurd h.symm hdi,fun _=>⟨hS,H⟩⟩
  ·have:=ready_mono hj hji
   rw [H.1]at this;cases this
 | succ fuel ih=>
  intro listed a w hfree hr hb hy hS H;refine⟨fun h=>(by rw [h]at hr;cases hr),fun j hj=>?_⟩;have hdi:=(oW hb (mem_ready.1 hr).1 hd).1;by_cases hji:j=i
  ·subst hji;exact hy.wpOp hi hS ⟨fun h=>absurd h.symm hdi,fun _=>⟨hS,H⟩⟩
  ·have hjK:j∉K:=fun h=>(oW hb (mem_ready.1 hr).1 h).2 hj
   have hjd:j≠d:=fun h=>hjK (h▸hd);have h1:=wpOp_mono (fun a' w' h=>h.2 hjd) (H.2 j (ready_mono hj hji));obtain⟨hjun,oj,hoj,KG⟩:=mem_ready.1 hj;have Ln:∀e∈oj.after,Region.binds .any e=true ->e.on≠i:=fun e he hb heq=>by
    have h1:=KG e he hb;have h0:=(mem_ready.1 hr).1;rw [heq,qq h0]at h1;cases h1
   have h2:=wpOp_putIf hoj (hfree j oj hoj hji hjun Ln) (fun cs b=>hsel i oi cs b hi) (fun cs b=>hsel j oj cs b hoj) (fun c a w h=>(hQ _ _ _ h).elim) hy h1;have hfree':∀k ok,ops[k]?=some ok ->k≠i ->(listed.setIfInBounds j true).getD k true=false ->
     (∀e∈ok.after,Region.binds .any e=true ->e.on≠i) ->oi.apart ops ok=true:=fun k ok hk hki hun NI=>by
    refine hfree k ok hk hki ?_ NI;by_cases hjk:j=k
    ·subst hjk;exact hjun
    ·rw [getD_set_ne true hjk]at hun;exact hun
   refine wpOp_mono (fun a' w' h3=>⟨fun h=>absurd h hjd,fun _=>⟨h3.2.1,ih (listed.setIfInBounds j true) a' w' hfree' (ready_mono hr (Ne.symm hji)) (zE hb hjK) h3.1 h3.2.1 ?_⟩⟩) h2;rw [Array.setIfInBounds_comm _ _ hji];exact h3.2.2
def yw (P:Program) (ops:List Oper) (Q:Exit ->Act ->World ->Prop) (d:Nat):Exit ->Act ->World ->Prop
 | .normal,a,w=>∃o,nth ops d=some o/\
   ((ld ops o.guard a=true/\wpList P #[] (nX Q (fun _=>True) (Q .normal)) [bare o] a w)\/(ld ops o.guard a=false/\Q .normal (a.put o.dst undef) w))
 | e,a,w=>Q e a w
def qw (ops:Array Oper) (d:Nat):List (Nat × Bool) ->Array Bool ->Bool
 | [],listed=>(Region.ready .any ops listed==[d])&&(Region.ready .any ops (listed.setIfInBounds d true)).isEmpty
 | (i,true)::rest,listed=>(ops[i]?.any fun o=>isVal o.op)&&(Region.ready .any ops listed).contains i&&Region.free .any ops listed i&&blocked ops listed i (Ig ops listed i)&&(Ig ops listed i).contains d&&qw ops d rest (listed.setIfInBounds i true)
 | (i,false)::rest,listed=> !(i==d)&&(Region.ready .any ops listed==[i])&&qw ops d rest (listed.setIfInBounds i true)
theorem Cj {P:Program} {ops:Array Oper} {Q Q':Exit ->Act ->World ->Prop} {i:Nat} {K:Act ->World ->Prop} {a:Act} {w:World} (hp:∀c a w,Q (.panic c) a w ->Q' (.panic c) a w) (hl:LetsOut Q ->LetsOut Q') (h:wpOp P ops Q i K a w):wpOp P ops Q' i K a w:=by
 unfold wpOp at*;split
 ·rename_i ho
  simp only [ho]at h;exact h
 ·rename_i o ho
  simp only [ho]at h;split
  ·rename_i hw
   simp only [hw,cY]at h;rcases h with h | ⟨h1,h2⟩
   ·left
    unfold Oper.wp at*;generalize(execOp a.eval o).run P w=r at*;cases r with
    | ok n w'=>
     cases n <;>simp only [Oper.upon]at h⊢
     case value=>exact h
     case skip=>exact h
     case defer=>exact h
     case enter=>
      refine bT h fun e w'' he=>?_;cases e with
      | returned v=>exact he
      | panicked c=>exact hp _ _ _ he
      | outgrown=>exact hl he
     case row=>exact Rows.mono h fun _ _ he=>he
    | halt x w'=>
     cases x <;>simp only [Oper.upon]at h⊢
     case panic=>exact hp _ _ _ h
   ·exact .inr ⟨h1,hl h2⟩
  ·rename_i hw
   simp only [hw]at h;exact h
theorem nj {P:Program} {ops:Array Oper} {Q:Exit ->Act ->World ->Prop} {S:World ->Prop} {d:Nat} (hQ:∀c a w,¬ Q (.panic c) a w) (hs:Region.noSelect ops=true):
  ∀(l:List (Nat × Bool)) (fuel:Nat) (listed:Array Bool) (a:Act) (w:World),l.length+1 <=fuel ->qw ops d l listed=true ->S w ->
   iZ P ops.toList (yw P ops.toList Q d) S l a w ->rB P ops Q S d fuel listed a w
 | l,0,_,_,_,hl,_,_,_=>by omega
 | [],fuel+1,listed,a,w,_,Kt,_,h=>by
  simp only [qw,bN,dC,List.isEmpty_iff]at Kt;refine⟨fun h0=>(by rw [Kt.1]at h0;cases h0),fun j hj=>?_⟩;rw [Kt.1]at hj;obtain rfl:j=d:=by simpa using hj
  have h2:=mT (S:=fun _=>True) (K:=Q .normal) (K':=Q .normal) (Q:=Q) (ops:=ops) (j:=j) trivial (fun a w _ h=>h) h;refine wpOp_mono (fun a' w' h3=>⟨fun _=>?_,fun h=>absurd rfl h⟩) h2;cases fuel with
  | zero=>exact⟨Kt.2,h3.2⟩
  | succ f=>exact⟨fun _=>h3.2,by rw [Kt.2];simp⟩
 | (i,true)::rest,fuel+1,listed,a,w,hl,Kt,hS,h=>by
  simp only [qw,bN]at Kt;obtain⟨⟨⟨⟨⟨hv,hr⟩,hf⟩,Lb⟩,hkd⟩,Li⟩:=Kt;have hkd:d∈Ig ops listed i:=by simpa using hkd
  simp only [aI]at hl;obtain⟨o,ho,h⟩:=h;rw [nV,cE]at ho;rw [ho]at hv;simp only [Option.any_some]at hv;rcases h with⟨hg,d',hd,hds,a',hp,hk⟩ | ⟨hg,hk⟩
  ·refine qE (v:=a'.tmps.getD d' undef) hkd ho (Region.noSelect_spec hs) hQ fuel listed a w (Region.free_spec ho hf) (by simpa using hr) Lb (.inl ⟨by rw [me];exact hg,fun w' hw'=>?_⟩) hS ?_
   ·rcases lW (hp w' hw')with h1 | ⟨_,h2⟩
    ·unfold Oper.wp at h1
     rw [iL]at h1;rcases mo (P:=P) (ρ:=a.eval) hv w' with⟨v,w2,Kx⟩ | ⟨x,w2,Kx⟩
     ·rw [Kx]at h1⊢
      obtain⟨_,h3,h4⟩:=h1;subst h4;subst h3;have:(bare o).dst=some d':=hd;rw [this];simp [Act.put,hds]
     ·rw [Kx]at h1
      cases x <;>simp only [Oper.upon]at h1
      case panic=>exact absurd h1.1 (by simp)
    ·obtain⟨_,_,h3,_⟩:=h2
     exact absurd h3 (by simp)
   ·have ha:a.put o.dst (a'.tmps.getD d' undef)=a':=by
     rcases lW (hp w hS)with h1 | ⟨_,h2⟩
     ·unfold Oper.wp at h1
      rw [iL]at h1;rcases mo (P:=P) (ρ:=a.eval) hv w with⟨v,w2,Kx⟩ | ⟨x,w2,Kx⟩
      ·rw [Kx]at h1
       obtain⟨_,h3,h4⟩:=h1;have hd':(bare o).dst=some d':=hd;rw [<- h3,hd',hd];simp [Act.put,hds]
      ·rw [Kx]at h1
       cases x <;>simp only [Oper.upon]at h1
       case panic=>exact absurd h1.1 (by simp)
     ·obtain⟨_,_,h3,_⟩:=h2
      exact absurd h3 (by simp)
    rw [ha];exact nj hQ hs rest fuel _ _ _ (by omega) Li hS hk
  ·refine qE (v:=undef) hkd ho (Region.noSelect_spec hs) hQ fuel listed a w (Region.free_spec ho hf) (by simpa using hr) Lb (.inr ⟨by rw [me];exact hg,rfl⟩) hS ?_
   exact nj hQ hs rest fuel _ _ _ (by omega) Li hS hk
 | (i,false)::rest,fuel+1,listed,a,w,hl,Kt,hS,h=>by
  simp only [qw,bN,dC,dN,dE]at Kt;obtain⟨⟨V,hr⟩,Li⟩:=Kt;simp only [aI]at hl;refine⟨fun h0=>(by rw [hr]at h0;cases h0),fun j hj=>?_⟩;rw [hr]at hj;obtain rfl:j=i:=by simpa using hj
  have hlq:LetsOut (yw P ops.toList Q d) ->LetsOut Q:=fun⟨a,w,h⟩=>⟨a,w,h⟩;have h2:=mT (S:=S) (Q:=yw P ops.toList Q d) (K':=rB P ops Q S d fuel (listed.setIfInBounds j true)) (ops:=ops) (j:=j) hS (fun a w hS h=>nj hQ hs rest fuel _ a w (by omega) Li hS h) h;exact Cj (fun c a w h=>h) hlq (wpOp_mono (fun a' w' h3=>⟨fun h=>absurd h V,fun _=>h3⟩) h2)
theorem eP {P:Program} {ops:List Oper} {Q:Exit ->Act ->World ->Prop} {id:Nat} {a:Act} {w:World} (S:World ->Prop) (d:Nat) (l:List (Nat × Bool)) (hm:P.follows .mixedOrders=true)
  (Kt:(qw ops.toArray d l (Array.replicate ops.length false)&&Region.noSelect ops.toArray&&decide (l.length+1 <=ops.length))=true) (hS:S w.drew)
  (h:iZ P ops (yw P ops (NoPanic Q) d) S l a w.drew):(Code.region id ops.toArray true).wp P Q a w:=by
 simp only [bN,dj]at Kt;obtain⟨⟨Kt,hn⟩,hl⟩:=Kt;refine wp_region_noPanic (wp_region_any hm (tI (S:=S) (d:=d) _ _ _ _ ?_));refine nj (S:=S) (fun c a w h=>h) hn l _ _ a _ ?_ ?_ hS ?_
 ·simpa using hl
 ·simpa using Kt
 ·simpa using h
theorem fI {P:Program} {ops:List Oper} {Q:Exit ->Act ->World ->Prop} {S:World ->Prop} {d:Nat} {a:Act} {w:World} {op:Op} {t:TypeId} {p:String} {af:Array Edge} {g:Option (Nat × Bool)} {dst:Option Tmp}
  (hi:nth ops d=some ⟨dst,op,t,p,af,g⟩) (hg:ld ops g a=true) (h:wpList P #[] (nX Q (fun _=>True) (Q .normal)) [⟨dst,op,t,p,#[],none⟩] a w):iZ P ops (yw P ops Q d) S [] a w:=
 ⟨_,hi, .inl ⟨hg,h⟩⟩
theorem xK (c d:eW) (u x u2 x2:Value) (w:World) (hu:ee 2 gg w u c.locals) (hx:ee 2 kl w x c.labels) (MD:ee 2 gg w u2 d.locals) (NP:ee 2 kl w x2 d.labels):
  Calls prog 131 #[.agg #[.int .i64 c.fn, .int .i64 c.pc,u, .int .i64 c.base,x], .agg #[.int .i64 d.fn, .int .i64 d.pc,u2, .int .i64 d.base,x2]] w
   (fun e w'=>∃r:Bool,e= .returned (.bool r)/\(r=true↔c=d)/\Below w.heap.size w w'):=by
 have HU:=V hu;have HV:=V hx;have Ow:=V MD;have Nr:=V NP;obtain⟨au,Kr,rfl,_,_,_⟩:=hu;obtain⟨ax,Lr,rfl,_,_,_⟩:=hx;obtain⟨Po,Od,rfl,_,_,_⟩:=MD;obtain⟨ax2,Oe,rfl,_,_,_⟩:=NP;have hb:Below w.heap.size w ((w.alloc (.cells #[.int .i64 c.fn, .int .i64 c.pc, .slice au c.locals.length Kr, .int .i64 c.base, .slice ax c.labels.length Lr] 40)).alloc (.cells #[.int .i64 d.fn, .int .i64 d.pc, .slice Po d.locals.length Od, .int .i64 d.base, .slice ax2 d.labels.length Oe] 40)):=
  ((an w.heap.size w).alloc (ag _) _).alloc (by simp) _
 have LI:eE ((w.alloc (.cells #[.int .i64 c.fn, .int .i64 c.pc, .slice au c.locals.length Kr, .int .i64 c.base, .slice ax c.labels.length Lr] 40)).alloc (.cells #[.int .i64 d.fn, .int .i64 d.pc, .slice Po d.locals.length Od, .int .i64 d.base, .slice ax2 d.labels.length Oe] 40)) w.heap.size #[.int .i64 c.fn, .int .i64 c.pc, .slice au c.locals.length Kr, .int .i64 c.base, .slice ax c.labels.length Lr] 40:=(eE.new w _ _).alloc _;have MX:eE ((w.alloc (.cells #[.int .i64 c.fn, .int .i64 c.pc, .slice au c.locals.length Kr, .int .i64 c.base, .slice ax c.labels.length Lr] 40)).alloc (.cells #[.int .i64 d.fn, .int .i64 d.pc, .slice Po d.locals.length Od, .int .i64 d.base, .slice ax2 d.labels.length Oe] 40)) (w.heap.size+1) #[.int .i64 d.fn, .int .i64 d.pc, .slice Po d.locals.length Od, .int .i64 d.base, .slice ax2 d.labels.length Oe] 40:=by
  have:=eE.new (w.alloc (.cells #[.int .i64 c.fn, .int .i64 c.pc, .slice au c.locals.length Kr, .int .i64 c.base, .slice ax c.labels.length Lr] 40)) #[.int .i64 d.fn, .int .i64 d.pc, .slice Po d.locals.length Od, .int .i64 d.base, .slice ax2 d.labels.length Oe] 40;rw [aE]at this;exact this
 go_enter func131,ntmps131;by_cases q1:c.fn=d.fn;rotate_left
 ·have f1:=dQ q1
  have HX:=V (show c.fn≠d.fn from q1);clear q1;go_wp2_with fail;go_ret;exact⟨false,rfl,⟨fun h=>(by cases h),fun h=>(HX.out (by rw [h])).elim⟩,hb⟩
 have f1:=eF q1;have Q1:=V q1;clear q1;by_cases q2:c.pc=d.pc;rotate_left
 ·have f2:=dQ q2
  have HX:=V (show c.pc≠d.pc from q2);clear q2;go_wp2_with fail;go_ret;exact⟨false,rfl,⟨fun h=>(by cases h),fun h=>(HX.out (by rw [h])).elim⟩,hb⟩
 have f2:=eF q2;have Q2:=V q2;clear q2;by_cases q3:c.base=d.base;rotate_left
 ·have f3:=dQ q3
  have HX:=V (show c.base≠d.base from q3);clear q3;go_wp2_with fail;go_ret;exact⟨false,rfl,⟨fun h=>(by cases h),fun h=>(HX.out (by rw [h])).elim⟩,hb⟩
 have f3:=eF q3;have Q3:=V q3;clear q3;go_wp2_with fail;refine(sb _ _ c.locals d.locals _ (HU.out.below (hb.mono (ag _))) (Ow.out.below (hb.mono (ag _)))).mono ?_;rintro y w2 ⟨r,rfl,hr,Kl⟩;have M0:=LI.below Kl LI.lt;have hby2:=MX.below Kl MX.lt;have KF:=hb.trans (Kl.mono hb.size);have MM:=V hr;obtain⟨x0,x1,x2,x3,x4⟩:=M0.rF;obtain⟨y0,y1,y2,y3,y4⟩:=hby2.rF;clear hr Kl LI MX hb M0 hby2;cases r with
 | false=>
  go_wp2_with fail;go_ret;refine⟨false,rfl,⟨fun h=>(by cases h),fun h=>?_⟩,KF⟩;have g:=MM.out.2 (by rw [h]);simp at g
 | true=>
  go_wp2_with fail;refine(xj _ _ c.labels d.labels _ (HV.out.below (KF.mono (ag _))) (Nr.out.below (KF.mono (ag _)))).mono ?_;rintro y w3 ⟨r2,rfl,Np,K4⟩;have hb'':=KF.trans (K4.mono KF.size);have Of:=V Np;clear Np K4 KF x0 x1 x2 x3 x4 y0 y1 y2 y3 y4;go_wp2_with fail;go_ret;refine⟨r2,rfl,⟨fun h=>?_,fun h=>Of.out.2 (by rw [h])⟩,hb''⟩;have g:=MM.out.1 (by simp);have g':=Of.out.1 h;obtain⟨p0,p1,p2,p3,p4⟩:=c;obtain⟨s0,s1,s2,s3,s4⟩:=d;have g1:=Q1.out;have g2:=Q2.out;have g3:=Q3.out;simp only at g g' g1 g2 g3;rw [g,g',g1,g2,g3]
theorem xP (va vb:Value) (la lb:List eW) (w:World) (ha:fU w va la) (hb:fU w vb lb):
  Calls prog 130 #[va,vb, .func (.func 131) #[] #[]] w (oZ la lb w):=by
 have HA:=V ha;have HB:=V hb;obtain⟨a,cap,rfl,h1,h2⟩:=ha.slice;obtain⟨a2,Kn,rfl,h3,h4⟩:=hb.slice;clear ha hb;by_cases hlen:la.length=lb.length;rotate_left
 ·have f1:(((la.length:Int)) !=((lb.length:Int)))=true:=fc (by omega)
  have HL:=V hlen;clear hlen;go_enter func130,ntmps130;go_wp2_with fail;go_ret;exact⟨false,rfl,⟨fun h=>(by cases h),fun h=>absurd (cW List.length h) HL.out⟩,an _ _⟩
 rw [<- hlen]at h3 HB⊢;have HL:=V hlen;clear hlen;go_enter func130,ntmps130;go_wp2_with fail;refine ez (fun a' w'=>∃(k:Nat),a'=fr (.slice a la.length cap:: .slice a2 la.length Kn:: .func (.func 131) #[] #[]::gs a' 3 12 (.slice a la.length cap:: .int .i64 la.length:: .int .i64 k::gs a' 18 14 []))/\yG la lb w w' k) (fun a' _=>(la.length - (intOf (a'.tmps.getD 17 undef)).toNat)) ?_ ?_
 ·exact⟨0,rfl,by omega,rfl,an _ _⟩
 ·skip
  rintro R a' w1 ⟨k,Kk,hJ⟩ HR;dsimp only [fr,gs]at Kk;generalize slot a'=f at Kk;subst Kk;obtain⟨hk,NV,hb⟩:=hJ;have HT:=V NV;clear NV;by_cases Lg:k < la.length;rotate_left
  ·obtain rfl:k=la.length:=by omega
   go_wp2_with fail;go_ret;refine⟨true,rfl,⟨fun _=>?_,fun _=>rfl⟩,hb⟩;have:=HT.out;rw [aU,HL.out,aU]at this;exact this
  obtain⟨c,he⟩:∃e,la[k]?=some e:=⟨_,aq Lg⟩;obtain⟨d,hd⟩:∃d,lb[k]?=some d:=⟨_,aq (by have:=HL.out;omega)⟩;obtain⟨b,off,u,x,rfl,Kq,⟨c0,c1,c2,c3,c4⟩,hu,hx,-⟩:=(HA.out.below (hb.mono (ag _))).get he;obtain⟨b2,KM,u2,x2,rfl,L4,⟨d0,d1,d2,d3,d4⟩,MD,NP,-⟩:=(HB.out.below (hb.mono (ag _))).get hd;have HU:=V hu;have HV:=V hx;have Ow:=V MD;have Nr:=V NP;obtain⟨au,Kr,rfl,_,_,_⟩:=hu;obtain⟨ax,Lr,rfl,_,_,_⟩:=hx;obtain⟨Po,Od,rfl,_,_,_⟩:=MD;obtain⟨ax2,Oe,rfl,_,_,_⟩:=NP;have HE:=V he;have HD:=V hd;clear he hd;have Mv:Below w1.heap.size w1 (w1.alloc (.cells #[.int .i64 c.fn, .int .i64 c.pc, .slice au c.locals.length Kr, .int .i64 c.base, .slice ax c.labels.length Lr] 40)):=(an w1.heap.size w1).alloc (ag _) _;have LQ:Below w1.heap.size w1 ((w1.alloc (.cells #[.int .i64 c.fn, .int .i64 c.pc, .slice au c.locals.length Kr, .int .i64 c.base, .slice ax c.labels.length Lr] 40)).alloc (.cells #[.int .i64 d.fn, .int .i64 d.pc, .slice Po d.locals.length Od, .int .i64 d.base, .slice ax2 d.labels.length Oe] 40)):=Mv.alloc (by simp) _;have e0:=(Mv.cell (p:=⟨b2,KM+k*5,none⟩) L4).trans d0;have e1:=(Mv.cell (p:=⟨b2,KM+k*5+1,none⟩) L4).trans d1;have e2:=(Mv.cell (p:=⟨b2,KM+k*5+2,none⟩) L4).trans d2;have e3:=(Mv.cell (p:=⟨b2,KM+k*5+3,none⟩) L4).trans d3;have e4:=(Mv.cell (p:=⟨b2,KM+k*5+4,none⟩) L4).trans d4;go_wp2_with fail;refine(xK c d _ _ _ _ _ (HU.out.below LQ) (HV.out.below LQ) (Ow.out.below LQ) (Nr.out.below LQ)).mono ?_;rintro y w2 ⟨r,rfl,hr,Kl⟩;replace hb:=hb.trans ((LQ.trans (Kl.mono LQ.size)).mono hb.size);clear Kl LQ Mv c0 c1 c2 c3 c4 d0 d1 d2 d3 d4 e0 e1 e2 e3 e4;have MM:=V hr;clear hr;cases r with
  | false=>
   go_wp2_with fail;go_ret;refine⟨false,rfl,⟨fun h=>(by cases h),fun h=>?_⟩,hb⟩;have h1:=HE.out;rw [h,HD.out]at h1;injection h1 with h1;exact MM.out.2 h1.symm
  | true=>
   go_wp2_with fail;refine HR.out _ _ ⟨k+1,rfl,by omega,?_,hb⟩ ?_
   ·rw [aQ,aQ,HT.out,HE.out,HD.out,MM.out.1 (by simp)]
   ·simp [intOf]
    omega
theorem r9 (uv uf uv2 uf2:Value) (s t:gI) (w:World) (hs:jA w uv uf s) (ht:jA w uv2 uf2 t):
  Calls prog 81 #[.agg #[uv,uf, .int .i64 s.asks], .agg #[uv2,uf2, .int .i64 t.asks]] w
   (fun e w'=>∃r:Bool,e= .returned (.bool r)/\(r=true↔s=t)/\Below w.heap.size w w'):=by
 obtain⟨hv,hf,-⟩:=hs;obtain⟨LW,hf2,-⟩:=ht;have HV:=V hv;have HF:=V hf;have Nr:=V LW;have HF2:=V hf2;obtain⟨av,KJ,rfl,_,_,_⟩:=hv;obtain⟨af,L5,rfl,_,_⟩:=hf.slice;obtain⟨O7,Ny,rfl,_,_,_⟩:=LW;obtain⟨af2,Nz,rfl,_,_⟩:=hf2.slice;clear hf hf2;have hb:Below w.heap.size w ((w.alloc (.cells #[.slice av s.dX.length KJ, .slice af s.ef.length L5, .int .i64 s.asks] 37)).alloc (.cells #[.slice O7 t.dX.length Ny, .slice af2 t.ef.length Nz, .int .i64 t.asks] 37)):=
  ((an w.heap.size w).alloc (ag _) _).alloc (by simp) _
 have LI:eE ((w.alloc (.cells #[.slice av s.dX.length KJ, .slice af s.ef.length L5, .int .i64 s.asks] 37)).alloc (.cells #[.slice O7 t.dX.length Ny, .slice af2 t.ef.length Nz, .int .i64 t.asks] 37)) w.heap.size #[.slice av s.dX.length KJ, .slice af s.ef.length L5, .int .i64 s.asks] 37:=(eE.new w _ _).alloc _;have MX:eE ((w.alloc (.cells #[.slice av s.dX.length KJ, .slice af s.ef.length L5, .int .i64 s.asks] 37)).alloc (.cells #[.slice O7 t.dX.length Ny, .slice af2 t.ef.length Nz, .int .i64 t.asks] 37)) (w.heap.size+1) #[.slice O7 t.dX.length Ny, .slice af2 t.ef.length Nz, .int .i64 t.asks] 37:=by
  have:=eE.new (w.alloc (.cells #[.slice av s.dX.length KJ, .slice af s.ef.length L5, .int .i64 s.asks] 37)) #[.slice O7 t.dX.length Ny, .slice af2 t.ef.length Nz, .int .i64 t.asks] 37;rw [aE]at this;exact this
 go_enter func81,ntmps81;by_cases q1:s.asks=t.asks;rotate_left
 ·have f1:=dQ q1
  have HX:=V (show s.asks≠t.asks from q1);clear q1;go_wp2_with fail;go_ret;exact⟨false,rfl,⟨fun h=>(by cases h),fun h=>(HX.out (by rw [h])).elim⟩,hb⟩
 have f1:=eF q1;have Q1:=V q1;clear q1;go_wp2_with fail;refine(sb _ _ s.dX t.dX _ (HV.out.below (hb.mono (ag _))) (Nr.out.below (hb.mono (ag _)))).mono ?_;rintro y w2 ⟨r,rfl,hr,Kl⟩;have M0:=LI.below Kl LI.lt;have hby2:=MX.below Kl MX.lt;have KF:=hb.trans (Kl.mono hb.size);have MM:=V hr;obtain⟨x0,x1,x2⟩:=M0.three;obtain⟨y0,y1,y2⟩:=hby2.three;clear hr Kl LI MX hb M0 hby2;cases r with
 | false=>
  go_wp2_with fail;go_ret;refine⟨false,rfl,⟨fun h=>(by cases h),fun h=>?_⟩,KF⟩;have g:=MM.out.2 (by rw [h]);simp at g
 | true=>
  go_wp2_with fail;refine(xP _ _ s.ef t.ef _ (HF.out.below (KF.mono (ag _))) (HF2.out.below (KF.mono (ag _)))).mono ?_;rintro y w3 ⟨r2,rfl,Np,K4⟩;have hb'':=KF.trans (K4.mono KF.size);have Of:=V Np;clear Np K4 KF x0 x1 x2 y0 y1 y2;go_wp2_with fail;go_ret;refine⟨r2,rfl,⟨fun h=>?_,fun h=>Of.out.2 (by rw [h])⟩,hb''⟩;have g:=MM.out.1 (by simp);have g':=Of.out.1 h;obtain⟨p0,p1,p2⟩:=s;obtain⟨s0,s1,s2⟩:=t;have g1:=Q1.out;simp only at g g' g1;rw [g,g',g1]
def Gq (s:gI) (w:World) (e:Ending) (w':World):Prop:=
 ∃v,e= .returned v/\Below w.heap.size w w'/\((s.may/\dU w' w.heap.size v (iM s))\/(¬ s.may/\v= .slice none 0 0))
def tx (s:gI):List UInt8:=jE s.dX++eL (s.asks+1).toNat++eL s.ef.length
def Jh (s:gI) (w w':World) (v:Value) (k:Nat):Prop:=
 k <=s.ef.length/\dU w' (w.heap.size+1) v (tx s++hH (s.ef.take k))/\Below w.heap.size w w'
def I1 (L:List UInt8) (labs:List kK) (w w':World) (v:Value) (m:Nat):Prop:=
 m <=labs.length/\dU w' (w.heap.size+1) v (L++((labs.take m).map oT).flatten)/\Below w.heap.size w w'
theorem DS {α:Type} {k:Nat} {enc:α ->List Value} {w:World} {a:Option Addr} {n cap:Nat} {l:List α} (h:ee k enc w (.slice a n cap) l):l≠[] ->∀ad,a=some ad ->ad.block < w.heap.size:=by
 obtain⟨a',KE,hv,_,_,hc⟩:=h;injection hv with e1 e2 e3;subst e1;intro Mf ad ha;obtain⟨x,xs,PZ⟩:=List.exists_cons_of_ne_nil Mf;obtain⟨b1,off1,g1,g2,_⟩:=hc 0 x (by rw [PZ];rfl);rw [ha]at g1;injection g1 with g1;rw [g1];exact g2
theorem mi (uv uf:Value) (s:gI) (w:World) (KI:jA w uv uf s):
  Calls prog 78 #[.agg #[uv,uf, .int .i64 s.asks]] w (Gq s w):=by
 have HS:=V KI;obtain⟨hv,hf,⟨o1,o2⟩,Qz,O8⟩:=id KI;obtain⟨av,KJ,rfl,_,LC,_⟩:=id hv;obtain⟨af,L5,rfl,_,O6⟩:=hf.slice;unfold maxLen at LC;have HV:=V hv;have HF:=V hf;have HOV:=V Qz;have OW:=V O8;clear hv hf Qz O8;have KK:Below w.heap.size w (w.alloc (.cells #[.slice av s.dX.length KJ, .slice af s.ef.length L5, .int .i64 s.asks] 37)):=(an _ _).alloc (ag _) _;have hbx0:=eE.new w #[.slice av s.dX.length KJ, .slice af s.ef.length L5, .int .i64 s.asks] 37;go_enter func78,ntmps78;go_wp2_with fail;refine(nZ _ _ s _ (KI.below (KK.mono (ag _)))).mono ?_;rintro x w1 ⟨rfl,hbm⟩;have hbx1:=hbx0.below hbm (by simp);have Kw:=KK.trans (hbm.mono KK.size);have P0:=hbm.size;simp only [aE]at P0;clear hbm hbx0 KK KI;by_cases hm:s.may;rotate_left
 ·have hr:decide s.may=false:=aA hm
  rw [hr];have HM:=V hm;clear hm hr;go_wp2_with fail;go_ret;exact⟨_,rfl,Kw, .inr ⟨HM.out,rfl⟩⟩
 have hr:decide s.may=true:=az hm;rw [hr];have HM:=V hm;obtain⟨m1,m2,m3,m4,-,-⟩:=hm;clear hr;obtain⟨n0,LP⟩:∃n:Nat,s.asks+1=n:=⟨(s.asks+1).toNat,by omega⟩;have hn1:n0 <=10001:=by omega
 have HN:=V LP;obtain⟨x0,x1,x2⟩:=hbx1.three;clear LP;have hq:∀i,(⟨i,0,none⟩:Addr)=⟨i,0,none⟩:=fun _=>rfl;clear hq;have f0:s.asks+1=(n0:Int):=HN.out;go_wp2_with fail;refine ed (fun w'=>w'.cell? ⟨w.heap.size,0,none⟩=some (.slice av s.dX.length KJ)/\w'.cell? ⟨w.heap.size,1,none⟩=some (.slice af s.ef.length L5)/\w'.cell? ⟨w.heap.size,2,none⟩=some (.int .i64 s.asks))
  ((0,true)::(1,true)::up 3 3 (up 7 3 ((2,false)::(6,false)::(10,false)::(11,true)::[]))) (by kernel_rfl) (by kernel_rfl) ⟨x0,x1,x2⟩ ?_
 clear x0 x1 x2;iterate 8 (first | (apply sk rfl rfl;simp only [pt]) | (apply dT rfl rfl rfl;·(rintro w' ⟨t0,t1,t2⟩;go_wp2;exact⟨rfl,rfl,rfl⟩)))
 refine dZ rfl rfl ?_;go_wp2_with fail;have hnx1:¬ ey (.slice none 0 0) w.heap.size:=by simp [ey,Value.ownBlock]
 refine(sr (.slice none 0 0) [] _ s.dX (w.heap.size+1) w1.drew (dU.nil _ _) (by simp) (by simp;omega) (HV.out.below (Kw.drew.mono (ag _))) HM.out.2.2.2.2.1 HOV.out (by omega) (fun _ i hi=>by simp [ey,Value.ownBlock]at hi)).mono ?_;rintro x w2 ⟨v2,rfl,KB,Kp,Ku⟩;have M0:=hbx1.drew.keeps Kp hnx1;have hnx2:¬ ey v2 w.heap.size:=fun h=>by have:=(eo KB h).1;omega
 have Kl:Below w.heap.size w w2:=Kw.drew.trans (Kp.below Kw.size (fun i hi=>by simp [ey,Value.ownBlock]at hi));rw [bM]at KB;clear Kp Ku hbx1;have hl2:(jE s.dX).length <=21000:=by
  have g1:=nQ s.dX HOV.out;have g2:=(eD s.dX.length).2;simp only [jE,ah];omega
 have NM:=M0.lt;go_wp2_with fail;refine⟨M0.three,?_⟩;refine dZ rfl rfl ?_;go_wp2_with fail;refine(lB v2 _ n0 (by omega) (w.heap.size+1) w2 KB (by omega) (by omega)).mono ?_;rintro x w3 ⟨v3,rfl,Lq,KS,LS⟩;have Pm:=M0.keeps KS hnx2;have hnx3:¬ ey v3 w.heap.size:=fun h=>(LS _ h).elim hnx2 (fun g=>by have:=M0.lt;(try simp at g this);omega);have K4:Below w.heap.size w w3:=Kl.trans (KS.below Kl.size (fun i hi=>by have:=(eo KB hi).1;omega));clear KS LS;have hl3:=(eD n0).2;have NN:=Pm.lt;go_wp2_with fail;refine⟨Pm.three,?_⟩;refine dZ rfl rfl ?_;go_wp2_with fail;refine(lB v3 _ s.ef.length (by omega) (w.heap.size+1) w3 Lq (by simp only [ah];omega) (by omega)).mono ?_;rintro x w4 ⟨v4,rfl,LZ,N3,Mi⟩;have OX:=Pm.keeps N3 hnx3;have hnx4:¬ ey v4 w.heap.size:=fun h=>(Mi _ h).elim hnx3 (fun g=>by have:=Pm.lt;(try simp at g this);omega);have Md:Below w.heap.size w w4:=K4.trans (N3.below K4.size (fun i hi=>by have:=(eo Lq hi).1;omega));clear N3 Mi;have hl4:=(eD s.ef.length).2;go_wp2_with fail;refine⟨OX.three,?_⟩;iterate 1 (first | (apply sk rfl rfl;simp only [pt]) | (apply dT rfl rfl rfl;·(rintro w' ⟨t0,t1,t2⟩;go_wp2;exact⟨rfl,rfl,rfl⟩)))
 refine eH ?_;refine aD ?_;obtain⟨x0,x1,x2⟩:=OX.three;have hhead:jE s.dX++eL n0++eL s.ef.length=tx s:=by rw [tx,f0];rfl
 have hlh:(tx s).length <=21020:=by rw [<- hhead];simp only [ah];omega
 rw [hhead]at LZ;clear hhead M0 Pm OX hnx1 hnx2 hnx3 hnx4 KB Lq Kl K4 hl2 hl3 hl4 f0;go_wp2_with fail;clear x0 x1 x2;refine ez (fun a' w'=>∃(v:Value) (k:Nat),a'=fr (gs a' 0 3 (v::gs a' 4 19 (.slice af s.ef.length L5:: .int .i64 s.ef.length:: .int .i64 k::gs a' 26 38 [])))/\Jh s w w' v k) (fun a' _=>(s.ef.length - (intOf (a'.tmps.getD 25 undef)).toNat)) ?_ ?_
 ·exact⟨v4,0,rfl,by omega,by simpa [hH] using LZ,Md⟩
 clear LZ Md Kw P0 NM NN;rintro R a' w5 ⟨v,k,Kk,hJ⟩ HR;dsimp only [fr,gs]at Kk;generalize slot a'=f at Kk;subst Kk;obtain⟨hk,ho,hb⟩:=hJ;by_cases Lg:k < s.ef.length;rotate_left
 ·obtain rfl:k=s.ef.length:=by omega
  go_wp2_with fail;go_ret;refine⟨v,rfl,hb, .inl ⟨HM.out,?_⟩⟩;rw [aU]at ho;have:=mC (base':=w.heap.size) ho (fun i hi=>by have:=(eo ho hi).1;omega);rw [iM];exact this
 obtain⟨g,he⟩:∃e,s.ef[k]?=some e:=⟨_,aq Lg⟩;obtain⟨b,off,u,x,rfl,Kq,⟨d0,d1,d2,d3,d4⟩,hu,hx,Kt⟩:=HF.out.get he;have c0:w5.cell? ⟨b,off+k*5,none⟩=some (.int .i64 g.fn):=by rw [hb.cell Kq];exact d0
 have c1:w5.cell? ⟨b,off+k*5+1,none⟩=some (.int .i64 g.pc):=by rw [hb.cell Kq];exact d1
 have c2:w5.cell? ⟨b,off+k*5+2,none⟩=some u:=by rw [hb.cell Kq];exact d2
 have c3:w5.cell? ⟨b,off+k*5+3,none⟩=some (.int .i64 g.base):=by rw [hb.cell Kq];exact d3
 have c4:w5.cell? ⟨b,off+k*5+4,none⟩=some x:=by rw [hb.cell Kq];exact d4
 have HU:=V hu;have HX:=V hx;obtain⟨au,Kr,rfl,_,hcu,_⟩:=id hu;obtain⟨ax,Lr,rfl,hcx1,hcx,_⟩:=id hx;unfold maxLen at hcu hcx;have HUB:=V (DS hu);obtain⟨p1,p2,p3,p4,⟨p5,p6⟩,⟨p7,p8⟩,p9,p10⟩:=HM.out.2.2.2.2.2 g (aO he);have HP1:=V p1;have HP4:=V p4;have HOL:=V Kt.2.2.2.1;obtain⟨nf,hnf⟩:∃n:Nat,g.fn=n:=⟨g.fn.toNat,by omega⟩;obtain⟨np,hnp⟩:∃n:Nat,g.pc=n:=⟨g.pc.toNat,by omega⟩;obtain⟨nb,hnb⟩:∃n:Nat,g.base=n:=⟨g.base.toNat,by omega⟩;have HFB:=V (show oH g=jE g.locals++eL nf++eL np++eL nb++(eL g.labels.length++(g.labels.map oT).flatten)by rw [oH,Bx,hnf,hnp,hnb];rfl);have hlen:(tx s++hH (s.ef.take k)).length <=75000:=by
  have g2:=ph (s.ef.take k) (fun y hy=>⟨HM.out.2.2.2.2.2 y (cz hy),OW.out y (cz hy)⟩);have g3:(s.ef.take k).length <=32:=by rw [aR];omega
  rw [ah];omega
 have HE:=V he;rw [hnf]at c0 p5 p6;rw [hnp]at c1 p7 p8;rw [hnb]at c3 p9 p10;generalize hL:tx s++hH (s.ef.take k)=L at ho hlen;have HL:=V hL;have Nl:=(eE.new w5 #[.int .i64 nf, .int .i64 np, .slice au g.locals.length Kr, .int .i64 nb, .slice ax g.labels.length Lr] 40).drew;have OY:¬ ey v w5.heap.size:=fun h=>by have:=(eo ho h).2;omega
 have hoa:=ho.keeps (((dS.refl (fun _=>False) w5).alloc (.cells #[.int .i64 nf, .int .i64 np, .slice au g.locals.length Kr, .int .i64 nb, .slice ax g.labels.length Lr] 40)).drew) (fun _ _ h=>h);have Mv:=(hb.alloc hb.size (.cells #[.int .i64 nf, .int .i64 np, .slice au g.locals.length Kr, .int .i64 nb, .slice ax g.labels.length Lr] 40)).drew;have hba1:w.heap.size+1 <=w5.heap.size+1:=by have:=hb.size;omega
 clear hL d0 d1 d2 d3 d4 he Kt p1 p4 hnf hnp hnb hu hx ho hb;have HRO:=HR;clear HR;go_wp2_with fail;refine ed (fun w'=>w'.cell? ⟨w5.heap.size,0,none⟩=some (.int .i64 nf)/\w'.cell? ⟨w5.heap.size,1,none⟩=some (.int .i64 np)/\w'.cell? ⟨w5.heap.size,2,none⟩=some (.slice au g.locals.length Kr)/\w'.cell? ⟨w5.heap.size,3,none⟩=some (.int .i64 nb)/\w'.cell? ⟨w5.heap.size,4,none⟩=some (.slice ax g.labels.length Lr))
  (up 0 3 ((4,true)::(5,true)::(7,true)::(8,true)::(10,true)::(11,true)::(3,false)::(6,false)::(9,false)::(12,false)::(13,true)::[])) (by kernel_rfl) (by kernel_rfl) Nl.rF ?_
 clear c0 c1 c2 c3 c4;obtain⟨Y,hY⟩:∃Y,Y=w5.heap.size:=⟨_,rfl⟩;rw [<- hY]at Nl OY hba1⊢;clear hY;generalize(w5.alloc (.cells #[.int .i64 nf, .int .i64 np, .slice au g.locals.length Kr, .int .i64 nb, .slice ax g.labels.length Lr] 40)).drew=wa at Nl hoa Mv⊢;obtain⟨va,hva⟩:∃va,va=v:=⟨_,rfl⟩;have hszY:=Nl.lt;iterate 9 (first | (apply sk rfl rfl;simp only [pt]) | (apply dT rfl rfl rfl;·(rintro w' ⟨t0,t1,t2,t3,t4⟩;go_wp2;exact⟨rfl,rfl,rfl⟩)))
 refine dZ rfl rfl ?_;go_wp2_with fail;subst hva;refine(sr va L _ g.locals (w.heap.size+1) wa hoa (by omega) (by omega) (HU.out.below (Mv.mono (ag _))) HP4.out HOL.out (by omega) (fun Mf i hi a n cp he=>by
  injection he with e1 e2 e3;have:=HUB.out Mf a e1;have:=(eo hoa hi).1;omega)).mono ?_
 rintro x wb ⟨vb,rfl,hob,hkb,hsb⟩;have N4:=Nl.keeps hkb OY;have P1:¬ ey vb Y:=fun h=>(hsb _ h).elim OY (fun q=>by omega);have LQ:Below w.heap.size w wb:=Mv.trans (hkb.below Mv.size (fun i hi=>by have:=(eo hoa hi).1;omega));clear hkb hsb;have hlb:(L++jE g.locals).length <=76000:=by
  have g1:=nQ g.locals HOL.out;have g2:=(eD g.locals.length).2;simp only [jE,ah];omega
 have hszb:=N4.lt;go_wp2_with fail;refine⟨N4.rF,?_⟩;refine dZ rfl rfl ?_;go_wp2_with fail;refine(lB vb _ nf (by omega) (w.heap.size+1) wb hob (by omega) (by omega)).mono ?_;rintro x wc ⟨vc,rfl,hoc,hkc,hsc⟩;have Pp:=N4.keeps hkc P1;have hnxc:¬ ey vc Y:=fun h=>(hsc _ h).elim P1 (fun g=>by have:=N4.lt;(try simp at g this);omega);have hbc:Below w.heap.size w wc:=LQ.trans (hkc.below LQ.size (fun i hi=>by have:=(eo hob hi).1;omega));clear hkc hsc;have hlc:=(eD nf).2;have hszc:=Pp.lt;go_wp2_with fail;refine⟨Pp.rF,?_⟩;refine dZ rfl rfl ?_;go_wp2_with fail;refine(lB vc _ np (by omega) (w.heap.size+1) wc hoc (by simp only [ah]at*;omega) (by omega)).mono ?_;rintro x wd ⟨vd,rfl,hod,hkd,hsd⟩;have hbxd:=Pp.keeps hkd hnxc;have hnxd:¬ ey vd Y:=fun h=>(hsd _ h).elim hnxc (fun g=>by have:=Pp.lt;(try simp at g this);omega);have NJ:Below w.heap.size w wd:=hbc.trans (hkd.below hbc.size (fun i hi=>by have:=(eo hoc hi).1;omega));clear hkd hsd;have hld:=(eD np).2;have hszd:=hbxd.lt;go_wp2_with fail;refine⟨hbxd.rF,?_⟩;refine dZ rfl rfl ?_;go_wp2_with fail;refine(lB vd _ nb (by omega) (w.heap.size+1) wd hod (by simp only [ah]at*;omega) (by omega)).mono ?_;rintro x we ⟨ve,rfl,hoe,hke,hse⟩;have hbxe:=hbxd.keeps hke hnxd;have hnxe:¬ ey ve Y:=fun h=>(hse _ h).elim hnxd (fun g=>by have:=hbxd.lt;(try simp at g this);omega);have PO:Below w.heap.size w we:=NJ.trans (hke.below NJ.size (fun i hi=>by have:=(eo hod hi).1;omega));clear hke hse;have hle:=(eD nb).2;have hsze:=hbxe.lt;go_wp2_with fail;refine⟨hbxe.rF,?_⟩;iterate 1 (first | (apply sk rfl rfl;simp only [pt]) | (apply dT rfl rfl rfl;·(rintro w' ⟨t0,t1,t2,t3,t4⟩;go_wp2;exact⟨rfl,rfl,rfl⟩)))
 refine eH ?_;refine aD ?_;have hl5:(L++jE g.locals++eL nf++eL np++eL nb).length <=77000:=by simp only [ah]at*;omega
 clear Nl N4 Pp hbxd OY P1 hnxc hnxd hoa hob hoc hod Mv LQ hbc NJ hlb hlc hld hle;obtain⟨x0,x1,x2,x3,x4⟩:=hbxe.rF;go_wp2_with fail;refine(lB ve _ g.labels.length (by omega) (w.heap.size+1) we hoe (by omega) (by omega)).mono ?_;rintro x wh ⟨vh,rfl,hoh,hkh,hsh⟩;have hbxh:=hbxe.keeps hkh hnxe;have hnxh:¬ ey vh Y:=fun h=>(hsh _ h).elim hnxe (fun g=>by have:=hbxe.lt;(try simp at g this);omega);have hbh:Below w.heap.size w wh:=PO.trans (hkh.below PO.size (fun i hi=>by have:=(eo hoe hi).1;omega));clear hkh hsh;have hlh2:=(eD g.labels.length).2;have hl6:(L++jE g.locals++eL nf++eL np++eL nb++eL g.labels.length).length <=77100:=by rw [ah];omega
 clear x0 x1 x2 x3 x4;obtain⟨x0,x1,x2,x3,x4⟩:=hbxh.rF;have hL2:tx s++hH (s.ef.take (k+1))=L++jE g.locals++eL nf++eL np++eL nb++eL g.labels.length++(g.labels.map oT).flatten:=by
  rw [aQ,HE.out,yp, <- aP,HL.out];simp [hH,HFB.out]
 have PQ:=V hL2;clear hL2 hl5 PO hoe hbxe hnxe hnxh;generalize L++jE g.locals++eL nf++eL np++eL nb++eL g.labels.length=L2 at PQ hoh hl6;go_wp2_with fail;clear x0 x1 x2 x3 x4 hbxh;refine ez (fun a' w'=>∃(v:Value) (m:Nat),a'=fr (gs a' 0 3 (v::gs a' 4 19 (.slice (some ⟨b,off,none⟩) s.ef.length L5:: .int .i64 s.ef.length:: .int .i64 k::gs a' 26 22 (.slice ax g.labels.length Lr:: .int .i64 g.labels.length:: .int .i64 m::gs a' 51 13 []))))/\I1 L2 g.labels w w' v m) (fun a' _=>(g.labels.length - (intOf (a'.tmps.getD 50 undef)).toNat)) ?_ ?_
 ·exact⟨vh,0,rfl,by omega,by simpa using hoh,hbh⟩
 clear hoh hbh hszY hszb hszc hszd hsze hba1;rintro R a' w5 ⟨v,m,Kk,hJ⟩ HR;dsimp only [fr,gs]at Kk;generalize slot a'=f at Kk;subst Kk;obtain⟨hm,ho,hb⟩:=hJ;by_cases hml:m < g.labels.length;rotate_left
 ·obtain rfl:m=g.labels.length:=by omega
  go_wp2_with fail;refine HRO.out _ _ ⟨v,k+1,rfl,by omega,?_,hb⟩ ?_
  ·rw [PQ.out]
   rw [aU]at ho;exact ho
  ·simp [intOf]
   omega
 obtain⟨e,hee⟩:∃e,g.labels[m]?=some e:=⟨_,aq hml⟩;obtain⟨a',KE,hva,_,_,Kh⟩:=HX.out.below (hb.mono (ag _));injection hva with e1 e2 e3;subst e1 e3;obtain⟨bl,offl,rfl,hltl,PM⟩:=Kh m e hee;have y0:=PM 0 _ rfl;have y1:=PM 1 _ rfl;rw [aK]at y0;obtain⟨⟨r1,r2⟩,r3,r4⟩:=HP1.out e (aO hee);obtain⟨na,hna⟩:∃n:Nat,e.pos=n:=⟨e.pos.toNat,by omega⟩;obtain⟨nh,hnh⟩:∃n:Nat,e.eJ=n:=⟨e.eJ.toNat,by omega⟩;have HLB:=V (show oT e=eL na++eL nh by rw [oT,hna,hnh];rfl);rw [hna]at y0 r1 r2;rw [hnh]at y1 r3 r4;have hlen2:(L2++((g.labels.take m).map oT).flatten).length <=78000:=by
  have q1:=ud (g.labels.take m);have q2:(g.labels.take m).length <=40:=by rw [aR];omega
  rw [ah];omega
 have HEE:=V hee;generalize hL3:L2++((g.labels.take m).map oT).flatten=L3 at ho hlen2;have HL3:=V hL3;have Nl:=(eE.new w5 #[.int .i64 na, .int .i64 nh] 46).drew;have OY:¬ ey v w5.heap.size:=fun h=>by have:=(eo ho h).2;omega
 have hoa:=ho.keeps (((dS.refl (fun _=>False) w5).alloc (.cells #[.int .i64 na, .int .i64 nh] 46)).drew) (fun _ _ h=>h);have Mv:=(hb.alloc hb.size (.cells #[.int .i64 na, .int .i64 nh] 46)).drew;have hba1:w.heap.size+1 <=w5.heap.size+1:=by have:=hb.size;omega
 clear hL3 Kh PM e2 hee hna hnh ho hb;go_wp2_with fail;refine ed (fun w'=>w'.cell? ⟨w5.heap.size,0,none⟩=some (.int .i64 na)/\w'.cell? ⟨w5.heap.size,1,none⟩=some (.int .i64 nh)) (up 0 3 ((4,true)::(5,true)::(3,false)::(6,false)::(7,true)::[])) (by kernel_rfl) (by kernel_rfl) ⟨Nl.cell 0,Nl.cell 1⟩ ?_;clear y0 y1;obtain⟨Z,hZ⟩:∃Z,Z=w5.heap.size:=⟨_,rfl⟩;rw [<- hZ]at Nl OY hba1⊢;clear hZ;generalize(w5.alloc (.cells #[.int .i64 na, .int .i64 nh] 46)).drew=wa at Nl hoa Mv⊢;have hszZ:=Nl.lt;iterate 5 (first | (apply sk rfl rfl;simp only [pt]) | (apply dT rfl rfl rfl;·(rintro w' ⟨t0,t1⟩;go_wp2;exact⟨rfl,rfl,rfl⟩)))
 refine dZ rfl rfl ?_;go_wp2_with fail;refine(lB v _ na (by omega) (w.heap.size+1) wa hoa (by omega) (by omega)).mono ?_;rintro x wb ⟨vb,rfl,hob,hkb,hsb⟩;have N4:=Nl.keeps hkb OY;have P1:¬ ey vb Z:=fun h=>(hsb _ h).elim OY (fun g=>by have:=Nl.lt;(try simp at g this);omega);have LQ:Below w.heap.size w wb:=Mv.trans (hkb.below Mv.size (fun i hi=>by have:=(eo hoa hi).1;omega));clear hkb hsb;have hlb:=(eD na).2;have hszb:=N4.lt;go_wp2_with fail;refine⟨⟨N4.cell 0,N4.cell 1⟩,?_⟩;refine dZ rfl rfl ?_;go_wp2_with fail;refine(lB vb _ nh (by omega) (w.heap.size+1) wb hob (by simp only [ah]at*;omega) (by omega)).mono ?_;rintro x wc ⟨vc,rfl,hoc,hkc,hsc⟩;have Pp:=N4.keeps hkc P1;have hnxc:¬ ey vc Z:=fun h=>(hsc _ h).elim P1 (fun g=>by have:=N4.lt;(try simp at g this);omega);have hbc:Below w.heap.size w wc:=LQ.trans (hkc.below LQ.size (fun i hi=>by have:=(eo hob hi).1;omega));clear hkc hsc;clear Nl N4 OY P1 hoa hob Mv LQ;go_wp2_with fail;refine⟨⟨Pp.cell 0,Pp.cell 1⟩,?_⟩;iterate 1 (first | (apply sk rfl rfl;simp only [pt]) | (apply dT rfl rfl rfl;·(rintro w' ⟨t0,t1⟩;go_wp2;exact⟨rfl,rfl,rfl⟩)))
 refine eH ?_;refine aD ?_;go_wp2_with fail;refine HR.out _ _ ⟨vc,m+1,rfl,by omega,?_,hbc⟩ ?_
 ·have e1:L2++((g.labels.take (m+1)).map oT).flatten=L3++eL na++eL nh:=by
   rw [<- HL3.out,aQ,HEE.out];simp [HLB.out]
  rw [e1];exact hoc
 ·simp [intOf]
  omega
def FV (l m:List UInt8) (w:World) (e:Ending) (w':World):Prop:=e= .returned (.bool (l==m))/\w=w'
theorem si (a b:Value) (l m:List UInt8) (w:World) (ha:eI w a l) (hb:eI w b m):
  Calls prog 112 #[a,b] w (FV l m w):=by
 have h1:=pB ha;have h2:=pB hb;clear ha hb;go_enter func112,ntmps112;go_wp2;go_ret;exact⟨by rw [ln,ln];rfl,rfl⟩
def uO (B:Nat) (w:World) (v u:Value):Prop:=∀a n cap,u= .slice (some a) n cap ->B <=a.block/\a.block < w.heap.size/\¬ ey v a.block
def gT (w:World) (B:Nat) (v:Value) (l:List eW):Prop:=
 ∃us:List (Value × Value),us.length=l.length/\dR 40 5 lS w B v (l.zip us)/\(∀f∈l,f.ok)/\
  ∀(i:Nat) (f:eW) (u:Value × Value),l[i]?=some f ->us[i]?=some u ->(ee 2 gg w u.1 f.locals/\uO B w v u.1)/\ee 2 kl w u.2 f.labels/\uO B w v u.2
theorem gT.nil (w:World) (B:Nat):gT w B (.slice none 0 0) []:=⟨[],rfl,dR.nil _ _,by simp,by simp⟩
theorem gT.jZ {w:World} {B:Nat} {v:Value} {l:List eW} (h:gT w B v l):fU w v l:=by
 obtain⟨us,h1,h2,h3,h4⟩:=h;exact⟨us,h1,h2.fD ix,fun i f u hf hu=>⟨(h4 i f u hf hu).1.1,(h4 i f u hf hu).2.1⟩,h3⟩
theorem gT.lt {w:World} {B:Nat} {v:Value} {l:List eW} (h:gT w B v l) {i:Nat} (hi:ey v i):B <=i/\i < w.heap.size:=by
 obtain⟨us,h1,h2,h3,h4⟩:=h;exact eo h2 hi
theorem gT.keeps {w w':World} {B:Nat} {v:Value} {l:List eW} {T:Nat ->Prop} (h:gT w B v l) (hk:dS T w w') (hT:∀i,T i ->i < B):gT w' B v l:=by
 obtain⟨us,h1,h2,h3,h4⟩:=h;refine⟨us,h1,h2.keeps hk (fun i hi hj=>by have:=(eo h2 hi).1;have:=hT i hj;omega),h3,fun i f u hf hu=>?_⟩;have conv:∀x,uO B w v x ->uO B w' v x:=fun x hx a n cap he=>by
  obtain⟨g1,g2,g3⟩:=hx a n cap he;exact⟨g1,bK g2 hk.size,g3⟩
 have away:∀x,uO B w v x ->∀a n cap,x= .slice (some a) n cap ->¬ T a.block:=fun x hx a n cap he hj=>by
  have:=(hx a n cap he).1;have:=hT _ hj;omega
 obtain⟨⟨g1,g2⟩,g3,g4⟩:=h4 i f u hf hu;exact⟨⟨g1.keeps hk (away _ g2),conv _ g2⟩,g3.keeps hk (away _ g4),conv _ g4⟩
theorem gT.app {w w':World} {B:Nat} {v v':Value} {l:List eW} {us:List (Value × Value)} (h1:us.length=l.length) (h3:∀f∈l,f.ok)
  (h4:∀(i:Nat) (f:eW) (u:Value × Value),l[i]?=some f ->us[i]?=some u ->(ee 2 gg w u.1 f.locals/\uO B w v u.1)/\ee 2 kl w u.2 f.labels/\uO B w v u.2)
  (hk:dS (ey v) w w') (hs:eC w v v') {f:eW} {u:Value × Value} (hf:f.ok)
  (hu:(ee 2 gg w u.1 f.locals/\uO B w v u.1)/\ee 2 kl w u.2 f.labels/\uO B w v u.2)
  (ho:dR 40 5 lS w' B v' (l.zip us++[(f,u)])):gT w' B v' (l++[f]):=by
 have key:∀a:Addr,a.block < w.heap.size ->¬ ey v a.block ->¬ ey v' a.block:=fun a h1 h2 h3=>(hs _ h3).elim h2 (fun g=>by omega);have conv:∀x,uO B w v x ->uO B w' v' x:=fun x hx a n cap he=>by
  obtain⟨g1,g2,g3⟩:=hx a n cap he;exact⟨g1,bK g2 hk.size,key a g2 g3⟩
 have away:∀x,uO B w v x ->∀a n cap,x= .slice (some a) n cap ->¬ ey v a.block:=fun x hx a n cap he=>(hx a n cap he).2.2;refine⟨us++[u],by simp [h1],?_,?_,?_⟩
 ·rw [dh h1.symm]
  exact ho
 ·intro d hd
  rcases bA.1 hd with h | h
  ·exact h3 d h
  ·obtain rfl:=aV.1 h
   exact hf
 ·intro i d x hd hx
  have all:∀(d:eW) (x:Value × Value),((ee 2 gg w x.1 d.locals/\uO B w v x.1)/\ee 2 kl w x.2 d.labels/\uO B w v x.2) ->
    (ee 2 gg w' x.1 d.locals/\uO B w' v' x.1)/\ee 2 kl w' x.2 d.labels/\uO B w' v' x.2:=by
   rintro d x ⟨⟨g1,g2⟩,g3,g4⟩;exact⟨⟨g1.keeps hk (away _ g2),conv _ g2⟩,g3.keeps hk (away _ g4),conv _ g4⟩
  rcases bq i l.length with h | h
  ·rw [bD h]at hd
   rw [bD (by omega)]at hx;exact all d x (h4 i d x hd hx)
  ·rw [bp h]at hd
   rw [bp (by omega),h1]at hx;have hi:i - l.length=0:=by
    rcases aY (i - l.length)with g | g
    ·exact g
    ·rw [cT (by simp only [aB];omega)]at hd
     cases hd
   rw [hi]at hd hx;simp at hd hx;subst hd hx;exact all f u hu
theorem ug:(prog.info? 46).map (fun i=>(i.zero,i.size,i.bytes))=some (some (.agg #[.int .i64 0, .int .i64 0]),2,16):=by kernel_rfl
theorem mJ:(prog.info? 40).map (fun i=>(i.zero,i.size,i.bytes))=some (some (.agg #[.int .i64 0, .int .i64 0, .slice none 0 0, .int .i64 0, .slice none 0 0]),5,72):=by kernel_rfl
theorem eE.vV {w:World} {X:Nat} {u v:Value} {n:Int} {t:TypeId} (h:eE w X #[u,v, .int .i64 n] t):
  (loadVar 37 ⟨X,0,none⟩).run prog w= .ok (.agg #[u,v, .int .i64 n]) w:=by
 have hs:(prog.underlying 37).map (fun d=>match d with | .struct _ | .array _ _=>true | _=>false)=some true:=by kernel_rfl
 obtain⟨d,h1,h2⟩:=bB.1 hs;exact bZ w X t 37 _ _ d h h1 (by cases d <;>first | rfl | (exfalso;simp at h2)) (by kernel_rfl)
def Hi (l:List UInt8) (w:World) (e:Ending) (w':World):Prop:=
 Below w.heap.size w w'/\∃uv uf s err,e= .returned (.tuple #[.agg #[uv,uf, .int .i64 s.asks], .int .i64 err])/\jA w' uv uf s/\
  ((err=0/\s.may/\iM s=l)\/(err=11/\s=⟨[],[],0⟩/\¬ ∃s:gI,s.may/\s.ok/\iM s=l))
def Ji (B0 Rb F:Nat) (cs:Value ->Array Value) (k0:Nat) (GG:Option (List UInt8)) (w5 w':World) (v:Value) (acc:List kK) (n:Nat) (st:Option (List UInt8)):Prop:=
 nN k0 GG=(acc++(nN n st).1,(nN n st).2)/\dR 46 2 kl w' (F+1) v acc/\(∀x∈acc,x.ok)/\acc.length+n4 st <=n4 GG/\Rd B0 w' Rb st/\
  eE w' F (cs v) 40/\dS (fun k=>k=Rb) w5 w'/\n < 4611686018427387904
def Jn (l:List UInt8) (dX:List fb) (asks:Int) (uv:Value) (C Rb Sb:Nat) (w w':World) (v:Value) (acc:List eW) (n:Nat) (st:Option (List UInt8)):Prop:=
 qf (some l)=(⟨dX,acc++(jK n st).1,asks⟩,(jK n st).2)/\gT w' (Sb+1) v acc/\acc.length+n4 st <=l.length+1/\Rd w.heap.size w' Rb st/\
  eE w' C #[.slice none 0 0, .slice none 0 0, .int .i64 0] 37/\eE w' Sb #[uv,v, .int .i64 asks] 37/\ee 2 gg w' uv dX/\Below w.heap.size w w'/\n < 4611686018427387904
theorem eE.CT {w:World} {X:Nat} {t:TypeId} {x0 x1 x2:Value} (h:eE w X #[x0,x1,x2] t) (y0 y1 y2:Value):
  eE (((w.setCell ⟨X,0,none⟩ y0).setCell ⟨X,1,none⟩ y1).setCell ⟨X,2,none⟩ y2) X #[y0,y1,y2] t:=by
 have:=((h.set 0 y0).set 1 y1).set 2 y2;simpa using this
theorem iS (w:World) (X i:Nat) (v:Value):dS (fun k=>k=X) w (w.setCell ⟨X,i,none⟩ v):=⟨rfl,rfl,rfl,by simp,fun k _ hk=>cN w ⟨X,i,none⟩ v k hk⟩
theorem wP (w:World) (X:Nat) (y0 y1 y2:Value):dS (fun k=>k=X) w (((w.setCell ⟨X,0,none⟩ y0).setCell ⟨X,1,none⟩ y1).setCell ⟨X,2,none⟩ y2):=
 ((iS w X 0 y0).trans (iS _ X 1 y1) (fun _ h=> .inl h)).trans (iS _ X 2 y2) (fun _ h=> .inl h)
theorem D0 (st:Option (List UInt8)):n4 (fE st).2+1 <=max 1 (n4 st):=by
 cases st with
 | none=>simp [fE,n4]
 | some l=>have:=sI l;omega
theorem qD (b:Value) (l:List UInt8) (w:World) (hb:eI w b l) (N7:l.length <=400000):Calls prog 77 #[b] w (Hi l w):=by
 obtain⟨a,cap,rfl,K7,MR,KH⟩:=id hb;have HB:=V hb;have hB0:l≠[] ->∀ad,a=some ad ->ad.block < w.heap.size:=by
  intro Mf ad ha;obtain⟨x,xs,PZ⟩:=List.exists_cons_of_ne_nil Mf;obtain⟨g,off,g1,g2⟩:=KH 0 x (by rw [PZ];rfl);rw [ha]at g1;injection g1 with g1;rw [g1];exact aS w _ g2
 unfold maxLen at MR;clear KH;have hz:eE (w.alloc (.cells #[.slice none 0 0, .slice none 0 0, .int .i64 0] 37)) w.heap.size #[.slice none 0 0, .slice none 0 0, .int .i64 0] 37:=eE.new w _ _;have Kw:Below w.heap.size w (w.alloc (.cells #[.slice none 0 0, .slice none 0 0, .int .i64 0] 37)):=(an _ _).alloc (ag _) _;have hi1:eI (w.alloc (.cells #[.slice none 0 0, .slice none 0 0, .int .i64 0] 37)) (.slice a l.length cap) l:=hb.below Kw;have P0:(w.alloc (.cells #[.slice none 0 0, .slice none 0 0, .int .i64 0] 37)).heap.size=w.heap.size+1:=aE _ _;clear hb;go_enter func77,ntmps77;go_wp2_with fail;rw [show w.heap.size+1=(w.alloc (.cells #[.slice none 0 0, .slice none 0 0, .int .i64 0] 37)).heap.size from P0.symm];generalize w.alloc (.cells #[.slice none 0 0, .slice none 0 0, .int .i64 0] 37)=w0 at hz Kw hi1 P0⊢;have hC0:w.heap.size < w0.heap.size:=by omega
 have hC0':w0.heap.size < w.heap.size+2:=by omega
 clear P0;have Le:Rd w.heap.size (w0.alloc (.cells #[.slice a l.length cap, .bool false] 203)) w0.heap.size (some l):=
  ⟨a,l.length,cap,eE.new w0 _ _,l,hB0,hi1.below ((an _ _).alloc (ag _) _),fun l' h=>by injection h with h;exact h.symm⟩
 have HRD0:=V Le;clear Le hB0 hi1;obtain⟨dX,s1,e1⟩:∃x t,iR (some l)=(x,t):=⟨_,_,rfl⟩;obtain⟨xa,s2,e2⟩:∃x t,fE s1=(x,t):=⟨_,_,rfl⟩;obtain⟨n0,s3,e3⟩:∃x t,fE s2=(x,t):=⟨_,_,rfl⟩;have ba:=lE s1;have bn:=lE s2;have ta:=mS s1;have tn:=mS s2;rw [e2]at ba ta;rw [e3]at bn tn;simp only at ba bn ta tn;have MY:=hz.alloc (.cells #[.slice a l.length cap, .bool false] 203);have KK:=Kw.alloc (by omega) (.cells #[.slice a l.length cap, .bool false] 203);have hszr:(w0.alloc (.cells #[.slice a l.length cap, .bool false] 203)).heap.size=w0.heap.size+1:=aE _ _;refine(vD w.heap.size w0.heap.size (some l) _ HRD0.out (by simp only [n4];omega) (by rw [hszr];omega)).mono ?_;rintro x w1 ⟨u,rfl,hou,hvo,MH,OT,LH⟩;rw [hszr]at hou;rw [e1]at hou hvo MH OT;rw [show n4 (some l)=l.length+1 from rfl]at MH;simp only at hou hvo MH OT;have MS:=LH.size;rw [hszr]at MS;have hui:=hou.fD gh;have hub:=hou.block;obtain⟨au,Kr,rfl,-,hcu,-⟩:=id hui;unfold maxLen at hcu;have HVO:=V hvo;have hC1:=MY.keeps LH (by omega);have Kl:=KK.trans (LH.below (by rw [hszr];omega) (fun i h=>by omega));clear hou hvo LH MY KK hszr hz Kw;go_wp2_with fail;refine(jT w.heap.size w0.heap.size s1 w1 OT).mono ?_;rintro x w2 ⟨rfl,Np,Kp⟩;rw [e2]at Np⊢;have NM:=Kp.size;have K4:=Kl.trans (Kp.below (by omega) (fun i h=>by omega));have Mk:=hC1.keeps Kp (by omega);have MD:=hui.keeps Kp (fun a n cp he hj=>by have:=(hub a n cp he).1;omega);have HUB:=V (show∀a n cp,Value.slice au dX.length Kr= .slice (some a) n cp ->w0.heap.size < a.block/\a.block < w2.heap.size from fun a n cp he=>by have:=hub a n cp he;omega);clear OT Kp hC1 hui hub Kl;go_wp2_with fail;have hia:∃asks:Int,(xa:Int) - 1=asks:=⟨_,rfl⟩;obtain⟨asks,MT⟩:=hia;have ha1: -1 <=asks:=by omega
 have ha2:asks < 4611686018427387904:=by omega
 rw [MT];have HAS:=V MT;clear MT;have hS0:=eE.new w2 #[.slice au dX.length Kr, .slice none 0 0, .int .i64 asks] 37;have hC3:=Mk.alloc (.cells #[.slice au dX.length Kr, .slice none 0 0, .int .i64 asks] 37);have Md:=K4.alloc (by omega) (.cells #[.slice au dX.length Kr, .slice none 0 0, .int .i64 asks] 37);have MB:=(an w2.heap.size w2).alloc (ag _) (.cells #[.slice au dX.length Kr, .slice none 0 0, .int .i64 asks] 37);have PY:=Np.below MB;have hu3:=MD.below MB;have hszs:(w2.alloc (.cells #[.slice au dX.length Kr, .slice none 0 0, .int .i64 asks] 37)).heap.size=w2.heap.size+1:=aE _ _;generalize hSb:w2.heap.size=Sb at hS0 hszs HUB NM K4⊢;generalize w2.alloc (.cells #[.slice au dX.length Kr, .slice none 0 0, .int .i64 asks] 37)=w3 at hS0 hC3 Md PY hu3 hszs⊢;clear MB Np MD Mk K4 hSb;refine(jT w.heap.size w0.heap.size s2 w3 PY).mono ?_;rintro x w4 ⟨rfl,hr4,N3⟩;rw [e3]at hr4⊢;have hS4:=hS0.keeps N3 (by omega);have hC4:=hC3.keeps N3 (by omega);have Lm:=Md.trans (N3.below (by omega) (fun i h=>by omega));have hu4:=hu3.keeps N3 (fun a n cp he hj=>by have:=(HUB.out a n cp he).1;omega);have hSlt:=hS4.lt;have hs0:w0.heap.size+1 <=Sb:=by omega
 clear N3 hS0 hC3 Md PY hu3 hszs;go_wp2_with fail;refine ez (fun a' w'=>∃(v:Value) (acc:List eW) (n:Nat) (s:Option (List UInt8)),a'=fr (.slice a l.length cap::gs a' 1 1 (.pointer (some ⟨w.heap.size,0,none⟩):: .int .i64 0:: .pointer (some ⟨w0.heap.size,0,none⟩):: .pointer (some ⟨Sb,0,none⟩):: .int .i64 n::gs a' 7 81 []))/\Jn l dX asks (.slice au dX.length Kr) w.heap.size w0.heap.size Sb w w' v acc n s) (fun a' _=>(intOf (a'.tmps.getD 6 undef)).toNat) ?_ ?_
 ·refine⟨_,[],n0,s3,rfl,⟨?_,gT.nil _ _,?_,hr4,hC4,hS4,hu4,Lm,bn⟩⟩
  ·rw [qf,e1,e2,e3]
   simp only [bM,HAS.out]
  ·simp only [aM]
   omega
 ·clear hr4 hC4 hS4 hu4 Lm bn ba ta tn MH MS NM hSlt e1 e2 e3 HAS
  rintro R a' w1 ⟨v,acc,n,s,Kk,hJ⟩ HR;dsimp only [fr,gs]at Kk;generalize slot a'=f at Kk;subst Kk;obtain⟨hv,O8,hlen,Le,hC,hS,hu,hb,hn⟩:=hJ;obtain⟨av,KJ,rfl,_,LC⟩:=O8.jZ.slice;have KQ:=V Le;have OW:=V O8;obtain⟨ar,nr,OU,KD,_⟩:=Le;have c1:w1.cell? ⟨w0.heap.size,1,none⟩=some (.bool s.isNone):=KD.cell 1;have L6:=KD.lt;have hSlt:=hS.lt;clear KD O8;rcases aY n with LP | LP
  ·subst LP
   rw [jK,bW]at hv;cases s with
   | none=>
    skip
    have HC:=V (show qf (some l)=(⟨dX,acc,asks⟩,(none:Option (List UInt8)))from hv);have key:∀y:gI,y.may ->y.ok ->iM y=l ->y=⟨dX,acc,asks⟩/\(none:Option (List UInt8))=some []:=by
     intro y h1 h2 h3;have h4:=mM y h1 h2;rw [h3,HC.out]at h4;injection h4 with h4 h5;exact⟨h4.symm,h5⟩
    have KEY:=V key;have KI:jA w1 (.slice au dX.length Kr) (.slice av acc.length KJ) ⟨dX,acc,asks⟩:=⟨hu,OW.out.jZ,⟨by show(-9223372036854775808:Int) <=asks;omega,by show asks <=9223372036854775807;omega⟩,HVO.out,by obtain⟨_,_,_,h,_⟩:=OW.out;exact h⟩;have Ko:=V KI;obtain⟨s0,s1,s2⟩:=hS.three;clear key hv hlen KI HC;go_wp2_with fail;refine(mi _ _ ⟨dX,acc,asks⟩ w1 Ko.out).mono ?_;rintro x w2 ⟨c,rfl,Kl,hc⟩;obtain⟨ar,nr,OU,Pq,-⟩:=KQ.out.below Kl;have d1:w2.cell? ⟨w0.heap.size,1,none⟩=some (.bool true):=Pq.cell 1;have Mk:=hC.below Kl hC.lt;obtain⟨c0',c1',c2'⟩:=Mk.three;have z0:=Mk.free 0;have z1:=Mk.free 1;have z2:=Mk.free 2;have P2:=hS.below Kl hS.lt;obtain⟨s0',s1',s2'⟩:=P2.three;have Lb:=HB.out.below ((hb.trans (Kl.mono hb.size)).mono (ag _));have HBL:=V Lb;have Mn:=V Kl.size;have HOF2:=V (OW.out.keeps (T:=fun _=>False) (dS.dV Kl) (fun _ h=>h.elim));have Ow:=V (hu.below Kl);replace hb:=hb.trans (Kl.mono hb.size);clear Pq Lb Kl c1 hC s0 s1 s2 hu hS;clear hc;go_wp2_with fail;have hx:=Mk.CT (.slice none 0 0) (.slice none 0 0) (.int .i64 0);refine aN (fa rfl _ _ rfl hx.vV) rfl ?_;refine⟨((hb.setCell (ag _) _).setCell (ag _) _).setCell (ag _) _,_,_,⟨[],[],0⟩,_,rfl,⟨ee.nil _,fU.nil _,⟨by show(-9223372036854775808:Int) <=0;omega,by show(0:Int) <=9223372036854775807;omega⟩,by simp,by simp⟩, .inr ⟨rfl,rfl,?_⟩⟩;rintro⟨s,g1,g2,g3⟩;have:=(KEY.out s g1 g2 g3).2;cases this
   | some s=>
    skip
    have HC:=V (show qf (some l)=(⟨dX,acc,asks⟩,some s)from hv);have key:∀y:gI,y.may ->y.ok ->iM y=l ->y=⟨dX,acc,asks⟩/\some s=some []:=by
     intro y h1 h2 h3;have h4:=mM y h1 h2;rw [h3,HC.out]at h4;injection h4 with h4 h5;exact⟨h4.symm,h5⟩
    have KEY:=V key;have KI:jA w1 (.slice au dX.length Kr) (.slice av acc.length KJ) ⟨dX,acc,asks⟩:=⟨hu,OW.out.jZ,⟨by show(-9223372036854775808:Int) <=asks;omega,by show asks <=9223372036854775807;omega⟩,HVO.out,by obtain⟨_,_,_,h,_⟩:=OW.out;exact h⟩;have Ko:=V KI;obtain⟨s0,s1,s2⟩:=hS.three;clear key hv hlen KI HC;go_wp2_with fail;refine(mi _ _ ⟨dX,acc,asks⟩ w1 Ko.out).mono ?_;rintro x w2 ⟨c,rfl,Kl,hc⟩;obtain⟨ar,nr,OU,Pq,-⟩:=KQ.out.below Kl;have d1:w2.cell? ⟨w0.heap.size,1,none⟩=some (.bool false):=Pq.cell 1;have Mk:=hC.below Kl hC.lt;obtain⟨c0',c1',c2'⟩:=Mk.three;have z0:=Mk.free 0;have z1:=Mk.free 1;have z2:=Mk.free 2;have P2:=hS.below Kl hS.lt;obtain⟨s0',s1',s2'⟩:=P2.three;have Lb:=HB.out.below ((hb.trans (Kl.mono hb.size)).mono (ag _));have HBL:=V Lb;have Mn:=V Kl.size;have HOF2:=V (OW.out.keeps (T:=fun _=>False) (dS.dV Kl) (fun _ h=>h.elim));have Ow:=V (hu.below Kl);replace hb:=hb.trans (Kl.mono hb.size);clear Pq Lb Kl c1 hC s0 s1 s2 hu hS;rcases hc with⟨hm,hoc⟩ | ⟨hm,rfl⟩
    ·have HM:=V hm
     obtain⟨g,NQ,rfl,Ov,MQ,hg3,hg4,_,_⟩:=hoc.open (vG _);have hoi:=hoc.fm;have HOB:=V hoi;clear hoi hoc hm;have e1:=bQ (P:=prog) w2 97 5 (some ⟨g,0,none⟩) (iM ⟨dX,acc,asks⟩).length NQ 0 0 (by kernel_rfl);rw [df]at e1;go_wp2_with fail;refine(si _ _ (iM ⟨dX,acc,asks⟩) l w2 HOB.out HBL.out).mono ?_;rintro x w3 ⟨rfl,rfl⟩;cases hq:iM ⟨dX,acc,asks⟩==l
     ·go_wp2_with fail
      have hx:=Mk.CT (.slice none 0 0) (.slice none 0 0) (.int .i64 0);refine aN (fa rfl _ _ rfl hx.vV) rfl ?_;refine⟨((hb.setCell (ag _) _).setCell (ag _) _).setCell (ag _) _,_,_,⟨[],[],0⟩,_,rfl,⟨ee.nil _,fU.nil _,⟨by show(-9223372036854775808:Int) <=0;omega,by show(0:Int) <=9223372036854775807;omega⟩,by simp,by simp⟩, .inr ⟨rfl,rfl,?_⟩⟩;rintro⟨s,g1,g2,g3⟩;have h3:=(KEY.out s g1 g2 g3).1;rw [h3]at g3;simp [g3]at hq
     ·go_wp2_with fail
      have hx:=Mk.CT (.slice au dX.length Kr) (.slice av acc.length KJ) (.int .i64 asks);have L7:=wP w2 w.heap.size (.slice au dX.length Kr) (.slice av acc.length KJ) (.int .i64 asks);refine aN (fa rfl _ _ rfl hx.vV) rfl ?_;refine⟨((hb.setCell (ag _) _).setCell (ag _) _).setCell (ag _) _,_,_,⟨dX,acc,asks⟩,_,rfl,⟨Ow.out.keeps L7 (fun a n cp he hj=>by have:=(HUB.out a n cp he).1;omega),(HOF2.out.keeps L7 (fun i h=>by omega)).jZ,Ko.out.2.2⟩, .inl ⟨rfl,HM.out,by simpa using hq⟩⟩
    ·have HM:=V hm
     clear hm;have e1:=bQ (P:=prog) w2 97 5 none 0 0 0 0 (by kernel_rfl);rw [dg]at e1;go_wp2_with fail;have hx:=Mk.CT (.slice none 0 0) (.slice none 0 0) (.int .i64 0);refine aN (fa rfl _ _ rfl hx.vV) rfl ?_;refine⟨((hb.setCell (ag _) _).setCell (ag _) _).setCell (ag _) _,_,_,⟨[],[],0⟩,_,rfl,⟨ee.nil _,fU.nil _,⟨by show(-9223372036854775808:Int) <=0;omega,by show(0:Int) <=9223372036854775807;omega⟩,by simp,by simp⟩, .inr ⟨rfl,rfl,?_⟩⟩;rintro⟨s,g1,g2,g3⟩;have h3:=(KEY.out s g1 g2 g3).1;rw [h3]at g1;exact HM.out g1
  have f0:decide ((0:Int) < (n:Int))=true:=az (by omega);cases s with
  | none=>
   have c1:w1.cell? ⟨w0.heap.size,1,none⟩=some (.bool true):=c1;rw [xv,bW]at hv;have HC:=V (show qf (some l)=(⟨dX,acc,asks⟩,(none:Option (List UInt8)))from hv);have key:∀y:gI,y.may ->y.ok ->iM y=l ->y=⟨dX,acc,asks⟩/\(none:Option (List UInt8))=some []:=by
    intro y h1 h2 h3;have h4:=mM y h1 h2;rw [h3,HC.out]at h4;injection h4 with h4 h5;exact⟨h4.symm,h5⟩
   have KEY:=V key;have KI:jA w1 (.slice au dX.length Kr) (.slice av acc.length KJ) ⟨dX,acc,asks⟩:=⟨hu,OW.out.jZ,⟨by show(-9223372036854775808:Int) <=asks;omega,by show asks <=9223372036854775807;omega⟩,HVO.out,by obtain⟨_,_,_,h,_⟩:=OW.out;exact h⟩;have Ko:=V KI;obtain⟨s0,s1,s2⟩:=hS.three;clear key hv hlen KI HC;go_wp2_with fail;refine(mi _ _ ⟨dX,acc,asks⟩ w1 Ko.out).mono ?_;rintro x w2 ⟨c,rfl,Kl,hc⟩;obtain⟨ar,nr,OU,Pq,-⟩:=KQ.out.below Kl;have d1:w2.cell? ⟨w0.heap.size,1,none⟩=some (.bool true):=Pq.cell 1;have Mk:=hC.below Kl hC.lt;obtain⟨c0',c1',c2'⟩:=Mk.three;have z0:=Mk.free 0;have z1:=Mk.free 1;have z2:=Mk.free 2;have P2:=hS.below Kl hS.lt;obtain⟨s0',s1',s2'⟩:=P2.three;have Lb:=HB.out.below ((hb.trans (Kl.mono hb.size)).mono (ag _));have HBL:=V Lb;have Mn:=V Kl.size;have HOF2:=V (OW.out.keeps (T:=fun _=>False) (dS.dV Kl) (fun _ h=>h.elim));have Ow:=V (hu.below Kl);replace hb:=hb.trans (Kl.mono hb.size);clear Pq Lb Kl c1 hC s0 s1 s2 hu hS;clear hc;go_wp2_with fail;have hx:=Mk.CT (.slice none 0 0) (.slice none 0 0) (.int .i64 0);refine aN (fa rfl _ _ rfl hx.vV) rfl ?_;refine⟨((hb.setCell (ag _) _).setCell (ag _) _).setCell (ag _) _,_,_,⟨[],[],0⟩,_,rfl,⟨ee.nil _,fU.nil _,⟨by show(-9223372036854775808:Int) <=0;omega,by show(0:Int) <=9223372036854775807;omega⟩,by simp,by simp⟩, .inr ⟨rfl,rfl,?_⟩⟩;rintro⟨s,g1,g2,g3⟩;have:=(KEY.out s g1 g2 g3).2;cases this
  | some s=>
   have c1:w1.cell? ⟨w0.heap.size,1,none⟩=some (.bool false):=c1;obtain⟨n',rfl⟩:∃n',n=n'+1:=⟨n - 1,by omega⟩;have HV:=V hv;obtain⟨L8,r1,e0⟩:∃x t,iR (some s)=(x,t):=⟨_,_,rfl⟩;obtain⟨x0,r2,e1⟩:∃x t,fE r1=(x,t):=⟨_,_,rfl⟩;obtain⟨x1,r3,e2⟩:∃x t,fE r2=(x,t):=⟨_,_,rfl⟩;obtain⟨x2,r4,e3⟩:∃x t,fE r3=(x,t):=⟨_,_,rfl⟩;obtain⟨k0,r5,e4⟩:∃x t,fE r4=(x,t):=⟨_,_,rfl⟩;have b1:=lE r1;have b2:=lE r2;have b3:=lE r3;have b4:=lE r4;have t1:=D0 r1;have t2:=mS r2;have t3:=mS r3;have t4:=mS r4;rw [e1]at b1 t1;rw [e2]at b2 t2;rw [e3]at b3 t3;rw [e4]at b4 t4;simp only at b1 b2 b3 b4 t1 t2 t3 t4;have NO:n4 (some s)=s.length+1:=rfl;have Oz:acc.length <=400001:=by omega
   have LS:n4 (some s) <=500000:=by omega
   have HT:=V (show n4 r1 <=n4 (some s) ->∀r6,n4 r6 <=n4 r5 ->acc.length+1+n4 r6 <=l.length+1 by intro _ r6 _;omega);have HT5:=V (show n4 r1 <=n4 (some s) ->n4 r5 <=500000 by intro _;omega);clear hv hlen t1 t2 t3 t4 NO;go_wp2_with fail;refine(vD w.heap.size w0.heap.size (some s) w1 KQ.out LS (by omega)).mono ?_;rintro x w2 ⟨u,rfl,hou,hvo,MH,Np,Kp⟩;rw [e0]at hou hvo MH Np;simp only at hou hvo MH Np;have NM:=Kp.size;have hui:=hou.fD gh;have hub:=hou.block;obtain⟨au',Mo,rfl,-,hcu',-⟩:=id hui;unfold maxLen at hcu';have HLV:=V hvo;have HT:=V (HT.out (by omega));have hT5:=HT5.out (by omega);have HUI:=V hui;have HUR:=V hub;have HR2:=V Np;clear hou hvo MH Np hui hub HT5 KQ c1;go_wp2_with fail;refine(jT w.heap.size w0.heap.size r1 w2 HR2.out).mono ?_;rintro x w3 ⟨rfl,PY,KS⟩;rw [e1]at PY⊢;have HR3:=V PY;have NN:=KS.size;clear PY HR2;go_wp2_with fail;refine(jT w.heap.size w0.heap.size r2 w3 HR3.out).mono ?_;rintro x w4 ⟨rfl,hr4,N3⟩;rw [e2]at hr4⊢;have HR4:=V hr4;have hsz4:=N3.size;clear hr4 HR3;go_wp2_with fail;refine(jT w.heap.size w0.heap.size r3 w4 HR4.out).mono ?_;rintro x w5 ⟨rfl,hr5,NA⟩;rw [e3]at hr5⊢;have HR5:=V hr5;have hsz5:=NA.size;have hk25:dS (fun k=>k=w0.heap.size) w2 w5:=(KS.trans N3 (fun i h=> .inl h)).trans NA (fun i h=> .inl h);have hk15:dS (fun k=>k=w0.heap.size) w1 w5:=Kp.trans hk25 (fun i h=> .inl h);have OA:=V (HUI.out.keeps hk25 (fun a n cp he hj=>by have:=(HUR.out a n cp he).1;omega));have HLOB:=V (show∀a n cp,Value.slice au' L8.length Mo= .slice (some a) n cp ->w1.heap.size <=a.block/\a.block < w5.heap.size from fun a n cp he=>by have:=HUR.out a n cp he;omega);have hsz15:=hk15.size;clear hr5 HR4 Kp KS N3 NA hk25 HUI NN hsz4;go_wp2_with fail;have hF0:=eE.new w5 #[.int .i64 x0, .int .i64 x1, .slice au' L8.length Mo, .int .i64 x2, .slice none 0 0] 40;have hr5:=HR5.out.below ((an w5.heap.size w5).alloc (ag _) (.cells #[.int .i64 x0, .int .i64 x1, .slice au' L8.length Mo, .int .i64 x2, .slice none 0 0] 40));have hka:=(dS.refl (fun k=>k=w0.heap.size) w5).alloc (.cells #[.int .i64 x0, .int .i64 x1, .slice au' L8.length Mo, .int .i64 x2, .slice none 0 0] 40);obtain⟨F,hF⟩:∃F,F=w5.heap.size:=⟨_,rfl⟩;rw [<- hF]at hF0⊢;have hFa:w5.heap.size <=F:=by omega
   have hFb:F < w5.heap.size+1:=by omega
   clear hF;refine(jT w.heap.size w0.heap.size r4 _ hr5).mono ?_;rintro x w6 ⟨rfl,hr6,OM⟩;rw [e4]at hr6⊢;have hF6:=hF0.keeps OM (by omega);have NB:=hka.trans OM (fun i h=> .inl h);clear OM hka hF0 hr5 HR5;have HRO:=HR;clear HR;go_wp2_with fail;refine ez (fun a' w'=>∃(v:Value) (Ly:List kK) (k:Nat) (r:Option (List UInt8)),a'=fr (.slice a l.length cap::gs a' 1 1 (.pointer (some ⟨w.heap.size,0,none⟩):: .int .i64 0:: .pointer (some ⟨w0.heap.size,0,none⟩):: .pointer (some ⟨Sb,0,none⟩):: .int .i64 ((n'+1:Nat):Int):: .pointer (some ⟨F,0,none⟩):: .int .i64 k::gs a' 9 79 []))/\Ji w.heap.size w0.heap.size F (fun v=>#[.int .i64 x0, .int .i64 x1, .slice au' L8.length Mo, .int .i64 x2,v]) k0 r5 w5 w' v Ly k r) (fun a' _=>(intOf (a'.tmps.getD 8 undef)).toNat) ?_ ?_
   ·exact⟨_,[],k0,r5,rfl,⟨by simp,dR.nil _ _,by simp,by simp,hr6,hF6,NB,b4⟩⟩
   ·clear hr6 hF6 NB b4
    rintro R a' w7 ⟨v,Ly,k,r,Kk,hJ⟩ HR;dsimp only [fr,gs]at Kk;generalize slot a'=f at Kk;subst Kk;obtain⟨MH,QA,hokl,hlenl,Le,hF,NB,hk⟩:=hJ;obtain⟨al,NC,rfl,-,PM,-⟩:=QA.fD mQ;unfold maxLen at PM;obtain⟨ar,nr,OU,KD,_⟩:=id Le;have c1:w7.cell? ⟨w0.heap.size,1,none⟩=some (.bool r.isNone):=KD.cell 1;clear KD;rcases aY k with OR | OR
    ·subst OR
     rw [nN]at MH;have HFR:=V (show ot (some s)=(⟨x0,x1,L8,x2,Ly⟩,r)by
      rw [ot,e0,e1,e2,e3,e4,MH];simp)
     obtain⟨f0',f1',f2',f3',f4'⟩:=hF.rF;have HR6:=V Le;have Nm:=hk15.trans NB (fun i h=> .inl h);have hof6:=OW.out.keeps Nm (fun i h=>by omega);have hS6:=hS.keeps Nm (by omega);have hC6:=hC.keeps Nm (by omega);have hu6:=hu.keeps Nm (fun a n cp he hj=>by have:=(HUB.out a n cp he).1;omega);have Nk:=hb.trans (Nm.below hb.size (fun i h=>by omega));have hl6:=OA.out.keeps NB (fun a n cp he hj=>by have:=(HLOB.out a n cp he).1;omega);have hlb:=QA.block;have Pr:=QA.fD mQ;have P3:∀i,ey (.slice av acc.length KJ) i ->i < w1.heap.size:=fun i hi=>(OW.out.lt hi).2;have P4:∀u:Value,(∀a n cp,u= .slice (some a) n cp ->w1.heap.size <=a.block/\a.block < w7.heap.size) ->uO (Sb+1) w7 (.slice av acc.length KJ) u:=fun u hx a n cp he=>by
      obtain⟨g1,g2⟩:=hx a n cp he;exact⟨by omega,g2,fun h=>by have:=P3 _ h;omega⟩
     have hsz56:=NB.size;have hsz16:=Nm.size;have HU6:=V (show(ee 2 gg w7 (Value.slice au' L8.length Mo) L8/\uO (Sb+1) w7 (.slice av acc.length KJ) (.slice au' L8.length Mo))/\ee 2 kl w7 (.slice al Ly.length NC) Ly/\uO (Sb+1) w7 (.slice av acc.length KJ) (.slice al Ly.length NC)from
      ⟨⟨hl6,P4 _ (fun a n cp he=>by have:=HLOB.out a n cp he;omega)⟩,Pr,P4 _ (fun a n cp he=>by have:=hlb a n cp he;omega)⟩)
     have HOKF:=V (show eW.ok ⟨x0,x1,L8,x2,Ly⟩from⟨⟨by show(-9223372036854775808:Int) <=(x0:Int);omega,by show(x0:Int) <=9223372036854775807;omega⟩,⟨by show(-9223372036854775808:Int) <=(x1:Int);omega,by show(x1:Int) <=9223372036854775807;omega⟩,⟨by show(-9223372036854775808:Int) <=(x2:Int);omega,by show(x2:Int) <=9223372036854775807;omega⟩,HLV.out,hokl⟩);obtain⟨p0,p1,p2⟩:=hS6.three;have HTL:=V (show acc.length+1+n4 r <=l.length+1 from HT.out _ (by omega));clear MH hokl Le hk15 NB hl6 hlb Pr P3 P4 e0 e1 e2 e3 e4 hC hS hu hb HLOB OA HUR HT hlenl QA hF;go_wp2_with (first | (at_builtin;refine Stop.out ?_));change wpList _ _ _ _ _ (World.alloc _ (.cells #[.int .i64 x0, .int .i64 x1, .slice au' L8.length Mo, .int .i64 x2, .slice al Ly.length NC] 40));obtain⟨us,k1,k2,k3,k4⟩:=hof6;have hzl:(acc.zip us).length <=400002:=by rw [bI];omega
     refine eQ w7 rfl _ _ 35 rfl _ 72 (by kernel_rfl) mJ rfl (by decide) (by decide) (Sb+1) (.slice av acc.length KJ) (acc.zip us) rfl k2 ((⟨x0,x1,L8,x2,Ly⟩,(.slice au' L8.length Mo, .slice al Ly.length NC)):eW × Value × Value) _ rfl rfl (by intro q hq;simp only [lS,bJ,bO,cS]at hq;rcases hq with rfl | rfl | rfl | rfl | rfl <;>rfl) rfl (by omega) (by omega) ?_;intro v8 w8 ho8 MN hs8;have Ki:∀i,ey (.slice av acc.length KJ) i ->Sb+1 <=i:=fun i hi=>(eo k2 hi).1;have ND:=gT.app k1 k3 k4 MN hs8 HOKF.out HU6.out ho8;generalize hA:acc++[(⟨x0,x1,L8,x2,Ly⟩:eW)]=Nn at ND;have HA:=V hA;clear hA;have hr8:=HR6.out.keeps MN (fun h=>by have:=Ki _ h;omega) (fun i hi=>by have:=Ki _ hi;omega);have hC8:=hC6.keeps MN (fun h=>by have:=Ki _ h;omega);have hS8:=hS6.keeps MN (fun h=>by have:=Ki _ h;omega);have hu8:=hu6.keeps MN (fun a n cp he hj=>by have:=(HUB.out a n cp he).2;have:=Ki _ hj;omega);have hb8:=Nk.trans (MN.below (by omega) (fun i hi=>by have:=Ki _ hi;omega));obtain⟨av8,Ps,rfl,-,-⟩:=ND.jZ.slice;have y1:=hS8.free 1;obtain⟨q0',q1',q2'⟩:=hS8.three;have L7:=iS w8 Sb 1 (.slice av8 Nn.length Ps);have hof9:=ND.keeps L7 (fun i h=>by omega);have hr9:=hr8.keeps L7 (by omega) (fun i h=>by omega);have hC9:=hC8.keeps L7 (by omega);have hS9:=hS8.set 1 (.slice av8 Nn.length Ps);have hu9:=hu8.keeps L7 (fun a n cp he hj=>by have:=(HUB.out a n cp he).2;omega);have hb9:=hb8.trans (L7.below hb8.size (fun i h=>by omega));have HOF9:=V hof9;have HR9:=V hr9;have HC9:=V hC9;have HS9:=V hS9;have HU9:=V hu9;clear hof9 hr9 hC9 hS9 hu9 L7 ND hr8 hC8 hS8 hu8 hb8 Ki ho8 MN hs8 k1 k2 k3 k4 hC6 hS6 hu6 Nk Nm p0 p1 p2 f0' f1' f2' f3' f4' c1;go_wp2_with fail;refine HRO.out _ _ ⟨_,Nn,n',r,rfl,⟨?_,HOF9.out,?_,HR9.out,HC9.out,by simpa using HS9.out,HU9.out,hb9,by omega⟩⟩ ?_
     ·rw [HV.out,jK,HFR.out, <- HA.out]
      simp
     ·rw [<- HA.out,ah]
      exact HTL.out
     ·simp [intOf]
    have f1:decide ((0:Int) < (k:Int))=true:=az (by omega);cases r with
    | none=>
     have c1:w7.cell? ⟨w0.heap.size,1,none⟩=some (.bool true):=c1;rw [Aa]at MH;have HFR:=V (show ot (some s)=(⟨x0,x1,L8,x2,Ly⟩,(none:Option (List UInt8)))by
      rw [ot,e0,e1,e2,e3,e4,MH];simp)
     obtain⟨f0',f1',f2',f3',f4'⟩:=hF.rF;have HR6:=V Le;have Nm:=hk15.trans NB (fun i h=> .inl h);have hof6:=OW.out.keeps Nm (fun i h=>by omega);have hS6:=hS.keeps Nm (by omega);have hC6:=hC.keeps Nm (by omega);have hu6:=hu.keeps Nm (fun a n cp he hj=>by have:=(HUB.out a n cp he).1;omega);have Nk:=hb.trans (Nm.below hb.size (fun i h=>by omega));have hl6:=OA.out.keeps NB (fun a n cp he hj=>by have:=(HLOB.out a n cp he).1;omega);have hlb:=QA.block;have Pr:=QA.fD mQ;have P3:∀i,ey (.slice av acc.length KJ) i ->i < w1.heap.size:=fun i hi=>(OW.out.lt hi).2;have P4:∀u:Value,(∀a n cp,u= .slice (some a) n cp ->w1.heap.size <=a.block/\a.block < w7.heap.size) ->uO (Sb+1) w7 (.slice av acc.length KJ) u:=fun u hx a n cp he=>by
      obtain⟨g1,g2⟩:=hx a n cp he;exact⟨by omega,g2,fun h=>by have:=P3 _ h;omega⟩
     have hsz56:=NB.size;have hsz16:=Nm.size;have HU6:=V (show(ee 2 gg w7 (Value.slice au' L8.length Mo) L8/\uO (Sb+1) w7 (.slice av acc.length KJ) (.slice au' L8.length Mo))/\ee 2 kl w7 (.slice al Ly.length NC) Ly/\uO (Sb+1) w7 (.slice av acc.length KJ) (.slice al Ly.length NC)from
      ⟨⟨hl6,P4 _ (fun a n cp he=>by have:=HLOB.out a n cp he;omega)⟩,Pr,P4 _ (fun a n cp he=>by have:=hlb a n cp he;omega)⟩)
     have HOKF:=V (show eW.ok ⟨x0,x1,L8,x2,Ly⟩from⟨⟨by show(-9223372036854775808:Int) <=(x0:Int);omega,by show(x0:Int) <=9223372036854775807;omega⟩,⟨by show(-9223372036854775808:Int) <=(x1:Int);omega,by show(x1:Int) <=9223372036854775807;omega⟩,⟨by show(-9223372036854775808:Int) <=(x2:Int);omega,by show(x2:Int) <=9223372036854775807;omega⟩,HLV.out,hokl⟩);obtain⟨p0,p1,p2⟩:=hS6.three;have HTL:=V (show acc.length+1+n4 (none:Option (List UInt8)) <=l.length+1 from HT.out _ (by omega));clear MH hokl Le hk15 NB hl6 hlb Pr P3 P4 e0 e1 e2 e3 e4 hC hS hu hb HLOB OA HUR HT hlenl QA hF;go_wp2_with (first | (at_builtin;refine Stop.out ?_));change wpList _ _ _ _ _ (World.alloc _ (.cells #[.int .i64 x0, .int .i64 x1, .slice au' L8.length Mo, .int .i64 x2, .slice al Ly.length NC] 40));obtain⟨us,k1,k2,k3,k4⟩:=hof6;have hzl:(acc.zip us).length <=400002:=by rw [bI];omega
     refine eQ w7 rfl _ _ 35 rfl _ 72 (by kernel_rfl) mJ rfl (by decide) (by decide) (Sb+1) (.slice av acc.length KJ) (acc.zip us) rfl k2 ((⟨x0,x1,L8,x2,Ly⟩,(.slice au' L8.length Mo, .slice al Ly.length NC)):eW × Value × Value) _ rfl rfl (by intro q hq;simp only [lS,bJ,bO,cS]at hq;rcases hq with rfl | rfl | rfl | rfl | rfl <;>rfl) rfl (by omega) (by omega) ?_;intro v8 w8 ho8 MN hs8;have Ki:∀i,ey (.slice av acc.length KJ) i ->Sb+1 <=i:=fun i hi=>(eo k2 hi).1;have ND:=gT.app k1 k3 k4 MN hs8 HOKF.out HU6.out ho8;generalize hA:acc++[(⟨x0,x1,L8,x2,Ly⟩:eW)]=Nn at ND;have HA:=V hA;clear hA;have hr8:=HR6.out.keeps MN (fun h=>by have:=Ki _ h;omega) (fun i hi=>by have:=Ki _ hi;omega);have hC8:=hC6.keeps MN (fun h=>by have:=Ki _ h;omega);have hS8:=hS6.keeps MN (fun h=>by have:=Ki _ h;omega);have hu8:=hu6.keeps MN (fun a n cp he hj=>by have:=(HUB.out a n cp he).2;have:=Ki _ hj;omega);have hb8:=Nk.trans (MN.below (by omega) (fun i hi=>by have:=Ki _ hi;omega));obtain⟨av8,Ps,rfl,-,-⟩:=ND.jZ.slice;have y1:=hS8.free 1;obtain⟨q0',q1',q2'⟩:=hS8.three;have L7:=iS w8 Sb 1 (.slice av8 Nn.length Ps);have hof9:=ND.keeps L7 (fun i h=>by omega);have hr9:=hr8.keeps L7 (by omega) (fun i h=>by omega);have hC9:=hC8.keeps L7 (by omega);have hS9:=hS8.set 1 (.slice av8 Nn.length Ps);have hu9:=hu8.keeps L7 (fun a n cp he hj=>by have:=(HUB.out a n cp he).2;omega);have hb9:=hb8.trans (L7.below hb8.size (fun i h=>by omega));have HOF9:=V hof9;have HR9:=V hr9;have HC9:=V hC9;have HS9:=V hS9;have HU9:=V hu9;clear hof9 hr9 hC9 hS9 hu9 L7 ND hr8 hC8 hS8 hu8 hb8 Ki ho8 MN hs8 k1 k2 k3 k4 hC6 hS6 hu6 Nk Nm p0 p1 p2 f0' f1' f2' f3' f4' c1;go_wp2_with fail;refine HRO.out _ _ ⟨_,Nn,n',(none:Option (List UInt8)),rfl,⟨?_,HOF9.out,?_,HR9.out,HC9.out,by simpa using HS9.out,HU9.out,hb9,by omega⟩⟩ ?_
     ·rw [HV.out,jK,HFR.out, <- HA.out]
      simp
     ·rw [<- HA.out,ah]
      exact HTL.out
     ·simp [intOf]
    | some r=>
     have c1:w7.cell? ⟨w0.heap.size,1,none⟩=some (.bool false):=c1;obtain⟨k',rfl⟩:∃k',k=k'+1:=⟨k - 1,by omega⟩;have HVL:=V MH;have HOKL:=V hokl;obtain⟨y0,q1,g0⟩:∃x t,fE (some r)=(x,t):=⟨_,_,rfl⟩;obtain⟨y1,q2,g1⟩:∃x t,fE q1=(x,t):=⟨_,_,rfl⟩;have by0:=lE (some r);have by1:=lE q1;have ty0:=sI r;have ty1:=mS q1;rw [g0]at by0 ty0;rw [g1]at by1 ty1;simp only at by0 by1 ty0 ty1;have HLL:=V (show Ly.length+1+n4 q2 <=n4 r5 by omega);have MB:Ly.length <=500000:=by omega
     have HRD7:=V Le;have HOL:=V QA;have hlab:=hF.cell 4;have hlab:w7.cell? ⟨F,4,none⟩=some (.slice al Ly.length NC):=hlab;have hFlt:=hF.lt;clear MH hokl hlenl ty0 ty1 Le QA;go_wp2_with fail;refine eP (fun w'=>w'.cell? ⟨F,4,none⟩=some (.slice al Ly.length NC)) 10
      (up 0 3 ((4,true)::(3,false)::(5,false)::(6,false)::(7,false)::(8,false)::(9,true)::[])) (by kernel_rfl) (by kernel_rfl) hlab ?_
     clear c1 hlab;iterate 4 (first | (apply sk rfl rfl;simp only [pt]) | (apply dT rfl rfl rfl;·(rintro w' t0;go_wp2;exact⟨rfl,rfl,rfl⟩)))
     refine dZ rfl rfl ?_;go_wp2_with fail;refine(jT w.heap.size w0.heap.size (some r) w7.drew HRD7.out).mono ?_;rintro x w8 ⟨rfl,hr8,MN⟩;rw [g0]at hr8⊢;have hF8:=hF.drew.keeps MN (by omega);have hk78:=MN.Ak;clear MN;go_wp2_with fail;refine⟨hF8.cell 4,?_⟩;refine dZ rfl rfl ?_;go_wp2_with fail;refine(jT w.heap.size w0.heap.size q1 w8 hr8).mono ?_;rintro x w9 ⟨rfl,hr9,hk9⟩;rw [g1]at hr9⊢;have hF9:=hF8.keeps hk9 (by omega);have hk79:=hk78.trans hk9 (fun i h=> .inl h);have hsz79:=hk79.size;have hsz57:=NB.size;have hol9:=HOL.out.keeps hk79 (fun i hi=>by have:=(eo HOL.out hi).1;omega);have hk59:=NB.trans hk79 (fun i h=> .inl h);have HR9:=V hr9;clear hk78 hk9 hF8 hr8 hr9 hk79 NB HRD7 HOL hF;go_wp2_with fail;refine⟨hF9.cell 4,?_⟩;refine dZ rfl rfl ?_;go_wp2_with fail;refine⟨hF9.cell 4,?_⟩;refine dZ rfl rfl ?_;go_wp2_with fail;refine⟨(hF9.alloc _).cell 4,?_⟩;refine dZ rfl rfl ?_;refine eQ w9 rfl _ _ 38 rfl _ 16 (by kernel_rfl) ug rfl (by decide) (by decide) (F+1) (.slice al Ly.length NC) Ly rfl hol9 (⟨y0,y1⟩:kK) _ rfl rfl (yL _) rfl (by omega) (by omega) ?_;intro v10 w10 OB OS hs10;have Ki:∀i,ey (.slice al Ly.length NC) i ->F+1 <=i:=fun i hi=>(eo hol9 hi).1;have hr10:=HR9.out.keeps OS (fun h=>by have:=Ki _ h;omega) (fun i hi=>by have:=Ki _ hi;omega);have hF10:=hF9.keeps OS (fun h=>by have:=Ki _ h;omega);have hk5a:=hk59.trans OS (fun i h=> .inr (by have:=Ki _ h;omega));generalize hA:Ly++[(⟨y0,y1⟩:kK)]=Nn at OB;have HA:=V hA;obtain⟨a9,cap9,rfl,-,-⟩:=OB.fD mQ;clear hA OS hs10 Ki hk59 hF9 hol9 HR9;have y1':=hF10.free 4;have hlab:w10.cell? ⟨F,4,none⟩=some (.slice al Ly.length NC):=hF10.cell 4;go_wp2_with fail;refine⟨hlab,?_⟩;iterate 1 (first | (apply sk rfl rfl;simp only [pt]) | (apply dT rfl rfl rfl;·(rintro w' t0;go_wp2;exact⟨rfl,rfl,rfl⟩)))
     refine fI rfl rfl ?_;have L7:=iS w10 F 4 (.slice a9 Nn.length cap9);have hlx:=OB.keeps L7 (fun i hi=>by have:=(eo OB hi).1;omega);have hrx:=hr10.keeps L7 (by omega) (fun i h=>by omega);have hFx:=hF10.set 4 (.slice a9 Nn.length cap9);have hk5x:=hk5a.trans L7 (fun i h=> .inr (by omega));have HLX:=V hlx;have HRX:=V hrx;have HFX:=V hFx;clear hlx hrx hFx L7 hk5a OB hr10 hF10;go_wp2_with fail;refine⟨trivial,?_⟩;refine aD ?_;go_wp2_with fail;refine HR.out _ _ ⟨_,Nn,k',q2,rfl,⟨?_,HLX.out,?_,?_,HRX.out,by simpa using HFX.out,hk5x,by omega⟩⟩ ?_
     ·rw [HVL.out,nN,g0]
      simp only [g1, <- HA.out];simp
     ·rw [<- HA.out]
      intro z hz;rcases bA.1 hz with h | h
      ·exact HOKL.out z h
      ·obtain rfl:=aV.1 h
       exact⟨⟨by show(-9223372036854775808:Int) <=(y0:Int);omega,by show(y0:Int) <=9223372036854775807;omega⟩,by show(-9223372036854775808:Int) <=(y1:Int);omega,by show(y1:Int) <=9223372036854775807;omega⟩
     ·rw [<- HA.out,ah]
      exact HLL.out
     ·simp [intOf]
theorem eu {P:Program} {fn:Func} {t0:Tmp} {ty:TypeId} (h:fn.results=#[.cell t0 ty]) (tmps:Array Value) (w:World) {a:Addr} {v:Value} (ht:tmps.getD t0 undef= .pointer (some a))
  (hl:(loadVar ty a).run P w= .ok v w):(results fn tmps).run P w= .ok v w:=by
 have ht':tmps[t0]?.getD undef= .pointer (some a):=by simpa using ht
 simp [results,h,ht',asAddr,hl]
theorem dS.cell {S:Nat ->Prop} {w w':World} (h:dS S w w') {p:Addr} (hp:p.block < w.heap.size) (hs:¬ S p.block):w'.cell? p=w.cell? p:=bg (h.block p.block hp hs)
section
section
variable {α:Type} {k:Nat} {enc:α ->List Value} {t:TypeId}
theorem kA {P:Program} (w:World) {ops:Array Oper} {rest:List Oper} {o:Oper} {a:Act} {Q:Exit ->Act ->World ->Prop} (Ob:o.guard=none) (s x:Operand) (ts:TypeId)
  (ho:o.op= .call {callee:= .builtin .append,args:=#[s,x],argTypes:=#[ts,ts]})
  (z:Value) (bytes:Nat) (ht:P.underlying ts=some (.slice t)) (hi:(P.info? t).map (fun i=>(i.zero,i.size,i.bytes))=some (some z,k,bytes)) (hzs:z.cells.size=k) (h0:0 < k) (MX:bytes <=100000000)
  (B:Nat) (v:Value) (l:List α) (hs:a.eval s=v) (Ki:dR t k enc w B v l) (hk:∀x,(enc x).length=k)
  (m:List α) (ad:Addr) (n c:Nat) (hx:a.eval x= .slice (some ad) n c) (hm:ee k enc w (.slice (some ad) n c) m) (h1:∀y∈m,∀u∈enc y,u.oneCell'=true)
  (Ou:l.length+m.length <=1000000) (KO:B <=w.heap.size)
  (h:∀v' w',dR t k enc w' B v' (l++m) ->dS (ey v) w w' ->eC w v v' ->wpList P ops Q rest (a.put o.dst v') w'):
  wpList P ops Q (o::rest) a w:=by
 obtain⟨i0,hi,MY,LG,Mm⟩:=cd hi;obtain⟨a',KE,hv,Me,La,hc3⟩:=hm;injection hv with e1 e2 e3;subst e1 e2 e3;refine qh (P:=P) w Ob s x ts ho B t i0 z k bytes ht hi MY LG Mm hzs h0 v l.length (l.flatMap enc) hs Ki ad m.length c (m.flatMap enc) hx (jL hk m) ?_ ?_ (by simp only [maxLen];omega) ?_ KO ?_
 ·intro j u hu
  have hj:j < m.length*k:=by rw [<- jL hk];exact(aL.1 hu).1
  have hjk:j/k < m.length:=Nat.div_lt_of_lt_mul (by rw [Nat.mul_comm];exact hj);obtain⟨y,hy⟩:∃y,m[j/k]?=some y:=⟨_,aq hjk⟩;obtain⟨b,off,ha,Kq,hc⟩:=hc3 _ y hy;injection ha with ha;subst ha;have h3:=qV hk m (j/k) y (j %k) hy (Nat.mod_lt _ h0);have h4:j/k*k+j %k=j:=Nat.div_add_mod' j k;rw [h4,hu]at h3;have h5:=hc (j %k) u h3.symm;have Oc:(⟨b,off,none⟩:Addr).add j=⟨b,off+j,none⟩:=by unfold Addr.add;split <;>simp_all
  rw [Oc, <- h5]
  congr 2
  omega
 ·intro u hu
  obtain⟨y,hy,hu⟩:=List.mem_flatMap.1 hu;exact h1 y hy u hu
 ·have:(l.length+m.length)*bytes <=1000000*100000000:=Nat.mul_le_mul (by omega) MX
  omega
 ·intro v' w' h2 h3 h4
  refine h v' w' ?_ h3 h4;simpa [dR] using h2
theorem yN (hk:∀x,(enc x).length=k):∀(l:List α) (i:Nat) (x y:α) (j:Nat) (u:Value),l[i]?=some x ->j < k ->enc y=(enc x).set j u ->(l.set i y).flatMap enc=(l.flatMap enc).set (i*k+j) u
 | [],i,x,y,j,u,h,_,_=>by simp at h
 | d::l,0,x,y,j,u,h,hj,he=>by
  simp at h;subst h;rw [bH,bR,bR,he,List.set_append_left _ _ (by rw [hk];omega)];simp
 | d::l,i+1,x,y,j,u,h,hj,he=>by
  rw [bE,bR,bR,List.set_append_right _ _ (by rw [hk,cV];omega)];rw [show(i+1)*k+j - (enc d).length=i*k+j from by rw [hk,cV];omega];rw [yN hk l i x y j u (by simpa using h) hj he]
theorem dR.set {w:World} {B g n cap:Nat} {l:List α} (hk:∀x,(enc x).length=k) (h:dR t k enc w B (.slice (some ⟨g,0,none⟩) n cap) l) {i j:Nat} {x y:α} {u:Value} (hx:l[i]?=some x) (hj:j < k) (he:enc y=(enc x).set j u):
  dR t k enc (w.setCell ⟨g,i*k+j,none⟩ u) B (.slice (some ⟨g,0,none⟩) n cap) (l.set i y):=by
 obtain⟨hl,hv | ⟨g',KE,cur,hv,hb,hg,hn,hm,hs,ht⟩⟩:=h
 ·cases hv.1
 ·injection hv with e1 e2 e3
  injection e1 with e1;injection e1 with e1 e4;subst e1 e2 e3;refine⟨by rw [jL hk], .inr ⟨g,cap,cur.setIfInBounds (i*k+j) u,by rw [di],hb,heap_setCell_same w g _ cur _ _ hg,by rw [di];exact hn,hm,by simpa using hs,?_⟩⟩;rw [yN hk l i x y j u hx hj he,di];rw [Array.toList_setIfInBounds,List.take_set,ht]
theorem dR.open {w:World} {B:Nat} {v:Value} {l:List α} (h:dR t k enc w B v l) (hl:l≠[]):∃g cap cur,v= .slice (some ⟨g,0,none⟩) l.length cap/\B <=g/\g < w.heap.size/\w.heap[g]?=some (.cells cur t)/\l.length <=cap/\cap <=maxLen:=by
 obtain⟨_,hv | ⟨g,cap,cur,hv,hb,hg,hn,hm,hs,ht⟩⟩:=h
 ·exact absurd (aH hv.2) hl
 ·exact⟨g,cap,cur,hv,hb,(cq.1 hg).1,hg,hn,hm⟩
theorem dR.empty (w:World):dR t k enc (w.alloc (.cells #[] t)) w.heap.size (.slice (some ⟨w.heap.size,0,none⟩) 0 0) []:=
 ⟨by simp, .inr ⟨w.heap.size,0,#[],rfl,ag _,dq w _,ag _,by simp [maxLen],by simp,by simp⟩⟩
def tt (t:TypeId) (k:Nat) (enc:α ->List Value) (l:List α) (w:World) (e:Ending) (w':World):Prop:=∃v,e= .returned v/\dR t k enc w' w.heap.size v l/\Below w.heap.size w w'
end
theorem nS (v:Value) (l:List fb) (w:World) (hl:ee 2 gg w v l) (N7:l.length <=1000000):Calls prog 36 #[v] w (tt 42 2 gg l w):=by
 obtain⟨a,cap,rfl,h1,h2,h3⟩:=id hl;unfold maxLen at h2;have HI:=V hl;cases a with
 | none=>
  obtain rfl:l=[]:=by
   cases l with
   | nil=>rfl
   | cons x l=>
    obtain⟨_,_,h,_⟩:=h3 0 x rfl;cases h
  clear h3 hl;have e1:=bQ (P:=prog) w 30 42 none 0 cap 0 0 (by kernel_rfl);rw [dg]at e1;go_enter func36,ntmps36;go_wp2_with fail;go_ret;exact⟨_,rfl,dR.nil _ _,an _ _⟩
 | some ad=>
  clear h3 hl;have e1:=bQ (P:=prog) w 30 42 (some ad) l.length cap 0 0 (by kernel_rfl);rw [df]at e1;go_enter func36,ntmps36;go_wp2_with (first | (at_builtin;refine Stop.out ?_));change wpList _ _ _ _ _ (World.alloc _ (.cells #[] 42));have K5:=(an w.heap.size w).alloc (ag _) (.cells #[] 42);refine kA (w.alloc (.cells #[] 42)) rfl _ _ 30 rfl _ 16 (by kernel_rfl) kZ rfl (by decide) (by decide) w.heap.size (.slice (some ⟨w.heap.size,0,none⟩) 0 0) [] rfl (dR.empty w) gh l ad l.length cap rfl (HI.out.below K5) (fun y _=>lI y) (by simp only [aM];omega) K5.size ?_;intro v w' ho hk hs;have hb:Below w.heap.size w w':=K5.trans (hk.below K5.size (fun i hi=>by simp [ey,Value.ownBlock]at hi;omega));clear hk hs K5;go_wp2_with fail;go_ret;exact⟨v,rfl,by simpa using ho,hb⟩
theorem Ar (v:Value) (l:List kK) (w:World) (hl:ee 2 kl w v l) (N7:l.length <=1000000):Calls prog 122 #[v] w (tt 46 2 kl l w):=by
 obtain⟨a,cap,rfl,h1,h2,h3⟩:=id hl;unfold maxLen at h2;have HI:=V hl;cases a with
 | none=>
  obtain rfl:l=[]:=by
   cases l with
   | nil=>rfl
   | cons x l=>
    obtain⟨_,_,h,_⟩:=h3 0 x rfl;cases h
  clear h3 hl;have e1:=bQ (P:=prog) w 38 46 none 0 cap 0 0 (by kernel_rfl);rw [dg]at e1;go_enter func122,ntmps122;go_wp2_with fail;go_ret;exact⟨_,rfl,dR.nil _ _,an _ _⟩
 | some ad=>
  clear h3 hl;have e1:=bQ (P:=prog) w 38 46 (some ad) l.length cap 0 0 (by kernel_rfl);rw [df]at e1;go_enter func122,ntmps122;go_wp2_with (first | (at_builtin;refine Stop.out ?_));change wpList _ _ _ _ _ (World.alloc _ (.cells #[] 46));have K5:=(an w.heap.size w).alloc (ag _) (.cells #[] 46);refine kA (w.alloc (.cells #[] 46)) rfl _ _ 38 rfl _ 16 (by kernel_rfl) ug rfl (by decide) (by decide) w.heap.size (.slice (some ⟨w.heap.size,0,none⟩) 0 0) [] rfl (dR.empty w) mQ l ad l.length cap rfl (HI.out.below K5) (fun y _=>yL y) (by simp only [aM];omega) K5.size ?_;intro v w' ho hk hs;have hb:Below w.heap.size w w':=K5.trans (hk.below K5.size (fun i hi=>by simp [ey,Value.ownBlock]at hi;omega));clear hk hs K5;go_wp2_with fail;go_ret;exact⟨v,rfl,by simpa using ho,hb⟩
theorem Am (v:Value) (l:List (eW × Value × Value)) (w:World) (hl:ee 5 lS w v l) (N7:l.length <=1000000) (hone:∀y∈l,∀u∈lS y,u.oneCell'=true):Calls prog 121 #[v] w (tt 40 5 lS l w):=by
 obtain⟨a,cap,rfl,h1,h2,h3⟩:=id hl;unfold maxLen at h2;have HI:=V hl;cases a with
 | none=>
  obtain rfl:l=[]:=by
   cases l with
   | nil=>rfl
   | cons x l=>
    obtain⟨_,_,h,_⟩:=h3 0 x rfl;cases h
  clear h3 hl;have e1:=bQ (P:=prog) w 35 40 none 0 cap 0 0 (by kernel_rfl);rw [dg]at e1;go_enter func121,ntmps121;go_wp2_with fail;go_ret;exact⟨_,rfl,dR.nil _ _,an _ _⟩
 | some ad=>
  clear h3 hl;have e1:=bQ (P:=prog) w 35 40 (some ad) l.length cap 0 0 (by kernel_rfl);rw [df]at e1;go_enter func121,ntmps121;go_wp2_with (first | (at_builtin;refine Stop.out ?_));change wpList _ _ _ _ _ (World.alloc _ (.cells #[] 40));have K5:=(an w.heap.size w).alloc (ag _) (.cells #[] 40);refine kA (w.alloc (.cells #[] 40)) rfl _ _ 35 rfl _ 72 (by kernel_rfl) mJ rfl (by decide) (by decide) w.heap.size (.slice (some ⟨w.heap.size,0,none⟩) 0 0) [] rfl (dR.empty w) ix l ad l.length cap rfl (HI.out.below K5) hone (by simp only [aM];omega) K5.size ?_;intro v w' ho hk hs;have hb:Below w.heap.size w w':=K5.trans (hk.below K5.size (fun i hi=>by simp [ey,Value.ownBlock]at hi;omega));clear hk hs K5;go_wp2_with fail;go_ret;exact⟨v,rfl,by simpa using ho,hb⟩
end
theorem dR.ne {α β:Type} {t t':TypeId} {k k':Nat} {enc:α ->List Value} {enc':β ->List Value} {w:World} {B B':Nat} {v v':Value} {l:List α} {l':List β} (h:dR t k enc w B v l) (h':dR t' k' enc' w B' v' l') (Mf:t≠t') (g:Nat) (hg:ey v g):¬ ey v' g:=by
 intro Qy;obtain⟨_,hv | ⟨g1,cap,cur,hv,hb,h1,_⟩⟩:=h
 ·rw [hv.1]at hg
  simp [ey,Value.ownBlock]at hg
 obtain⟨_,O5 | ⟨g2,KE,cur',O5,KF,h2,_⟩⟩:=h'
 ·rw [O5.1]at Qy
  simp [ey,Value.ownBlock]at Qy
 rw [hv]at hg;rw [O5]at Qy;simp [ey,Value.ownBlock]at hg Qy;subst hg Qy;rw [h1]at h2;injection h2 with h2;injection h2 with _ h2;exact Mf h2
theorem dR.cell {α:Type} {t:TypeId} {k:Nat} {enc:α ->List Value} {w:World} {B g n cap:Nat} {l:List α} (hk:∀x,(enc x).length=k) (h:dR t k enc w B (.slice (some ⟨g,0,none⟩) n cap) l) {i j:Nat} {x:α} {u:Value} (hx:l[i]?=some x) (hu:(enc x)[j]?=some u):w.cell? ⟨g,i*k+j,none⟩=some u:=by
 obtain⟨a,c,hv,_,_,hc⟩:=h.fD hk;obtain⟨b,off,ha,_,KH⟩:=hc i x hx;injection hv with e1 e2 e3;rw [<- e1]at ha;injection ha with ha;injection ha with e4 e5;subst e4 e5;have:=KH j u hu;rw [bX]at this;exact this
theorem BF {α β:Type}:∀(l:List α) (us:List β) (k:Nat) (f:α) (u:β),l[k]?=some f ->(l.zip us).set k (f,u)=l.zip (us.set k u)
 | [],us,k,f,u,h=>by simp at h
 | d::l,[],k,f,u,h=>by simp
 | d::l,x::us,0,f,u,h=>by
  simp at h;simp [h]
 | d::l,x::us,k+1,f,u,h=>by
  simp only [List.zip_cons_cons,bE];rw [BF l us k f u (by simpa using h)]
def km (w:World) (M:Nat) (v:Value) (l:List eW):Prop:=
 ∃us:List (Value × Value),us.length=l.length/\dR 40 5 lS w M v (l.zip us)/\(∀f∈l,f.ok)/\
  ∀(i:Nat) (f:eW) (u:Value × Value),l[i]?=some f ->us[i]?=some u ->dR 42 2 gg w M u.1 f.locals/\dR 46 2 kl w M u.2 f.labels
theorem km.jZ {w:World} {M:Nat} {v:Value} {l:List eW} (h:km w M v l):fU w v l:=by
 obtain⟨us,h1,h2,h3,h4⟩:=h;exact⟨us,h1,h2.fD ix,fun i f u hf hu=>⟨(h4 i f u hf hu).1.fD gh,(h4 i f u hf hu).2.fD mQ⟩,h3⟩
theorem km.keeps {w w':World} {M:Nat} {v:Value} {l:List eW} {S:Nat ->Prop} (h:km w M v l) (hk:dS S w w') (hs:∀i,S i ->i < M):km w' M v l:=by
 obtain⟨us,h1,h2,h3,h4⟩:=h;have key:∀{α:Type} {t:TypeId} {k:Nat} {enc:α ->List Value} {u:Value} {l:List α},dR t k enc w M u l ->dR t k enc w' M u l:=fun h=>h.keeps hk (fun i hi hj=>by have:=(eo h hi).1;have:=hs i hj;omega);exact⟨us,h1,key h2,h3,fun i f u hf hu=>⟨key (h4 i f u hf hu).1,key (h4 i f u hf hu).2⟩⟩
def F3 (s:gI) (w:World) (e:Ending) (w':World):Prop:=∃uv uf M,e= .returned (.agg #[uv,uf, .int .i64 s.asks])/\Below w.heap.size w w'/\w.heap.size <=M/\M <=w'.heap.size/\
 dR 42 2 gg w' w.heap.size uv s.dX/\(∀g,ey uv g ->g < M)/\km w' M uf s.ef
def Jd (l:List eW) (us:List (Value × Value)) (M:Nat) (vf:Value) (w1 w':World) (ON:List (Value × Value)) (k:Nat):Prop:=
 k <=l.length/\dS (ey vf) w1 w'/\ON.length=l.length/\dR 40 5 lS w' M vf (l.zip ON)/\
  (∀(i:Nat) (f:eW) (u:Value × Value),i < k ->l[i]?=some f ->ON[i]?=some u ->dR 42 2 gg w' M u.1 f.locals/\dR 46 2 kl w' M u.2 f.labels)/\
  ∀i,k <=i ->ON[i]?=us[i]?
def yO (B X:Nat) (vf u x:Value) (w:World):Prop:=w.cell? ⟨B,1,none⟩=some vf/\w.cell? ⟨X,2,none⟩=some u/\w.cell? ⟨X,4,none⟩=some x
theorem yO.keeps {B X:Nat} {vf u x:Value} {w w':World} {S:Nat ->Prop} (h:yO B X vf u x w) (hk:dS S w w') (hB:B < w.heap.size/\¬ S B) (hX:X < w.heap.size/\¬ S X):yO B X vf u x w':=
 ⟨(bg (a:=⟨B,1,none⟩) (hk.block B hB.1 hB.2)).trans h.1,(bg (a:=⟨X,2,none⟩) (hk.block X hX.1 hX.2)).trans h.2.1,(bg (a:=⟨X,4,none⟩) (hk.block X hX.1 hX.2)).trans h.2.2⟩
theorem Ah {w:World} {l:List eW} {us:List (Value × Value)} (h:∀(i:Nat) (f:eW) (u:Value × Value),l[i]?=some f ->us[i]?=some u ->ee 2 gg w u.1 f.locals/\ee 2 kl w u.2 f.labels):
  ∀y∈l.zip us,∀u∈lS y,u.oneCell'=true:=by
 intro y hy u hu;obtain⟨i,hi⟩:=List.mem_iff_getElem?.1 hy;obtain⟨h1,h2⟩:=cK.1 hi;obtain⟨⟨a,c,e1,_⟩,a2,c2,e2,_⟩:=h i _ _ h1 h2;simp only [lS,e1,e2,bJ,bO,cS]at hu;rcases hu with rfl | rfl | rfl | rfl | rfl <;>rfl
theorem uS (uv uf:Value) (s:gI) (w:World) (KI:jA w uv uf s) (P5:s.dX.length <=1000) (hl2:s.ef.length <=1000) (hl3:∀f∈s.ef,f.locals.length <=1000/\f.labels.length <=1000):
  Calls prog 79 #[.agg #[uv,uf, .int .i64 s.asks]] w (F3 s w):=by
 obtain⟨hv,hf,Kt⟩:=id KI;obtain⟨av,KJ,rfl,hcv1,LC,_⟩:=id hv;obtain⟨us,hu1,MD,hu3,hu4⟩:=id hf;obtain⟨af,L5,rfl,hcf1,O6⟩:=hf.slice;unfold maxLen at LC;have HL3:=V hl3;have LI:=(eE.new w #[.slice av s.dX.length KJ, .slice af s.ef.length L5, .int .i64 s.asks] 37).alloc (.cells #[.slice none 0 0, .slice none 0 0, .int .i64 0] 37);have hbz:eE ((w.alloc (.cells #[.slice av s.dX.length KJ, .slice af s.ef.length L5, .int .i64 s.asks] 37)).alloc (.cells #[.slice none 0 0, .slice none 0 0, .int .i64 0] 37)) (w.heap.size+1) #[.slice none 0 0, .slice none 0 0, .int .i64 0] 37:=by
  have:=eE.new (w.alloc (.cells #[.slice av s.dX.length KJ, .slice af s.ef.length L5, .int .i64 s.asks] 37)) #[.slice none 0 0, .slice none 0 0, .int .i64 0] 37;rw [aE]at this;exact this
 have KK:Below w.heap.size w ((w.alloc (.cells #[.slice av s.dX.length KJ, .slice af s.ef.length L5, .int .i64 s.asks] 37)).alloc (.cells #[.slice none 0 0, .slice none 0 0, .int .i64 0] 37)):=((an w.heap.size w).alloc (ag _) _).alloc (by simp) _;have HV:=V hv;have HU:=V hu3;have HZ:=V MD;have HOKF:=V hu4;have HUL:=V hu1;have HONE:=V (Ah hu3);have hzl:(s.ef.zip us).length=s.ef.length:=by rw [bI,hu1,bY]
 clear hv hf KI Kt hu1 MD hu3 hu4 hl3;go_enter func79,ntmps79;go_wp2_with fail;generalize((w.alloc (.cells #[.slice av s.dX.length KJ, .slice af s.ef.length L5, .int .i64 s.asks] 37)).alloc (.cells #[.slice none 0 0, .slice none 0 0, .int .i64 0] 37))=w0 at LI hbz KK⊢;have hX0:w.heap.size+1 < w0.heap.size:=hbz.lt;obtain⟨x0,x1,x2⟩:=LI.three;refine eP (fun w'=>w'.cell? ⟨w.heap.size,1,none⟩=some (.slice af s.ef.length L5)) 9
  [(0,true),(3,true),(4,true),(1,false),(2,false),(6,true),(5,false),(7,false),(8,true)] (by kernel_rfl) (by kernel_rfl) x1 ?_
 iterate 3 (first | (apply sk rfl rfl;simp only [pt]) | (apply dT rfl rfl rfl;·(rintro w' t0;go_wp2;exact⟨rfl,rfl,rfl⟩)))
 refine dZ rfl rfl ?_;go_wp2_with fail;refine⟨x1,?_⟩;refine dZ rfl rfl ?_;go_wp2_with fail;refine(nS _ s.dX w0.drew (HV.out.below KK.drew) (by omega)).mono ?_;rintro x w2 ⟨v,rfl,Qz,hbv'⟩;have hbv:Below w0.heap.size w0 w2:=fM hbv';have Qz:dR 42 2 gg w2 w0.heap.size v s.dX:=Qz;have NP:=LI.below hbv LI.lt;have Mm:=hbz.below hbv hbz.lt;have Kl:=KK.trans (hbv.mono KK.size);have NM:=hbv.size;clear hbv' hbv LI hbz KK x0 x1 x2;go_wp2_with fail;refine⟨NP.cell 1,?_⟩;iterate 1 (first | (apply sk rfl rfl;simp only [pt]) | (apply dT rfl rfl rfl;·(rintro w' t0;go_wp2;exact⟨rfl,rfl,rfl⟩)))
 refine dZ rfl rfl ?_;go_wp2_with fail;refine(Am _ (s.ef.zip us) w2 (HZ.out.below Kl) (by omega) HONE.out).mono ?_;rintro x w3 ⟨vf,rfl,O8,hbf⟩;have hx3:=NP.below hbf NP.lt;have hz3:=Mm.below hbf Mm.lt;have K4:=Kl.trans (hbf.mono Kl.size);have hov3:=Qz.below hbf;have NN:=hbf.size;obtain⟨a2,Kn,rfl,_,_,_⟩:=hov3.fD gh;obtain⟨a3,LU,hvf,_,_,_⟩:=O8.fD ix;rw [hzl]at hvf;subst hvf;have f0:=hx3.free 0;have x0:w3.cell? ⟨w.heap.size,0,none⟩=some (.slice av s.dX.length KJ):=hx3.cell 0;have hkx1:=iS w3 w.heap.size 0 (.slice a2 s.dX.length Kn);have hx4:eE (w3.setCell ⟨w.heap.size,0,none⟩ (.slice a2 s.dX.length Kn)) w.heap.size #[.slice a2 s.dX.length Kn, .slice af s.ef.length L5, .int .i64 s.asks] 37:=by
  have:=hx3.set 0 (.slice a2 s.dX.length Kn);simpa using this
 have hM:=Qz.block;have HOV:=V hov3;have P6:=V (show∀g,ey (.slice a2 s.dX.length Kn) g ->w0.heap.size <=g/\g < w2.heap.size from fun g hg=>eo Qz hg);have OW:=V O8;clear Qz hov3 O8 hM hbf;go_wp2_with fail;refine⟨hx3.cell 1,?_⟩;refine dZ rfl rfl ?_;go_wp2_with fail;generalize w3.setCell ⟨w.heap.size,0,none⟩ (.slice a2 s.dX.length Kn)=w4 at hx4 hkx1⊢;have x1:w4.cell? ⟨w.heap.size,1,none⟩=some (.slice af s.ef.length L5):=hx4.cell 1;have f1:=hx4.free 1;refine⟨x1,?_⟩;iterate 1 (first | (apply sk rfl rfl;simp only [pt]) | (apply dT rfl rfl rfl;·(rintro w' t0;go_wp2;exact⟨rfl,rfl,rfl⟩)))
 refine fI rfl rfl ?_;have hkx2:=iS w4 w.heap.size 1 (.slice a3 s.ef.length LU);have hx5:eE (w4.setCell ⟨w.heap.size,1,none⟩ (.slice a3 s.ef.length LU)) w.heap.size #[.slice a2 s.dX.length Kn, .slice a3 s.ef.length LU, .int .i64 s.asks] 37:=by
  have:=hx4.set 1 (.slice a3 s.ef.length LU);simpa using this
 have L7:=hkx1.trans hkx2 (fun i h=> .inl h);clear x0 f0 hx4 hx3 NP hkx1;go_wp2_with fail;refine⟨trivial,?_⟩;refine aD ?_;generalize w4.setCell ⟨w.heap.size,1,none⟩ (.slice a3 s.ef.length LU)=w1 at hx5 L7⊢;clear x1 f1 hkx2;have hM0:w0.heap.size <=w2.heap.size:=by omega
 have LG:=hz3.keeps L7 (by omega);have P0:=L7.size;have Kw:=K4.trans (L7.below K4.size (fun i h=>by omega));have HOV1:=V (HOV.out.keeps L7 (fun i hi=>by have:=P6.out i hi;omega));have hof1:=OW.out.keeps L7 (fun i hi=>by have:=(eo OW.out hi).1;omega);have HX5:=V hx5;have HZ1:=V LG;have hMl:=hof1;clear hMl HOV OW hx5 LG hz3 Mm K4 Kl L7;obtain⟨M,hMM⟩:∃M,w2.heap.size=M:=⟨_,rfl⟩;rw [hMM]at hof1 hM0 NN;have P6:=V (show∀g,ey (.slice a2 s.dX.length Kn) g ->w0.heap.size <=g/\g < M by rw [<- hMM];exact P6.out);clear hMM NM;obtain⟨x0,x1,x2⟩:=HX5.out.three;go_wp2_with fail;clear x0 x1 x2;refine ez (fun a' w'=>∃(ON:List (Value × Value)) (k:Nat),a'=fr (gs a' 0 1 (.pointer (some ⟨w.heap.size,0,none⟩):: .pointer (some ⟨w.heap.size+1,0,none⟩)::gs a' 3 11 (.slice a3 s.ef.length LU:: .int .i64 s.ef.length:: .int .i64 k::gs a' 17 22 [])))/\Jd s.ef us M (.slice a3 s.ef.length LU) w1 w' ON k) (fun a' _=>(s.ef.length - (intOf (a'.tmps.getD 16 undef)).toNat)) ?_ ?_
 ·exact⟨us,0,rfl,by omega,dS.refl _ _,HUL.out,hof1,fun i f u hi=>by omega,fun i _=>rfl⟩
 clear hof1;rintro R a' wr ⟨ON,k,Kk,hJ⟩ HR;dsimp only [fr,gs]at Kk;generalize slot a'=f at Kk;subst Kk;obtain⟨hk,Mt,Nh,O8,hold,hnew⟩:=hJ;have hszr:=Mt.size;have hBM:∀g,ey (.slice a3 s.ef.length LU) g ->M <=g:=fun g hg=>(eo O8 hg).1;have hxr:=HX5.out.keeps Mt (fun h=>by have:=hBM _ h;omega);have hbr:=Kw.trans (Mt.below Kw.size (fun i h=>by have:=hBM _ h;omega));obtain⟨x0,x1,x2⟩:=hxr.three;have HOLD:=V hold;have HNEW:=V hnew;clear hold hnew;by_cases Lg:k < s.ef.length;rotate_left
 ·obtain rfl:k=s.ef.length:=by omega
  have hzr:=HZ1.out.keeps Mt (fun h=>by have:=hBM _ h;omega);obtain⟨y0,y1,y2⟩:=hzr.three;have z0:=hzr.free 0;have z1:=hzr.free 1;have z2:=hzr.free 2;have HB:=V hBM;have OZ:=V Mt;have HOFR:=V O8;clear hBM Mt O8;go_wp2_with fail;have hx:=hzr.CT (.slice a2 s.dX.length Kn) (.slice a3 s.ef.length LU) (.int .i64 s.asks);have L7:=wP wr (w.heap.size+1) (.slice a2 s.dX.length Kn) (.slice a3 s.ef.length LU) (.int .i64 s.asks);refine aN (eu rfl _ _ rfl hx.vV) rfl ?_;have hsf:=L7.size;refine⟨_,_,M,rfl,((hbr.setCell (p:=⟨w.heap.size+1,0,none⟩) (by show _ <=w.heap.size+1;omega) _).setCell (p:=⟨w.heap.size+1,1,none⟩) (by show _ <=w.heap.size+1;omega) _).setCell (p:=⟨w.heap.size+1,2,none⟩) (by show _ <=w.heap.size+1;omega) _,by omega,by omega,?_,fun g hg=>(P6.out g hg).2,?_⟩
  ·exact mC ((HOV1.out.keeps OZ.out (fun i hi hj=>by have:=P6.out i hi;have:=HB.out i hj;omega)).keeps L7 (fun i hi=>by have:=P6.out i hi;omega)) (fun i hi=>by have:=P6.out i hi;omega)
  ·have O6:km wr M (.slice a3 s.ef.length LU) s.ef:=⟨ON,Nh,HOFR.out,HOKF.out,fun i f u hf hu=>HOLD.out i f u (aL.1 hf).1 hf hu⟩
   exact O6.keeps L7 (fun i h=>by omega)
 obtain⟨c,he⟩:∃e,s.ef[k]?=some e:=⟨_,aq Lg⟩;obtain⟨⟨u,x⟩,hux⟩:∃e,us[k]?=some e:=⟨_,aq (by have:=HUL.out;omega)⟩;have hux':ON[k]?=some (u,x):=(HNEW.out k (ag _)).trans hux;have hz:(s.ef.zip ON)[k]?=some (c,(u,x)):=(cK (z:=(c,(u,x)))).2 ⟨he,hux'⟩;obtain⟨g,capg,cur,hvg,Ov,MQ,hg3,_,_⟩:=O8.open (by intro h;rw [h]at hz;simp at hz);injection hvg with e1 e2 e3;subst e1 e3;obtain⟨aa,capp,hva,_,_,Kh⟩:=O8.fD ix;obtain⟨b,off,K5,Kq,hc⟩:=Kh k _ hz;injection hva with e4 e5 e6;rw [<- e4]at K5;injection K5 with K5;injection K5 with e7 e8;subst e7 e8;have c0:=hc 0 _ rfl;have c1:=hc 1 _ rfl;have c2:=hc 2 _ rfl;have c3:=hc 3 _ rfl;have c4:=hc 4 _ rfl;rw [bX]at c0 c1 c2 c3 c4;rw [aK]at c0;obtain⟨hu,hx⟩:=HU.out k c (u,x) he hux;obtain⟨au,Kr,hue,hcu1,hcu,_⟩:=id hu;obtain⟨ax,Lr,hxe,hcx1,hcx,_⟩:=id hx;simp only at hue hxe;subst hue hxe;obtain⟨hl31,hl32⟩:=HL3.out c (aO he);have MB:=(an wr.heap.size wr).alloc (ag _) (.cells #[.int .i64 c.fn, .int .i64 c.pc, .slice au c.locals.length Kr, .int .i64 c.base, .slice ax c.labels.length Lr] 40);have HUa:=V ((hu.below hbr).below MB);have HXa:=V ((hx.below hbr).below MB);have hxa:=hxr.below MB hxr.lt;have hX:=eE.new wr #[.int .i64 c.fn, .int .i64 c.pc, .slice au c.locals.length Kr, .int .i64 c.base, .slice ax c.labels.length Lr] 40;have HE:=V he;have HZZ:=V hz;have HUX:=V hux';have HOFR:=V O8;have OZ:=V Mt;have HC2:=V c2;have HC4:=V c4;have HG3:=V hg3;have HB:=V hBM;clear hu hx he hz hux hux' O8 Mt hBM Kh hc e2 e4 e5 e6 hg3;unfold maxLen at hcu hcx;go_wp2_with fail;obtain⟨X,hXX⟩:∃X,X=wr.heap.size:=⟨_,rfl⟩;rw [<- hXX]at hX⊢;have hX1:wr.heap.size <=X:=by omega
 clear hXX c0 c1 c2 c3 c4 x0 x1 x2;generalize wr.alloc (.cells #[.int .i64 c.fn, .int .i64 c.pc, .slice au c.locals.length Kr, .int .i64 c.base, .slice ax c.labels.length Lr] 40)=wa at MB hxa hX HUa HXa⊢;have hS:yO w.heap.size X (.slice (some ⟨g,0,none⟩) s.ef.length LU) (.slice au c.locals.length Kr) (.slice ax c.labels.length Lr) wa:=⟨hxa.cell 1,hX.cell 2,hX.cell 4⟩;have HS:=V hS;have hgl:g < wa.heap.size:=by have:=MB.size;omega
 have PR:=hX.lt;have hBl:=hxa.lt;have hgB:w.heap.size≠g:=by omega
 clear hS;refine ed (yO w.heap.size X (.slice (some ⟨g,0,none⟩) s.ef.length LU) (.slice au c.locals.length Kr) (.slice ax c.labels.length Lr))
  (up 0 8 ((9,true)::(10,true)::(8,false)::(11,false)::(12,true)::(13,true)::(14,false)::(15,true)::(16,true)::(17,false)::[])) (by kernel_rfl) (by kernel_rfl) HS.out ?_
 clear hX hxa;iterate 10 (first | (apply sk rfl rfl;simp only [pt]) | (apply dT rfl rfl rfl;·(rintro w' ⟨t0,t1,t2⟩;go_wp2;exact⟨rfl,rfl,rfl⟩)))
 refine dZ rfl rfl ?_;go_wp2_with fail;refine(nS _ c.locals wa.drew HUa.out (by omega)).mono ?_;rintro y w5 ⟨v1,rfl,Ns,hb5'⟩;have Lm:Below wa.heap.size wa w5:=fM hb5';have Ns:dR 42 2 gg w5 wa.heap.size v1 c.locals:=Ns;obtain⟨p1,q1,rfl,_,_,_⟩:=Ns.fD gh;have Mb:=V Ns;clear hb5' Ns;have hsa:=MB.size;go_wp2_with fail;refine⟨HS.out.keeps (dS.dV (S:=fun _=>False) Lm) ⟨hBl,fun h=>h⟩ ⟨PR,fun h=>h⟩,?_⟩;refine dZ rfl rfl ?_;go_wp2_with fail;refine(Ar _ c.labels w5 (HXa.out.below Lm) (by omega)).mono ?_;rintro y w6 ⟨v2,rfl,KB,Nk⟩;have hsz5:=Lm.size;have hsz6:=Nk.size;have Ns:=mC (Mb.out.below Nk) (base':=M) (fun g hg=>by have:=(eo Mb.out hg).1;omega);have ho1':∀b,ey (.slice p1 c.locals.length q1) b ->b≠g:=fun b hb=>by have:=(eo Mb.out hb).1;omega
 have ho2':∀b,ey v2 b ->b≠g:=fun b hb=>by have:=(eo KB hb).1;omega
 have ho2'':=mC KB (base':=M) (fun g hg=>by have:=(eo KB hg).1;omega);obtain⟨p2,q2,rfl,_,_,_⟩:=KB.fD mQ;have hb56:=Lm.trans (Nk.mono (by omega));have OM:dS (fun _=>False) wr w6:=(dS.dV MB).trans (dS.dV (S:=fun _=>False) hb56) (fun i h=> .inl h);have hS6:=HS.out.keeps (dS.dV (S:=fun _=>False) hb56) ⟨hBl,fun h=>h⟩ ⟨PR,fun h=>h⟩;have hof6:=HOFR.out.keeps OM (fun _ _ h=>h);have c2:w6.cell? ⟨g,k*5+2,none⟩=some (.slice au c.locals.length Kr):=(OM.cell (p:=⟨g,k*5+2,none⟩) MQ (fun h=>h)).trans HC2.out;have c4:w6.cell? ⟨g,k*5+4,none⟩=some (.slice ax c.labels.length Lr):=(OM.cell (p:=⟨g,k*5+4,none⟩) MQ (fun h=>h)).trans HC4.out;have hg6:w6.heap[g]?=some (.cells cur 40):=(OM.block g MQ (fun h=>h)).trans HG3.out;have z2:w6.frozen? ⟨g,k*5+2,none⟩=false:=cZ w6 g _ cur _ hg6;have hgl6:g < w6.heap.size:=by omega
 have Mb:=V Ns;have HO1':=V ho1';have Ld:=V ho2'';have HO2':=V ho2';have HOF6:=V hof6;have HK6:=V OM;clear Ns ho1' KB ho2' ho2'' hof6 OM Lm Nk hb56 MB;go_wp2_with fail;refine⟨hS6,?_⟩;iterate 2 (first | (apply sk rfl rfl;simp only [pt]) | (apply dT rfl rfl rfl;·(rintro w' ⟨t0,t1,t2⟩;go_wp2;exact⟨rfl,rfl,rfl⟩)))
 refine dZ rfl rfl ?_;go_wp2_with fail;have hk67:=iS w6 g (k*5+2) (.slice p1 c.locals.length q1);have hS7:=hS6.keeps hk67 ⟨by omega,fun h=>hgB h⟩ ⟨by omega,fun h=>by omega⟩;have hof7:=HOF6.out.set ix (i:=k) (j:=2) (u:= .slice p1 c.locals.length q1) (y:=(c,(.slice p1 c.locals.length q1, .slice ax c.labels.length Lr))) HZZ.out (by omega) rfl;have hg7:(w6.setCell ⟨g,k*5+2,none⟩ (.slice p1 c.locals.length q1)).heap[g]?=some (.cells (cur.setIfInBounds (k*5+2) (.slice p1 c.locals.length q1)) 40):=heap_setCell_same w6 g _ cur _ _ hg6;have hzz:((s.ef.zip ON).set k (c,(.slice p1 c.locals.length q1, .slice ax c.labels.length Lr)))[k]?=some (c,(.slice p1 c.locals.length q1, .slice ax c.labels.length Lr)):=by
  rw [List.getElem?_set_self (aL.1 HZZ.out).1]
 have c4':=hof7.cell ix (j:=4) hzz rfl;have ND:=hof7.set ix (i:=k) (j:=4) (u:= .slice p2 c.labels.length q2) (y:=(c,(.slice p1 c.locals.length q1, .slice p2 c.labels.length q2))) hzz (by omega) rfl;rw [List.set_set,BF _ _ _ _ _ HE.out]at ND;generalize w6.setCell ⟨g,k*5+2,none⟩ (.slice p1 c.locals.length q1)=w7 at hk67 hS7 hg7 c4' ND⊢;have z4:w7.frozen? ⟨g,k*5+4,none⟩=false:=cZ w7 g _ _ _ hg7;have hk78:=iS w7 g (k*5+4) (.slice p2 c.labels.length q2);have hs67:=hk67.size;have hS8:=hS7.keeps hk78 ⟨by omega,fun h=>hgB h⟩ ⟨by omega,fun h=>by omega⟩;have HOF8:=V ND;clear ND hof7 hzz c2 c4 z2 hg6 hg7;refine⟨hS7,?_⟩;iterate 2 (first | (apply sk rfl rfl;simp only [pt]) | (apply dT rfl rfl rfl;·(rintro w' ⟨t0,t1,t2⟩;go_wp2;exact⟨rfl,rfl,rfl⟩)))
 refine dZ rfl rfl ?_;go_wp2_with fail;refine⟨hS8,?_⟩;refine eH ?_;refine aD ?_;have hk68:=hk67.trans hk78 (fun i h=> .inl h);have hkr8:dS (ey (.slice (some ⟨g,0,none⟩) s.ef.length LU)) wr _:=(HK6.out.mono (fun i h=>h.elim)).trans hk68 (fun i h=> .inl (by subst h;rfl));generalize w7.setCell ⟨g,k*5+4,none⟩ (.slice p2 c.labels.length q2)=w8 at HOF8 hk68 hkr8⊢;clear hS8 hS7 hS6 z4 c4' hk67 hk78;go_wp2_with fail;refine HR.out _ _ ⟨ON.set k (.slice p1 c.locals.length q1, .slice p2 c.labels.length q2),k+1,rfl,by omega,OZ.out.trans hkr8 (fun i h=> .inl h),by simpa using Nh,HOF8.out,fun i f u hi hf hu=>?_,fun i hi=>?_⟩ ?_
 ·rcases bq i k with hik | hik
  ·rw [List.getElem?_set_ne (by omega)]at hu
   obtain⟨q1,q2⟩:=HOLD.out i f u hik hf hu;exact⟨q1.keeps hkr8 (fun b hb=>q1.ne HOFR.out (by decide) b hb),q2.keeps hkr8 (fun b hb=>q2.ne HOFR.out (by decide) b hb)⟩
  ·obtain rfl:i=k:=by omega
   rw [List.getElem?_set_self (by omega)]at hu;injection hu with hu;subst hu;rw [HE.out]at hf;injection hf with hf;subst hf;exact⟨mm Mb.out hk68 (fun b hb=>HO1'.out b hb),mm Ld.out hk68 (fun b hb=>HO2'.out b hb)⟩
 ·rw [List.getElem?_set_ne (by omega)]
  exact HNEW.out i (by omega)
 ·simp [intOf]
  omega
end Go.Proofs.YthbjdhjppbcneaaGreatDoor
