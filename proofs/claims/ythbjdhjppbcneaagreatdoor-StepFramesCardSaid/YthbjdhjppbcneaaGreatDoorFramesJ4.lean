import Derived.Test.YthbjdhjppbcneaaGreatDoorFramesJ3
namespace Go.Proofs.YthbjdhjppbcneaaGreatDoor
set_option maxRecDepth 100000
set_option maxHeartbeats 20000000
open Go.RowKit Tryz
open Lib renaming hid->V
set_option linter.all false
def rW (P:Program) (ops:Array Oper) (Q:Exit ->Act ->World ->Prop) (S:World ->Prop) (d:Nat):Nat ->Array Bool ->Act ->World ->Prop
 | 0,listed,a,w=>Region.ready .any ops listed=[]/\Q .normal a w
 | fuel+1,listed,a,w=>
  (Region.ready .any ops listed=[] ->Q .normal a w)/\
  ∀i∈Region.ready .any ops listed,wpOp P ops Q i (fun a' w'=>(i=d ->wpAny P .any ops Q fuel (listed.setIfInBounds i true) a' w')/\(i≠d ->S w'/\rW P ops Q S d fuel (listed.setIfInBounds i true) a' w')) a w
theorem tT {P:Program} {ops:Array Oper} {Q:Exit ->Act ->World ->Prop} {S:World ->Prop} {d:Nat}:∀(fuel:Nat) (listed:Array Bool) (a:Act) (w:World),rW P ops Q S d fuel listed a w ->wpAny P .any ops Q fuel listed a w
 | 0,_,_,_,h=>h
 | fuel+1,_,_,_,h=>⟨h.1,fun i hi=>wpOp_mono (fun a' w' h'=>by
   by_cases hd:i=d
   ·exact h'.1 hd
   ·exact tT fuel _ a' w' (h'.2 hd).2) (h.2 i hi)⟩
def blocked (ops:Array Oper) (listed:Array Bool) (i:Nat) (K:List Nat):Bool:=
 K.all fun k=>(listed.getD k true==false)&& !(k==i)&&(match ops[k]? with | some o=>o.after.any (fun e=>Region.binds .any e&&(e.on==i || K.contains e.on)) | none=>false)
def IL (ops:Array Oper) (listed:Array Bool) (i:Nat):List Nat:=
 Nat.repeat (fun K=>K.filter fun k=>match ops[k]? with | some o=>o.after.any (fun e=>Region.binds .any e&&(e.on==i || K.contains e.on)) | none=>false) ops.size
  ((List.range ops.size).filter fun k=> !(k==i)&&(listed.getD k true==false))
theorem qg {listed:Array Bool} {i:Nat} (h:listed.getD i true=false):listed.getD i false=false:=by
 rcases bC i listed.size with h' | h'
 ·simp [h']at h⊢;exact h
 ·simp [Array.getElem?_eq_none h']at h
theorem oP {ops:Array Oper} {listed:Array Bool} {i:Nat} {K:List Nat} (hb:blocked ops listed i K=true) (hi:listed.getD i true=false) {k:Nat} (hk:k∈K):k≠i/\k∉Region.ready .any ops listed:=by
 simp only [blocked,List.all_eq_true]at hb;have h1:=hb k hk;simp only [bM,dE,dQ,dG]at h1;obtain⟨⟨h2,h3⟩,h4⟩:=h1;refine⟨h3,fun hr=>?_⟩;obtain⟨_,o,ho,KU⟩:=mem_ready.1 hr;rw [ho]at h4;obtain⟨e,he,P2⟩:=Array.any_eq_true'.1 h4;simp only [bM,Bool.or_eq_true,dE]at P2;have h5:=KU e he P2.1;rcases P2.2 with h6 | h6
 ·rw [h6,qg hi]at h5
  cases h5
 ·have h7:=hb e.on (by simpa using h6)
  simp only [bM,dE]at h7;rw [qg h7.1.1]at h5;cases h5
theorem yO {ops:Array Oper} {listed:Array Bool} {i j:Nat} {K:List Nat} (hb:blocked ops listed i K=true) (hj:j∉K):blocked ops (listed.setIfInBounds j true) i K=true:=by
 simp only [blocked,List.all_eq_true]at hb⊢;intro k hk;have h1:=hb k hk;have hjk:j≠k:=fun h=>hj (by rw [h];exact hk);rw [getD_set_ne true hjk];exact h1
theorem qL {P:Program} {ops:Array Oper} {Q:Exit ->Act ->World ->Prop} {S:World ->Prop} {d i:Nat} {oi:Oper} {v:Value} {K:List Nat} (hd:d∈K) (hi:ops[i]?=some oi) (hsel:∀(j:Nat) (o:Oper) cs b,ops[j]?=some o ->o.op≠ .select cs b)
  (hQ:∀c a w,¬ Q (.panic c) a w):
  ∀(fuel:Nat) (listed:Array Bool) (a:Act) (w:World),
   (∀j oj,ops[j]?=some oj ->j≠i ->listed.getD j true=false ->(∀e∈oj.after,Region.binds .any e=true ->e.on≠i) ->oi.apart ops oj=true) ->
   i∈Region.ready .any ops listed ->blocked ops listed i K=true ->YieldsIf P ops S oi v a ->S w ->
   rW P ops Q S d fuel (listed.setIfInBounds i true) (a.put oi.dst v) w ->rW P ops Q S d (fuel+1) listed a w:=by
 intro fuel
 induction fuel with
 | zero=>
  intro listed a w _ hr hb hy hS H;refine⟨fun h=>(by rw [h]at hr;cases hr),fun j hj=>?_⟩;have hdi:=(oP hb (mem_ready.1 hr).1 hd).1;by_cases hji:j=i
  ·subst hji;exact hy.wpOp hi hS ⟨fun h=>absurd h.symm hdi,fun _=>⟨hS,H⟩⟩
  ·have:=ready_mono hj hji
   rw [H.1]at this;cases this
 | succ fuel ih=>
  intro listed a w hfree hr hb hy hS H;refine⟨fun h=>(by rw [h]at hr;cases hr),fun j hj=>?_⟩;have hdi:=(oP hb (mem_ready.1 hr).1 hd).1;by_cases hji:j=i
  ·subst hji;exact hy.wpOp hi hS ⟨fun h=>absurd h.symm hdi,fun _=>⟨hS,H⟩⟩
  ·have hjK:j∉K:=fun h=>(oP hb (mem_ready.1 hr).1 h).2 hj
   have hjd:j≠d:=fun h=>hjK (h▸hd);have h1:=wpOp_mono (fun a' w' h=>h.2 hjd) (H.2 j (ready_mono hj hji));obtain⟨hjun,oj,hoj,KU⟩:=mem_ready.1 hj;have Lz:∀e∈oj.after,Region.binds .any e=true ->e.on≠i:=fun e he hb heq=>by
    have h1:=KU e he hb;have h0:=(mem_ready.1 hr).1;rw [heq,qg h0]at h1;cases h1
   have h2:=wpOp_putIf hoj (hfree j oj hoj hji hjun Lz) (fun cs b=>hsel i oi cs b hi) (fun cs b=>hsel j oj cs b hoj) (fun c a w h=>(hQ _ _ _ h).elim) hy h1;have hfree':∀k ok,ops[k]?=some ok ->k≠i ->(listed.setIfInBounds j true).getD k true=false ->
     (∀e∈ok.after,Region.binds .any e=true ->e.on≠i) ->oi.apart ops ok=true:=fun k ok hk hki hun NW=>by
    refine hfree k ok hk hki ?_ NW;by_cases hjk:j=k
    ·subst hjk;exact hjun
    ·rw [getD_set_ne true hjk]at hun;exact hun
   refine wpOp_mono (fun a' w' h3=>⟨fun h=>absurd h hjd,fun _=>⟨h3.2.1,ih (listed.setIfInBounds j true) a' w' hfree' (ready_mono hr (Ne.symm hji)) (yO hb hjK) h3.1 h3.2.1 ?_⟩⟩) h2;rw [Array.setIfInBounds_comm _ _ hji];exact h3.2.2
def zH (P:Program) (ops:List Oper) (Q:Exit ->Act ->World ->Prop) (d:Nat):Exit ->Act ->World ->Prop
 | .normal,a,w=>∃o,nth ops d=some o/\
   ((kW ops o.guard a=true/\wpList P #[] (oD Q (fun _=>True) (Q .normal)) [bare o] a w)\/(kW ops o.guard a=false/\Q .normal (a.put o.dst undef) w))
 | e,a,w=>Q e a w
def qx (ops:Array Oper) (d:Nat):List (Nat × Bool) ->Array Bool ->Bool
 | [],listed=>(Region.ready .any ops listed==[d])&&(Region.ready .any ops (listed.setIfInBounds d true)).isEmpty
 | (i,true)::rest,listed=>(ops[i]?.any fun o=>isVal o.op)&&(Region.ready .any ops listed).contains i&&Region.free .any ops listed i&&blocked ops listed i (IL ops listed i)&&(IL ops listed i).contains d&&qx ops d rest (listed.setIfInBounds i true)
 | (i,false)::rest,listed=> !(i==d)&&(Region.ready .any ops listed==[i])&&qx ops d rest (listed.setIfInBounds i true)
theorem Dm {P:Program} {ops:Array Oper} {Q Q':Exit ->Act ->World ->Prop} {i:Nat} {K:Act ->World ->Prop} {a:Act} {w:World} (hp:∀c a w,Q (.panic c) a w ->Q' (.panic c) a w) (hl:LetsOut Q ->LetsOut Q') (h:wpOp P ops Q i K a w):wpOp P ops Q' i K a w:=by
 unfold wpOp at*;split
 ·rename_i ho
  simp only [ho]at h;exact h
 ·rename_i o ho
  simp only [ho]at h;split
  ·rename_i hw
   simp only [hw,cX]at h;rcases h with h | ⟨h1,h2⟩
   ·left
    unfold Oper.wp at*;generalize(execOp a.eval o).run P w=r at*;cases r with
    | ok n w'=>
     cases n <;>simp only [Oper.upon]at h⊢
     case value=>exact h
     case skip=>exact h
     case defer=>exact h
     case enter=>
      refine bV h fun e w'' he=>?_;cases e with
      | returned v=>exact he
      | panicked c=>exact hp _ _ _ he
      | outgrown=>exact hl he
     case row=>exact Rows.mono h fun _ _ he=>he
    | halt x w'=>
     cases x <;>simp only [Oper.upon]at h⊢
     case panic=>exact hp _ _ _ h
   ·exact .inr ⟨h1,hl h2⟩
  ·rename_i hw
   simp only [hw]at h;exact h
theorem nj {P:Program} {ops:Array Oper} {Q:Exit ->Act ->World ->Prop} {S:World ->Prop} {d:Nat} (hQ:∀c a w,¬ Q (.panic c) a w) (hs:Region.noSelect ops=true):
  ∀(l:List (Nat × Bool)) (fuel:Nat) (listed:Array Bool) (a:Act) (w:World),l.length+1 <=fuel ->qx ops d l listed=true ->S w ->
   iX P ops.toList (zH P ops.toList Q d) S l a w ->rW P ops Q S d fuel listed a w
 | l,0,_,_,_,hl,_,_,_=>by omega
 | [],fuel+1,listed,a,w,_,KF,_,h=>by
  simp only [qx,bM,dE,List.isEmpty_iff]at KF;refine⟨fun h0=>(by rw [KF.1]at h0;cases h0),fun j hj=>?_⟩;rw [KF.1]at hj;obtain rfl:j=d:=by simpa using hj
  have h2:=mU (S:=fun _=>True) (K:=Q .normal) (K':=Q .normal) (Q:=Q) (ops:=ops) (j:=j) trivial (fun a w _ h=>h) h;refine wpOp_mono (fun a' w' h3=>⟨fun _=>?_,fun h=>absurd rfl h⟩) h2;cases fuel with
  | zero=>exact⟨KF.2,h3.2⟩
  | succ f=>exact⟨fun _=>h3.2,by rw [KF.2];simp⟩
 | (i,true)::rest,fuel+1,listed,a,w,hl,KF,hS,h=>by
  simp only [qx,bM]at KF;obtain⟨⟨⟨⟨⟨hv,hr⟩,hf⟩,Lm⟩,hkd⟩,Lu⟩:=KF;have hkd:d∈IL ops listed i:=by simpa using hkd
  simp only [aI]at hl;obtain⟨o,ho,h⟩:=h;rw [ou,cA]at ho;rw [ho]at hv;simp only [Option.any_some]at hv;rcases h with⟨hg,d',hd,hds,a',hp,hk⟩ | ⟨hg,hk⟩
  ·refine qL (v:=a'.tmps.getD d' undef) hkd ho (Region.noSelect_spec hs) hQ fuel listed a w (Region.free_spec ho hf) (by simpa using hr) Lm (.inl ⟨by rw [mr];exact hg,fun w' hw'=>?_⟩) hS ?_
   ·rcases ml (hp w' hw')with h1 | ⟨_,h2⟩
    ·unfold Oper.wp at h1
     rw [iL]at h1;rcases mB (P:=P) (ρ:=a.eval) hv w' with⟨v,w2,KH⟩ | ⟨x,w2,KH⟩
     ·rw [KH]at h1⊢
      obtain⟨_,h3,h4⟩:=h1;subst h4;subst h3;have:(bare o).dst=some d':=hd;rw [this];simp [Act.put,hds]
     ·rw [KH]at h1
      cases x <;>simp only [Oper.upon]at h1
      case panic=>exact absurd h1.1 (by simp)
    ·obtain⟨_,_,h3,_⟩:=h2
     exact absurd h3 (by simp)
   ·have ha:a.put o.dst (a'.tmps.getD d' undef)=a':=by
     rcases ml (hp w hS)with h1 | ⟨_,h2⟩
     ·unfold Oper.wp at h1
      rw [iL]at h1;rcases mB (P:=P) (ρ:=a.eval) hv w with⟨v,w2,KH⟩ | ⟨x,w2,KH⟩
      ·rw [KH]at h1
       obtain⟨_,h3,h4⟩:=h1;have hd':(bare o).dst=some d':=hd;rw [<- h3,hd',hd];simp [Act.put,hds]
      ·rw [KH]at h1
       cases x <;>simp only [Oper.upon]at h1
       case panic=>exact absurd h1.1 (by simp)
     ·obtain⟨_,_,h3,_⟩:=h2
      exact absurd h3 (by simp)
    rw [ha];exact nj hQ hs rest fuel _ _ _ (by omega) Lu hS hk
  ·refine qL (v:=undef) hkd ho (Region.noSelect_spec hs) hQ fuel listed a w (Region.free_spec ho hf) (by simpa using hr) Lm (.inr ⟨by rw [mr];exact hg,rfl⟩) hS ?_
   exact nj hQ hs rest fuel _ _ _ (by omega) Lu hS hk
 | (i,false)::rest,fuel+1,listed,a,w,hl,KF,hS,h=>by
  simp only [qx,bM,dE,dQ,dG]at KF;obtain⟨⟨V,hr⟩,Lu⟩:=KF;simp only [aI]at hl;refine⟨fun h0=>(by rw [hr]at h0;cases h0),fun j hj=>?_⟩;rw [hr]at hj;obtain rfl:j=i:=by simpa using hj
  have hlq:LetsOut (zH P ops.toList Q d) ->LetsOut Q:=fun⟨a,w,h⟩=>⟨a,w,h⟩;have h2:=mU (S:=S) (Q:=zH P ops.toList Q d) (K':=rW P ops Q S d fuel (listed.setIfInBounds j true)) (ops:=ops) (j:=j) hS (fun a w hS h=>nj hQ hs rest fuel _ a w (by omega) Lu hS h) h;exact Dm (fun c a w h=>h) hlq (wpOp_mono (fun a' w' h3=>⟨fun h=>absurd h V,fun _=>h3⟩) h2)
theorem eO {P:Program} {ops:List Oper} {Q:Exit ->Act ->World ->Prop} {id:Nat} {a:Act} {w:World} (S:World ->Prop) (d:Nat) (l:List (Nat × Bool)) (hm:P.follows .mixedOrders=true)
  (KF:(qx ops.toArray d l (Array.replicate ops.length false)&&Region.noSelect ops.toArray&&decide (l.length+1 <=ops.length))=true) (hS:S w.drew)
  (h:iX P ops (zH P ops (NoPanic Q) d) S l a w.drew):(Code.region id ops.toArray true).wp P Q a w:=by
 simp only [bM,dm]at KF;obtain⟨⟨KF,hn⟩,hl⟩:=KF;refine wp_region_noPanic (wp_region_any hm (tT (S:=S) (d:=d) _ _ _ _ ?_));refine nj (S:=S) (fun c a w h=>h) hn l _ _ a _ ?_ ?_ hS ?_
 ·simpa using hl
 ·simpa using KF
 ·simpa using h
theorem fG {P:Program} {ops:List Oper} {Q:Exit ->Act ->World ->Prop} {S:World ->Prop} {d:Nat} {a:Act} {w:World} {op:Op} {t:TypeId} {p:String} {af:Array Edge} {g:Option (Nat × Bool)} {dst:Option Tmp}
  (hi:nth ops d=some ⟨dst,op,t,p,af,g⟩) (hg:kW ops g a=true) (h:wpList P #[] (oD Q (fun _=>True) (Q .normal)) [⟨dst,op,t,p,#[],none⟩] a w):iX P ops (zH P ops Q d) S [] a w:=
 ⟨_,hi, .inl ⟨hg,h⟩⟩
theorem yk (c d:eV) (u x u2 x2:Value) (w:World) (hu:eg 2 gb w u c.locals) (hx:eg 2 kp w x c.labels) (MG:eg 2 gb w u2 d.locals) (N4:eg 2 kp w x2 d.labels):
  Calls prog 131 #[.agg #[.int .i64 c.fn, .int .i64 c.pc,u, .int .i64 c.base,x], .agg #[.int .i64 d.fn, .int .i64 d.pc,u2, .int .i64 d.base,x2]] w
   (fun e w'=>∃r:Bool,e= .returned (.bool r)/\(r=true↔c=d)/\Below w.heap.size w w'):=by
 have HU:=V hu;have HV:=V hx;have OK:=V MG;have NG:=V N4;obtain⟨au,KD,rfl,_,_,_⟩:=hu;obtain⟨ax,LF,rfl,_,_,_⟩:=hx;obtain⟨PC,Ot,rfl,_,_,_⟩:=MG;obtain⟨ax2,Ou,rfl,_,_,_⟩:=N4;have hb:Below w.heap.size w ((w.alloc (.cells #[.int .i64 c.fn, .int .i64 c.pc, .slice au c.locals.length KD, .int .i64 c.base, .slice ax c.labels.length LF] 40)).alloc (.cells #[.int .i64 d.fn, .int .i64 d.pc, .slice PC d.locals.length Ot, .int .i64 d.base, .slice ax2 d.labels.length Ou] 40)):=
  ((an w.heap.size w).alloc (ag _) _).alloc (by simp) _
 have LY:eG ((w.alloc (.cells #[.int .i64 c.fn, .int .i64 c.pc, .slice au c.locals.length KD, .int .i64 c.base, .slice ax c.labels.length LF] 40)).alloc (.cells #[.int .i64 d.fn, .int .i64 d.pc, .slice PC d.locals.length Ot, .int .i64 d.base, .slice ax2 d.labels.length Ou] 40)) w.heap.size #[.int .i64 c.fn, .int .i64 c.pc, .slice au c.locals.length KD, .int .i64 c.base, .slice ax c.labels.length LF] 40:=(eG.new w _ _).alloc _;have Nf:eG ((w.alloc (.cells #[.int .i64 c.fn, .int .i64 c.pc, .slice au c.locals.length KD, .int .i64 c.base, .slice ax c.labels.length LF] 40)).alloc (.cells #[.int .i64 d.fn, .int .i64 d.pc, .slice PC d.locals.length Ot, .int .i64 d.base, .slice ax2 d.labels.length Ou] 40)) (w.heap.size+1) #[.int .i64 d.fn, .int .i64 d.pc, .slice PC d.locals.length Ot, .int .i64 d.base, .slice ax2 d.labels.length Ou] 40:=by
  have:=eG.new (w.alloc (.cells #[.int .i64 c.fn, .int .i64 c.pc, .slice au c.locals.length KD, .int .i64 c.base, .slice ax c.labels.length LF] 40)) #[.int .i64 d.fn, .int .i64 d.pc, .slice PC d.locals.length Ot, .int .i64 d.base, .slice ax2 d.labels.length Ou] 40;rw [aE]at this;exact this
 go_enter func131,ntmps131;by_cases q1:c.fn=d.fn;rotate_left
 ·have f1:=dS q1
  have HX:=V (show c.fn≠d.fn from q1);clear q1;go_wp2_with fail;go_ret;exact⟨false,rfl,⟨fun h=>(by cases h),fun h=>(HX.out (by rw [h])).elim⟩,hb⟩
 have f1:=eH q1;have Q1:=V q1;clear q1;by_cases q2:c.pc=d.pc;rotate_left
 ·have f2:=dS q2
  have HX:=V (show c.pc≠d.pc from q2);clear q2;go_wp2_with fail;go_ret;exact⟨false,rfl,⟨fun h=>(by cases h),fun h=>(HX.out (by rw [h])).elim⟩,hb⟩
 have f2:=eH q2;have Q2:=V q2;clear q2;by_cases q3:c.base=d.base;rotate_left
 ·have f3:=dS q3
  have HX:=V (show c.base≠d.base from q3);clear q3;go_wp2_with fail;go_ret;exact⟨false,rfl,⟨fun h=>(by cases h),fun h=>(HX.out (by rw [h])).elim⟩,hb⟩
 have f3:=eH q3;have Q3:=V q3;clear q3;go_wp2_with fail;refine(sA _ _ c.locals d.locals _ (HU.out.below (hb.mono (ag _))) (OK.out.below (hb.mono (ag _)))).mono ?_;rintro y w2 ⟨r,rfl,hr,Kx⟩;have Nh:=LY.below Kx LY.lt;have hby2:=Nf.below Kx Nf.lt;have KT:=hb.trans (Kx.mono hb.size);have MH:=V hr;obtain⟨x0,x1,x2,x3,x4⟩:=Nh.rY;obtain⟨y0,y1,y2,y3,y4⟩:=hby2.rY;clear hr Kx LY Nf hb Nh hby2;cases r with
 | false=>
  go_wp2_with fail;go_ret;refine⟨false,rfl,⟨fun h=>(by cases h),fun h=>?_⟩,KT⟩;have g:=MH.out.2 (by rw [h]);simp at g
 | true=>
  go_wp2_with fail;refine(xh _ _ c.labels d.labels _ (HV.out.below (KT.mono (ag _))) (NG.out.below (KT.mono (ag _)))).mono ?_;rintro y w3 ⟨r2,rfl,ND,K9⟩;have hb'':=KT.trans (K9.mono KT.size);have Ov:=V ND;clear ND K9 KT x0 x1 x2 x3 x4 y0 y1 y2 y3 y4;go_wp2_with fail;go_ret;refine⟨r2,rfl,⟨fun h=>?_,fun h=>Ov.out.2 (by rw [h])⟩,hb''⟩;have g:=MH.out.1 (by simp);have g':=Ov.out.1 h;obtain⟨p0,p1,p2,p3,p4⟩:=c;obtain⟨s0,s1,s2,s3,s4⟩:=d;have g1:=Q1.out;have g2:=Q2.out;have g3:=Q3.out;simp only at g g' g1 g2 g3;rw [g,g',g1,g2,g3]
theorem yv (va vb:Value) (la lb:List eV) (w:World) (ha:fY w va la) (hb:fY w vb lb):
  Calls prog 130 #[va,vb, .func (.func 131) #[] #[]] w (pa la lb w):=by
 have HA:=V ha;have HB:=V hb;obtain⟨a,cap,rfl,h1,h2⟩:=ha.slice;obtain⟨a2,KA,rfl,h3,h4⟩:=hb.slice;clear ha hb;by_cases hlen:la.length=lb.length;rotate_left
 ·have f1:(((la.length:Int)) !=((lb.length:Int)))=true:=ff (by omega)
  have HL:=V hlen;clear hlen;go_enter func130,ntmps130;go_wp2_with fail;go_ret;exact⟨false,rfl,⟨fun h=>(by cases h),fun h=>absurd (cV List.length h) HL.out⟩,an _ _⟩
 rw [<- hlen]at h3 HB⊢;have HL:=V hlen;clear hlen;go_enter func130,ntmps130;go_wp2_with fail;refine eB (fun a' w'=>∃(k:Nat),a'=fr (.slice a la.length cap:: .slice a2 la.length KA:: .func (.func 131) #[] #[]::gs a' 3 12 (.slice a la.length cap:: .int .i64 la.length:: .int .i64 k::gs a' 18 14 []))/\zA la lb w w' k) (fun a' _=>(la.length - (intOf (a'.tmps.getD 17 undef)).toNat)) ?_ ?_
 ·exact⟨0,rfl,by omega,rfl,an _ _⟩
 ·skip
  rintro R a' w1 ⟨k,Kw,hJ⟩ HR;dsimp only [fr,gs]at Kw;generalize slot a'=f at Kw;subst Kw;obtain⟨hk,Oa,hb⟩:=hJ;have HT:=V Oa;clear Oa;by_cases Ls:k < la.length;rotate_left
  ·obtain rfl:k=la.length:=by omega
   go_wp2_with fail;go_ret;refine⟨true,rfl,⟨fun _=>?_,fun _=>rfl⟩,hb⟩;have:=HT.out;rw [aU,HL.out,aU]at this;exact this
  obtain⟨c,he⟩:∃e,la[k]?=some e:=⟨_,aq Ls⟩;obtain⟨d,hd⟩:∃d,lb[k]?=some d:=⟨_,aq (by have:=HL.out;omega)⟩;obtain⟨b,off,u,x,rfl,KC,⟨c0,c1,c2,c3,c4⟩,hu,hx,-⟩:=(HA.out.below (hb.mono (ag _))).get he;obtain⟨b2,KZ,u2,x2,rfl,Mk,⟨d0,d1,d2,d3,d4⟩,MG,N4,-⟩:=(HB.out.below (hb.mono (ag _))).get hd;have HU:=V hu;have HV:=V hx;have OK:=V MG;have NG:=V N4;obtain⟨au,KD,rfl,_,_,_⟩:=hu;obtain⟨ax,LF,rfl,_,_,_⟩:=hx;obtain⟨PC,Ot,rfl,_,_,_⟩:=MG;obtain⟨ax2,Ou,rfl,_,_,_⟩:=N4;have HE:=V he;have HD:=V hd;clear he hd;have MM:Below w1.heap.size w1 (w1.alloc (.cells #[.int .i64 c.fn, .int .i64 c.pc, .slice au c.locals.length KD, .int .i64 c.base, .slice ax c.labels.length LF] 40)):=(an w1.heap.size w1).alloc (ag _) _;have L9:Below w1.heap.size w1 ((w1.alloc (.cells #[.int .i64 c.fn, .int .i64 c.pc, .slice au c.locals.length KD, .int .i64 c.base, .slice ax c.labels.length LF] 40)).alloc (.cells #[.int .i64 d.fn, .int .i64 d.pc, .slice PC d.locals.length Ot, .int .i64 d.base, .slice ax2 d.labels.length Ou] 40)):=MM.alloc (by simp) _;have e0:=(MM.cell (p:=⟨b2,KZ+k*5,none⟩) Mk).trans d0;have e1:=(MM.cell (p:=⟨b2,KZ+k*5+1,none⟩) Mk).trans d1;have e2:=(MM.cell (p:=⟨b2,KZ+k*5+2,none⟩) Mk).trans d2;have e3:=(MM.cell (p:=⟨b2,KZ+k*5+3,none⟩) Mk).trans d3;have e4:=(MM.cell (p:=⟨b2,KZ+k*5+4,none⟩) Mk).trans d4;go_wp2_with fail;refine(yk c d _ _ _ _ _ (HU.out.below L9) (HV.out.below L9) (OK.out.below L9) (NG.out.below L9)).mono ?_;rintro y w2 ⟨r,rfl,hr,Kx⟩;replace hb:=hb.trans ((L9.trans (Kx.mono L9.size)).mono hb.size);clear Kx L9 MM c0 c1 c2 c3 c4 d0 d1 d2 d3 d4 e0 e1 e2 e3 e4;have MH:=V hr;clear hr;cases r with
  | false=>
   go_wp2_with fail;go_ret;refine⟨false,rfl,⟨fun h=>(by cases h),fun h=>?_⟩,hb⟩;have h1:=HE.out;rw [h,HD.out]at h1;injection h1 with h1;exact MH.out.2 h1.symm
  | true=>
   go_wp2_with fail;refine HR.out _ _ ⟨k+1,rfl,by omega,?_,hb⟩ ?_
   ·rw [aQ,aQ,HT.out,HE.out,HD.out,MH.out.1 (by simp)]
   ·simp [intOf]
    omega
theorem sg (uv uf uv2 uf2:Value) (s t:gL) (w:World) (hs:jA w uv uf s) (ht:jA w uv2 uf2 t):
  Calls prog 81 #[.agg #[uv,uf, .int .i64 s.asks], .agg #[uv2,uf2, .int .i64 t.asks]] w
   (fun e w'=>∃r:Bool,e= .returned (.bool r)/\(r=true↔s=t)/\Below w.heap.size w w'):=by
 obtain⟨hv,hf,-⟩:=hs;obtain⟨Mf,hf2,-⟩:=ht;have HV:=V hv;have HF:=V hf;have NG:=V Mf;have HF2:=V hf2;obtain⟨av,KX,rfl,_,_,_⟩:=hv;obtain⟨af,Ml,rfl,_,_⟩:=hf.slice;obtain⟨Pd,NP,rfl,_,_,_⟩:=Mf;obtain⟨af2,NQ,rfl,_,_⟩:=hf2.slice;clear hf hf2;have hb:Below w.heap.size w ((w.alloc (.cells #[.slice av s.dZ.length KX, .slice af s.eh.length Ml, .int .i64 s.asks] 37)).alloc (.cells #[.slice Pd t.dZ.length NP, .slice af2 t.eh.length NQ, .int .i64 t.asks] 37)):=
  ((an w.heap.size w).alloc (ag _) _).alloc (by simp) _
 have LY:eG ((w.alloc (.cells #[.slice av s.dZ.length KX, .slice af s.eh.length Ml, .int .i64 s.asks] 37)).alloc (.cells #[.slice Pd t.dZ.length NP, .slice af2 t.eh.length NQ, .int .i64 t.asks] 37)) w.heap.size #[.slice av s.dZ.length KX, .slice af s.eh.length Ml, .int .i64 s.asks] 37:=(eG.new w _ _).alloc _;have Nf:eG ((w.alloc (.cells #[.slice av s.dZ.length KX, .slice af s.eh.length Ml, .int .i64 s.asks] 37)).alloc (.cells #[.slice Pd t.dZ.length NP, .slice af2 t.eh.length NQ, .int .i64 t.asks] 37)) (w.heap.size+1) #[.slice Pd t.dZ.length NP, .slice af2 t.eh.length NQ, .int .i64 t.asks] 37:=by
  have:=eG.new (w.alloc (.cells #[.slice av s.dZ.length KX, .slice af s.eh.length Ml, .int .i64 s.asks] 37)) #[.slice Pd t.dZ.length NP, .slice af2 t.eh.length NQ, .int .i64 t.asks] 37;rw [aE]at this;exact this
 go_enter func81,ntmps81;by_cases q1:s.asks=t.asks;rotate_left
 ·have f1:=dS q1
  have HX:=V (show s.asks≠t.asks from q1);clear q1;go_wp2_with fail;go_ret;exact⟨false,rfl,⟨fun h=>(by cases h),fun h=>(HX.out (by rw [h])).elim⟩,hb⟩
 have f1:=eH q1;have Q1:=V q1;clear q1;go_wp2_with fail;refine(sA _ _ s.dZ t.dZ _ (HV.out.below (hb.mono (ag _))) (NG.out.below (hb.mono (ag _)))).mono ?_;rintro y w2 ⟨r,rfl,hr,Kx⟩;have Nh:=LY.below Kx LY.lt;have hby2:=Nf.below Kx Nf.lt;have KT:=hb.trans (Kx.mono hb.size);have MH:=V hr;obtain⟨x0,x1,x2⟩:=Nh.three;obtain⟨y0,y1,y2⟩:=hby2.three;clear hr Kx LY Nf hb Nh hby2;cases r with
 | false=>
  go_wp2_with fail;go_ret;refine⟨false,rfl,⟨fun h=>(by cases h),fun h=>?_⟩,KT⟩;have g:=MH.out.2 (by rw [h]);simp at g
 | true=>
  go_wp2_with fail;refine(yv _ _ s.eh t.eh _ (HF.out.below (KT.mono (ag _))) (HF2.out.below (KT.mono (ag _)))).mono ?_;rintro y w3 ⟨r2,rfl,ND,K9⟩;have hb'':=KT.trans (K9.mono KT.size);have Ov:=V ND;clear ND K9 KT x0 x1 x2 y0 y1 y2;go_wp2_with fail;go_ret;refine⟨r2,rfl,⟨fun h=>?_,fun h=>Ov.out.2 (by rw [h])⟩,hb''⟩;have g:=MH.out.1 (by simp);have g':=Ov.out.1 h;obtain⟨p0,p1,p2⟩:=s;obtain⟨s0,s1,s2⟩:=t;have g1:=Q1.out;simp only at g g' g1;rw [g,g',g1]
def Hf (s:gL) (w:World) (e:Ending) (w':World):Prop:=
 ∃v,e= .returned v/\Below w.heap.size w w'/\((s.may/\dX w' w.heap.size v (iP s))\/(¬ s.may/\v= .slice none 0 0))
def tP (s:gL):List UInt8:=jI s.dZ++eP (s.asks+1).toNat++eP s.eh.length
def JM (s:gL) (w w':World) (v:Value) (k:Nat):Prop:=
 k <=s.eh.length/\dX w' (w.heap.size+1) v (tP s++hH (s.eh.take k))/\Below w.heap.size w w'
def Jj (L:List UInt8) (labs:List kR) (w w':World) (v:Value) (m:Nat):Prop:=
 m <=labs.length/\dX w' (w.heap.size+1) v (L++((labs.take m).map pj).flatten)/\Below w.heap.size w w'
theorem F4 {α:Type} {k:Nat} {enc:α ->List Value} {w:World} {a:Option Addr} {n cap:Nat} {l:List α} (h:eg k enc w (.slice a n cap) l):l≠[] ->∀ad,a=some ad ->ad.block < w.heap.size:=by
 obtain⟨a',KR,hv,_,_,hc⟩:=h;injection hv with e1 e2 e3;subst e1;intro Ma ad ha;obtain⟨x,xs,Qe⟩:=List.exists_cons_of_ne_nil Ma;obtain⟨b1,off1,g1,g2,_⟩:=hc 0 x (by rw [Qe];rfl);rw [ha]at g1;injection g1 with g1;rw [g1];exact g2
theorem mf (uv uf:Value) (s:gL) (w:World) (KS:jA w uv uf s):
  Calls prog 78 #[.agg #[uv,uf, .int .i64 s.asks]] w (Hf s w):=by
 have HS:=V KS;obtain⟨hv,hf,⟨o1,o2⟩,QN,Pr⟩:=id KS;obtain⟨av,KX,rfl,_,LC,_⟩:=id hv;obtain⟨af,Ml,rfl,_,Pq⟩:=hf.slice;unfold maxLen at LC;have HV:=V hv;have HF:=V hf;have HOV:=V QN;have Pe:=V Pr;clear hv hf QN Pr;have KW:Below w.heap.size w (w.alloc (.cells #[.slice av s.dZ.length KX, .slice af s.eh.length Ml, .int .i64 s.asks] 37)):=(an _ _).alloc (ag _) _;have hbx0:=eG.new w #[.slice av s.dZ.length KX, .slice af s.eh.length Ml, .int .i64 s.asks] 37;go_enter func78,ntmps78;go_wp2_with fail;refine(oB _ _ s _ (KS.below (KW.mono (ag _)))).mono ?_;rintro x w1 ⟨rfl,hbm⟩;have hbx1:=hbx0.below hbm (by simp);have KJ:=KW.trans (hbm.mono KW.size);have Qf:=hbm.size;simp only [aE]at Qf;clear hbm hbx0 KW KS;by_cases hm:s.may;rotate_left
 ·have hr:decide s.may=false:=az hm
  rw [hr];have HM:=V hm;clear hm hr;go_wp2_with fail;go_ret;exact⟨_,rfl,KJ, .inr ⟨HM.out,rfl⟩⟩
 have hr:decide s.may=true:=aA hm;rw [hr];have HM:=V hm;obtain⟨m1,m2,m3,m4,-,-⟩:=hm;clear hr;obtain⟨n0,L8⟩:∃n:Nat,s.asks+1=n:=⟨(s.asks+1).toNat,by omega⟩;have hn1:n0 <=10001:=by omega
 have HN:=V L8;obtain⟨x0,x1,x2⟩:=hbx1.three;clear L8;have hq:∀i,(⟨i,0,none⟩:Addr)=⟨i,0,none⟩:=fun _=>rfl;clear hq;have f0:s.asks+1=(n0:Int):=HN.out;go_wp2_with fail;refine ef (fun w'=>w'.cell? ⟨w.heap.size,0,none⟩=some (.slice av s.dZ.length KX)/\w'.cell? ⟨w.heap.size,1,none⟩=some (.slice af s.eh.length Ml)/\w'.cell? ⟨w.heap.size,2,none⟩=some (.int .i64 s.asks))
  ((0,true)::(1,true)::up 3 3 (up 7 3 ((2,false)::(6,false)::(10,false)::(11,true)::[]))) (by kernel_rfl) (by kernel_rfl) ⟨x0,x1,x2⟩ ?_
 clear x0 x1 x2;iterate 8 (first | (apply sk rfl rfl;simp only [pt]) | (apply dV rfl rfl rfl;·(rintro w' ⟨t0,t1,t2⟩;go_wp2;exact⟨rfl,rfl,rfl⟩)))
 refine ed rfl rfl ?_;go_wp2_with fail;have hnx1:¬ eA (.slice none 0 0) w.heap.size:=by simp [eA,Value.ownBlock]
 refine(sa (.slice none 0 0) [] _ s.dZ (w.heap.size+1) w1.drew (dX.nil _ _) (by simp) (by simp;omega) (HV.out.below (KJ.drew.mono (ag _))) HM.out.2.2.2.2.1 HOV.out (by omega) (fun _ i hi=>by simp [eA,Value.ownBlock]at hi)).mono ?_;rintro x w2 ⟨v2,rfl,KQ,KB,KG⟩;have Nh:=hbx1.drew.keeps KB hnx1;have hnx2:¬ eA v2 w.heap.size:=fun h=>by have:=(et KQ h).1;omega
 have Kx:Below w.heap.size w w2:=KJ.drew.trans (KB.below KJ.size (fun i hi=>by simp [eA,Value.ownBlock]at hi));rw [bL]at KQ;clear KB KG hbx1;have hl2:(jI s.dZ).length <=21000:=by
  have g1:=nG s.dZ HOV.out;have g2:=(eF s.dZ.length).2;simp only [jI,ah];omega
 have N1:=Nh.lt;go_wp2_with fail;refine⟨Nh.three,?_⟩;refine ed rfl rfl ?_;go_wp2_with fail;refine(lG v2 _ n0 (by omega) (w.heap.size+1) w2 KQ (by omega) (by omega)).mono ?_;rintro x w3 ⟨v3,rfl,LD,K7,Md⟩;have PA:=Nh.keeps K7 hnx2;have hnx3:¬ eA v3 w.heap.size:=fun h=>(Md _ h).elim hnx2 (fun g=>by have:=Nh.lt;(try simp at g this);omega);have K9:Below w.heap.size w w3:=Kx.trans (K7.below Kx.size (fun i hi=>by have:=(et KQ hi).1;omega));clear K7 Md;have hl3:=(eF n0).2;have N2:=PA.lt;go_wp2_with fail;refine⟨PA.three,?_⟩;refine ed rfl rfl ?_;go_wp2_with fail;refine(lG v3 _ s.eh.length (by omega) (w.heap.size+1) w3 LD (by simp only [ah];omega) (by omega)).mono ?_;rintro x w4 ⟨v4,rfl,LP,Of,Mb⟩;have Pf:=PA.keeps Of hnx3;have hnx4:¬ eA v4 w.heap.size:=fun h=>(Mb _ h).elim hnx3 (fun g=>by have:=PA.lt;(try simp at g this);omega);have Mr:Below w.heap.size w w4:=K9.trans (Of.below K9.size (fun i hi=>by have:=(et LD hi).1;omega));clear Of Mb;have hl4:=(eF s.eh.length).2;go_wp2_with fail;refine⟨Pf.three,?_⟩;iterate 1 (first | (apply sk rfl rfl;simp only [pt]) | (apply dV rfl rfl rfl;·(rintro w' ⟨t0,t1,t2⟩;go_wp2;exact⟨rfl,rfl,rfl⟩)))
 refine eL ?_;refine aD ?_;obtain⟨x0,x1,x2⟩:=Pf.three;have hhead:jI s.dZ++eP n0++eP s.eh.length=tP s:=by rw [tP,f0];rfl
 have hlh:(tP s).length <=21020:=by rw [<- hhead];simp only [ah];omega
 rw [hhead]at LP;clear hhead Nh PA Pf hnx1 hnx2 hnx3 hnx4 KQ LD Kx K9 hl2 hl3 hl4 f0;go_wp2_with fail;clear x0 x1 x2;refine eB (fun a' w'=>∃(v:Value) (k:Nat),a'=fr (gs a' 0 3 (v::gs a' 4 19 (.slice af s.eh.length Ml:: .int .i64 s.eh.length:: .int .i64 k::gs a' 26 38 [])))/\JM s w w' v k) (fun a' _=>(s.eh.length - (intOf (a'.tmps.getD 25 undef)).toNat)) ?_ ?_
 ·exact⟨v4,0,rfl,by omega,by simpa [hH] using LP,Mr⟩
 clear LP Mr KJ Qf N1 N2;rintro R a' w5 ⟨v,k,Kw,hJ⟩ HR;dsimp only [fr,gs]at Kw;generalize slot a'=f at Kw;subst Kw;obtain⟨hk,ho,hb⟩:=hJ;by_cases Ls:k < s.eh.length;rotate_left
 ·obtain rfl:k=s.eh.length:=by omega
  go_wp2_with fail;go_ret;refine⟨v,rfl,hb, .inl ⟨HM.out,?_⟩⟩;rw [aU]at ho;have:=mD (base':=w.heap.size) ho (fun i hi=>by have:=(et ho hi).1;omega);rw [iP];exact this
 obtain⟨g,he⟩:∃e,s.eh[k]?=some e:=⟨_,aq Ls⟩;obtain⟨b,off,u,x,rfl,KC,⟨d0,d1,d2,d3,d4⟩,hu,hx,KF⟩:=HF.out.get he;have c0:w5.cell? ⟨b,off+k*5,none⟩=some (.int .i64 g.fn):=by rw [hb.cell KC];exact d0
 have c1:w5.cell? ⟨b,off+k*5+1,none⟩=some (.int .i64 g.pc):=by rw [hb.cell KC];exact d1
 have c2:w5.cell? ⟨b,off+k*5+2,none⟩=some u:=by rw [hb.cell KC];exact d2
 have c3:w5.cell? ⟨b,off+k*5+3,none⟩=some (.int .i64 g.base):=by rw [hb.cell KC];exact d3
 have c4:w5.cell? ⟨b,off+k*5+4,none⟩=some x:=by rw [hb.cell KC];exact d4
 have HU:=V hu;have HX:=V hx;obtain⟨au,KD,rfl,_,hcu,_⟩:=id hu;obtain⟨ax,LF,rfl,hcx1,hcx,_⟩:=id hx;unfold maxLen at hcu hcx;have HUB:=V (F4 hu);obtain⟨p1,p2,p3,p4,⟨p5,p6⟩,⟨p7,p8⟩,p9,p10⟩:=HM.out.2.2.2.2.2 g (aO he);have HP1:=V p1;have HP4:=V p4;have HOL:=V KF.2.2.2.1;obtain⟨nf,hnf⟩:∃n:Nat,g.fn=n:=⟨g.fn.toNat,by omega⟩;obtain⟨np,hnp⟩:∃n:Nat,g.pc=n:=⟨g.pc.toNat,by omega⟩;obtain⟨nb,hnb⟩:∃n:Nat,g.base=n:=⟨g.base.toNat,by omega⟩;have HFB:=V (show n4 g=jI g.locals++eP nf++eP np++eP nb++(eP g.labels.length++(g.labels.map pj).flatten)by rw [n4,BD,hnf,hnp,hnb];rfl);have hlen:(tP s++hH (s.eh.take k)).length <=75000:=by
  have g2:=oT (s.eh.take k) (fun y hy=>⟨HM.out.2.2.2.2.2 y (cD hy),Pe.out y (cD hy)⟩);have g3:(s.eh.take k).length <=32:=by rw [aS];omega
  rw [ah];omega
 have HE:=V he;rw [hnf]at c0 p5 p6;rw [hnp]at c1 p7 p8;rw [hnb]at c3 p9 p10;generalize hL:tP s++hH (s.eh.take k)=L at ho hlen;have HL:=V hL;have Nz:=(eG.new w5 #[.int .i64 nf, .int .i64 np, .slice au g.locals.length KD, .int .i64 nb, .slice ax g.labels.length LF] 40).drew;have Pg:¬ eA v w5.heap.size:=fun h=>by have:=(et ho h).2;omega
 have hoa:=ho.keeps (((dU.refl (fun _=>False) w5).alloc (.cells #[.int .i64 nf, .int .i64 np, .slice au g.locals.length KD, .int .i64 nb, .slice ax g.labels.length LF] 40)).drew) (fun _ _ h=>h);have MM:=(hb.alloc hb.size (.cells #[.int .i64 nf, .int .i64 np, .slice au g.locals.length KD, .int .i64 nb, .slice ax g.labels.length LF] 40)).drew;have hba1:w.heap.size+1 <=w5.heap.size+1:=by have:=hb.size;omega
 clear hL d0 d1 d2 d3 d4 he KF p1 p4 hnf hnp hnb hu hx ho hb;have HRO:=HR;clear HR;go_wp2_with fail;refine ef (fun w'=>w'.cell? ⟨w5.heap.size,0,none⟩=some (.int .i64 nf)/\w'.cell? ⟨w5.heap.size,1,none⟩=some (.int .i64 np)/\w'.cell? ⟨w5.heap.size,2,none⟩=some (.slice au g.locals.length KD)/\w'.cell? ⟨w5.heap.size,3,none⟩=some (.int .i64 nb)/\w'.cell? ⟨w5.heap.size,4,none⟩=some (.slice ax g.labels.length LF))
  (up 0 3 ((4,true)::(5,true)::(7,true)::(8,true)::(10,true)::(11,true)::(3,false)::(6,false)::(9,false)::(12,false)::(13,true)::[])) (by kernel_rfl) (by kernel_rfl) Nz.rY ?_
 clear c0 c1 c2 c3 c4;obtain⟨Y,hY⟩:∃Y,Y=w5.heap.size:=⟨_,rfl⟩;rw [<- hY]at Nz Pg hba1⊢;clear hY;generalize(w5.alloc (.cells #[.int .i64 nf, .int .i64 np, .slice au g.locals.length KD, .int .i64 nb, .slice ax g.labels.length LF] 40)).drew=wa at Nz hoa MM⊢;obtain⟨va,hva⟩:∃va,va=v:=⟨_,rfl⟩;have hszY:=Nz.lt;iterate 9 (first | (apply sk rfl rfl;simp only [pt]) | (apply dV rfl rfl rfl;·(rintro w' ⟨t0,t1,t2,t3,t4⟩;go_wp2;exact⟨rfl,rfl,rfl⟩)))
 refine ed rfl rfl ?_;go_wp2_with fail;subst hva;refine(sa va L _ g.locals (w.heap.size+1) wa hoa (by omega) (by omega) (HU.out.below (MM.mono (ag _))) HP4.out HOL.out (by omega) (fun Ma i hi a n cp he=>by
  injection he with e1 e2 e3;have:=HUB.out Ma a e1;have:=(et hoa hi).1;omega)).mono ?_
 rintro x wb ⟨vb,rfl,hob,hkb,hsb⟩;have Og:=Nz.keeps hkb Pg;have Qg:¬ eA vb Y:=fun h=>(hsb _ h).elim Pg (fun q=>by omega);have L9:Below w.heap.size w wb:=MM.trans (hkb.below MM.size (fun i hi=>by have:=(et hoa hi).1;omega));clear hkb hsb;have hlb:(L++jI g.locals).length <=76000:=by
  have g1:=nG g.locals HOL.out;have g2:=(eF g.locals.length).2;simp only [jI,ah];omega
 have hszb:=Og.lt;go_wp2_with fail;refine⟨Og.rY,?_⟩;refine ed rfl rfl ?_;go_wp2_with fail;refine(lG vb _ nf (by omega) (w.heap.size+1) wb hob (by omega) (by omega)).mono ?_;rintro x wc ⟨vc,rfl,hoc,hkc,hsc⟩;have PD:=Og.keeps hkc Qg;have hnxc:¬ eA vc Y:=fun h=>(hsc _ h).elim Qg (fun g=>by have:=Og.lt;(try simp at g this);omega);have hbc:Below w.heap.size w wc:=L9.trans (hkc.below L9.size (fun i hi=>by have:=(et hob hi).1;omega));clear hkc hsc;have hlc:=(eF nf).2;have hszc:=PD.lt;go_wp2_with fail;refine⟨PD.rY,?_⟩;refine ed rfl rfl ?_;go_wp2_with fail;refine(lG vc _ np (by omega) (w.heap.size+1) wc hoc (by simp only [ah]at*;omega) (by omega)).mono ?_;rintro x wd ⟨vd,rfl,hod,hkd,hsd⟩;have hbxd:=PD.keeps hkd hnxc;have hnxd:¬ eA vd Y:=fun h=>(hsd _ h).elim hnxc (fun g=>by have:=PD.lt;(try simp at g this);omega);have NX:Below w.heap.size w wd:=hbc.trans (hkd.below hbc.size (fun i hi=>by have:=(et hoc hi).1;omega));clear hkd hsd;have hld:=(eF np).2;have hszd:=hbxd.lt;go_wp2_with fail;refine⟨hbxd.rY,?_⟩;refine ed rfl rfl ?_;go_wp2_with fail;refine(lG vd _ nb (by omega) (w.heap.size+1) wd hod (by simp only [ah]at*;omega) (by omega)).mono ?_;rintro x we ⟨ve,rfl,hoe,hke,hse⟩;have hbxe:=hbxd.keeps hke hnxd;have hnxe:¬ eA ve Y:=fun h=>(hse _ h).elim hnxd (fun g=>by have:=hbxd.lt;(try simp at g this);omega);have P2:Below w.heap.size w we:=NX.trans (hke.below NX.size (fun i hi=>by have:=(et hod hi).1;omega));clear hke hse;have hle:=(eF nb).2;have hsze:=hbxe.lt;go_wp2_with fail;refine⟨hbxe.rY,?_⟩;iterate 1 (first | (apply sk rfl rfl;simp only [pt]) | (apply dV rfl rfl rfl;·(rintro w' ⟨t0,t1,t2,t3,t4⟩;go_wp2;exact⟨rfl,rfl,rfl⟩)))
 refine eL ?_;refine aD ?_;have hl5:(L++jI g.locals++eP nf++eP np++eP nb).length <=77000:=by simp only [ah]at*;omega
 clear Nz Og PD hbxd Pg Qg hnxc hnxd hoa hob hoc hod MM L9 hbc NX hlb hlc hld hle;obtain⟨x0,x1,x2,x3,x4⟩:=hbxe.rY;go_wp2_with fail;refine(lG ve _ g.labels.length (by omega) (w.heap.size+1) we hoe (by omega) (by omega)).mono ?_;rintro x wh ⟨vh,rfl,hoh,hkh,hsh⟩;have hbxh:=hbxe.keeps hkh hnxe;have hnxh:¬ eA vh Y:=fun h=>(hsh _ h).elim hnxe (fun g=>by have:=hbxe.lt;(try simp at g this);omega);have hbh:Below w.heap.size w wh:=P2.trans (hkh.below P2.size (fun i hi=>by have:=(et hoe hi).1;omega));clear hkh hsh;have hlh2:=(eF g.labels.length).2;have hl6:(L++jI g.locals++eP nf++eP np++eP nb++eP g.labels.length).length <=77100:=by rw [ah];omega
 clear x0 x1 x2 x3 x4;obtain⟨x0,x1,x2,x3,x4⟩:=hbxh.rY;have hL2:tP s++hH (s.eh.take (k+1))=L++jI g.locals++eP nf++eP np++eP nb++eP g.labels.length++(g.labels.map pj).flatten:=by
  rw [aQ,HE.out,zG, <- aP,HL.out];simp [hH,HFB.out]
 have P3:=V hL2;clear hL2 hl5 P2 hoe hbxe hnxe hnxh;generalize L++jI g.locals++eP nf++eP np++eP nb++eP g.labels.length=L2 at P3 hoh hl6;go_wp2_with fail;clear x0 x1 x2 x3 x4 hbxh;refine eB (fun a' w'=>∃(v:Value) (m:Nat),a'=fr (gs a' 0 3 (v::gs a' 4 19 (.slice (some ⟨b,off,none⟩) s.eh.length Ml:: .int .i64 s.eh.length:: .int .i64 k::gs a' 26 22 (.slice ax g.labels.length LF:: .int .i64 g.labels.length:: .int .i64 m::gs a' 51 13 []))))/\Jj L2 g.labels w w' v m) (fun a' _=>(g.labels.length - (intOf (a'.tmps.getD 50 undef)).toNat)) ?_ ?_
 ·exact⟨vh,0,rfl,by omega,by simpa using hoh,hbh⟩
 clear hoh hbh hszY hszb hszc hszd hsze hba1;rintro R a' w5 ⟨v,m,Kw,hJ⟩ HR;dsimp only [fr,gs]at Kw;generalize slot a'=f at Kw;subst Kw;obtain⟨hm,ho,hb⟩:=hJ;by_cases hml:m < g.labels.length;rotate_left
 ·obtain rfl:m=g.labels.length:=by omega
  go_wp2_with fail;refine HRO.out _ _ ⟨v,k+1,rfl,by omega,?_,hb⟩ ?_
  ·rw [P3.out]
   rw [aU]at ho;exact ho
  ·simp [intOf]
   omega
 obtain⟨e,hee⟩:∃e,g.labels[m]?=some e:=⟨_,aq hml⟩;obtain⟨a',KR,hva,_,_,Kt⟩:=HX.out.below (hb.mono (ag _));injection hva with e1 e2 e3;subst e1 e3;obtain⟨bl,offl,rfl,hltl,O8⟩:=Kt m e hee;have y0:=O8 0 _ rfl;have y1:=O8 1 _ rfl;rw [aL]at y0;obtain⟨⟨r1,r2⟩,r3,r4⟩:=HP1.out e (aO hee);obtain⟨na,hna⟩:∃n:Nat,e.pos=n:=⟨e.pos.toNat,by omega⟩;obtain⟨nh,hnh⟩:∃n:Nat,e.eM=n:=⟨e.eM.toNat,by omega⟩;have HLB:=V (show pj e=eP na++eP nh by rw [pj,hna,hnh];rfl);rw [hna]at y0 r1 r2;rw [hnh]at y1 r3 r4;have hlen2:(L2++((g.labels.take m).map pj).flatten).length <=78000:=by
  have q1:=ud (g.labels.take m);have q2:(g.labels.take m).length <=40:=by rw [aS];omega
  rw [ah];omega
 have HEE:=V hee;generalize hL3:L2++((g.labels.take m).map pj).flatten=L3 at ho hlen2;have HL3:=V hL3;have Nz:=(eG.new w5 #[.int .i64 na, .int .i64 nh] 46).drew;have Pg:¬ eA v w5.heap.size:=fun h=>by have:=(et ho h).2;omega
 have hoa:=ho.keeps (((dU.refl (fun _=>False) w5).alloc (.cells #[.int .i64 na, .int .i64 nh] 46)).drew) (fun _ _ h=>h);have MM:=(hb.alloc hb.size (.cells #[.int .i64 na, .int .i64 nh] 46)).drew;have hba1:w.heap.size+1 <=w5.heap.size+1:=by have:=hb.size;omega
 clear hL3 Kt O8 e2 hee hna hnh ho hb;go_wp2_with fail;refine ef (fun w'=>w'.cell? ⟨w5.heap.size,0,none⟩=some (.int .i64 na)/\w'.cell? ⟨w5.heap.size,1,none⟩=some (.int .i64 nh)) (up 0 3 ((4,true)::(5,true)::(3,false)::(6,false)::(7,true)::[])) (by kernel_rfl) (by kernel_rfl) ⟨Nz.cell 0,Nz.cell 1⟩ ?_;clear y0 y1;obtain⟨Z,hZ⟩:∃Z,Z=w5.heap.size:=⟨_,rfl⟩;rw [<- hZ]at Nz Pg hba1⊢;clear hZ;generalize(w5.alloc (.cells #[.int .i64 na, .int .i64 nh] 46)).drew=wa at Nz hoa MM⊢;have hszZ:=Nz.lt;iterate 5 (first | (apply sk rfl rfl;simp only [pt]) | (apply dV rfl rfl rfl;·(rintro w' ⟨t0,t1⟩;go_wp2;exact⟨rfl,rfl,rfl⟩)))
 refine ed rfl rfl ?_;go_wp2_with fail;refine(lG v _ na (by omega) (w.heap.size+1) wa hoa (by omega) (by omega)).mono ?_;rintro x wb ⟨vb,rfl,hob,hkb,hsb⟩;have Og:=Nz.keeps hkb Pg;have Qg:¬ eA vb Z:=fun h=>(hsb _ h).elim Pg (fun g=>by have:=Nz.lt;(try simp at g this);omega);have L9:Below w.heap.size w wb:=MM.trans (hkb.below MM.size (fun i hi=>by have:=(et hoa hi).1;omega));clear hkb hsb;have hlb:=(eF na).2;have hszb:=Og.lt;go_wp2_with fail;refine⟨⟨Og.cell 0,Og.cell 1⟩,?_⟩;refine ed rfl rfl ?_;go_wp2_with fail;refine(lG vb _ nh (by omega) (w.heap.size+1) wb hob (by simp only [ah]at*;omega) (by omega)).mono ?_;rintro x wc ⟨vc,rfl,hoc,hkc,hsc⟩;have PD:=Og.keeps hkc Qg;have hnxc:¬ eA vc Z:=fun h=>(hsc _ h).elim Qg (fun g=>by have:=Og.lt;(try simp at g this);omega);have hbc:Below w.heap.size w wc:=L9.trans (hkc.below L9.size (fun i hi=>by have:=(et hob hi).1;omega));clear hkc hsc;clear Nz Og Pg Qg hoa hob MM L9;go_wp2_with fail;refine⟨⟨PD.cell 0,PD.cell 1⟩,?_⟩;iterate 1 (first | (apply sk rfl rfl;simp only [pt]) | (apply dV rfl rfl rfl;·(rintro w' ⟨t0,t1⟩;go_wp2;exact⟨rfl,rfl,rfl⟩)))
 refine eL ?_;refine aD ?_;go_wp2_with fail;refine HR.out _ _ ⟨vc,m+1,rfl,by omega,?_,hbc⟩ ?_
 ·have e1:L2++((g.labels.take (m+1)).map pj).flatten=L3++eP na++eP nh:=by
   rw [<- HL3.out,aQ,HEE.out];simp [HLB.out]
  rw [e1];exact hoc
 ·simp [intOf]
  omega
def Ez (l m:List UInt8) (w:World) (e:Ending) (w':World):Prop:=e= .returned (.bool (l==m))/\w=w'
theorem se (a b:Value) (l m:List UInt8) (w:World) (ha:eJ w a l) (hb:eJ w b m):
  Calls prog 112 #[a,b] w (Ez l m w):=by
 have h1:=pC ha;have h2:=pC hb;clear ha hb;go_enter func112,ntmps112;go_wp2;go_ret;exact⟨by rw [lu,lu];rfl,rfl⟩
def uU (B:Nat) (w:World) (v u:Value):Prop:=∀a n cap,u= .slice (some a) n cap ->B <=a.block/\a.block < w.heap.size/\¬ eA v a.block
def gV (w:World) (B:Nat) (v:Value) (l:List eV):Prop:=
 ∃us:List (Value × Value),us.length=l.length/\dT 40 5 lZ w B v (l.zip us)/\(∀f∈l,f.ok)/\
  ∀(i:Nat) (f:eV) (u:Value × Value),l[i]?=some f ->us[i]?=some u ->(eg 2 gb w u.1 f.locals/\uU B w v u.1)/\eg 2 kp w u.2 f.labels/\uU B w v u.2
theorem gV.nil (w:World) (B:Nat):gV w B (.slice none 0 0) []:=⟨[],rfl,dT.nil _ _,by simp,by simp⟩
theorem gV.jX {w:World} {B:Nat} {v:Value} {l:List eV} (h:gV w B v l):fY w v l:=by
 obtain⟨us,h1,h2,h3,h4⟩:=h;exact⟨us,h1,h2.fy iw,fun i f u hf hu=>⟨(h4 i f u hf hu).1.1,(h4 i f u hf hu).2.1⟩,h3⟩
theorem gV.lt {w:World} {B:Nat} {v:Value} {l:List eV} (h:gV w B v l) {i:Nat} (hi:eA v i):B <=i/\i < w.heap.size:=by
 obtain⟨us,h1,h2,h3,h4⟩:=h;exact et h2 hi
theorem gV.keeps {w w':World} {B:Nat} {v:Value} {l:List eV} {T:Nat ->Prop} (h:gV w B v l) (hk:dU T w w') (hT:∀i,T i ->i < B):gV w' B v l:=by
 obtain⟨us,h1,h2,h3,h4⟩:=h;refine⟨us,h1,h2.keeps hk (fun i hi hj=>by have:=(et h2 hi).1;have:=hT i hj;omega),h3,fun i f u hf hu=>?_⟩;have conv:∀x,uU B w v x ->uU B w' v x:=fun x hx a n cap he=>by
  obtain⟨g1,g2,g3⟩:=hx a n cap he;exact⟨g1,bH g2 hk.size,g3⟩
 have away:∀x,uU B w v x ->∀a n cap,x= .slice (some a) n cap ->¬ T a.block:=fun x hx a n cap he hj=>by
  have:=(hx a n cap he).1;have:=hT _ hj;omega
 obtain⟨⟨g1,g2⟩,g3,g4⟩:=h4 i f u hf hu;exact⟨⟨g1.keeps hk (away _ g2),conv _ g2⟩,g3.keeps hk (away _ g4),conv _ g4⟩
theorem gV.app {w w':World} {B:Nat} {v v':Value} {l:List eV} {us:List (Value × Value)} (h1:us.length=l.length) (h3:∀f∈l,f.ok)
  (h4:∀(i:Nat) (f:eV) (u:Value × Value),l[i]?=some f ->us[i]?=some u ->(eg 2 gb w u.1 f.locals/\uU B w v u.1)/\eg 2 kp w u.2 f.labels/\uU B w v u.2)
  (hk:dU (eA v) w w') (hs:eE w v v') {f:eV} {u:Value × Value} (hf:f.ok)
  (hu:(eg 2 gb w u.1 f.locals/\uU B w v u.1)/\eg 2 kp w u.2 f.labels/\uU B w v u.2)
  (ho:dT 40 5 lZ w' B v' (l.zip us++[(f,u)])):gV w' B v' (l++[f]):=by
 have key:∀a:Addr,a.block < w.heap.size ->¬ eA v a.block ->¬ eA v' a.block:=fun a h1 h2 h3=>(hs _ h3).elim h2 (fun g=>by omega);have conv:∀x,uU B w v x ->uU B w' v' x:=fun x hx a n cap he=>by
  obtain⟨g1,g2,g3⟩:=hx a n cap he;exact⟨g1,bH g2 hk.size,key a g2 g3⟩
 have away:∀x,uU B w v x ->∀a n cap,x= .slice (some a) n cap ->¬ eA v a.block:=fun x hx a n cap he=>(hx a n cap he).2.2;refine⟨us++[u],by simp [h1],?_,?_,?_⟩
 ·rw [di h1.symm]
  exact ho
 ·intro d hd
  rcases bx.1 hd with h | h
  ·exact h3 d h
  ·obtain rfl:=aV.1 h
   exact hf
 ·intro i d x hd hx
  have all:∀(d:eV) (x:Value × Value),((eg 2 gb w x.1 d.locals/\uU B w v x.1)/\eg 2 kp w x.2 d.labels/\uU B w v x.2) ->
    (eg 2 gb w' x.1 d.locals/\uU B w' v' x.1)/\eg 2 kp w' x.2 d.labels/\uU B w' v' x.2:=by
   rintro d x ⟨⟨g1,g2⟩,g3,g4⟩;exact⟨⟨g1.keeps hk (away _ g2),conv _ g2⟩,g3.keeps hk (away _ g4),conv _ g4⟩
  rcases bC i l.length with h | h
  ·rw [bu h]at hd
   rw [bu (by omega)]at hx;exact all d x (h4 i d x hd hx)
  ·rw [bg h]at hd
   rw [bg (by omega),h1]at hx;have hi:i - l.length=0:=by
    rcases aZ (i - l.length)with g | g
    ·exact g
    ·rw [dh (by simp only [aB];omega)]at hd
     cases hd
   rw [hi]at hd hx;simp at hd hx;subst hd hx;exact all f u hu
theorem tJ:(prog.info? 46).map (fun i=>(i.zero,i.size,i.bytes))=some (some (.agg #[.int .i64 0, .int .i64 0]),2,16):=by kernel_rfl
theorem mX:(prog.info? 40).map (fun i=>(i.zero,i.size,i.bytes))=some (some (.agg #[.int .i64 0, .int .i64 0, .slice none 0 0, .int .i64 0, .slice none 0 0]),5,72):=by kernel_rfl
theorem eG.wP {w:World} {X:Nat} {u v:Value} {n:Int} {t:TypeId} (h:eG w X #[u,v, .int .i64 n] t):
  (loadVar 37 ⟨X,0,none⟩).run prog w= .ok (.agg #[u,v, .int .i64 n]) w:=by
 have hs:(prog.underlying 37).map (fun d=>match d with | .struct _ | .array _ _=>true | _=>false)=some true:=by kernel_rfl
 obtain⟨d,h1,h2⟩:=bz.1 hs;exact bY w X t 37 _ _ d h h1 (by cases d <;>first | rfl | (exfalso;simp at h2)) (by kernel_rfl)
def GR (l:List UInt8) (w:World) (e:Ending) (w':World):Prop:=
 Below w.heap.size w w'/\∃uv uf s err,e= .returned (.tuple #[.agg #[uv,uf, .int .i64 s.asks], .int .i64 err])/\jA w' uv uf s/\
  ((err=0/\s.may/\iP s=l)\/(err=11/\s=⟨[],[],0⟩/\¬ ∃s:gL,s.may/\s.ok/\iP s=l))
def Jl (B0 Rb F:Nat) (cs:Value ->Array Value) (k0:Nat) (Ge:Option (List UInt8)) (w5 w':World) (v:Value) (acc:List kR) (n:Nat) (st:Option (List UInt8)):Prop:=
 nF k0 Ge=(acc++(nF n st).1,(nF n st).2)/\dT 46 2 kp w' (F+1) v acc/\(∀x∈acc,x.ok)/\acc.length+oG st <=oG Ge/\Rd B0 w' Rb st/\
  eG w' F (cs v) 40/\dU (fun k=>k=Rb) w5 w'/\n < 4611686018427387904
def JA (l:List UInt8) (dZ:List fa) (asks:Int) (uv:Value) (C Rb Sb:Nat) (w w':World) (v:Value) (acc:List eV) (n:Nat) (st:Option (List UInt8)):Prop:=
 qc (some l)=(⟨dZ,acc++(jR n st).1,asks⟩,(jR n st).2)/\gV w' (Sb+1) v acc/\acc.length+oG st <=l.length+1/\Rd w.heap.size w' Rb st/\
  eG w' C #[.slice none 0 0, .slice none 0 0, .int .i64 0] 37/\eG w' Sb #[uv,v, .int .i64 asks] 37/\eg 2 gb w' uv dZ/\Below w.heap.size w w'/\n < 4611686018427387904
theorem eG.Cz {w:World} {X:Nat} {t:TypeId} {x0 x1 x2:Value} (h:eG w X #[x0,x1,x2] t) (y0 y1 y2:Value):
  eG (((w.setCell ⟨X,0,none⟩ y0).setCell ⟨X,1,none⟩ y1).setCell ⟨X,2,none⟩ y2) X #[y0,y1,y2] t:=by
 have:=((h.set 0 y0).set 1 y1).set 2 y2;simpa using this
theorem jb (w:World) (X i:Nat) (v:Value):dU (fun k=>k=X) w (w.setCell ⟨X,i,none⟩ v):=⟨rfl,rfl,rfl,by simp,fun k _ hk=>cL w ⟨X,i,none⟩ v k hk⟩
theorem vU (w:World) (X:Nat) (y0 y1 y2:Value):dU (fun k=>k=X) w (((w.setCell ⟨X,0,none⟩ y0).setCell ⟨X,1,none⟩ y1).setCell ⟨X,2,none⟩ y2):=
 ((jb w X 0 y0).trans (jb _ X 1 y1) (fun _ h=> .inl h)).trans (jb _ X 2 y2) (fun _ h=> .inl h)
theorem Fs (st:Option (List UInt8)):oG (fH st).2+1 <=max 1 (oG st):=by
 cases st with
 | none=>simp [fH,oG]
 | some l=>have:=sL l;omega
theorem qM (b:Value) (l:List UInt8) (w:World) (hb:eJ w b l) (Ok:l.length <=400000):Calls prog 77 #[b] w (GR l w):=by
 obtain⟨a,cap,rfl,Lk,M8,KV⟩:=id hb;have HB:=V hb;have hB0:l≠[] ->∀ad,a=some ad ->ad.block < w.heap.size:=by
  intro Ma ad ha;obtain⟨x,xs,Qe⟩:=List.exists_cons_of_ne_nil Ma;obtain⟨g,off,g1,g2⟩:=KV 0 x (by rw [Qe];rfl);rw [ha]at g1;injection g1 with g1;rw [g1];exact aT w _ g2
 unfold maxLen at M8;clear KV;have hz:eG (w.alloc (.cells #[.slice none 0 0, .slice none 0 0, .int .i64 0] 37)) w.heap.size #[.slice none 0 0, .slice none 0 0, .int .i64 0] 37:=eG.new w _ _;have KJ:Below w.heap.size w (w.alloc (.cells #[.slice none 0 0, .slice none 0 0, .int .i64 0] 37)):=(an _ _).alloc (ag _) _;have hi1:eJ (w.alloc (.cells #[.slice none 0 0, .slice none 0 0, .int .i64 0] 37)) (.slice a l.length cap) l:=hb.below KJ;have Qf:(w.alloc (.cells #[.slice none 0 0, .slice none 0 0, .int .i64 0] 37)).heap.size=w.heap.size+1:=aE _ _;clear hb;go_enter func77,ntmps77;go_wp2_with fail;rw [show w.heap.size+1=(w.alloc (.cells #[.slice none 0 0, .slice none 0 0, .int .i64 0] 37)).heap.size from Qf.symm];generalize w.alloc (.cells #[.slice none 0 0, .slice none 0 0, .int .i64 0] 37)=w0 at hz KJ hi1 Qf⊢;have hC0:w.heap.size < w0.heap.size:=by omega
 have hC0':w0.heap.size < w.heap.size+2:=by omega
 clear Qf;have Lp:Rd w.heap.size (w0.alloc (.cells #[.slice a l.length cap, .bool false] 203)) w0.heap.size (some l):=
  ⟨a,l.length,cap,eG.new w0 _ _,l,hB0,hi1.below ((an _ _).alloc (ag _) _),fun l' h=>by injection h with h;exact h.symm⟩
 have HRD0:=V Lp;clear Lp hB0 hi1;obtain⟨dZ,s1,e1⟩:∃x t,jd (some l)=(x,t):=⟨_,_,rfl⟩;obtain⟨xa,s2,e2⟩:∃x t,fH s1=(x,t):=⟨_,_,rfl⟩;obtain⟨n0,s3,e3⟩:∃x t,fH s2=(x,t):=⟨_,_,rfl⟩;have ba:=lE s1;have bn:=lE s2;have ta:=mF s1;have tn:=mF s2;rw [e2]at ba ta;rw [e3]at bn tn;simp only at ba bn ta tn;have M5:=hz.alloc (.cells #[.slice a l.length cap, .bool false] 203);have KW:=KJ.alloc (by omega) (.cells #[.slice a l.length cap, .bool false] 203);have hszr:(w0.alloc (.cells #[.slice a l.length cap, .bool false] 203)).heap.size=w0.heap.size+1:=aE _ _;refine(vR w.heap.size w0.heap.size (some l) _ HRD0.out (by simp only [oG];omega) (by rw [hszr];omega)).mono ?_;rintro x w1 ⟨u,rfl,hou,hvo,MN,Pa,LN⟩;rw [hszr]at hou;rw [e1]at hou hvo MN Pa;rw [show oG (some l)=l.length+1 from rfl]at MN;simp only at hou hvo MN Pa;have M9:=LN.size;rw [hszr]at M9;have hui:=hou.fy fK;have hub:=hou.block;obtain⟨au,KD,rfl,-,hcu,-⟩:=id hui;unfold maxLen at hcu;have HVO:=V hvo;have hC1:=M5.keeps LN (by omega);have Kx:=KW.trans (LN.below (by rw [hszr];omega) (fun i h=>by omega));clear hou hvo LN M5 KW hszr hz KJ;go_wp2_with fail;refine(kk w.heap.size w0.heap.size s1 w1 Pa).mono ?_;rintro x w2 ⟨rfl,ND,KB⟩;rw [e2]at ND⊢;have N1:=KB.size;have K9:=Kx.trans (KB.below (by omega) (fun i h=>by omega));have MA:=hC1.keeps KB (by omega);have MG:=hui.keeps KB (fun a n cp he hj=>by have:=(hub a n cp he).1;omega);have HUB:=V (show∀a n cp,Value.slice au dZ.length KD= .slice (some a) n cp ->w0.heap.size < a.block/\a.block < w2.heap.size from fun a n cp he=>by have:=hub a n cp he;omega);clear Pa KB hC1 hui hub Kx;go_wp2_with fail;have hia:∃asks:Int,(xa:Int) - 1=asks:=⟨_,rfl⟩;obtain⟨asks,Na⟩:=hia;have ha1: -1 <=asks:=by omega
 have ha2:asks < 4611686018427387904:=by omega
 rw [Na];have HAS:=V Na;clear Na;have hS0:=eG.new w2 #[.slice au dZ.length KD, .slice none 0 0, .int .i64 asks] 37;have hC3:=MA.alloc (.cells #[.slice au dZ.length KD, .slice none 0 0, .int .i64 asks] 37);have Mr:=K9.alloc (by omega) (.cells #[.slice au dZ.length KD, .slice none 0 0, .int .i64 asks] 37);have MK:=(an w2.heap.size w2).alloc (ag _) (.cells #[.slice au dZ.length KD, .slice none 0 0, .int .i64 asks] 37);have Qd:=ND.below MK;have hu3:=MG.below MK;have hszs:(w2.alloc (.cells #[.slice au dZ.length KD, .slice none 0 0, .int .i64 asks] 37)).heap.size=w2.heap.size+1:=aE _ _;generalize hSb:w2.heap.size=Sb at hS0 hszs HUB N1 K9⊢;generalize w2.alloc (.cells #[.slice au dZ.length KD, .slice none 0 0, .int .i64 asks] 37)=w3 at hS0 hC3 Mr Qd hu3 hszs⊢;clear MK ND MG MA K9 hSb;refine(kk w.heap.size w0.heap.size s2 w3 Qd).mono ?_;rintro x w4 ⟨rfl,hr4,Of⟩;rw [e3]at hr4⊢;have hS4:=hS0.keeps Of (by omega);have hC4:=hC3.keeps Of (by omega);have Ly:=Mr.trans (Of.below (by omega) (fun i h=>by omega));have hu4:=hu3.keeps Of (fun a n cp he hj=>by have:=(HUB.out a n cp he).1;omega);have hSlt:=hS4.lt;have hs0:w0.heap.size+1 <=Sb:=by omega
 clear Of hS0 hC3 Mr Qd hu3 hszs;go_wp2_with fail;refine eB (fun a' w'=>∃(v:Value) (acc:List eV) (n:Nat) (s:Option (List UInt8)),a'=fr (.slice a l.length cap::gs a' 1 1 (.pointer (some ⟨w.heap.size,0,none⟩):: .int .i64 0:: .pointer (some ⟨w0.heap.size,0,none⟩):: .pointer (some ⟨Sb,0,none⟩):: .int .i64 n::gs a' 7 81 []))/\JA l dZ asks (.slice au dZ.length KD) w.heap.size w0.heap.size Sb w w' v acc n s) (fun a' _=>(intOf (a'.tmps.getD 6 undef)).toNat) ?_ ?_
 ·refine⟨_,[],n0,s3,rfl,⟨?_,gV.nil _ _,?_,hr4,hC4,hS4,hu4,Ly,bn⟩⟩
  ·rw [qc,e1,e2,e3]
   simp only [bL,HAS.out]
  ·simp only [aK]
   omega
 ·clear hr4 hC4 hS4 hu4 Ly bn ba ta tn MN M9 N1 hSlt e1 e2 e3 HAS
  rintro R a' w1 ⟨v,acc,n,s,Kw,hJ⟩ HR;dsimp only [fr,gs]at Kw;generalize slot a'=f at Kw;subst Kw;obtain⟨hv,Pr,hlen,Lp,hC,hS,hu,hb,hn⟩:=hJ;obtain⟨av,KX,rfl,_,LC⟩:=Pr.jX.slice;have K5:=V Lp;have Pe:=V Pr;obtain⟨ar,nr,Pb,KP,_⟩:=Lp;have c1:w1.cell? ⟨w0.heap.size,1,none⟩=some (.bool s.isNone):=KP.cell 1;have Mm:=KP.lt;have hSlt:=hS.lt;clear KP Pr;rcases aZ n with L8 | L8
  ·subst L8
   rw [jR,bO]at hv;cases s with
   | none=>
    skip
    have HC:=V (show qc (some l)=(⟨dZ,acc,asks⟩,(none:Option (List UInt8)))from hv);have key:∀y:gL,y.may ->y.ok ->iP y=l ->y=⟨dZ,acc,asks⟩/\(none:Option (List UInt8))=some []:=by
     intro y h1 h2 h3;have h4:=mV y h1 h2;rw [h3,HC.out]at h4;injection h4 with h4 h5;exact⟨h4.symm,h5⟩
    have KEY:=V key;have KS:jA w1 (.slice au dZ.length KD) (.slice av acc.length KX) ⟨dZ,acc,asks⟩:=⟨hu,Pe.out.jX,⟨by show(-9223372036854775808:Int) <=asks;omega,by show asks <=9223372036854775807;omega⟩,HVO.out,by obtain⟨_,_,_,h,_⟩:=Pe.out;exact h⟩;have Ky:=V KS;obtain⟨s0,s1,s2⟩:=hS.three;clear key hv hlen KS HC;go_wp2_with fail;refine(mf _ _ ⟨dZ,acc,asks⟩ w1 Ky.out).mono ?_;rintro x w2 ⟨c,rfl,Kx,hc⟩;obtain⟨ar,nr,Pb,PE,-⟩:=K5.out.below Kx;have d1:w2.cell? ⟨w0.heap.size,1,none⟩=some (.bool true):=PE.cell 1;have MA:=hC.below Kx hC.lt;obtain⟨c0',c1',c2'⟩:=MA.three;have z0:=MA.free 0;have z1:=MA.free 1;have z2:=MA.free 2;have Qh:=hS.below Kx hS.lt;obtain⟨s0',s1',s2'⟩:=Qh.three;have Lm:=HB.out.below ((hb.trans (Kx.mono hb.size)).mono (ag _));have HBL:=V Lm;have MC:=V Kx.size;have HOF2:=V (Pe.out.keeps (T:=fun _=>False) (dU.dW Kx) (fun _ h=>h.elim));have OK:=V (hu.below Kx);replace hb:=hb.trans (Kx.mono hb.size);clear PE Lm Kx c1 hC s0 s1 s2 hu hS;clear hc;go_wp2_with fail;have hx:=MA.Cz (.slice none 0 0) (.slice none 0 0) (.int .i64 0);refine aM (fe rfl _ _ rfl hx.wP) rfl ?_;refine⟨((hb.setCell (ag _) _).setCell (ag _) _).setCell (ag _) _,_,_,⟨[],[],0⟩,_,rfl,⟨eg.nil _,fY.nil _,⟨by show(-9223372036854775808:Int) <=0;omega,by show(0:Int) <=9223372036854775807;omega⟩,by simp,by simp⟩, .inr ⟨rfl,rfl,?_⟩⟩;rintro⟨s,g1,g2,g3⟩;have:=(KEY.out s g1 g2 g3).2;cases this
   | some s=>
    skip
    have HC:=V (show qc (some l)=(⟨dZ,acc,asks⟩,some s)from hv);have key:∀y:gL,y.may ->y.ok ->iP y=l ->y=⟨dZ,acc,asks⟩/\some s=some []:=by
     intro y h1 h2 h3;have h4:=mV y h1 h2;rw [h3,HC.out]at h4;injection h4 with h4 h5;exact⟨h4.symm,h5⟩
    have KEY:=V key;have KS:jA w1 (.slice au dZ.length KD) (.slice av acc.length KX) ⟨dZ,acc,asks⟩:=⟨hu,Pe.out.jX,⟨by show(-9223372036854775808:Int) <=asks;omega,by show asks <=9223372036854775807;omega⟩,HVO.out,by obtain⟨_,_,_,h,_⟩:=Pe.out;exact h⟩;have Ky:=V KS;obtain⟨s0,s1,s2⟩:=hS.three;clear key hv hlen KS HC;go_wp2_with fail;refine(mf _ _ ⟨dZ,acc,asks⟩ w1 Ky.out).mono ?_;rintro x w2 ⟨c,rfl,Kx,hc⟩;obtain⟨ar,nr,Pb,PE,-⟩:=K5.out.below Kx;have d1:w2.cell? ⟨w0.heap.size,1,none⟩=some (.bool false):=PE.cell 1;have MA:=hC.below Kx hC.lt;obtain⟨c0',c1',c2'⟩:=MA.three;have z0:=MA.free 0;have z1:=MA.free 1;have z2:=MA.free 2;have Qh:=hS.below Kx hS.lt;obtain⟨s0',s1',s2'⟩:=Qh.three;have Lm:=HB.out.below ((hb.trans (Kx.mono hb.size)).mono (ag _));have HBL:=V Lm;have MC:=V Kx.size;have HOF2:=V (Pe.out.keeps (T:=fun _=>False) (dU.dW Kx) (fun _ h=>h.elim));have OK:=V (hu.below Kx);replace hb:=hb.trans (Kx.mono hb.size);clear PE Lm Kx c1 hC s0 s1 s2 hu hS;rcases hc with⟨hm,hoc⟩ | ⟨hm,rfl⟩
    ·have HM:=V hm
     obtain⟨g,N5,rfl,OJ,M7,hg3,hg4,_,_⟩:=hoc.open (vN _);have hoi:=hoc.fp;have HOB:=V hoi;clear hoi hoc hm;have e1:=bR (P:=prog) w2 97 5 (some ⟨g,0,none⟩) (iP ⟨dZ,acc,asks⟩).length N5 0 0 (by kernel_rfl);rw [dd]at e1;go_wp2_with fail;refine(se _ _ (iP ⟨dZ,acc,asks⟩) l w2 HOB.out HBL.out).mono ?_;rintro x w3 ⟨rfl,rfl⟩;cases hq:iP ⟨dZ,acc,asks⟩==l
     ·go_wp2_with fail
      have hx:=MA.Cz (.slice none 0 0) (.slice none 0 0) (.int .i64 0);refine aM (fe rfl _ _ rfl hx.wP) rfl ?_;refine⟨((hb.setCell (ag _) _).setCell (ag _) _).setCell (ag _) _,_,_,⟨[],[],0⟩,_,rfl,⟨eg.nil _,fY.nil _,⟨by show(-9223372036854775808:Int) <=0;omega,by show(0:Int) <=9223372036854775807;omega⟩,by simp,by simp⟩, .inr ⟨rfl,rfl,?_⟩⟩;rintro⟨s,g1,g2,g3⟩;have h3:=(KEY.out s g1 g2 g3).1;rw [h3]at g3;simp [g3]at hq
     ·go_wp2_with fail
      have hx:=MA.Cz (.slice au dZ.length KD) (.slice av acc.length KX) (.int .i64 asks);have Mn:=vU w2 w.heap.size (.slice au dZ.length KD) (.slice av acc.length KX) (.int .i64 asks);refine aM (fe rfl _ _ rfl hx.wP) rfl ?_;refine⟨((hb.setCell (ag _) _).setCell (ag _) _).setCell (ag _) _,_,_,⟨dZ,acc,asks⟩,_,rfl,⟨OK.out.keeps Mn (fun a n cp he hj=>by have:=(HUB.out a n cp he).1;omega),(HOF2.out.keeps Mn (fun i h=>by omega)).jX,Ky.out.2.2⟩, .inl ⟨rfl,HM.out,by simpa using hq⟩⟩
    ·have HM:=V hm
     clear hm;have e1:=bR (P:=prog) w2 97 5 none 0 0 0 0 (by kernel_rfl);rw [de]at e1;go_wp2_with fail;have hx:=MA.Cz (.slice none 0 0) (.slice none 0 0) (.int .i64 0);refine aM (fe rfl _ _ rfl hx.wP) rfl ?_;refine⟨((hb.setCell (ag _) _).setCell (ag _) _).setCell (ag _) _,_,_,⟨[],[],0⟩,_,rfl,⟨eg.nil _,fY.nil _,⟨by show(-9223372036854775808:Int) <=0;omega,by show(0:Int) <=9223372036854775807;omega⟩,by simp,by simp⟩, .inr ⟨rfl,rfl,?_⟩⟩;rintro⟨s,g1,g2,g3⟩;have h3:=(KEY.out s g1 g2 g3).1;rw [h3]at g1;exact HM.out g1
  have f0:decide ((0:Int) < (n:Int))=true:=aA (by omega);cases s with
  | none=>
   have c1:w1.cell? ⟨w0.heap.size,1,none⟩=some (.bool true):=c1;rw [xv,bO]at hv;have HC:=V (show qc (some l)=(⟨dZ,acc,asks⟩,(none:Option (List UInt8)))from hv);have key:∀y:gL,y.may ->y.ok ->iP y=l ->y=⟨dZ,acc,asks⟩/\(none:Option (List UInt8))=some []:=by
    intro y h1 h2 h3;have h4:=mV y h1 h2;rw [h3,HC.out]at h4;injection h4 with h4 h5;exact⟨h4.symm,h5⟩
   have KEY:=V key;have KS:jA w1 (.slice au dZ.length KD) (.slice av acc.length KX) ⟨dZ,acc,asks⟩:=⟨hu,Pe.out.jX,⟨by show(-9223372036854775808:Int) <=asks;omega,by show asks <=9223372036854775807;omega⟩,HVO.out,by obtain⟨_,_,_,h,_⟩:=Pe.out;exact h⟩;have Ky:=V KS;obtain⟨s0,s1,s2⟩:=hS.three;clear key hv hlen KS HC;go_wp2_with fail;refine(mf _ _ ⟨dZ,acc,asks⟩ w1 Ky.out).mono ?_;rintro x w2 ⟨c,rfl,Kx,hc⟩;obtain⟨ar,nr,Pb,PE,-⟩:=K5.out.below Kx;have d1:w2.cell? ⟨w0.heap.size,1,none⟩=some (.bool true):=PE.cell 1;have MA:=hC.below Kx hC.lt;obtain⟨c0',c1',c2'⟩:=MA.three;have z0:=MA.free 0;have z1:=MA.free 1;have z2:=MA.free 2;have Qh:=hS.below Kx hS.lt;obtain⟨s0',s1',s2'⟩:=Qh.three;have Lm:=HB.out.below ((hb.trans (Kx.mono hb.size)).mono (ag _));have HBL:=V Lm;have MC:=V Kx.size;have HOF2:=V (Pe.out.keeps (T:=fun _=>False) (dU.dW Kx) (fun _ h=>h.elim));have OK:=V (hu.below Kx);replace hb:=hb.trans (Kx.mono hb.size);clear PE Lm Kx c1 hC s0 s1 s2 hu hS;clear hc;go_wp2_with fail;have hx:=MA.Cz (.slice none 0 0) (.slice none 0 0) (.int .i64 0);refine aM (fe rfl _ _ rfl hx.wP) rfl ?_;refine⟨((hb.setCell (ag _) _).setCell (ag _) _).setCell (ag _) _,_,_,⟨[],[],0⟩,_,rfl,⟨eg.nil _,fY.nil _,⟨by show(-9223372036854775808:Int) <=0;omega,by show(0:Int) <=9223372036854775807;omega⟩,by simp,by simp⟩, .inr ⟨rfl,rfl,?_⟩⟩;rintro⟨s,g1,g2,g3⟩;have:=(KEY.out s g1 g2 g3).2;cases this
  | some s=>
   have c1:w1.cell? ⟨w0.heap.size,1,none⟩=some (.bool false):=c1;obtain⟨n',rfl⟩:∃n',n=n'+1:=⟨n - 1,by omega⟩;have HV:=V hv;obtain⟨Mo,r1,e0⟩:∃x t,jd (some s)=(x,t):=⟨_,_,rfl⟩;obtain⟨x0,r2,e1⟩:∃x t,fH r1=(x,t):=⟨_,_,rfl⟩;obtain⟨x1,r3,e2⟩:∃x t,fH r2=(x,t):=⟨_,_,rfl⟩;obtain⟨x2,r4,e3⟩:∃x t,fH r3=(x,t):=⟨_,_,rfl⟩;obtain⟨k0,r5,e4⟩:∃x t,fH r4=(x,t):=⟨_,_,rfl⟩;have b1:=lE r1;have b2:=lE r2;have b3:=lE r3;have b4:=lE r4;have t1:=Fs r1;have t2:=mF r2;have t3:=mF r3;have t4:=mF r4;rw [e1]at b1 t1;rw [e2]at b2 t2;rw [e3]at b3 t3;rw [e4]at b4 t4;simp only at b1 b2 b3 b4 t1 t2 t3 t4;have N3:oG (some s)=s.length+1:=rfl;have OP:acc.length <=400001:=by omega
   have Md:oG (some s) <=500000:=by omega
   have HT:=V (show oG r1 <=oG (some s) ->∀r6,oG r6 <=oG r5 ->acc.length+1+oG r6 <=l.length+1 by intro _ r6 _;omega);have HT5:=V (show oG r1 <=oG (some s) ->oG r5 <=500000 by intro _;omega);clear hv hlen t1 t2 t3 t4 N3;go_wp2_with fail;refine(vR w.heap.size w0.heap.size (some s) w1 K5.out Md (by omega)).mono ?_;rintro x w2 ⟨u,rfl,hou,hvo,MN,ND,KB⟩;rw [e0]at hou hvo MN ND;simp only at hou hvo MN ND;have N1:=KB.size;have hui:=hou.fy fK;have hub:=hou.block;obtain⟨au',MD,rfl,-,hcu',-⟩:=id hui;unfold maxLen at hcu';have HLV:=V hvo;have HT:=V (HT.out (by omega));have hT5:=HT5.out (by omega);have HUI:=V hui;have HUR:=V hub;have HR2:=V ND;clear hou hvo MN ND hui hub HT5 K5 c1;go_wp2_with fail;refine(kk w.heap.size w0.heap.size r1 w2 HR2.out).mono ?_;rintro x w3 ⟨rfl,Qd,K7⟩;rw [e1]at Qd⊢;have HR3:=V Qd;have N2:=K7.size;clear Qd HR2;go_wp2_with fail;refine(kk w.heap.size w0.heap.size r2 w3 HR3.out).mono ?_;rintro x w4 ⟨rfl,hr4,Of⟩;rw [e2]at hr4⊢;have HR4:=V hr4;have hsz4:=Of.size;clear hr4 HR3;go_wp2_with fail;refine(kk w.heap.size w0.heap.size r3 w4 HR4.out).mono ?_;rintro x w5 ⟨rfl,hr5,NR⟩;rw [e3]at hr5⊢;have HR5:=V hr5;have hsz5:=NR.size;have hk25:dU (fun k=>k=w0.heap.size) w2 w5:=(K7.trans Of (fun i h=> .inl h)).trans NR (fun i h=> .inl h);have hk15:dU (fun k=>k=w0.heap.size) w1 w5:=KB.trans hk25 (fun i h=> .inl h);have OQ:=V (HUI.out.keeps hk25 (fun a n cp he hj=>by have:=(HUR.out a n cp he).1;omega));have HLOB:=V (show∀a n cp,Value.slice au' Mo.length MD= .slice (some a) n cp ->w1.heap.size <=a.block/\a.block < w5.heap.size from fun a n cp he=>by have:=HUR.out a n cp he;omega);have hsz15:=hk15.size;clear hr5 HR4 KB K7 Of NR hk25 HUI N2 hsz4;go_wp2_with fail;have hF0:=eG.new w5 #[.int .i64 x0, .int .i64 x1, .slice au' Mo.length MD, .int .i64 x2, .slice none 0 0] 40;have hr5:=HR5.out.below ((an w5.heap.size w5).alloc (ag _) (.cells #[.int .i64 x0, .int .i64 x1, .slice au' Mo.length MD, .int .i64 x2, .slice none 0 0] 40));have hka:=(dU.refl (fun k=>k=w0.heap.size) w5).alloc (.cells #[.int .i64 x0, .int .i64 x1, .slice au' Mo.length MD, .int .i64 x2, .slice none 0 0] 40);obtain⟨F,hF⟩:∃F,F=w5.heap.size:=⟨_,rfl⟩;rw [<- hF]at hF0⊢;have hFa:w5.heap.size <=F:=by omega
   have hFb:F < w5.heap.size+1:=by omega
   clear hF;refine(kk w.heap.size w0.heap.size r4 _ hr5).mono ?_;rintro x w6 ⟨rfl,hr6,O4⟩;rw [e4]at hr6⊢;have hF6:=hF0.keeps O4 (by omega);have NS:=hka.trans O4 (fun i h=> .inl h);clear O4 hka hF0 hr5 HR5;have HRO:=HR;clear HR;go_wp2_with fail;refine eB (fun a' w'=>∃(v:Value) (LL:List kR) (k:Nat) (r:Option (List UInt8)),a'=fr (.slice a l.length cap::gs a' 1 1 (.pointer (some ⟨w.heap.size,0,none⟩):: .int .i64 0:: .pointer (some ⟨w0.heap.size,0,none⟩):: .pointer (some ⟨Sb,0,none⟩):: .int .i64 ((n'+1:Nat):Int):: .pointer (some ⟨F,0,none⟩):: .int .i64 k::gs a' 9 79 []))/\Jl w.heap.size w0.heap.size F (fun v=>#[.int .i64 x0, .int .i64 x1, .slice au' Mo.length MD, .int .i64 x2,v]) k0 r5 w5 w' v LL k r) (fun a' _=>(intOf (a'.tmps.getD 8 undef)).toNat) ?_ ?_
   ·exact⟨_,[],k0,r5,rfl,⟨by simp,dT.nil _ _,by simp,by simp,hr6,hF6,NS,b4⟩⟩
   ·clear hr6 hF6 NS b4
    rintro R a' w7 ⟨v,LL,k,r,Kw,hJ⟩ HR;dsimp only [fr,gs]at Kw;generalize slot a'=f at Kw;subst Kw;obtain⟨MN,QO,hokl,hlenl,Lp,hF,NS,hk⟩:=hJ;obtain⟨al,NT,rfl,-,O8,-⟩:=QO.fy lK;unfold maxLen at O8;obtain⟨ar,nr,Pb,KP,_⟩:=id Lp;have c1:w7.cell? ⟨w0.heap.size,1,none⟩=some (.bool r.isNone):=KP.cell 1;clear KP;rcases aZ k with Po | Po
    ·subst Po
     rw [nF]at MN;have HFR:=V (show ot (some s)=(⟨x0,x1,Mo,x2,LL⟩,r)by
      rw [ot,e0,e1,e2,e3,e4,MN];simp)
     obtain⟨f0',f1',f2',f3',f4'⟩:=hF.rY;have HR6:=V Lp;have NA:=hk15.trans NS (fun i h=> .inl h);have hof6:=Pe.out.keeps NA (fun i h=>by omega);have hS6:=hS.keeps NA (by omega);have hC6:=hC.keeps NA (by omega);have hu6:=hu.keeps NA (fun a n cp he hj=>by have:=(HUB.out a n cp he).1;omega);have Ny:=hb.trans (NA.below hb.size (fun i h=>by omega));have hl6:=OQ.out.keeps NS (fun a n cp he hj=>by have:=(HLOB.out a n cp he).1;omega);have hlb:=QO.block;have QP:=QO.fy lK;have Qi:∀i,eA (.slice av acc.length KX) i ->i < w1.heap.size:=fun i hi=>(Pe.out.lt hi).2;have Qj:∀u:Value,(∀a n cp,u= .slice (some a) n cp ->w1.heap.size <=a.block/\a.block < w7.heap.size) ->uU (Sb+1) w7 (.slice av acc.length KX) u:=fun u hx a n cp he=>by
      obtain⟨g1,g2⟩:=hx a n cp he;exact⟨by omega,g2,fun h=>by have:=Qi _ h;omega⟩
     have hsz56:=NS.size;have hsz16:=NA.size;have HU6:=V (show(eg 2 gb w7 (Value.slice au' Mo.length MD) Mo/\uU (Sb+1) w7 (.slice av acc.length KX) (.slice au' Mo.length MD))/\eg 2 kp w7 (.slice al LL.length NT) LL/\uU (Sb+1) w7 (.slice av acc.length KX) (.slice al LL.length NT)from
      ⟨⟨hl6,Qj _ (fun a n cp he=>by have:=HLOB.out a n cp he;omega)⟩,QP,Qj _ (fun a n cp he=>by have:=hlb a n cp he;omega)⟩)
     have HOKF:=V (show eV.ok ⟨x0,x1,Mo,x2,LL⟩from⟨⟨by show(-9223372036854775808:Int) <=(x0:Int);omega,by show(x0:Int) <=9223372036854775807;omega⟩,⟨by show(-9223372036854775808:Int) <=(x1:Int);omega,by show(x1:Int) <=9223372036854775807;omega⟩,⟨by show(-9223372036854775808:Int) <=(x2:Int);omega,by show(x2:Int) <=9223372036854775807;omega⟩,HLV.out,hokl⟩);obtain⟨p0,p1,p2⟩:=hS6.three;have HTL:=V (show acc.length+1+oG r <=l.length+1 from HT.out _ (by omega));clear MN hokl Lp hk15 NS hl6 hlb QP Qi Qj e0 e1 e2 e3 e4 hC hS hu hb HLOB OQ HUR HT hlenl QO hF;go_wp2_with (first | (at_builtin;refine Stop.out ?_));change wpList _ _ _ _ _ (World.alloc _ (.cells #[.int .i64 x0, .int .i64 x1, .slice au' Mo.length MD, .int .i64 x2, .slice al LL.length NT] 40));obtain⟨us,k1,k2,k3,k4⟩:=hof6;have hzl:(acc.zip us).length <=400002:=by rw [bG];omega
     refine eT w7 rfl _ _ 35 rfl _ 72 (by kernel_rfl) mX rfl (by decide) (by decide) (Sb+1) (.slice av acc.length KX) (acc.zip us) rfl k2 ((⟨x0,x1,Mo,x2,LL⟩,(.slice au' Mo.length MD, .slice al LL.length NT)):eV × Value × Value) _ rfl rfl (by intro q hq;simp only [lZ,bB,bJ,cM]at hq;rcases hq with rfl | rfl | rfl | rfl | rfl <;>rfl) rfl (by omega) (by omega) ?_;intro v8 w8 ho8 M0 hs8;have Ku:∀i,eA (.slice av acc.length KX) i ->Sb+1 <=i:=fun i hi=>(et k2 hi).1;have NU:=gV.app k1 k3 k4 M0 hs8 HOKF.out HU6.out ho8;generalize hA:acc++[(⟨x0,x1,Mo,x2,LL⟩:eV)]=NB at NU;have HA:=V hA;clear hA;have hr8:=HR6.out.keeps M0 (fun h=>by have:=Ku _ h;omega) (fun i hi=>by have:=Ku _ hi;omega);have hC8:=hC6.keeps M0 (fun h=>by have:=Ku _ h;omega);have hS8:=hS6.keeps M0 (fun h=>by have:=Ku _ h;omega);have hu8:=hu6.keeps M0 (fun a n cp he hj=>by have:=(HUB.out a n cp he).2;have:=Ku _ hj;omega);have hb8:=Ny.trans (M0.below (by omega) (fun i hi=>by have:=Ku _ hi;omega));obtain⟨av8,PF,rfl,-,-⟩:=NU.jX.slice;have y1:=hS8.free 1;obtain⟨q0',q1',q2'⟩:=hS8.three;have Mn:=jb w8 Sb 1 (.slice av8 NB.length PF);have hof9:=NU.keeps Mn (fun i h=>by omega);have hr9:=hr8.keeps Mn (by omega) (fun i h=>by omega);have hC9:=hC8.keeps Mn (by omega);have hS9:=hS8.set 1 (.slice av8 NB.length PF);have hu9:=hu8.keeps Mn (fun a n cp he hj=>by have:=(HUB.out a n cp he).2;omega);have hb9:=hb8.trans (Mn.below hb8.size (fun i h=>by omega));have HOF9:=V hof9;have HR9:=V hr9;have HC9:=V hC9;have HS9:=V hS9;have HU9:=V hu9;clear hof9 hr9 hC9 hS9 hu9 Mn NU hr8 hC8 hS8 hu8 hb8 Ku ho8 M0 hs8 k1 k2 k3 k4 hC6 hS6 hu6 Ny NA p0 p1 p2 f0' f1' f2' f3' f4' c1;go_wp2_with fail;refine HRO.out _ _ ⟨_,NB,n',r,rfl,⟨?_,HOF9.out,?_,HR9.out,HC9.out,by simpa using HS9.out,HU9.out,hb9,by omega⟩⟩ ?_
     ·rw [HV.out,jR,HFR.out, <- HA.out]
      simp
     ·rw [<- HA.out,ah]
      exact HTL.out
     ·simp [intOf]
    have f1:decide ((0:Int) < (k:Int))=true:=aA (by omega);cases r with
    | none=>
     have c1:w7.cell? ⟨w0.heap.size,1,none⟩=some (.bool true):=c1;rw [An]at MN;have HFR:=V (show ot (some s)=(⟨x0,x1,Mo,x2,LL⟩,(none:Option (List UInt8)))by
      rw [ot,e0,e1,e2,e3,e4,MN];simp)
     obtain⟨f0',f1',f2',f3',f4'⟩:=hF.rY;have HR6:=V Lp;have NA:=hk15.trans NS (fun i h=> .inl h);have hof6:=Pe.out.keeps NA (fun i h=>by omega);have hS6:=hS.keeps NA (by omega);have hC6:=hC.keeps NA (by omega);have hu6:=hu.keeps NA (fun a n cp he hj=>by have:=(HUB.out a n cp he).1;omega);have Ny:=hb.trans (NA.below hb.size (fun i h=>by omega));have hl6:=OQ.out.keeps NS (fun a n cp he hj=>by have:=(HLOB.out a n cp he).1;omega);have hlb:=QO.block;have QP:=QO.fy lK;have Qi:∀i,eA (.slice av acc.length KX) i ->i < w1.heap.size:=fun i hi=>(Pe.out.lt hi).2;have Qj:∀u:Value,(∀a n cp,u= .slice (some a) n cp ->w1.heap.size <=a.block/\a.block < w7.heap.size) ->uU (Sb+1) w7 (.slice av acc.length KX) u:=fun u hx a n cp he=>by
      obtain⟨g1,g2⟩:=hx a n cp he;exact⟨by omega,g2,fun h=>by have:=Qi _ h;omega⟩
     have hsz56:=NS.size;have hsz16:=NA.size;have HU6:=V (show(eg 2 gb w7 (Value.slice au' Mo.length MD) Mo/\uU (Sb+1) w7 (.slice av acc.length KX) (.slice au' Mo.length MD))/\eg 2 kp w7 (.slice al LL.length NT) LL/\uU (Sb+1) w7 (.slice av acc.length KX) (.slice al LL.length NT)from
      ⟨⟨hl6,Qj _ (fun a n cp he=>by have:=HLOB.out a n cp he;omega)⟩,QP,Qj _ (fun a n cp he=>by have:=hlb a n cp he;omega)⟩)
     have HOKF:=V (show eV.ok ⟨x0,x1,Mo,x2,LL⟩from⟨⟨by show(-9223372036854775808:Int) <=(x0:Int);omega,by show(x0:Int) <=9223372036854775807;omega⟩,⟨by show(-9223372036854775808:Int) <=(x1:Int);omega,by show(x1:Int) <=9223372036854775807;omega⟩,⟨by show(-9223372036854775808:Int) <=(x2:Int);omega,by show(x2:Int) <=9223372036854775807;omega⟩,HLV.out,hokl⟩);obtain⟨p0,p1,p2⟩:=hS6.three;have HTL:=V (show acc.length+1+oG (none:Option (List UInt8)) <=l.length+1 from HT.out _ (by omega));clear MN hokl Lp hk15 NS hl6 hlb QP Qi Qj e0 e1 e2 e3 e4 hC hS hu hb HLOB OQ HUR HT hlenl QO hF;go_wp2_with (first | (at_builtin;refine Stop.out ?_));change wpList _ _ _ _ _ (World.alloc _ (.cells #[.int .i64 x0, .int .i64 x1, .slice au' Mo.length MD, .int .i64 x2, .slice al LL.length NT] 40));obtain⟨us,k1,k2,k3,k4⟩:=hof6;have hzl:(acc.zip us).length <=400002:=by rw [bG];omega
     refine eT w7 rfl _ _ 35 rfl _ 72 (by kernel_rfl) mX rfl (by decide) (by decide) (Sb+1) (.slice av acc.length KX) (acc.zip us) rfl k2 ((⟨x0,x1,Mo,x2,LL⟩,(.slice au' Mo.length MD, .slice al LL.length NT)):eV × Value × Value) _ rfl rfl (by intro q hq;simp only [lZ,bB,bJ,cM]at hq;rcases hq with rfl | rfl | rfl | rfl | rfl <;>rfl) rfl (by omega) (by omega) ?_;intro v8 w8 ho8 M0 hs8;have Ku:∀i,eA (.slice av acc.length KX) i ->Sb+1 <=i:=fun i hi=>(et k2 hi).1;have NU:=gV.app k1 k3 k4 M0 hs8 HOKF.out HU6.out ho8;generalize hA:acc++[(⟨x0,x1,Mo,x2,LL⟩:eV)]=NB at NU;have HA:=V hA;clear hA;have hr8:=HR6.out.keeps M0 (fun h=>by have:=Ku _ h;omega) (fun i hi=>by have:=Ku _ hi;omega);have hC8:=hC6.keeps M0 (fun h=>by have:=Ku _ h;omega);have hS8:=hS6.keeps M0 (fun h=>by have:=Ku _ h;omega);have hu8:=hu6.keeps M0 (fun a n cp he hj=>by have:=(HUB.out a n cp he).2;have:=Ku _ hj;omega);have hb8:=Ny.trans (M0.below (by omega) (fun i hi=>by have:=Ku _ hi;omega));obtain⟨av8,PF,rfl,-,-⟩:=NU.jX.slice;have y1:=hS8.free 1;obtain⟨q0',q1',q2'⟩:=hS8.three;have Mn:=jb w8 Sb 1 (.slice av8 NB.length PF);have hof9:=NU.keeps Mn (fun i h=>by omega);have hr9:=hr8.keeps Mn (by omega) (fun i h=>by omega);have hC9:=hC8.keeps Mn (by omega);have hS9:=hS8.set 1 (.slice av8 NB.length PF);have hu9:=hu8.keeps Mn (fun a n cp he hj=>by have:=(HUB.out a n cp he).2;omega);have hb9:=hb8.trans (Mn.below hb8.size (fun i h=>by omega));have HOF9:=V hof9;have HR9:=V hr9;have HC9:=V hC9;have HS9:=V hS9;have HU9:=V hu9;clear hof9 hr9 hC9 hS9 hu9 Mn NU hr8 hC8 hS8 hu8 hb8 Ku ho8 M0 hs8 k1 k2 k3 k4 hC6 hS6 hu6 Ny NA p0 p1 p2 f0' f1' f2' f3' f4' c1;go_wp2_with fail;refine HRO.out _ _ ⟨_,NB,n',(none:Option (List UInt8)),rfl,⟨?_,HOF9.out,?_,HR9.out,HC9.out,by simpa using HS9.out,HU9.out,hb9,by omega⟩⟩ ?_
     ·rw [HV.out,jR,HFR.out, <- HA.out]
      simp
     ·rw [<- HA.out,ah]
      exact HTL.out
     ·simp [intOf]
    | some r=>
     have c1:w7.cell? ⟨w0.heap.size,1,none⟩=some (.bool false):=c1;obtain⟨k',rfl⟩:∃k',k=k'+1:=⟨k - 1,by omega⟩;have HVL:=V MN;have HOKL:=V hokl;obtain⟨y0,q1,g0⟩:∃x t,fH (some r)=(x,t):=⟨_,_,rfl⟩;obtain⟨y1,q2,g1⟩:∃x t,fH q1=(x,t):=⟨_,_,rfl⟩;have by0:=lE (some r);have by1:=lE q1;have ty0:=sL r;have ty1:=mF q1;rw [g0]at by0 ty0;rw [g1]at by1 ty1;simp only at by0 by1 ty0 ty1;have HLL:=V (show LL.length+1+oG q2 <=oG r5 by omega);have MK:LL.length <=500000:=by omega
     have HRD7:=V Lp;have HOL:=V QO;have hlab:=hF.cell 4;have hlab:w7.cell? ⟨F,4,none⟩=some (.slice al LL.length NT):=hlab;have hFlt:=hF.lt;clear MN hokl hlenl ty0 ty1 Lp QO;go_wp2_with fail;refine eO (fun w'=>w'.cell? ⟨F,4,none⟩=some (.slice al LL.length NT)) 10
      (up 0 3 ((4,true)::(3,false)::(5,false)::(6,false)::(7,false)::(8,false)::(9,true)::[])) (by kernel_rfl) (by kernel_rfl) hlab ?_
     clear c1 hlab;iterate 4 (first | (apply sk rfl rfl;simp only [pt]) | (apply dV rfl rfl rfl;·(rintro w' t0;go_wp2;exact⟨rfl,rfl,rfl⟩)))
     refine ed rfl rfl ?_;go_wp2_with fail;refine(kk w.heap.size w0.heap.size (some r) w7.drew HRD7.out).mono ?_;rintro x w8 ⟨rfl,hr8,M0⟩;rw [g0]at hr8⊢;have hF8:=hF.drew.keeps M0 (by omega);have hk78:=M0.AF;clear M0;go_wp2_with fail;refine⟨hF8.cell 4,?_⟩;refine ed rfl rfl ?_;go_wp2_with fail;refine(kk w.heap.size w0.heap.size q1 w8 hr8).mono ?_;rintro x w9 ⟨rfl,hr9,hk9⟩;rw [g1]at hr9⊢;have hF9:=hF8.keeps hk9 (by omega);have hk79:=hk78.trans hk9 (fun i h=> .inl h);have hsz79:=hk79.size;have hsz57:=NS.size;have hol9:=HOL.out.keeps hk79 (fun i hi=>by have:=(et HOL.out hi).1;omega);have hk59:=NS.trans hk79 (fun i h=> .inl h);have HR9:=V hr9;clear hk78 hk9 hF8 hr8 hr9 hk79 NS HRD7 HOL hF;go_wp2_with fail;refine⟨hF9.cell 4,?_⟩;refine ed rfl rfl ?_;go_wp2_with fail;refine⟨hF9.cell 4,?_⟩;refine ed rfl rfl ?_;go_wp2_with fail;refine⟨(hF9.alloc _).cell 4,?_⟩;refine ed rfl rfl ?_;refine eT w9 rfl _ _ 38 rfl _ 16 (by kernel_rfl) tJ rfl (by decide) (by decide) (F+1) (.slice al LL.length NT) LL rfl hol9 (⟨y0,y1⟩:kR) _ rfl rfl (xV _) rfl (by omega) (by omega) ?_;intro v10 w10 OR O9 hs10;have Ku:∀i,eA (.slice al LL.length NT) i ->F+1 <=i:=fun i hi=>(et hol9 hi).1;have hr10:=HR9.out.keeps O9 (fun h=>by have:=Ku _ h;omega) (fun i hi=>by have:=Ku _ hi;omega);have hF10:=hF9.keeps O9 (fun h=>by have:=Ku _ h;omega);have hk5a:=hk59.trans O9 (fun i h=> .inr (by have:=Ku _ h;omega));generalize hA:LL++[(⟨y0,y1⟩:kR)]=NB at OR;have HA:=V hA;obtain⟨a9,cap9,rfl,-,-⟩:=OR.fy lK;clear hA O9 hs10 Ku hk59 hF9 hol9 HR9;have y1':=hF10.free 4;have hlab:w10.cell? ⟨F,4,none⟩=some (.slice al LL.length NT):=hF10.cell 4;go_wp2_with fail;refine⟨hlab,?_⟩;iterate 1 (first | (apply sk rfl rfl;simp only [pt]) | (apply dV rfl rfl rfl;·(rintro w' t0;go_wp2;exact⟨rfl,rfl,rfl⟩)))
     refine fG rfl rfl ?_;have Mn:=jb w10 F 4 (.slice a9 NB.length cap9);have hlx:=OR.keeps Mn (fun i hi=>by have:=(et OR hi).1;omega);have hrx:=hr10.keeps Mn (by omega) (fun i h=>by omega);have hFx:=hF10.set 4 (.slice a9 NB.length cap9);have hk5x:=hk5a.trans Mn (fun i h=> .inr (by omega));have HLX:=V hlx;have HRX:=V hrx;have HFX:=V hFx;clear hlx hrx hFx Mn hk5a OR hr10 hF10;go_wp2_with fail;refine⟨trivial,?_⟩;refine aD ?_;go_wp2_with fail;refine HR.out _ _ ⟨_,NB,k',q2,rfl,⟨?_,HLX.out,?_,?_,HRX.out,by simpa using HFX.out,hk5x,by omega⟩⟩ ?_
     ·rw [HVL.out,nF,g0]
      simp only [g1, <- HA.out];simp
     ·rw [<- HA.out]
      intro z hz;rcases bx.1 hz with h | h
      ·exact HOKL.out z h
      ·obtain rfl:=aV.1 h
       exact⟨⟨by show(-9223372036854775808:Int) <=(y0:Int);omega,by show(y0:Int) <=9223372036854775807;omega⟩,by show(-9223372036854775808:Int) <=(y1:Int);omega,by show(y1:Int) <=9223372036854775807;omega⟩
     ·rw [<- HA.out,ah]
      exact HLL.out
     ·simp [intOf]
theorem ey {P:Program} {fn:Func} {t0:Tmp} {ty:TypeId} (h:fn.results=#[.cell t0 ty]) (tmps:Array Value) (w:World) {a:Addr} {v:Value} (ht:tmps.getD t0 undef= .pointer (some a))
  (hl:(loadVar ty a).run P w= .ok v w):(results fn tmps).run P w= .ok v w:=by
 have ht':tmps[t0]?.getD undef= .pointer (some a):=by simpa using ht
 simp [results,h,ht',asAddr,hl]
theorem dU.cell {S:Nat ->Prop} {w w':World} (h:dU S w w') {p:Addr} (hp:p.block < w.heap.size) (hs:¬ S p.block):w'.cell? p=w.cell? p:=bm (h.block p.block hp hs)
section
section
variable {α:Type} {k:Nat} {enc:α ->List Value} {t:TypeId}
theorem kG {P:Program} (w:World) {ops:Array Oper} {rest:List Oper} {o:Oper} {a:Act} {Q:Exit ->Act ->World ->Prop} (N0:o.guard=none) (s x:Operand) (ts:TypeId)
  (ho:o.op= .call {callee:= .builtin .append,args:=#[s,x],argTypes:=#[ts,ts]})
  (z:Value) (bytes:Nat) (ht:P.underlying ts=some (.slice t)) (hi:(P.info? t).map (fun i=>(i.zero,i.size,i.bytes))=some (some z,k,bytes)) (hzs:z.cells.size=k) (h0:0 < k) (Nf:bytes <=100000000)
  (B:Nat) (v:Value) (l:List α) (hs:a.eval s=v) (Ku:dT t k enc w B v l) (hk:∀x,(enc x).length=k)
  (m:List α) (ad:Addr) (n c:Nat) (hx:a.eval x= .slice (some ad) n c) (hm:eg k enc w (.slice (some ad) n c) m) (h1:∀y∈m,∀u∈enc y,u.oneCell'=true)
  (OI:l.length+m.length <=1000000) (K3:B <=w.heap.size)
  (h:∀v' w',dT t k enc w' B v' (l++m) ->dU (eA v) w w' ->eE w v v' ->wpList P ops Q rest (a.put o.dst v') w'):
  wpList P ops Q (o::rest) a w:=by
 obtain⟨i0,hi,M5,LR,Mz⟩:=bX hi;obtain⟨a',KR,hv,Mj,Lj,hc3⟩:=hm;injection hv with e1 e2 e3;subst e1 e2 e3;refine qA (P:=P) w N0 s x ts ho B t i0 z k bytes ht hi M5 LR Mz hzs h0 v l.length (l.flatMap enc) hs Ku ad m.length c (m.flatMap enc) hx (jQ hk m) ?_ ?_ (by simp only [maxLen];omega) ?_ K3 ?_
 ·intro j u hu
  have hj:j < m.length*k:=by rw [<- jQ hk];exact(aN.1 hu).1
  have hjk:j/k < m.length:=Nat.div_lt_of_lt_mul (by rw [Nat.mul_comm];exact hj);obtain⟨y,hy⟩:∃y,m[j/k]?=some y:=⟨_,aq hjk⟩;obtain⟨b,off,ha,KC,hc⟩:=hc3 _ y hy;injection ha with ha;subst ha;have h3:=qJ hk m (j/k) y (j %k) hy (Nat.mod_lt _ h0);have h4:j/k*k+j %k=j:=Nat.div_add_mod' j k;rw [h4,hu]at h3;have h5:=hc (j %k) u h3.symm;have Oq:(⟨b,off,none⟩:Addr).add j=⟨b,off+j,none⟩:=by unfold Addr.add;split <;>simp_all
  rw [Oq, <- h5]
  congr 2
  omega
 ·intro u hu
  obtain⟨y,hy,hu⟩:=List.mem_flatMap.1 hu;exact h1 y hy u hu
 ·have:(l.length+m.length)*bytes <=1000000*100000000:=Nat.mul_le_mul (by omega) Nf
  omega
 ·intro v' w' h2 h3 h4
  refine h v' w' ?_ h3 h4;simpa [dT] using h2
theorem xU (hk:∀x,(enc x).length=k):∀(l:List α) (i:Nat) (x y:α) (j:Nat) (u:Value),l[i]?=some x ->j < k ->enc y=(enc x).set j u ->(l.set i y).flatMap enc=(l.flatMap enc).set (i*k+j) u
 | [],i,x,y,j,u,h,_,_=>by simp at h
 | d::l,0,x,y,j,u,h,hj,he=>by
  simp at h;subst h;rw [bF,bP,bP,he,List.set_append_left _ _ (by rw [hk];omega)];simp
 | d::l,i+1,x,y,j,u,h,hj,he=>by
  rw [bD,bP,bP,List.set_append_right _ _ (by rw [hk,cR];omega)];rw [show(i+1)*k+j - (enc d).length=i*k+j from by rw [hk,cR];omega];rw [xU hk l i x y j u (by simpa using h) hj he]
theorem dT.set {w:World} {B g n cap:Nat} {l:List α} (hk:∀x,(enc x).length=k) (h:dT t k enc w B (.slice (some ⟨g,0,none⟩) n cap) l) {i j:Nat} {x y:α} {u:Value} (hx:l[i]?=some x) (hj:j < k) (he:enc y=(enc x).set j u):
  dT t k enc (w.setCell ⟨g,i*k+j,none⟩ u) B (.slice (some ⟨g,0,none⟩) n cap) (l.set i y):=by
 obtain⟨hl,hv | ⟨g',KR,cur,hv,hb,hg,hn,hm,hs,ht⟩⟩:=h
 ·cases hv.1
 ·injection hv with e1 e2 e3
  injection e1 with e1;injection e1 with e1 e4;subst e1 e2 e3;refine⟨by rw [jQ hk], .inr ⟨g,cap,cur.setIfInBounds (i*k+j) u,by rw [dj],hb,heap_setCell_same w g _ cur _ _ hg,by rw [dj];exact hn,hm,by simpa using hs,?_⟩⟩;rw [xU hk l i x y j u hx hj he,dj];rw [Array.toList_setIfInBounds,List.take_set,ht]
theorem dT.open {w:World} {B:Nat} {v:Value} {l:List α} (h:dT t k enc w B v l) (hl:l≠[]):∃g cap cur,v= .slice (some ⟨g,0,none⟩) l.length cap/\B <=g/\g < w.heap.size/\w.heap[g]?=some (.cells cur t)/\l.length <=cap/\cap <=maxLen:=by
 obtain⟨_,hv | ⟨g,cap,cur,hv,hb,hg,hn,hm,hs,ht⟩⟩:=h
 ·exact absurd (aH hv.2) hl
 ·exact⟨g,cap,cur,hv,hb,(cg.1 hg).1,hg,hn,hm⟩
theorem dT.empty (w:World):dT t k enc (w.alloc (.cells #[] t)) w.heap.size (.slice (some ⟨w.heap.size,0,none⟩) 0 0) []:=
 ⟨by simp, .inr ⟨w.heap.size,0,#[],rfl,ag _,dt w _,ag _,by simp [maxLen],by simp,by simp⟩⟩
def tA (t:TypeId) (k:Nat) (enc:α ->List Value) (l:List α) (w:World) (e:Ending) (w':World):Prop:=∃v,e= .returned v/\dT t k enc w' w.heap.size v l/\Below w.heap.size w w'
end
theorem mL (v:Value) (l:List fa) (w:World) (hl:eg 2 gb w v l) (Ok:l.length <=1000000):Calls prog 36 #[v] w (tA 42 2 gb l w):=by
 obtain⟨a,cap,rfl,h1,h2,h3⟩:=id hl;unfold maxLen at h2;have HI:=V hl;cases a with
 | none=>
  obtain rfl:l=[]:=by
   cases l with
   | nil=>rfl
   | cons x l=>
    obtain⟨_,_,h,_⟩:=h3 0 x rfl;cases h
  clear h3 hl;have e1:=bR (P:=prog) w 30 42 none 0 cap 0 0 (by kernel_rfl);rw [de]at e1;go_enter func36,ntmps36;go_wp2_with fail;go_ret;exact⟨_,rfl,dT.nil _ _,an _ _⟩
 | some ad=>
  clear h3 hl;have e1:=bR (P:=prog) w 30 42 (some ad) l.length cap 0 0 (by kernel_rfl);rw [dd]at e1;go_enter func36,ntmps36;go_wp2_with (first | (at_builtin;refine Stop.out ?_));change wpList _ _ _ _ _ (World.alloc _ (.cells #[] 42));have Lh:=(an w.heap.size w).alloc (ag _) (.cells #[] 42);refine kG (w.alloc (.cells #[] 42)) rfl _ _ 30 rfl _ 16 (by kernel_rfl) kb rfl (by decide) (by decide) w.heap.size (.slice (some ⟨w.heap.size,0,none⟩) 0 0) [] rfl (dT.empty w) fK l ad l.length cap rfl (HI.out.below Lh) (fun y _=>lT y) (by simp only [aK];omega) Lh.size ?_;intro v w' ho hk hs;have hb:Below w.heap.size w w':=Lh.trans (hk.below Lh.size (fun i hi=>by simp [eA,Value.ownBlock]at hi;omega));clear hk hs Lh;go_wp2_with fail;go_ret;exact⟨v,rfl,by simpa using ho,hb⟩
theorem Ar (v:Value) (l:List kR) (w:World) (hl:eg 2 kp w v l) (Ok:l.length <=1000000):Calls prog 122 #[v] w (tA 46 2 kp l w):=by
 obtain⟨a,cap,rfl,h1,h2,h3⟩:=id hl;unfold maxLen at h2;have HI:=V hl;cases a with
 | none=>
  obtain rfl:l=[]:=by
   cases l with
   | nil=>rfl
   | cons x l=>
    obtain⟨_,_,h,_⟩:=h3 0 x rfl;cases h
  clear h3 hl;have e1:=bR (P:=prog) w 38 46 none 0 cap 0 0 (by kernel_rfl);rw [de]at e1;go_enter func122,ntmps122;go_wp2_with fail;go_ret;exact⟨_,rfl,dT.nil _ _,an _ _⟩
 | some ad=>
  clear h3 hl;have e1:=bR (P:=prog) w 38 46 (some ad) l.length cap 0 0 (by kernel_rfl);rw [dd]at e1;go_enter func122,ntmps122;go_wp2_with (first | (at_builtin;refine Stop.out ?_));change wpList _ _ _ _ _ (World.alloc _ (.cells #[] 46));have Lh:=(an w.heap.size w).alloc (ag _) (.cells #[] 46);refine kG (w.alloc (.cells #[] 46)) rfl _ _ 38 rfl _ 16 (by kernel_rfl) tJ rfl (by decide) (by decide) w.heap.size (.slice (some ⟨w.heap.size,0,none⟩) 0 0) [] rfl (dT.empty w) lK l ad l.length cap rfl (HI.out.below Lh) (fun y _=>xV y) (by simp only [aK];omega) Lh.size ?_;intro v w' ho hk hs;have hb:Below w.heap.size w w':=Lh.trans (hk.below Lh.size (fun i hi=>by simp [eA,Value.ownBlock]at hi;omega));clear hk hs Lh;go_wp2_with fail;go_ret;exact⟨v,rfl,by simpa using ho,hb⟩
theorem A9 (v:Value) (l:List (eV × Value × Value)) (w:World) (hl:eg 5 lZ w v l) (Ok:l.length <=1000000) (hone:∀y∈l,∀u∈lZ y,u.oneCell'=true):Calls prog 121 #[v] w (tA 40 5 lZ l w):=by
 obtain⟨a,cap,rfl,h1,h2,h3⟩:=id hl;unfold maxLen at h2;have HI:=V hl;cases a with
 | none=>
  obtain rfl:l=[]:=by
   cases l with
   | nil=>rfl
   | cons x l=>
    obtain⟨_,_,h,_⟩:=h3 0 x rfl;cases h
  clear h3 hl;have e1:=bR (P:=prog) w 35 40 none 0 cap 0 0 (by kernel_rfl);rw [de]at e1;go_enter func121,ntmps121;go_wp2_with fail;go_ret;exact⟨_,rfl,dT.nil _ _,an _ _⟩
 | some ad=>
  clear h3 hl;have e1:=bR (P:=prog) w 35 40 (some ad) l.length cap 0 0 (by kernel_rfl);rw [dd]at e1;go_enter func121,ntmps121;go_wp2_with (first | (at_builtin;refine Stop.out ?_));change wpList _ _ _ _ _ (World.alloc _ (.cells #[] 40));have Lh:=(an w.heap.size w).alloc (ag _) (.cells #[] 40);refine kG (w.alloc (.cells #[] 40)) rfl _ _ 35 rfl _ 72 (by kernel_rfl) mX rfl (by decide) (by decide) w.heap.size (.slice (some ⟨w.heap.size,0,none⟩) 0 0) [] rfl (dT.empty w) iw l ad l.length cap rfl (HI.out.below Lh) hone (by simp only [aK];omega) Lh.size ?_;intro v w' ho hk hs;have hb:Below w.heap.size w w':=Lh.trans (hk.below Lh.size (fun i hi=>by simp [eA,Value.ownBlock]at hi;omega));clear hk hs Lh;go_wp2_with fail;go_ret;exact⟨v,rfl,by simpa using ho,hb⟩
end
theorem dT.ne {α β:Type} {t t':TypeId} {k k':Nat} {enc:α ->List Value} {enc':β ->List Value} {w:World} {B B':Nat} {v v':Value} {l:List α} {l':List β} (h:dT t k enc w B v l) (h':dT t' k' enc' w B' v' l') (Ma:t≠t') (g:Nat) (hg:eA v g):¬ eA v' g:=by
 intro QM;obtain⟨_,hv | ⟨g1,cap,cur,hv,hb,h1,_⟩⟩:=h
 ·rw [hv.1]at hg
  simp [eA,Value.ownBlock]at hg
 obtain⟨_,Pp | ⟨g2,KR,cur',Pp,KT,h2,_⟩⟩:=h'
 ·rw [Pp.1]at QM
  simp [eA,Value.ownBlock]at QM
 rw [hv]at hg;rw [Pp]at QM;simp [eA,Value.ownBlock]at hg QM;subst hg QM;rw [h1]at h2;injection h2 with h2;injection h2 with _ h2;exact Ma h2
theorem dT.cell {α:Type} {t:TypeId} {k:Nat} {enc:α ->List Value} {w:World} {B g n cap:Nat} {l:List α} (hk:∀x,(enc x).length=k) (h:dT t k enc w B (.slice (some ⟨g,0,none⟩) n cap) l) {i j:Nat} {x:α} {u:Value} (hx:l[i]?=some x) (hu:(enc x)[j]?=some u):w.cell? ⟨g,i*k+j,none⟩=some u:=by
 obtain⟨a,c,hv,_,_,hc⟩:=h.fy hk;obtain⟨b,off,ha,_,KV⟩:=hc i x hx;injection hv with e1 e2 e3;rw [<- e1]at ha;injection ha with ha;injection ha with e4 e5;subst e4 e5;have:=KV j u hu;rw [bW]at this;exact this
theorem By {α β:Type}:∀(l:List α) (us:List β) (k:Nat) (f:α) (u:β),l[k]?=some f ->(l.zip us).set k (f,u)=l.zip (us.set k u)
 | [],us,k,f,u,h=>by simp at h
 | d::l,[],k,f,u,h=>by simp
 | d::l,x::us,0,f,u,h=>by
  simp at h;simp [h]
 | d::l,x::us,k+1,f,u,h=>by
  simp only [List.zip_cons_cons,bD];rw [By l us k f u (by simpa using h)]
def kx (w:World) (M:Nat) (v:Value) (l:List eV):Prop:=
 ∃us:List (Value × Value),us.length=l.length/\dT 40 5 lZ w M v (l.zip us)/\(∀f∈l,f.ok)/\
  ∀(i:Nat) (f:eV) (u:Value × Value),l[i]?=some f ->us[i]?=some u ->dT 42 2 gb w M u.1 f.locals/\dT 46 2 kp w M u.2 f.labels
theorem kx.jX {w:World} {M:Nat} {v:Value} {l:List eV} (h:kx w M v l):fY w v l:=by
 obtain⟨us,h1,h2,h3,h4⟩:=h;exact⟨us,h1,h2.fy iw,fun i f u hf hu=>⟨(h4 i f u hf hu).1.fy fK,(h4 i f u hf hu).2.fy lK⟩,h3⟩
theorem kx.keeps {w w':World} {M:Nat} {v:Value} {l:List eV} {S:Nat ->Prop} (h:kx w M v l) (hk:dU S w w') (hs:∀i,S i ->i < M):kx w' M v l:=by
 obtain⟨us,h1,h2,h3,h4⟩:=h;have key:∀{α:Type} {t:TypeId} {k:Nat} {enc:α ->List Value} {u:Value} {l:List α},dT t k enc w M u l ->dT t k enc w' M u l:=fun h=>h.keeps hk (fun i hi hj=>by have:=(et h hi).1;have:=hs i hj;omega);exact⟨us,h1,key h2,h3,fun i f u hf hu=>⟨key (h4 i f u hf hu).1,key (h4 i f u hf hu).2⟩⟩
def GU (s:gL) (w:World) (e:Ending) (w':World):Prop:=∃uv uf M,e= .returned (.agg #[uv,uf, .int .i64 s.asks])/\Below w.heap.size w w'/\w.heap.size <=M/\M <=w'.heap.size/\
 dT 42 2 gb w' w.heap.size uv s.dZ/\(∀g,eA uv g ->g < M)/\kx w' M uf s.eh
def I3 (l:List eV) (us:List (Value × Value)) (M:Nat) (vf:Value) (w1 w':World) (O5:List (Value × Value)) (k:Nat):Prop:=
 k <=l.length/\dU (eA vf) w1 w'/\O5.length=l.length/\dT 40 5 lZ w' M vf (l.zip O5)/\
  (∀(i:Nat) (f:eV) (u:Value × Value),i < k ->l[i]?=some f ->O5[i]?=some u ->dT 42 2 gb w' M u.1 f.locals/\dT 46 2 kp w' M u.2 f.labels)/\
  ∀i,k <=i ->O5[i]?=us[i]?
def xP (B X:Nat) (vf u x:Value) (w:World):Prop:=w.cell? ⟨B,1,none⟩=some vf/\w.cell? ⟨X,2,none⟩=some u/\w.cell? ⟨X,4,none⟩=some x
theorem xP.keeps {B X:Nat} {vf u x:Value} {w w':World} {S:Nat ->Prop} (h:xP B X vf u x w) (hk:dU S w w') (hB:B < w.heap.size/\¬ S B) (hX:X < w.heap.size/\¬ S X):xP B X vf u x w':=
 ⟨(bm (a:=⟨B,1,none⟩) (hk.block B hB.1 hB.2)).trans h.1,(bm (a:=⟨X,2,none⟩) (hk.block X hX.1 hX.2)).trans h.2.1,(bm (a:=⟨X,4,none⟩) (hk.block X hX.1 hX.2)).trans h.2.2⟩
theorem Ac {w:World} {l:List eV} {us:List (Value × Value)} (h:∀(i:Nat) (f:eV) (u:Value × Value),l[i]?=some f ->us[i]?=some u ->eg 2 gb w u.1 f.locals/\eg 2 kp w u.2 f.labels):
  ∀y∈l.zip us,∀u∈lZ y,u.oneCell'=true:=by
 intro y hy u hu;obtain⟨i,hi⟩:=List.mem_iff_getElem?.1 hy;obtain⟨h1,h2⟩:=cI.1 hi;obtain⟨⟨a,c,e1,_⟩,a2,c2,e2,_⟩:=h i _ _ h1 h2;simp only [lZ,e1,e2,bB,bJ,cM]at hu;rcases hu with rfl | rfl | rfl | rfl | rfl <;>rfl
theorem uW (uv uf:Value) (s:gL) (w:World) (KS:jA w uv uf s) (Qk:s.dZ.length <=1000) (hl2:s.eh.length <=1000) (hl3:∀f∈s.eh,f.locals.length <=1000/\f.labels.length <=1000):
  Calls prog 79 #[.agg #[uv,uf, .int .i64 s.asks]] w (GU s w):=by
 obtain⟨hv,hf,KF⟩:=id KS;obtain⟨av,KX,rfl,hcv1,LC,_⟩:=id hv;obtain⟨us,hu1,MG,hu3,hu4⟩:=id hf;obtain⟨af,Ml,rfl,hcf1,Pq⟩:=hf.slice;unfold maxLen at LC;have HL3:=V hl3;have LY:=(eG.new w #[.slice av s.dZ.length KX, .slice af s.eh.length Ml, .int .i64 s.asks] 37).alloc (.cells #[.slice none 0 0, .slice none 0 0, .int .i64 0] 37);have hbz:eG ((w.alloc (.cells #[.slice av s.dZ.length KX, .slice af s.eh.length Ml, .int .i64 s.asks] 37)).alloc (.cells #[.slice none 0 0, .slice none 0 0, .int .i64 0] 37)) (w.heap.size+1) #[.slice none 0 0, .slice none 0 0, .int .i64 0] 37:=by
  have:=eG.new (w.alloc (.cells #[.slice av s.dZ.length KX, .slice af s.eh.length Ml, .int .i64 s.asks] 37)) #[.slice none 0 0, .slice none 0 0, .int .i64 0] 37;rw [aE]at this;exact this
 have KW:Below w.heap.size w ((w.alloc (.cells #[.slice av s.dZ.length KX, .slice af s.eh.length Ml, .int .i64 s.asks] 37)).alloc (.cells #[.slice none 0 0, .slice none 0 0, .int .i64 0] 37)):=((an w.heap.size w).alloc (ag _) _).alloc (by simp) _;have HV:=V hv;have HU:=V hu3;have HZ:=V MG;have HOKF:=V hu4;have HUL:=V hu1;have HONE:=V (Ac hu3);have hzl:(s.eh.zip us).length=s.eh.length:=by rw [bG,hu1,bZ]
 clear hv hf KS KF hu1 MG hu3 hu4 hl3;go_enter func79,ntmps79;go_wp2_with fail;generalize((w.alloc (.cells #[.slice av s.dZ.length KX, .slice af s.eh.length Ml, .int .i64 s.asks] 37)).alloc (.cells #[.slice none 0 0, .slice none 0 0, .int .i64 0] 37))=w0 at LY hbz KW⊢;have hX0:w.heap.size+1 < w0.heap.size:=hbz.lt;obtain⟨x0,x1,x2⟩:=LY.three;refine eO (fun w'=>w'.cell? ⟨w.heap.size,1,none⟩=some (.slice af s.eh.length Ml)) 9
  [(0,true),(3,true),(4,true),(1,false),(2,false),(6,true),(5,false),(7,false),(8,true)] (by kernel_rfl) (by kernel_rfl) x1 ?_
 iterate 3 (first | (apply sk rfl rfl;simp only [pt]) | (apply dV rfl rfl rfl;·(rintro w' t0;go_wp2;exact⟨rfl,rfl,rfl⟩)))
 refine ed rfl rfl ?_;go_wp2_with fail;refine⟨x1,?_⟩;refine ed rfl rfl ?_;go_wp2_with fail;refine(mL _ s.dZ w0.drew (HV.out.below KW.drew) (by omega)).mono ?_;rintro x w2 ⟨v,rfl,QN,hbv'⟩;have hbv:Below w0.heap.size w0 w2:=fN hbv';have QN:dT 42 2 gb w2 w0.heap.size v s.dZ:=QN;have N4:=LY.below hbv LY.lt;have Mz:=hbz.below hbv hbz.lt;have Kx:=KW.trans (hbv.mono KW.size);have N1:=hbv.size;clear hbv' hbv LY hbz KW x0 x1 x2;go_wp2_with fail;refine⟨N4.cell 1,?_⟩;iterate 1 (first | (apply sk rfl rfl;simp only [pt]) | (apply dV rfl rfl rfl;·(rintro w' t0;go_wp2;exact⟨rfl,rfl,rfl⟩)))
 refine ed rfl rfl ?_;go_wp2_with fail;refine(A9 _ (s.eh.zip us) w2 (HZ.out.below Kx) (by omega) HONE.out).mono ?_;rintro x w3 ⟨vf,rfl,Pr,hbf⟩;have hx3:=N4.below hbf N4.lt;have hz3:=Mz.below hbf Mz.lt;have K9:=Kx.trans (hbf.mono Kx.size);have hov3:=QN.below hbf;have N2:=hbf.size;obtain⟨a2,KA,rfl,_,_,_⟩:=hov3.fy fK;obtain⟨a3,Me,hvf,_,_,_⟩:=Pr.fy iw;rw [hzl]at hvf;subst hvf;have f0:=hx3.free 0;have x0:w3.cell? ⟨w.heap.size,0,none⟩=some (.slice av s.dZ.length KX):=hx3.cell 0;have hkx1:=jb w3 w.heap.size 0 (.slice a2 s.dZ.length KA);have hx4:eG (w3.setCell ⟨w.heap.size,0,none⟩ (.slice a2 s.dZ.length KA)) w.heap.size #[.slice a2 s.dZ.length KA, .slice af s.eh.length Ml, .int .i64 s.asks] 37:=by
  have:=hx3.set 0 (.slice a2 s.dZ.length KA);simpa using this
 have hM:=QN.block;have HOV:=V hov3;have Ql:=V (show∀g,eA (.slice a2 s.dZ.length KA) g ->w0.heap.size <=g/\g < w2.heap.size from fun g hg=>et QN hg);have Pe:=V Pr;clear QN hov3 Pr hM hbf;go_wp2_with fail;refine⟨hx3.cell 1,?_⟩;refine ed rfl rfl ?_;go_wp2_with fail;generalize w3.setCell ⟨w.heap.size,0,none⟩ (.slice a2 s.dZ.length KA)=w4 at hx4 hkx1⊢;have x1:w4.cell? ⟨w.heap.size,1,none⟩=some (.slice af s.eh.length Ml):=hx4.cell 1;have f1:=hx4.free 1;refine⟨x1,?_⟩;iterate 1 (first | (apply sk rfl rfl;simp only [pt]) | (apply dV rfl rfl rfl;·(rintro w' t0;go_wp2;exact⟨rfl,rfl,rfl⟩)))
 refine fG rfl rfl ?_;have hkx2:=jb w4 w.heap.size 1 (.slice a3 s.eh.length Me);have hx5:eG (w4.setCell ⟨w.heap.size,1,none⟩ (.slice a3 s.eh.length Me)) w.heap.size #[.slice a2 s.dZ.length KA, .slice a3 s.eh.length Me, .int .i64 s.asks] 37:=by
  have:=hx4.set 1 (.slice a3 s.eh.length Me);simpa using this
 have Mn:=hkx1.trans hkx2 (fun i h=> .inl h);clear x0 f0 hx4 hx3 N4 hkx1;go_wp2_with fail;refine⟨trivial,?_⟩;refine aD ?_;generalize w4.setCell ⟨w.heap.size,1,none⟩ (.slice a3 s.eh.length Me)=w1 at hx5 Mn⊢;clear x1 f1 hkx2;have hM0:w0.heap.size <=w2.heap.size:=by omega
 have LR:=hz3.keeps Mn (by omega);have Qf:=Mn.size;have KJ:=K9.trans (Mn.below K9.size (fun i h=>by omega));have HOV1:=V (HOV.out.keeps Mn (fun i hi=>by have:=Ql.out i hi;omega));have hof1:=Pe.out.keeps Mn (fun i hi=>by have:=(et Pe.out hi).1;omega);have HX5:=V hx5;have HZ1:=V LR;have hMl:=hof1;clear hMl HOV Pe hx5 LR hz3 Mz K9 Kx Mn;obtain⟨M,hMM⟩:∃M,w2.heap.size=M:=⟨_,rfl⟩;rw [hMM]at hof1 hM0 N2;have Ql:=V (show∀g,eA (.slice a2 s.dZ.length KA) g ->w0.heap.size <=g/\g < M by rw [<- hMM];exact Ql.out);clear hMM N1;obtain⟨x0,x1,x2⟩:=HX5.out.three;go_wp2_with fail;clear x0 x1 x2;refine eB (fun a' w'=>∃(O5:List (Value × Value)) (k:Nat),a'=fr (gs a' 0 1 (.pointer (some ⟨w.heap.size,0,none⟩):: .pointer (some ⟨w.heap.size+1,0,none⟩)::gs a' 3 11 (.slice a3 s.eh.length Me:: .int .i64 s.eh.length:: .int .i64 k::gs a' 17 22 [])))/\I3 s.eh us M (.slice a3 s.eh.length Me) w1 w' O5 k) (fun a' _=>(s.eh.length - (intOf (a'.tmps.getD 16 undef)).toNat)) ?_ ?_
 ·exact⟨us,0,rfl,by omega,dU.refl _ _,HUL.out,hof1,fun i f u hi=>by omega,fun i _=>rfl⟩
 clear hof1;rintro R a' wr ⟨O5,k,Kw,hJ⟩ HR;dsimp only [fr,gs]at Kw;generalize slot a'=f at Kw;subst Kw;obtain⟨hk,Mw,Nv,Pr,hold,hnew⟩:=hJ;have hszr:=Mw.size;have hBM:∀g,eA (.slice a3 s.eh.length Me) g ->M <=g:=fun g hg=>(et Pr hg).1;have hxr:=HX5.out.keeps Mw (fun h=>by have:=hBM _ h;omega);have hbr:=KJ.trans (Mw.below KJ.size (fun i h=>by have:=hBM _ h;omega));obtain⟨x0,x1,x2⟩:=hxr.three;have HOLD:=V hold;have HNEW:=V hnew;clear hold hnew;by_cases Ls:k < s.eh.length;rotate_left
 ·obtain rfl:k=s.eh.length:=by omega
  have hzr:=HZ1.out.keeps Mw (fun h=>by have:=hBM _ h;omega);obtain⟨y0,y1,y2⟩:=hzr.three;have z0:=hzr.free 0;have z1:=hzr.free 1;have z2:=hzr.free 2;have HB:=V hBM;have Ph:=V Mw;have HOFR:=V Pr;clear hBM Mw Pr;go_wp2_with fail;have hx:=hzr.Cz (.slice a2 s.dZ.length KA) (.slice a3 s.eh.length Me) (.int .i64 s.asks);have Mn:=vU wr (w.heap.size+1) (.slice a2 s.dZ.length KA) (.slice a3 s.eh.length Me) (.int .i64 s.asks);refine aM (ey rfl _ _ rfl hx.wP) rfl ?_;have hsf:=Mn.size;refine⟨_,_,M,rfl,((hbr.setCell (p:=⟨w.heap.size+1,0,none⟩) (by show _ <=w.heap.size+1;omega) _).setCell (p:=⟨w.heap.size+1,1,none⟩) (by show _ <=w.heap.size+1;omega) _).setCell (p:=⟨w.heap.size+1,2,none⟩) (by show _ <=w.heap.size+1;omega) _,by omega,by omega,?_,fun g hg=>(Ql.out g hg).2,?_⟩
  ·exact mD ((HOV1.out.keeps Ph.out (fun i hi hj=>by have:=Ql.out i hi;have:=HB.out i hj;omega)).keeps Mn (fun i hi=>by have:=Ql.out i hi;omega)) (fun i hi=>by have:=Ql.out i hi;omega)
  ·have Pq:kx wr M (.slice a3 s.eh.length Me) s.eh:=⟨O5,Nv,HOFR.out,HOKF.out,fun i f u hf hu=>HOLD.out i f u (aN.1 hf).1 hf hu⟩
   exact Pq.keeps Mn (fun i h=>by omega)
 obtain⟨c,he⟩:∃e,s.eh[k]?=some e:=⟨_,aq Ls⟩;obtain⟨⟨u,x⟩,hux⟩:∃e,us[k]?=some e:=⟨_,aq (by have:=HUL.out;omega)⟩;have hux':O5[k]?=some (u,x):=(HNEW.out k (ag _)).trans hux;have hz:(s.eh.zip O5)[k]?=some (c,(u,x)):=(cI (z:=(c,(u,x)))).2 ⟨he,hux'⟩;obtain⟨g,capg,cur,hvg,OJ,M7,hg3,_,_⟩:=Pr.open (by intro h;rw [h]at hz;simp at hz);injection hvg with e1 e2 e3;subst e1 e3;obtain⟨aa,capp,hva,_,_,Kt⟩:=Pr.fy iw;obtain⟨b,off,Lh,KC,hc⟩:=Kt k _ hz;injection hva with e4 e5 e6;rw [<- e4]at Lh;injection Lh with Lh;injection Lh with e7 e8;subst e7 e8;have c0:=hc 0 _ rfl;have c1:=hc 1 _ rfl;have c2:=hc 2 _ rfl;have c3:=hc 3 _ rfl;have c4:=hc 4 _ rfl;rw [bW]at c0 c1 c2 c3 c4;rw [aL]at c0;obtain⟨hu,hx⟩:=HU.out k c (u,x) he hux;obtain⟨au,KD,hue,hcu1,hcu,_⟩:=id hu;obtain⟨ax,LF,hxe,hcx1,hcx,_⟩:=id hx;simp only at hue hxe;subst hue hxe;obtain⟨hl31,hl32⟩:=HL3.out c (aO he);have MK:=(an wr.heap.size wr).alloc (ag _) (.cells #[.int .i64 c.fn, .int .i64 c.pc, .slice au c.locals.length KD, .int .i64 c.base, .slice ax c.labels.length LF] 40);have HUa:=V ((hu.below hbr).below MK);have HXa:=V ((hx.below hbr).below MK);have hxa:=hxr.below MK hxr.lt;have hX:=eG.new wr #[.int .i64 c.fn, .int .i64 c.pc, .slice au c.locals.length KD, .int .i64 c.base, .slice ax c.labels.length LF] 40;have HE:=V he;have HZZ:=V hz;have HUX:=V hux';have HOFR:=V Pr;have Ph:=V Mw;have HC2:=V c2;have HC4:=V c4;have HG3:=V hg3;have HB:=V hBM;clear hu hx he hz hux hux' Pr Mw hBM Kt hc e2 e4 e5 e6 hg3;unfold maxLen at hcu hcx;go_wp2_with fail;obtain⟨X,hXX⟩:∃X,X=wr.heap.size:=⟨_,rfl⟩;rw [<- hXX]at hX⊢;have hX1:wr.heap.size <=X:=by omega
 clear hXX c0 c1 c2 c3 c4 x0 x1 x2;generalize wr.alloc (.cells #[.int .i64 c.fn, .int .i64 c.pc, .slice au c.locals.length KD, .int .i64 c.base, .slice ax c.labels.length LF] 40)=wa at MK hxa hX HUa HXa⊢;have hS:xP w.heap.size X (.slice (some ⟨g,0,none⟩) s.eh.length Me) (.slice au c.locals.length KD) (.slice ax c.labels.length LF) wa:=⟨hxa.cell 1,hX.cell 2,hX.cell 4⟩;have HS:=V hS;have hgl:g < wa.heap.size:=by have:=MK.size;omega
 have P4:=hX.lt;have hBl:=hxa.lt;have hgB:w.heap.size≠g:=by omega
 clear hS;refine ef (xP w.heap.size X (.slice (some ⟨g,0,none⟩) s.eh.length Me) (.slice au c.locals.length KD) (.slice ax c.labels.length LF))
  (up 0 8 ((9,true)::(10,true)::(8,false)::(11,false)::(12,true)::(13,true)::(14,false)::(15,true)::(16,true)::(17,false)::[])) (by kernel_rfl) (by kernel_rfl) HS.out ?_
 clear hX hxa;iterate 10 (first | (apply sk rfl rfl;simp only [pt]) | (apply dV rfl rfl rfl;·(rintro w' ⟨t0,t1,t2⟩;go_wp2;exact⟨rfl,rfl,rfl⟩)))
 refine ed rfl rfl ?_;go_wp2_with fail;refine(mL _ c.locals wa.drew HUa.out (by omega)).mono ?_;rintro y w5 ⟨v1,rfl,NH,hb5'⟩;have Ly:Below wa.heap.size wa w5:=fN hb5';have NH:dT 42 2 gb w5 wa.heap.size v1 c.locals:=NH;obtain⟨p1,q1,rfl,_,_,_⟩:=NH.fy fK;have Mq:=V NH;clear hb5' NH;have hsa:=MK.size;go_wp2_with fail;refine⟨HS.out.keeps (dU.dW (S:=fun _=>False) Ly) ⟨hBl,fun h=>h⟩ ⟨P4,fun h=>h⟩,?_⟩;refine ed rfl rfl ?_;go_wp2_with fail;refine(Ar _ c.labels w5 (HXa.out.below Ly) (by omega)).mono ?_;rintro y w6 ⟨v2,rfl,KQ,Ny⟩;have hsz5:=Ly.size;have hsz6:=Ny.size;have NH:=mD (Mq.out.below Ny) (base':=M) (fun g hg=>by have:=(et Mq.out hg).1;omega);have ho1':∀b,eA (.slice p1 c.locals.length q1) b ->b≠g:=fun b hb=>by have:=(et Mq.out hb).1;omega
 have ho2':∀b,eA v2 b ->b≠g:=fun b hb=>by have:=(et KQ hb).1;omega
 have ho2'':=mD KQ (base':=M) (fun g hg=>by have:=(et KQ hg).1;omega);obtain⟨p2,q2,rfl,_,_,_⟩:=KQ.fy lK;have hb56:=Ly.trans (Ny.mono (by omega));have O4:dU (fun _=>False) wr w6:=(dU.dW MK).trans (dU.dW (S:=fun _=>False) hb56) (fun i h=> .inl h);have hS6:=HS.out.keeps (dU.dW (S:=fun _=>False) hb56) ⟨hBl,fun h=>h⟩ ⟨P4,fun h=>h⟩;have hof6:=HOFR.out.keeps O4 (fun _ _ h=>h);have c2:w6.cell? ⟨g,k*5+2,none⟩=some (.slice au c.locals.length KD):=(O4.cell (p:=⟨g,k*5+2,none⟩) M7 (fun h=>h)).trans HC2.out;have c4:w6.cell? ⟨g,k*5+4,none⟩=some (.slice ax c.labels.length LF):=(O4.cell (p:=⟨g,k*5+4,none⟩) M7 (fun h=>h)).trans HC4.out;have hg6:w6.heap[g]?=some (.cells cur 40):=(O4.block g M7 (fun h=>h)).trans HG3.out;have z2:w6.frozen? ⟨g,k*5+2,none⟩=false:=cY w6 g _ cur _ hg6;have hgl6:g < w6.heap.size:=by omega
 have Mq:=V NH;have HO1':=V ho1';have Lq:=V ho2'';have HO2':=V ho2';have HOF6:=V hof6;have HK6:=V O4;clear NH ho1' KQ ho2' ho2'' hof6 O4 Ly Ny hb56 MK;go_wp2_with fail;refine⟨hS6,?_⟩;iterate 2 (first | (apply sk rfl rfl;simp only [pt]) | (apply dV rfl rfl rfl;·(rintro w' ⟨t0,t1,t2⟩;go_wp2;exact⟨rfl,rfl,rfl⟩)))
 refine ed rfl rfl ?_;go_wp2_with fail;have hk67:=jb w6 g (k*5+2) (.slice p1 c.locals.length q1);have hS7:=hS6.keeps hk67 ⟨by omega,fun h=>hgB h⟩ ⟨by omega,fun h=>by omega⟩;have hof7:=HOF6.out.set iw (i:=k) (j:=2) (u:= .slice p1 c.locals.length q1) (y:=(c,(.slice p1 c.locals.length q1, .slice ax c.labels.length LF))) HZZ.out (by omega) rfl;have hg7:(w6.setCell ⟨g,k*5+2,none⟩ (.slice p1 c.locals.length q1)).heap[g]?=some (.cells (cur.setIfInBounds (k*5+2) (.slice p1 c.locals.length q1)) 40):=heap_setCell_same w6 g _ cur _ _ hg6;have hzz:((s.eh.zip O5).set k (c,(.slice p1 c.locals.length q1, .slice ax c.labels.length LF)))[k]?=some (c,(.slice p1 c.locals.length q1, .slice ax c.labels.length LF)):=by
  rw [List.getElem?_set_self (aN.1 HZZ.out).1]
 have c4':=hof7.cell iw (j:=4) hzz rfl;have NU:=hof7.set iw (i:=k) (j:=4) (u:= .slice p2 c.labels.length q2) (y:=(c,(.slice p1 c.locals.length q1, .slice p2 c.labels.length q2))) hzz (by omega) rfl;rw [List.set_set,By _ _ _ _ _ HE.out]at NU;generalize w6.setCell ⟨g,k*5+2,none⟩ (.slice p1 c.locals.length q1)=w7 at hk67 hS7 hg7 c4' NU⊢;have z4:w7.frozen? ⟨g,k*5+4,none⟩=false:=cY w7 g _ _ _ hg7;have hk78:=jb w7 g (k*5+4) (.slice p2 c.labels.length q2);have hs67:=hk67.size;have hS8:=hS7.keeps hk78 ⟨by omega,fun h=>hgB h⟩ ⟨by omega,fun h=>by omega⟩;have HOF8:=V NU;clear NU hof7 hzz c2 c4 z2 hg6 hg7;refine⟨hS7,?_⟩;iterate 2 (first | (apply sk rfl rfl;simp only [pt]) | (apply dV rfl rfl rfl;·(rintro w' ⟨t0,t1,t2⟩;go_wp2;exact⟨rfl,rfl,rfl⟩)))
 refine ed rfl rfl ?_;go_wp2_with fail;refine⟨hS8,?_⟩;refine eL ?_;refine aD ?_;have hk68:=hk67.trans hk78 (fun i h=> .inl h);have hkr8:dU (eA (.slice (some ⟨g,0,none⟩) s.eh.length Me)) wr _:=(HK6.out.mono (fun i h=>h.elim)).trans hk68 (fun i h=> .inl (by subst h;rfl));generalize w7.setCell ⟨g,k*5+4,none⟩ (.slice p2 c.labels.length q2)=w8 at HOF8 hk68 hkr8⊢;clear hS8 hS7 hS6 z4 c4' hk67 hk78;go_wp2_with fail;refine HR.out _ _ ⟨O5.set k (.slice p1 c.locals.length q1, .slice p2 c.labels.length q2),k+1,rfl,by omega,Ph.out.trans hkr8 (fun i h=> .inl h),by simpa using Nv,HOF8.out,fun i f u hi hf hu=>?_,fun i hi=>?_⟩ ?_
 ·rcases bC i k with hik | hik
  ·rw [List.getElem?_set_ne (by omega)]at hu
   obtain⟨q1,q2⟩:=HOLD.out i f u hik hf hu;exact⟨q1.keeps hkr8 (fun b hb=>q1.ne HOFR.out (by decide) b hb),q2.keeps hkr8 (fun b hb=>q2.ne HOFR.out (by decide) b hb)⟩
  ·obtain rfl:i=k:=by omega
   rw [List.getElem?_set_self (by omega)]at hu;injection hu with hu;subst hu;rw [HE.out]at hf;injection hf with hf;subst hf;exact⟨mC Mq.out hk68 (fun b hb=>HO1'.out b hb),mC Lq.out hk68 (fun b hb=>HO2'.out b hb)⟩
 ·rw [List.getElem?_set_ne (by omega)]
  exact HNEW.out i (by omega)
 ·simp [intOf]
  omega
end Go.Proofs.YthbjdhjppbcneaaGreatDoor
