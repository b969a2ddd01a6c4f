import Derived.Test.YtjmeglibedbljaaGreatDoorRunWorldJ3
namespace Go.Proofs.YtjmeglibedbljaaGreatDoor
set_option maxRecDepth 100000
set_option maxHeartbeats 20000000
open Go.RowKit Tryz
open Lib renaming hid->V
set_option linter.all false
def nE (P:Program) (ops:Array Oper) (Q:Exit ->Act ->World ->Prop) (S:World ->Prop) (d:Nat):Nat ->Array Bool ->Act ->World ->Prop
 | 0,listed,a,w=>Region.ready .any ops listed=[]/\Q .normal a w
 | fuel+1,listed,a,w=>
  (Region.ready .any ops listed=[] ->Q .normal a w)/\
  ∀i∈Region.ready .any ops listed,wpOp P ops Q i (fun a' w'=>(i=d ->wpAny P .any ops Q fuel (listed.setIfInBounds i true) a' w')/\(i≠d ->S w'/\nE P ops Q S d fuel (listed.setIfInBounds i true) a' w')) a w
theorem rH {P:Program} {ops:Array Oper} {Q:Exit ->Act ->World ->Prop} {S:World ->Prop} {d:Nat}:∀(fuel:Nat) (listed:Array Bool) (a:Act) (w:World),nE P ops Q S d fuel listed a w ->wpAny P .any ops Q fuel listed a w
 | 0,_,_,_,h=>h
 | fuel+1,_,_,_,h=>⟨h.1,fun i hi=>dV (fun a' w' h'=>by
   by_cases hd:i=d
   ·exact h'.1 hd
   ·exact rH fuel _ a' w' (h'.2 hd).2) (h.2 i hi)⟩
def blocked (ops:Array Oper) (listed:Array Bool) (i:Nat) (K:List Nat):Bool:=
 K.all fun k=>(listed.getD k true==false)&& !(k==i)&&(match ops[k]? with | some o=>o.after.any (fun e=>Region.binds .any e&&(e.on==i || K.contains e.on)) | none=>false)
def Iw (ops:Array Oper) (listed:Array Bool) (i:Nat):List Nat:=
 Nat.repeat (fun K=>K.filter fun k=>match ops[k]? with | some o=>o.after.any (fun e=>Region.binds .any e&&(e.on==i || K.contains e.on)) | none=>false) ops.size
  ((List.range ops.size).filter fun k=> !(k==i)&&(listed.getD k true==false))
theorem o9 {listed:Array Bool} {i:Nat} (h:listed.getD i true=false):listed.getD i false=false:=by
 rcases bz i listed.size with h' | h'
 ·simp [h']at h⊢;exact h
 ·simp [Array.getElem?_eq_none h']at h
theorem pR {ops:Array Oper} {listed:Array Bool} {i:Nat} {K:List Nat} (hb:blocked ops listed i K=true) (hi:listed.getD i true=false) {k:Nat} (hk:k∈K):k≠i/\k∉Region.ready .any ops listed:=by
 simp only [blocked,List.all_eq_true]at hb;have h1:=hb k hk;simp only [bj,dv,du,de]at h1;obtain⟨⟨h2,h3⟩,h4⟩:=h1;refine⟨h3,fun hr=>?_⟩;obtain⟨_,o,ho,N5⟩:=dK.1 hr;rw [ho]at h4;obtain⟨e,he,RG⟩:=Array.any_eq_true'.1 h4;simp only [bj,dQ,dv]at RG;have h5:=N5 e he RG.1;rcases RG.2 with h6 | h6
 ·rw [h6,o9 hi]at h5
  cases h5
 ·have h7:=hb e.on (by simpa using h6)
  simp only [bj,dv]at h7;rw [o9 h7.1.1]at h5;cases h5
theorem Ay {ops:Array Oper} {listed:Array Bool} {i j:Nat} {K:List Nat} (hb:blocked ops listed i K=true) (hj:j∉K):blocked ops (listed.setIfInBounds j true) i K=true:=by
 simp only [blocked,List.all_eq_true]at hb⊢;intro k hk;have h1:=hb k hk;have hjk:j≠k:=fun h=>hj (by rw [h];exact hk);rw [getD_set_ne true hjk];exact h1
theorem oT {P:Program} {ops:Array Oper} {Q:Exit ->Act ->World ->Prop} {S:World ->Prop} {d i:Nat} {oi:Oper} {v:Value} {K:List Nat} (hd:d∈K) (hi:ops[i]?=some oi) (hsel:∀(j:Nat) (o:Oper) cs b,ops[j]?=some o ->o.op≠ .select cs b)
  (hQ:∀c a w,¬ Q (.panic c) a w):
  ∀(fuel:Nat) (listed:Array Bool) (a:Act) (w:World),
   (∀j oj,ops[j]?=some oj ->j≠i ->listed.getD j true=false ->(∀e∈oj.after,Region.binds .any e=true ->e.on≠i) ->oi.apart ops oj=true) ->
   i∈Region.ready .any ops listed ->blocked ops listed i K=true ->YieldsIf P ops S oi v a ->S w ->
   nE P ops Q S d fuel (listed.setIfInBounds i true) (a.put oi.dst v) w ->nE P ops Q S d (fuel+1) listed a w:=by
 intro fuel
 induction fuel with
 | zero=>
  intro listed a w _ hr hb hy hS H;refine⟨fun h=>(by rw [h]at hr;cases hr),fun j hj=>?_⟩;have hdi:=(pR hb (dK.1 hr).1 hd).1;by_cases hji:j=i
  ·subst hji;exact hy.wpOp hi hS ⟨fun h=>absurd h.symm hdi,fun _=>⟨hS,H⟩⟩
  ·have:=ea hj hji
   rw [H.1]at this;cases this
 | succ fuel ih=>
  intro listed a w SC hr hb hy hS H;refine⟨fun h=>(by rw [h]at hr;cases hr),fun j hj=>?_⟩;have hdi:=(pR hb (dK.1 hr).1 hd).1;by_cases hji:j=i
  ·subst hji;exact hy.wpOp hi hS ⟨fun h=>absurd h.symm hdi,fun _=>⟨hS,H⟩⟩
  ·have hjK:j∉K:=fun h=>(pR hb (dK.1 hr).1 h).2 hj
   have hjd:j≠d:=fun h=>hjK (h▸hd);have h1:=dV (fun a' w' h=>h.2 hjd) (H.2 j (ea hj hji));obtain⟨RV,oj,hoj,N5⟩:=dK.1 hj;have hnot:∀e∈oj.after,Region.binds .any e=true ->e.on≠i:=fun e he hb heq=>by
    have h1:=N5 e he hb;have h0:=(dK.1 hr).1;rw [heq,o9 h0]at h1;cases h1
   have h2:=wpOp_putIf hoj (SC j oj hoj hji RV hnot) (fun cs b=>hsel i oi cs b hi) (fun cs b=>hsel j oj cs b hoj) (fun c a w h=>(hQ _ _ _ h).elim) hy h1;have hfree':∀k ok,ops[k]?=some ok ->k≠i ->(listed.setIfInBounds j true).getD k true=false ->
     (∀e∈ok.after,Region.binds .any e=true ->e.on≠i) ->oi.apart ops ok=true:=fun k ok hk hki hun OD=>by
    refine SC k ok hk hki ?_ OD;by_cases hjk:j=k
    ·subst hjk;exact RV
    ·rw [getD_set_ne true hjk]at hun;exact hun
   refine dV (fun a' w' h3=>⟨fun h=>absurd h hjd,fun _=>⟨h3.2.1,ih (listed.setIfInBounds j true) a' w' hfree' (ea hr (Ne.symm hji)) (Ay hb hjK) h3.1 h3.2.1 ?_⟩⟩) h2;rw [dW _ _ hji];exact h3.2.2
def Bw (P:Program) (ops:List Oper) (Q:Exit ->Act ->World ->Prop) (d:Nat):Exit ->Act ->World ->Prop
 | .normal,a,w=>∃o,nth ops d=some o/\
   ((kI ops o.guard a=true/\wpList P #[] (og Q (fun _=>True) (Q .normal)) [bare o] a w)\/(kI ops o.guard a=false/\Q .normal (a.put o.dst undef) w))
 | e,a,w=>Q e a w
def rF (ops:Array Oper) (d:Nat):List (Nat × Bool) ->Array Bool ->Bool
 | [],listed=>(Region.ready .any ops listed==[d])&&(Region.ready .any ops (listed.setIfInBounds d true)).isEmpty
 | (i,true)::rest,listed=>(ops[i]?.any fun o=>isVal o.op)&&(Region.ready .any ops listed).contains i&&Region.free .any ops listed i&&blocked ops listed i (Iw ops listed i)&&(Iw ops listed i).contains d&&rF ops d rest (listed.setIfInBounds i true)
 | (i,false)::rest,listed=> !(i==d)&&(Region.ready .any ops listed==[i])&&rF ops d rest (listed.setIfInBounds i true)
theorem yA {P:Program} {ops:Array Oper} {Q Q':Exit ->Act ->World ->Prop} {i:Nat} {K:Act ->World ->Prop} {a:Act} {w:World} (hp:∀c a w,Q (.panic c) a w ->Q' (.panic c) a w) (hl:LetsOut Q ->LetsOut Q') (h:wpOp P ops Q i K a w):wpOp P ops Q' i K a w:=by
 unfold wpOp at*;split
 ·rename_i ho
  simp only [ho]at h;exact h
 ·rename_i o ho
  simp only [ho]at h;split
  ·rename_i hw
   simp only [hw,cT]at h;rcases h with h | ⟨h1,h2⟩
   ·left
    unfold Oper.wp at*;generalize(execOp a.eval o).run P w=r at*;cases r with
    | ok n w'=>
     cases n <;>simp only [Oper.upon]at h⊢
     case value=>exact h
     case skip=>exact h
     case defer=>exact h
     case enter=>
      refine bZ h fun e w'' he=>?_;cases e with
      | returned v=>exact he
      | panicked c=>exact hp _ _ _ he
      | outgrown=>exact hl he
     case row=>exact Rows.mono h fun _ _ he=>he
    | halt x w'=>
     cases x <;>simp only [Oper.upon]at h⊢
     case panic=>exact hp _ _ _ h
   ·exact .inr ⟨h1,hl h2⟩
  ·rename_i hw
   simp only [hw]at h;exact h
theorem nP {P:Program} {ops:Array Oper} {Q:Exit ->Act ->World ->Prop} {S:World ->Prop} {d:Nat} (hQ:∀c a w,¬ Q (.panic c) a w) (hs:Region.noSelect ops=true):
  ∀(l:List (Nat × Bool)) (fuel:Nat) (listed:Array Bool) (a:Act) (w:World),l.length+1 <=fuel ->rF ops d l listed=true ->S w ->
   gE P ops.toList (Bw P ops.toList Q d) S l a w ->nE P ops Q S d fuel listed a w
 | l,0,_,_,_,hl,_,_,_=>by omega
 | [],fuel+1,listed,a,w,_,Nt,_,h=>by
  simp only [rF,bj,dv,List.isEmpty_iff]at Nt;refine⟨fun h0=>(by rw [Nt.1]at h0;cases h0),fun j hj=>?_⟩;rw [Nt.1]at hj;obtain rfl:j=d:=by simpa using hj
  have h2:=kL (S:=fun _=>True) (K:=Q .normal) (K':=Q .normal) (Q:=Q) (ops:=ops) (j:=j) trivial (fun a w _ h=>h) h;refine dV (fun a' w' h3=>⟨fun _=>?_,fun h=>absurd rfl h⟩) h2;cases fuel with
  | zero=>exact⟨Nt.2,h3.2⟩
  | succ f=>exact⟨fun _=>h3.2,by rw [Nt.2];simp⟩
 | (i,true)::rest,fuel+1,listed,a,w,hl,Nt,hS,h=>by
  simp only [rF,bj]at Nt;obtain⟨⟨⟨⟨⟨hv,hr⟩,hf⟩,N2⟩,RH⟩,NW⟩:=Nt;have RH:d∈Iw ops listed i:=by simpa using RH
  simp only [aD]at hl;obtain⟨o,ho,h⟩:=h;rw [n4,cd]at ho;rw [ho]at hv;simp only [dO]at hv;rcases h with⟨hg,d',hd,hds,a',hp,hk⟩ | ⟨hg,hk⟩
  ·refine oT (v:=a'.tmps.getD d' undef) RH ho (dy hs) hQ fuel listed a w (dL ho hf) (by simpa using hr) N2 (.inl ⟨by rw [lD];exact hg,fun w' hw'=>?_⟩) hS ?_
   ·rcases mf (hp w' hw')with h1 | ⟨_,h2⟩
    ·unfold Oper.wp at h1
     rw [iL]at h1;rcases lU (P:=P) (ρ:=a.eval) hv w' with⟨v,w2,Nz⟩ | ⟨x,w2,Nz⟩
     ·rw [Nz]at h1⊢
      obtain⟨_,h3,h4⟩:=h1;subst h4;subst h3;have:(bare o).dst=some d':=hd;rw [this];simp [Act.put,hds]
     ·rw [Nz]at h1
      cases x <;>simp only [Oper.upon]at h1
      case panic=>exact absurd h1.1 (by simp)
    ·obtain⟨_,_,h3,_⟩:=h2
     exact absurd h3 (by simp)
   ·have ha:a.put o.dst (a'.tmps.getD d' undef)=a':=by
     rcases mf (hp w hS)with h1 | ⟨_,h2⟩
     ·unfold Oper.wp at h1
      rw [iL]at h1;rcases lU (P:=P) (ρ:=a.eval) hv w with⟨v,w2,Nz⟩ | ⟨x,w2,Nz⟩
      ·rw [Nz]at h1
       obtain⟨_,h3,h4⟩:=h1;have hd':(bare o).dst=some d':=hd;rw [<- h3,hd',hd];simp [Act.put,hds]
      ·rw [Nz]at h1
       cases x <;>simp only [Oper.upon]at h1
       case panic=>exact absurd h1.1 (by simp)
     ·obtain⟨_,_,h3,_⟩:=h2
      exact absurd h3 (by simp)
    rw [ha];exact nP hQ hs rest fuel _ _ _ (by omega) NW hS hk
  ·refine oT (v:=undef) RH ho (dy hs) hQ fuel listed a w (dL ho hf) (by simpa using hr) N2 (.inr ⟨by rw [lD];exact hg,rfl⟩) hS ?_
   exact nP hQ hs rest fuel _ _ _ (by omega) NW hS hk
 | (i,false)::rest,fuel+1,listed,a,w,hl,Nt,hS,h=>by
  simp only [rF,bj,dv,du,de]at Nt;obtain⟨⟨V,hr⟩,NW⟩:=Nt;simp only [aD]at hl;refine⟨fun h0=>(by rw [hr]at h0;cases h0),fun j hj=>?_⟩;rw [hr]at hj;obtain rfl:j=i:=by simpa using hj
  have hlq:LetsOut (Bw P ops.toList Q d) ->LetsOut Q:=fun⟨a,w,h⟩=>⟨a,w,h⟩;have h2:=kL (S:=S) (Q:=Bw P ops.toList Q d) (K':=nE P ops Q S d fuel (listed.setIfInBounds j true)) (ops:=ops) (j:=j) hS (fun a w hS h=>nP hQ hs rest fuel _ a w (by omega) NW hS h) h;exact yA (fun c a w h=>h) hlq (dV (fun a' w' h3=>⟨fun h=>absurd h V,fun _=>h3⟩) h2)
theorem eY {P:Program} {ops:List Oper} {Q:Exit ->Act ->World ->Prop} {id:Nat} {a:Act} {w:World} (S:World ->Prop) (d:Nat) (l:List (Nat × Bool)) (hm:P.follows .mixedOrders=true)
  (Nt:(rF ops.toArray d l (Array.replicate ops.length false)&&Region.noSelect ops.toArray&&decide (l.length+1 <=ops.length))=true) (hS:S w.drew)
  (h:gE P ops (Bw P ops (NoPanic Q) d) S l a w.drew):(Code.region id ops.toArray true).wp P Q a w:=by
 simp only [bj,cR]at Nt;obtain⟨⟨Nt,hn⟩,hl⟩:=Nt;refine dG (wp_region_any hm (rH (S:=S) (d:=d) _ _ _ _ ?_));refine nP (S:=S) (fun c a w h=>h) hn l _ _ a _ ?_ ?_ hS ?_
 ·simpa using hl
 ·simpa using Nt
 ·simpa using h
theorem fJ {P:Program} {ops:List Oper} {Q:Exit ->Act ->World ->Prop} {S:World ->Prop} {d:Nat} {a:Act} {w:World} {op:Op} {t:TypeId} {p:String} {af:Array Edge} {g:Option (Nat × Bool)} {dst:Option Tmp}
  (hi:nth ops d=some ⟨dst,op,t,p,af,g⟩) (hg:kI ops g a=true) (h:wpList P #[] (og Q (fun _=>True) (Q .normal)) [⟨dst,op,t,p,#[],none⟩] a w):gE P ops (Bw P ops Q d) S [] a w:=
 ⟨_,hi, .inl ⟨hg,h⟩⟩
theorem zU (c d:fg) (u x u2 x2:Value) (w:World) (hu:eA 2 fR w u c.locals) (hx:eA 2 kP w x c.labels) (Pq:eA 2 fR w u2 d.locals) (Qs:eA 2 kP w x2 d.labels):
  Calls prog 253 #[.agg #[.int .i64 c.fn, .int .i64 c.pc,u, .int .i64 c.base,x], .agg #[.int .i64 d.fn, .int .i64 d.pc,u2, .int .i64 d.base,x2]] w
   (fun e w'=>∃r:Bool,e= .returned (.bool r)/\(r=true↔c=d)/\Below w.heap.size w w'):=by
 have HU:=V hu;have HV:=V hx;have RI:=V Pq;have Ql:=V Qs;obtain⟨au,Ns,rfl,_,_,_⟩:=hu;obtain⟨ax,Of,rfl,_,_,_⟩:=hx;obtain⟨Ta,QV,rfl,_,_,_⟩:=Pq;obtain⟨ax2,QW,rfl,_,_,_⟩:=Qs;have hb:Below w.heap.size w ((w.alloc (.cells #[.int .i64 c.fn, .int .i64 c.pc, .slice au c.locals.length Ns, .int .i64 c.base, .slice ax c.labels.length Of] 124)).alloc (.cells #[.int .i64 d.fn, .int .i64 d.pc, .slice Ta d.locals.length QV, .int .i64 d.base, .slice ax2 d.labels.length QW] 124)):=
  ((an w.heap.size w).alloc (ag _) _).alloc (by simp) _
 have OA:eS ((w.alloc (.cells #[.int .i64 c.fn, .int .i64 c.pc, .slice au c.locals.length Ns, .int .i64 c.base, .slice ax c.labels.length Of] 124)).alloc (.cells #[.int .i64 d.fn, .int .i64 d.pc, .slice Ta d.locals.length QV, .int .i64 d.base, .slice ax2 d.labels.length QW] 124)) w.heap.size #[.int .i64 c.fn, .int .i64 c.pc, .slice au c.locals.length Ns, .int .i64 c.base, .slice ax c.labels.length Of] 124:=(eS.new w _ _).alloc _;have O8:eS ((w.alloc (.cells #[.int .i64 c.fn, .int .i64 c.pc, .slice au c.locals.length Ns, .int .i64 c.base, .slice ax c.labels.length Of] 124)).alloc (.cells #[.int .i64 d.fn, .int .i64 d.pc, .slice Ta d.locals.length QV, .int .i64 d.base, .slice ax2 d.labels.length QW] 124)) (w.heap.size+1) #[.int .i64 d.fn, .int .i64 d.pc, .slice Ta d.locals.length QV, .int .i64 d.base, .slice ax2 d.labels.length QW] 124:=by
  have:=eS.new (w.alloc (.cells #[.int .i64 c.fn, .int .i64 c.pc, .slice au c.locals.length Ns, .int .i64 c.base, .slice ax c.labels.length Of] 124)) #[.int .i64 d.fn, .int .i64 d.pc, .slice Ta d.locals.length QV, .int .i64 d.base, .slice ax2 d.labels.length QW] 124;rw [aC]at this;exact this
 go_enter func253,ntmps253;by_cases q1:c.fn=d.fn;rotate_left
 ·have f1:=eh q1
  have HX:=V (show c.fn≠d.fn from q1);clear q1;go_wp2;go_ret;exact⟨false,rfl,⟨fun h=>(by cases h),fun h=>(HX.out (by rw [h])).elim⟩,hb⟩
 have f1:=eV q1;have Q1:=V q1;clear q1;by_cases q2:c.pc=d.pc;rotate_left
 ·have f2:=eh q2
  have HX:=V (show c.pc≠d.pc from q2);clear q2;go_wp2;go_ret;exact⟨false,rfl,⟨fun h=>(by cases h),fun h=>(HX.out (by rw [h])).elim⟩,hb⟩
 have f2:=eV q2;have Q2:=V q2;clear q2;by_cases q3:c.base=d.base;rotate_left
 ·have f3:=eh q3
  have HX:=V (show c.base≠d.base from q3);clear q3;go_wp2;go_ret;exact⟨false,rfl,⟨fun h=>(by cases h),fun h=>(HX.out (by rw [h])).elim⟩,hb⟩
 have f3:=eV q3;have Q3:=V q3;clear q3;go_wp2_with fail;refine(tT _ _ c.locals d.locals _ (HU.out.below (hb.mono (ag _))) (RI.out.below (hb.mono (ag _)))).mono ?_;rintro y w2 ⟨r,rfl,hr,No⟩;have PG:=OA.below No OA.lt;have hby2:=O8.below No O8.lt;have NJ:=hb.trans (No.mono hb.size);have OU:=V hr;obtain⟨x0,x1,x2,x3,x4⟩:=PG.tv;obtain⟨y0,y1,y2,y3,y4⟩:=hby2.tv;clear hr No OA O8 hb PG hby2;cases r with
 | false=>
  go_wp2;go_ret;refine⟨false,rfl,⟨fun h=>(by cases h),fun h=>?_⟩,NJ⟩;have g:=OU.out.2 (by rw [h]);simp at g
 | true=>
  go_wp2_with fail;refine(zD _ _ c.labels d.labels _ (HV.out.below (NJ.mono (ag _))) (Ql.out.below (NJ.mono (ag _)))).mono ?_;rintro y w3 ⟨r2,rfl,P7,NP⟩;have hb'':=NJ.trans (NP.mono NJ.size);have QX:=V P7;clear P7 NP NJ x0 x1 x2 x3 x4 y0 y1 y2 y3 y4;go_wp2;go_ret;refine⟨r2,rfl,⟨fun h=>?_,fun h=>QX.out.2 (by rw [h])⟩,hb''⟩;have g:=OU.out.1 (by simp);have g':=QX.out.1 h;obtain⟨p0,p1,p2,p3,p4⟩:=c;obtain⟨s0,s1,s2,s3,s4⟩:=d;have g1:=Q1.out;have g2:=Q2.out;have g3:=Q3.out;simp only at g g' g1 g2 g3;rw [g,g',g1,g2,g3]
theorem AQ (va vb:Value) (la lb:List fg) (w:World) (ha:gu w va la) (hb:gu w vb lb):
  Calls prog 252 #[va,vb, .func (.func 253) #[] #[]] w (pA la lb w):=by
 have HA:=V ha;have HB:=V hb;obtain⟨a,cap,rfl,h1,h2⟩:=ha.slice;obtain⟨a2,Nr,rfl,h3,h4⟩:=hb.slice;clear ha hb;by_cases hlen:la.length=lb.length;rotate_left
 ·have f1:(((la.length:Int)) !=((lb.length:Int)))=true:=fB (by omega)
  have HL:=V hlen;clear hlen;go_enter func252,ntmps252;go_wp2;go_ret;exact⟨false,rfl,⟨fun h=>(by cases h),fun h=>absurd (cY List.length h) HL.out⟩,an _ _⟩
 rw [<- hlen]at h3 HB⊢;have HL:=V hlen;clear hlen;go_enter func252,ntmps252;go_wp2_with fail;refine eR (fun a' w'=>∃(k:Nat),a'=fr (.slice a la.length cap:: .slice a2 la.length Nr:: .func (.func 253) #[] #[]::gs a' 3 12 (.slice a la.length cap:: .int .i64 la.length:: .int .i64 k::gs a' 18 14 []))/\CA la lb w w' k) (fun a' _=>(la.length - (intOf (a'.tmps.getD 17 undef)).toNat)) ?_ ?_
 ·exact⟨0,rfl,by omega,rfl,an _ _⟩
 ·skip
  rintro R a' w1 ⟨k,Nm,hJ⟩ HR;dsimp only [fr,gs]at Nm;generalize slot a'=f at Nm;subst Nm;obtain⟨hk,QT,hb⟩:=hJ;have HT:=V QT;clear QT;by_cases N8:k < la.length;rotate_left
  ·obtain rfl:k=la.length:=by omega
   go_wp2;go_ret;refine⟨true,rfl,⟨fun _=>?_,fun _=>rfl⟩,hb⟩;have:=HT.out;rw [aU,HL.out,aU]at this;exact this
  obtain⟨c,he⟩:∃e,la[k]?=some e:=⟨_,aq N8⟩;obtain⟨d,hd⟩:∃d,lb[k]?=some d:=⟨_,aq (by have:=HL.out;omega)⟩;obtain⟨b,off,u,x,rfl,Nu,⟨c0,c1,c2,c3,c4⟩,hu,hx,-⟩:=(HA.out.below (hb.mono (ag _))).get he;obtain⟨b2,NR,u2,x2,rfl,O3,⟨d0,d1,d2,d3,d4⟩,Pq,Qs,-⟩:=(HB.out.below (hb.mono (ag _))).get hd;have HU:=V hu;have HV:=V hx;have RI:=V Pq;have Ql:=V Qs;obtain⟨au,Ns,rfl,_,_,_⟩:=hu;obtain⟨ax,Of,rfl,_,_,_⟩:=hx;obtain⟨Ta,QV,rfl,_,_,_⟩:=Pq;obtain⟨ax2,QW,rfl,_,_,_⟩:=Qs;have HE:=V he;have HD:=V hd;clear he hd;have Pw:Below w1.heap.size w1 (w1.alloc (.cells #[.int .i64 c.fn, .int .i64 c.pc, .slice au c.locals.length Ns, .int .i64 c.base, .slice ax c.labels.length Of] 124)):=(an w1.heap.size w1).alloc (ag _) _;have ON:Below w1.heap.size w1 ((w1.alloc (.cells #[.int .i64 c.fn, .int .i64 c.pc, .slice au c.locals.length Ns, .int .i64 c.base, .slice ax c.labels.length Of] 124)).alloc (.cells #[.int .i64 d.fn, .int .i64 d.pc, .slice Ta d.locals.length QV, .int .i64 d.base, .slice ax2 d.labels.length QW] 124)):=Pw.alloc (by simp) _;have e0:=(Pw.cell (p:=⟨b2,NR+k*5,none⟩) O3).trans d0;have e1:=(Pw.cell (p:=⟨b2,NR+k*5+1,none⟩) O3).trans d1;have e2:=(Pw.cell (p:=⟨b2,NR+k*5+2,none⟩) O3).trans d2;have e3:=(Pw.cell (p:=⟨b2,NR+k*5+3,none⟩) O3).trans d3;have e4:=(Pw.cell (p:=⟨b2,NR+k*5+4,none⟩) O3).trans d4;go_wp2_with fail;refine(zU c d _ _ _ _ _ (HU.out.below ON) (HV.out.below ON) (RI.out.below ON) (Ql.out.below ON)).mono ?_;rintro y w2 ⟨r,rfl,hr,No⟩;replace hb:=hb.trans ((ON.trans (No.mono ON.size)).mono hb.size);clear No ON Pw c0 c1 c2 c3 c4 d0 d1 d2 d3 d4 e0 e1 e2 e3 e4;have OU:=V hr;clear hr;cases r with
  | false=>
   go_wp2;go_ret;refine⟨false,rfl,⟨fun h=>(by cases h),fun h=>?_⟩,hb⟩;have h1:=HE.out;rw [h,HD.out]at h1;injection h1 with h1;exact OU.out.2 h1.symm
  | true=>
   go_wp2;refine HR.out _ _ ⟨k+1,rfl,by omega,?_,hb⟩ ?_
   ·rw [aR,aR,HT.out,HE.out,HD.out,OU.out.1 (by simp)]
   ·simp [intOf]
    omega
theorem tN (uv uf uv2 uf2:Value) (s t:fP) (w:World) (hs:jP w uv uf s) (ht:jP w uv2 uf2 t):
  Calls prog 140 #[.agg #[uv,uf, .int .i64 s.asks], .agg #[uv2,uf2, .int .i64 t.asks]] w
   (fun e w'=>∃r:Bool,e= .returned (.bool r)/\(r=true↔s=t)/\Below w.heap.size w w'):=by
 obtain⟨hv,hf,-⟩:=hs;obtain⟨OI,hf2,-⟩:=ht;have HV:=V hv;have HF:=V hf;have Ql:=V OI;have HF2:=V hf2;obtain⟨av,NL,rfl,_,_,_⟩:=hv;obtain⟨af,OP,rfl,_,_⟩:=hf.slice;obtain⟨SY,Qc,rfl,_,_,_⟩:=OI;obtain⟨af2,Qd,rfl,_,_⟩:=hf2.slice;clear hf hf2;have hb:Below w.heap.size w ((w.alloc (.cells #[.slice av s.eu.length NL, .slice af s.ez.length OP, .int .i64 s.asks] 60)).alloc (.cells #[.slice SY t.eu.length Qc, .slice af2 t.ez.length Qd, .int .i64 t.asks] 60)):=
  ((an w.heap.size w).alloc (ag _) _).alloc (by simp) _
 have OA:eS ((w.alloc (.cells #[.slice av s.eu.length NL, .slice af s.ez.length OP, .int .i64 s.asks] 60)).alloc (.cells #[.slice SY t.eu.length Qc, .slice af2 t.ez.length Qd, .int .i64 t.asks] 60)) w.heap.size #[.slice av s.eu.length NL, .slice af s.ez.length OP, .int .i64 s.asks] 60:=(eS.new w _ _).alloc _;have O8:eS ((w.alloc (.cells #[.slice av s.eu.length NL, .slice af s.ez.length OP, .int .i64 s.asks] 60)).alloc (.cells #[.slice SY t.eu.length Qc, .slice af2 t.ez.length Qd, .int .i64 t.asks] 60)) (w.heap.size+1) #[.slice SY t.eu.length Qc, .slice af2 t.ez.length Qd, .int .i64 t.asks] 60:=by
  have:=eS.new (w.alloc (.cells #[.slice av s.eu.length NL, .slice af s.ez.length OP, .int .i64 s.asks] 60)) #[.slice SY t.eu.length Qc, .slice af2 t.ez.length Qd, .int .i64 t.asks] 60;rw [aC]at this;exact this
 go_enter func140,ntmps140;by_cases q1:s.asks=t.asks;rotate_left
 ·have f1:=eh q1
  have HX:=V (show s.asks≠t.asks from q1);clear q1;go_wp2;go_ret;exact⟨false,rfl,⟨fun h=>(by cases h),fun h=>(HX.out (by rw [h])).elim⟩,hb⟩
 have f1:=eV q1;have Q1:=V q1;clear q1;go_wp2_with fail;refine(tT _ _ s.eu t.eu _ (HV.out.below (hb.mono (ag _))) (Ql.out.below (hb.mono (ag _)))).mono ?_;rintro y w2 ⟨r,rfl,hr,No⟩;have PG:=OA.below No OA.lt;have hby2:=O8.below No O8.lt;have NJ:=hb.trans (No.mono hb.size);have OU:=V hr;obtain⟨x0,x1,x2⟩:=PG.three;obtain⟨y0,y1,y2⟩:=hby2.three;clear hr No OA O8 hb PG hby2;cases r with
 | false=>
  go_wp2;go_ret;refine⟨false,rfl,⟨fun h=>(by cases h),fun h=>?_⟩,NJ⟩;have g:=OU.out.2 (by rw [h]);simp at g
 | true=>
  go_wp2_with fail;refine(AQ _ _ s.ez t.ez _ (HF.out.below (NJ.mono (ag _))) (HF2.out.below (NJ.mono (ag _)))).mono ?_;rintro y w3 ⟨r2,rfl,P7,NP⟩;have hb'':=NJ.trans (NP.mono NJ.size);have QX:=V P7;clear P7 NP NJ x0 x1 x2 y0 y1 y2;go_wp2;go_ret;refine⟨r2,rfl,⟨fun h=>?_,fun h=>QX.out.2 (by rw [h])⟩,hb''⟩;have g:=OU.out.1 (by simp);have g':=QX.out.1 h;obtain⟨p0,p1,p2⟩:=s;obtain⟨s0,s1,s2⟩:=t;have g1:=Q1.out;simp only at g g' g1;rw [g,g',g1]
def Kz (s:fP) (w:World) (e:Ending) (w':World):Prop:=
 ∃v,e= .returned v/\Below w.heap.size w w'/\((s.may/\eC w' w.heap.size v (jd s))\/(¬ s.may/\v= .slice none 0 0))
def wM (s:fP):List UInt8:=jU s.eu++ff (s.asks+1).toNat++ff s.ez.length
def LI (s:fP) (w w':World) (v:Value) (k:Nat):Prop:=
 k <=s.ez.length/\eC w' (w.heap.size+1) v (wM s++iA (s.ez.take k))/\Below w.heap.size w w'
def Mv (L:List UInt8) (labs:List lA) (w w':World) (v:Value) (m:Nat):Prop:=
 m <=labs.length/\eC w' (w.heap.size+1) v (L++((labs.take m).map pY).flatten)/\Below w.heap.size w w'
theorem Hd {α:Type} {k:Nat} {enc:α ->List Value} {w:World} {a:Option Addr} {n cap:Nat} {l:List α} (h:eA k enc w (.slice a n cap) l):l≠[] ->∀ad,a=some ad ->ad.block < w.heap.size:=by
 obtain⟨a',NK,hv,_,_,hc⟩:=h;injection hv with e1 e2 e3;subst e1;intro Ox ad ha;obtain⟨x,xs,hxs⟩:=List.exists_cons_of_ne_nil Ox;obtain⟨b1,off1,g1,g2,_⟩:=hc 0 x (by rw [hxs];rfl);rw [ha]at g1;injection g1 with g1;rw [g1];exact g2
theorem mQ (uv uf:Value) (s:fP) (w:World) (NH:jP w uv uf s):
  Calls prog 138 #[.agg #[uv,uf, .int .i64 s.asks]] w (Kz s w):=by
 have HS:=V NH;obtain⟨hv,hf,⟨o1,o2⟩,TE,Sk⟩:=id NH;obtain⟨av,NL,rfl,_,Oh,_⟩:=id hv;obtain⟨af,OP,rfl,_,Sj⟩:=hf.slice;unfold maxLen at Oh;have HV:=V hv;have HF:=V hf;have HOV:=V TE;have RW:=V Sk;clear hv hf TE Sk;have NG:Below w.heap.size w (w.alloc (.cells #[.slice av s.eu.length NL, .slice af s.ez.length OP, .int .i64 s.asks] 60)):=(an _ _).alloc (ag _) _;have hbx0:=eS.new w #[.slice av s.eu.length NL, .slice af s.ez.length OP, .int .i64 s.asks] 60;go_enter func138,ntmps138;go_wp2_with fail;refine(oQ _ _ s _ (NH.below (NG.mono (ag _)))).mono ?_;rintro x w1 ⟨rfl,hbm⟩;have hbx1:=hbx0.below hbm (by simp);have Nx:=NG.trans (hbm.mono NG.size);have Tb:=hbm.size;simp only [aC]at Tb;clear hbm hbx0 NG NH;by_cases hm:s.may;rotate_left
 ·have hr:decide s.may=false:=aw hm
  rw [hr];have HM:=V hm;clear hm hr;go_wp2;go_ret;exact⟨_,rfl,Nx, .inr ⟨HM.out,rfl⟩⟩
 have hr:decide s.may=true:=ay hm;rw [hr];have HM:=V hm;obtain⟨m1,m2,m3,m4,-,-⟩:=hm;clear hr;obtain⟨n0,QM⟩:∃n:Nat,s.asks+1=n:=⟨(s.asks+1).toNat,by omega⟩;have hn1:n0 <=10001:=by omega
 have HN:=V QM;obtain⟨x0,x1,x2⟩:=hbx1.three;clear QM;have hq:∀i,(⟨i,0,none⟩:Addr)=⟨i,0,none⟩:=fun _=>rfl;clear hq;have f0:s.asks+1=(n0:Int):=HN.out;go_wp2_with fail;refine eB (fun w'=>w'.cell? ⟨w.heap.size,0,none⟩=some (.slice av s.eu.length NL)/\w'.cell? ⟨w.heap.size,1,none⟩=some (.slice af s.ez.length OP)/\w'.cell? ⟨w.heap.size,2,none⟩=some (.int .i64 s.asks))
  ((0,true)::(1,true)::up 3 3 (up 7 3 ((2,false)::(6,false)::(10,false)::(11,true)::[]))) (by kernel_rfl) (by kernel_rfl) ⟨x0,x1,x2⟩ ?_
 clear x0 x1 x2;iterate 8 (first | (apply sk rfl rfl;simp only [pt]) | (apply eo rfl rfl rfl;·(rintro w' ⟨t0,t1,t2⟩;go_wp2;exact⟨rfl,rfl,rfl⟩)))
 refine ew rfl rfl ?_;go_wp2_with fail;have hnx1:¬ eO (.slice none 0 0) w.heap.size:=by simp [eO,Value.ownBlock]
 refine(tJ (.slice none 0 0) [] _ s.eu (w.heap.size+1) w1.drew (eC.nil _ _) (by simp) (by simp;omega) (HV.out.below (Nx.drew.mono (ag _))) HM.out.2.2.2.2.1 HOV.out (by omega) (fun _ i hi=>by simp [eO,Value.ownBlock]at hi)).mono ?_;rintro x w2 ⟨v2,rfl,NU,Nw,NC⟩;have PG:=hbx1.drew.keeps Nw hnx1;have hnx2:¬ eO v2 w.heap.size:=fun h=>by have:=(eM NU h).1;omega
 have No:Below w.heap.size w w2:=Nx.drew.trans (Nw.below Nx.size (fun i hi=>by simp [eO,Value.ownBlock]at hi));rw [bY]at NU;clear Nw NC hbx1;have hl2:(jU s.eu).length <=21000:=by
  have g1:=oN s.eu HOV.out;have g2:=(eU s.eu.length).2;simp only [jU,ah];omega
 have Qp:=PG.lt;go_wp2_with fail;refine⟨PG.three,?_⟩;refine ew rfl rfl ?_;go_wp2_with fail;refine(mq v2 _ n0 (by omega) (w.heap.size+1) w2 NU (by omega) (by omega)).mono ?_;rintro x w3 ⟨v3,rfl,O9,Oo,PW⟩;have Sz:=PG.keeps Oo hnx2;have hnx3:¬ eO v3 w.heap.size:=fun h=>(PW _ h).elim hnx2 (fun g=>by have:=PG.lt;(try simp at g this);omega);have NP:Below w.heap.size w w3:=No.trans (Oo.below No.size (fun i hi=>by have:=(eM NU hi).1;omega));clear Oo PW;have hl3:=(eU n0).2;have Qq:=Sz.lt;go_wp2_with fail;refine⟨Sz.three,?_⟩;refine ew rfl rfl ?_;go_wp2_with fail;refine(mq v3 _ s.ez.length (by omega) (w.heap.size+1) w3 O9 (by simp only [ah];omega) (by omega)).mono ?_;rintro x w4 ⟨v4,rfl,OM,QF,O2⟩;have RX:=Sz.keeps QF hnx3;have hnx4:¬ eO v4 w.heap.size:=fun h=>(O2 _ h).elim hnx3 (fun g=>by have:=Sz.lt;(try simp at g this);omega);have OG:Below w.heap.size w w4:=NP.trans (QF.below NP.size (fun i hi=>by have:=(eM O9 hi).1;omega));clear QF O2;have hl4:=(eU s.ez.length).2;go_wp2_with fail;refine⟨RX.three,?_⟩;iterate 1 (first | (apply sk rfl rfl;simp only [pt]) | (apply eo rfl rfl rfl;·(rintro w' ⟨t0,t1,t2⟩;go_wp2;exact⟨rfl,rfl,rfl⟩)))
 refine eW ?_;refine aA ?_;obtain⟨x0,x1,x2⟩:=RX.three;have hhead:jU s.eu++ff n0++ff s.ez.length=wM s:=by rw [wM,f0];rfl
 have hlh:(wM s).length <=21020:=by rw [<- hhead];simp only [ah];omega
 rw [hhead]at OM;clear hhead PG Sz RX hnx1 hnx2 hnx3 hnx4 NU O9 No NP hl2 hl3 hl4 f0;go_wp2_with fail;clear x0 x1 x2;refine eR (fun a' w'=>∃(v:Value) (k:Nat),a'=fr (gs a' 0 3 (v::gs a' 4 19 (.slice af s.ez.length OP:: .int .i64 s.ez.length:: .int .i64 k::gs a' 26 38 [])))/\LI s w w' v k) (fun a' _=>(s.ez.length - (intOf (a'.tmps.getD 25 undef)).toNat)) ?_ ?_
 ·exact⟨v4,0,rfl,by omega,by simpa [iA] using OM,OG⟩
 clear OM OG Nx Tb Qp Qq;rintro R a' w5 ⟨v,k,Nm,hJ⟩ HR;dsimp only [fr,gs]at Nm;generalize slot a'=f at Nm;subst Nm;obtain⟨hk,ho,hb⟩:=hJ;by_cases N8:k < s.ez.length;rotate_left
 ·obtain rfl:k=s.ez.length:=by omega
  go_wp2;go_ret;refine⟨v,rfl,hb, .inl ⟨HM.out,?_⟩⟩;rw [aU]at ho;have:=nH (base':=w.heap.size) ho (fun i hi=>by have:=(eM ho hi).1;omega);rw [jd];exact this
 obtain⟨g,he⟩:∃e,s.ez[k]?=some e:=⟨_,aq N8⟩;obtain⟨b,off,u,x,rfl,Nu,⟨d0,d1,d2,d3,d4⟩,hu,hx,Nt⟩:=HF.out.get he;have c0:w5.cell? ⟨b,off+k*5,none⟩=some (.int .i64 g.fn):=by rw [hb.cell Nu];exact d0
 have c1:w5.cell? ⟨b,off+k*5+1,none⟩=some (.int .i64 g.pc):=by rw [hb.cell Nu];exact d1
 have c2:w5.cell? ⟨b,off+k*5+2,none⟩=some u:=by rw [hb.cell Nu];exact d2
 have c3:w5.cell? ⟨b,off+k*5+3,none⟩=some (.int .i64 g.base):=by rw [hb.cell Nu];exact d3
 have c4:w5.cell? ⟨b,off+k*5+4,none⟩=some x:=by rw [hb.cell Nu];exact d4
 have HU:=V hu;have HX:=V hx;obtain⟨au,Ns,rfl,_,hcu,_⟩:=id hu;obtain⟨ax,Of,rfl,hcx1,hcx,_⟩:=id hx;unfold maxLen at hcu hcx;have HUB:=V (Hd hu);obtain⟨p1,p2,p3,p4,⟨p5,p6⟩,⟨p7,p8⟩,p9,p10⟩:=HM.out.2.2.2.2.2 g (aN he);have HP1:=V p1;have HP4:=V p4;have HOL:=V Nt.2.2.2.1;obtain⟨nf,hnf⟩:∃n:Nat,g.fn=n:=⟨g.fn.toNat,by omega⟩;obtain⟨np,hnp⟩:∃n:Nat,g.pc=n:=⟨g.pc.toNat,by omega⟩;obtain⟨nb,hnb⟩:∃n:Nat,g.base=n:=⟨g.base.toNat,by omega⟩;have HFB:=V (show pe g=jU g.locals++ff nf++ff np++ff nb++(ff g.labels.length++(g.labels.map pY).flatten)by rw [pe,DI,hnf,hnp,hnb];rfl);have hlen:(wM s++iA (s.ez.take k)).length <=75000:=by
  have g2:=qj (s.ez.take k) (fun y hy=>⟨HM.out.2.2.2.2.2 y (cF hy),RW.out y (cF hy)⟩);have g3:(s.ez.take k).length <=32:=by rw [aP];omega
  rw [ah];omega
 have HE:=V he;rw [hnf]at c0 p5 p6;rw [hnp]at c1 p7 p8;rw [hnb]at c3 p9 p10;generalize hL:wM s++iA (s.ez.take k)=L at ho hlen;have HL:=V hL;have P2:=(eS.new w5 #[.int .i64 nf, .int .i64 np, .slice au g.locals.length Ns, .int .i64 nb, .slice ax g.labels.length Of] 124).drew;have RY:¬ eO v w5.heap.size:=fun h=>by have:=(eM ho h).2;omega
 have hoa:=ho.keeps (((ep.refl (fun _=>False) w5).alloc (.cells #[.int .i64 nf, .int .i64 np, .slice au g.locals.length Ns, .int .i64 nb, .slice ax g.labels.length Of] 124)).drew) (fun _ _ h=>h);have Pw:=(hb.alloc hb.size (.cells #[.int .i64 nf, .int .i64 np, .slice au g.locals.length Ns, .int .i64 nb, .slice ax g.labels.length Of] 124)).drew;have hba1:w.heap.size+1 <=w5.heap.size+1:=by have:=hb.size;omega
 clear hL d0 d1 d2 d3 d4 he Nt p1 p4 hnf hnp hnb hu hx ho hb;have HRO:=HR;clear HR;go_wp2_with fail;refine eB (fun w'=>w'.cell? ⟨w5.heap.size,0,none⟩=some (.int .i64 nf)/\w'.cell? ⟨w5.heap.size,1,none⟩=some (.int .i64 np)/\w'.cell? ⟨w5.heap.size,2,none⟩=some (.slice au g.locals.length Ns)/\w'.cell? ⟨w5.heap.size,3,none⟩=some (.int .i64 nb)/\w'.cell? ⟨w5.heap.size,4,none⟩=some (.slice ax g.labels.length Of))
  (up 0 3 ((4,true)::(5,true)::(7,true)::(8,true)::(10,true)::(11,true)::(3,false)::(6,false)::(9,false)::(12,false)::(13,true)::[])) (by kernel_rfl) (by kernel_rfl) P2.tv ?_
 clear c0 c1 c2 c3 c4;obtain⟨Y,hY⟩:∃Y,Y=w5.heap.size:=⟨_,rfl⟩;rw [<- hY]at P2 RY hba1⊢;clear hY;generalize(w5.alloc (.cells #[.int .i64 nf, .int .i64 np, .slice au g.locals.length Ns, .int .i64 nb, .slice ax g.labels.length Of] 124)).drew=wa at P2 hoa Pw⊢;obtain⟨va,hva⟩:∃va,va=v:=⟨_,rfl⟩;have hszY:=P2.lt;iterate 9 (first | (apply sk rfl rfl;simp only [pt]) | (apply eo rfl rfl rfl;·(rintro w' ⟨t0,t1,t2,t3,t4⟩;go_wp2;exact⟨rfl,rfl,rfl⟩)))
 refine ew rfl rfl ?_;go_wp2_with fail;subst hva;refine(tJ va L _ g.locals (w.heap.size+1) wa hoa (by omega) (by omega) (HU.out.below (Pw.mono (ag _))) HP4.out HOL.out (by omega) (fun Ox i hi a n cp he=>by
  injection he with e1 e2 e3;have:=HUB.out Ox a e1;have:=(eM hoa hi).1;omega)).mono ?_
 rintro x wb ⟨vb,rfl,hob,hkb,hsb⟩;have QG:=P2.keeps hkb RY;have Tc:¬ eO vb Y:=fun h=>(hsb _ h).elim RY (fun q=>by omega);have ON:Below w.heap.size w wb:=Pw.trans (hkb.below Pw.size (fun i hi=>by have:=(eM hoa hi).1;omega));clear hkb hsb;have hlb:(L++jU g.locals).length <=76000:=by
  have g1:=oN g.locals HOL.out;have g2:=(eU g.locals.length).2;simp only [jU,ah];omega
 have hszb:=QG.lt;go_wp2_with fail;refine⟨QG.tv,?_⟩;refine ew rfl rfl ?_;go_wp2_with fail;refine(mq vb _ nf (by omega) (w.heap.size+1) wb hob (by omega) (by omega)).mono ?_;rintro x wc ⟨vc,rfl,hoc,hkc,hsc⟩;have SD:=QG.keeps hkc Tc;have hnxc:¬ eO vc Y:=fun h=>(hsc _ h).elim Tc (fun g=>by have:=QG.lt;(try simp at g this);omega);have hbc:Below w.heap.size w wc:=ON.trans (hkc.below ON.size (fun i hi=>by have:=(eM hob hi).1;omega));clear hkc hsc;have hlc:=(eU nf).2;have hszc:=SD.lt;go_wp2_with fail;refine⟨SD.tv,?_⟩;refine ew rfl rfl ?_;go_wp2_with fail;refine(mq vc _ np (by omega) (w.heap.size+1) wc hoc (by simp only [ah]at*;omega) (by omega)).mono ?_;rintro x wd ⟨vd,rfl,hod,RH,hsd⟩;have hbxd:=SD.keeps RH hnxc;have hnxd:¬ eO vd Y:=fun h=>(hsd _ h).elim hnxc (fun g=>by have:=SD.lt;(try simp at g this);omega);have PD:Below w.heap.size w wd:=hbc.trans (RH.below hbc.size (fun i hi=>by have:=(eM hoc hi).1;omega));clear RH hsd;have hld:=(eU np).2;have hszd:=hbxd.lt;go_wp2_with fail;refine⟨hbxd.tv,?_⟩;refine ew rfl rfl ?_;go_wp2_with fail;refine(mq vd _ nb (by omega) (w.heap.size+1) wd hod (by simp only [ah]at*;omega) (by omega)).mono ?_;rintro x we ⟨ve,rfl,hoe,hke,hse⟩;have hbxe:=hbxd.keeps hke hnxd;have hnxe:¬ eO ve Y:=fun h=>(hse _ h).elim hnxd (fun g=>by have:=hbxd.lt;(try simp at g this);omega);have RG:Below w.heap.size w we:=PD.trans (hke.below PD.size (fun i hi=>by have:=(eM hod hi).1;omega));clear hke hse;have hle:=(eU nb).2;have hsze:=hbxe.lt;go_wp2_with fail;refine⟨hbxe.tv,?_⟩;iterate 1 (first | (apply sk rfl rfl;simp only [pt]) | (apply eo rfl rfl rfl;·(rintro w' ⟨t0,t1,t2,t3,t4⟩;go_wp2;exact⟨rfl,rfl,rfl⟩)))
 refine eW ?_;refine aA ?_;have hl5:(L++jU g.locals++ff nf++ff np++ff nb).length <=77000:=by simp only [ah]at*;omega
 clear P2 QG SD hbxd RY Tc hnxc hnxd hoa hob hoc hod Pw ON hbc PD hlb hlc hld hle;obtain⟨x0,x1,x2,x3,x4⟩:=hbxe.tv;go_wp2_with fail;refine(mq ve _ g.labels.length (by omega) (w.heap.size+1) we hoe (by omega) (by omega)).mono ?_;rintro x wh ⟨vh,rfl,hoh,hkh,hsh⟩;have hbxh:=hbxe.keeps hkh hnxe;have hnxh:¬ eO vh Y:=fun h=>(hsh _ h).elim hnxe (fun g=>by have:=hbxe.lt;(try simp at g this);omega);have hbh:Below w.heap.size w wh:=RG.trans (hkh.below RG.size (fun i hi=>by have:=(eM hoe hi).1;omega));clear hkh hsh;have hlh2:=(eU g.labels.length).2;have hl6:(L++jU g.locals++ff nf++ff np++ff nb++ff g.labels.length).length <=77100:=by rw [ah];omega
 clear x0 x1 x2 x3 x4;obtain⟨x0,x1,x2,x3,x4⟩:=hbxh.tv;have hL2:wM s++iA (s.ez.take (k+1))=L++jU g.locals++ff nf++ff np++ff nb++ff g.labels.length++(g.labels.map pY).flatten:=by
  rw [aR,HE.out,Am, <- aL,HL.out];simp [iA,HFB.out]
 have SZ:=V hL2;clear hL2 hl5 RG hoe hbxe hnxe hnxh;generalize L++jU g.locals++ff nf++ff np++ff nb++ff g.labels.length=L2 at SZ hoh hl6;go_wp2_with fail;clear x0 x1 x2 x3 x4 hbxh;refine eR (fun a' w'=>∃(v:Value) (m:Nat),a'=fr (gs a' 0 3 (v::gs a' 4 19 (.slice (some ⟨b,off,none⟩) s.ez.length OP:: .int .i64 s.ez.length:: .int .i64 k::gs a' 26 22 (.slice ax g.labels.length Of:: .int .i64 g.labels.length:: .int .i64 m::gs a' 51 13 []))))/\Mv L2 g.labels w w' v m) (fun a' _=>(g.labels.length - (intOf (a'.tmps.getD 50 undef)).toNat)) ?_ ?_
 ·exact⟨vh,0,rfl,by omega,by simpa using hoh,hbh⟩
 clear hoh hbh hszY hszb hszc hszd hsze hba1;rintro R a' w5 ⟨v,m,Nm,hJ⟩ HR;dsimp only [fr,gs]at Nm;generalize slot a'=f at Nm;subst Nm;obtain⟨hm,ho,hb⟩:=hJ;by_cases hml:m < g.labels.length;rotate_left
 ·obtain rfl:m=g.labels.length:=by omega
  go_wp2_with fail;refine HRO.out _ _ ⟨v,k+1,rfl,by omega,?_,hb⟩ ?_
  ·rw [SZ.out]
   rw [aU]at ho;exact ho
  ·simp [intOf]
   omega
 obtain⟨e,hee⟩:∃e,g.labels[m]?=some e:=⟨_,aq hml⟩;obtain⟨a',NK,hva,_,_,Nk⟩:=HX.out.below (hb.mono (ag _));injection hva with e1 e2 e3;subst e1 e3;obtain⟨bl,offl,rfl,hltl,Sx⟩:=Nk m e hee;have y0:=Sx 0 _ rfl;have y1:=Sx 1 _ rfl;rw [aJ]at y0;obtain⟨⟨r1,r2⟩,r3,r4⟩:=HP1.out e (aN hee);obtain⟨na,hna⟩:∃n:Nat,e.pos=n:=⟨e.pos.toNat,by omega⟩;obtain⟨nh,hnh⟩:∃n:Nat,e.fb=n:=⟨e.fb.toNat,by omega⟩;have HLB:=V (show pY e=ff na++ff nh by rw [pY,hna,hnh];rfl);rw [hna]at y0 r1 r2;rw [hnh]at y1 r3 r4;have hlen2:(L2++((g.labels.take m).map pY).flatten).length <=78000:=by
  have q1:=wG (g.labels.take m);have q2:(g.labels.take m).length <=40:=by rw [aP];omega
  rw [ah];omega
 have HEE:=V hee;generalize hL3:L2++((g.labels.take m).map pY).flatten=L3 at ho hlen2;have HL3:=V hL3;have P2:=(eS.new w5 #[.int .i64 na, .int .i64 nh] 144).drew;have RY:¬ eO v w5.heap.size:=fun h=>by have:=(eM ho h).2;omega
 have hoa:=ho.keeps (((ep.refl (fun _=>False) w5).alloc (.cells #[.int .i64 na, .int .i64 nh] 144)).drew) (fun _ _ h=>h);have Pw:=(hb.alloc hb.size (.cells #[.int .i64 na, .int .i64 nh] 144)).drew;have hba1:w.heap.size+1 <=w5.heap.size+1:=by have:=hb.size;omega
 clear hL3 Nk Sx e2 hee hna hnh ho hb;go_wp2_with fail;refine eB (fun w'=>w'.cell? ⟨w5.heap.size,0,none⟩=some (.int .i64 na)/\w'.cell? ⟨w5.heap.size,1,none⟩=some (.int .i64 nh)) (up 0 3 ((4,true)::(5,true)::(3,false)::(6,false)::(7,true)::[])) (by kernel_rfl) (by kernel_rfl) ⟨P2.cell 0,P2.cell 1⟩ ?_;clear y0 y1;obtain⟨Z,hZ⟩:∃Z,Z=w5.heap.size:=⟨_,rfl⟩;rw [<- hZ]at P2 RY hba1⊢;clear hZ;generalize(w5.alloc (.cells #[.int .i64 na, .int .i64 nh] 144)).drew=wa at P2 hoa Pw⊢;have hszZ:=P2.lt;iterate 5 (first | (apply sk rfl rfl;simp only [pt]) | (apply eo rfl rfl rfl;·(rintro w' ⟨t0,t1⟩;go_wp2;exact⟨rfl,rfl,rfl⟩)))
 refine ew rfl rfl ?_;go_wp2_with fail;refine(mq v _ na (by omega) (w.heap.size+1) wa hoa (by omega) (by omega)).mono ?_;rintro x wb ⟨vb,rfl,hob,hkb,hsb⟩;have QG:=P2.keeps hkb RY;have Tc:¬ eO vb Z:=fun h=>(hsb _ h).elim RY (fun g=>by have:=P2.lt;(try simp at g this);omega);have ON:Below w.heap.size w wb:=Pw.trans (hkb.below Pw.size (fun i hi=>by have:=(eM hoa hi).1;omega));clear hkb hsb;have hlb:=(eU na).2;have hszb:=QG.lt;go_wp2_with fail;refine⟨⟨QG.cell 0,QG.cell 1⟩,?_⟩;refine ew rfl rfl ?_;go_wp2_with fail;refine(mq vb _ nh (by omega) (w.heap.size+1) wb hob (by simp only [ah]at*;omega) (by omega)).mono ?_;rintro x wc ⟨vc,rfl,hoc,hkc,hsc⟩;have SD:=QG.keeps hkc Tc;have hnxc:¬ eO vc Z:=fun h=>(hsc _ h).elim Tc (fun g=>by have:=QG.lt;(try simp at g this);omega);have hbc:Below w.heap.size w wc:=ON.trans (hkc.below ON.size (fun i hi=>by have:=(eM hob hi).1;omega));clear hkc hsc;clear P2 QG RY Tc hoa hob Pw ON;go_wp2_with fail;refine⟨⟨SD.cell 0,SD.cell 1⟩,?_⟩;iterate 1 (first | (apply sk rfl rfl;simp only [pt]) | (apply eo rfl rfl rfl;·(rintro w' ⟨t0,t1⟩;go_wp2;exact⟨rfl,rfl,rfl⟩)))
 refine eW ?_;refine aA ?_;go_wp2;refine HR.out _ _ ⟨vc,m+1,rfl,by omega,?_,hbc⟩ ?_
 ·have e1:L2++((g.labels.take (m+1)).map pY).flatten=L3++ff na++ff nh:=by
   rw [<- HL3.out,aR,HEE.out];simp [HLB.out]
  rw [e1];exact hoc
 ·simp [intOf]
  omega
def Hv (l m:List UInt8) (w:World) (e:Ending) (w':World):Prop:=e= .returned (.bool (l==m))/\w=w'
theorem tP (a b:Value) (l m:List UInt8) (w:World) (ha:eZ w a l) (hb:eZ w b m):
  Calls prog 124 #[a,b] w (Hv l m w):=by
 have h1:=qN ha;have h2:=qN hb;clear ha hb;go_enter func124,ntmps124;go_wp2;go_ret;exact⟨by rw [lP,lP];rfl,rfl⟩
def wY (B:Nat) (w:World) (v u:Value):Prop:=∀a n cap,u= .slice (some a) n cap ->B <=a.block/\a.block < w.heap.size/\¬ eO v a.block
def ik (w:World) (B:Nat) (v:Value) (l:List fg):Prop:=
 ∃us:List (Value × Value),us.length=l.length/\ei 124 5 mK w B v (l.zip us)/\(∀f∈l,f.ok)/\
  ∀(i:Nat) (f:fg) (u:Value × Value),l[i]?=some f ->us[i]?=some u ->(eA 2 fR w u.1 f.locals/\wY B w v u.1)/\eA 2 kP w u.2 f.labels/\wY B w v u.2
theorem ik.nil (w:World) (B:Nat):ik w B (.slice none 0 0) []:=⟨[],rfl,ei.nil _ _,by simp,by simp⟩
theorem ik.ky {w:World} {B:Nat} {v:Value} {l:List fg} (h:ik w B v l):gu w v l:=by
 obtain⟨us,h1,h2,h3,h4⟩:=h;exact⟨us,h1,h2.fT iP,fun i f u hf hu=>⟨(h4 i f u hf hu).1.1,(h4 i f u hf hu).2.1⟩,h3⟩
theorem ik.lt {w:World} {B:Nat} {v:Value} {l:List fg} (h:ik w B v l) {i:Nat} (hi:eO v i):B <=i/\i < w.heap.size:=by
 obtain⟨us,h1,h2,h3,h4⟩:=h;exact eM h2 hi
theorem ik.keeps {w w':World} {B:Nat} {v:Value} {l:List fg} {T:Nat ->Prop} (h:ik w B v l) (hk:ep T w w') (hT:∀i,T i ->i < B):ik w' B v l:=by
 obtain⟨us,h1,h2,h3,h4⟩:=h;refine⟨us,h1,h2.keeps hk (fun i hi hj=>by have:=(eM h2 hi).1;have:=hT i hj;omega),h3,fun i f u hf hu=>?_⟩;have conv:∀x,wY B w v x ->wY B w' v x:=fun x hx a n cap he=>by
  obtain⟨g1,g2,g3⟩:=hx a n cap he;exact⟨g1,bp g2 hk.size,g3⟩
 have away:∀x,wY B w v x ->∀a n cap,x= .slice (some a) n cap ->¬ T a.block:=fun x hx a n cap he hj=>by
  have:=(hx a n cap he).1;have:=hT _ hj;omega
 obtain⟨⟨g1,g2⟩,g3,g4⟩:=h4 i f u hf hu;exact⟨⟨g1.keeps hk (away _ g2),conv _ g2⟩,g3.keeps hk (away _ g4),conv _ g4⟩
theorem ik.app {w w':World} {B:Nat} {v v':Value} {l:List fg} {us:List (Value × Value)} (h1:us.length=l.length) (h3:∀f∈l,f.ok)
  (h4:∀(i:Nat) (f:fg) (u:Value × Value),l[i]?=some f ->us[i]?=some u ->(eA 2 fR w u.1 f.locals/\wY B w v u.1)/\eA 2 kP w u.2 f.labels/\wY B w v u.2)
  (hk:ep (eO v) w w') (hs:eQ w v v') {f:fg} {u:Value × Value} (hf:f.ok)
  (hu:(eA 2 fR w u.1 f.locals/\wY B w v u.1)/\eA 2 kP w u.2 f.labels/\wY B w v u.2)
  (ho:ei 124 5 mK w' B v' (l.zip us++[(f,u)])):ik w' B v' (l++[f]):=by
 have key:∀a:Addr,a.block < w.heap.size ->¬ eO v a.block ->¬ eO v' a.block:=fun a h1 h2 h3=>(hs _ h3).elim h2 (fun g=>by omega);have conv:∀x,wY B w v x ->wY B w' v' x:=fun x hx a n cap he=>by
  obtain⟨g1,g2,g3⟩:=hx a n cap he;exact⟨g1,bp g2 hk.size,key a g2 g3⟩
 have away:∀x,wY B w v x ->∀a n cap,x= .slice (some a) n cap ->¬ eO v a.block:=fun x hx a n cap he=>(hx a n cap he).2.2;refine⟨us++[u],by simp [h1],?_,?_,?_⟩
 ·rw [dq h1.symm]
  exact ho
 ·intro d hd
  rcases bU.1 hd with h | h
  ·exact h3 d h
  ·obtain rfl:=aV.1 h
   exact hf
 ·intro i d x hd hx
  have all:∀(d:fg) (x:Value × Value),((eA 2 fR w x.1 d.locals/\wY B w v x.1)/\eA 2 kP w x.2 d.labels/\wY B w v x.2) ->
    (eA 2 fR w' x.1 d.locals/\wY B w' v' x.1)/\eA 2 kP w' x.2 d.labels/\wY B w' v' x.2:=by
   rintro d x ⟨⟨g1,g2⟩,g3,g4⟩;exact⟨⟨g1.keeps hk (away _ g2),conv _ g2⟩,g3.keeps hk (away _ g4),conv _ g4⟩
  rcases bz i l.length with h | h
  ·rw [bD h]at hd
   rw [bD (by omega)]at hx;exact all d x (h4 i d x hd hx)
  ·rw [bo h]at hd
   rw [bo (by omega),h1]at hx;have hi:i - l.length=0:=by
    rcases bq (i - l.length)with g | g
    ·exact g
    ·rw [da (by simp only [aB];omega)]at hd
     cases hd
   rw [hi]at hd hx;simp at hd hx;subst hd hx;exact all f u hu
theorem vO:(prog.info? 144).map (fun i=>(i.zero,i.size,i.bytes))=some (some (.agg #[.int .i64 0, .int .i64 0]),2,16):=by kernel_rfl
theorem nA:(prog.info? 124).map (fun i=>(i.zero,i.size,i.bytes))=some (some (.agg #[.int .i64 0, .int .i64 0, .slice none 0 0, .int .i64 0, .slice none 0 0]),5,72):=by kernel_rfl
theorem eS.xJ {w:World} {X:Nat} {u v:Value} {n:Int} {t:TypeId} (h:eS w X #[u,v, .int .i64 n] t):
  (loadVar 60 ⟨X,0,none⟩).run prog w= .ok (.agg #[u,v, .int .i64 n]) w:=by
 have hs:(prog.underlying 60).map (fun d=>match d with | .struct _ | .array _ _=>true | _=>false)=some true:=by kernel_rfl
 obtain⟨d,h1,h2⟩:=bC.1 hs;exact bW w X t 60 _ _ d h h1 (by cases d <;>first | rfl | (exfalso;simp at h2)) (by kernel_rfl)
def Ji (l:List UInt8) (w:World) (e:Ending) (w':World):Prop:=
 Below w.heap.size w w'/\∃uv uf s err,e= .returned (.tuple #[.agg #[uv,uf, .int .i64 s.asks], .int .i64 err])/\jP w' uv uf s/\
  ((err=0/\s.may/\jd s=l)\/(err=11/\s=⟨[],[],0⟩/\¬ ∃s:fP,s.may/\s.ok/\jd s=l))
def Mj (B0 Rb F:Nat) (cs:Value ->Array Value) (k0:Nat) (st0:Option (List UInt8)) (w5 w':World) (v:Value) (acc:List lA) (n:Nat) (st:Option (List UInt8)):Prop:=
 oB k0 st0=(acc++(oB n st).1,(oB n st).2)/\ei 144 2 kP w' (F+1) v acc/\(∀x∈acc,x.ok)/\acc.length+ph st <=ph st0/\Rd B0 w' Rb st/\
  eS w' F (cs v) 124/\ep (fun k=>k=Rb) w5 w'/\n < 4611686018427387904
def LN (l:List UInt8) (eu:List fi) (asks:Int) (uv:Value) (C Rb Sb:Nat) (w w':World) (v:Value) (acc:List fg) (n:Nat) (st:Option (List UInt8)):Prop:=
 rB (some l)=(⟨eu,acc++(kl n st).1,asks⟩,(kl n st).2)/\ik w' (Sb+1) v acc/\acc.length+ph st <=l.length+1/\Rd w.heap.size w' Rb st/\
  eS w' C #[.slice none 0 0, .slice none 0 0, .int .i64 0] 60/\eS w' Sb #[uv,v, .int .i64 asks] 60/\eA 2 fR w' uv eu/\Below w.heap.size w w'/\n < 4611686018427387904
theorem eS.EG {w:World} {X:Nat} {t:TypeId} {x0 x1 x2:Value} (h:eS w X #[x0,x1,x2] t) (y0 y1 y2:Value):
  eS (((w.setCell ⟨X,0,none⟩ y0).setCell ⟨X,1,none⟩ y1).setCell ⟨X,2,none⟩ y2) X #[y0,y1,y2] t:=by
 have:=((h.set 0 y0).set 1 y1).set 2 y2;simpa using this
theorem jh (w:World) (X i:Nat) (v:Value):ep (fun k=>k=X) w (w.setCell ⟨X,i,none⟩ v):=⟨rfl,rfl,rfl,by simp,fun k _ hk=>cM w ⟨X,i,none⟩ v k hk⟩
theorem yF (w:World) (X:Nat) (y0 y1 y2:Value):ep (fun k=>k=X) w (((w.setCell ⟨X,0,none⟩ y0).setCell ⟨X,1,none⟩ y1).setCell ⟨X,2,none⟩ y2):=
 ((jh w X 0 y0).trans (jh _ X 1 y1) (fun _ h=> .inl h)).trans (jh _ X 2 y2) (fun _ h=> .inl h)
theorem I7 (st:Option (List UInt8)):ph (fS st).2+1 <=max 1 (ph st):=by
 cases st with
 | none=>simp [fS,ph]
 | some l=>have:=uG l;omega
theorem sy (b:Value) (l:List UInt8) (w:World) (hb:eZ w b l) (QL:l.length <=400000):Calls prog 137 #[b] w (Ji l w):=by
 obtain⟨a,cap,rfl,NX,Px,NA⟩:=id hb;have HB:=V hb;have hB0:l≠[] ->∀ad,a=some ad ->ad.block < w.heap.size:=by
  intro Ox ad ha;obtain⟨x,xs,hxs⟩:=List.exists_cons_of_ne_nil Ox;obtain⟨g,off,g1,g2⟩:=NA 0 x (by rw [hxs];rfl);rw [ha]at g1;injection g1 with g1;rw [g1];exact aO w _ g2
 unfold maxLen at Px;clear NA;have hz:eS (w.alloc (.cells #[.slice none 0 0, .slice none 0 0, .int .i64 0] 60)) w.heap.size #[.slice none 0 0, .slice none 0 0, .int .i64 0] 60:=eS.new w _ _;have Nx:Below w.heap.size w (w.alloc (.cells #[.slice none 0 0, .slice none 0 0, .int .i64 0] 60)):=(an _ _).alloc (ag _) _;have hi1:eZ (w.alloc (.cells #[.slice none 0 0, .slice none 0 0, .int .i64 0] 60)) (.slice a l.length cap) l:=hb.below Nx;have Tb:(w.alloc (.cells #[.slice none 0 0, .slice none 0 0, .int .i64 0] 60)).heap.size=w.heap.size+1:=aC _ _;clear hb;go_enter func137,ntmps137;go_wp2_with fail;rw [show w.heap.size+1=(w.alloc (.cells #[.slice none 0 0, .slice none 0 0, .int .i64 0] 60)).heap.size from Tb.symm];generalize w.alloc (.cells #[.slice none 0 0, .slice none 0 0, .int .i64 0] 60)=w0 at hz Nx hi1 Tb⊢;have hC0:w.heap.size < w0.heap.size:=by omega
 have hC0':w0.heap.size < w.heap.size+2:=by omega
 clear Tb;have Pa:Rd w.heap.size (w0.alloc (.cells #[.slice a l.length cap, .bool false] 302)) w0.heap.size (some l):=
  ⟨a,l.length,cap,eS.new w0 _ _,l,hB0,hi1.below ((an _ _).alloc (ag _) _),fun l' h=>by injection h with h;exact h.symm⟩
 have HRD0:=V Pa;clear Pa hB0 hi1;obtain⟨eu,s1,e1⟩:∃x t,jf (some l)=(x,t):=⟨_,_,rfl⟩;obtain⟨xa,s2,e2⟩:∃x t,fS s1=(x,t):=⟨_,_,rfl⟩;obtain⟨n0,s3,e3⟩:∃x t,fS s2=(x,t):=⟨_,_,rfl⟩;have ba:=mg s1;have bn:=mg s2;have ta:=nF s1;have tn:=nF s2;rw [e2]at ba ta;rw [e3]at bn tn;simp only at ba bn ta tn;have Po:=hz.alloc (.cells #[.slice a l.length cap, .bool false] 302);have NG:=Nx.alloc (by omega) (.cells #[.slice a l.length cap, .bool false] 302);have hszr:(w0.alloc (.cells #[.slice a l.length cap, .bool false] 302)).heap.size=w0.heap.size+1:=aC _ _;refine(xS w.heap.size w0.heap.size (some l) _ HRD0.out (by simp only [ph];omega) (by rw [hszr];omega)).mono ?_;rintro x w1 ⟨u,rfl,hou,hvo,PY,RQ,P1⟩;rw [hszr]at hou;rw [e1]at hou hvo PY RQ;rw [show ph (some l)=l.length+1 from rfl]at PY;simp only at hou hvo PY RQ;have hsr:=P1.size;rw [hszr]at hsr;have hui:=hou.fT fK;have hub:=hou.block;obtain⟨au,Ns,rfl,-,hcu,-⟩:=id hui;unfold maxLen at hcu;have HVO:=V hvo;have hC1:=Po.keeps P1 (by omega);have No:=NG.trans (P1.below (by rw [hszr];omega) (fun i h=>by omega));clear hou hvo P1 Po NG hszr hz Nx;go_wp2_with fail;refine(kA w.heap.size w0.heap.size s1 w1 RQ).mono ?_;rintro x w2 ⟨rfl,P7,Nw⟩;rw [e2]at P7⊢;have Qp:=Nw.size;have NP:=No.trans (Nw.below (by omega) (fun i h=>by omega));have Qx:=hC1.keeps Nw (by omega);have Pq:=hui.keeps Nw (fun a n cp he hj=>by have:=(hub a n cp he).1;omega);have HUB:=V (show∀a n cp,Value.slice au eu.length Ns= .slice (some a) n cp ->w0.heap.size < a.block/\a.block < w2.heap.size from fun a n cp he=>by have:=hub a n cp he;omega);clear RQ Nw hC1 hui hub No;go_wp2_with fail;have hia:∃asks:Int,(xa:Int) - 1=asks:=⟨_,rfl⟩;obtain⟨asks,Py⟩:=hia;have ha1: -1 <=asks:=by omega
 have ha2:asks < 4611686018427387904:=by omega
 rw [Py];have HAS:=V Py;clear Py;have hS0:=eS.new w2 #[.slice au eu.length Ns, .slice none 0 0, .int .i64 asks] 60;have hC3:=Qx.alloc (.cells #[.slice au eu.length Ns, .slice none 0 0, .int .i64 asks] 60);have OG:=NP.alloc (by omega) (.cells #[.slice au eu.length Ns, .slice none 0 0, .int .i64 asks] 60);have O4:=(an w2.heap.size w2).alloc (ag _) (.cells #[.slice au eu.length Ns, .slice none 0 0, .int .i64 asks] 60);have S9:=P7.below O4;have hu3:=Pq.below O4;have hszs:(w2.alloc (.cells #[.slice au eu.length Ns, .slice none 0 0, .int .i64 asks] 60)).heap.size=w2.heap.size+1:=aC _ _;generalize hSb:w2.heap.size=Sb at hS0 hszs HUB Qp NP⊢;generalize w2.alloc (.cells #[.slice au eu.length Ns, .slice none 0 0, .int .i64 asks] 60)=w3 at hS0 hC3 OG S9 hu3 hszs⊢;clear O4 P7 Pq Qx NP hSb;refine(kA w.heap.size w0.heap.size s2 w3 S9).mono ?_;rintro x w4 ⟨rfl,hr4,QF⟩;rw [e3]at hr4⊢;have hS4:=hS0.keeps QF (by omega);have hC4:=hC3.keeps QF (by omega);have N7:=OG.trans (QF.below (by omega) (fun i h=>by omega));have hu4:=hu3.keeps QF (fun a n cp he hj=>by have:=(HUB.out a n cp he).1;omega);have hSlt:=hS4.lt;have hs0:w0.heap.size+1 <=Sb:=by omega
 clear QF hS0 hC3 OG S9 hu3 hszs;go_wp2_with fail;refine eR (fun a' w'=>∃(v:Value) (acc:List fg) (n:Nat) (s:Option (List UInt8)),a'=fr (.slice a l.length cap::gs a' 1 1 (.pointer (some ⟨w.heap.size,0,none⟩):: .int .i64 0:: .pointer (some ⟨w0.heap.size,0,none⟩):: .pointer (some ⟨Sb,0,none⟩):: .int .i64 n::gs a' 7 81 []))/\LN l eu asks (.slice au eu.length Ns) w.heap.size w0.heap.size Sb w w' v acc n s) (fun a' _=>(intOf (a'.tmps.getD 6 undef)).toNat) ?_ ?_
 ·refine⟨_,[],n0,s3,rfl,⟨?_,ik.nil _ _,?_,hr4,hC4,hS4,hu4,N7,bn⟩⟩
  ·rw [rB,e1,e2,e3]
   simp only [bY,HAS.out]
  ·simp only [aH]
   omega
 ·clear hr4 hC4 hS4 hu4 N7 bn ba ta tn PY hsr Qp hSlt e1 e2 e3 HAS
  rintro R a' w1 ⟨v,acc,n,s,Nm,hJ⟩ HR;dsimp only [fr,gs]at Nm;generalize slot a'=f at Nm;subst Nm;obtain⟨hv,Sk,hlen,Pa,hC,hS,hu,hb,hn⟩:=hJ;obtain⟨av,NL,rfl,_,Oh⟩:=Sk.ky.slice;have Oe:=V Pa;have RW:=V Sk;obtain⟨ar,nr,RT,ND,_⟩:=Pa;have c1:w1.cell? ⟨w0.heap.size,1,none⟩=some (.bool s.isNone):=ND.cell 1;have P3:=ND.lt;have hSlt:=hS.lt;clear ND Sk;rcases bq n with QM | QM
  ·subst QM
   rw [kl,bR]at hv;cases s with
   | none=>
    skip
    have HC:=V (show rB (some l)=(⟨eu,acc,asks⟩,(none:Option (List UInt8)))from hv);have key:∀y:fP,y.may ->y.ok ->jd y=l ->y=⟨eu,acc,asks⟩/\(none:Option (List UInt8))=some []:=by
     intro y h1 h2 h3;have h4:=nv y h1 h2;rw [h3,HC.out]at h4;injection h4 with h4 h5;exact⟨h4.symm,h5⟩
    have KEY:=V key;have NH:jP w1 (.slice au eu.length Ns) (.slice av acc.length NL) ⟨eu,acc,asks⟩:=⟨hu,RW.out.ky,⟨by show(-9223372036854775808:Int) <=asks;omega,by show asks <=9223372036854775807;omega⟩,HVO.out,by obtain⟨_,_,_,h,_⟩:=RW.out;exact h⟩;have Nn:=V NH;obtain⟨s0,s1,s2⟩:=hS.three;clear key hv hlen NH HC;go_wp2_with fail;refine(mQ _ _ ⟨eu,acc,asks⟩ w1 Nn.out).mono ?_;rintro x w2 ⟨c,rfl,No,hc⟩;obtain⟨ar,nr,RT,SE,-⟩:=Oe.out.below No;have d1:w2.cell? ⟨w0.heap.size,1,none⟩=some (.bool true):=SE.cell 1;have Qx:=hC.below No hC.lt;obtain⟨c0',c1',c2'⟩:=Qx.three;have z0:=Qx.free 0;have z1:=Qx.free 1;have z2:=Qx.free 2;have Td:=hS.below No hS.lt;obtain⟨s0',s1',s2'⟩:=Td.three;have N2:=HB.out.below ((hb.trans (No.mono hb.size)).mono (ag _));have HBL:=V N2;have HSZ2:=V No.size;have HOF2:=V (RW.out.keeps (T:=fun _=>False) (ep.et No) (fun _ h=>h.elim));have RI:=V (hu.below No);replace hb:=hb.trans (No.mono hb.size);clear SE N2 No c1 hC s0 s1 s2 hu hS;clear hc;go_wp2_with fail;have hx:=Qx.EG (.slice none 0 0) (.slice none 0 0) (.int .i64 0);refine aF (fy rfl _ _ rfl hx.xJ) rfl ?_;refine⟨((hb.setCell (ag _) _).setCell (ag _) _).setCell (ag _) _,_,_,⟨[],[],0⟩,_,rfl,⟨eA.nil _,gu.nil _,⟨by show(-9223372036854775808:Int) <=0;omega,by show(0:Int) <=9223372036854775807;omega⟩,by simp,by simp⟩, .inr ⟨rfl,rfl,?_⟩⟩;rintro⟨s,g1,g2,g3⟩;have:=(KEY.out s g1 g2 g3).2;cases this
   | some s=>
    skip
    have HC:=V (show rB (some l)=(⟨eu,acc,asks⟩,some s)from hv);have key:∀y:fP,y.may ->y.ok ->jd y=l ->y=⟨eu,acc,asks⟩/\some s=some []:=by
     intro y h1 h2 h3;have h4:=nv y h1 h2;rw [h3,HC.out]at h4;injection h4 with h4 h5;exact⟨h4.symm,h5⟩
    have KEY:=V key;have NH:jP w1 (.slice au eu.length Ns) (.slice av acc.length NL) ⟨eu,acc,asks⟩:=⟨hu,RW.out.ky,⟨by show(-9223372036854775808:Int) <=asks;omega,by show asks <=9223372036854775807;omega⟩,HVO.out,by obtain⟨_,_,_,h,_⟩:=RW.out;exact h⟩;have Nn:=V NH;obtain⟨s0,s1,s2⟩:=hS.three;clear key hv hlen NH HC;go_wp2_with fail;refine(mQ _ _ ⟨eu,acc,asks⟩ w1 Nn.out).mono ?_;rintro x w2 ⟨c,rfl,No,hc⟩;obtain⟨ar,nr,RT,SE,-⟩:=Oe.out.below No;have d1:w2.cell? ⟨w0.heap.size,1,none⟩=some (.bool false):=SE.cell 1;have Qx:=hC.below No hC.lt;obtain⟨c0',c1',c2'⟩:=Qx.three;have z0:=Qx.free 0;have z1:=Qx.free 1;have z2:=Qx.free 2;have Td:=hS.below No hS.lt;obtain⟨s0',s1',s2'⟩:=Td.three;have N2:=HB.out.below ((hb.trans (No.mono hb.size)).mono (ag _));have HBL:=V N2;have HSZ2:=V No.size;have HOF2:=V (RW.out.keeps (T:=fun _=>False) (ep.et No) (fun _ h=>h.elim));have RI:=V (hu.below No);replace hb:=hb.trans (No.mono hb.size);clear SE N2 No c1 hC s0 s1 s2 hu hS;rcases hc with⟨hm,hoc⟩ | ⟨hm,rfl⟩
    ·have HM:=V hm
     obtain⟨g,Qt,rfl,Rp,Pv,hg3,hg4,_,_⟩:=hoc.open (xK _);have hoi:=hoc.gK;have HOB:=V hoi;clear hoi hoc hm;have e1:=bN (P:=prog) w2 104 5 (some ⟨g,0,none⟩) (jd ⟨eu,acc,asks⟩).length Qt 0 0 (by kernel_rfl);rw [dj]at e1;go_wp2_with fail;refine(tP _ _ (jd ⟨eu,acc,asks⟩) l w2 HOB.out HBL.out).mono ?_;rintro x w3 ⟨rfl,rfl⟩;cases hq:jd ⟨eu,acc,asks⟩==l
     ·go_wp2_with fail
      have hx:=Qx.EG (.slice none 0 0) (.slice none 0 0) (.int .i64 0);refine aF (fy rfl _ _ rfl hx.xJ) rfl ?_;refine⟨((hb.setCell (ag _) _).setCell (ag _) _).setCell (ag _) _,_,_,⟨[],[],0⟩,_,rfl,⟨eA.nil _,gu.nil _,⟨by show(-9223372036854775808:Int) <=0;omega,by show(0:Int) <=9223372036854775807;omega⟩,by simp,by simp⟩, .inr ⟨rfl,rfl,?_⟩⟩;rintro⟨s,g1,g2,g3⟩;have h3:=(KEY.out s g1 g2 g3).1;rw [h3]at g3;simp [g3]at hq
     ·go_wp2_with fail
      have hx:=Qx.EG (.slice au eu.length Ns) (.slice av acc.length NL) (.int .i64 asks);have OQ:=yF w2 w.heap.size (.slice au eu.length Ns) (.slice av acc.length NL) (.int .i64 asks);refine aF (fy rfl _ _ rfl hx.xJ) rfl ?_;refine⟨((hb.setCell (ag _) _).setCell (ag _) _).setCell (ag _) _,_,_,⟨eu,acc,asks⟩,_,rfl,⟨RI.out.keeps OQ (fun a n cp he hj=>by have:=(HUB.out a n cp he).1;omega),(HOF2.out.keeps OQ (fun i h=>by omega)).ky,Nn.out.2.2⟩, .inl ⟨rfl,HM.out,by simpa using hq⟩⟩
    ·have HM:=V hm
     clear hm;have e1:=bN (P:=prog) w2 104 5 none 0 0 0 0 (by kernel_rfl);rw [dk]at e1;go_wp2_with fail;have hx:=Qx.EG (.slice none 0 0) (.slice none 0 0) (.int .i64 0);refine aF (fy rfl _ _ rfl hx.xJ) rfl ?_;refine⟨((hb.setCell (ag _) _).setCell (ag _) _).setCell (ag _) _,_,_,⟨[],[],0⟩,_,rfl,⟨eA.nil _,gu.nil _,⟨by show(-9223372036854775808:Int) <=0;omega,by show(0:Int) <=9223372036854775807;omega⟩,by simp,by simp⟩, .inr ⟨rfl,rfl,?_⟩⟩;rintro⟨s,g1,g2,g3⟩;have h3:=(KEY.out s g1 g2 g3).1;rw [h3]at g1;exact HM.out g1
  have f0:decide ((0:Int) < (n:Int))=true:=ay (by omega);cases s with
  | none=>
   have c1:w1.cell? ⟨w0.heap.size,1,none⟩=some (.bool true):=c1;rw [yS,bR]at hv;have HC:=V (show rB (some l)=(⟨eu,acc,asks⟩,(none:Option (List UInt8)))from hv);have key:∀y:fP,y.may ->y.ok ->jd y=l ->y=⟨eu,acc,asks⟩/\(none:Option (List UInt8))=some []:=by
    intro y h1 h2 h3;have h4:=nv y h1 h2;rw [h3,HC.out]at h4;injection h4 with h4 h5;exact⟨h4.symm,h5⟩
   have KEY:=V key;have NH:jP w1 (.slice au eu.length Ns) (.slice av acc.length NL) ⟨eu,acc,asks⟩:=⟨hu,RW.out.ky,⟨by show(-9223372036854775808:Int) <=asks;omega,by show asks <=9223372036854775807;omega⟩,HVO.out,by obtain⟨_,_,_,h,_⟩:=RW.out;exact h⟩;have Nn:=V NH;obtain⟨s0,s1,s2⟩:=hS.three;clear key hv hlen NH HC;go_wp2_with fail;refine(mQ _ _ ⟨eu,acc,asks⟩ w1 Nn.out).mono ?_;rintro x w2 ⟨c,rfl,No,hc⟩;obtain⟨ar,nr,RT,SE,-⟩:=Oe.out.below No;have d1:w2.cell? ⟨w0.heap.size,1,none⟩=some (.bool true):=SE.cell 1;have Qx:=hC.below No hC.lt;obtain⟨c0',c1',c2'⟩:=Qx.three;have z0:=Qx.free 0;have z1:=Qx.free 1;have z2:=Qx.free 2;have Td:=hS.below No hS.lt;obtain⟨s0',s1',s2'⟩:=Td.three;have N2:=HB.out.below ((hb.trans (No.mono hb.size)).mono (ag _));have HBL:=V N2;have HSZ2:=V No.size;have HOF2:=V (RW.out.keeps (T:=fun _=>False) (ep.et No) (fun _ h=>h.elim));have RI:=V (hu.below No);replace hb:=hb.trans (No.mono hb.size);clear SE N2 No c1 hC s0 s1 s2 hu hS;clear hc;go_wp2_with fail;have hx:=Qx.EG (.slice none 0 0) (.slice none 0 0) (.int .i64 0);refine aF (fy rfl _ _ rfl hx.xJ) rfl ?_;refine⟨((hb.setCell (ag _) _).setCell (ag _) _).setCell (ag _) _,_,_,⟨[],[],0⟩,_,rfl,⟨eA.nil _,gu.nil _,⟨by show(-9223372036854775808:Int) <=0;omega,by show(0:Int) <=9223372036854775807;omega⟩,by simp,by simp⟩, .inr ⟨rfl,rfl,?_⟩⟩;rintro⟨s,g1,g2,g3⟩;have:=(KEY.out s g1 g2 g3).2;cases this
  | some s=>
   have c1:w1.cell? ⟨w0.heap.size,1,none⟩=some (.bool false):=c1;obtain⟨n',rfl⟩:∃n',n=n'+1:=⟨n - 1,by omega⟩;have HV:=V hv;obtain⟨OR,r1,e0⟩:∃x t,jf (some s)=(x,t):=⟨_,_,rfl⟩;obtain⟨x0,r2,e1⟩:∃x t,fS r1=(x,t):=⟨_,_,rfl⟩;obtain⟨x1,r3,e2⟩:∃x t,fS r2=(x,t):=⟨_,_,rfl⟩;obtain⟨x2,r4,e3⟩:∃x t,fS r3=(x,t):=⟨_,_,rfl⟩;obtain⟨k0,r5,e4⟩:∃x t,fS r4=(x,t):=⟨_,_,rfl⟩;have b1:=mg r1;have b2:=mg r2;have b3:=mg r3;have b4:=mg r4;have t1:=I7 r1;have t2:=nF r2;have t3:=nF r3;have t4:=nF r4;rw [e1]at b1 t1;rw [e2]at b2 t2;rw [e3]at b3 t3;rw [e4]at b4 t4;simp only at b1 b2 b3 b4 t1 t2 t3 t4;have Qr:ph (some s)=s.length+1:=rfl;have hacc:acc.length <=400001:=by omega
   have PW:ph (some s) <=500000:=by omega
   have HT:=V (show ph r1 <=ph (some s) ->∀r6,ph r6 <=ph r5 ->acc.length+1+ph r6 <=l.length+1 by intro _ r6 _;omega);have HT5:=V (show ph r1 <=ph (some s) ->ph r5 <=500000 by intro _;omega);clear hv hlen t1 t2 t3 t4 Qr;go_wp2_with fail;refine(xS w.heap.size w0.heap.size (some s) w1 Oe.out PW (by omega)).mono ?_;rintro x w2 ⟨u,rfl,hou,hvo,PY,P7,Nw⟩;rw [e0]at hou hvo PY P7;simp only at hou hvo PY P7;have Qp:=Nw.size;have hui:=hou.fT fK;have hub:=hou.block;obtain⟨au',O5,rfl,-,hcu',-⟩:=id hui;unfold maxLen at hcu';have HLV:=V hvo;have HT:=V (HT.out (by omega));have hT5:=HT5.out (by omega);have HUI:=V hui;have HUR:=V hub;have HR2:=V P7;clear hou hvo PY P7 hui hub HT5 Oe c1;go_wp2_with fail;refine(kA w.heap.size w0.heap.size r1 w2 HR2.out).mono ?_;rintro x w3 ⟨rfl,S9,Oo⟩;rw [e1]at S9⊢;have HR3:=V S9;have Qq:=Oo.size;clear S9 HR2;go_wp2_with fail;refine(kA w.heap.size w0.heap.size r2 w3 HR3.out).mono ?_;rintro x w4 ⟨rfl,hr4,QF⟩;rw [e2]at hr4⊢;have HR4:=V hr4;have hsz4:=QF.size;clear hr4 HR3;go_wp2_with fail;refine(kA w.heap.size w0.heap.size r3 w4 HR4.out).mono ?_;rintro x w5 ⟨rfl,hr5,Pr⟩;rw [e3]at hr5⊢;have HR5:=V hr5;have hsz5:=Pr.size;have hk25:ep (fun k=>k=w0.heap.size) w2 w5:=(Oo.trans QF (fun i h=> .inl h)).trans Pr (fun i h=> .inl h);have hk15:ep (fun k=>k=w0.heap.size) w1 w5:=Nw.trans hk25 (fun i h=> .inl h);have Rs:=V (HUI.out.keeps hk25 (fun a n cp he hj=>by have:=(HUR.out a n cp he).1;omega));have HLOB:=V (show∀a n cp,Value.slice au' OR.length O5= .slice (some a) n cp ->w1.heap.size <=a.block/\a.block < w5.heap.size from fun a n cp he=>by have:=HUR.out a n cp he;omega);have hsz15:=hk15.size;clear hr5 HR4 Nw Oo QF Pr hk25 HUI Qq hsz4;go_wp2_with fail;have hF0:=eS.new w5 #[.int .i64 x0, .int .i64 x1, .slice au' OR.length O5, .int .i64 x2, .slice none 0 0] 124;have hr5:=HR5.out.below ((an w5.heap.size w5).alloc (ag _) (.cells #[.int .i64 x0, .int .i64 x1, .slice au' OR.length O5, .int .i64 x2, .slice none 0 0] 124));have hka:=(ep.refl (fun k=>k=w0.heap.size) w5).alloc (.cells #[.int .i64 x0, .int .i64 x1, .slice au' OR.length O5, .int .i64 x2, .slice none 0 0] 124);obtain⟨F,hF⟩:∃F,F=w5.heap.size:=⟨_,rfl⟩;rw [<- hF]at hF0⊢;have hFa:w5.heap.size <=F:=by omega
   have RJ:F < w5.heap.size+1:=by omega
   clear hF;refine(kA w.heap.size w0.heap.size r4 _ hr5).mono ?_;rintro x w6 ⟨rfl,hr6,QY⟩;rw [e4]at hr6⊢;have hF6:=hF0.keeps QY (by omega);have Qe:=hka.trans QY (fun i h=> .inl h);clear QY hka hF0 hr5 HR5;have HRO:=HR;clear HR;go_wp2_with fail;refine eR (fun a' w'=>∃(v:Value) (Ol:List lA) (k:Nat) (r:Option (List UInt8)),a'=fr (.slice a l.length cap::gs a' 1 1 (.pointer (some ⟨w.heap.size,0,none⟩):: .int .i64 0:: .pointer (some ⟨w0.heap.size,0,none⟩):: .pointer (some ⟨Sb,0,none⟩):: .int .i64 ((n'+1:Nat):Int):: .pointer (some ⟨F,0,none⟩):: .int .i64 k::gs a' 9 79 []))/\Mj w.heap.size w0.heap.size F (fun v=>#[.int .i64 x0, .int .i64 x1, .slice au' OR.length O5, .int .i64 x2,v]) k0 r5 w5 w' v Ol k r) (fun a' _=>(intOf (a'.tmps.getD 8 undef)).toNat) ?_ ?_
   ·exact⟨_,[],k0,r5,rfl,⟨by simp,ei.nil _ _,by simp,by simp,hr6,hF6,Qe,b4⟩⟩
   ·clear hr6 hF6 Qe b4
    rintro R a' w7 ⟨v,Ol,k,r,Nm,hJ⟩ HR;dsimp only [fr,gs]at Nm;generalize slot a'=f at Nm;subst Nm;obtain⟨PY,TF,hokl,hlenl,Pa,hF,Qe,hk⟩:=hJ;obtain⟨al,Qf,rfl,-,Sx,-⟩:=TF.fT mF;unfold maxLen at Sx;obtain⟨ar,nr,RT,ND,_⟩:=id Pa;have c1:w7.cell? ⟨w0.heap.size,1,none⟩=some (.bool r.isNone):=ND.cell 1;clear ND;rcases bq k with RE | RE
    ·subst RE
     rw [oB]at PY;have HFR:=V (show oR (some s)=(⟨x0,x1,OR,x2,Ol⟩,r)by
      rw [oR,e0,e1,e2,e3,e4,PY];simp)
     obtain⟨f0',f1',f2',f3',f4'⟩:=hF.tv;have HR6:=V Pa;have P4:=hk15.trans Qe (fun i h=> .inl h);have hof6:=RW.out.keeps P4 (fun i h=>by omega);have hS6:=hS.keeps P4 (by omega);have hC6:=hC.keeps P4 (by omega);have hu6:=hu.keeps P4 (fun a n cp he hj=>by have:=(HUB.out a n cp he).1;omega);have Pp:=hb.trans (P4.below hb.size (fun i h=>by omega));have hl6:=Rs.out.keeps Qe (fun a n cp he hj=>by have:=(HLOB.out a n cp he).1;omega);have hlb:=TF.block;have TG:=TF.fT mF;have Te:∀i,eO (.slice av acc.length NL) i ->i < w1.heap.size:=fun i hi=>(RW.out.lt hi).2;have Tf:∀u:Value,(∀a n cp,u= .slice (some a) n cp ->w1.heap.size <=a.block/\a.block < w7.heap.size) ->wY (Sb+1) w7 (.slice av acc.length NL) u:=fun u hx a n cp he=>by
      obtain⟨g1,g2⟩:=hx a n cp he;exact⟨by omega,g2,fun h=>by have:=Te _ h;omega⟩
     have hsz56:=Qe.size;have hsz16:=P4.size;have HU6:=V (show(eA 2 fR w7 (Value.slice au' OR.length O5) OR/\wY (Sb+1) w7 (.slice av acc.length NL) (.slice au' OR.length O5))/\eA 2 kP w7 (.slice al Ol.length Qf) Ol/\wY (Sb+1) w7 (.slice av acc.length NL) (.slice al Ol.length Qf)from
      ⟨⟨hl6,Tf _ (fun a n cp he=>by have:=HLOB.out a n cp he;omega)⟩,TG,Tf _ (fun a n cp he=>by have:=hlb a n cp he;omega)⟩)
     have HOKF:=V (show fg.ok ⟨x0,x1,OR,x2,Ol⟩from⟨⟨by show(-9223372036854775808:Int) <=(x0:Int);omega,by show(x0:Int) <=9223372036854775807;omega⟩,⟨by show(-9223372036854775808:Int) <=(x1:Int);omega,by show(x1:Int) <=9223372036854775807;omega⟩,⟨by show(-9223372036854775808:Int) <=(x2:Int);omega,by show(x2:Int) <=9223372036854775807;omega⟩,HLV.out,hokl⟩);obtain⟨p0,p1,p2⟩:=hS6.three;have HTL:=V (show acc.length+1+ph r <=l.length+1 from HT.out _ (by omega));clear PY hokl Pa hk15 Qe hl6 hlb TG Te Tf e0 e1 e2 e3 e4 hC hS hu hb HLOB Rs HUR HT hlenl TF hF;go_wp2_with (first | (at_builtin;refine Stop.out ?_));change wpList _ _ _ _ _ (World.alloc _ (.cells #[.int .i64 x0, .int .i64 x1, .slice au' OR.length O5, .int .i64 x2, .slice al Ol.length Qf] 124));obtain⟨us,k1,k2,k3,k4⟩:=hof6;have hzl:(acc.zip us).length <=400002:=by rw [bV];omega
     refine fw w7 rfl _ _ 58 rfl _ 72 (by kernel_rfl) nA rfl (by decide) (by decide) (Sb+1) (.slice av acc.length NL) (acc.zip us) rfl k2 ((⟨x0,x1,OR,x2,Ol⟩,(.slice au' OR.length O5, .slice al Ol.length Qf)):fg × Value × Value) _ rfl rfl (by intro q hq;simp only [mK,bx,bI,cH]at hq;rcases hq with rfl | rfl | rfl | rfl | rfl <;>rfl) rfl (by omega) (by omega) ?_;intro v8 w8 ho8 Pb hs8;have Nl:∀i,eO (.slice av acc.length NL) i ->Sb+1 <=i:=fun i hi=>(eM k2 hi).1;have Qg:=ik.app k1 k3 k4 Pb hs8 HOKF.out HU6.out ho8;generalize hA:acc++[(⟨x0,x1,OR,x2,Ol⟩:fg)]=P5 at Qg;have HA:=V hA;clear hA;have hr8:=HR6.out.keeps Pb (fun h=>by have:=Nl _ h;omega) (fun i hi=>by have:=Nl _ hi;omega);have hC8:=hC6.keeps Pb (fun h=>by have:=Nl _ h;omega);have hS8:=hS6.keeps Pb (fun h=>by have:=Nl _ h;omega);have hu8:=hu6.keeps Pb (fun a n cp he hj=>by have:=(HUB.out a n cp he).2;have:=Nl _ hj;omega);have hb8:=Pp.trans (Pb.below (by omega) (fun i hi=>by have:=Nl _ hi;omega));obtain⟨av8,SF,rfl,-,-⟩:=Qg.ky.slice;have y1:=hS8.free 1;obtain⟨q0',q1',q2'⟩:=hS8.three;have OQ:=jh w8 Sb 1 (.slice av8 P5.length SF);have hof9:=Qg.keeps OQ (fun i h=>by omega);have hr9:=hr8.keeps OQ (by omega) (fun i h=>by omega);have hC9:=hC8.keeps OQ (by omega);have hS9:=hS8.set 1 (.slice av8 P5.length SF);have hu9:=hu8.keeps OQ (fun a n cp he hj=>by have:=(HUB.out a n cp he).2;omega);have hb9:=hb8.trans (OQ.below hb8.size (fun i h=>by omega));have HOF9:=V hof9;have HR9:=V hr9;have HC9:=V hC9;have HS9:=V hS9;have HU9:=V hu9;clear hof9 hr9 hC9 hS9 hu9 OQ Qg hr8 hC8 hS8 hu8 hb8 Nl ho8 Pb hs8 k1 k2 k3 k4 hC6 hS6 hu6 Pp P4 p0 p1 p2 f0' f1' f2' f3' f4' c1;go_wp2_with fail;refine HRO.out _ _ ⟨_,P5,n',r,rfl,⟨?_,HOF9.out,?_,HR9.out,HC9.out,by simpa using HS9.out,HU9.out,hb9,by omega⟩⟩ ?_
     ·rw [HV.out,kl,HFR.out, <- HA.out]
      simp
     ·rw [<- HA.out,ah]
      exact HTL.out
     ·simp [intOf]
    have f1:decide ((0:Int) < (k:Int))=true:=ay (by omega);cases r with
    | none=>
     have c1:w7.cell? ⟨w0.heap.size,1,none⟩=some (.bool true):=c1;rw [CQ]at PY;have HFR:=V (show oR (some s)=(⟨x0,x1,OR,x2,Ol⟩,(none:Option (List UInt8)))by
      rw [oR,e0,e1,e2,e3,e4,PY];simp)
     obtain⟨f0',f1',f2',f3',f4'⟩:=hF.tv;have HR6:=V Pa;have P4:=hk15.trans Qe (fun i h=> .inl h);have hof6:=RW.out.keeps P4 (fun i h=>by omega);have hS6:=hS.keeps P4 (by omega);have hC6:=hC.keeps P4 (by omega);have hu6:=hu.keeps P4 (fun a n cp he hj=>by have:=(HUB.out a n cp he).1;omega);have Pp:=hb.trans (P4.below hb.size (fun i h=>by omega));have hl6:=Rs.out.keeps Qe (fun a n cp he hj=>by have:=(HLOB.out a n cp he).1;omega);have hlb:=TF.block;have TG:=TF.fT mF;have Te:∀i,eO (.slice av acc.length NL) i ->i < w1.heap.size:=fun i hi=>(RW.out.lt hi).2;have Tf:∀u:Value,(∀a n cp,u= .slice (some a) n cp ->w1.heap.size <=a.block/\a.block < w7.heap.size) ->wY (Sb+1) w7 (.slice av acc.length NL) u:=fun u hx a n cp he=>by
      obtain⟨g1,g2⟩:=hx a n cp he;exact⟨by omega,g2,fun h=>by have:=Te _ h;omega⟩
     have hsz56:=Qe.size;have hsz16:=P4.size;have HU6:=V (show(eA 2 fR w7 (Value.slice au' OR.length O5) OR/\wY (Sb+1) w7 (.slice av acc.length NL) (.slice au' OR.length O5))/\eA 2 kP w7 (.slice al Ol.length Qf) Ol/\wY (Sb+1) w7 (.slice av acc.length NL) (.slice al Ol.length Qf)from
      ⟨⟨hl6,Tf _ (fun a n cp he=>by have:=HLOB.out a n cp he;omega)⟩,TG,Tf _ (fun a n cp he=>by have:=hlb a n cp he;omega)⟩)
     have HOKF:=V (show fg.ok ⟨x0,x1,OR,x2,Ol⟩from⟨⟨by show(-9223372036854775808:Int) <=(x0:Int);omega,by show(x0:Int) <=9223372036854775807;omega⟩,⟨by show(-9223372036854775808:Int) <=(x1:Int);omega,by show(x1:Int) <=9223372036854775807;omega⟩,⟨by show(-9223372036854775808:Int) <=(x2:Int);omega,by show(x2:Int) <=9223372036854775807;omega⟩,HLV.out,hokl⟩);obtain⟨p0,p1,p2⟩:=hS6.three;have HTL:=V (show acc.length+1+ph (none:Option (List UInt8)) <=l.length+1 from HT.out _ (by omega));clear PY hokl Pa hk15 Qe hl6 hlb TG Te Tf e0 e1 e2 e3 e4 hC hS hu hb HLOB Rs HUR HT hlenl TF hF;go_wp2_with (first | (at_builtin;refine Stop.out ?_));change wpList _ _ _ _ _ (World.alloc _ (.cells #[.int .i64 x0, .int .i64 x1, .slice au' OR.length O5, .int .i64 x2, .slice al Ol.length Qf] 124));obtain⟨us,k1,k2,k3,k4⟩:=hof6;have hzl:(acc.zip us).length <=400002:=by rw [bV];omega
     refine fw w7 rfl _ _ 58 rfl _ 72 (by kernel_rfl) nA rfl (by decide) (by decide) (Sb+1) (.slice av acc.length NL) (acc.zip us) rfl k2 ((⟨x0,x1,OR,x2,Ol⟩,(.slice au' OR.length O5, .slice al Ol.length Qf)):fg × Value × Value) _ rfl rfl (by intro q hq;simp only [mK,bx,bI,cH]at hq;rcases hq with rfl | rfl | rfl | rfl | rfl <;>rfl) rfl (by omega) (by omega) ?_;intro v8 w8 ho8 Pb hs8;have Nl:∀i,eO (.slice av acc.length NL) i ->Sb+1 <=i:=fun i hi=>(eM k2 hi).1;have Qg:=ik.app k1 k3 k4 Pb hs8 HOKF.out HU6.out ho8;generalize hA:acc++[(⟨x0,x1,OR,x2,Ol⟩:fg)]=P5 at Qg;have HA:=V hA;clear hA;have hr8:=HR6.out.keeps Pb (fun h=>by have:=Nl _ h;omega) (fun i hi=>by have:=Nl _ hi;omega);have hC8:=hC6.keeps Pb (fun h=>by have:=Nl _ h;omega);have hS8:=hS6.keeps Pb (fun h=>by have:=Nl _ h;omega);have hu8:=hu6.keeps Pb (fun a n cp he hj=>by have:=(HUB.out a n cp he).2;have:=Nl _ hj;omega);have hb8:=Pp.trans (Pb.below (by omega) (fun i hi=>by have:=Nl _ hi;omega));obtain⟨av8,SF,rfl,-,-⟩:=Qg.ky.slice;have y1:=hS8.free 1;obtain⟨q0',q1',q2'⟩:=hS8.three;have OQ:=jh w8 Sb 1 (.slice av8 P5.length SF);have hof9:=Qg.keeps OQ (fun i h=>by omega);have hr9:=hr8.keeps OQ (by omega) (fun i h=>by omega);have hC9:=hC8.keeps OQ (by omega);have hS9:=hS8.set 1 (.slice av8 P5.length SF);have hu9:=hu8.keeps OQ (fun a n cp he hj=>by have:=(HUB.out a n cp he).2;omega);have hb9:=hb8.trans (OQ.below hb8.size (fun i h=>by omega));have HOF9:=V hof9;have HR9:=V hr9;have HC9:=V hC9;have HS9:=V hS9;have HU9:=V hu9;clear hof9 hr9 hC9 hS9 hu9 OQ Qg hr8 hC8 hS8 hu8 hb8 Nl ho8 Pb hs8 k1 k2 k3 k4 hC6 hS6 hu6 Pp P4 p0 p1 p2 f0' f1' f2' f3' f4' c1;go_wp2_with fail;refine HRO.out _ _ ⟨_,P5,n',(none:Option (List UInt8)),rfl,⟨?_,HOF9.out,?_,HR9.out,HC9.out,by simpa using HS9.out,HU9.out,hb9,by omega⟩⟩ ?_
     ·rw [HV.out,kl,HFR.out, <- HA.out]
      simp
     ·rw [<- HA.out,ah]
      exact HTL.out
     ·simp [intOf]
    | some r=>
     have c1:w7.cell? ⟨w0.heap.size,1,none⟩=some (.bool false):=c1;obtain⟨k',rfl⟩:∃k',k=k'+1:=⟨k - 1,by omega⟩;have HVL:=V PY;have HOKL:=V hokl;obtain⟨y0,q1,g0⟩:∃x t,fS (some r)=(x,t):=⟨_,_,rfl⟩;obtain⟨y1,q2,g1⟩:∃x t,fS q1=(x,t):=⟨_,_,rfl⟩;have by0:=mg (some r);have by1:=mg q1;have ty0:=uG r;have ty1:=nF q1;rw [g0]at by0 ty0;rw [g1]at by1 ty1;simp only at by0 by1 ty0 ty1;have HLL:=V (show Ol.length+1+ph q2 <=ph r5 by omega);have O4:Ol.length <=500000:=by omega
     have HRD7:=V Pa;have HOL:=V TF;have hlab:=hF.cell 4;have hlab:w7.cell? ⟨F,4,none⟩=some (.slice al Ol.length Qf):=hlab;have hFlt:=hF.lt;clear PY hokl hlenl ty0 ty1 Pa TF;go_wp2_with fail;refine eY (fun w'=>w'.cell? ⟨F,4,none⟩=some (.slice al Ol.length Qf)) 10
      (up 0 3 ((4,true)::(3,false)::(5,false)::(6,false)::(7,false)::(8,false)::(9,true)::[])) (by kernel_rfl) (by kernel_rfl) hlab ?_
     clear c1 hlab;iterate 4 (first | (apply sk rfl rfl;simp only [pt]) | (apply eo rfl rfl rfl;·(rintro w' t0;go_wp2;exact⟨rfl,rfl,rfl⟩)))
     refine ew rfl rfl ?_;go_wp2_with fail;refine(kA w.heap.size w0.heap.size (some r) w7.drew HRD7.out).mono ?_;rintro x w8 ⟨rfl,hr8,Pb⟩;rw [g0]at hr8⊢;have hF8:=hF.drew.keeps Pb (by omega);have hk78:=Pb.C2;clear Pb;go_wp2_with fail;refine⟨hF8.cell 4,?_⟩;refine ew rfl rfl ?_;go_wp2_with fail;refine(kA w.heap.size w0.heap.size q1 w8 hr8).mono ?_;rintro x w9 ⟨rfl,hr9,hk9⟩;rw [g1]at hr9⊢;have hF9:=hF8.keeps hk9 (by omega);have hk79:=hk78.trans hk9 (fun i h=> .inl h);have hsz79:=hk79.size;have hsz57:=Qe.size;have hol9:=HOL.out.keeps hk79 (fun i hi=>by have:=(eM HOL.out hi).1;omega);have hk59:=Qe.trans hk79 (fun i h=> .inl h);have HR9:=V hr9;clear hk78 hk9 hF8 hr8 hr9 hk79 Qe HRD7 HOL hF;go_wp2_with fail;refine⟨hF9.cell 4,?_⟩;refine ew rfl rfl ?_;go_wp2_with fail;refine⟨hF9.cell 4,?_⟩;refine ew rfl rfl ?_;go_wp2_with fail;refine⟨(hF9.alloc _).cell 4,?_⟩;refine ew rfl rfl ?_;refine fw w9 rfl _ _ 122 rfl _ 16 (by kernel_rfl) vO rfl (by decide) (by decide) (F+1) (.slice al Ol.length Qf) Ol rfl hol9 (⟨y0,y1⟩:lA) _ rfl rfl (Bf _) rfl (by omega) (by omega) ?_;intro v10 w10 Rt RP hs10;have Nl:∀i,eO (.slice al Ol.length Qf) i ->F+1 <=i:=fun i hi=>(eM hol9 hi).1;have hr10:=HR9.out.keeps RP (fun h=>by have:=Nl _ h;omega) (fun i hi=>by have:=Nl _ hi;omega);have hF10:=hF9.keeps RP (fun h=>by have:=Nl _ h;omega);have hk5a:=hk59.trans RP (fun i h=> .inr (by have:=Nl _ h;omega));generalize hA:Ol++[(⟨y0,y1⟩:lA)]=P5 at Rt;have HA:=V hA;obtain⟨a9,cap9,rfl,-,-⟩:=Rt.fT mF;clear hA RP hs10 Nl hk59 hF9 hol9 HR9;have y1':=hF10.free 4;have hlab:w10.cell? ⟨F,4,none⟩=some (.slice al Ol.length Qf):=hF10.cell 4;go_wp2_with fail;refine⟨hlab,?_⟩;iterate 1 (first | (apply sk rfl rfl;simp only [pt]) | (apply eo rfl rfl rfl;·(rintro w' t0;go_wp2;exact⟨rfl,rfl,rfl⟩)))
     refine fJ rfl rfl ?_;have OQ:=jh w10 F 4 (.slice a9 P5.length cap9);have hlx:=Rt.keeps OQ (fun i hi=>by have:=(eM Rt hi).1;omega);have hrx:=hr10.keeps OQ (by omega) (fun i h=>by omega);have hFx:=hF10.set 4 (.slice a9 P5.length cap9);have hk5x:=hk5a.trans OQ (fun i h=> .inr (by omega));have HLX:=V hlx;have HRX:=V hrx;have HFX:=V hFx;clear hlx hrx hFx OQ hk5a Rt hr10 hF10;go_wp2;refine⟨trivial,?_⟩;refine aA ?_;go_wp2;refine HR.out _ _ ⟨_,P5,k',q2,rfl,⟨?_,HLX.out,?_,?_,HRX.out,by simpa using HFX.out,hk5x,by omega⟩⟩ ?_
     ·rw [HVL.out,oB,g0]
      simp only [g1, <- HA.out];simp
     ·rw [<- HA.out]
      intro z hz;rcases bU.1 hz with h | h
      ·exact HOKL.out z h
      ·obtain rfl:=aV.1 h
       exact⟨⟨by show(-9223372036854775808:Int) <=(y0:Int);omega,by show(y0:Int) <=9223372036854775807;omega⟩,by show(-9223372036854775808:Int) <=(y1:Int);omega,by show(y1:Int) <=9223372036854775807;omega⟩
     ·rw [<- HA.out,ah]
      exact HLL.out
     ·simp [intOf]
theorem eH {P:Program} {fn:Func} {t0:Tmp} {ty:TypeId} (h:fn.results=#[.cell t0 ty]) (tmps:Array Value) (w:World) {a:Addr} {v:Value} (ht:tmps.getD t0 undef= .pointer (some a))
  (hl:(loadVar ty a).run P w= .ok v w):(results fn tmps).run P w= .ok v w:=by
 have ht':tmps[t0]?.getD undef= .pointer (some a):=by simpa using ht
 simp [results,h,ht',asAddr,hl]
theorem ep.cell {S:Nat ->Prop} {w w':World} (h:ep S w w') {p:Addr} (hp:p.block < w.heap.size) (hs:¬ S p.block):w'.cell? p=w.cell? p:=aY (h.block p.block hp hs)
section
section
variable {α:Type} {k:Nat} {enc:α ->List Value} {t:TypeId}
theorem kX {P:Program} (w:World) {ops:Array Oper} {rest:List Oper} {o:Oper} {a:Act} {Q:Exit ->Act ->World ->Prop} (P0:o.guard=none) (s x:Operand) (ts:TypeId)
  (ho:o.op= .call {callee:= .builtin .append,args:=#[s,x],argTypes:=#[ts,ts]})
  (z:Value) (bytes:Nat) (ht:P.underlying ts=some (.slice t)) (hi:(P.info? t).map (fun i=>(i.zero,i.size,i.bytes))=some (some z,k,bytes)) (Sh:z.cells.size=k) (h0:0 < k) (O8:bytes <=100000000)
  (B:Nat) (v:Value) (l:List α) (hs:a.eval s=v) (Nl:ei t k enc w B v l) (hk:∀x,(enc x).length=k)
  (m:List α) (ad:Addr) (n c:Nat) (hx:a.eval x= .slice (some ad) n c) (hm:eA k enc w (.slice (some ad) n c) m) (h1:∀y∈m,∀u∈enc y,u.oneCell'=true)
  (QK:l.length+m.length <=1000000) (NN:B <=w.heap.size)
  (h:∀v' w',ei t k enc w' B v' (l++m) ->ep (eO v) w w' ->eQ w v v' ->wpList P ops Q rest (a.put o.dst v') w'):
  wpList P ops Q (o::rest) a w:=by
 obtain⟨i0,hi,Po,Oi,O1⟩:=bS hi;obtain⟨a',NK,hv,PV,Ow,hc3⟩:=hm;injection hv with e1 e2 e3;subst e1 e2 e3;refine ru (P:=P) w P0 s x ts ho B t i0 z k bytes ht hi Po Oi O1 Sh h0 v l.length (l.flatMap enc) hs Nl ad m.length c (m.flatMap enc) hx (kf hk m) ?_ ?_ (by simp only [maxLen];omega) ?_ NN ?_
 ·intro j u hu
  have hj:j < m.length*k:=by rw [<- kf hk];exact(aG.1 hu).1
  have hjk:j/k < m.length:=Nat.div_lt_of_lt_mul (by rw [Nat.mul_comm];exact hj);obtain⟨y,hy⟩:∃y,m[j/k]?=some y:=⟨_,aq hjk⟩;obtain⟨b,off,ha,Nu,hc⟩:=hc3 _ y hy;injection ha with ha;subst ha;have h3:=sH hk m (j/k) y (j %k) hy (Nat.mod_lt _ h0);have h4:j/k*k+j %k=j:=Nat.div_add_mod' j k;rw [h4,hu]at h3;have h5:=hc (j %k) u h3.symm;have QS:(⟨b,off,none⟩:Addr).add j=⟨b,off+j,none⟩:=by unfold Addr.add;split <;>simp_all
  rw [QS, <- h5]
  congr 2
  omega
 ·intro u hu
  obtain⟨y,hy,hu⟩:=List.mem_flatMap.1 hu;exact h1 y hy u hu
 ·have:(l.length+m.length)*bytes <=1000000*100000000:=Nat.mul_le_mul (by omega) O8
  omega
 ·intro v' w' h2 h3 h4
  refine h v' w' ?_ h3 h4;simpa [ei] using h2
theorem Bj (hk:∀x,(enc x).length=k):∀(l:List α) (i:Nat) (x y:α) (j:Nat) (u:Value),l[i]?=some x ->j < k ->enc y=(enc x).set j u ->(l.set i y).flatMap enc=(l.flatMap enc).set (i*k+j) u
 | [],i,x,y,j,u,h,_,_=>by simp at h
 | d::l,0,x,y,j,u,h,hj,he=>by
  simp at h;subst h;rw [bG,bK,bK,he,List.set_append_left _ _ (by rw [hk];omega)];simp
 | d::l,i+1,x,y,j,u,h,hj,he=>by
  rw [bE,bK,bK,List.set_append_right _ _ (by rw [hk,cU];omega)];rw [show(i+1)*k+j - (enc d).length=i*k+j from by rw [hk,cU];omega];rw [Bj hk l i x y j u (by simpa using h) hj he]
theorem ei.set {w:World} {B g n cap:Nat} {l:List α} (hk:∀x,(enc x).length=k) (h:ei t k enc w B (.slice (some ⟨g,0,none⟩) n cap) l) {i j:Nat} {x y:α} {u:Value} (hx:l[i]?=some x) (hj:j < k) (he:enc y=(enc x).set j u):
  ei t k enc (w.setCell ⟨g,i*k+j,none⟩ u) B (.slice (some ⟨g,0,none⟩) n cap) (l.set i y):=by
 obtain⟨hl,hv | ⟨g',NK,cur,hv,hb,hg,hn,hm,hs,ht⟩⟩:=h
 ·cases hv.1
 ·injection hv with e1 e2 e3
  injection e1 with e1;injection e1 with e1 e4;subst e1 e2 e3;refine⟨by rw [kf hk], .inr ⟨g,cap,cur.setIfInBounds (i*k+j) u,by rw [dr],hb,heap_setCell_same w g _ cur _ _ hg,by rw [dr];exact hn,hm,by simpa using hs,?_⟩⟩;rw [Bj hk l i x y j u hx hj he,dr];rw [Array.toList_setIfInBounds,List.take_set,ht]
theorem ei.open {w:World} {B:Nat} {v:Value} {l:List α} (h:ei t k enc w B v l) (hl:l≠[]):∃g cap cur,v= .slice (some ⟨g,0,none⟩) l.length cap/\B <=g/\g < w.heap.size/\w.heap[g]?=some (.cells cur t)/\l.length <=cap/\cap <=maxLen:=by
 obtain⟨_,hv | ⟨g,cap,cur,hv,hb,hg,hn,hm,hs,ht⟩⟩:=h
 ·exact absurd (aI hv.2) hl
 ·exact⟨g,cap,cur,hv,hb,(cm.1 hg).1,hg,hn,hm⟩
theorem ei.empty (w:World):ei t k enc (w.alloc (.cells #[] t)) w.heap.size (.slice (some ⟨w.heap.size,0,none⟩) 0 0) []:=
 ⟨by simp, .inr ⟨w.heap.size,0,#[],rfl,ag _,dz w _,ag _,by simp [maxLen],by simp,by simp⟩⟩
def vn (t:TypeId) (k:Nat) (enc:α ->List Value) (l:List α) (w:World) (e:Ending) (w':World):Prop:=∃v,e= .returned v/\ei t k enc w' w.heap.size v l/\Below w.heap.size w w'
end
theorem lR (v:Value) (l:List fi) (w:World) (hl:eA 2 fR w v l) (QL:l.length <=1000000):Calls prog 31 #[v] w (vn 52 2 fR l w):=by
 obtain⟨a,cap,rfl,h1,h2,h3⟩:=id hl;unfold maxLen at h2;have HI:=V hl;cases a with
 | none=>
  obtain rfl:l=[]:=by
   cases l with
   | nil=>rfl
   | cons x l=>
    obtain⟨_,_,h,_⟩:=h3 0 x rfl;cases h
  clear h3 hl;have e1:=bN (P:=prog) w 47 52 none 0 cap 0 0 (by kernel_rfl);rw [dk]at e1;go_enter func31,ntmps31;go_wp2;go_ret;exact⟨_,rfl,ei.nil _ _,an _ _⟩
 | some ad=>
  clear h3 hl;have e1:=bN (P:=prog) w 47 52 (some ad) l.length cap 0 0 (by kernel_rfl);rw [dj]at e1;go_enter func31,ntmps31;go_wp2_with (first | (at_builtin;refine Stop.out ?_));change wpList _ _ _ _ _ (World.alloc _ (.cells #[] 52));have N3:=(an w.heap.size w).alloc (ag _) (.cells #[] 52);refine kX (w.alloc (.cells #[] 52)) rfl _ _ 47 rfl _ 16 (by kernel_rfl) jB rfl (by decide) (by decide) w.heap.size (.slice (some ⟨w.heap.size,0,none⟩) 0 0) [] rfl (ei.empty w) fK l ad l.length cap rfl (HI.out.below N3) (fun y _=>lx y) (by simp only [aH];omega) N3.size ?_;intro v w' ho hk hs;have hb:Below w.heap.size w w':=N3.trans (hk.below N3.size (fun i hi=>by simp [eO,Value.ownBlock]at hi;omega));clear hk hs N3;go_wp2;go_ret;exact⟨v,rfl,by simpa using ho,hb⟩
theorem C8 (v:Value) (l:List lA) (w:World) (hl:eA 2 kP w v l) (QL:l.length <=1000000):Calls prog 64 #[v] w (vn 144 2 kP l w):=by
 obtain⟨a,cap,rfl,h1,h2,h3⟩:=id hl;unfold maxLen at h2;have HI:=V hl;cases a with
 | none=>
  obtain rfl:l=[]:=by
   cases l with
   | nil=>rfl
   | cons x l=>
    obtain⟨_,_,h,_⟩:=h3 0 x rfl;cases h
  clear h3 hl;have e1:=bN (P:=prog) w 122 144 none 0 cap 0 0 (by kernel_rfl);rw [dk]at e1;go_enter func64,ntmps64;go_wp2;go_ret;exact⟨_,rfl,ei.nil _ _,an _ _⟩
 | some ad=>
  clear h3 hl;have e1:=bN (P:=prog) w 122 144 (some ad) l.length cap 0 0 (by kernel_rfl);rw [dj]at e1;go_enter func64,ntmps64;go_wp2_with (first | (at_builtin;refine Stop.out ?_));change wpList _ _ _ _ _ (World.alloc _ (.cells #[] 144));have N3:=(an w.heap.size w).alloc (ag _) (.cells #[] 144);refine kX (w.alloc (.cells #[] 144)) rfl _ _ 122 rfl _ 16 (by kernel_rfl) vO rfl (by decide) (by decide) w.heap.size (.slice (some ⟨w.heap.size,0,none⟩) 0 0) [] rfl (ei.empty w) mF l ad l.length cap rfl (HI.out.below N3) (fun y _=>Bf y) (by simp only [aH];omega) N3.size ?_;intro v w' ho hk hs;have hb:Below w.heap.size w w':=N3.trans (hk.below N3.size (fun i hi=>by simp [eO,Value.ownBlock]at hi;omega));clear hk hs N3;go_wp2;go_ret;exact⟨v,rfl,by simpa using ho,hb⟩
theorem Cn (v:Value) (l:List (fg × Value × Value)) (w:World) (hl:eA 5 mK w v l) (QL:l.length <=1000000) (hone:∀y∈l,∀u∈mK y,u.oneCell'=true):Calls prog 63 #[v] w (vn 124 5 mK l w):=by
 obtain⟨a,cap,rfl,h1,h2,h3⟩:=id hl;unfold maxLen at h2;have HI:=V hl;cases a with
 | none=>
  obtain rfl:l=[]:=by
   cases l with
   | nil=>rfl
   | cons x l=>
    obtain⟨_,_,h,_⟩:=h3 0 x rfl;cases h
  clear h3 hl;have e1:=bN (P:=prog) w 58 124 none 0 cap 0 0 (by kernel_rfl);rw [dk]at e1;go_enter func63,ntmps63;go_wp2;go_ret;exact⟨_,rfl,ei.nil _ _,an _ _⟩
 | some ad=>
  clear h3 hl;have e1:=bN (P:=prog) w 58 124 (some ad) l.length cap 0 0 (by kernel_rfl);rw [dj]at e1;go_enter func63,ntmps63;go_wp2_with (first | (at_builtin;refine Stop.out ?_));change wpList _ _ _ _ _ (World.alloc _ (.cells #[] 124));have N3:=(an w.heap.size w).alloc (ag _) (.cells #[] 124);refine kX (w.alloc (.cells #[] 124)) rfl _ _ 58 rfl _ 72 (by kernel_rfl) nA rfl (by decide) (by decide) w.heap.size (.slice (some ⟨w.heap.size,0,none⟩) 0 0) [] rfl (ei.empty w) iP l ad l.length cap rfl (HI.out.below N3) hone (by simp only [aH];omega) N3.size ?_;intro v w' ho hk hs;have hb:Below w.heap.size w w':=N3.trans (hk.below N3.size (fun i hi=>by simp [eO,Value.ownBlock]at hi;omega));clear hk hs N3;go_wp2;go_ret;exact⟨v,rfl,by simpa using ho,hb⟩
end
theorem ei.ne {α β:Type} {t t':TypeId} {k k':Nat} {enc:α ->List Value} {Qh:β ->List Value} {w:World} {B B':Nat} {v v':Value} {l:List α} {l':List β} (h:ei t k enc w B v l) (h':ei t' k' Qh w B' v' l') (Ox:t≠t') (g:Nat) (hg:eO v g):¬ eO v' g:=by
 intro TD;obtain⟨_,hv | ⟨g1,cap,cur,hv,hb,h1,_⟩⟩:=h
 ·rw [hv.1]at hg
  simp [eO,Value.ownBlock]at hg
 obtain⟨_,Si | ⟨g2,NK,cur',Si,NJ,h2,_⟩⟩:=h'
 ·rw [Si.1]at TD
  simp [eO,Value.ownBlock]at TD
 rw [hv]at hg;rw [Si]at TD;simp [eO,Value.ownBlock]at hg TD;subst hg TD;rw [h1]at h2;injection h2 with h2;injection h2 with _ h2;exact Ox h2
theorem ei.cell {α:Type} {t:TypeId} {k:Nat} {enc:α ->List Value} {w:World} {B g n cap:Nat} {l:List α} (hk:∀x,(enc x).length=k) (h:ei t k enc w B (.slice (some ⟨g,0,none⟩) n cap) l) {i j:Nat} {x:α} {u:Value} (hx:l[i]?=some x) (hu:(enc x)[j]?=some u):w.cell? ⟨g,i*k+j,none⟩=some u:=by
 obtain⟨a,c,hv,_,_,hc⟩:=h.fT hk;obtain⟨b,off,ha,_,NA⟩:=hc i x hx;injection hv with e1 e2 e3;rw [<- e1]at ha;injection ha with ha;injection ha with e4 e5;subst e4 e5;have:=NA j u hu;rw [bT]at this;exact this
theorem DG {α β:Type}:∀(l:List α) (us:List β) (k:Nat) (f:α) (u:β),l[k]?=some f ->(l.zip us).set k (f,u)=l.zip (us.set k u)
 | [],us,k,f,u,h=>by simp at h
 | d::l,[],k,f,u,h=>by simp
 | d::l,x::us,0,f,u,h=>by
  simp at h;simp [h]
 | d::l,x::us,k+1,f,u,h=>by
  simp only [List.zip_cons_cons,bE];rw [DG l us k f u (by simpa using h)]
def kR (w:World) (M:Nat) (v:Value) (l:List fg):Prop:=
 ∃us:List (Value × Value),us.length=l.length/\ei 124 5 mK w M v (l.zip us)/\(∀f∈l,f.ok)/\
  ∀(i:Nat) (f:fg) (u:Value × Value),l[i]?=some f ->us[i]?=some u ->ei 52 2 fR w M u.1 f.locals/\ei 144 2 kP w M u.2 f.labels
theorem kR.ky {w:World} {M:Nat} {v:Value} {l:List fg} (h:kR w M v l):gu w v l:=by
 obtain⟨us,h1,h2,h3,h4⟩:=h;exact⟨us,h1,h2.fT iP,fun i f u hf hu=>⟨(h4 i f u hf hu).1.fT fK,(h4 i f u hf hu).2.fT mF⟩,h3⟩
theorem kR.keeps {w w':World} {M:Nat} {v:Value} {l:List fg} {S:Nat ->Prop} (h:kR w M v l) (hk:ep S w w') (hs:∀i,S i ->i < M):kR w' M v l:=by
 obtain⟨us,h1,h2,h3,h4⟩:=h;have key:∀{α:Type} {t:TypeId} {k:Nat} {enc:α ->List Value} {u:Value} {l:List α},ei t k enc w M u l ->ei t k enc w' M u l:=fun h=>h.keeps hk (fun i hi hj=>by have:=(eM h hi).1;have:=hs i hj;omega);exact⟨us,h1,key h2,h3,fun i f u hf hu=>⟨key (h4 i f u hf hu).1,key (h4 i f u hf hu).2⟩⟩
def Jj (s:fP) (w:World) (e:Ending) (w':World):Prop:=∃uv uf M,e= .returned (.agg #[uv,uf, .int .i64 s.asks])/\Below w.heap.size w w'/\w.heap.size <=M/\M <=w'.heap.size/\
 ei 52 2 fR w' w.heap.size uv s.eu/\(∀g,eO uv g ->g < M)/\kR w' M uf s.ez
def LV (l:List fg) (us:List (Value × Value)) (M:Nat) (vf:Value) (w1 w':World) (RK:List (Value × Value)) (k:Nat):Prop:=
 k <=l.length/\ep (eO vf) w1 w'/\RK.length=l.length/\ei 124 5 mK w' M vf (l.zip RK)/\
  (∀(i:Nat) (f:fg) (u:Value × Value),i < k ->l[i]?=some f ->RK[i]?=some u ->ei 52 2 fR w' M u.1 f.locals/\ei 144 2 kP w' M u.2 f.labels)/\
  ∀i,k <=i ->RK[i]?=us[i]?
def BH (B X:Nat) (vf u x:Value) (w:World):Prop:=w.cell? ⟨B,1,none⟩=some vf/\w.cell? ⟨X,2,none⟩=some u/\w.cell? ⟨X,4,none⟩=some x
theorem BH.keeps {B X:Nat} {vf u x:Value} {w w':World} {S:Nat ->Prop} (h:BH B X vf u x w) (hk:ep S w w') (hB:B < w.heap.size/\¬ S B) (hX:X < w.heap.size/\¬ S X):BH B X vf u x w':=
 ⟨(aY (a:=⟨B,1,none⟩) (hk.block B hB.1 hB.2)).trans h.1,(aY (a:=⟨X,2,none⟩) (hk.block X hX.1 hX.2)).trans h.2.1,(aY (a:=⟨X,4,none⟩) (hk.block X hX.1 hX.2)).trans h.2.2⟩
theorem Cf {w:World} {l:List fg} {us:List (Value × Value)} (h:∀(i:Nat) (f:fg) (u:Value × Value),l[i]?=some f ->us[i]?=some u ->eA 2 fR w u.1 f.locals/\eA 2 kP w u.2 f.labels):
  ∀y∈l.zip us,∀u∈mK y,u.oneCell'=true:=by
 intro y hy u hu;obtain⟨i,hi⟩:=List.mem_iff_getElem?.1 hy;obtain⟨h1,h2⟩:=cI.1 hi;obtain⟨⟨a,c,e1,_⟩,a2,c2,e2,_⟩:=h i _ _ h1 h2;simp only [mK,e1,e2,bx,bI,cH]at hu;rcases hu with rfl | rfl | rfl | rfl | rfl <;>rfl
theorem wZ (uv uf:Value) (s:fP) (w:World) (NH:jP w uv uf s) (S1:s.eu.length <=1000) (hl2:s.ez.length <=1000) (hl3:∀f∈s.ez,f.locals.length <=1000/\f.labels.length <=1000):
  Calls prog 32 #[.agg #[uv,uf, .int .i64 s.asks]] w (Jj s w):=by
 obtain⟨hv,hf,Nt⟩:=id NH;obtain⟨av,NL,rfl,hcv1,Oh,_⟩:=id hv;obtain⟨us,hu1,Pq,hu3,hu4⟩:=id hf;obtain⟨af,OP,rfl,hcf1,Sj⟩:=hf.slice;unfold maxLen at Oh;have HL3:=V hl3;have OA:=(eS.new w #[.slice av s.eu.length NL, .slice af s.ez.length OP, .int .i64 s.asks] 60).alloc (.cells #[.slice none 0 0, .slice none 0 0, .int .i64 0] 60);have hbz:eS ((w.alloc (.cells #[.slice av s.eu.length NL, .slice af s.ez.length OP, .int .i64 s.asks] 60)).alloc (.cells #[.slice none 0 0, .slice none 0 0, .int .i64 0] 60)) (w.heap.size+1) #[.slice none 0 0, .slice none 0 0, .int .i64 0] 60:=by
  have:=eS.new (w.alloc (.cells #[.slice av s.eu.length NL, .slice af s.ez.length OP, .int .i64 s.asks] 60)) #[.slice none 0 0, .slice none 0 0, .int .i64 0] 60;rw [aC]at this;exact this
 have NG:Below w.heap.size w ((w.alloc (.cells #[.slice av s.eu.length NL, .slice af s.ez.length OP, .int .i64 s.asks] 60)).alloc (.cells #[.slice none 0 0, .slice none 0 0, .int .i64 0] 60)):=((an w.heap.size w).alloc (ag _) _).alloc (by simp) _;have HV:=V hv;have HU:=V hu3;have HZ:=V Pq;have HOKF:=V hu4;have HUL:=V hu1;have HONE:=V (Cf hu3);have hzl:(s.ez.zip us).length=s.ez.length:=by rw [bV,hu1,cV]
 clear hv hf NH Nt hu1 Pq hu3 hu4 hl3;go_enter func32,ntmps32;go_wp2_with fail;generalize((w.alloc (.cells #[.slice av s.eu.length NL, .slice af s.ez.length OP, .int .i64 s.asks] 60)).alloc (.cells #[.slice none 0 0, .slice none 0 0, .int .i64 0] 60))=w0 at OA hbz NG⊢;have hX0:w.heap.size+1 < w0.heap.size:=hbz.lt;obtain⟨x0,x1,x2⟩:=OA.three;refine eY (fun w'=>w'.cell? ⟨w.heap.size,1,none⟩=some (.slice af s.ez.length OP)) 9
  [(0,true),(3,true),(4,true),(1,false),(2,false),(6,true),(5,false),(7,false),(8,true)] (by kernel_rfl) (by kernel_rfl) x1 ?_
 iterate 3 (first | (apply sk rfl rfl;simp only [pt]) | (apply eo rfl rfl rfl;·(rintro w' t0;go_wp2;exact⟨rfl,rfl,rfl⟩)))
 refine ew rfl rfl ?_;go_wp2_with fail;refine⟨x1,?_⟩;refine ew rfl rfl ?_;go_wp2_with fail;refine(lR _ s.eu w0.drew (HV.out.below NG.drew) (by omega)).mono ?_;rintro x w2 ⟨v,rfl,TE,hbv'⟩;have hbv:Below w0.heap.size w0 w2:=fY hbv';have TE:ei 52 2 fR w2 w0.heap.size v s.eu:=TE;have Qs:=OA.below hbv OA.lt;have O1:=hbz.below hbv hbz.lt;have No:=NG.trans (hbv.mono NG.size);have Qp:=hbv.size;clear hbv' hbv OA hbz NG x0 x1 x2;go_wp2_with fail;refine⟨Qs.cell 1,?_⟩;iterate 1 (first | (apply sk rfl rfl;simp only [pt]) | (apply eo rfl rfl rfl;·(rintro w' t0;go_wp2;exact⟨rfl,rfl,rfl⟩)))
 refine ew rfl rfl ?_;go_wp2_with fail;refine(Cn _ (s.ez.zip us) w2 (HZ.out.below No) (by omega) HONE.out).mono ?_;rintro x w3 ⟨vf,rfl,Sk,hbf⟩;have hx3:=Qs.below hbf Qs.lt;have hz3:=O1.below hbf O1.lt;have NP:=No.trans (hbf.mono No.size);have hov3:=TE.below hbf;have Qq:=hbf.size;obtain⟨a2,Nr,rfl,_,_,_⟩:=hov3.fT fK;obtain⟨a3,OH,hvf,_,_,_⟩:=Sk.fT iP;rw [hzl]at hvf;subst hvf;have f0:=hx3.free 0;have x0:w3.cell? ⟨w.heap.size,0,none⟩=some (.slice av s.eu.length NL):=hx3.cell 0;have hkx1:=jh w3 w.heap.size 0 (.slice a2 s.eu.length Nr);have hx4:eS (w3.setCell ⟨w.heap.size,0,none⟩ (.slice a2 s.eu.length Nr)) w.heap.size #[.slice a2 s.eu.length Nr, .slice af s.ez.length OP, .int .i64 s.asks] 60:=by
  have:=hx3.set 0 (.slice a2 s.eu.length Nr);simpa using this
 have hM:=TE.block;have HOV:=V hov3;have Tg:=V (show∀g,eO (.slice a2 s.eu.length Nr) g ->w0.heap.size <=g/\g < w2.heap.size from fun g hg=>eM TE hg);have RW:=V Sk;clear TE hov3 Sk hM hbf;go_wp2_with fail;refine⟨hx3.cell 1,?_⟩;refine ew rfl rfl ?_;go_wp2_with fail;generalize w3.setCell ⟨w.heap.size,0,none⟩ (.slice a2 s.eu.length Nr)=w4 at hx4 hkx1⊢;have x1:w4.cell? ⟨w.heap.size,1,none⟩=some (.slice af s.ez.length OP):=hx4.cell 1;have f1:=hx4.free 1;refine⟨x1,?_⟩;iterate 1 (first | (apply sk rfl rfl;simp only [pt]) | (apply eo rfl rfl rfl;·(rintro w' t0;go_wp2;exact⟨rfl,rfl,rfl⟩)))
 refine fJ rfl rfl ?_;have hkx2:=jh w4 w.heap.size 1 (.slice a3 s.ez.length OH);have hx5:eS (w4.setCell ⟨w.heap.size,1,none⟩ (.slice a3 s.ez.length OH)) w.heap.size #[.slice a2 s.eu.length Nr, .slice a3 s.ez.length OH, .int .i64 s.asks] 60:=by
  have:=hx4.set 1 (.slice a3 s.ez.length OH);simpa using this
 have OQ:=hkx1.trans hkx2 (fun i h=> .inl h);clear x0 f0 hx4 hx3 Qs hkx1;go_wp2;refine⟨trivial,?_⟩;refine aA ?_;generalize w4.setCell ⟨w.heap.size,1,none⟩ (.slice a3 s.ez.length OH)=w1 at hx5 OQ⊢;clear x1 f1 hkx2;have hM0:w0.heap.size <=w2.heap.size:=by omega
 have Oi:=hz3.keeps OQ (by omega);have Tb:=OQ.size;have Nx:=NP.trans (OQ.below NP.size (fun i h=>by omega));have HOV1:=V (HOV.out.keeps OQ (fun i hi=>by have:=Tg.out i hi;omega));have hof1:=RW.out.keeps OQ (fun i hi=>by have:=(eM RW.out hi).1;omega);have HX5:=V hx5;have HZ1:=V Oi;have hMl:=hof1;clear hMl HOV RW hx5 Oi hz3 O1 NP No OQ;obtain⟨M,hMM⟩:∃M,w2.heap.size=M:=⟨_,rfl⟩;rw [hMM]at hof1 hM0 Qq;have Tg:=V (show∀g,eO (.slice a2 s.eu.length Nr) g ->w0.heap.size <=g/\g < M by rw [<- hMM];exact Tg.out);clear hMM Qp;obtain⟨x0,x1,x2⟩:=HX5.out.three;go_wp2_with fail;clear x0 x1 x2;refine eR (fun a' w'=>∃(RK:List (Value × Value)) (k:Nat),a'=fr (gs a' 0 1 (.pointer (some ⟨w.heap.size,0,none⟩):: .pointer (some ⟨w.heap.size+1,0,none⟩)::gs a' 3 11 (.slice a3 s.ez.length OH:: .int .i64 s.ez.length:: .int .i64 k::gs a' 17 22 [])))/\LV s.ez us M (.slice a3 s.ez.length OH) w1 w' RK k) (fun a' _=>(s.ez.length - (intOf (a'.tmps.getD 16 undef)).toNat)) ?_ ?_
 ·exact⟨us,0,rfl,by omega,ep.refl _ _,HUL.out,hof1,fun i f u hi=>by omega,fun i _=>rfl⟩
 clear hof1;rintro R a' wr ⟨RK,k,Nm,hJ⟩ HR;dsimp only [fr,gs]at Nm;generalize slot a'=f at Nm;subst Nm;obtain⟨hk,OT,Qy,Sk,hold,hnew⟩:=hJ;have hszr:=OT.size;have hBM:∀g,eO (.slice a3 s.ez.length OH) g ->M <=g:=fun g hg=>(eM Sk hg).1;have hxr:=HX5.out.keeps OT (fun h=>by have:=hBM _ h;omega);have hbr:=Nx.trans (OT.below Nx.size (fun i h=>by have:=hBM _ h;omega));obtain⟨x0,x1,x2⟩:=hxr.three;have HOLD:=V hold;have HNEW:=V hnew;clear hold hnew;by_cases N8:k < s.ez.length;rotate_left
 ·obtain rfl:k=s.ez.length:=by omega
  have hzr:=HZ1.out.keeps OT (fun h=>by have:=hBM _ h;omega);obtain⟨y0,y1,y2⟩:=hzr.three;have z0:=hzr.free 0;have z1:=hzr.free 1;have z2:=hzr.free 2;have HB:=V hBM;have RZ:=V OT;have HOFR:=V Sk;clear hBM OT Sk;go_wp2_with fail;have hx:=hzr.EG (.slice a2 s.eu.length Nr) (.slice a3 s.ez.length OH) (.int .i64 s.asks);have OQ:=yF wr (w.heap.size+1) (.slice a2 s.eu.length Nr) (.slice a3 s.ez.length OH) (.int .i64 s.asks);refine aF (eH rfl _ _ rfl hx.xJ) rfl ?_;have hsf:=OQ.size;refine⟨_,_,M,rfl,((hbr.setCell (p:=⟨w.heap.size+1,0,none⟩) (by show _ <=w.heap.size+1;omega) _).setCell (p:=⟨w.heap.size+1,1,none⟩) (by show _ <=w.heap.size+1;omega) _).setCell (p:=⟨w.heap.size+1,2,none⟩) (by show _ <=w.heap.size+1;omega) _,by omega,by omega,?_,fun g hg=>(Tg.out g hg).2,?_⟩
  ·exact nH ((HOV1.out.keeps RZ.out (fun i hi hj=>by have:=Tg.out i hi;have:=HB.out i hj;omega)).keeps OQ (fun i hi=>by have:=Tg.out i hi;omega)) (fun i hi=>by have:=Tg.out i hi;omega)
  ·have Sj:kR wr M (.slice a3 s.ez.length OH) s.ez:=⟨RK,Qy,HOFR.out,HOKF.out,fun i f u hf hu=>HOLD.out i f u (aG.1 hf).1 hf hu⟩
   exact Sj.keeps OQ (fun i h=>by omega)
 obtain⟨c,he⟩:∃e,s.ez[k]?=some e:=⟨_,aq N8⟩;obtain⟨⟨u,x⟩,hux⟩:∃e,us[k]?=some e:=⟨_,aq (by have:=HUL.out;omega)⟩;have hux':RK[k]?=some (u,x):=(HNEW.out k (ag _)).trans hux;have hz:(s.ez.zip RK)[k]?=some (c,(u,x)):=(cI (z:=(c,(u,x)))).2 ⟨he,hux'⟩;obtain⟨g,capg,cur,hvg,Rp,Pv,hg3,_,_⟩:=Sk.open (by intro h;rw [h]at hz;simp at hz);injection hvg with e1 e2 e3;subst e1 e3;obtain⟨aa,capp,hva,_,_,Nk⟩:=Sk.fT iP;obtain⟨b,off,N3,Nu,hc⟩:=Nk k _ hz;injection hva with e4 e5 e6;rw [<- e4]at N3;injection N3 with N3;injection N3 with e7 e8;subst e7 e8;have c0:=hc 0 _ rfl;have c1:=hc 1 _ rfl;have c2:=hc 2 _ rfl;have c3:=hc 3 _ rfl;have c4:=hc 4 _ rfl;rw [bT]at c0 c1 c2 c3 c4;rw [aJ]at c0;obtain⟨hu,hx⟩:=HU.out k c (u,x) he hux;obtain⟨au,Ns,hue,hcu1,hcu,_⟩:=id hu;obtain⟨ax,Of,hxe,hcx1,hcx,_⟩:=id hx;simp only at hue hxe;subst hue hxe;obtain⟨hl31,hl32⟩:=HL3.out c (aN he);have O4:=(an wr.heap.size wr).alloc (ag _) (.cells #[.int .i64 c.fn, .int .i64 c.pc, .slice au c.locals.length Ns, .int .i64 c.base, .slice ax c.labels.length Of] 124);have HUa:=V ((hu.below hbr).below O4);have HXa:=V ((hx.below hbr).below O4);have hxa:=hxr.below O4 hxr.lt;have hX:=eS.new wr #[.int .i64 c.fn, .int .i64 c.pc, .slice au c.locals.length Ns, .int .i64 c.base, .slice ax c.labels.length Of] 124;have HE:=V he;have HZZ:=V hz;have HUX:=V hux';have HOFR:=V Sk;have RZ:=V OT;have HC2:=V c2;have HC4:=V c4;have HG3:=V hg3;have HB:=V hBM;clear hu hx he hz hux hux' Sk OT hBM Nk hc e2 e4 e5 e6 hg3;unfold maxLen at hcu hcx;go_wp2_with fail;obtain⟨X,hXX⟩:∃X,X=wr.heap.size:=⟨_,rfl⟩;rw [<- hXX]at hX⊢;have hX1:wr.heap.size <=X:=by omega
 clear hXX c0 c1 c2 c3 c4 x0 x1 x2;generalize wr.alloc (.cells #[.int .i64 c.fn, .int .i64 c.pc, .slice au c.locals.length Ns, .int .i64 c.base, .slice ax c.labels.length Of] 124)=wa at O4 hxa hX HUa HXa⊢;have hS:BH w.heap.size X (.slice (some ⟨g,0,none⟩) s.ez.length OH) (.slice au c.locals.length Ns) (.slice ax c.labels.length Of) wa:=⟨hxa.cell 1,hX.cell 2,hX.cell 4⟩;have HS:=V hS;have hgl:g < wa.heap.size:=by have:=O4.size;omega
 have S2:=hX.lt;have hBl:=hxa.lt;have hgB:w.heap.size≠g:=by omega
 clear hS;refine eB (BH w.heap.size X (.slice (some ⟨g,0,none⟩) s.ez.length OH) (.slice au c.locals.length Ns) (.slice ax c.labels.length Of))
  (up 0 8 ((9,true)::(10,true)::(8,false)::(11,false)::(12,true)::(13,true)::(14,false)::(15,true)::(16,true)::(17,false)::[])) (by kernel_rfl) (by kernel_rfl) HS.out ?_
 clear hX hxa;iterate 10 (first | (apply sk rfl rfl;simp only [pt]) | (apply eo rfl rfl rfl;·(rintro w' ⟨t0,t1,t2⟩;go_wp2;exact⟨rfl,rfl,rfl⟩)))
 refine ew rfl rfl ?_;go_wp2_with fail;refine(lR _ c.locals wa.drew HUa.out (by omega)).mono ?_;rintro y w5 ⟨v1,rfl,P9,hb5'⟩;have N7:Below wa.heap.size wa w5:=fY hb5';have P9:ei 52 2 fR w5 wa.heap.size v1 c.locals:=P9;obtain⟨p1,q1,rfl,_,_,_⟩:=P9.fT fK;have OV:=V P9;clear hb5' P9;have hsa:=O4.size;go_wp2_with fail;refine⟨HS.out.keeps (ep.et (S:=fun _=>False) N7) ⟨hBl,fun h=>h⟩ ⟨S2,fun h=>h⟩,?_⟩;refine ew rfl rfl ?_;go_wp2_with fail;refine(C8 _ c.labels w5 (HXa.out.below N7) (by omega)).mono ?_;rintro y w6 ⟨v2,rfl,NU,Pp⟩;have hsz5:=N7.size;have hsz6:=Pp.size;have P9:=nH (OV.out.below Pp) (base':=M) (fun g hg=>by have:=(eM OV.out hg).1;omega);have ho1':∀b,eO (.slice p1 c.locals.length q1) b ->b≠g:=fun b hb=>by have:=(eM OV.out hb).1;omega
 have ho2':∀b,eO v2 b ->b≠g:=fun b hb=>by have:=(eM NU hb).1;omega
 have ho2'':=nH NU (base':=M) (fun g hg=>by have:=(eM NU hg).1;omega);obtain⟨p2,q2,rfl,_,_,_⟩:=NU.fT mF;have hb56:=N7.trans (Pp.mono (by omega));have QY:ep (fun _=>False) wr w6:=(ep.et O4).trans (ep.et (S:=fun _=>False) hb56) (fun i h=> .inl h);have hS6:=HS.out.keeps (ep.et (S:=fun _=>False) hb56) ⟨hBl,fun h=>h⟩ ⟨S2,fun h=>h⟩;have hof6:=HOFR.out.keeps QY (fun _ _ h=>h);have c2:w6.cell? ⟨g,k*5+2,none⟩=some (.slice au c.locals.length Ns):=(QY.cell (p:=⟨g,k*5+2,none⟩) Pv (fun h=>h)).trans HC2.out;have c4:w6.cell? ⟨g,k*5+4,none⟩=some (.slice ax c.labels.length Of):=(QY.cell (p:=⟨g,k*5+4,none⟩) Pv (fun h=>h)).trans HC4.out;have hg6:w6.heap[g]?=some (.cells cur 124):=(QY.block g Pv (fun h=>h)).trans HG3.out;have z2:w6.frozen? ⟨g,k*5+2,none⟩=false:=dc w6 g _ cur _ hg6;have hgl6:g < w6.heap.size:=by omega
 have OV:=V P9;have HO1':=V ho1';have OO:=V ho2'';have HO2':=V ho2';have HOF6:=V hof6;have HK6:=V QY;clear P9 ho1' NU ho2' ho2'' hof6 QY N7 Pp hb56 O4;go_wp2_with fail;refine⟨hS6,?_⟩;iterate 2 (first | (apply sk rfl rfl;simp only [pt]) | (apply eo rfl rfl rfl;·(rintro w' ⟨t0,t1,t2⟩;go_wp2;exact⟨rfl,rfl,rfl⟩)))
 refine ew rfl rfl ?_;go_wp2_with fail;have hk67:=jh w6 g (k*5+2) (.slice p1 c.locals.length q1);have hS7:=hS6.keeps hk67 ⟨by omega,fun h=>hgB h⟩ ⟨by omega,fun h=>by omega⟩;have hof7:=HOF6.out.set iP (i:=k) (j:=2) (u:= .slice p1 c.locals.length q1) (y:=(c,(.slice p1 c.locals.length q1, .slice ax c.labels.length Of))) HZZ.out (by omega) rfl;have hg7:(w6.setCell ⟨g,k*5+2,none⟩ (.slice p1 c.locals.length q1)).heap[g]?=some (.cells (cur.setIfInBounds (k*5+2) (.slice p1 c.locals.length q1)) 124):=heap_setCell_same w6 g _ cur _ _ hg6;have hzz:((s.ez.zip RK).set k (c,(.slice p1 c.locals.length q1, .slice ax c.labels.length Of)))[k]?=some (c,(.slice p1 c.locals.length q1, .slice ax c.labels.length Of)):=by
  rw [List.getElem?_set_self (aG.1 HZZ.out).1]
 have c4':=hof7.cell iP (j:=4) hzz rfl;have Qg:=hof7.set iP (i:=k) (j:=4) (u:= .slice p2 c.labels.length q2) (y:=(c,(.slice p1 c.locals.length q1, .slice p2 c.labels.length q2))) hzz (by omega) rfl;rw [List.set_set,DG _ _ _ _ _ HE.out]at Qg;generalize w6.setCell ⟨g,k*5+2,none⟩ (.slice p1 c.locals.length q1)=w7 at hk67 hS7 hg7 c4' Qg⊢;have z4:w7.frozen? ⟨g,k*5+4,none⟩=false:=dc w7 g _ _ _ hg7;have hk78:=jh w7 g (k*5+4) (.slice p2 c.labels.length q2);have hs67:=hk67.size;have hS8:=hS7.keeps hk78 ⟨by omega,fun h=>hgB h⟩ ⟨by omega,fun h=>by omega⟩;have HOF8:=V Qg;clear Qg hof7 hzz c2 c4 z2 hg6 hg7;refine⟨hS7,?_⟩;iterate 2 (first | (apply sk rfl rfl;simp only [pt]) | (apply eo rfl rfl rfl;·(rintro w' ⟨t0,t1,t2⟩;go_wp2;exact⟨rfl,rfl,rfl⟩)))
 refine ew rfl rfl ?_;go_wp2_with fail;refine⟨hS8,?_⟩;refine eW ?_;refine aA ?_;have hk68:=hk67.trans hk78 (fun i h=> .inl h);have hkr8:ep (eO (.slice (some ⟨g,0,none⟩) s.ez.length OH)) wr _:=(HK6.out.mono (fun i h=>h.elim)).trans hk68 (fun i h=> .inl (by subst h;rfl));generalize w7.setCell ⟨g,k*5+4,none⟩ (.slice p2 c.labels.length q2)=w8 at HOF8 hk68 hkr8⊢;clear hS8 hS7 hS6 z4 c4' hk67 hk78;go_wp2;refine HR.out _ _ ⟨RK.set k (.slice p1 c.locals.length q1, .slice p2 c.labels.length q2),k+1,rfl,by omega,RZ.out.trans hkr8 (fun i h=> .inl h),by simpa using Qy,HOF8.out,fun i f u hi hf hu=>?_,fun i hi=>?_⟩ ?_
 ·rcases bz i k with hik | hik
  ·rw [List.getElem?_set_ne (by omega)]at hu
   obtain⟨q1,q2⟩:=HOLD.out i f u hik hf hu;exact⟨q1.keeps hkr8 (fun b hb=>q1.ne HOFR.out (by decide) b hb),q2.keeps hkr8 (fun b hb=>q2.ne HOFR.out (by decide) b hb)⟩
  ·obtain rfl:i=k:=by omega
   rw [List.getElem?_set_self (by omega)]at hu;injection hu with hu;subst hu;rw [HE.out]at hf;injection hf with hf;subst hf;exact⟨ng OV.out hk68 (fun b hb=>HO1'.out b hb),ng OO.out hk68 (fun b hb=>HO2'.out b hb)⟩
 ·rw [List.getElem?_set_ne (by omega)]
  exact HNEW.out i (by omega)
 ·simp [intOf]
  omega
end Go.Proofs.YtjmeglibedbljaaGreatDoor
