import Derived.Test.YthbjdhjppbcneaaGreatDoorBlocksJ6
import Derived.Deep.Cut
namespace Go.Proofs.YthbjdhjppbcneaaGreatDoor
set_option maxRecDepth 100000
set_option maxHeartbeats 20000000
open Go.RowKit Tryz
open Lib renaming hid->V
set_option linter.all false
theorem pd.seq {α β:Type} {a:je α} {b:je β} (ha:pd a) (hb:pd b):pd (kx a b):=by
 intro l y hy;simp only [kx]at hy;cases h:a l with
 | none=>rw [h]at hy;simp at hy
 | some x=>
  rw [h]at hy;simp only [az]at hy;cases h2:b x.2 with
  | none=>rw [h2]at hy;simp at hy
  | some z=>
   rw [h2]at hy;simp only [az,aX]at hy;subst hy;exact aW (hb _ _ h2) (ha _ _ h)
theorem z6:pd gG:=by
 intro l y hy;obtain⟨p,rfl⟩:=o7 (x:=y.1) (r:=y.2) hy;simp
theorem tN:∀(f:Nat) (acc:List eS) (deep:Int) (l:List UInt8) (y:List eS × List UInt8),kH f acc deep l=some y ->∃p,l=p++y.2
 | 0,_,_,_,_,h=>by cases h
 | f+1,acc,deep,l,y,h=>by
  rw [kH]at h;cases hi:gG l with
  | none=>rw [hi]at h;cases h
  | some x=>
   obtain⟨p,hp⟩:=o7 (x:=x.1) (r:=x.2) hi;rw [hi]at h;simp only [az]at h;split at h
   ·split at h
    ·injection h with h
     subst h;exact⟨p,hp⟩
    ·cases h
   ·split at h
    ·cases h
    ·obtain⟨q,hq⟩:=tN f _ _ _ _ h
     exact⟨p++q,by rw [aP, <- hq];exact hp⟩
theorem wC {l:List UInt8} {y:List eS × List UInt8} (h:lE l=some y):∃p,l=p++y.2:=tN _ _ _ _ _ h
theorem BZ:pd lE:=by
 intro l y hy;obtain⟨p,hp⟩:=wC hy;rw [hp];simp
theorem uJ:iZ gR:=by
 intro l y hy;unfold gR at hy;cases hi:gG l with
 | none=>rw [hi]at hy;cases hy
 | some x=>
  have h1:=z6 l x hi;rw [hi]at hy;simp only [az]at hy;split at hy
  ·cases hb:fk x.2 with
   | none=>rw [hb]at hy;cases hy
   | some c=>
    rw [hb]at hy;injection hy with hy;subst hy;have:=kN _ _ hb;simp only;omega
  ·cases hy
theorem tS:iZ jA:=by rw [sq];exact(kN.seq uJ.mr).map
theorem oP:iZ vN:=by rw [qI];exact ly.map
theorem xq:iZ mD:=by
 intro l y hy;unfold mD at hy;cases h:gq l with
 | none=>rw [h]at hy;cases hy
 | some x=>
  rw [h]at hy;simp only [az]at hy;split at hy
  ·cases hy
  ·injection hy with hy
   subst hy;have:=ly l x h;simp only [bu];omega
theorem qM:iZ jQ:=by rw [uQ];exact xq.map
theorem pe:iZ gy:=by
 intro l y hy;unfold gy at hy;cases hc:fk l with
 | none=>rw [hc]at hy;cases hy
 | some c=>
  have h1:=kN _ _ hc;rw [hc]at hy;simp only [az]at hy;cases hn:gq c.2 with
  | none=>rw [hn]at hy;cases hy
  | some n=>
   have h2:=ly _ _ hn;rw [hn]at hy;simp only [az]at hy;split at hy
   ·injection hy with hy
    subst hy;simp only;omega
   ·cases hm:gq n.2 with
    | none=>rw [hm]at hy;cases hy
    | some m=>
     have h3:=ly _ _ hm;rw [hm]at hy;injection hy with hy;subst hy;simp only;omega
theorem vq:iZ lx:=by rw [sd];exact(kN.seq pe.mr).map
theorem wE:iZ pg:=by rw [tV];exact(kN.seq ((il lO).mr.seq (il lO).mr)).map
theorem yV:iZ uZ:=by rw [yj];exact(qM.seq (qM.mr.seq (kN.mr.seq oP.mr))).map
theorem wY:iZ pM:=by rw [tX];exact(lO.seq (kN.mr.seq uJ.mr)).map
theorem An:iZ um:=by rw [yn];exact(qM.seq (kN.mr.seq oP.mr)).map
theorem wJ:iZ pk:=by rw [pE];exact(tS.seq (il oP).mr).map
theorem zL:iZ uz:=by rw [xJ];exact(tS.seq xq.mr).map
theorem z9:iZ my:=by
 intro l y hy;unfold my at hy;cases hn:gq l with
 | none=>rw [hn]at hy;cases hy
 | some n=>
  have h1:=ly _ _ hn;rw [hn]at hy;simp only [az]at hy;cases hk:gT n.2 with
  | none=>rw [hk]at hy;cases hy
  | some k=>
   have h2:=lO _ _ hk;rw [hk]at hy;simp only [az]at hy;split at hy
   ·cases hy
   ·injection hy with hy
    subst hy;simp only;omega
theorem kG:jR=hU jc (fC my):=by
 funext l
 simp only [jR,hU];cases fC my l <;>rfl
theorem Ab:iZ jR:=by rw [kG];exact(il z9).map
theorem vL:mq=hU (fun x=>⟨x.2.1,x.2.2⟩) (kx gq (kx jR lE)):=by
 funext l
 simp only [mq,hU,kx];cases h1:gq l with
 | none=>rfl
 | some a=>
  simp only [az];cases h2:jR a.2 with
  | none=>rfl
  | some b=>
   simp only [az];cases lE b.2 <;>rfl
theorem xt:iZ mq:=by rw [vL];exact(ly.seq (Ab.mr.seq BZ)).map
theorem Es (m:eI):(kb 1 m:je eI)=hU (fun x=>{m with types:=x}) (fC pg):=by funext l;simp only [kb,hU];cases fC pg l <;>rfl
theorem FU (m:eI):(kb 2 m:je eI)=hU (fun x=>{m with imports:=x}) (fC uZ):=by funext l;simp only [kb,hU];cases fC uZ l <;>rfl
theorem Eg (m:eI):(kb 3 m:je eI)=hU (fun x=>{m with funcs:=x}) (fC vN):=by funext l;simp only [kb,hU];cases fC vN l <;>rfl
theorem Gp (m:eI):(kb 4 m:je eI)=hU (fun x=>{m with table:=kg x}) (fC lx):=by funext l;simp only [kb,hU];cases fC lx l <;>rfl
theorem Fs (m:eI):(kb 5 m:je eI)=hU (fun x=>{m with mem:=kg x}) (fC gy):=by funext l;simp only [kb,hU];cases fC gy l <;>rfl
theorem GG (m:eI):(kb 6 m:je eI)=hU (fun x=>{m with globals:=x}) (fC pM):=by funext l;simp only [kb,hU];cases fC pM l <;>rfl
theorem GO (m:eI):(kb 7 m:je eI)=hU (fun x=>{m with ep:=x}) (fC um):=by funext l;simp only [kb,hU];cases fC um l <;>rfl
theorem GX (m:eI):(kb 9 m:je eI)=hU (fun x=>{m with elems:=x}) (fC pk):=by funext l;simp only [kb,hU];cases fC pk l <;>rfl
theorem BT (m:eI):(kb 10 m:je eI)=hU (fun x=>{m with eA:=x}) (fC mq):=by funext l;simp only [kb,hU];cases fC mq l <;>rfl
theorem BK (m:eI):(kb 11 m:je eI)=hU (fun x=>{m with eK:=x}) (fC uz):=by funext l;simp only [kb,hU];cases fC uz l <;>rfl
theorem xm {n:Nat} (m:eI) (l:List UInt8) (h:n=0\/n=8\/11 < n):kb n m l=none:=by
 unfold kb;split <;>first | rfl | omega
theorem Dz (n:Nat) (m:eI):pd (kb n m):=by
 by_cases h:n=0\/n=8\/11 < n
 ·intro l y hy
  have hy:kb n m l=some y:=hy;rw [xm m l h]at hy;cases hy
 ·have h2:n=1\/n=2\/n=3\/n=4\/n=5\/n=6\/n=7\/n=9\/n=10\/n=11:=by omega
  rcases h2 with rfl | rfl | rfl | rfl | rfl | rfl | rfl | rfl | rfl | rfl
  ·rw [Es];exact(il wE).map.mr
  ·rw [FU];exact(il yV).map.mr
  ·rw [Eg];exact(il oP).map.mr
  ·rw [Gp];exact(il vq).map.mr
  ·rw [Fs];exact(il pe).map.mr
  ·rw [GG];exact(il wY).map.mr
  ·rw [GO];exact(il An).map.mr
  ·rw [GX];exact(il wJ).map.mr
  ·rw [BT];exact(il xt).map.mr
  ·rw [BK];exact(il zL).map.mr
def rn {α:Type} (get:je α) (n:Nat) (acc:List α) (st:gu):Option (List α × List UInt8):=(st.bind (sh get n)).map fun y=>(acc++y.1,y.2)
theorem Da {α:Type} (get:je α) (acc:List α) (st:gu):rn get 0 acc st=st.map fun l=>(acc,l):=by
 cases st with
 | none=>rfl
 | some l=>simp [rn,sh]
theorem DO {α:Type} (get:je α) (n:Nat) (acc:List α):rn get n acc none=none:=rfl
theorem jJ {α:Type} (get:je α) (n:Nat) (acc:List α) {st:gu} {x:α} (h:ie get st x):rn get (n+1) acc st=rn get n (acc++[x]) (ez get st):=by
 cases st with
 | none=>rfl
 | some l=>
  simp only [rn,sh,ez,az];cases hg:get l with
  | none=>rfl
  | some y=>
   have:=h y (by simpa using hg);subst this;simp only [az,bF];cases sh get n y.2 <;>simp
theorem ky {α:Type} (get:je α) (st:gu) (n:Nat) (hn:ie gq st n):st.bind (fC get)=rn get n [] (ez gq st):=by
 cases st with
 | none=>rfl
 | some l=>
  simp only [fC,rn,ez,az];cases hg:gq l with
  | none=>rfl
  | some y=>
   have:=hn y (by simpa using hg);subst this;simp
theorem gO {α:Type} (get:je α) {st RQ:gu} {acc:List α} {n:Nat} (h:st.bind (fC get)=rn get n acc RQ) (he:n=0\/RQ=none):ez (fC get) st=RQ/\ie (fC get) st acc:=by
 rcases he with rfl | rfl
 ·rw [Da]at h
  refine⟨?_,fun y hy=>?_⟩
  ·unfold ez
   rw [h];cases RQ <;>rfl
  ·rw [h]at hy
   cases RQ with
   | none=>cases hy
   | some l=>injection hy with hy;rw [<- hy]
 ·rw [DO]at h
  refine⟨?_,fun y hy=>?_⟩
  ·unfold ez
   rw [h];rfl
  ·rw [h]at hy
   cases hy
def I3:Value ->Nat
 | .slice _ n _=>n
 | _=>0
theorem oQ:(prog.info? 27).map (fun i=>(i.zero,i.size,i.bytes))=some (some (.agg #[.int .i64 0, .int .i64 0, .int .i64 0, .slice none 0 0]),4,48):=by kernel_rfl
theorem lD (x:eS × Value):(qf x).length=4:=rfl
def I6 (L:List UInt8) (w:World) (e:Ending) (w':World):Prop:=
 Below w.heap.size w w'/\((∃l r v,lE L=some (l,r)/\e= .returned (.tuple #[v, .int .i64 ((L.length - r.length:Nat):Int), .int .i64 0])/\eZ 27 4 qf gZ w' w.heap.size v l)\/
  (∃err:Int,lE L=none/\err≠0/\(0 <=err/\err <=12)/\e= .returned (.tuple #[.slice none 0 0, .int .i64 0, .int .i64 err])))
def Ks (L:List UInt8) (w w':World) (v:Value) (acc:List eS) (deep at0:Int) (p q:List UInt8):Prop:=
 L=p++q/\at0=p.length/\lE L=kH (301 - acc.length) acc deep q/\acc.length <=300/\eZ 27 4 qf gZ w' w.heap.size v acc/\Below w.heap.size w w'/\0 <=deep/\deep <=acc.length
theorem zO {f:Nat} {acc:List eS} {deep:Int} {q:List UInt8} (h:gG q=none):kH f acc deep q=none:=by
 cases f with
 | zero=>rfl
 | succ f=>rw [kH,h];rfl
theorem kO {f:Nat} {acc:List eS} {deep:Int} {q:List UInt8} {x:eS} {r:List UInt8} (h:gG q=some (x,r)) (hd:¬ iw x.op deep < 0):kH (f+1) acc deep q=(if 300 < acc.length+1 then none else kH f (acc++[x]) (iw x.op deep) r):=by
 rw [kH,h];simp only [az];rw [aC hd]
theorem zq {f:Nat} {acc:List eS} {deep:Int} {q:List UInt8} {x:eS} {r:List UInt8} (h:gG q=some (x,r)) (hd:iw x.op deep < 0):kH (f+1) acc deep q=(if(fI acc).isSome then some (acc,r)else none):=by
 rw [kH,h];simp only [az];rw [aJ hd]
theorem z7 (b:Value) (L:List UInt8) (w:World) (hb:eW w b L) (hl:L.length <=1000000):Calls prog 277 #[b] w (I6 L w):=by
 obtain⟨a,cap,rfl,Mk,NZ,-⟩:=id hb;have HB:=V hb;unfold maxLen at NZ;clear hb;go_enter func277,ntmps277;go_wp2_with fail;refine eJ (fun a' w'=>∃(v:Value) (acc:List eS) (deep at0:Int) (p q:List UInt8),a'=fr (.slice a L.length cap::gs a' 1 4 (v:: .int .i64 deep:: .int .i64 at0::gs a' 8 47 []))/\Ks L w w' v acc deep at0 p q) (fun a' _=>(301 - I3 (a'.tmps.getD 5 undef))) ?_ ?_
 ·exact⟨_,[],0,0,[],L,rfl,rfl,rfl,rfl,by simp,eZ.nil _ _,an _ _,by omega,by simp⟩
 ·skip
  rintro R a' w1 ⟨v,acc,deep,at0,p,q,Lp,hJ⟩ HR;dsimp only [fr,gs]at Lp;generalize slot a'=f at Lp;subst Lp;obtain⟨hL,hat,hgo,PL,Lo,Ml,hd0,hd1⟩:=hJ;obtain⟨a2,Lu,OW,Mo⟩:=DD hL a cap;rw [<- hat]at OW;have hlp:0 <=at0/\at0 <=1000000:=by rw [hat];rw [hL,ah]at hl;omega
  have QJ:=Mo w1 (HB.out.below Ml);have hql:q.length <=1000000:=by rw [hL,ah]at hl;omega
  have HLE:=V hL;have HAT:=V hat;have HGO:=V hgo;have PS:=V Lo;clear hL hat hgo Mo Lo;go_wp2_with fail;refine(rr _ q w1 QJ hql).mono ?_;rintro e w2 ⟨Lr,L6⟩;clear OW QJ;rcases L6 with⟨x,r,u,hx,rfl,hu,hf⟩ | ⟨err,hx,Nm,her,rfl⟩;rotate_left
  ·have f1:=fw Nm
   have HN:=V (show lE L=none by rw [HGO.out];exact zO hx);have Ml:=Ml.trans (Lr.mono Ml.size);clear hx Lr;go_wp2_with fail
   go_ret3
   exact⟨Ml.alloc Ml.size _, .inr ⟨err,HN.out,Nm,her,rfl⟩⟩
  obtain⟨mid,hmid⟩:=o7 hx;have hlen:q.length - r.length=mid.length:=by rw [hmid];simp
  rw [hlen];have hml:(mid.length:Int)+at0 <=1000000:=by rw [HAT.out];have:=HLE.out;rw [this,hmid]at hl;simp only [ah]at hl;omega
  have HR2:Hid (L.length - r.length=p.length+mid.length):=V (by rw [HLE.out,hmid];simp only [ah];omega);have QY:Hid (L=(p++mid)++r):=V (by rw [HLE.out,hmid,aP]);obtain⟨op,xa,xb,xl⟩:=x;obtain⟨⟨au,Lx,rfl,-,-,-⟩,-⟩:=id hu;have HX:=V hx;have HU:=V (AO hu hf);obtain⟨m,hm⟩:∃m,acc.length=m:=⟨_,rfl⟩;clear hx hmid hlen hu hf;clear hm m;have hat64:at0+(mid.length:Int) <=1000000:=by omega
  have P5:=Ml.trans (Lr.mono Ml.size)
  go_upto_region 5 with fail
  have hw2W:Below w2.heap.size w2 (w2.alloc (.cells #[.int .i64 op, .int .i64 xa, .int .i64 xb, .slice au xl.length Lx] 27)):=(an _ _).alloc (ag _) _;have hw1W:=Lr.trans (hw2W.mono Lr.size);have Rs:=P5.trans (hw2W.mono P5.size);have hBW:=eP.new w2 #[.int .i64 op, .int .i64 xa, .int .i64 xb, .slice au xl.length Lx] 27;have c0:(w2.alloc (.cells #[.int .i64 op, .int .i64 xa, .int .i64 xb, .slice au xl.length Lx] 27)).cell? ⟨w2.heap.size,0,none⟩=some (.int .i64 op):=hBW.cell 0;have c1:(w2.alloc (.cells #[.int .i64 op, .int .i64 xa, .int .i64 xb, .slice au xl.length Lx] 27)).cell? ⟨w2.heap.size,1,none⟩=some (.int .i64 xa):=hBW.cell 1;have c2:(w2.alloc (.cells #[.int .i64 op, .int .i64 xa, .int .i64 xb, .slice au xl.length Lx] 27)).cell? ⟨w2.heap.size,2,none⟩=some (.int .i64 xb):=hBW.cell 2;have c3:(w2.alloc (.cells #[.int .i64 op, .int .i64 xa, .int .i64 xb, .slice au xl.length Lx] 27)).cell? ⟨w2.heap.size,3,none⟩=some (.slice au xl.length Lx):=hBW.cell 3;have hXW:=hBW.lt;clear hBW;have LH:=V hw2W;have Mn:=V hw1W;have h1W:=hw1W.size;clear hw2W hw1W;generalize w2.alloc (.cells #[.int .i64 op, .int .i64 xa, .int .i64 xb, .slice au xl.length Lx] 27)=W at c0 c1 c2 c3 LH Mn Rs h1W hXW⊢;by_cases Ph:op=11
  ·have f11:=eQ Ph
   by_cases qd:deep=0
   ·subst qd
    have HDP:Hid (iw op 0 < 0):=V (by rw [Ph];decide);clear Ph;have HOW2:=V (eZ.keeps (fun _ _ _ _ he h=>h.ext he) PS.out (ee.eh (S:=fun _=>False) Mn.out) (fun _ h=>h.elim));have PM:=V (gx.gh (S:=kX w.heap.size) (eZ.low lD (fun _ _ _ _ he h=>h.ext he) HOW2.out));go_wp2_with fail;refine(pW v acc _ PM.out).mono ?_;rintro e w3 ⟨Mf,hm3⟩;have hbl3:=Rs.trans (Mf.mono Rs.size);have HE3:=V (show lE L=(if(fI acc).isSome then some (acc,r)else none)by rw [HGO.out,show 301 - acc.length=(300 - acc.length)+1 from by omega,zq HX.out HDP.out]);have HOW3:=V (eZ.keeps (fun _ _ _ _ he h=>h.ext he) HOW2.out (ee.eh (S:=fun _=>False) Mf) (fun _ h=>h.elim));clear Mf Lr c0 c1 c2 c3;rcases hm3 with⟨bs,vb,Qo,rfl,-⟩ | ⟨Qo,rfl⟩
    ·have PI:=V (show lE L=some (acc,r)by rw [HE3.out,Qo];rfl)
     clear Qo;go_wp2_with fail
     go_ret3
     refine⟨hbl3, .inl ⟨acc,r,v,PI.out,?_,HOW3.out⟩⟩;rw [HR2.out];show Ending.returned (.tuple #[v, .int .i64 (at0+mid.length), .int .i64 0])=_;rw [HAT.out];rfl
    ·have PI:=V (show lE L=none by rw [HE3.out,Qo];rfl)
     clear Qo;go_wp2_with fail
     go_ret3
     exact⟨hbl3, .inr ⟨1,PI.out,by decide,by decide,rfl⟩⟩
   ·have hd':0 <=deep - 1:=by omega
    have HDP:Hid (iw op deep=deep - 1):=V (by unfold iw;rw [if_pos Ph]);clear Ph;have O5:=V (eZ.keeps (fun _ _ _ _ he h=>h.ext he) PS.out (ee.eh (S:=fun _=>False) Mn.out) (fun _ h=>h.elim));have HU4:=V (HU.out.ext (nN (P:=fun _=>False) (ee.eh LH.out) (fun _ h=>h.elim) (.inl (ag _))));obtain⟨us,u1,u2,u3⟩:=O5.out;have N2:(acc.zip us).length=acc.length:=by rw [bJ,u1,cd]
    obtain⟨av,cv,ev,_,MR,-⟩:=u2.fR lD;rw [N2]at ev;subst ev;unfold maxLen at MR;have HV:=V (show∀i,eH (.slice av acc.length cv) i ->i < w1.heap.size from fun i hi=>(eZ.lt PS.out hi).2);have U1:=V u1;have U3:=V u3;clear u1 u3;go_wp2_with (first | (at_builtin;refine fb W rfl _ _ 24 rfl _ 48 (by kernel_rfl) oQ rfl (by decide) (by decide) w.heap.size (.slice av acc.length cv) (acc.zip us) rfl u2 (⟨op,xa,xb,xl⟩, .slice au xl.length Lx) _ rfl rfl (by simp [qf,Value.oneCell']) rfl (by omega) (by exact Rs.size) ?_));intro v5 w5 MN OM QG;have HD5:=V (eZ.app (fun _ _ _ _ he h=>h.ext he) (w1:=w1) U1.out U3.out MN OM QG Ml.size HV.out HU4.out);have Mw:=Rs.trans (OM.below Rs.size (fun i hi=>(eE u2 hi).1));obtain⟨av5,cv5,ev5,_,hcv5,-⟩:=MN.fR lD;have hlz:(acc.zip us++[((⟨op,xa,xb,xl⟩:eS),Value.slice au xl.length Lx)]).length=acc.length+1:=by rw [ah,N2];rfl
    rw [hlz]at ev5;subst ev5;clear MN OM QG u2 N2 hlz O5 HU4 HV U1 U3;by_cases qm:acc.length+1 <=300
    ·have f300:decide ((300:Int) < ((acc.length+1:Nat):Int))=false:=aq (by omega)
     go_wp2_with fail;refine HR.out _ _ ⟨_,acc++[⟨op,xa,xb,xl⟩],(deep - 1),at0+mid.length,p++mid,r,rfl,QY.out,?_,?_,by rw [ah];exact qm,HD5.out,Mw,by omega,?_⟩ ?_
     ·rw [HAT.out,ah];rfl
     ·rw [HGO.out,show 301 - acc.length=(300 - acc.length)+1 from by omega,kO HX.out (by rw [HDP.out];omega),aC (by omega),HDP.out,ah]
      congr 1
      simp only [aB];omega
     ·rw [ah];simp only [aB];omega
     ·simp [I3]
      omega
    ·have f300:decide ((300:Int) < ((acc.length+1:Nat):Int))=true:=aA (by omega)
     have HN:=V (show lE L=none by rw [HGO.out,show 301 - acc.length=(300 - acc.length)+1 from by omega,kO HX.out (by rw [HDP.out];omega),aJ (by omega)]);go_wp2_with fail
     go_ret3
     exact⟨Mw, .inr ⟨4,HN.out,by decide,by decide,rfl⟩⟩
  have f11:=ed Ph;have HD0:=V (show iw op deep=if kJ op then deep+1 else deep by unfold iw;rw [if_neg Ph]);clear Ph;go_wp2_with fail;refine(pT op _).mono ?_;rintro e w3 ⟨rfl,Mf⟩;have LH:=V (LH.out.trans (Mf.mono LH.out.size));have Mn:=V (Mn.out.trans (Mf.mono Mn.out.size));have Rs:=Rs.trans (Mf.mono Rs.size);have h1W:=Mn.out.size;replace c0:=(Mf.cell hXW).trans c0;replace c1:=(Mf.cell hXW).trans c1;replace c2:=(Mf.cell hXW).trans c2;replace c3:=(Mf.cell hXW).trans c3;clear Mf;cases ho:kJ op with
  | true=>
   have hd':0 <=deep+1:=by omega
   have HDP:=V (show iw op deep=deep+1 by rw [HD0.out,ho];rfl);clear ho;have O5:=V (eZ.keeps (fun _ _ _ _ he h=>h.ext he) PS.out (ee.eh (S:=fun _=>False) Mn.out) (fun _ h=>h.elim));have HU4:=V (HU.out.ext (nN (P:=fun _=>False) (ee.eh LH.out) (fun _ h=>h.elim) (.inl (ag _))));obtain⟨us,u1,u2,u3⟩:=O5.out;have N2:(acc.zip us).length=acc.length:=by rw [bJ,u1,cd]
   obtain⟨av,cv,ev,_,MR,-⟩:=u2.fR lD;rw [N2]at ev;subst ev;unfold maxLen at MR;have HV:=V (show∀i,eH (.slice av acc.length cv) i ->i < w1.heap.size from fun i hi=>(eZ.lt PS.out hi).2);have U1:=V u1;have U3:=V u3;clear u1 u3;go_wp2_with (first | (at_builtin;refine fb w3 rfl _ _ 24 rfl _ 48 (by kernel_rfl) oQ rfl (by decide) (by decide) w.heap.size (.slice av acc.length cv) (acc.zip us) rfl u2 (⟨op,xa,xb,xl⟩, .slice au xl.length Lx) _ rfl rfl (by simp [qf,Value.oneCell']) rfl (by omega) (by exact Rs.size) ?_));intro v5 w5 MN OM QG;have HD5:=V (eZ.app (fun _ _ _ _ he h=>h.ext he) (w1:=w1) U1.out U3.out MN OM QG Ml.size HV.out HU4.out);have Mw:=Rs.trans (OM.below Rs.size (fun i hi=>(eE u2 hi).1));obtain⟨av5,cv5,ev5,_,hcv5,-⟩:=MN.fR lD;have hlz:(acc.zip us++[((⟨op,xa,xb,xl⟩:eS),Value.slice au xl.length Lx)]).length=acc.length+1:=by rw [ah,N2];rfl
   rw [hlz]at ev5;subst ev5;clear MN OM QG u2 N2 hlz O5 HU4 HV U1 U3;by_cases qm:acc.length+1 <=300
   ·have f300:decide ((300:Int) < ((acc.length+1:Nat):Int))=false:=aq (by omega)
    go_wp2_with fail;refine HR.out _ _ ⟨_,acc++[⟨op,xa,xb,xl⟩],(deep+1),at0+mid.length,p++mid,r,rfl,QY.out,?_,?_,by rw [ah];exact qm,HD5.out,Mw,by omega,?_⟩ ?_
    ·rw [HAT.out,ah];rfl
    ·rw [HGO.out,show 301 - acc.length=(300 - acc.length)+1 from by omega,kO HX.out (by rw [HDP.out];omega),aC (by omega),HDP.out,ah]
     congr 1
     simp only [aB];omega
    ·rw [ah];simp only [aB];omega
    ·simp [I3]
     omega
   ·have f300:decide ((300:Int) < ((acc.length+1:Nat):Int))=true:=aA (by omega)
    have HN:=V (show lE L=none by rw [HGO.out,show 301 - acc.length=(300 - acc.length)+1 from by omega,kO HX.out (by rw [HDP.out];omega),aJ (by omega)]);go_wp2_with fail
    go_ret3
    exact⟨Mw, .inr ⟨4,HN.out,by decide,by decide,rfl⟩⟩
  | false=>
   have HDP:=V (show iw op deep=deep by rw [HD0.out,ho];rfl);clear ho;have O5:=V (eZ.keeps (fun _ _ _ _ he h=>h.ext he) PS.out (ee.eh (S:=fun _=>False) Mn.out) (fun _ h=>h.elim));have HU4:=V (HU.out.ext (nN (P:=fun _=>False) (ee.eh LH.out) (fun _ h=>h.elim) (.inl (ag _))));obtain⟨us,u1,u2,u3⟩:=O5.out;have N2:(acc.zip us).length=acc.length:=by rw [bJ,u1,cd]
   obtain⟨av,cv,ev,_,MR,-⟩:=u2.fR lD;rw [N2]at ev;subst ev;unfold maxLen at MR;have HV:=V (show∀i,eH (.slice av acc.length cv) i ->i < w1.heap.size from fun i hi=>(eZ.lt PS.out hi).2);have U1:=V u1;have U3:=V u3;clear u1 u3;go_wp2_with (first | (at_builtin;refine fb w3 rfl _ _ 24 rfl _ 48 (by kernel_rfl) oQ rfl (by decide) (by decide) w.heap.size (.slice av acc.length cv) (acc.zip us) rfl u2 (⟨op,xa,xb,xl⟩, .slice au xl.length Lx) _ rfl rfl (by simp [qf,Value.oneCell']) rfl (by omega) (by exact Rs.size) ?_));intro v5 w5 MN OM QG;have HD5:=V (eZ.app (fun _ _ _ _ he h=>h.ext he) (w1:=w1) U1.out U3.out MN OM QG Ml.size HV.out HU4.out);have Mw:=Rs.trans (OM.below Rs.size (fun i hi=>(eE u2 hi).1));obtain⟨av5,cv5,ev5,_,hcv5,-⟩:=MN.fR lD;have hlz:(acc.zip us++[((⟨op,xa,xb,xl⟩:eS),Value.slice au xl.length Lx)]).length=acc.length+1:=by rw [ah,N2];rfl
   rw [hlz]at ev5;subst ev5;clear MN OM QG u2 N2 hlz O5 HU4 HV U1 U3;by_cases qm:acc.length+1 <=300
   ·have f300:decide ((300:Int) < ((acc.length+1:Nat):Int))=false:=aq (by omega)
    go_wp2_with fail;refine HR.out _ _ ⟨_,acc++[⟨op,xa,xb,xl⟩],deep,at0+mid.length,p++mid,r,rfl,QY.out,?_,?_,by rw [ah];exact qm,HD5.out,Mw,by omega,?_⟩ ?_
    ·rw [HAT.out,ah];rfl
    ·rw [HGO.out,show 301 - acc.length=(300 - acc.length)+1 from by omega,kO HX.out (by rw [HDP.out];omega),aC (by omega),HDP.out,ah]
     congr 1
     simp only [aB];omega
    ·rw [ah];simp only [aB];omega
    ·simp [I3]
     omega
   ·have f300:decide ((300:Int) < ((acc.length+1:Nat):Int))=true:=aA (by omega)
    have HN:=V (show lE L=none by rw [HGO.out,show 301 - acc.length=(300 - acc.length)+1 from by omega,kO HX.out (by rw [HDP.out];omega),aJ (by omega)]);go_wp2_with fail
    go_ret3
    exact⟨Mw, .inr ⟨4,HN.out,by decide,by decide,rfl⟩⟩
theorem zK (x:jt):(tf x).length=3:=rfl
theorem Aa (x:gf):(yd x).length=3:=rfl
theorem za (x:jg):(td x).length=3:=rfl
theorem zC (x:iO):(rz x).length=2:=rfl
theorem vw (x:gN × Value × Value):(r9 x).length=2:=rfl
theorem vx (x:gS × Value × Value):(su x).length=2:=rfl
theorem uU (x:jb × Value):(uM x).length=2:=rfl
theorem rR (x:gD × Value):(qs x).length=2:=rfl
theorem CV (x:Int):∀u∈fp x,u.oneCell'=true:=by simp [fp,Value.oneCell']
theorem Kt (x:jt):∀u∈tf x,u.oneCell'=true:=by simp [tf,Value.oneCell']
theorem Ku (x:gf):∀u∈yd x,u.oneCell'=true:=by simp [yd,Value.oneCell']
theorem KB (x:jg):∀u∈td x,u.oneCell'=true:=by simp [td,Value.oneCell']
theorem JU (x:iO):∀u∈rz x,u.oneCell'=true:=by simp [rz,Value.oneCell']
theorem Fj:(prog.info? 118).map (fun i=>(i.zero,i.size,i.bytes))=some (some (.agg #[.string (bs []), .string (bs []), .int .i64 0]),3,40):=by kernel_rfl
theorem Et:(prog.info? 55).map (fun i=>(i.zero,i.size,i.bytes))=some (some (.agg #[.bool false, .int .i64 0, .int .i64 0]),3,24):=by kernel_rfl
theorem Dl:(prog.info? 120).map (fun i=>(i.zero,i.size,i.bytes))=some (some (.agg #[.bool false, .int .i64 0, .int .i64 0]),3,24):=by kernel_rfl
theorem AA:(prog.info? 111).map (fun i=>(i.zero,i.size,i.bytes))=some (some (.agg #[.string (bs []), .int .i64 0]),2,24):=by kernel_rfl
theorem Dg:(prog.info? 109).map (fun i=>(i.zero,i.size,i.bytes))=some (some (.agg #[.slice none 0 0, .slice none 0 0]),2,48):=by kernel_rfl
theorem D8:(prog.info? 69).map (fun i=>(i.zero,i.size,i.bytes))=some (some (.agg #[.slice none 0 0, .slice none 0 0]),2,48):=by kernel_rfl
theorem Dh:(prog.info? 95).map (fun i=>(i.zero,i.size,i.bytes))=some (some (.agg #[.int .i64 0, .slice none 0 0]),2,32):=by kernel_rfl
theorem DJ:(prog.info? 99).map (fun i=>(i.zero,i.size,i.bytes))=some (some (.agg #[.int .i64 0, .slice none 0 0]),2,32):=by kernel_rfl
def Ez {α:Type} (val:α ->Value) (w0:World) (Y:Nat) (get:je α) (P:α ->Prop) (s:gu) (w1:World) (e:Ending) (w2:World):Prop:=
 ∃x:α,e= .returned (val x)/\P x/\ie get s x/\fD w0 w2 Y (ez get s)/\ee (fun k=>k=Y) w1 w2
def Jf {α β:Type} (val:α ->β ->Value) (inner:World ->α ->β ->Prop) (w0:World) (Y:Nat) (get:je α) (P:α ->Prop) (s:gu) (w1:World) (e:Ending) (w2:World):Prop:=
 ∃(x:α) (u:β),e= .returned (val x u)/\inner (mask (kX w1.heap.size) w2) x u/\P x/\ie get s x/\fD w0 w2 Y (ez get s)/\ee (fun k=>k=Y) w1 w2
def Kl {α:Type} (t:TypeId) (k:Nat) (enc:α ->List Value) (w0:World) (Y:Nat) (get:je α) (P:α ->Prop) (st:gu) (w:World) (e:Ending) (w':World):Prop:=
 ∃(v:Value) (l:List α),e= .returned v/\ea t k enc w' w.heap.size v l/\(∀x∈l,P x)/\l.length <=8001/\ie (fC get) st l/\fD w0 w' Y (ez (fC get) st)/\ee (fun k=>k=Y) w w'
def KI {α β:Type} (t:TypeId) (k:Nat) (enc:α × β ->List Value) (inner:World ->α ->β ->Prop) (w0:World) (Y:Nat) (get:je α) (P:α ->Prop) (st:gu) (w:World) (e:Ending) (w':World):Prop:=
 ∃(v:Value) (l:List α),e= .returned v/\eZ t k enc inner w' w.heap.size v l/\(∀x∈l,P x)/\l.length <=8001/\ie (fC get) st l/\fD w0 w' Y (ez (fC get) st)/\ee (fun k=>k=Y) w w'
def Iw {α:Type} (w0:World) (Y:Nat) (get:je α) (P:α ->Prop) (st:gu) (w w':World) (acc:List α) (n:Nat) (s:gu):Prop:=
 st.bind (fC get)=rn get n acc s/\(∀x∈acc,P x)/\acc.length+s.len <=8001/\fD w0 w' Y s/\ee (fun k=>k=Y) w w'/\n < 4294967296
theorem oq (w0:World) (Y:Nat) (get:je (Int)) (P:Int ->Prop) (hG:iZ get) (st:gu) (w:World) (Lq:Nat) (bs cs:Array Value)
  (hE:∀args w,(callFunc Lq args).run prog w= .ok (.enter Lq args) w) (h:fD w0 w Y st)
  (hp:∀s w1,fD w0 w1 Y s ->ee (fun k=>k=Y) w w1 ->Calls prog Lq (bs++cs) w1 (Ez (fun x:Int=> .int .i64 x) w0 Y get P s w1)):
  Calls prog 213 #[.pointer (some ⟨Y,0,none⟩), .func (.func Lq) bs cs] w (Kl 3 1 fp w0 Y get P st w):=by
 have HP:=V hp;have HH:=V h;have hR:=h.lt;have HG:=V hG;clear hp h hG;go_enter func213,ntmps213;go_wp2_with fail;refine(im w0 w Y st HH.out).mono ?_;rintro e w1 ⟨rfl,h1,MA⟩;have Nn:=V (ky get st _ (iQ st));have hn:=iU st;have hlen:=h1.len;obtain⟨N,eN⟩:∃N,iX st=N:=⟨_,rfl⟩;rw [eN]at hn Nn⊢;clear eN;go_wp2_with fail;refine eJ (fun a' w'=>∃(v:Value) (acc:List (Int)) (n:Nat) (s:gu),a'=fr (.pointer (some ⟨Y,0,none⟩):: .func (.func Lq) bs cs::gs a' 2 3 (v:: .int .i64 n::gs a' 7 19 []))/\ea 3 1 fp w' w.heap.size v acc/\Iw w0 Y get P st w w' acc n s) (fun a' _=>(intOf (a'.tmps.getD 6 undef)).toNat) ?_ ?_
 ·exact⟨_,[],N,ez gq st,rfl,ea.nil _ _,Nn.out,by simp,by simpa using hlen,h1,MA,hn⟩
 ·clear h1 MA hn hlen Nn HH
  rintro R a' w1 ⟨v,acc,n,s,Lp,hJ⟩ HR;dsimp only [fr,gs]at Lp;generalize slot a'=f at Lp;subst Lp;obtain⟨ho,Mv,LM,hlen,Mo,hk,hn⟩:=hJ;have L4:=V Mo;have LX:=V Mv;have LJ:=V LM;have NS:=V hR;have Mr:=hk.size;have c1:=Mo.bad;have HO:=V ho;have Mp:∀i,eH v i ->¬ i=Y:=fun i hi=>by have:=(eE ho hi).1;omega
  have QX:=V Mp;have HK:=V hk;clear ho Mp Mv LM Mo hk;rcases aY n with MZ | MZ
  ·obtain⟨g1,g2⟩:=gO get LX.out (.inl MZ)
   have G1:=V g1;have G2:=V g2;subst MZ;clear g1 g2;go_wp2_with fail;go_ret;exact⟨_,acc,rfl,HO.out,LJ.out,by omega,G2.out,by rw [G1.out];exact L4.out,HK.out⟩
  have f0:decide ((0:Int) < (n:Int))=true:=aA (by omega);cases s with
  | none=>
   have c1:w1.cell? ⟨Y,1,none⟩=some (.bool true):=c1;obtain⟨g1,g2⟩:=gO get LX.out (.inr rfl);have G1:=V g1;have G2:=V g2;clear g1 g2;go_wp2_with fail;go_ret;exact⟨_,acc,rfl,HO.out,LJ.out,by omega,G2.out,by rw [G1.out];exact L4.out,HK.out⟩
  | some lb=>
   have c1:w1.cell? ⟨Y,1,none⟩=some (.bool false):=c1;obtain⟨n',rfl⟩:∃n',n=n'+1:=⟨n - 1,by omega⟩;have Lw:=HG.out.len lb;have PL:acc.length <=8001:=by omega
   have Ns:=V (show acc.length+1+(ez get (some lb)).len <=8001 by omega);clear Lw hlen;go_wp2_with fail;refine(HP.out (some lb) w1 L4.out HK.out).mono ?_;rintro e w2 ⟨x,rfl,O6,O7,h2,Lv⟩;have Mq:=V (ea.keeps HO.out Lv QX.out);obtain⟨av,cv,ev,_,MR,-⟩:=Mq.out.fR fH;subst ev;unfold maxLen at MR;have MG:=V h2;have Qf:=V O6;have MX:=V (LX.out.trans (jJ get n' acc O7));have MI:=V (HK.out.trans Lv (fun _ h=> .inl h));have Pe:=V (show w.heap.size <=w1.heap.size from HK.out.size);have Nx:=V (show w.heap.size <=w2.heap.size from MI.out.size);clear O6 O7 h2 Lv c1;go_wp2_with (first | (at_builtin;refine fb w2 rfl _ _ 25 rfl _ 8 (by kernel_rfl) jT rfl (by decide) (by decide) w.heap.size (.slice av acc.length cv) acc rfl Mq.out x _ rfl rfl (CV x) rfl (by omega) Nx.out ?_));intro v3 w3 MB L5 M0;have NP:=V MB;have L7:∀i,eH (.slice av acc.length cv) i ->w.heap.size <=i/\i < w2.heap.size:=fun i hi=>eE Mq.out hi;have ND:=V (MG.out.keeps L5 (fun h=>by have:=(L7 _ h).1;have:=NS.out;omega) (fun i hi=>by have:=(L7 i hi).1;have:=MG.out.old.2;have:=NS.out;omega));have PT:=V (MI.out.trans L5 (fun i hi=> .inr (L7 i hi).1));clear MB L5 M0 L7;go_wp2_with fail;refine HR.out _ _ ⟨_,acc++[x],n',ez get (some lb),rfl,NP.out,MX.out,?_,?_,ND.out,PT.out,by omega⟩ ?_
   ·intro y hy
    rcases aZ.1 hy with h | h
    ·exact LJ.out y h
    ·obtain rfl:=aQ.1 h
     exact Qf.out
   ·rw [ah]
    exact Ns.out
   ·simp [intOf]
theorem Is (w0:World) (Y:Nat) (get:je (jt)) (P:jt ->Prop) (hG:iZ get) (st:gu) (w:World) (Lq:Nat) (bs cs:Array Value)
  (hE:∀args w,(callFunc Lq args).run prog w= .ok (.enter Lq args) w) (h:fD w0 w Y st)
  (hp:∀s w1,fD w0 w1 Y s ->ee (fun k=>k=Y) w w1 ->Calls prog Lq (bs++cs) w1 (Ez (fun x:jt=> .agg #[.string x.mod, .string x.name, .int .i64 x.type]) w0 Y get P s w1)):
  Calls prog 211 #[.pointer (some ⟨Y,0,none⟩), .func (.func Lq) bs cs] w (Kl 118 3 tf w0 Y get P st w):=by
 have HP:=V hp;have HH:=V h;have hR:=h.lt;have HG:=V hG;clear hp h hG;go_enter func211,ntmps211;go_wp2_with fail;refine(im w0 w Y st HH.out).mono ?_;rintro e w1 ⟨rfl,h1,MA⟩;have Nn:=V (ky get st _ (iQ st));have hn:=iU st;have hlen:=h1.len;obtain⟨N,eN⟩:∃N,iX st=N:=⟨_,rfl⟩;rw [eN]at hn Nn⊢;clear eN;go_wp2_with fail;refine eJ (fun a' w'=>∃(v:Value) (acc:List (jt)) (n:Nat) (s:gu),a'=fr (.pointer (some ⟨Y,0,none⟩):: .func (.func Lq) bs cs::gs a' 2 3 (v:: .int .i64 n::gs a' 7 19 []))/\ea 118 3 tf w' w.heap.size v acc/\Iw w0 Y get P st w w' acc n s) (fun a' _=>(intOf (a'.tmps.getD 6 undef)).toNat) ?_ ?_
 ·exact⟨_,[],N,ez gq st,rfl,ea.nil _ _,Nn.out,by simp,by simpa using hlen,h1,MA,hn⟩
 ·clear h1 MA hn hlen Nn HH
  rintro R a' w1 ⟨v,acc,n,s,Lp,hJ⟩ HR;dsimp only [fr,gs]at Lp;generalize slot a'=f at Lp;subst Lp;obtain⟨ho,Mv,LM,hlen,Mo,hk,hn⟩:=hJ;have L4:=V Mo;have LX:=V Mv;have LJ:=V LM;have NS:=V hR;have Mr:=hk.size;have c1:=Mo.bad;have HO:=V ho;have Mp:∀i,eH v i ->¬ i=Y:=fun i hi=>by have:=(eE ho hi).1;omega
  have QX:=V Mp;have HK:=V hk;clear ho Mp Mv LM Mo hk;rcases aY n with MZ | MZ
  ·obtain⟨g1,g2⟩:=gO get LX.out (.inl MZ)
   have G1:=V g1;have G2:=V g2;subst MZ;clear g1 g2;go_wp2_with fail;go_ret;exact⟨_,acc,rfl,HO.out,LJ.out,by omega,G2.out,by rw [G1.out];exact L4.out,HK.out⟩
  have f0:decide ((0:Int) < (n:Int))=true:=aA (by omega);cases s with
  | none=>
   have c1:w1.cell? ⟨Y,1,none⟩=some (.bool true):=c1;obtain⟨g1,g2⟩:=gO get LX.out (.inr rfl);have G1:=V g1;have G2:=V g2;clear g1 g2;go_wp2_with fail;go_ret;exact⟨_,acc,rfl,HO.out,LJ.out,by omega,G2.out,by rw [G1.out];exact L4.out,HK.out⟩
  | some lb=>
   have c1:w1.cell? ⟨Y,1,none⟩=some (.bool false):=c1;obtain⟨n',rfl⟩:∃n',n=n'+1:=⟨n - 1,by omega⟩;have Lw:=HG.out.len lb;have PL:acc.length <=8001:=by omega
   have Ns:=V (show acc.length+1+(ez get (some lb)).len <=8001 by omega);clear Lw hlen;go_wp2_with fail;refine(HP.out (some lb) w1 L4.out HK.out).mono ?_;rintro e w2 ⟨x,rfl,O6,O7,h2,Lv⟩;have Mq:=V (ea.keeps HO.out Lv QX.out);obtain⟨av,cv,ev,_,MR,-⟩:=Mq.out.fR zK;subst ev;unfold maxLen at MR;have MG:=V h2;have Qf:=V O6;have MX:=V (LX.out.trans (jJ get n' acc O7));have MI:=V (HK.out.trans Lv (fun _ h=> .inl h));have Pe:=V (show w.heap.size <=w1.heap.size from HK.out.size);have Nx:=V (show w.heap.size <=w2.heap.size from MI.out.size);clear O6 O7 h2 Lv c1;go_wp2_with (first | (at_builtin;refine fb w2 rfl _ _ 53 rfl _ 40 (by kernel_rfl) Fj rfl (by decide) (by decide) w.heap.size (.slice av acc.length cv) acc rfl Mq.out x _ rfl rfl (Kt x) rfl (by omega) Nx.out ?_));intro v3 w3 MB L5 M0;have NP:=V MB;have L7:∀i,eH (.slice av acc.length cv) i ->w.heap.size <=i/\i < w2.heap.size:=fun i hi=>eE Mq.out hi;have ND:=V (MG.out.keeps L5 (fun h=>by have:=(L7 _ h).1;have:=NS.out;omega) (fun i hi=>by have:=(L7 i hi).1;have:=MG.out.old.2;have:=NS.out;omega));have PT:=V (MI.out.trans L5 (fun i hi=> .inr (L7 i hi).1));clear MB L5 M0 L7;go_wp2_with fail;refine HR.out _ _ ⟨_,acc++[x],n',ez get (some lb),rfl,NP.out,MX.out,?_,?_,ND.out,PT.out,by omega⟩ ?_
   ·intro y hy
    rcases aZ.1 hy with h | h
    ·exact LJ.out y h
    ·obtain rfl:=aQ.1 h
     exact Qf.out
   ·rw [ah]
    exact Ns.out
   ·simp [intOf]
theorem xp:(prog.info? 25).map (fun i=>(i.zero,i.size,i.bytes))=some (some (.slice none 0 0),1,24):=by kernel_rfl
theorem ED {w:World} {B:Nat} {v:Value} {us P0:List Value} (h:ea 25 1 rN w B v us) (h':ea 25 1 rN w B v P0):us=P0:=by
 have hf:∀l:List Value,l.flatMap rN=l:=fun l=>by
  induction l with
  | nil=>rfl
  | cons x l ih=>rw [bS,ih];rfl
 obtain⟨_,hv | ⟨g,cap,cur,hv,hb,hg,hn,hm,hs,ht⟩⟩:=h
 ·obtain⟨_,Qj | ⟨g',LO,cur',Qj,_⟩⟩:=h'
  ·rw [aH hv.2,aH Qj.2]
  ·rw [hv.1]at Qj
   cases Qj
 ·obtain⟨_,Qj | ⟨g',LO,cur',Qj,_,RU,_,_,_,ht'⟩⟩:=h'
  ·rw [Qj.1]at hv
   cases hv
  ·rw [hv]at Qj
   injection Qj with e1 e2 e3;injection e1 with e1;injection e1 with e1;subst e1;rw [hg]at RU;injection RU with RU;injection RU with RU;rw [e2,RU,ht']at ht;rw [hf,hf]at ht;exact ht.symm
theorem iL.rows {w:World} {B:Nat} {v:Value} {rs:List (Nat × Int)} (h:iL w B v rs):∃us,ea 25 1 rN w B v us/\us.length=rs.length/\
  ∀O0 MS ul n k',rs=O0++[(n,k')] ->MS.length=O0.length ->ea 25 1 rN w B v (MS++[ul]) ->us=MS++[ul]:=by
 rcases h with⟨rfl,rfl⟩ | ⟨O0,MS,ul,n,k,rfl,h2,h3,h4,h5,h6⟩
 ·exact⟨[],ea.nil _ _,rfl,fun O0 MS ul n k' he=>by simp at he⟩
 ·exact⟨MS++[ul],h3,by simp [h2],fun _ _ _ _ _ _ _ h=>ED h3 h⟩
theorem iL.last {w:World} {B:Nat} {v:Value} {O0:List (Nat × Int)} {n:Nat} {k:Int} (h:iL w B v (O0++[(n,k)])):
  ∃(MS:List Value) (ul:Value),MS.length=O0.length/\ea 25 1 rN w B v (MS++[ul])/\
  ea 3 1 fp w B ul (List.replicate n k)/\1 <=n/\∀(i:Nat) (x:Nat × Int) (u:Value),O0[i]?=some x ->MS[i]?=some u ->mV (mask (Ay B v ul) w) x u:=by
 rcases h with⟨h,_⟩ | ⟨rs1,MS,ul,n1,k1,he,h2,h3,h4,h5,h6⟩
 ·simp at h
 ·obtain⟨e1,e2⟩:=dz he rfl
  simp only [List.cons.injEq,Prod.mk.injEq,and_true]at e2;obtain⟨rfl,rfl⟩:=e2;subst e1;exact⟨MS,ul,h2,h3,h4,h5,h6⟩
theorem ea.free {α:Type} {t:TypeId} {k:Nat} {enc:α ->List Value} {w:World} {B g n cap:Nat} {l:List α} (h:ea t k enc w B (.slice (some ⟨g,0,none⟩) n cap) l) (i:Nat):w.frozen? ⟨g,i,none⟩=false:=by
 obtain⟨_,hv | ⟨g',LO,cur,hv,hb,hg,hn,hm,hs,ht⟩⟩:=h
 ·cases hv.1
 ·injection hv with e1
  injection e1 with e1;injection e1 with e1;subst e1;exact dd w g i cur _ hg
def K0 (ls:List Int) (wA w':World) (v:Value) (k:Nat):Prop:=k <=ls.length/\Below wA.heap.size wA w'/\iL w' wA.heap.size v (gL (ls.take k))
theorem Hs (w0:World) (e:gS) (u:Value × Value) (hu:gU w0 e u) (hm:e.may) (b:Value) (xs:List UInt8) (w:World) (B:Nat) (Lo:eg w B b xs) (hn:xs.length <=100000000) (hB:B <=w.heap.size) (h0:Src w0 w B):
  Calls prog 191 #[b, .agg #[u.1,u.2]] w (fE xs (iE e) B b w):=by
 obtain⟨u1,u2⟩:=u;have HU:=V hu;obtain⟨⟨⟨a1,LF,Nk,hca1,hca2,Ln⟩,Mg⟩,-⟩:=id hu;obtain⟨a2,Lu,Nw,-,-⟩:=et.slice Mg;have ME:=V Mg.Kv;simp only at Nk Nw;subst Nk Nw;have HCL:=V Ln;have Pf:e.locals.length <=32:=hm.2.1.1;have HM:=V hm;have HO:=V Lo;have H0:=V h0;have h0B:=h0.2;have HA:=V (eP.new w #[.slice a1 e.locals.length LF, .slice a2 e.body.length Lu] 69);have Sa:=V ((an w.heap.size w).alloc (ag _) (.cells #[.slice a1 e.locals.length LF, .slice a2 e.body.length Lu] 69));clear Ln Mg hu hm Lo h0;go_enter func191,ntmps191;go_wp2_with fail;obtain⟨X,hX⟩:∃X,X=w.heap.size:=⟨_,rfl⟩;rw [<- hX]at HA⊢;have hX1:=dA hX;have hX2:=dA hX.symm;clear hX;generalize w.alloc (.cells #[.slice a1 e.locals.length LF, .slice a2 e.body.length Lu] 69)=wA at HA Sa⊢;have hXA:X < wA.heap.size:=HA.out.lt;refine eJ (fun a' w'=>∃(v:Value) (k:Nat),a'=fr (b::gs a' 1 2 (.pointer (some ⟨X,0,none⟩)::gs a' 4 1 (v::gs a' 6 4 (.slice a1 e.locals.length LF:: .int .i64 e.locals.length:: .int .i64 k::gs a' 13 48 []))))/\K0 e.locals wA w' v k) (fun a' _=>(e.locals.length - (intOf (a'.tmps.getD 12 undef)).toNat)) ?_ ?_
 ·exact⟨_,0,rfl,by omega,an _ _, .inl ⟨rfl,rfl⟩⟩
 ·skip
  rintro R a' w1 ⟨v,k,Lp,hJ⟩ HR;dsimp only [fr,gs]at Lp;generalize slot a'=f at Lp;subst Lp;obtain⟨hk,Qv,hrn⟩:=hJ;have L9:=V Qv;have HRN:=V hrn;have HX1:=V (HA.out.below Qv hXA);have x0:w1.cell? ⟨X,0,none⟩=some (.slice a1 e.locals.length LF):=HX1.out.cell 0;clear Qv hrn;by_cases q:k < e.locals.length;rotate_left
  ·obtain rfl:k=e.locals.length:=by omega
   have hl:=vC Pf;have HD:=V (show et 1 JD mV w1 v (gL e.locals)by have:=HRN.out.deep;rwa [aV]at this);obtain⟨av,cv,rfl,-,MR⟩:=et.slice HD.out;have Qg:=L9.out.size;go_wp2_with fail;refine(FV w1 xK 1000 (.slice none 0 0) [] _ (gL e.locals) w1.heap.size w1 265 (fun args w=>by rfl) HD.out (eg.nil _ _) (ag _) ⟨an _ _,ag _⟩ (by rw [kD]at hl;simp only [aL];omega) (by omega) ?_).mono ?_
   ·intro e1 Nk u hu b xs w ho hx hB hs
    exact Iu w1 e1 u hu b xs w _ ho (by omega) hB hs (by have:=(re _ _ Nk).2;omega)
   rintro x w2 ⟨v2,rfl,LL,Lv,LB⟩;have Lr:Below w1.heap.size w1 w2:=jH Lv rfl;have LS:=V Lr;have Mq:=V (show eg w2 w1.heap.size v2 (kD e.locals)by simpa [kD] using LL);have x1:w2.cell? ⟨X,1,none⟩=some (.slice a2 e.body.length Lu):=(HX1.out.below Lr HX1.out.lt).cell 1;have OU:=Lr.size;have HBW2:=V (Sa.out.trans (L9.out.mono Sa.out.size));have LZ:=V (show Src w0 w2 w1.heap.size from⟨H0.out.1.trans ((HBW2.out.mono H0.out.1.size).trans (Lr.mono (by have:=H0.out.1.size;have:=HBW2.out.size;omega))),by have:=H0.out.1.size;have:=HBW2.out.size;omega⟩);clear Lv LB LL Lr x0;go_wp2_with fail;refine(Ad w0 v2 _ _ e.body w1.heap.size w2 Mq.out (by omega) OU HU.out.1.2 LZ.out HM.out.2.2.1 HM.out.2.2.2).mono ?_;rintro x w3 ⟨v3,rfl,MB,L5,M0⟩;have hlen3:(kD e.locals++mT e.body).length <=1000000:=by
    have h1:=rU (l:=e.body) HM.out.2.2.2 ME.out;have h2:=HM.out.2.2.1;have h3:530*e.body.length <=530*300:=dQ _ h2;simp only [mT,ah,aB];omega
   have Q7:Hid (Below w1.heap.size w1 w3):=V (LS.out.trans (L5.below OU (fun i hi=>(eE Mq.out hi).1)));obtain⟨L,hL⟩:∃L,L=kD e.locals++mT e.body:=⟨_,rfl⟩;rw [<- hL]at MB hlen3;have HL:=V hL;have NP:=V MB;have OV:=Q7.out.size;have hsz0:=HBW2.out.size;have hb03:Below w.heap.size w w3:=HBW2.out.trans (Q7.out.mono hsz0);have Ni:=V ((Wr.refl HO.out).below hb03);have HIB:=V (eg.fF MB);obtain⟨a3,M7,rfl,-,-,-⟩:=eg.fF MB;clear hL L5 M0 MB x1 hb03;go_wp2_with fail;refine(fU b xs L.length (by omega) B w3 Ni.out.1 (by omega) (Ni.out.base hB)).mono ?_;rintro x w4 ⟨v4,rfl,Nb,Pb,Nr⟩;have My:=V (Ni.out.step ⟨Nb,Pb,Nr⟩);have NR:=V (eg.fF (eg.keeps NP.out Pb (fun i hi hj=>by have:=(eE NP.out hi).1;have:=(eE HO.out hj).2;omega)));have hp:=(eO L.length).2;clear Pb Nr Nb;go_wp2_with (first | (at_builtin;refine fZ w4 rfl _ _ rfl rfl B v4 _ rfl My.out.1 _ _ rfl NR.out (by simp only [ah];omega) (My.out.base hB) ?_));intro v5 w5 ho5 OM QG;have OZ:=V (My.out.step ⟨ho5,OM,QG⟩);clear ho5 OM QG;go_wp2_with fail;go_ret;exact⟨_,rfl,by
    have h:=OZ.out;rw [HL.out]at h;show Wr _ _ _ _ _ _;simpa [iE,mB] using h⟩
  obtain⟨x,hx⟩:∃x,e.locals[k]?=some x:=⟨_,aw q⟩;obtain⟨bb,off,rfl,Lw,LN⟩:=HCL.out k x hx;have hb01:Below w0.heap.size w0 w1:=H0.out.1.trans ((Sa.out.trans (L9.out.mono Sa.out.size)).mono H0.out.1.size);have c0:=(hb01.cell Lw).trans (LN 0 _ rfl);rw [aK,bq]at c0;have HX:=V hx;clear LN Lw hx hb01;by_cases q0:k=0
  ·have f1:decide (0 < k)=false:=aq (by omega)
   have HSN:Hid (lg (gL (e.locals.take k)) x=gL (e.locals.take k)++[(1,x)]):=V (by subst q0;rfl);clear q0;obtain⟨us,hus,Pr,huq⟩:=HRN.out.rows;have N2:us.length <=32:=by
    have:=px (e.locals.take (k));rw [aS]at this;omega
   have HUS:=V hus;have HUQ:=V huq;have HUL:=V Pr;obtain⟨av,cv,rfl,-,MR⟩:=hus.slice;have Qg:=L9.out.size;clear hus huq Pr;go_wp2_with (first | (at_builtin;refine fb (w1.alloc (.cells #[.int .i64 x] 3)) rfl _ _ 318 rfl _ 24 (by kernel_rfl) xp rfl (by decide) (by decide) wA.heap.size (.slice av us.length cv) us rfl (HUS.out.below ((an _ _).alloc (ag _) _)) (.slice (some ⟨w1.heap.size,0,none⟩) 1 1) _ rfl rfl (by simp [rN,Value.oneCell']) (by rw [aE];rfl) (by omega) (by rw [aE];omega) ?_));intro v' w2 ho Lv LB;have hs2':eM w1 (.slice av us.length cv) v':=fun i hi=>(LB i hi).imp id (fun g=>by rw [aE]at g;omega);have HN:=V (iL.new HRN.out HUS.out HUL.out ho Lv hs2' Qg HUQ.out);have HBN:Hid (Below wA.heap.size wA w2):=V ((L9.out.alloc Qg _).trans (Lv.below (by rw [aE];omega) (fun i hi=>(eE HUS.out hi).1)));clear ho Lv LB hs2';go_wp2_with fail;refine HR.out _ _ ⟨_,k+1,rfl,by omega,HBN.out,?_⟩ ?_
   ·rw [aR,HX.out]
    show iL _ _ _ (gL (e.locals.take (k)++[x]));rw [nG,HSN.out];exact HN.out
   ·simp [intOf]
    omega
  obtain⟨j,rfl⟩:∃j,k=j+1:=⟨k - 1,by omega⟩;obtain⟨y,hy⟩:∃y,e.locals[j]?=some y:=⟨_,aw (by omega)⟩;obtain⟨bb',off',heq,Lw,LN⟩:=HCL.out j y hy;injection heq with heq;injection heq with e1 e2;subst e1 e2;have hb01:Below w0.heap.size w0 w1:=H0.out.1.trans ((Sa.out.trans (L9.out.mono Sa.out.size)).mono H0.out.1.size);have cy:=(hb01.cell Lw).trans (LN 0 _ rfl);rw [aK,bq]at cy;clear LN Lw hb01;have f1:decide ((0:Int) < (j:Int)+1)=true:=aA (by omega);obtain⟨rs,n,k',P3,OA,Rh⟩:=wL (e.locals.take (j+1)) (by
   intro h;have:=cX List.length h;rw [aS]at this;simp only [aL]at this;omega)
  have hky:k'=y:=by
   rw [aR,hy]at OA;simpa using OA.symm
  subst hky;by_cases q1:k'=x;rotate_left
  ·have f2:(k'==x)=false:=ed q1
   have HSN:Hid (lg (gL (e.locals.take (j+1))) x=gL (e.locals.take (j+1))++[(1,x)]):=V (by rw [P3,qD,aC q1];simp);clear q1 q0 P3 OA Rh hy;obtain⟨us,hus,Pr,huq⟩:=HRN.out.rows;have N2:us.length <=32:=by
    have:=px (e.locals.take (j+1));rw [aS]at this;omega
   have HUS:=V hus;have HUQ:=V huq;have HUL:=V Pr;obtain⟨av,cv,rfl,-,MR⟩:=hus.slice;have Qg:=L9.out.size;clear hus huq Pr;go_wp2_with (first | (at_builtin;refine fb (w1.alloc (.cells #[.int .i64 x] 3)) rfl _ _ 318 rfl _ 24 (by kernel_rfl) xp rfl (by decide) (by decide) wA.heap.size (.slice av us.length cv) us rfl (HUS.out.below ((an _ _).alloc (ag _) _)) (.slice (some ⟨w1.heap.size,0,none⟩) 1 1) _ rfl rfl (by simp [rN,Value.oneCell']) (by rw [aE];rfl) (by omega) (by rw [aE];omega) ?_));intro v' w2 ho Lv LB;have hs2':eM w1 (.slice av us.length cv) v':=fun i hi=>(LB i hi).imp id (fun g=>by rw [aE]at g;omega);have HN:=V (iL.new HRN.out HUS.out HUL.out ho Lv hs2' Qg HUQ.out);have HBN:Hid (Below wA.heap.size wA w2):=V ((L9.out.alloc Qg _).trans (Lv.below (by rw [aE];omega) (fun i hi=>(eE HUS.out hi).1)));clear ho Lv LB hs2';go_wp2_with fail;refine HR.out _ _ ⟨_,j+1+1,rfl,by omega,HBN.out,?_⟩ ?_
   ·rw [aR,HX.out]
    show iL _ _ _ (gL (e.locals.take (j+1)++[x]));rw [nG,HSN.out];exact HN.out
   ·simp [intOf]
    omega
  ·subst q1
   have f2:(k'==k')=true:=eQ rfl;have HSN:Hid (lg (gL (e.locals.take (j+1))) k'=rs++[(n+1,k')]):=V (by rw [P3,qD,aJ rfl]);have hnn:n <=32:=by
    have:=(re (e.locals.take (j+1)) (n,k') (by rw [P3];simp)).2;rw [aS]at this;simp only at this;omega
   have hrl:=HRN.out;rw [P3]at hrl;obtain⟨MS,ul,h2,h3,h4,h5,h6⟩:=hrl.last;obtain⟨g,cap,cur,rfl,PE,NY,hg3,M9,Mj⟩:=h3.open (by simp);have hlu:(MS++[ul]).length=MS.length+1:=by simp
   rw [hlu]at h3 h6 M9;rw [hlu];obtain⟨aul,cul,rfl,-,hcu⟩:=h4.slice;rw [bo]at h3 h4 h6;have c1:w1.cell? ⟨g,MS.length,none⟩=some (.slice aul n cul):=by
    have:=ea.cell rF h3 (i:=MS.length) (j:=0) (x:= .slice aul n cul) (u:= .slice aul n cul) (by simp) rfl
    rwa [bq,aK]at this
   have H2:=V h2;have H3:=V h3;have H4:=V h4;have H6:=V h6;have hus2:MS.length <=32:=by
    have:=px (e.locals.take (j+1));rw [aS,P3]at this;simp at this;omega
   have Qg:=L9.out.size;clear hrl h2 h3 h4 h5 h6 hg3 P3 OA Rh q0 hy hlu Mj;go_wp2_with (first | (at_builtin;refine fb w1 rfl _ _ 25 rfl _ 8 (by kernel_rfl) jT rfl (by decide) (by decide) wA.heap.size (.slice aul n cul) (List.replicate n k') rfl H4.out k' _ rfl rfl (CV k') rfl (by simp only [bo];omega) Qg ?_));intro v' w2 ho Lv LB;have hd:∀i,eH (.slice (some ⟨g,0,none⟩) (MS.length+1) cap) i ->¬ eH (.slice aul n cul) i:=fun i hi=>ea.ne H3.out H4.out (by decide) i hi;have H3':=V (ea.keeps H3.out Lv hd);have c2:w2.cell? ⟨g,MS.length,none⟩=some (.slice aul n cul):=by
    have:=ea.cell rF H3'.out (i:=MS.length) (j:=0) (x:= .slice aul n cul) (u:= .slice aul n cul) (by simp) rfl
    rwa [bq,aK]at this
   have z2:=H3'.out.free MS.length;obtain⟨av,cv,rfl,-,MR⟩:=ho.slice;have HN:=V (iL.grow H2.out H3.out H4.out H6.out ho Lv LB rfl);have HBN:Hid (Below wA.heap.size wA (w2.setCell ⟨g,MS.length,none⟩ (.slice av (List.replicate n k'++[k']).length cv))):=V ((L9.out.trans (Lv.below Qg (fun i hi=>(eE H4.out hi).1))).setCell PE _);rw [ah,bo,aB]at HN HBN;rw [ah,bo,aB];clear ho Lv LB hd;go_wp2_with fail;refine HR.out _ _ ⟨_,j+1+1,rfl,by omega,HBN.out,?_⟩ ?_
   ·rw [aR,HX.out]
    show iL _ _ _ (gL (e.locals.take (j+1)++[k']));rw [nG,HSN.out];exact HN.out
   ·simp [intOf]
    omega
theorem tQ {w:World} {Y:Nat} (h:eP w Y #[.int .u8 0] 5):eW w (.slice (some ⟨Y,0,none⟩) 1 1) [0]:=
 ⟨_,1,rfl,ag _,by simp [maxLen],fun i x hx=>⟨Y,0,rfl,by
  match i,hx with
  | 0,hx=>
   injection hx with hx;subst hx;exact h.cell 0⟩⟩
theorem Hu (e:iO) (b:Value) (xs:List UInt8) (w:World) (B:Nat) (Lo:eg w B b xs) (hn:xs.length <=100000000) (hB:B <=w.heap.size) (hm:e.may):
  Calls prog 186 #[b, .agg #[.string e.name, .int .i64 e.func]] w (fE xs (oo e) B b w):=by
 have l1:=om hm.1;have hs0:=hm.1.2.1;have HM:=V hm;clear hm;have HW:=V ((Wr.refl Lo).alloc (.cells #[.string e.name, .int .i64 e.func] 111));have HA:=V (Aside.new Lo #[.string e.name, .int .i64 e.func] 111);clear Lo;go_enter func186,ntmps186;go_wp2_with fail;refine lY (fun w'=>w'.cell? ⟨w.heap.size,0,none⟩=some (.string e.name)/\w'.cell? ⟨w.heap.size,1,none⟩=some (.int .i64 e.func)) (ord [(0,true),(1,true),(2,true),(6,true),(7,true)] (.fork 3 4 (ord [(4,false),(5,false),(8,false),(9,true)] .nil) (ord [(3,false),(5,false),(8,false),(9,true)] .nil))) (by kernel_rfl) (by kernel_rfl) ⟨HA.out.cell 0,HA.out.cell 1⟩ ?_;dsimp only [ord];have HW:=V HW.out.drew;have HA:=V HA.out.drew;obtain⟨X,hX⟩:∃X,X=w.heap.size:=⟨_,rfl⟩;rw [<- hX]at HA⊢;clear hX;generalize(w.alloc (.cells #[.string e.name, .int .i64 e.func] 111)).drew=wa at HW HA⊢;iterate 5 (first | (apply ord_skip rfl rfl;simp only [Act.put,bj,bE,bH]) | (apply iI rfl rfl rfl;·(rintro w' ⟨t0,t1⟩;go_wp2;exact⟨rfl,rfl,rfl⟩)))
 refine pG rfl rfl rfl rfl ?_ ?_
 ·skip
  go_wp2_with fail;refine(mX b xs e.name B wa HW.out.1 (by omega) (by omega) (HW.out.base hB)).mono ?_;rintro e' w1 ⟨v1,rfl,ho,hk,hs⟩;have HA:=V (HA.out.next ⟨ho,hk,hs⟩);have HW:=V (HW.out.step ⟨ho,hk,hs⟩);clear ho hk hs;go_wp2_with fail;refine⟨⟨HA.out.cell 0,HA.out.cell 1⟩,?_⟩;refine fX rfl rfl ?_;go_wp2_with fail;refine⟨⟨(HA.out.alloc _).cell 0,(HA.out.alloc _).cell 1⟩,?_⟩;refine fX rfl rfl ?_;go_wp2_with (first | (at_builtin;refine fi w1 rfl _ _ rfl rfl B v1 _ rfl HW.out.1 (0:UInt8) _ rfl rfl (by first | omega | (simp only [ah];omega) | (simp only [ah,aB];omega)) (HW.out.base hB) ?_));intro v2 w2 ho hk hs;have HA:=V (HA.out.next ⟨ho,hk,hs⟩);have HW:=V (HW.out.step ⟨ho,hk,hs⟩);clear ho hk hs;go_wp2_with fail;refine⟨⟨HA.out.cell 0,HA.out.cell 1⟩,?_⟩;refine fX rfl rfl ?_;go_wp2_with fail;refine(ng e.func HM.out.2 v2 _ B w2 HW.out.1 (by simp only [ah,aB];omega) (HW.out.base hB)).mono ?_;rintro e' w9 ⟨v9,rfl,ho,hk,hs⟩;have HA:=V (HA.out.next ⟨ho,hk,hs⟩);have HW:=V (HW.out.step ⟨ho,hk,hs⟩);clear ho hk hs;go_wp2_with fail;refine⟨⟨HA.out.cell 0,HA.out.cell 1⟩,?_⟩;iterate 1 (first | (apply ord_skip rfl rfl;simp only [Act.put,bj,bE,bH]) | (apply iI rfl rfl rfl;·(rintro w' ⟨t0,t1⟩;go_wp2;exact⟨rfl,rfl,rfl⟩)))
  refine mG ?_;refine aD ?_;go_wp2_with fail;go_ret;exact⟨_,rfl,by show Wr _ _ _ _ _ _;simpa [oo,sb] using HW.out⟩
 ·go_wp2_with fail
  refine⟨⟨(HA.out.alloc _).cell 0,(HA.out.alloc _).cell 1⟩,?_⟩;have HY:=V (Aside.new HW.out.1 #[.int .u8 0] 5);have HW:=V (HW.out.alloc (.cells #[.int .u8 0] 5));have HA:=V (HA.out.alloc (.cells #[.int .u8 0] 5));refine fX rfl rfl ?_;go_wp2_with fail;refine(mX b xs e.name B _ HW.out.1 (by omega) (by omega) (HW.out.base hB)).mono ?_;rintro e' w1 ⟨v1,rfl,ho,hk,hs⟩;have HY:=V (HY.out.next ⟨ho,hk,hs⟩);have HA:=V (HA.out.next ⟨ho,hk,hs⟩);have HW:=V (HW.out.step ⟨ho,hk,hs⟩);clear ho hk hs;go_wp2_with fail;refine⟨⟨HA.out.cell 0,HA.out.cell 1⟩,?_⟩;refine fX rfl rfl ?_;go_wp2_with (first | (at_builtin;refine fZ w1 rfl _ _ rfl rfl B v1 _ rfl HW.out.1 _ [0] rfl (tQ HY.out.1) (by first | omega | (simp only [ah,aB];omega) | (simp only [ah,aF,aL];omega)) (HW.out.base hB) ?_));intro v2 w2 ho hk hs;have HA:=V (HA.out.next ⟨ho,hk,hs⟩);have HW:=V (HW.out.step ⟨ho,hk,hs⟩);clear ho hk hs;go_wp2_with fail;refine⟨⟨HA.out.cell 0,HA.out.cell 1⟩,?_⟩;refine fX rfl rfl ?_;go_wp2_with fail;refine(ng e.func HM.out.2 v2 _ B w2 HW.out.1 (by simp only [ah,aB];omega) (HW.out.base hB)).mono ?_;rintro e' w9 ⟨v9,rfl,ho,hk,hs⟩;have HA:=V (HA.out.next ⟨ho,hk,hs⟩);have HW:=V (HW.out.step ⟨ho,hk,hs⟩);clear ho hk hs;go_wp2_with fail;refine⟨⟨HA.out.cell 0,HA.out.cell 1⟩,?_⟩;iterate 1 (first | (apply ord_skip rfl rfl;simp only [Act.put,bj,bE,bH]) | (apply iI rfl rfl rfl;·(rintro w' ⟨t0,t1⟩;go_wp2;exact⟨rfl,rfl,rfl⟩)))
  refine mG ?_;refine aD ?_;go_wp2_with fail;go_ret;exact⟨_,rfl,by show Wr _ _ _ _ _ _;simpa [oo,sb] using HW.out⟩
theorem Hj (e:jt) (b:Value) (xs:List UInt8) (w:World) (B:Nat) (Lo:eg w B b xs) (hn:xs.length <=100000000) (hB:B <=w.heap.size) (hm:e.may):
  Calls prog 174 #[b, .agg #[.string e.mod, .string e.name, .int .i64 e.type]] w (fE xs (nQ e) B b w):=by
 have l1:=om hm.1;have l2:=om hm.2.1;have hs0:=hm.1.2.1;have MU:=hm.2.1.2.1;have HM:=V hm;clear hm;have HW:=V ((Wr.refl Lo).alloc (.cells #[.string e.mod, .string e.name, .int .i64 e.type] 118));have HA:=V (Aside.new Lo #[.string e.mod, .string e.name, .int .i64 e.type] 118);clear Lo;go_enter func174,ntmps174;go_wp2_with fail;refine lY (fun w'=>w'.cell? ⟨w.heap.size,0,none⟩=some (.string e.mod)/\w'.cell? ⟨w.heap.size,1,none⟩=some (.string e.name)/\w'.cell? ⟨w.heap.size,2,none⟩=some (.int .i64 e.type)) (ord [(0,true),(1,true),(2,true),(4,true),(5,true),(9,true),(10,true)] (.fork 3 7 (.fork 6 7 (ord [(7,false),(8,false),(11,false),(12,true)] .nil) (ord [(6,false),(8,false),(11,false),(12,true)] .nil)) (ord [(3,false),(6,false),(8,false),(11,false),(12,true)] .nil))) (by kernel_rfl) (by kernel_rfl) ⟨HA.out.cell 0,HA.out.cell 1,HA.out.cell 2⟩ ?_;dsimp only [ord];have HW:=V HW.out.drew;have HA:=V HA.out.drew;obtain⟨X,hX⟩:∃X,X=w.heap.size:=⟨_,rfl⟩;rw [<- hX]at HA⊢;clear hX;generalize(w.alloc (.cells #[.string e.mod, .string e.name, .int .i64 e.type] 118)).drew=wa at HW HA⊢;iterate 7 (first | (apply ord_skip rfl rfl;simp only [Act.put,bj,bE,bH]) | (apply iI rfl rfl rfl;·(rintro w' ⟨t0,t1,t2⟩;go_wp2;exact⟨rfl,rfl,rfl⟩)))
 refine pG rfl rfl rfl rfl ?_ ?_
 ·skip
  go_wp2_with fail;refine(mX b xs e.mod B wa HW.out.1 (by omega) (by omega) (HW.out.base hB)).mono ?_;rintro e' w1 ⟨v1,rfl,ho,hk,hs⟩;have HA:=V (HA.out.next ⟨ho,hk,hs⟩);have HW:=V (HW.out.step ⟨ho,hk,hs⟩);clear ho hk hs;go_wp2_with fail;refine⟨⟨HA.out.cell 0,HA.out.cell 1,HA.out.cell 2⟩,?_⟩;refine pG rfl rfl rfl rfl ?_ ?_
  ·skip
   go_wp2_with fail;refine(mX v1 _ e.name B w1 HW.out.1 (by simp only [ah];omega) (by omega) (HW.out.base hB)).mono ?_;rintro e' w2 ⟨v2,rfl,ho,hk,hs⟩;have HA:=V (HA.out.next ⟨ho,hk,hs⟩);have HW:=V (HW.out.step ⟨ho,hk,hs⟩);clear ho hk hs;go_wp2_with fail;refine⟨⟨HA.out.cell 0,HA.out.cell 1,HA.out.cell 2⟩,?_⟩;refine fX rfl rfl ?_;go_wp2_with fail;refine⟨⟨(HA.out.alloc _).cell 0,(HA.out.alloc _).cell 1,(HA.out.alloc _).cell 2⟩,?_⟩;refine fX rfl rfl ?_;go_wp2_with (first | (at_builtin;refine fi w2 rfl _ _ rfl rfl B v2 _ rfl HW.out.1 (0:UInt8) _ rfl rfl (by first | omega | (simp only [ah];omega) | (simp only [ah,aB];omega)) (HW.out.base hB) ?_));intro v3 w3 ho hk hs;have HA:=V (HA.out.next ⟨ho,hk,hs⟩);have HW:=V (HW.out.step ⟨ho,hk,hs⟩);clear ho hk hs;go_wp2_with fail;refine⟨⟨HA.out.cell 0,HA.out.cell 1,HA.out.cell 2⟩,?_⟩;refine fX rfl rfl ?_;go_wp2_with fail;refine(ng e.type HM.out.2.2 v3 _ B w3 HW.out.1 (by simp only [ah,aB];omega) (HW.out.base hB)).mono ?_;rintro e' w9 ⟨v9,rfl,ho,hk,hs⟩;have HA:=V (HA.out.next ⟨ho,hk,hs⟩);have HW:=V (HW.out.step ⟨ho,hk,hs⟩);clear ho hk hs;go_wp2_with fail;refine⟨⟨HA.out.cell 0,HA.out.cell 1,HA.out.cell 2⟩,?_⟩;iterate 1 (first | (apply ord_skip rfl rfl;simp only [Act.put,bj,bE,bH]) | (apply iI rfl rfl rfl;·(rintro w' ⟨t0,t1,t2⟩;go_wp2;exact⟨rfl,rfl,rfl⟩)))
   refine mG ?_;refine aD ?_;go_wp2_with fail;go_ret;exact⟨_,rfl,by show Wr _ _ _ _ _ _;simpa [nQ,sb] using HW.out⟩
  ·go_wp2_with fail
   refine⟨⟨(HA.out.alloc _).cell 0,(HA.out.alloc _).cell 1,(HA.out.alloc _).cell 2⟩,?_⟩;have HY:=V (Aside.new HW.out.1 #[.int .u8 0] 5);have HW:=V (HW.out.alloc (.cells #[.int .u8 0] 5));have HA:=V (HA.out.alloc (.cells #[.int .u8 0] 5));refine fX rfl rfl ?_;go_wp2_with fail;refine(mX v1 _ e.name B _ HW.out.1 (by simp only [ah];omega) (by omega) (HW.out.base hB)).mono ?_;rintro e' w2 ⟨v2,rfl,ho,hk,hs⟩;have HY:=V (HY.out.next ⟨ho,hk,hs⟩);have HA:=V (HA.out.next ⟨ho,hk,hs⟩);have HW:=V (HW.out.step ⟨ho,hk,hs⟩);clear ho hk hs;go_wp2_with fail;refine⟨⟨HA.out.cell 0,HA.out.cell 1,HA.out.cell 2⟩,?_⟩;refine fX rfl rfl ?_;go_wp2_with (first | (at_builtin;refine fZ w2 rfl _ _ rfl rfl B v2 _ rfl HW.out.1 _ [0] rfl (tQ HY.out.1) (by first | omega | (simp only [ah,aB];omega) | (simp only [ah,aF,aL];omega)) (HW.out.base hB) ?_));intro v3 w3 ho hk hs;have HA:=V (HA.out.next ⟨ho,hk,hs⟩);have HW:=V (HW.out.step ⟨ho,hk,hs⟩);clear ho hk hs;go_wp2_with fail;refine⟨⟨HA.out.cell 0,HA.out.cell 1,HA.out.cell 2⟩,?_⟩;refine fX rfl rfl ?_;go_wp2_with fail;refine(ng e.type HM.out.2.2 v3 _ B w3 HW.out.1 (by simp only [ah,aB];omega) (HW.out.base hB)).mono ?_;rintro e' w9 ⟨v9,rfl,ho,hk,hs⟩;have HA:=V (HA.out.next ⟨ho,hk,hs⟩);have HW:=V (HW.out.step ⟨ho,hk,hs⟩);clear ho hk hs;go_wp2_with fail;refine⟨⟨HA.out.cell 0,HA.out.cell 1,HA.out.cell 2⟩,?_⟩;iterate 1 (first | (apply ord_skip rfl rfl;simp only [Act.put,bj,bE,bH]) | (apply iI rfl rfl rfl;·(rintro w' ⟨t0,t1,t2⟩;go_wp2;exact⟨rfl,rfl,rfl⟩)))
   refine mG ?_;refine aD ?_;go_wp2_with fail;go_ret;exact⟨_,rfl,by show Wr _ _ _ _ _ _;simpa [nQ,sb] using HW.out⟩
 ·go_wp2_with fail
  refine⟨⟨(HA.out.alloc _).cell 0,(HA.out.alloc _).cell 1,(HA.out.alloc _).cell 2⟩,?_⟩;have HY:=V (Aside.new HW.out.1 #[.int .u8 0] 5);have HW:=V (HW.out.alloc (.cells #[.int .u8 0] 5));have HA:=V (HA.out.alloc (.cells #[.int .u8 0] 5));refine fX rfl rfl ?_;go_wp2_with fail;refine(mX b xs e.mod B _ HW.out.1 (by omega) (by omega) (HW.out.base hB)).mono ?_;rintro e' w1 ⟨v1,rfl,ho,hk,hs⟩;have HY:=V (HY.out.next ⟨ho,hk,hs⟩);have HA:=V (HA.out.next ⟨ho,hk,hs⟩);have HW:=V (HW.out.step ⟨ho,hk,hs⟩);clear ho hk hs;go_wp2_with fail;refine⟨⟨HA.out.cell 0,HA.out.cell 1,HA.out.cell 2⟩,?_⟩;refine fX rfl rfl ?_;go_wp2_with fail;refine(mX v1 _ e.name B w1 HW.out.1 (by simp only [ah];omega) (by omega) (HW.out.base hB)).mono ?_;rintro e' w2 ⟨v2,rfl,ho,hk,hs⟩;have HY:=V (HY.out.next ⟨ho,hk,hs⟩);have HA:=V (HA.out.next ⟨ho,hk,hs⟩);have HW:=V (HW.out.step ⟨ho,hk,hs⟩);clear ho hk hs;go_wp2_with fail;refine⟨⟨HA.out.cell 0,HA.out.cell 1,HA.out.cell 2⟩,?_⟩;refine fX rfl rfl ?_;go_wp2_with (first | (at_builtin;refine fZ w2 rfl _ _ rfl rfl B v2 _ rfl HW.out.1 _ [0] rfl (tQ HY.out.1) (by first | omega | (simp only [ah,aB];omega) | (simp only [ah,aF,aL];omega)) (HW.out.base hB) ?_));intro v3 w3 ho hk hs;have HA:=V (HA.out.next ⟨ho,hk,hs⟩);have HW:=V (HW.out.step ⟨ho,hk,hs⟩);clear ho hk hs;go_wp2_with fail;refine⟨⟨HA.out.cell 0,HA.out.cell 1,HA.out.cell 2⟩,?_⟩;refine fX rfl rfl ?_;go_wp2_with fail;refine(ng e.type HM.out.2.2 v3 _ B w3 HW.out.1 (by simp only [ah,aB];omega) (HW.out.base hB)).mono ?_;rintro e' w9 ⟨v9,rfl,ho,hk,hs⟩;have HA:=V (HA.out.next ⟨ho,hk,hs⟩);have HW:=V (HW.out.step ⟨ho,hk,hs⟩);clear ho hk hs;go_wp2_with fail;refine⟨⟨HA.out.cell 0,HA.out.cell 1,HA.out.cell 2⟩,?_⟩;iterate 1 (first | (apply ord_skip rfl rfl;simp only [Act.put,bj,bE,bH]) | (apply iI rfl rfl rfl;·(rintro w' ⟨t0,t1,t2⟩;go_wp2;exact⟨rfl,rfl,rfl⟩)))
  refine mG ?_;refine aD ?_;go_wp2_with fail;go_ret;exact⟨_,rfl,by show Wr _ _ _ _ _ _;simpa [nQ,sb] using HW.out⟩
theorem eg.Iz {w:World} {B:Nat} {v:Value} {xs:List UInt8} {x:UInt8} (h:eg w B v (xs++[x])):
  ∃g cap,v= .slice (some ⟨g,0,none⟩) (xs.length+1) cap/\xs.length+1 <=cap/\cap <=maxLen/\g < w.heap.size/\w.cell? ⟨g,xs.length,none⟩=some (bv x)/\w.frozen? ⟨g,xs.length,none⟩=false/\
   ∀y,eg (w.setCell ⟨g,xs.length,none⟩ (bv y)) B v (xs++[y]):=by
 have hb:=eg.fF h;obtain⟨hl,hv | ⟨g,cap,cur,hv,hB,hg,hn,hm,hs,ht⟩⟩:=h
 ·exact absurd hv.2 (by simp)
 ·have hlen:(xs++[x]).length=xs.length+1:=by simp
  rw [hlen]at hv hn;refine⟨g,cap,hv,hn,hm,(cq.1 hg).1,?_,dd w g _ cur _ hg,fun y=>?_⟩
  ·obtain⟨a,LO,he,_,_,hc⟩:=hb
   rw [hv]at he;injection he with e1 e2 e3;subst e1;obtain⟨b,off,Lr,LN⟩:=hc xs.length x (by simp);injection Lr with Lr;injection Lr with Lr Mf;subst Lr Mf;rw [bP]at LN;exact LN
  ·refine⟨by simp, .inr ⟨g,cap,cur.setIfInBounds xs.length (bv y),by rw [hv];simp,hB,heap_setCell_same w g _ cur _ _ hg,by simpa using hn,hm,by simpa using hs,?_⟩⟩
   rw [Array.toList_setIfInBounds,List.take_set];have ht2:cur.toList.take ((xs++[y]).length*1)=xs.map bv++[bv x]:=by
    rw [show(xs++[y]).length*1=(xs++[x]).length*1 by simp,ht];simp
   rw [ht2,List.set_append_right _ _ (by simp)];simp
theorem IZ (e:jg) (b:Value) (xs:List UInt8) (w:World) (B:Nat) (Lo:eg w B b xs) (hn:xs.length <=100000000) (hB:B <=w.heap.size) (hm:e.init.may) (ho:e.init.ok):
  Calls prog 183 #[b, .agg #[.bool e.isVar, .int .i64 e.init.kind, .int .i64 e.init.n]] w (fE xs (kV e) B b w):=by
 have HM:=V hm;have HO:=V ho;obtain⟨mu,k,n⟩:=e;simp only at HM HO⊢;clear hm ho;have HW:=V ((Wr.refl Lo).alloc (.cells #[.bool mu, .int .i64 k, .int .i64 n] 120));have HA:=V (Aside.new Lo #[.bool mu, .int .i64 k, .int .i64 n] 120);clear Lo;have c1:(w.alloc (.cells #[.bool mu, .int .i64 k, .int .i64 n] 120)).cell? ⟨w.heap.size,1,none⟩=some (.int .i64 k):=HA.out.cell 1;go_enter func183,ntmps183;go_wp2_with fail;refine(nD b xs k B _ HW.out.1 (by omega) (HW.out.base hB)).mono ?_;rintro e' w1 ⟨v1,rfl,ho,hk,hs⟩;have HA:=V (HA.out.next ⟨ho,hk,hs⟩);have HW:=V (HW.out.step ⟨ho,hk,hs⟩);clear ho hk hs c1;go_wp2_with (first | (at_builtin;refine fi w1 rfl _ _ rfl rfl B v1 _ rfl HW.out.1 (0:UInt8) _ rfl rfl (by simp only [ah,jw,aF,aL];omega) (HW.out.base hB) ?_));intro v2 w2 ho hk hs;have HA:=V (HA.out.next ⟨ho,hk,hs⟩);have HW:=V (HW.out.step ⟨ho,hk,hs⟩);clear ho hk hs;have c0:w2.cell? ⟨w.heap.size,0,none⟩=some (.bool mu):=HA.out.cell 0;obtain⟨L,hL⟩:∃L,xs++jw k=L:=⟨_,rfl⟩;have hLn:L.length <=100000001:=by rw [<- hL,ah];simp only [jw,aF,aL];omega
 have HG:Hid (xs++kV ⟨mu,⟨k,n⟩⟩=L++((if mu=true then 1 else 0)::mw ⟨k,n⟩)):=V (by rw [<- hL,kV,aP]);have HL:=V (show Wr w b B w2 v2 (L++[0])by rw [<- hL,aP];exact HW.out);clear hL;obtain⟨g,cap,rfl,Mk,NZ,hg,cl,fz,Pp⟩:=HL.out.1.Iz;unfold maxLen at NZ;have HSET:=V Pp;clear Pp;cases mu with
 | false=>
  have c1:w2.cell? ⟨w.heap.size,1,none⟩=some (.int .i64 k):=HA.out.cell 1;have c2:w2.cell? ⟨w.heap.size,2,none⟩=some (.int .i64 n):=HA.out.cell 2;go_wp2_with fail;refine(oG (.slice (some ⟨g,0,none⟩) (L.length+1) cap) _ ⟨k,n⟩ B w2 HL.out.1 (by simp only [ah,aB];omega) (HL.out.base hB) HM.out HO.out).mono ?_;rintro e' w9 ⟨v9,rfl,ho,hk,hs⟩;have HL9:=V (HL.out.step ⟨ho,hk,hs⟩);clear ho hk hs;go_wp2_with fail;go_ret;exact⟨_,rfl,by rw [HG.out];show Wr _ _ _ _ _ _;simpa using HL9.out⟩
 | true=>
  have ho:=HSET.out 1;have hk:ee (eH (.slice (some ⟨g,0,none⟩) (L.length+1) cap)) w2 (w2.setCell ⟨g,L.length,none⟩ (.int .u8 1)):=(show ee (fun k=>k=g) w2 (w2.setCell ⟨g,L.length,none⟩ (.int .u8 1))from⟨rfl,rfl,rfl,by simp,fun k _ hk=>cM w2 ⟨g,L.length,none⟩ (.int .u8 1) k hk⟩).mono (fun i hi=>by rw [hi];rfl);have hs:=eM.refl w2 (.slice (some ⟨g,0,none⟩) (L.length+1) cap);have HA2:=V (HA.out.next ⟨ho,hk,hs⟩);have QY:=V (HL.out.step ⟨ho,hk,hs⟩);have c1:(w2.setCell ⟨g,L.length,none⟩ (.int .u8 1)).cell? ⟨w.heap.size,1,none⟩=some (.int .i64 k):=HA2.out.cell 1;have c2:(w2.setCell ⟨g,L.length,none⟩ (.int .u8 1)).cell? ⟨w.heap.size,2,none⟩=some (.int .i64 n):=HA2.out.cell 2;clear ho hk hs;go_wp2_with fail;refine(oG (.slice (some ⟨g,0,none⟩) (L.length+1) cap) _ ⟨k,n⟩ B _ QY.out.1 (by simp only [ah,aB];omega) (QY.out.base hB) HM.out HO.out).mono ?_;rintro e' w9 ⟨v9,rfl,ho,hk,hs⟩;have HL9:=V (QY.out.step ⟨ho,hk,hs⟩);clear ho hk hs;go_wp2_with fail;go_ret;exact⟨_,rfl,by rw [HG.out];show Wr _ _ _ _ _ _;simpa using HL9.out⟩
theorem I5 (p:gN ->Bool) (v:Value) (l:List gN) (w:World) (hl:et 2 r9 gW w v l) (Lq:Nat) (cs:Array Value)
  (hE:∀args w,(callFunc Lq args).run prog w= .ok (.enter Lq args) w)
  (hp:∀e∈l,∀u w',Below w.heap.size w w' ->gW w' e u ->Calls prog Lq (#[.agg #[u.1,u.2]]++cs) w' (eF (p e) w')):
  Calls prog 284 #[v, .func (.func Lq) #[] cs] w (kj p l w):=by
 have HP:=V hp;have HI:=V hl;obtain⟨a,cap,rfl,h1,h2⟩:=et.slice hl;clear hl hp;go_enter func284,ntmps284;go_wp2_with fail;refine eJ (fun a' w'=>∃(k:Nat),a'=fr (.slice a l.length cap:: .func (.func Lq) #[] cs::gs a' 2 5 (.int .i64 l.length:: .int .i64 k::gs a' 9 10 []))/\qc p l w w' k) (fun a' _=>(l.length - (intOf (a'.tmps.getD 8 undef)).toNat)) ?_ ?_
 ·exact⟨0,rfl,by omega,fun i hi=>by omega,an _ _⟩
 ·skip
  rintro R a' w1 ⟨k,Lp,hJ⟩ HR;dsimp only [fr,gs]at Lp;generalize slot a'=f at Lp;subst Lp;obtain⟨hk,hm,hb⟩:=hJ;have Mt:=V hm;clear hm;by_cases Mm:k < l.length;rotate_left
  ·obtain rfl:k=l.length:=by omega
   go_wp2_with fail;go_ret;exact⟨by rw [hI Mt.out];rfl,hb⟩
  obtain⟨e,he⟩:∃e,l[k]?=some e:=⟨_,aw Mm⟩;obtain⟨b,off,u,rfl,Lw,hc,hu⟩:=(et.below HI.out (hb.mono (ag _)) (fun _ _ h=>h.below (hb.mono (ag _)))).get he;have Lz:=HP.out e (aO he) u w1 hb hu;obtain⟨u1,u2⟩:=u;obtain⟨⟨⟨a1,LF,Nk,-,-,-⟩,⟨a2,Lu,Nw,-,-,-⟩⟩,-⟩:=id hu;simp only at Nk Nw;subst Nk Nw;have c0:=hc 0 _ rfl;have c1:=hc 1 _ rfl;rw [aK]at c0;have HE:=V he;clear he hc hu;cases hq:p e
  all_goals
   rw [hq]at Lz;have HQ:=V hq;clear hq;go_wp2_with fail;refine Lz.mono ?_;rintro x w2 ⟨rfl,Lr⟩;replace hb:=ei hb Lr;clear Lz Lr c0 c1;go_wp2_with fail
  ·refine HR.out _ _ ⟨k+1,rfl,by omega,?_,hb⟩ ?_
   ·intro i hi d hd
    rcases bD i k with h | h
    ·exact Mt.out i h d hd
    ·obtain rfl:i=k:=by omega
     rw [HE.out]at hd;injection hd with hd;rw [<- hd];exact HQ.out
   ·simp [intOf]
    omega
  ·go_ret
   exact⟨by rw [iA HE.out HQ.out Mt.out];rfl,hb⟩
theorem Gv (p:gN ->Bool) (v:Value) (l:List gN) (w:World) (hl:et 2 r9 gW w v l) (Lq:Nat) (cs:Array Value)
  (hE:∀args w,(callFunc Lq args).run prog w= .ok (.enter Lq args) w)
  (hp:∀e∈l,∀u w',Below w.heap.size w w' ->gW w' e u ->Calls prog Lq (#[.agg #[u.1,u.2]]++cs) w' (eF (p e) w')):
  Calls prog 245 #[v, .func (.func Lq) #[] cs] w (eF (l.any p) w):=by
 go_enter func245,ntmps245;go_wp2_with fail;refine(I5 p v l _ hl Lq cs hE hp).mono ?_;rintro x w2 ⟨rfl,hb⟩;clear hE;go_wp2_with fail;go_ret;exact⟨by rw [<- iK];rfl,hb⟩
theorem Fz (b:Bool) (a1 a2:Option Addr) (n1 n2 c1 c2:Nat) (Lq:Nat) (cs:Array Value) (X:Nat) (w:World)
  (hE:∀args w,(callFunc Lq args).run prog w= .ok (.enter Lq args) w) (hX:w.cell? ⟨X,0,none⟩=some (.func (.func Lq) #[] cs))
  (hp:∀w',Below w.heap.size w w' ->Calls prog Lq (#[.agg #[.slice a1 n1 c1, .slice a2 n2 c2]]++cs) w' (eF b w')):
  Calls prog 246 #[.agg #[.slice a1 n1 c1, .slice a2 n2 c2], .pointer (some ⟨X,0,none⟩)] w (eF (!b) w):=by
 have Lw:=aT w _ hX;have HP:=V hp;clear hp;go_enter func246,ntmps246;go_wp2_with fail;refine(HP.out _ ((an _ _).alloc (ag _) _)).mono ?_;rintro x w2 ⟨rfl,hb⟩;clear hE hX;go_wp2_with fail;go_ret;exact⟨rfl,((an _ _).alloc (ag _) _).trans (hb.mono (by simp))⟩
theorem E9 (p:gN ->Bool) (v:Value) (l:List gN) (w:World) (hl:et 2 r9 gW w v l) (Lq:Nat) (fB:Int)
  (hE:∀args w,(callFunc Lq args).run prog w= .ok (.enter Lq args) w)
  (hp:∀e∈l,∀u w',Below w.heap.size w w' ->gW w' e u ->Calls prog Lq #[.agg #[u.1,u.2]] w' (eF (p e) w')):
  Calls prog 154 #[v, .int .i64 fB, .func (.func Lq) #[] #[]] w (eF (decide ((l.length:Int) <=fB)&&l.all p) w):=by
 have HP:=V hp;obtain⟨a,cap,rfl,h1,h2⟩:∃a cap,v= .slice a l.length cap/\l.length <=cap/\cap <=9223372036854775807:=et.slice hl;have HL:=V hl;clear hp hl;by_cases q:(l.length:Int) <=fB
 ·have f:decide ((l.length:Int) <=fB)=true:=aA q
  go_enter func154,ntmps154;go_wp2_with fail;refine bU (Gv (fun e=> !p e) _ l _ (et.below HL.out ((an _ _).alloc (ag _) _) (fun _ _ h=>h.below ((an _ _).alloc (ag _) _))) 246 #[.pointer (some ⟨w.heap.size,0,none⟩)] (fun args w=>by rfl) ?_) ?_
  ·intro e he u w' hw' hu
   obtain⟨hX,hw⟩:=boxed hw';obtain⟨u1,u2⟩:=u;obtain⟨⟨⟨a1,LF,Nk,-,-,-⟩,⟨a2,Lu,Nw,-,-,-⟩⟩,-⟩:=id hu;simp only at Nk Nw;subst Nk Nw;exact Fz (p e) _ _ _ _ _ _ Lq #[] _ w' hE hX (fun w2 h2=>by simpa using HP.out e he _ w2 (hw.trans (h2.mono hw.size)) (hu.below h2))
  rintro x w2 ⟨rfl,hb⟩;clear hE;have HF:=V f;clear f;have f:decide ((l.length:Int) <=fB)=true:=HF.out;go_wp2_with fail;go_ret;refine⟨?_,((an _ _).alloc (ag _) _).trans (hb.mono (by simp))⟩;have e1:l.all p= !(l.any fun e=> !p e):=by rw [bV];simp
  rw [f,e1,ct];rfl
 ·have f:decide ((l.length:Int) <=fB)=false:=aq q
  go_enter func154,ntmps154;go_wp2_with fail;go_ret;exact⟨by first | rfl | (rw [f];rfl),(an _ _).alloc (ag _) _⟩
theorem I1 (p:gS ->Bool) (v:Value) (l:List gS) (w:World) (hl:et 2 su gU w v l) (Lq:Nat) (cs:Array Value)
  (hE:∀args w,(callFunc Lq args).run prog w= .ok (.enter Lq args) w)
  (hp:∀e∈l,∀u w',Below w.heap.size w w' ->gU w' e u ->Calls prog Lq (#[.agg #[u.1,u.2]]++cs) w' (eF (p e) w')):
  Calls prog 243 #[v, .func (.func Lq) #[] cs] w (kj p l w):=by
 have HP:=V hp;have HI:=V hl;obtain⟨a,cap,rfl,h1,h2⟩:=et.slice hl;clear hl hp;go_enter func243,ntmps243;go_wp2_with fail;refine eJ (fun a' w'=>∃(k:Nat),a'=fr (.slice a l.length cap:: .func (.func Lq) #[] cs::gs a' 2 5 (.int .i64 l.length:: .int .i64 k::gs a' 9 10 []))/\qc p l w w' k) (fun a' _=>(l.length - (intOf (a'.tmps.getD 8 undef)).toNat)) ?_ ?_
 ·exact⟨0,rfl,by omega,fun i hi=>by omega,an _ _⟩
 ·skip
  rintro R a' w1 ⟨k,Lp,hJ⟩ HR;dsimp only [fr,gs]at Lp;generalize slot a'=f at Lp;subst Lp;obtain⟨hk,hm,hb⟩:=hJ;have Mt:=V hm;clear hm;by_cases Mm:k < l.length;rotate_left
  ·obtain rfl:k=l.length:=by omega
   go_wp2_with fail;go_ret;exact⟨by rw [hI Mt.out];rfl,hb⟩
  obtain⟨e,he⟩:∃e,l[k]?=some e:=⟨_,aw Mm⟩;obtain⟨b,off,u,rfl,Lw,hc,hu⟩:=(et.below HI.out (hb.mono (ag _)) (fun _ _ h=>h.below (hb.mono (ag _)))).get he;have Lz:=HP.out e (aO he) u w1 hb hu;obtain⟨u1,u2⟩:=u;obtain⟨⟨⟨a1,LF,Nk,-,-,-⟩,Mg⟩,-⟩:=id hu;obtain⟨a2,Lu,Nw,-,-⟩:=et.slice Mg;simp only at Nk Nw;subst Nk Nw;clear Mg;have c0:=hc 0 _ rfl;have c1:=hc 1 _ rfl;rw [aK]at c0;have HE:=V he;clear he hc hu;cases hq:p e
  all_goals
   rw [hq]at Lz;have HQ:=V hq;clear hq;go_wp2_with fail;refine Lz.mono ?_;rintro x w2 ⟨rfl,Lr⟩;replace hb:=ei hb Lr;clear Lz Lr c0 c1;go_wp2_with fail
  ·refine HR.out _ _ ⟨k+1,rfl,by omega,?_,hb⟩ ?_
   ·intro i hi d hd
    rcases bD i k with h | h
    ·exact Mt.out i h d hd
    ·obtain rfl:i=k:=by omega
     rw [HE.out]at hd;injection hd with hd;rw [<- hd];exact HQ.out
   ·simp [intOf]
    omega
  ·go_ret
   exact⟨by rw [iA HE.out HQ.out Mt.out];rfl,hb⟩
theorem FJ (p:gS ->Bool) (v:Value) (l:List gS) (w:World) (hl:et 2 su gU w v l) (Lq:Nat) (cs:Array Value)
  (hE:∀args w,(callFunc Lq args).run prog w= .ok (.enter Lq args) w)
  (hp:∀e∈l,∀u w',Below w.heap.size w w' ->gU w' e u ->Calls prog Lq (#[.agg #[u.1,u.2]]++cs) w' (eF (p e) w')):
  Calls prog 145 #[v, .func (.func Lq) #[] cs] w (eF (l.any p) w):=by
 go_enter func145,ntmps145;go_wp2_with fail;refine(I1 p v l _ hl Lq cs hE hp).mono ?_;rintro x w2 ⟨rfl,hb⟩;clear hE;go_wp2_with fail;go_ret;exact⟨by rw [<- iK];rfl,hb⟩
theorem Gb (b:Bool) (a1 a2:Option Addr) (n1 n2 c1 c2:Nat) (Lq:Nat) (cs:Array Value) (X:Nat) (w:World)
  (hE:∀args w,(callFunc Lq args).run prog w= .ok (.enter Lq args) w) (hX:w.cell? ⟨X,0,none⟩=some (.func (.func Lq) #[] cs))
  (hp:∀w',Below w.heap.size w w' ->Calls prog Lq (#[.agg #[.slice a1 n1 c1, .slice a2 n2 c2]]++cs) w' (eF b w')):
  Calls prog 146 #[.agg #[.slice a1 n1 c1, .slice a2 n2 c2], .pointer (some ⟨X,0,none⟩)] w (eF (!b) w):=by
 have Lw:=aT w _ hX;have HP:=V hp;clear hp;go_enter func146,ntmps146;go_wp2_with fail;refine(HP.out _ ((an _ _).alloc (ag _) _)).mono ?_;rintro x w2 ⟨rfl,hb⟩;clear hE hX;go_wp2_with fail;go_ret;exact⟨rfl,((an _ _).alloc (ag _) _).trans (hb.mono (by simp))⟩
theorem EL (p:gS ->Bool) (v:Value) (l:List gS) (w:World) (hl:et 2 su gU w v l) (Lq:Nat) (fB:Int)
  (hE:∀args w,(callFunc Lq args).run prog w= .ok (.enter Lq args) w)
  (hp:∀e∈l,∀u w',Below w.heap.size w w' ->gU w' e u ->Calls prog Lq #[.agg #[u.1,u.2]] w' (eF (p e) w')):
  Calls prog 90 #[v, .int .i64 fB, .func (.func Lq) #[] #[]] w (eF (decide ((l.length:Int) <=fB)&&l.all p) w):=by
 have HP:=V hp;obtain⟨a,cap,rfl,h1,h2⟩:∃a cap,v= .slice a l.length cap/\l.length <=cap/\cap <=9223372036854775807:=et.slice hl;have HL:=V hl;clear hp hl;by_cases q:(l.length:Int) <=fB
 ·have f:decide ((l.length:Int) <=fB)=true:=aA q
  go_enter func90,ntmps90;go_wp2_with fail;refine bU (FJ (fun e=> !p e) _ l _ (et.below HL.out ((an _ _).alloc (ag _) _) (fun _ _ h=>h.below ((an _ _).alloc (ag _) _))) 146 #[.pointer (some ⟨w.heap.size,0,none⟩)] (fun args w=>by rfl) ?_) ?_
  ·intro e he u w' hw' hu
   obtain⟨hX,hw⟩:=boxed hw';obtain⟨u1,u2⟩:=u;obtain⟨⟨⟨a1,LF,Nk,-,-,-⟩,Mg⟩,-⟩:=id hu;obtain⟨a2,Lu,Nw,-,-⟩:=et.slice Mg;simp only at Nk Nw;subst Nk Nw;clear Mg;exact Gb (p e) _ _ _ _ _ _ Lq #[] _ w' hE hX (fun w2 h2=>by simpa using HP.out e he _ w2 (hw.trans (h2.mono hw.size)) (hu.below h2))
  rintro x w2 ⟨rfl,hb⟩;clear hE;have HF:=V f;clear f;have f:decide ((l.length:Int) <=fB)=true:=HF.out;go_wp2_with fail;go_ret;refine⟨?_,((an _ _).alloc (ag _) _).trans (hb.mono (by simp))⟩;have e1:l.all p= !(l.any fun e=> !p e):=by rw [bV];simp
  rw [f,e1,ct];rfl
 ·have f:decide ((l.length:Int) <=fB)=false:=aq q
  go_enter func90,ntmps90;go_wp2_with fail;go_ret;exact⟨by first | rfl | (rw [f];rfl),(an _ _).alloc (ag _) _⟩
theorem Hp (p:UInt8 ->Bool) (v:Value) (l:List UInt8) (w:World) (hl:eW w v l) (Lq:Nat) (cs:Array Value)
  (hE:∀args w,(callFunc Lq args).run prog w= .ok (.enter Lq args) w)
  (hp:∀e∈l,∀w',Below w.heap.size w w' ->Calls prog Lq (#[bv e]++cs) w' (eF (p e) w')):
  Calls prog 292 #[v, .func (.func Lq) #[] cs] w (kj p l w):=by
 have HP:=V hp;have HI:=V hl;obtain⟨a,cap,rfl,h1,h2,_⟩:=id hl;unfold maxLen at h2;clear hl hp;go_enter func292,ntmps292;go_wp2_with fail;refine eJ (fun a' w'=>∃(k:Nat),a'=fr (.slice a l.length cap:: .func (.func Lq) #[] cs::gs a' 2 5 (.int .i64 l.length:: .int .i64 k::gs a' 9 10 []))/\qc p l w w' k) (fun a' _=>(l.length - (intOf (a'.tmps.getD 8 undef)).toNat)) ?_ ?_
 ·exact⟨0,rfl,by omega,fun i hi=>by omega,an _ _⟩
 ·skip
  rintro R a' w1 ⟨k,Lp,hJ⟩ HR;dsimp only [fr,gs]at Lp;generalize slot a'=f at Lp;subst Lp;obtain⟨hk,hm,hb⟩:=hJ;have Mt:=V hm;clear hm;by_cases Mm:k < l.length;rotate_left
  ·obtain rfl:k=l.length:=by omega
   go_wp2_with fail;go_ret;exact⟨by rw [hI Mt.out];rfl,hb⟩
  obtain⟨e,he⟩:∃e,l[k]?=some e:=⟨_,aw Mm⟩;obtain⟨a',LO,hv,_,_,Ln⟩:=HI.out.below (hb.mono (ag _));injection hv with e1 e2 e3;subst e1 e3;obtain⟨b,off,rfl,c0⟩:=Ln k e he;have Lz:=HP.out e (aO he) w1 hb;have HE:=V he;clear Ln e2 he;cases hq:p e
  all_goals
   rw [hq]at Lz;have HQ:=V hq;clear hq;go_wp2_with fail;refine Lz.mono ?_;rintro x w2 ⟨rfl,Lr⟩;replace hb:=ei hb Lr;clear Lz Lr c0;go_wp2_with fail
  ·refine HR.out _ _ ⟨k+1,rfl,by omega,?_,hb⟩ ?_
   ·intro i hi d hd
    rcases bD i k with h | h
    ·exact Mt.out i h d hd
    ·obtain rfl:i=k:=by omega
     rw [HE.out]at hd;injection hd with hd;rw [<- hd];exact HQ.out
   ·simp [intOf]
    omega
  ·go_ret
   exact⟨by rw [iA HE.out HQ.out Mt.out];rfl,hb⟩
theorem Gh (p:UInt8 ->Bool) (v:Value) (l:List UInt8) (w:World) (hl:eW w v l) (Lq:Nat) (cs:Array Value)
  (hE:∀args w,(callFunc Lq args).run prog w= .ok (.enter Lq args) w)
  (hp:∀e∈l,∀w',Below w.heap.size w w' ->Calls prog Lq (#[bv e]++cs) w' (eF (p e) w')):
  Calls prog 285 #[v, .func (.func Lq) #[] cs] w (eF (l.any p) w):=by
 go_enter func285,ntmps285;go_wp2_with fail;refine(Hp p v l _ hl Lq cs hE hp).mono ?_;rintro x w2 ⟨rfl,hb⟩;clear hE;go_wp2_with fail;go_ret;exact⟨by rw [<- iK];rfl,hb⟩
theorem GY (b:Bool) (c:UInt8) (Lq:Nat) (cs:Array Value) (X:Nat) (w:World)
  (hE:∀args w,(callFunc Lq args).run prog w= .ok (.enter Lq args) w) (hX:w.cell? ⟨X,0,none⟩=some (.func (.func Lq) #[] cs))
  (hp:∀w',Below w.heap.size w w' ->Calls prog Lq (#[bv c]++cs) w' (eF b w')):
  Calls prog 286 #[bv c, .pointer (some ⟨X,0,none⟩)] w (eF (!b) w):=by
 have Lw:=aT w _ hX;have HP:=V hp;clear hp;go_enter func286,ntmps286;go_wp2_with fail;refine(HP.out _ (an _ _)).mono ?_;rintro x w2 ⟨rfl,hb⟩;clear hE hX;go_wp2_with fail;go_ret;exact⟨rfl,hb⟩
theorem El (p:UInt8 ->Bool) (v:Value) (l:List UInt8) (w:World) (hl:eW w v l) (Lq:Nat) (fB:Int)
  (hE:∀args w,(callFunc Lq args).run prog w= .ok (.enter Lq args) w)
  (hp:∀e∈l,∀w',Below w.heap.size w w' ->Calls prog Lq #[bv e] w' (eF (p e) w')):
  Calls prog 248 #[v, .int .i64 fB, .func (.func Lq) #[] #[]] w (eF (decide ((l.length:Int) <=fB)&&l.all p) w):=by
 have HP:=V hp;obtain⟨a,cap,rfl,h1,h2⟩:∃a cap,v= .slice a l.length cap/\l.length <=cap/\cap <=9223372036854775807:=wo hl;have HL:=V hl;clear hp hl;by_cases q:(l.length:Int) <=fB
 ·have f:decide ((l.length:Int) <=fB)=true:=aA q
  go_enter func248,ntmps248;go_wp2_with fail;refine bU (Gh (fun e=> !p e) _ l _ (HL.out.below ((an _ _).alloc (ag _) _)) 286 #[.pointer (some ⟨w.heap.size,0,none⟩)] (fun args w=>by rfl) ?_) ?_
  ·intro e he w' hw'
   obtain⟨hX,hw⟩:=boxed hw';exact GY (p e) _ Lq #[] _ w' hE hX (fun w2 h2=>by simpa using HP.out e he w2 (hw.trans (h2.mono hw.size)))
  rintro x w2 ⟨rfl,hb⟩;clear hE;have HF:=V f;clear f;have f:decide ((l.length:Int) <=fB)=true:=HF.out;go_wp2_with fail;go_ret;refine⟨?_,((an _ _).alloc (ag _) _).trans (hb.mono (by simp))⟩;have e1:l.all p= !(l.any fun e=> !p e):=by rw [bV];simp
  rw [f,e1,ct];rfl
 ·have f:decide ((l.length:Int) <=fB)=false:=aq q
  go_enter func248,ntmps248;go_wp2_with fail;go_ret;exact⟨by first | rfl | (rw [f];rfl),(an _ _).alloc (ag _) _⟩
def uc (n:Int):Bool:= !ml n 0 1000
theorem Fp (l:List Int):l.any uc=false↔∀n∈l,gp n:=by
 rw [dI]
 constructor
 ·intro h n hn
  have:=h n hn;simp only [uc,dt,Bool.not_eq_false]at this;exact kh.1 (by simpa using this)
 ·intro h n hn
  have:=kh.2 (h n hn);simp [uc,this]
theorem vV (n:Int) (w:World):Calls prog 153 #[.int .i64 n] w (eF (uc n) w):=by
 go_enter func153,ntmps153;go_wp2_with fail;refine(nH n _).mono ?_;rintro x w1 ⟨rfl,hb⟩;go_wp2_with fail;go_ret;exact⟨rfl,hb⟩
theorem Ai (v:Value) (l:List Int) (w:World) (hl:ew 1 fp w v l):
  Calls prog 100 #[v, .func (.func 153) #[] #[]] w (kj uc l w):=by
 have HI:=V hl;have hl':=hl;obtain⟨a,cap,rfl,h1,h2,_⟩:=hl';unfold maxLen at h2;clear hl;go_enter func100,ntmps100;go_wp2_with fail;refine eJ (fun a' w'=>∃(k:Nat),a'=fr (.slice a l.length cap:: .func (.func 153) #[] #[]::gs a' 2 5 (.int .i64 l.length:: .int .i64 k::gs a' 9 10 []))/\qc uc l w w' k) (fun a' _=>(l.length - (intOf (a'.tmps.getD 8 undef)).toNat)) ?_ ?_
 ·exact⟨0,rfl,by omega,fun i hi=>by omega,an _ _⟩
 ·skip
  rintro R a' w1 ⟨k,Lp,hJ⟩ HR;dsimp only [fr,gs]at Lp;generalize slot a'=f at Lp;subst Lp;obtain⟨hk,hm,hb⟩:=hJ;have Mt:=V hm;clear hm;by_cases Mm:k < l.length;rotate_left
  ·obtain rfl:k=l.length:=by omega
   go_wp2_with fail;go_ret;exact⟨by rw [hI Mt.out];rfl,hb⟩
  obtain⟨e,he⟩:∃e,l[k]?=some e:=⟨_,aw Mm⟩;obtain⟨a',LO,hv,_,_,Ln⟩:=HI.out.below (hb.mono (ag _));injection hv with e1 e2 e3;subst e1 e3;obtain⟨b,off,rfl,Lw,hc⟩:=Ln k e he;have c0:=hc 0 _ rfl;rw [aK,bq]at c0;have HE:=V he;clear Ln e2 he hc;have Lz:=vV e w1;cases hq:uc e
  all_goals
   rw [hq]at Lz;have HQ:=V hq;clear hq;go_wp2_with fail;refine Lz.mono ?_;rintro x w2 ⟨rfl,Lr⟩;replace hb:=ei hb Lr;clear Lz Lr;go_wp2_with fail
  ·refine HR.out _ _ ⟨k+1,rfl,by omega,?_,hb⟩ ?_
   ·intro i hi d hd
    rcases bD i k with h | h
    ·exact Mt.out i h d hd
    ·obtain rfl:i=k:=by omega
     rw [HE.out]at hd;injection hd with hd;rw [<- hd];exact HQ.out
   ·simp [intOf]
    omega
  ·go_ret
   exact⟨by rw [iA HE.out HQ.out Mt.out];rfl,hb⟩
theorem yB (v:Value) (l:List Int) (w:World) (hl:ew 1 fp w v l):
  Calls prog 63 #[v, .func (.func 153) #[] #[]] w (eF (l.any uc) w):=by
 go_enter func63,ntmps63;go_wp2_with fail;refine(Ai v l _ hl).mono ?_;rintro x w2 ⟨rfl,hb⟩;go_wp2_with fail;go_ret;exact⟨by rw [<- iK];rfl,hb⟩
def gP (f:Nat) (a b:Int) (l:List Int):Bool:=
 if(f≠4/\0 < l.length)\/(f≠6/\b≠0)then false else
 match f with
 | 1=>decide (a=0)
 | 2=>ml a 0 2
 | 3=>ml a 0 1000
 | 4=>ml a 0 1000&&(decide (l.length <=50)&& !l.any uc)
 | 5=>ml a 0 1000
 | 6=>ml a 0 3&&ml b 0 4294967295
 | 7=>decide (a=0)
 | 8=>ml a (-2147483648) 2147483647
 | 9=>true
 | _=>false
theorem Jn (x:eS):decide x.may=gP (fT x.op) x.a x.b x.l:=by
 rw [dE,decide_eq_true_iff];have RT:=od x.op;have hn:x.l=[]↔¬ 0 < x.l.length:=by rw [List.length_pos_iff];simp
 unfold eS.may gP;generalize fT x.op=f at*;by_cases h:(f≠4/\0 < x.l.length)\/(f≠6/\x.b≠0)
 ·rw [aJ h]
  rw [hn]
  constructor
  ·rintro⟨h1,h2,_⟩
   rcases h with⟨g1,g2⟩ | ⟨g1,g2⟩
   ·exact absurd g2 (h1 g1)
   ·exact absurd (h2 g1) g2
  ·intro g;cases g
 ·rw [aC h]
  have h1:f≠4 ->x.l=[]:=fun g=>by rw [hn];exact fun k=>h (.inl ⟨g,k⟩)
  have h2:f≠6 ->x.b=0:=fun g=>by
   rcases Decidable.em (x.b=0)with k | k
   ·exact k
   ·exact absurd (.inr ⟨g,k⟩) h
  have hs:(x.l.any uc=false)↔∀n∈x.l,gp n:=Fp x.l;rcases(show f=0\/f=1\/f=2\/f=3\/f=4\/f=5\/f=6\/f=7\/f=8\/f=9 by omega)with rfl | rfl | rfl | rfl | rfl | rfl | rfl | rfl | rfl | rfl
  ·simp
  ·simp [h1,h2]
  ·simp [h1,h2,kh]
  ·simp [h1,h2,kh,gp]
  ·simp [h2,kh,hs,gp]
  ·simp [h1,h2,kh,gp]
  ·simp [h1,kh]
  ·simp [h1,h2]
  ·simp [h1,h2,kh]
  ·simp [h1,h2]
theorem yv (x:eS) (u:Value) (w:World) (hx:gZ w x u):Calls prog 95 #[.agg #[.int .i64 x.op, .int .i64 x.a, .int .i64 x.b,u]] w (eF (decide x.may) w):=by
 have M8:=Jn x;have RT:=od x.op;obtain⟨op,a,b,l⟩:=x;have hx':=hx;obtain⟨⟨au,Lx,rfl,h1,h2,-⟩,Ly⟩:=hx';obtain⟨⟨o1,o2⟩,⟨a1,a2⟩,⟨b1,b2⟩,-⟩:=Ly;unfold maxLen at h2;simp only at M8 RT h1 h2 o1 o2 a1 a2 b1 b2;obtain⟨f,hf⟩:∃f,fT op=f:=⟨_,rfl⟩;obtain⟨m,hm⟩:∃m,decide (eS.may ⟨op,a,b,l⟩)=m:=⟨_,rfl⟩;rw [hf]at M8 RT;rw [hm]at M8;have HX:=V hx.1;have HF:=V hf;have HM:=V hm;have HB:=V M8;clear hx hf hm M8;go_enter func95,ntmps95;go_wp2_with fail;refine(uT op _).mono ?_;rintro e w1 ⟨rfl,LC⟩;rw [HF.out];have hb:Below w.heap.size w w1:=((an _ _).alloc (ag _) _).trans (LC.mono (by simp));have Ln:∀i v,(#[Value.int .i64 op, .int .i64 a, .int .i64 b, .slice au l.length Lx])[i]?=some v ->w1.cell? ⟨w.heap.size,i,none⟩=some v:=fun i v h=>by
  rw [LC.cell (by simp),bQ];exact h
 have c1:=Ln 1 _ rfl;have c2:=Ln 2 _ rfl;have c3:=Ln 3 _ rfl;have HX1:=V (HX.out.below hb);clear Ln LC;rcases(show f=0\/f=1\/f=2\/f=3\/f=4\/f=5\/f=6\/f=7\/f=8\/f=9 by omega)with rfl | rfl | rfl | rfl | rfl | rfl | rfl | rfl | rfl | rfl
 ·skip
  rcases aY l.length with q | q;rotate_left
  ·have q':¬ l=[]:=fun e=>by rw [e]at q;exact absurd q (by decide)
   have LU:Hid (gP 0 a b l=false):=V (by unfold gP;rw [if_pos (.inl ⟨by decide,q⟩)]);go_wp2_with fail;go_ret;exact⟨by rw [HM.out,HB.out,LU.out];rfl,hb⟩
  obtain rfl:=aH q;clear q;by_cases r:b=0;rotate_left
  ·have r':(b !=0)=true:=fw r
   have LU:Hid (gP 0 a b []=false):=V (by unfold gP;rw [if_pos (.inr ⟨by decide,r⟩)]);clear r;go_wp2_with fail;go_ret;exact⟨by rw [HM.out,HB.out,LU.out];rfl,hb⟩
  subst r;have LU:Hid (gP 0 a 0 []=false):=V (by unfold gP;exact(if_neg (by simp)).trans rfl);go_wp2_with fail;go_ret;exact⟨by rw [HM.out,HB.out,LU.out];rfl,hb⟩
 ·skip
  rcases aY l.length with q | q;rotate_left
  ·have q':¬ l=[]:=fun e=>by rw [e]at q;exact absurd q (by decide)
   have LU:Hid (gP 1 a b l=false):=V (by unfold gP;rw [if_pos (.inl ⟨by decide,q⟩)]);go_wp2_with fail;go_ret;exact⟨by rw [HM.out,HB.out,LU.out];rfl,hb⟩
  obtain rfl:=aH q;clear q;by_cases r:b=0;rotate_left
  ·have r':(b !=0)=true:=fw r
   have LU:Hid (gP 1 a b []=false):=V (by unfold gP;rw [if_pos (.inr ⟨by decide,r⟩)]);clear r;go_wp2_with fail;go_ret;exact⟨by rw [HM.out,HB.out,LU.out];rfl,hb⟩
  subst r;have LU:Hid (gP 1 a 0 []=decide (a=0)):=V (by unfold gP;exact(if_neg (by simp)).trans rfl);by_cases r:a=0
  ·have r':(a==0)=true:=eQ r
   have LU:Hid (gP 1 a 0 []=true):=V (by rw [LU.out,r];rfl);clear r;go_wp2_with fail;go_ret;exact⟨by rw [HM.out,HB.out,LU.out];rfl,hb⟩
  ·have r':(a==0)=false:=ed r
   have LU:Hid (gP 1 a 0 []=false):=V (by rw [LU.out];exact aq r);clear r;go_wp2_with fail;go_ret;exact⟨by rw [HM.out,HB.out,LU.out];rfl,hb⟩
 ·skip
  rcases aY l.length with q | q;rotate_left
  ·have q':¬ l=[]:=fun e=>by rw [e]at q;exact absurd q (by decide)
   have LU:Hid (gP 2 a b l=false):=V (by unfold gP;rw [if_pos (.inl ⟨by decide,q⟩)]);go_wp2_with fail;go_ret;exact⟨by rw [HM.out,HB.out,LU.out];rfl,hb⟩
  obtain rfl:=aH q;clear q;by_cases r:b=0;rotate_left
  ·have r':(b !=0)=true:=fw r
   have LU:Hid (gP 2 a b []=false):=V (by unfold gP;rw [if_pos (.inr ⟨by decide,r⟩)]);clear r;go_wp2_with fail;go_ret;exact⟨by rw [HM.out,HB.out,LU.out];rfl,hb⟩
  subst r;have LU:Hid (gP 2 a 0 []=ml a 0 2):=V (by unfold gP;exact(if_neg (by simp)).trans rfl);go_wp2_with fail;refine(kA a 0 2 _).mono ?_;rintro e w2 ⟨rfl,Lr⟩;replace hb:=ei hb Lr;clear Lr;go_wp2_with fail;go_ret;exact⟨by rw [HM.out,HB.out,LU.out];rfl,hb⟩
 ·skip
  rcases aY l.length with q | q;rotate_left
  ·have q':¬ l=[]:=fun e=>by rw [e]at q;exact absurd q (by decide)
   have LU:Hid (gP 3 a b l=false):=V (by unfold gP;rw [if_pos (.inl ⟨by decide,q⟩)]);go_wp2_with fail;go_ret;exact⟨by rw [HM.out,HB.out,LU.out];rfl,hb⟩
  obtain rfl:=aH q;clear q;by_cases r:b=0;rotate_left
  ·have r':(b !=0)=true:=fw r
   have LU:Hid (gP 3 a b []=false):=V (by unfold gP;rw [if_pos (.inr ⟨by decide,r⟩)]);clear r;go_wp2_with fail;go_ret;exact⟨by rw [HM.out,HB.out,LU.out];rfl,hb⟩
  subst r;have LU:Hid (gP 3 a 0 []=ml a 0 1000):=V (by unfold gP;exact(if_neg (by simp)).trans rfl);go_wp2_with fail;refine(nH a _).mono ?_;rintro e w2 ⟨rfl,Lr⟩;replace hb:=ei hb Lr;clear Lr;go_wp2_with fail;go_ret;exact⟨by rw [HM.out,HB.out,LU.out];rfl,hb⟩
 ·skip
  by_cases r:b=0;rotate_left
  ·have r':(b !=0)=true:=fw r
   have LU:Hid (gP 4 a b l=false):=V (by unfold gP;rw [if_pos (.inr ⟨by decide,r⟩)]);clear r;go_wp2_with fail;go_ret;exact⟨by rw [HM.out,HB.out,LU.out];rfl,hb⟩
  subst r;have LU:Hid (gP 4 a 0 l=(ml a 0 1000&&(decide (l.length <=50)&& !l.any uc))):=V (by unfold gP;exact(if_neg (by simp)).trans rfl);go_wp2_with fail;refine(nH a _).mono ?_;rintro e w2 ⟨rfl,Lr⟩;have c3':=(Lr.cell (aT w1 _ c3)).trans c3;clear c1 c2 c3;cases h6:ml a 0 1000
  ·have H6:=V h6
   replace hb:=hb.trans (Lr.mono hb.size);clear h6 Lr c3';go_wp2_with fail;go_ret;exact⟨by rw [HM.out,HB.out,LU.out,H6.out];rfl,hb⟩
  have H6:=V h6;clear h6;by_cases q:l.length <=50
  ·have q1:decide ((l.length:Int) <=50)=true:=aA (by omega)
   have Q:=V (aA q);clear q;go_wp2_with fail;refine(yB _ l _ (HX1.out.below (Lr.mono (ag _)))).mono ?_;rintro e w3 ⟨rfl,Mf⟩;replace hb:=(hb.trans (Lr.mono hb.size)).trans (Mf.mono (hb.trans (Lr.mono hb.size)).size);clear Lr Mf c3' q1;go_wp2_with fail;go_ret;exact⟨by rw [HM.out,HB.out,LU.out,H6.out,Q.out,ct,ct];rfl,hb⟩
  ·have q1:decide ((l.length:Int) <=50)=false:=aq (by omega)
   have Q:=V (aq q);replace hb:=hb.trans (Lr.mono hb.size);clear q Lr;go_wp2_with fail;go_ret;exact⟨by rw [HM.out,HB.out,LU.out,H6.out,Q.out];rfl,hb⟩
 ·skip
  rcases aY l.length with q | q;rotate_left
  ·have q':¬ l=[]:=fun e=>by rw [e]at q;exact absurd q (by decide)
   have LU:Hid (gP 5 a b l=false):=V (by unfold gP;rw [if_pos (.inl ⟨by decide,q⟩)]);go_wp2_with fail;go_ret;exact⟨by rw [HM.out,HB.out,LU.out];rfl,hb⟩
  obtain rfl:=aH q;clear q;by_cases r:b=0;rotate_left
  ·have r':(b !=0)=true:=fw r
   have LU:Hid (gP 5 a b []=false):=V (by unfold gP;rw [if_pos (.inr ⟨by decide,r⟩)]);clear r;go_wp2_with fail;go_ret;exact⟨by rw [HM.out,HB.out,LU.out];rfl,hb⟩
  subst r;have LU:Hid (gP 5 a 0 []=ml a 0 1000):=V (by unfold gP;exact(if_neg (by simp)).trans rfl);go_wp2_with fail;refine(nH a _).mono ?_;rintro e w2 ⟨rfl,Lr⟩;replace hb:=ei hb Lr;clear Lr;go_wp2_with fail;go_ret;exact⟨by rw [HM.out,HB.out,LU.out];rfl,hb⟩
 ·skip
  rcases aY l.length with q | q;rotate_left
  ·have q':¬ l=[]:=fun e=>by rw [e]at q;exact absurd q (by decide)
   have LU:Hid (gP 6 a b l=false):=V (by unfold gP;rw [if_pos (.inl ⟨by decide,q⟩)]);go_wp2_with fail;go_ret;exact⟨by rw [HM.out,HB.out,LU.out];rfl,hb⟩
  obtain rfl:=aH q;clear q;have LU:Hid (gP 6 a b []=(ml a 0 3&&ml b 0 4294967295)):=V (by unfold gP;exact(if_neg (by simp)).trans rfl);go_wp2_with fail;refine(kA a 0 3 _).mono ?_;rintro e w2 ⟨rfl,Lr⟩;have c2':=(Lr.cell (aT w1 _ c2)).trans c2;clear c1 c2 c3;cases h6:ml a 0 3
  ·have H6:=V h6
   replace hb:=hb.trans (Lr.mono hb.size);clear h6 Lr c2';go_wp2_with fail;go_ret;exact⟨by rw [HM.out,HB.out,LU.out,H6.out];rfl,hb⟩
  have H6:=V h6;clear h6;go_wp2_with fail;refine(kA b 0 4294967295 _).mono ?_;rintro e w3 ⟨rfl,Mf⟩;replace hb:=(hb.trans (Lr.mono hb.size)).trans (Mf.mono (hb.trans (Lr.mono hb.size)).size);clear Lr Mf c2';go_wp2_with fail;go_ret;exact⟨by rw [HM.out,HB.out,LU.out,H6.out,ct];rfl,hb⟩
 ·skip
  rcases aY l.length with q | q;rotate_left
  ·have q':¬ l=[]:=fun e=>by rw [e]at q;exact absurd q (by decide)
   have LU:Hid (gP 7 a b l=false):=V (by unfold gP;rw [if_pos (.inl ⟨by decide,q⟩)]);go_wp2_with fail;go_ret;exact⟨by rw [HM.out,HB.out,LU.out];rfl,hb⟩
  obtain rfl:=aH q;clear q;by_cases r:b=0;rotate_left
  ·have r':(b !=0)=true:=fw r
   have LU:Hid (gP 7 a b []=false):=V (by unfold gP;rw [if_pos (.inr ⟨by decide,r⟩)]);clear r;go_wp2_with fail;go_ret;exact⟨by rw [HM.out,HB.out,LU.out];rfl,hb⟩
  subst r;have LU:Hid (gP 7 a 0 []=decide (a=0)):=V (by unfold gP;exact(if_neg (by simp)).trans rfl);by_cases r:a=0
  ·have r':(a==0)=true:=eQ r
   have LU:Hid (gP 7 a 0 []=true):=V (by rw [LU.out,r];rfl);clear r;go_wp2_with fail;go_ret;exact⟨by rw [HM.out,HB.out,LU.out];rfl,hb⟩
  ·have r':(a==0)=false:=ed r
   have LU:Hid (gP 7 a 0 []=false):=V (by rw [LU.out];exact aq r);clear r;go_wp2_with fail;go_ret;exact⟨by rw [HM.out,HB.out,LU.out];rfl,hb⟩
 ·skip
  rcases aY l.length with q | q;rotate_left
  ·have q':¬ l=[]:=fun e=>by rw [e]at q;exact absurd q (by decide)
   have LU:Hid (gP 8 a b l=false):=V (by unfold gP;rw [if_pos (.inl ⟨by decide,q⟩)]);go_wp2_with fail;go_ret;exact⟨by rw [HM.out,HB.out,LU.out];rfl,hb⟩
  obtain rfl:=aH q;clear q;by_cases r:b=0;rotate_left
  ·have r':(b !=0)=true:=fw r
   have LU:Hid (gP 8 a b []=false):=V (by unfold gP;rw [if_pos (.inr ⟨by decide,r⟩)]);clear r;go_wp2_with fail;go_ret;exact⟨by rw [HM.out,HB.out,LU.out];rfl,hb⟩
  subst r;have LU:Hid (gP 8 a 0 []=ml a (-2147483648) 2147483647):=V (by unfold gP;exact(if_neg (by simp)).trans rfl);go_wp2_with fail;refine(kA a (-2147483648) 2147483647 _).mono ?_;rintro e w2 ⟨rfl,Lr⟩;replace hb:=ei hb Lr;clear Lr;go_wp2_with fail;go_ret;exact⟨by rw [HM.out,HB.out,LU.out];rfl,hb⟩
 ·skip
  rcases aY l.length with q | q;rotate_left
  ·have q':¬ l=[]:=fun e=>by rw [e]at q;exact absurd q (by decide)
   have LU:Hid (gP 9 a b l=false):=V (by unfold gP;rw [if_pos (.inl ⟨by decide,q⟩)]);go_wp2_with fail;go_ret;exact⟨by rw [HM.out,HB.out,LU.out];rfl,hb⟩
  obtain rfl:=aH q;clear q;by_cases r:b=0;rotate_left
  ·have r':(b !=0)=true:=fw r
   have LU:Hid (gP 9 a b []=false):=V (by unfold gP;rw [if_pos (.inr ⟨by decide,r⟩)]);clear r;go_wp2_with fail;go_ret;exact⟨by rw [HM.out,HB.out,LU.out];rfl,hb⟩
  subst r;have LU:Hid (gP 9 a 0 []=true):=V (by unfold gP;exact(if_neg (by simp)).trans rfl);go_wp2_with fail;go_ret;exact⟨by rw [HM.out,HB.out,LU.out];rfl,hb⟩
theorem lF {α:Type} (p:α ->Prop) [DecidablePred p] (l:List α) (n:Int):(decide ((l.length:Int) <=n)&&l.all fun x=>decide (p x))=decide ((l.length:Int) <=n/\∀x∈l,p x):=by
 rw [dE];simp
theorem qK (n:Int) (w:World):Calls prog 159 #[.int .i64 n] w (eF (decide (gp n)) w):=by
 by_cases q1:0 <=n
 ·have f1:decide (0 <=n)=true:=aA q1
  have HB:Hid (decide (gp n)=decide (n <=1000)):=V (by simp [gp,q1]);clear q1;go_enter func159,ntmps159;go_wp2_with fail;go_ret;exact⟨by rw [HB.out];rfl,an _ _⟩
 ·have f1:decide (0 <=n)=false:=aq q1
  have HB:Hid (decide (gp n)=false):=V (by simp [gp,q1]);clear q1;go_enter func159,ntmps159;go_wp2_with fail;go_ret;exact⟨by rw [HB.out];rfl,an _ _⟩
theorem C2 (n:Int) (w:World):Calls prog 93 #[.int .i64 n] w (eF (decide (kindOk n)) w):=by
 by_cases q1:n=1
 ·have HB:Hid (decide (kindOk n)=true):=V (by simp [kindOk,q1])
  have f1:=eQ q1;clear q1;go_enter func93,ntmps93;go_wp2_with fail;go_ret;exact⟨by rw [HB.out];rfl,an _ _⟩
 ·have f1:=ed q1
  have HB:Hid (decide (kindOk n)=(n==2)):=V (by simp only [kindOk,q1,false_or];rw [dE];simp);clear q1;go_enter func93,ntmps93;go_wp2_with fail;go_ret;exact⟨by rw [HB.out];rfl,an _ _⟩
theorem yL (n:Int) (w:World):Calls prog 166 #[.int .i64 n] w (eF (decide (mC n)) w):=by
 by_cases q1: -2147483648 <=n
 ·have f1:decide (-2147483648 <=n)=true:=aA q1
  have HB:Hid (decide (mC n)=decide (n <=2147483647)):=V (by simp [mC,q1]);clear q1;go_enter func166,ntmps166;go_wp2_with fail;go_ret;exact⟨by rw [HB.out];rfl,an _ _⟩
 ·have f1:decide (-2147483648 <=n)=false:=aq q1
  have HB:Hid (decide (mC n)=false):=V (by simp only [mC,q1,false_and];rfl);clear q1;go_enter func166,ntmps166;go_wp2_with fail;go_ret;exact⟨by rw [HB.out];rfl,an _ _⟩
theorem zk (c:UInt8) (w:World):Calls prog 249 #[bv c] w (eF (decide (32 <=c.toNat/\c.toNat <=126)) w):=by
 by_cases q1:32 <=c.toNat
 ·have f1:decide ((32:Int) <=c.toNat)=true:=aA (by omega)
  have HB:Hid (decide (32 <=c.toNat/\c.toNat <=126)=decide ((c.toNat:Int) <=126)):=V (by rw [dE];simp [q1];omega);clear q1;go_enter func249,ntmps249;go_wp2_with fail;go_ret;exact⟨by rw [HB.out];rfl,an _ _⟩
 ·have f1:decide ((32:Int) <=c.toNat)=false:=aq (by omega)
  have HB:Hid (decide (32 <=c.toNat/\c.toNat <=126)=false):=V (by simp [q1]);clear q1;go_enter func249,ntmps249;go_wp2_with fail;go_ret;exact⟨by rw [HB.out];rfl,an _ _⟩
theorem oB (v:Value) (l:List Int) (n:Int) (w:World) (hl:ew 1 fp w v l):Calls prog 92 #[v, .int .i64 n, .func (.func 93) #[] #[]] w (eF (decide ((l.length:Int) <=n/\∀k∈l,kindOk k)) w):=by
 rw [<- lF];exact uH (fun k=>decide (kindOk k)) v l w hl 93 n (fun _ _=>by rfl) (fun e _ w' _=>C2 e w')
theorem qk (v:Value) (l:List Int) (n:Int) (w:World) (hl:ew 1 fp w v l):Calls prog 92 #[v, .int .i64 n, .func (.func 159) #[] #[]] w (eF (decide ((l.length:Int) <=n/\∀k∈l,gp k)) w):=by
 rw [<- lF];exact uH (fun k=>decide (gp k)) v l w hl 159 n (fun _ _=>by rfl) (fun e _ w' _=>qK e w')
theorem vZ (v:Value) (l:List eS) (n:Int) (w:World) (hl:gx w v l):Calls prog 94 #[v, .int .i64 n, .func (.func 95) #[] #[]] w (eF (decide ((l.length:Int) <=n/\∀y∈l,y.may)) w):=by
 rw [<- lF];exact GQ (fun y=>decide y.may) v l w hl 95 n (fun _ _=>by rfl) (fun e _ u w' _ hu=>yv e u w' hu)
theorem GI (e:gN) (u:Value × Value) (w:World) (hu:gW w e u):Calls prog 155 #[.agg #[u.1,u.2]] w (eF (decide e.may) w):=by
 obtain⟨u1,u2⟩:=u;have HU:=V hu;obtain⟨⟨⟨a1,LF,Nk,-,-,-⟩,⟨a2,Lu,Nw,-,-,-⟩⟩,-⟩:=id hu;simp only at Nk Nw;subst Nk Nw;have HM:Hid (decide e.may=(decide ((e.params.length:Int) <=32/\∀k∈e.params,kindOk k)&&decide ((e.results.length:Int) <=1/\∀k∈e.results,kindOk k))):=V (by rw [<- cK];exact dg.2 (and_congr (dT (by omega)) (dT (by omega))));have B0:=eP.new w #[.slice a1 e.params.length LF, .slice a2 e.results.length Lu] 109;have h0:Below w.heap.size w (w.alloc (.cells #[.slice a1 e.params.length LF, .slice a2 e.results.length Lu] 109)):=(an _ _).alloc (ag _) _;clear hu;go_enter func155,ntmps155;go_wp2_with fail;refine(oB _ e.params 32 _ (HU.out.1.1.below h0)).mono ?_;rintro x w2 ⟨rfl,hb⟩;obtain⟨r1,hr⟩:∃r,decide ((e.params.length:Int) <=32/\∀k∈e.params,kindOk k)=r:=⟨_,rfl⟩;rw [hr];have R1:=V hr;clear hr;have B1:=B0.below hb B0.lt;have h1:=h0.trans (hb.mono h0.size);have c1:w2.cell? ⟨w.heap.size,1,none⟩=some (.slice a2 e.results.length Lu):=B1.cell 1;cases r1
 ·go_wp2_with fail
  go_ret;exact⟨by rw [HM.out,R1.out];rfl,h1⟩
 ·go_wp2_with fail
  refine(oB _ e.results 1 _ (HU.out.1.2.below h1)).mono ?_;rintro x w3 ⟨rfl,hb⟩;obtain⟨r2,hr⟩:∃r,decide ((e.results.length:Int) <=1/\∀k∈e.results,kindOk k)=r:=⟨_,rfl⟩;rw [hr];have R2:=V hr;clear hr;go_wp2_with fail;go_ret;exact⟨by rw [HM.out,R1.out,R2.out];rfl,h1.trans (hb.mono h1.size)⟩
theorem sc (s:ByteArray) (w:World) (hs:s.size <=1000000000000):Calls prog 158 #[.string s] w (eF (decide (kk s)) w):=by
 have hse:s.toList=s.data.toList:=by
  have:=lR s.data.toList;exact this
 have kc:=fun(w:World)=>D1 w s;by_cases q:s.data.toList=[]
 ·have f:s.toList.isEmpty=true:=by rw [hse,q];rfl
  have HB:Hid (decide (kk s)=false):=V (by simp [kk,q]);clear hse q;go_enter func158,ntmps158;go_wp2_with fail;go_ret;exact⟨by rw [HB.out];rfl,an _ _⟩
 ·have f:s.toList.isEmpty=false:=by
   rw [hse];cases h:s.data.toList with
   | nil=>exact absurd h q
   | cons x l=>rfl
  have HB:Hid (decide (kk s)=decide ((s.data.toList.length:Int) <=16/\∀c∈s.data.toList,32 <=c.toNat/\c.toNat <=126)):=V (dg.2 ⟨fun h=>⟨by have:=h.2.1;omega,h.2.2⟩,fun h=>⟨q,by have:=h.1;omega,h.2⟩⟩);clear hse q;go_enter func158,ntmps158;go_wp2_with fail;refine(El (fun c=>decide (32 <=c.toNat/\c.toNat <=126)) _ s.data.toList _ (Hi w s hs) 249 16 (fun _ _=>by rfl) (fun e _ w' _=>zk e w')).mono ?_;rintro x w2 ⟨rfl,hb⟩;obtain⟨r1,hr⟩:∃r,(decide ((s.data.toList.length:Int) <=16)&&s.data.toList.all fun c=>decide (32 <=c.toNat/\c.toNat <=126))=r:=⟨_,rfl⟩;rw [hr];have R1:=V hr;clear hr;go_wp2_with fail;go_ret;exact⟨by rw [HB.out, <- lF,R1.out];rfl,(tR w s).trans (hb.mono (tR w s).size)⟩
theorem GL (e:jt) (w:World) (hs:e.mod.size <=1000000000000/\e.name.size <=1000000000000):Calls prog 157 #[.agg #[.string e.mod, .string e.name, .int .i64 e.type]] w (eF (decide e.may) w):=by
 have HM:Hid (decide e.may=(decide (kk e.mod)&&(decide (kk e.name)&&decide (gp e.type)))):=V (by rw [<- cK, <- cK];rfl);have B0:=eP.new w #[.string e.mod, .string e.name, .int .i64 e.type] 118;have h0:Below w.heap.size w (w.alloc (.cells #[.string e.mod, .string e.name, .int .i64 e.type] 118)):=(an _ _).alloc (ag _) _;go_enter func157,ntmps157;go_wp2_with fail;refine(sc e.mod _ hs.1).mono ?_;rintro x w2 ⟨rfl,hb⟩;obtain⟨r1,hr⟩:∃r,decide (kk e.mod)=r:=⟨_,rfl⟩;rw [hr];have R1:=V hr;clear hr;have B1:=B0.below hb B0.lt;have h1:=h0.trans (hb.mono h0.size);have c1:w2.cell? ⟨w.heap.size,1,none⟩=some (.string e.name):=B1.cell 1;cases r1
 ·go_wp2_with fail
  go_ret;exact⟨by rw [HM.out,R1.out];rfl,h1⟩
 ·go_wp2_with fail
  refine(sc e.name _ hs.2).mono ?_;rintro x w3 ⟨rfl,hb⟩;obtain⟨r2,hr⟩:∃r,decide (kk e.name)=r:=⟨_,rfl⟩;rw [hr];have R2:=V hr;clear hr;have B2:=B1.below hb B1.lt;have h2:=h1.trans (hb.mono h1.size);have c2:w3.cell? ⟨w.heap.size,2,none⟩=some (.int .i64 e.type):=B2.cell 2;cases r2
  ·go_wp2_with fail
   go_ret;exact⟨by rw [HM.out,R1.out,R2.out];rfl,h2⟩
  ·go_wp2_with fail
   refine(qK e.type _).mono ?_;rintro x w4 ⟨rfl,hb⟩;obtain⟨r3,hr⟩:∃r,decide (gp e.type)=r:=⟨_,rfl⟩;rw [hr];have R3:=V hr;clear hr;go_wp2_with fail;go_ret;exact⟨by rw [HM.out,R1.out,R2.out,R3.out];rfl,h2.trans (hb.mono h2.size)⟩
theorem Gf (e:jg) (w:World):Calls prog 161 #[.agg #[.bool e.isVar, .int .i64 e.init.kind, .int .i64 e.init.n]] w (eF (decide e.init.may) w):=by
 have B0:=eP.new w #[.bool e.isVar, .int .i64 e.init.kind, .int .i64 e.init.n] 120;have h0:Below w.heap.size w (w.alloc (.cells #[.bool e.isVar, .int .i64 e.init.kind, .int .i64 e.init.n] 120)):=(an _ _).alloc (ag _) _;go_enter func161,ntmps161;go_wp2_with fail;refine(nC e.init _).mono ?_;rintro x w2 ⟨rfl,hb⟩;obtain⟨r1,hr⟩:∃r,decide e.init.may=r:=⟨_,rfl⟩;rw [hr];have R1:=V hr;clear hr;go_wp2_with fail;go_ret;exact⟨by rw [R1.out];rfl,h0.trans (hb.mono h0.size)⟩
theorem F1 (e:iO) (w:World) (hs:e.name.size <=1000000000000):Calls prog 163 #[.agg #[.string e.name, .int .i64 e.func]] w (eF (decide e.may) w):=by
 have HM:Hid (decide e.may=(decide (kk e.name)&&decide (gp e.func))):=V (by rw [<- cK];rfl);have B0:=eP.new w #[.string e.name, .int .i64 e.func] 111;have h0:Below w.heap.size w (w.alloc (.cells #[.string e.name, .int .i64 e.func] 111)):=(an _ _).alloc (ag _) _;go_enter func163,ntmps163;go_wp2_with fail;refine(sc e.name _ hs).mono ?_;rintro x w2 ⟨rfl,hb⟩;obtain⟨r1,hr⟩:∃r,decide (kk e.name)=r:=⟨_,rfl⟩;rw [hr];have R1:=V hr;clear hr;have B1:=B0.below hb B0.lt;have h1:=h0.trans (hb.mono h0.size);have c1:w2.cell? ⟨w.heap.size,1,none⟩=some (.int .i64 e.func):=B1.cell 1;cases r1
 ·go_wp2_with fail
  go_ret;exact⟨by rw [HM.out,R1.out];rfl,h1⟩
 ·go_wp2_with fail
  refine(qK e.func _).mono ?_;rintro x w4 ⟨rfl,hb⟩;obtain⟨r3,hr⟩:∃r,decide (gp e.func)=r:=⟨_,rfl⟩;rw [hr];have R3:=V hr;clear hr;go_wp2_with fail;go_ret;exact⟨by rw [HM.out,R1.out,R3.out];rfl,h1.trans (hb.mono h1.size)⟩
theorem EV (e:jb) (u:Value) (w:World) (hu:ig w e u):Calls prog 165 #[.agg #[.int .i64 e.off,u]] w (eF (decide e.may) w):=by
 have HU:=V hu;obtain⟨⟨a1,LF,rfl,-,-,-⟩,-⟩:=id hu;clear hu;have HM:Hid (decide e.may=(decide (mC e.off)&&decide ((e.funcs.length:Int) <=50/\∀n∈e.funcs,gp n))):=V (by rw [<- cK];exact dg.2 (and_congr_right' (dT (by omega))));have B0:=eP.new w #[.int .i64 e.off, .slice a1 e.funcs.length LF] 95;have h0:Below w.heap.size w (w.alloc (.cells #[.int .i64 e.off, .slice a1 e.funcs.length LF] 95)):=(an _ _).alloc (ag _) _;go_enter func165,ntmps165;go_wp2_with fail;refine(yL e.off _).mono ?_;rintro x w2 ⟨rfl,hb⟩;obtain⟨r1,hr⟩:∃r,decide (mC e.off)=r:=⟨_,rfl⟩;rw [hr];have R1:=V hr;clear hr;have B1:=B0.below hb B0.lt;have h1:=h0.trans (hb.mono h0.size);have c1:w2.cell? ⟨w.heap.size,1,none⟩=some (.slice a1 e.funcs.length LF):=B1.cell 1;cases r1
 ·go_wp2_with fail
  go_ret;exact⟨by rw [HM.out,R1.out];rfl,h1⟩
 ·go_wp2_with fail
  refine(qk _ e.funcs 50 _ (HU.out.1.below h1)).mono ?_;rintro x w4 ⟨rfl,hb⟩;obtain⟨r3,hr⟩:∃r,decide ((e.funcs.length:Int) <=50/\∀n∈e.funcs,gp n)=r:=⟨_,rfl⟩;rw [hr];have R3:=V hr;clear hr;go_wp2_with fail;go_ret;exact⟨by rw [HM.out,R1.out,R3.out];rfl,h1.trans (hb.mono h1.size)⟩
theorem Ec (e:gD) (u:Value) (w:World) (hu:gE w e u):Calls prog 168 #[.agg #[.int .i64 e.off,u]] w (eF (decide e.may) w):=by
 have HU:=V hu;obtain⟨⟨a1,LF,rfl,-,-,-⟩,-⟩:=id hu;clear hu;have HM:Hid (decide e.may=(decide (mC e.off)&&decide ((e.bytes.length:Int) <=1000))):=V (by rw [<- cK];exact dg.2 (and_congr_right' (by omega)));have B0:=eP.new w #[.int .i64 e.off, .slice a1 e.bytes.length LF] 99;have h0:Below w.heap.size w (w.alloc (.cells #[.int .i64 e.off, .slice a1 e.bytes.length LF] 99)):=(an _ _).alloc (ag _) _;go_enter func168,ntmps168;go_wp2_with fail;refine(yL e.off _).mono ?_;rintro x w2 ⟨rfl,hb⟩;obtain⟨r1,hr⟩:∃r,decide (mC e.off)=r:=⟨_,rfl⟩;rw [hr];have R1:=V hr;clear hr;have B1:=B0.below hb B0.lt;have h1:=h0.trans (hb.mono h0.size);have c1:w2.cell? ⟨w.heap.size,1,none⟩=some (.slice a1 e.bytes.length LF):=B1.cell 1;cases r1
 ·go_wp2_with fail
  go_ret;exact⟨by rw [HM.out,R1.out];rfl,h1⟩
 ·go_wp2_with fail
  go_ret;exact⟨by rw [HM.out,R1.out];rfl,h1⟩
theorem Ge (e:gS) (u:Value × Value) (w:World) (hu:gU w e u):Calls prog 91 #[.agg #[u.1,u.2]] w (eF (decide e.may) w):=by
 obtain⟨u1,u2⟩:=u;have HU:=V hu;obtain⟨⟨⟨a1,LF,Nk,-,-,-⟩,Mg⟩,-⟩:=id hu;obtain⟨a2,Lu,Nw,-,-⟩:=et.slice Mg;simp only at Nk Nw;subst Nk Nw;clear Mg hu;have HM:Hid (decide e.may=((fI e.body).isSome&&(decide ((e.locals.length:Int) <=32/\∀k∈e.locals,kindOk k)&&decide ((e.body.length:Int) <=300/\∀y∈e.body,y.may)))):=V (by
  rw [<- cK,show(fI e.body).isSome=decide ((fI e.body).isSome=true)by simp, <- cK];exact dg.2 (and_congr_right' (and_congr (dT (by omega)) (dT (by omega)))))
 have B0:=eP.new w #[.slice a1 e.locals.length LF, .slice a2 e.body.length Lu] 69;have h0:Below w.heap.size w (w.alloc (.cells #[.slice a1 e.locals.length LF, .slice a2 e.body.length Lu] 69)):=(an _ _).alloc (ag _) _;have c1:(w.alloc (.cells #[.slice a1 e.locals.length LF, .slice a2 e.body.length Lu] 69)).cell? ⟨w.heap.size,1,none⟩=some (.slice a2 e.body.length Lu):=B0.cell 1;go_enter func91,ntmps91;go_wp2_with fail;refine(pW _ e.body _ (HU.out.1.2.below h0)).mono ?_;rintro x w2 ⟨hb,⟨bs,v,hm,rfl,-⟩ | ⟨hm,rfl⟩⟩;rotate_left
 ·have R1:=V (show(fI e.body).isSome=false by rw [hm];rfl)
  have h1:=h0.trans (hb.mono h0.size);clear hm hb;go_wp2_with fail;go_ret;exact⟨by rw [HM.out,R1.out];rfl,h1⟩
 have R1:=V (show(fI e.body).isSome=true by rw [hm];rfl);have B1:=B0.below hb B0.lt;have h1:=h0.trans (hb.mono h0.size);have c0:w2.cell? ⟨w.heap.size,0,none⟩=some (.slice a1 e.locals.length LF):=B1.cell 0;clear hm hb c1;go_wp2_with fail;refine(oB _ e.locals 32 _ (HU.out.1.1.below h1)).mono ?_;rintro x w3 ⟨rfl,hb⟩;obtain⟨r2,hr⟩:∃r,decide ((e.locals.length:Int) <=32/\∀k∈e.locals,kindOk k)=r:=⟨_,rfl⟩;rw [hr];have R2:=V hr;clear hr;have B2:=B1.below hb B1.lt;have h2:=h1.trans (hb.mono h1.size);have c1:w3.cell? ⟨w.heap.size,1,none⟩=some (.slice a2 e.body.length Lu):=B2.cell 1;clear c0;cases r2
 ·go_wp2_with fail
  go_ret;exact⟨by rw [HM.out,R1.out,R2.out];rfl,h2⟩
 ·go_wp2_with fail
  refine(vZ _ e.body 300 _ (HU.out.1.2.below h2)).mono ?_;rintro x w4 ⟨rfl,hb⟩;obtain⟨r3,hr⟩:∃r,decide ((e.body.length:Int) <=300/\∀y∈e.body,y.may)=r:=⟨_,rfl⟩;rw [hr];have R3:=V hr;clear hr;go_wp2_with fail;go_ret;exact⟨by rw [HM.out,R1.out,R2.out,R3.out];rfl,h2.trans (hb.mono h2.size)⟩
end Go.Proofs.YthbjdhjppbcneaaGreatDoor
