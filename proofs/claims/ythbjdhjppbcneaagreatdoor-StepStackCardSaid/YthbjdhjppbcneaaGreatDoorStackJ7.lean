import Derived.Test.YthbjdhjppbcneaaGreatDoorStackJ6
import Derived.Deep.Cut
namespace Go.Proofs.YthbjdhjppbcneaaGreatDoor
set_option maxRecDepth 100000
set_option maxHeartbeats 20000000
open Go.RowKit Tryz
open Lib renaming hid->V
set_option linter.all false
theorem oJ.seq {α β:Type} {a:iP α} {b:iP β} (ha:oJ a) (hb:oJ b):oJ (jX a b):=by
 intro l y hy;simp only [jX]at hy;cases h:a l with
 | none=>rw [h]at hy;simp at hy
 | some x=>
  rw [h]at hy;simp only [aw]at hy;cases h2:b x.2 with
  | none=>rw [h2]at hy;simp at hy
  | some z=>
   rw [h2]at hy;simp only [aw,aX]at hy;subst hy;exact aW (hb _ _ h2) (ha _ _ h)
theorem zL:oJ gp:=by
 intro l y hy;obtain⟨p,rfl⟩:=oE (x:=y.1) (r:=y.2) hy;simp
theorem ur:∀(f:Nat) (acc:List eK) (deep:Int) (l:List UInt8) (y:List eK × List UInt8),kn f acc deep l=some y ->∃p,l=p++y.2
 | 0,_,_,_,_,h=>by cases h
 | f+1,acc,deep,l,y,h=>by
  rw [kn]at h;cases hi:gp l with
  | none=>rw [hi]at h;cases h
  | some x=>
   obtain⟨p,hp⟩:=oE (x:=x.1) (r:=x.2) hi;rw [hi]at h;simp only [aw]at h;split at h
   ·split at h
    ·injection h with h
     subst h;exact⟨p,hp⟩
    ·cases h
   ·split at h
    ·cases h
    ·obtain⟨q,hq⟩:=ur f _ _ _ _ h
     exact⟨p++q,by rw [aP, <- hq];exact hp⟩
theorem vR {l:List UInt8} {y:List eK × List UInt8} (h:kX l=some y):∃p,l=p++y.2:=ur _ _ _ _ _ h
theorem Bh:oJ kX:=by
 intro l y hy;obtain⟨p,hp⟩:=vR hy;rw [hp];simp
theorem tl:iD gE:=by
 intro l y hy;unfold gE at hy;cases hi:gp l with
 | none=>rw [hi]at hy;cases hy
 | some x=>
  have h1:=zL l x hi;rw [hi]at hy;simp only [aw]at hy;split at hy
  ·cases hb:eX x.2 with
   | none=>rw [hb]at hy;cases hy
   | some c=>
    rw [hb]at hy;injection hy with hy;subst hy;have:=ky _ _ hb;simp only;omega
  ·cases hy
theorem tW:iD ji:=by rw [rI];exact(ky.seq tl.lL).map
theorem oq:iD uN:=by rw [qz];exact kR.map
theorem vN:iD lY:=by
 intro l y hy;unfold lY at hy;cases h:fQ l with
 | none=>rw [h]at hy;cases hy
 | some x=>
  rw [h]at hy;simp only [aw]at hy;split at hy
  ·cases hy
  ·injection hy with hy
   subst hy;have:=kR l x h;simp only [bm];omega
theorem pY:iD jz:=by rw [sS];exact vN.map
theorem oQ:iD fZ:=by
 intro l y hy;unfold fZ at hy;cases hc:eX l with
 | none=>rw [hc]at hy;cases hy
 | some c=>
  have h1:=ky _ _ hc;rw [hc]at hy;simp only [aw]at hy;cases hn:fQ c.2 with
  | none=>rw [hn]at hy;cases hy
  | some n=>
   have h2:=kR _ _ hn;rw [hn]at hy;simp only [aw]at hy;split at hy
   ·injection hy with hy
    subst hy;simp only;omega
   ·cases hm:fQ n.2 with
    | none=>rw [hm]at hy;cases hy
    | some m=>
     have h3:=kR _ _ hm;rw [hm]at hy;injection hy with hy;subst hy;simp only;omega
theorem sT:iD kS:=by rw [rN];exact(ky.seq oQ.lL).map
theorem wi:iD oS:=by rw [uB];exact(ky.seq ((gY lx).lL.seq (gY lx).lL)).map
theorem yI:iD uw:=by rw [xg];exact(pY.seq (pY.lL.seq (ky.lL.seq oq.lL))).map
theorem vS:iD o8:=by rw [tM];exact(lx.seq (ky.lL.seq tl.lL)).map
theorem yg:iD tN:=by rw [wV];exact(pY.seq (ky.lL.seq oq.lL)).map
theorem wv:iD oU:=by rw [pf];exact(tW.seq (gY oq).lL).map
theorem zt:iD uD:=by rw [wY];exact(tW.seq vN.lL).map
theorem yi:iD lR:=by
 intro l y hy;unfold lR at hy;cases hn:fQ l with
 | none=>rw [hn]at hy;cases hy
 | some n=>
  have h1:=kR _ _ hn;rw [hn]at hy;simp only [aw]at hy;cases hk:gH n.2 with
  | none=>rw [hk]at hy;cases hy
  | some k=>
   have h2:=lx _ _ hk;rw [hk]at hy;simp only [aw]at hy;split at hy
   ·cases hy
   ·injection hy with hy
    subst hy;simp only;omega
theorem kp:jy=gO iN (fh lR):=by
 funext l
 simp only [jy,gO];cases fh lR l <;>rfl
theorem zJ:iD jy:=by rw [kp];exact(gY yi).map
theorem tm:lO=gO (fun x=>⟨x.2.1,x.2.2⟩) (jX fQ (jX jy kX)):=by
 funext l
 simp only [lO,gO,jX];cases h1:fQ l with
 | none=>rfl
 | some a=>
  simp only [aw];cases h2:jy a.2 with
  | none=>rfl
  | some b=>
   simp only [aw];cases kX b.2 <;>rfl
theorem vT:iD lO:=by rw [tm];exact(kR.seq (zJ.lL.seq Bh)).map
theorem FN (m:ew):(jN 1 m:iP ew)=gO (fun x=>{m with types:=x}) (fh oS):=by funext l;simp only [jN,gO];cases fh oS l <;>rfl
theorem Fa (m:ew):(jN 2 m:iP ew)=gO (fun x=>{m with imports:=x}) (fh uw):=by funext l;simp only [jN,gO];cases fh uw l <;>rfl
theorem D8 (m:ew):(jN 3 m:iP ew)=gO (fun x=>{m with funcs:=x}) (fh uN):=by funext l;simp only [jN,gO];cases fh uN l <;>rfl
theorem Eu (m:ew):(jN 4 m:iP ew)=gO (fun x=>{m with table:=jM x}) (fh kS):=by funext l;simp only [jN,gO];cases fh kS l <;>rfl
theorem Fy (m:ew):(jN 5 m:iP ew)=gO (fun x=>{m with mem:=jM x}) (fh fZ):=by funext l;simp only [jN,gO];cases fh fZ l <;>rfl
theorem DL (m:ew):(jN 6 m:iP ew)=gO (fun x=>{m with globals:=x}) (fh o8):=by funext l;simp only [jN,gO];cases fh o8 l <;>rfl
theorem E6 (m:ew):(jN 7 m:iP ew)=gO (fun x=>{m with dY:=x}) (fh tN):=by funext l;simp only [jN,gO];cases fh tN l <;>rfl
theorem EV (m:ew):(jN 9 m:iP ew)=gO (fun x=>{m with elems:=x}) (fh oU):=by funext l;simp only [jN,gO];cases fh oU l <;>rfl
theorem A0 (m:ew):(jN 10 m:iP ew)=gO (fun x=>{m with eh:=x}) (fh lO):=by funext l;simp only [jN,gO];cases fh lO l <;>rfl
theorem A7 (m:ew):(jN 11 m:iP ew)=gO (fun x=>{m with eA:=x}) (fh uD):=by funext l;simp only [jN,gO];cases fh uD l <;>rfl
theorem vY {n:Nat} (m:ew) (l:List UInt8) (h:n=0\/n=8\/11 < n):jN n m l=none:=by
 unfold jN;split <;>first | rfl | omega
theorem Cm (n:Nat) (m:ew):oJ (jN n m):=by
 by_cases h:n=0\/n=8\/11 < n
 ·intro l y hy
  have hy:jN n m l=some y:=hy;rw [vY m l h]at hy;cases hy
 ·have h2:n=1\/n=2\/n=3\/n=4\/n=5\/n=6\/n=7\/n=9\/n=10\/n=11:=by omega
  rcases h2 with rfl | rfl | rfl | rfl | rfl | rfl | rfl | rfl | rfl | rfl
  ·rw [FN];exact(gY wi).map.lL
  ·rw [Fa];exact(gY yI).map.lL
  ·rw [D8];exact(gY oq).map.lL
  ·rw [Eu];exact(gY sT).map.lL
  ·rw [Fy];exact(gY oQ).map.lL
  ·rw [DL];exact(gY vS).map.lL
  ·rw [E6];exact(gY yg).map.lL
  ·rw [EV];exact(gY wv).map.lL
  ·rw [A0];exact(gY vT).map.lL
  ·rw [A7];exact(gY zt).map.lL
def qP {α:Type} (get:iP α) (n:Nat) (acc:List α) (st:fW):Option (List α × List UInt8):=(st.bind (rU get n)).map fun y=>(acc++y.1,y.2)
theorem CV {α:Type} (get:iP α) (acc:List α) (st:fW):qP get 0 acc st=st.map fun l=>(acc,l):=by
 cases st with
 | none=>rfl
 | some l=>simp [qP,rU]
theorem Da {α:Type} (get:iP α) (n:Nat) (acc:List α):qP get n acc none=none:=rfl
theorem jr {α:Type} (get:iP α) (n:Nat) (acc:List α) {st:fW} {x:α} (h:gU get st x):qP get (n+1) acc st=qP get n (acc++[x]) (eg get st):=by
 cases st with
 | none=>rfl
 | some l=>
  simp only [qP,rU,eg,aw];cases hg:get l with
  | none=>rfl
  | some y=>
   have:=h y (by simpa using hg);subst this;simp only [aw,bF];cases rU get n y.2 <;>simp
theorem jV {α:Type} (get:iP α) (st:fW) (n:Nat) (hn:gU fQ st n):st.bind (fh get)=qP get n [] (eg fQ st):=by
 cases st with
 | none=>rfl
 | some l=>
  simp only [fh,qP,eg,aw];cases hg:fQ l with
  | none=>rfl
  | some y=>
   have:=hn y (by simpa using hg);subst this;simp
theorem gB {α:Type} (get:iP α) {st Qw:fW} {acc:List α} {n:Nat} (h:st.bind (fh get)=qP get n acc Qw) (he:n=0\/Qw=none):eg (fh get) st=Qw/\gU (fh get) st acc:=by
 rcases he with rfl | rfl
 ·rw [CV]at h
  refine⟨?_,fun y hy=>?_⟩
  ·unfold eg
   rw [h];cases Qw <;>rfl
  ·rw [h]at hy
   cases Qw with
   | none=>cases hy
   | some l=>injection hy with hy;rw [<- hy]
 ·rw [Da]at h
  refine⟨?_,fun y hy=>?_⟩
  ·unfold eg
   rw [h];rfl
  ·rw [h]at hy
   cases hy
def Gl:Value ->Nat
 | .slice _ n _=>n
 | _=>0
theorem mD:(prog.info? 27).map (fun i=>(i.zero,i.size,i.bytes))=some (some (.agg #[.int .i64 0, .int .i64 0, .int .i64 0, .slice none 0 0]),4,48):=by kernel_rfl
theorem kT (x:eK × Value):(pJ x).length=4:=rfl
def G0 (L:List UInt8) (w:World) (e:Ending) (w':World):Prop:=
 Below w.heap.size w w'/\((∃l r v,kX L=some (l,r)/\e= .returned (.tuple #[v, .int .i64 ((L.length - r.length:Nat):Int), .int .i64 0])/\eM 27 4 pJ gJ w' w.heap.size v l)\/
  (∃err:Int,kX L=none/\err≠0/\(0 <=err/\err <=12)/\e= .returned (.tuple #[.slice none 0 0, .int .i64 0, .int .i64 err])))
def IU (L:List UInt8) (w w':World) (v:Value) (acc:List eK) (deep at0:Int) (p q:List UInt8):Prop:=
 L=p++q/\at0=p.length/\kX L=kn (301 - acc.length) acc deep q/\acc.length <=300/\eM 27 4 pJ gJ w' w.heap.size v acc/\Below w.heap.size w w'/\0 <=deep/\deep <=acc.length
theorem yc {f:Nat} {acc:List eK} {deep:Int} {q:List UInt8} (h:gp q=none):kn f acc deep q=none:=by
 cases f with
 | zero=>rfl
 | succ f=>rw [kn,h];rfl
theorem kt {f:Nat} {acc:List eK} {deep:Int} {q:List UInt8} {x:eK} {r:List UInt8} (h:gp q=some (x,r)) (hd:¬ hI x.op deep < 0):kn (f+1) acc deep q=(if 300 < acc.length+1 then none else kn f (acc++[x]) (hI x.op deep) r):=by
 rw [kn,h];simp only [aw];rw [aC hd]
theorem y7 {f:Nat} {acc:List eK} {deep:Int} {q:List UInt8} {x:eK} {r:List UInt8} (h:gp q=some (x,r)) (hd:hI x.op deep < 0):kn (f+1) acc deep q=(if(fu acc).isSome then some (acc,r)else none):=by
 rw [kn,h];simp only [aw];rw [aJ hd]
theorem yf (b:Value) (L:List UInt8) (w:World) (hb:eI w b L) (hl:L.length <=1000000):Calls prog 277 #[b] w (G0 L w):=by
 obtain⟨a,cap,rfl,K7,MR,-⟩:=id hb;have HB:=V hb;unfold maxLen at MR;clear hb;go_enter func277,ntmps277;go_wp2_with fail;refine ez (fun a' w'=>∃(v:Value) (acc:List eK) (deep at0:Int) (p q:List UInt8),a'=fr (.slice a L.length cap::gs a' 1 4 (v:: .int .i64 deep:: .int .i64 at0::gs a' 8 47 []))/\IU L w w' v acc deep at0 p q) (fun a' _=>(301 - Gl (a'.tmps.getD 5 undef))) ?_ ?_
 ·exact⟨_,[],0,0,[],L,rfl,rfl,rfl,rfl,by simp,eM.nil _ _,an _ _,by omega,by simp⟩
 ·skip
  rintro R a' w1 ⟨v,acc,deep,at0,p,q,Kk,hJ⟩ HR;dsimp only [fr,gs]at Kk;generalize slot a'=f at Kk;subst Kk;obtain⟨hL,hat,hgo,Oz,Ki,Lb,hd0,hd1⟩:=hJ;obtain⟨a2,Kn,NO,Le⟩:=C8 hL a cap;rw [<- hat]at NO;have hlp:0 <=at0/\at0 <=1000000:=by rw [hat];rw [hL,ah]at hl;omega
  have Px:=Le w1 (HB.out.below Lb);have hql:q.length <=1000000:=by rw [hL,ah]at hl;omega
  have HLE:=V hL;have HAT:=V hat;have HGO:=V hgo;have OF:=V Ki;clear hL hat hgo Le Ki;go_wp2_with fail;refine(qX _ q w1 Px hql).mono ?_;rintro e w2 ⟨Kl,KX⟩;clear NO Px;rcases KX with⟨x,r,u,hx,rfl,hu,hf⟩ | ⟨err,hx,Mf,her,rfl⟩;rotate_left
  ·have f1:=fc Mf
   have HN:=V (show kX L=none by rw [HGO.out];exact yc hx);have Lb:=Lb.trans (Kl.mono Lb.size);clear hx Kl;go_wp2_with fail
   go_ret3
   exact⟨Lb.alloc Lb.size _, .inr ⟨err,HN.out,Mf,her,rfl⟩⟩
  obtain⟨mid,hmid⟩:=oE hx;have hlen:q.length - r.length=mid.length:=by rw [hmid];simp
  rw [hlen];have hml:(mid.length:Int)+at0 <=1000000:=by rw [HAT.out];have:=HLE.out;rw [this,hmid]at hl;simp only [ah]at hl;omega
  have HR2:Hid (L.length - r.length=p.length+mid.length):=V (by rw [HLE.out,hmid];simp only [ah];omega);have PQ:Hid (L=(p++mid)++r):=V (by rw [HLE.out,hmid,aP]);obtain⟨op,xa,xb,xl⟩:=x;obtain⟨⟨au,Kr,rfl,-,-,-⟩,-⟩:=id hu;have HX:=V hx;have HU:=V (AS hu hf);obtain⟨m,hm⟩:∃m,acc.length=m:=⟨_,rfl⟩;clear hx hmid hlen hu hf;clear hm m;have hat64:at0+(mid.length:Int) <=1000000:=by omega
  have OV:=Lb.trans (Kl.mono Lb.size)
  go_upto_region 5 with fail
  have hw2W:Below w2.heap.size w2 (w2.alloc (.cells #[.int .i64 op, .int .i64 xa, .int .i64 xb, .slice au xl.length Kr] 27)):=(an _ _).alloc (ag _) _;have hw1W:=Kl.trans (hw2W.mono Kl.size);have P9:=OV.trans (hw2W.mono OV.size);have hBW:=eE.new w2 #[.int .i64 op, .int .i64 xa, .int .i64 xb, .slice au xl.length Kr] 27;have c0:(w2.alloc (.cells #[.int .i64 op, .int .i64 xa, .int .i64 xb, .slice au xl.length Kr] 27)).cell? ⟨w2.heap.size,0,none⟩=some (.int .i64 op):=hBW.cell 0;have c1:(w2.alloc (.cells #[.int .i64 op, .int .i64 xa, .int .i64 xb, .slice au xl.length Kr] 27)).cell? ⟨w2.heap.size,1,none⟩=some (.int .i64 xa):=hBW.cell 1;have c2:(w2.alloc (.cells #[.int .i64 op, .int .i64 xa, .int .i64 xb, .slice au xl.length Kr] 27)).cell? ⟨w2.heap.size,2,none⟩=some (.int .i64 xb):=hBW.cell 2;have c3:(w2.alloc (.cells #[.int .i64 op, .int .i64 xa, .int .i64 xb, .slice au xl.length Kr] 27)).cell? ⟨w2.heap.size,3,none⟩=some (.slice au xl.length Kr):=hBW.cell 3;have hXW:=hBW.lt;clear hBW;have KA:=V hw2W;have Lc:=V hw1W;have h1W:=hw1W.size;clear hw2W hw1W;generalize w2.alloc (.cells #[.int .i64 op, .int .i64 xa, .int .i64 xb, .slice au xl.length Kr] 27)=W at c0 c1 c2 c3 KA Lc P9 h1W hXW⊢;by_cases N8:op=11
  ·have f11:=eF N8
   by_cases qd:deep=0
   ·subst qd
    have HDP:Hid (hI op 0 < 0):=V (by rw [N8];decide);clear N8;have HOW2:=V (eM.keeps (fun _ _ _ _ he h=>h.ext he) OF.out (dS.dV (S:=fun _=>False) Lc.out) (fun _ h=>h.elim));have OA:=V (gd.fP (S:=kD w.heap.size) (eM.low kT (fun _ _ _ _ he h=>h.ext he) HOW2.out));go_wp2_with fail;refine(pC v acc _ OA.out).mono ?_;rintro e w3 ⟨K4,hm3⟩;have hbl3:=P9.trans (K4.mono P9.size);have HE3:=V (show kX L=(if(fu acc).isSome then some (acc,r)else none)by rw [HGO.out,show 301 - acc.length=(300 - acc.length)+1 from by omega,y7 HX.out HDP.out]);have HOW3:=V (eM.keeps (fun _ _ _ _ he h=>h.ext he) HOW2.out (dS.dV (S:=fun _=>False) K4) (fun _ h=>h.elim));clear K4 Kl c0 c1 c2 c3;rcases hm3 with⟨bs,vb,Pb,rfl,-⟩ | ⟨Pb,rfl⟩
    ·have OP:=V (show kX L=some (acc,r)by rw [HE3.out,Pb];rfl)
     clear Pb;go_wp2_with fail
     go_ret3
     refine⟨hbl3, .inl ⟨acc,r,v,OP.out,?_,HOW3.out⟩⟩;rw [HR2.out];show Ending.returned (.tuple #[v, .int .i64 (at0+mid.length), .int .i64 0])=_;rw [HAT.out];rfl
    ·have OP:=V (show kX L=none by rw [HE3.out,Pb];rfl)
     clear Pb;go_wp2_with fail
     go_ret3
     exact⟨hbl3, .inr ⟨1,OP.out,by decide,by decide,rfl⟩⟩
   ·have hd':0 <=deep - 1:=by omega
    have HDP:Hid (hI op deep=deep - 1):=V (by unfold hI;rw [if_pos N8]);clear N8;have NX:=V (eM.keeps (fun _ _ _ _ he h=>h.ext he) OF.out (dS.dV (S:=fun _=>False) Lc.out) (fun _ h=>h.elim));have HU4:=V (HU.out.ext (ny (P:=fun _=>False) (dS.dV KA.out) (fun _ h=>h.elim) (.inl (ag _))));obtain⟨us,u1,u2,u3⟩:=NX.out;have Nh:(acc.zip us).length=acc.length:=by rw [bI,u1,bY]
    obtain⟨av,cv,ev,_,LC,-⟩:=u2.fD kT;rw [Nh]at ev;subst ev;unfold maxLen at LC;have HV:=V (show∀i,ey (.slice av acc.length cv) i ->i < w1.heap.size from fun i hi=>(eM.lt OF.out hi).2);have U1:=V u1;have U3:=V u3;clear u1 u3;go_wp2_with (first | (at_builtin;refine eQ W rfl _ _ 24 rfl _ 48 (by kernel_rfl) mD rfl (by decide) (by decide) w.heap.size (.slice av acc.length cv) (acc.zip us) rfl u2 (⟨op,xa,xb,xl⟩, .slice au xl.length Kr) _ rfl rfl (by simp [pJ,Value.oneCell']) rfl (by omega) (by exact P9.size) ?_));intro v5 w5 LD NA Pu;have HD5:=V (eM.app (fun _ _ _ _ he h=>h.ext he) (w1:=w1) U1.out U3.out LD NA Pu Lb.size HV.out HU4.out);have Lm:=P9.trans (NA.below P9.size (fun i hi=>(eo u2 hi).1));obtain⟨av5,cv5,ev5,_,hcv5,-⟩:=LD.fD kT;have hlz:(acc.zip us++[((⟨op,xa,xb,xl⟩:eK),Value.slice au xl.length Kr)]).length=acc.length+1:=by rw [ah,Nh];rfl
    rw [hlz]at ev5;subst ev5;clear LD NA Pu u2 Nh hlz NX HU4 HV U1 U3;by_cases qm:acc.length+1 <=300
    ·have f300:decide ((300:Int) < ((acc.length+1:Nat):Int))=false:=aA (by omega)
     go_wp2_with fail;refine HR.out _ _ ⟨_,acc++[⟨op,xa,xb,xl⟩],(deep - 1),at0+mid.length,p++mid,r,rfl,PQ.out,?_,?_,by rw [ah];exact qm,HD5.out,Lm,by omega,?_⟩ ?_
     ·rw [HAT.out,ah];rfl
     ·rw [HGO.out,show 301 - acc.length=(300 - acc.length)+1 from by omega,kt HX.out (by rw [HDP.out];omega),aC (by omega),HDP.out,ah]
      congr 1
      simp only [aB];omega
     ·rw [ah];simp only [aB];omega
     ·simp [Gl]
      omega
    ·have f300:decide ((300:Int) < ((acc.length+1:Nat):Int))=true:=az (by omega)
     have HN:=V (show kX L=none by rw [HGO.out,show 301 - acc.length=(300 - acc.length)+1 from by omega,kt HX.out (by rw [HDP.out];omega),aJ (by omega)]);go_wp2_with fail
     go_ret3
     exact⟨Lm, .inr ⟨4,HN.out,by decide,by decide,rfl⟩⟩
  have f11:=dQ N8;have HD0:=V (show hI op deep=if jS op then deep+1 else deep by unfold hI;rw [if_neg N8]);clear N8;go_wp2_with fail;refine(pr op _).mono ?_;rintro e w3 ⟨rfl,K4⟩;have KA:=V (KA.out.trans (K4.mono KA.out.size));have Lc:=V (Lc.out.trans (K4.mono Lc.out.size));have P9:=P9.trans (K4.mono P9.size);have h1W:=Lc.out.size;replace c0:=(K4.cell hXW).trans c0;replace c1:=(K4.cell hXW).trans c1;replace c2:=(K4.cell hXW).trans c2;replace c3:=(K4.cell hXW).trans c3;clear K4;cases ho:jS op with
  | true=>
   have hd':0 <=deep+1:=by omega
   have HDP:=V (show hI op deep=deep+1 by rw [HD0.out,ho];rfl);clear ho;have NX:=V (eM.keeps (fun _ _ _ _ he h=>h.ext he) OF.out (dS.dV (S:=fun _=>False) Lc.out) (fun _ h=>h.elim));have HU4:=V (HU.out.ext (ny (P:=fun _=>False) (dS.dV KA.out) (fun _ h=>h.elim) (.inl (ag _))));obtain⟨us,u1,u2,u3⟩:=NX.out;have Nh:(acc.zip us).length=acc.length:=by rw [bI,u1,bY]
   obtain⟨av,cv,ev,_,LC,-⟩:=u2.fD kT;rw [Nh]at ev;subst ev;unfold maxLen at LC;have HV:=V (show∀i,ey (.slice av acc.length cv) i ->i < w1.heap.size from fun i hi=>(eM.lt OF.out hi).2);have U1:=V u1;have U3:=V u3;clear u1 u3;go_wp2_with (first | (at_builtin;refine eQ w3 rfl _ _ 24 rfl _ 48 (by kernel_rfl) mD rfl (by decide) (by decide) w.heap.size (.slice av acc.length cv) (acc.zip us) rfl u2 (⟨op,xa,xb,xl⟩, .slice au xl.length Kr) _ rfl rfl (by simp [pJ,Value.oneCell']) rfl (by omega) (by exact P9.size) ?_));intro v5 w5 LD NA Pu;have HD5:=V (eM.app (fun _ _ _ _ he h=>h.ext he) (w1:=w1) U1.out U3.out LD NA Pu Lb.size HV.out HU4.out);have Lm:=P9.trans (NA.below P9.size (fun i hi=>(eo u2 hi).1));obtain⟨av5,cv5,ev5,_,hcv5,-⟩:=LD.fD kT;have hlz:(acc.zip us++[((⟨op,xa,xb,xl⟩:eK),Value.slice au xl.length Kr)]).length=acc.length+1:=by rw [ah,Nh];rfl
   rw [hlz]at ev5;subst ev5;clear LD NA Pu u2 Nh hlz NX HU4 HV U1 U3;by_cases qm:acc.length+1 <=300
   ·have f300:decide ((300:Int) < ((acc.length+1:Nat):Int))=false:=aA (by omega)
    go_wp2_with fail;refine HR.out _ _ ⟨_,acc++[⟨op,xa,xb,xl⟩],(deep+1),at0+mid.length,p++mid,r,rfl,PQ.out,?_,?_,by rw [ah];exact qm,HD5.out,Lm,by omega,?_⟩ ?_
    ·rw [HAT.out,ah];rfl
    ·rw [HGO.out,show 301 - acc.length=(300 - acc.length)+1 from by omega,kt HX.out (by rw [HDP.out];omega),aC (by omega),HDP.out,ah]
     congr 1
     simp only [aB];omega
    ·rw [ah];simp only [aB];omega
    ·simp [Gl]
     omega
   ·have f300:decide ((300:Int) < ((acc.length+1:Nat):Int))=true:=az (by omega)
    have HN:=V (show kX L=none by rw [HGO.out,show 301 - acc.length=(300 - acc.length)+1 from by omega,kt HX.out (by rw [HDP.out];omega),aJ (by omega)]);go_wp2_with fail
    go_ret3
    exact⟨Lm, .inr ⟨4,HN.out,by decide,by decide,rfl⟩⟩
  | false=>
   have HDP:=V (show hI op deep=deep by rw [HD0.out,ho];rfl);clear ho;have NX:=V (eM.keeps (fun _ _ _ _ he h=>h.ext he) OF.out (dS.dV (S:=fun _=>False) Lc.out) (fun _ h=>h.elim));have HU4:=V (HU.out.ext (ny (P:=fun _=>False) (dS.dV KA.out) (fun _ h=>h.elim) (.inl (ag _))));obtain⟨us,u1,u2,u3⟩:=NX.out;have Nh:(acc.zip us).length=acc.length:=by rw [bI,u1,bY]
   obtain⟨av,cv,ev,_,LC,-⟩:=u2.fD kT;rw [Nh]at ev;subst ev;unfold maxLen at LC;have HV:=V (show∀i,ey (.slice av acc.length cv) i ->i < w1.heap.size from fun i hi=>(eM.lt OF.out hi).2);have U1:=V u1;have U3:=V u3;clear u1 u3;go_wp2_with (first | (at_builtin;refine eQ w3 rfl _ _ 24 rfl _ 48 (by kernel_rfl) mD rfl (by decide) (by decide) w.heap.size (.slice av acc.length cv) (acc.zip us) rfl u2 (⟨op,xa,xb,xl⟩, .slice au xl.length Kr) _ rfl rfl (by simp [pJ,Value.oneCell']) rfl (by omega) (by exact P9.size) ?_));intro v5 w5 LD NA Pu;have HD5:=V (eM.app (fun _ _ _ _ he h=>h.ext he) (w1:=w1) U1.out U3.out LD NA Pu Lb.size HV.out HU4.out);have Lm:=P9.trans (NA.below P9.size (fun i hi=>(eo u2 hi).1));obtain⟨av5,cv5,ev5,_,hcv5,-⟩:=LD.fD kT;have hlz:(acc.zip us++[((⟨op,xa,xb,xl⟩:eK),Value.slice au xl.length Kr)]).length=acc.length+1:=by rw [ah,Nh];rfl
   rw [hlz]at ev5;subst ev5;clear LD NA Pu u2 Nh hlz NX HU4 HV U1 U3;by_cases qm:acc.length+1 <=300
   ·have f300:decide ((300:Int) < ((acc.length+1:Nat):Int))=false:=aA (by omega)
    go_wp2_with fail;refine HR.out _ _ ⟨_,acc++[⟨op,xa,xb,xl⟩],deep,at0+mid.length,p++mid,r,rfl,PQ.out,?_,?_,by rw [ah];exact qm,HD5.out,Lm,by omega,?_⟩ ?_
    ·rw [HAT.out,ah];rfl
    ·rw [HGO.out,show 301 - acc.length=(300 - acc.length)+1 from by omega,kt HX.out (by rw [HDP.out];omega),aC (by omega),HDP.out,ah]
     congr 1
     simp only [aB];omega
    ·rw [ah];simp only [aB];omega
    ·simp [Gl]
     omega
   ·have f300:decide ((300:Int) < ((acc.length+1:Nat):Int))=true:=az (by omega)
    have HN:=V (show kX L=none by rw [HGO.out,show 301 - acc.length=(300 - acc.length)+1 from by omega,kt HX.out (by rw [HDP.out];omega),aJ (by omega)]);go_wp2_with fail
    go_ret3
    exact⟨Lm, .inr ⟨4,HN.out,by decide,by decide,rfl⟩⟩
theorem zR (x:jd):(sz x).length=3:=rfl
theorem yx (x:fL):(xh x).length=3:=rfl
theorem xS (x:jb):(sC x).length=3:=rfl
theorem yj (x:iB):(qS x).length=2:=rfl
theorem tZ (x:gy × Value × Value):(ru x).length=2:=rfl
theorem ui (x:gN × Value × Value):(rV x).length=2:=rfl
theorem uL (x:iO × Value):(tF x).length=2:=rfl
theorem rG (x:gl × Value):(pT x).length=2:=rfl
theorem BG (x:Int):∀u∈eZ x,u.oneCell'=true:=by simp [eZ,Value.oneCell']
theorem I9 (x:jd):∀u∈sz x,u.oneCell'=true:=by simp [sz,Value.oneCell']
theorem I2 (x:fL):∀u∈xh x,u.oneCell'=true:=by simp [xh,Value.oneCell']
theorem Jp (x:jb):∀u∈sC x,u.oneCell'=true:=by simp [sC,Value.oneCell']
theorem Jq (x:iB):∀u∈qS x,u.oneCell'=true:=by simp [qS,Value.oneCell']
theorem Er:(prog.info? 118).map (fun i=>(i.zero,i.size,i.bytes))=some (some (.agg #[.string (bs []), .string (bs []), .int .i64 0]),3,40):=by kernel_rfl
theorem DJ:(prog.info? 55).map (fun i=>(i.zero,i.size,i.bytes))=some (some (.agg #[.bool false, .int .i64 0, .int .i64 0]),3,24):=by kernel_rfl
theorem Cf:(prog.info? 120).map (fun i=>(i.zero,i.size,i.bytes))=some (some (.agg #[.bool false, .int .i64 0, .int .i64 0]),3,24):=by kernel_rfl
theorem yM:(prog.info? 111).map (fun i=>(i.zero,i.size,i.bytes))=some (some (.agg #[.string (bs []), .int .i64 0]),2,24):=by kernel_rfl
theorem Co:(prog.info? 109).map (fun i=>(i.zero,i.size,i.bytes))=some (some (.agg #[.slice none 0 0, .slice none 0 0]),2,48):=by kernel_rfl
theorem C3:(prog.info? 69).map (fun i=>(i.zero,i.size,i.bytes))=some (some (.agg #[.slice none 0 0, .slice none 0 0]),2,48):=by kernel_rfl
theorem Cg:(prog.info? 95).map (fun i=>(i.zero,i.size,i.bytes))=some (some (.agg #[.int .i64 0, .slice none 0 0]),2,32):=by kernel_rfl
theorem Di:(prog.info? 99).map (fun i=>(i.zero,i.size,i.bytes))=some (some (.agg #[.int .i64 0, .slice none 0 0]),2,32):=by kernel_rfl
def Ey {α:Type} (val:α ->Value) (w0:World) (Y:Nat) (get:iP α) (P:α ->Prop) (s:fW) (w1:World) (e:Ending) (w2:World):Prop:=
 ∃x:α,e= .returned (val x)/\P x/\gU get s x/\fi w0 w2 Y (eg get s)/\dS (fun k=>k=Y) w1 w2
def Hw {α β:Type} (val:α ->β ->Value) (inner:World ->α ->β ->Prop) (w0:World) (Y:Nat) (get:iP α) (P:α ->Prop) (s:fW) (w1:World) (e:Ending) (w2:World):Prop:=
 ∃(x:α) (u:β),e= .returned (val x u)/\inner (mask (kD w1.heap.size) w2) x u/\P x/\gU get s x/\fi w0 w2 Y (eg get s)/\dS (fun k=>k=Y) w1 w2
def Jx {α:Type} (t:TypeId) (k:Nat) (enc:α ->List Value) (w0:World) (Y:Nat) (get:iP α) (P:α ->Prop) (st:fW) (w:World) (e:Ending) (w':World):Prop:=
 ∃(v:Value) (l:List α),e= .returned v/\dR t k enc w' w.heap.size v l/\(∀x∈l,P x)/\l.length <=8001/\gU (fh get) st l/\fi w0 w' Y (eg (fh get) st)/\dS (fun k=>k=Y) w w'
def JF {α β:Type} (t:TypeId) (k:Nat) (enc:α × β ->List Value) (inner:World ->α ->β ->Prop) (w0:World) (Y:Nat) (get:iP α) (P:α ->Prop) (st:fW) (w:World) (e:Ending) (w':World):Prop:=
 ∃(v:Value) (l:List α),e= .returned v/\eM t k enc inner w' w.heap.size v l/\(∀x∈l,P x)/\l.length <=8001/\gU (fh get) st l/\fi w0 w' Y (eg (fh get) st)/\dS (fun k=>k=Y) w w'
def F8 {α:Type} (w0:World) (Y:Nat) (get:iP α) (P:α ->Prop) (st:fW) (w w':World) (acc:List α) (n:Nat) (s:fW):Prop:=
 st.bind (fh get)=qP get n acc s/\(∀x∈acc,P x)/\acc.length+s.len <=8001/\fi w0 w' Y s/\dS (fun k=>k=Y) w w'/\n < 4294967296
theorem nP (w0:World) (Y:Nat) (get:iP (Int)) (P:Int ->Prop) (hG:iD get) (st:fW) (w:World) (Kj:Nat) (bs cs:Array Value)
  (hE:∀args w,(callFunc Kj args).run prog w= .ok (.enter Kj args) w) (h:fi w0 w Y st)
  (hp:∀s w1,fi w0 w1 Y s ->dS (fun k=>k=Y) w w1 ->Calls prog Kj (bs++cs) w1 (Ey (fun x:Int=> .int .i64 x) w0 Y get P s w1)):
  Calls prog 213 #[.pointer (some ⟨Y,0,none⟩), .func (.func Kj) bs cs] w (Jx 3 1 eZ w0 Y get P st w):=by
 have HP:=V hp;have HH:=V h;have hR:=h.lt;have HG:=V hG;clear hp h hG;go_enter func213,ntmps213;go_wp2_with fail;refine(gZ w0 w Y st HH.out).mono ?_;rintro e w1 ⟨rfl,h1,LH⟩;have Mg:=V (jV get st _ (iF st));have hn:=iI st;have hlen:=h1.len;obtain⟨N,eN⟩:∃N,iC st=N:=⟨_,rfl⟩;rw [eN]at hn Mg⊢;clear eN;go_wp2_with fail;refine ez (fun a' w'=>∃(v:Value) (acc:List (Int)) (n:Nat) (s:fW),a'=fr (.pointer (some ⟨Y,0,none⟩):: .func (.func Kj) bs cs::gs a' 2 3 (v:: .int .i64 n::gs a' 7 19 []))/\dR 3 1 eZ w' w.heap.size v acc/\F8 w0 Y get P st w w' acc n s) (fun a' _=>(intOf (a'.tmps.getD 6 undef)).toNat) ?_ ?_
 ·exact⟨_,[],N,eg fQ st,rfl,dR.nil _ _,Mg.out,by simp,by simpa using hlen,h1,LH,hn⟩
 ·clear h1 LH hn hlen Mg HH
  rintro R a' w1 ⟨v,acc,n,s,Kk,hJ⟩ HR;dsimp only [fr,gs]at Kk;generalize slot a'=f at Kk;subst Kk;obtain⟨ho,Ll,KG,hlen,Le,hk,hn⟩:=hJ;have KQ:=V Le;have KN:=V Ll;have KC:=V KG;have MJ:=V hR;have Lf:=hk.size;have c1:=Le.bad;have HO:=V ho;have Ln:∀i,ey v i ->¬ i=Y:=fun i hi=>by have:=(eo ho hi).1;omega
  have PN:=V Ln;have HK:=V hk;clear ho Ln Ll KG Le hk;rcases aY n with LP | LP
  ·obtain⟨g1,g2⟩:=gB get KN.out (.inl LP)
   have G1:=V g1;have G2:=V g2;subst LP;clear g1 g2;go_wp2_with fail;go_ret;exact⟨_,acc,rfl,HO.out,KC.out,by omega,G2.out,by rw [G1.out];exact KQ.out,HK.out⟩
  have f0:decide ((0:Int) < (n:Int))=true:=az (by omega);cases s with
  | none=>
   have c1:w1.cell? ⟨Y,1,none⟩=some (.bool true):=c1;obtain⟨g1,g2⟩:=gB get KN.out (.inr rfl);have G1:=V g1;have G2:=V g2;clear g1 g2;go_wp2_with fail;go_ret;exact⟨_,acc,rfl,HO.out,KC.out,by omega,G2.out,by rw [G1.out];exact KQ.out,HK.out⟩
  | some lb=>
   have c1:w1.cell? ⟨Y,1,none⟩=some (.bool false):=c1;obtain⟨n',rfl⟩:∃n',n=n'+1:=⟨n - 1,by omega⟩;have Kq:=HG.out.len lb;have Oz:acc.length <=8001:=by omega
   have L9:=V (show acc.length+1+(eg get (some lb)).len <=8001 by omega);clear Kq hlen;go_wp2_with fail;refine(HP.out (some lb) w1 KQ.out HK.out).mono ?_;rintro e w2 ⟨x,rfl,NY,NZ,h2,Kp⟩;have Ld:=V (dR.keeps HO.out Kp PN.out);obtain⟨av,cv,ev,_,LC,-⟩:=Ld.out.fD fp;subst ev;unfold maxLen at LC;have Lv:=V h2;have O3:=V NY;have LN:=V (KN.out.trans (jr get n' acc NZ));have Lx:=V (HK.out.trans Kp (fun _ h=> .inl h));have N6:=V (show w.heap.size <=w1.heap.size from HK.out.size);have Mn:=V (show w.heap.size <=w2.heap.size from Lx.out.size);clear NY NZ h2 Kp c1;go_wp2_with (first | (at_builtin;refine eQ w2 rfl _ _ 25 rfl _ 8 (by kernel_rfl) jH rfl (by decide) (by decide) w.heap.size (.slice av acc.length cv) acc rfl Ld.out x _ rfl rfl (BG x) rfl (by omega) Mn.out ?_));intro v3 w3 Lq KS LS;have MF:=V Lq;have KT:∀i,ey (.slice av acc.length cv) i ->w.heap.size <=i/\i < w2.heap.size:=fun i hi=>eo Ld.out hi;have Mu:=V (Lv.out.keeps KS (fun h=>by have:=(KT _ h).1;have:=MJ.out;omega) (fun i hi=>by have:=(KT i hi).1;have:=Lv.out.old.2;have:=MJ.out;omega));have OG:=V (Lx.out.trans KS (fun i hi=> .inr (KT i hi).1));clear Lq KS LS KT;go_wp2_with fail;refine HR.out _ _ ⟨_,acc++[x],n',eg get (some lb),rfl,MF.out,LN.out,?_,?_,Mu.out,OG.out,by omega⟩ ?_
   ·intro y hy
    rcases bA.1 hy with h | h
    ·exact KC.out y h
    ·obtain rfl:=aV.1 h
     exact O3.out
   ·rw [ah]
    exact L9.out
   ·simp [intOf]
theorem Gs (w0:World) (Y:Nat) (get:iP (jd)) (P:jd ->Prop) (hG:iD get) (st:fW) (w:World) (Kj:Nat) (bs cs:Array Value)
  (hE:∀args w,(callFunc Kj args).run prog w= .ok (.enter Kj args) w) (h:fi w0 w Y st)
  (hp:∀s w1,fi w0 w1 Y s ->dS (fun k=>k=Y) w w1 ->Calls prog Kj (bs++cs) w1 (Ey (fun x:jd=> .agg #[.string x.mod, .string x.name, .int .i64 x.type]) w0 Y get P s w1)):
  Calls prog 211 #[.pointer (some ⟨Y,0,none⟩), .func (.func Kj) bs cs] w (Jx 118 3 sz w0 Y get P st w):=by
 have HP:=V hp;have HH:=V h;have hR:=h.lt;have HG:=V hG;clear hp h hG;go_enter func211,ntmps211;go_wp2_with fail;refine(gZ w0 w Y st HH.out).mono ?_;rintro e w1 ⟨rfl,h1,LH⟩;have Mg:=V (jV get st _ (iF st));have hn:=iI st;have hlen:=h1.len;obtain⟨N,eN⟩:∃N,iC st=N:=⟨_,rfl⟩;rw [eN]at hn Mg⊢;clear eN;go_wp2_with fail;refine ez (fun a' w'=>∃(v:Value) (acc:List (jd)) (n:Nat) (s:fW),a'=fr (.pointer (some ⟨Y,0,none⟩):: .func (.func Kj) bs cs::gs a' 2 3 (v:: .int .i64 n::gs a' 7 19 []))/\dR 118 3 sz w' w.heap.size v acc/\F8 w0 Y get P st w w' acc n s) (fun a' _=>(intOf (a'.tmps.getD 6 undef)).toNat) ?_ ?_
 ·exact⟨_,[],N,eg fQ st,rfl,dR.nil _ _,Mg.out,by simp,by simpa using hlen,h1,LH,hn⟩
 ·clear h1 LH hn hlen Mg HH
  rintro R a' w1 ⟨v,acc,n,s,Kk,hJ⟩ HR;dsimp only [fr,gs]at Kk;generalize slot a'=f at Kk;subst Kk;obtain⟨ho,Ll,KG,hlen,Le,hk,hn⟩:=hJ;have KQ:=V Le;have KN:=V Ll;have KC:=V KG;have MJ:=V hR;have Lf:=hk.size;have c1:=Le.bad;have HO:=V ho;have Ln:∀i,ey v i ->¬ i=Y:=fun i hi=>by have:=(eo ho hi).1;omega
  have PN:=V Ln;have HK:=V hk;clear ho Ln Ll KG Le hk;rcases aY n with LP | LP
  ·obtain⟨g1,g2⟩:=gB get KN.out (.inl LP)
   have G1:=V g1;have G2:=V g2;subst LP;clear g1 g2;go_wp2_with fail;go_ret;exact⟨_,acc,rfl,HO.out,KC.out,by omega,G2.out,by rw [G1.out];exact KQ.out,HK.out⟩
  have f0:decide ((0:Int) < (n:Int))=true:=az (by omega);cases s with
  | none=>
   have c1:w1.cell? ⟨Y,1,none⟩=some (.bool true):=c1;obtain⟨g1,g2⟩:=gB get KN.out (.inr rfl);have G1:=V g1;have G2:=V g2;clear g1 g2;go_wp2_with fail;go_ret;exact⟨_,acc,rfl,HO.out,KC.out,by omega,G2.out,by rw [G1.out];exact KQ.out,HK.out⟩
  | some lb=>
   have c1:w1.cell? ⟨Y,1,none⟩=some (.bool false):=c1;obtain⟨n',rfl⟩:∃n',n=n'+1:=⟨n - 1,by omega⟩;have Kq:=HG.out.len lb;have Oz:acc.length <=8001:=by omega
   have L9:=V (show acc.length+1+(eg get (some lb)).len <=8001 by omega);clear Kq hlen;go_wp2_with fail;refine(HP.out (some lb) w1 KQ.out HK.out).mono ?_;rintro e w2 ⟨x,rfl,NY,NZ,h2,Kp⟩;have Ld:=V (dR.keeps HO.out Kp PN.out);obtain⟨av,cv,ev,_,LC,-⟩:=Ld.out.fD zR;subst ev;unfold maxLen at LC;have Lv:=V h2;have O3:=V NY;have LN:=V (KN.out.trans (jr get n' acc NZ));have Lx:=V (HK.out.trans Kp (fun _ h=> .inl h));have N6:=V (show w.heap.size <=w1.heap.size from HK.out.size);have Mn:=V (show w.heap.size <=w2.heap.size from Lx.out.size);clear NY NZ h2 Kp c1;go_wp2_with (first | (at_builtin;refine eQ w2 rfl _ _ 53 rfl _ 40 (by kernel_rfl) Er rfl (by decide) (by decide) w.heap.size (.slice av acc.length cv) acc rfl Ld.out x _ rfl rfl (I9 x) rfl (by omega) Mn.out ?_));intro v3 w3 Lq KS LS;have MF:=V Lq;have KT:∀i,ey (.slice av acc.length cv) i ->w.heap.size <=i/\i < w2.heap.size:=fun i hi=>eo Ld.out hi;have Mu:=V (Lv.out.keeps KS (fun h=>by have:=(KT _ h).1;have:=MJ.out;omega) (fun i hi=>by have:=(KT i hi).1;have:=Lv.out.old.2;have:=MJ.out;omega));have OG:=V (Lx.out.trans KS (fun i hi=> .inr (KT i hi).1));clear Lq KS LS KT;go_wp2_with fail;refine HR.out _ _ ⟨_,acc++[x],n',eg get (some lb),rfl,MF.out,LN.out,?_,?_,Mu.out,OG.out,by omega⟩ ?_
   ·intro y hy
    rcases bA.1 hy with h | h
    ·exact KC.out y h
    ·obtain rfl:=aV.1 h
     exact O3.out
   ·rw [ah]
    exact L9.out
   ·simp [intOf]
theorem wC:(prog.info? 25).map (fun i=>(i.zero,i.size,i.bytes))=some (some (.slice none 0 0),1,24):=by kernel_rfl
theorem Fc {w:World} {B:Nat} {v:Value} {us ON:List Value} (h:dR 25 1 qB w B v us) (h':dR 25 1 qB w B v ON):us=ON:=by
 have hf:∀l:List Value,l.flatMap qB=l:=fun l=>by
  induction l with
  | nil=>rfl
  | cons x l ih=>rw [bR,ih];rfl
 obtain⟨_,hv | ⟨g,cap,cur,hv,hb,hg,hn,hm,hs,ht⟩⟩:=h
 ·obtain⟨_,O5 | ⟨g',KE,cur',O5,_⟩⟩:=h'
  ·rw [aH hv.2,aH O5.2]
  ·rw [hv.1]at O5
   cases O5
 ·obtain⟨_,O5 | ⟨g',KE,cur',O5,_,Qy,_,_,_,ht'⟩⟩:=h'
  ·rw [O5.1]at hv
   cases hv
  ·rw [hv]at O5
   injection O5 with e1 e2 e3;injection e1 with e1;injection e1 with e1;subst e1;rw [hg]at Qy;injection Qy with Qy;injection Qy with Qy;rw [e2,Qy,ht']at ht;rw [hf,hf]at ht;exact ht.symm
theorem iy.rows {w:World} {B:Nat} {v:Value} {rs:List (Nat × Int)} (h:iy w B v rs):∃us,dR 25 1 qB w B v us/\us.length=rs.length/\
  ∀NS LJ ul n k',rs=NS++[(n,k')] ->LJ.length=NS.length ->dR 25 1 qB w B v (LJ++[ul]) ->us=LJ++[ul]:=by
 rcases h with⟨rfl,rfl⟩ | ⟨NS,LJ,ul,n,k,rfl,h2,h3,h4,h5,h6⟩
 ·exact⟨[],dR.nil _ _,rfl,fun NS LJ ul n k' he=>by simp at he⟩
 ·exact⟨LJ++[ul],h3,by simp [h2],fun _ _ _ _ _ _ _ h=>Fc h3 h⟩
theorem iy.last {w:World} {B:Nat} {v:Value} {NS:List (Nat × Int)} {n:Nat} {k:Int} (h:iy w B v (NS++[(n,k)])):
  ∃(LJ:List Value) (ul:Value),LJ.length=NS.length/\dR 25 1 qB w B v (LJ++[ul])/\
  dR 3 1 eZ w B ul (List.replicate n k)/\1 <=n/\∀(i:Nat) (x:Nat × Int) (u:Value),NS[i]?=some x ->LJ[i]?=some u ->mB (mask (xV B v ul) w) x u:=by
 rcases h with⟨h,_⟩ | ⟨rs1,LJ,ul,n1,k1,he,h2,h3,h4,h5,h6⟩
 ·simp at h
 ·obtain⟨e1,e2⟩:=List.append_inj' he rfl
  simp only [List.cons.injEq,Prod.mk.injEq,and_true]at e2;obtain⟨rfl,rfl⟩:=e2;subst e1;exact⟨LJ,ul,h2,h3,h4,h5,h6⟩
theorem dR.free {α:Type} {t:TypeId} {k:Nat} {enc:α ->List Value} {w:World} {B g n cap:Nat} {l:List α} (h:dR t k enc w B (.slice (some ⟨g,0,none⟩) n cap) l) (i:Nat):w.frozen? ⟨g,i,none⟩=false:=by
 obtain⟨_,hv | ⟨g',KE,cur,hv,hb,hg,hn,hm,hs,ht⟩⟩:=h
 ·cases hv.1
 ·injection hv with e1
  injection e1 with e1;injection e1 with e1;subst e1;exact cZ w g i cur _ hg
def JN (ls:List Int) (wA w':World) (v:Value) (k:Nat):Prop:=k <=ls.length/\Below wA.heap.size wA w'/\iy w' wA.heap.size v (gx (ls.take k))
theorem Gj (w0:World) (e:gN) (u:Value × Value) (hu:gD w0 e u) (hm:e.may) (b:Value) (xs:List UInt8) (w:World) (B:Nat) (Ki:dU w B b xs) (hn:xs.length <=100000000) (hB:B <=w.heap.size) (h0:Src w0 w B):
  Calls prog 191 #[b, .agg #[u.1,u.2]] w (fk xs (im e) B b w):=by
 obtain⟨u1,u2⟩:=u;have HU:=V hu;obtain⟨⟨⟨a1,Ky,Mc,hca1,hca2,Kh⟩,K5⟩,-⟩:=id hu;obtain⟨a2,Kn,Ml,-,-⟩:=ea.slice K5;have Lu:=V K5.Js;simp only at Mc Ml;subst Mc Ml;have HCL:=V Kh;have hn1:e.locals.length <=32:=hm.2.1.1;have HM:=V hm;have HO:=V Ki;have H0:=V h0;have h0B:=h0.2;have HA:=V (eE.new w #[.slice a1 e.locals.length Ky, .slice a2 e.body.length Kn] 69);have QF:=V ((an w.heap.size w).alloc (ag _) (.cells #[.slice a1 e.locals.length Ky, .slice a2 e.body.length Kn] 69));clear Kh K5 hu hm Ki h0;go_enter func191,ntmps191;go_wp2_with fail;obtain⟨X,hX⟩:∃X,X=w.heap.size:=⟨_,rfl⟩;rw [<- hX]at HA⊢;have hX1:=dt hX;have hX2:=dt hX.symm;clear hX;generalize w.alloc (.cells #[.slice a1 e.locals.length Ky, .slice a2 e.body.length Kn] 69)=wA at HA QF⊢;have hXA:X < wA.heap.size:=HA.out.lt;refine ez (fun a' w'=>∃(v:Value) (k:Nat),a'=fr (b::gs a' 1 2 (.pointer (some ⟨X,0,none⟩)::gs a' 4 1 (v::gs a' 6 4 (.slice a1 e.locals.length Ky:: .int .i64 e.locals.length:: .int .i64 k::gs a' 13 48 []))))/\JN e.locals wA w' v k) (fun a' _=>(e.locals.length - (intOf (a'.tmps.getD 12 undef)).toNat)) ?_ ?_
 ·exact⟨_,0,rfl,by omega,an _ _, .inl ⟨rfl,rfl⟩⟩
 ·skip
  rintro R a' w1 ⟨v,k,Kk,hJ⟩ HR;dsimp only [fr,gs]at Kk;generalize slot a'=f at Kk;subst Kk;obtain⟨hk,Pk,hrn⟩:=hJ;have KW:=V Pk;have HRN:=V hrn;have HX1:=V (HA.out.below Pk hXA);have x0:w1.cell? ⟨X,0,none⟩=some (.slice a1 e.locals.length Ky):=HX1.out.cell 0;clear Pk hrn;by_cases q:k < e.locals.length;rotate_left
  ·obtain rfl:k=e.locals.length:=by omega
   have hl:=tE hn1;have HD:=V (show ea 1 Ib mB w1 v (gx e.locals)by have:=HRN.out.deep;rwa [aU]at this);obtain⟨av,cv,rfl,-,LC⟩:=ea.slice HD.out;have O4:=KW.out.size;go_wp2_with fail;refine(Dw w1 xq 1000 (.slice none 0 0) [] _ (gx e.locals) w1.heap.size w1 265 (fun args w=>by rfl) HD.out (dU.nil _ _) (ag _) ⟨an _ _,ag _⟩ (by rw [kh]at hl;simp only [aM];omega) (by omega) ?_).mono ?_
   ·intro e1 Mc u hu b xs w ho hx hB hs
    exact Gk w1 e1 u hu b xs w _ ho (by omega) hB hs (by have:=(qG _ _ Mc).2;omega)
   rintro x w2 ⟨v2,rfl,KB,Kp,Ku⟩;have Kl:Below w1.heap.size w1 w2:=ju Kp rfl;have KR:=V Kl;have Ld:=V (show dU w2 w1.heap.size v2 (kh e.locals)by simpa [kh] using KB);have x1:w2.cell? ⟨X,1,none⟩=some (.slice a2 e.body.length Kn):=(HX1.out.below Kl HX1.out.lt).cell 1;have NM:=Kl.size;have HBW2:=V (QF.out.trans (KW.out.mono QF.out.size));have KP:=V (show Src w0 w2 w1.heap.size from⟨H0.out.1.trans ((HBW2.out.mono H0.out.1.size).trans (Kl.mono (by have:=H0.out.1.size;have:=HBW2.out.size;omega))),by have:=H0.out.1.size;have:=HBW2.out.size;omega⟩);clear Kp Ku KB Kl x0;go_wp2_with fail;refine(zK w0 v2 _ _ e.body w1.heap.size w2 Ld.out (by omega) NM HU.out.1.2 KP.out HM.out.2.2.1 HM.out.2.2.2).mono ?_;rintro x w3 ⟨v3,rfl,Lq,KS,LS⟩;have hlen3:(kh e.locals++mV e.body).length <=1000000:=by
    have h1:=rH (l:=e.body) HM.out.2.2.2 Lu.out;have h2:=HM.out.2.2.1;have h3:530*e.body.length <=530*300:=dF _ h2;simp only [mV,ah,aB];omega
   have QG:Hid (Below w1.heap.size w1 w3):=V (KR.out.trans (KS.below NM (fun i hi=>(eo Ld.out hi).1)));obtain⟨L,hL⟩:∃L,L=kh e.locals++mV e.body:=⟨_,rfl⟩;rw [<- hL]at Lq hlen3;have HL:=V hL;have MF:=V Lq;have NN:=QG.out.size;have hsz0:=HBW2.out.size;have hb03:Below w.heap.size w w3:=HBW2.out.trans (QG.out.mono hsz0);have Ma:=V ((Wr.refl HO.out).below hb03);have HIB:=V (dU.fm Lq);obtain⟨a3,LU,rfl,-,-,-⟩:=dU.fm Lq;clear hL KS LS Lq x1 hb03;go_wp2_with fail;refine(fF b xs L.length (by omega) B w3 Ma.out.1 (by omega) (Ma.out.base hB)).mono ?_;rintro x w4 ⟨v4,rfl,LZ,N3,Mi⟩;have Lo:=V (Ma.out.step ⟨LZ,N3,Mi⟩);have MI:=V (dU.fm (dU.keeps MF.out N3 (fun i hi hj=>by have:=(eo MF.out hi).1;have:=(eo HO.out hj).2;omega)));have hp:=(eD L.length).2;clear N3 Mi LZ;go_wp2_with (first | (at_builtin;refine fK w4 rfl _ _ rfl rfl B v4 _ rfl Lo.out.1 _ _ rfl MI.out (by simp only [ah];omega) (Lo.out.base hB) ?_));intro v5 w5 ho5 NA Pu;have NR:=V (Lo.out.step ⟨ho5,NA,Pu⟩);clear ho5 NA Pu;go_wp2_with fail;go_ret;exact⟨_,rfl,by
    have h:=NR.out;rw [HL.out]at h;show Wr _ _ _ _ _ _;simpa [im,lT] using h⟩
  obtain⟨x,hx⟩:∃x,e.locals[k]?=some x:=⟨_,aq q⟩;obtain⟨bb,off,rfl,Kq,KH⟩:=HCL.out k x hx;have hb01:Below w0.heap.size w0 w1:=H0.out.1.trans ((QF.out.trans (KW.out.mono QF.out.size)).mono H0.out.1.size);have c0:=(hb01.cell Kq).trans (KH 0 _ rfl);rw [aK,bj]at c0;have HX:=V hx;clear KH Kq hx hb01;by_cases q0:k=0
  ·have f1:decide (0 < k)=false:=aA (by omega)
   have HSN:Hid (kG (gx (e.locals.take k)) x=gx (e.locals.take k)++[(1,x)]):=V (by subst q0;rfl);clear q0;obtain⟨us,hus,Oh,huq⟩:=HRN.out.rows;have Nh:us.length <=32:=by
    have:=oM (e.locals.take (k));rw [aR]at this;omega
   have HUS:=V hus;have HUQ:=V huq;have HUL:=V Oh;obtain⟨av,cv,rfl,-,LC⟩:=hus.slice;have O4:=KW.out.size;clear hus huq Oh;go_wp2_with (first | (at_builtin;refine eQ (w1.alloc (.cells #[.int .i64 x] 3)) rfl _ _ 318 rfl _ 24 (by kernel_rfl) wC rfl (by decide) (by decide) wA.heap.size (.slice av us.length cv) us rfl (HUS.out.below ((an _ _).alloc (ag _) _)) (.slice (some ⟨w1.heap.size,0,none⟩) 1 1) _ rfl rfl (by simp [qB,Value.oneCell']) (by rw [aE];rfl) (by omega) (by rw [aE];omega) ?_));intro v' w2 ho Kp Ku;have hs2':eC w1 (.slice av us.length cv) v':=fun i hi=>(Ku i hi).imp id (fun g=>by rw [aE]at g;omega);have HN:=V (iy.new HRN.out HUS.out HUL.out ho Kp hs2' O4 HUQ.out);have HBN:Hid (Below wA.heap.size wA w2):=V ((KW.out.alloc O4 _).trans (Kp.below (by rw [aE];omega) (fun i hi=>(eo HUS.out hi).1)));clear ho Kp Ku hs2';go_wp2_with fail;refine HR.out _ _ ⟨_,k+1,rfl,by omega,HBN.out,?_⟩ ?_
   ·rw [aQ,HX.out]
    show iy _ _ _ (gx (e.locals.take (k)++[x]));rw [nd,HSN.out];exact HN.out
   ·simp [intOf]
    omega
  obtain⟨j,rfl⟩:∃j,k=j+1:=⟨k - 1,by omega⟩;obtain⟨y,hy⟩:∃y,e.locals[j]?=some y:=⟨_,aq (by omega)⟩;obtain⟨bb',off',heq,Kq,KH⟩:=HCL.out j y hy;injection heq with heq;injection heq with e1 e2;subst e1 e2;have hb01:Below w0.heap.size w0 w1:=H0.out.1.trans ((QF.out.trans (KW.out.mono QF.out.size)).mono H0.out.1.size);have cy:=(hb01.cell Kq).trans (KH 0 _ rfl);rw [aK,bj]at cy;clear KH Kq hb01;have f1:decide ((0:Int) < (j:Int)+1)=true:=az (by omega);obtain⟨rs,n,k',OT,Np,PY⟩:=vH (e.locals.take (j+1)) (by
   intro h;have:=cW List.length h;rw [aR]at this;simp only [aM]at this;omega)
  have hky:k'=y:=by
   rw [aQ,hy]at Np;simpa using Np.symm
  subst hky;by_cases q1:k'=x;rotate_left
  ·have f2:(k'==x)=false:=dQ q1
   have HSN:Hid (kG (gx (e.locals.take (j+1))) x=gx (e.locals.take (j+1))++[(1,x)]):=V (by rw [OT,qg,aC q1];simp);clear q1 q0 OT Np PY hy;obtain⟨us,hus,Oh,huq⟩:=HRN.out.rows;have Nh:us.length <=32:=by
    have:=oM (e.locals.take (j+1));rw [aR]at this;omega
   have HUS:=V hus;have HUQ:=V huq;have HUL:=V Oh;obtain⟨av,cv,rfl,-,LC⟩:=hus.slice;have O4:=KW.out.size;clear hus huq Oh;go_wp2_with (first | (at_builtin;refine eQ (w1.alloc (.cells #[.int .i64 x] 3)) rfl _ _ 318 rfl _ 24 (by kernel_rfl) wC rfl (by decide) (by decide) wA.heap.size (.slice av us.length cv) us rfl (HUS.out.below ((an _ _).alloc (ag _) _)) (.slice (some ⟨w1.heap.size,0,none⟩) 1 1) _ rfl rfl (by simp [qB,Value.oneCell']) (by rw [aE];rfl) (by omega) (by rw [aE];omega) ?_));intro v' w2 ho Kp Ku;have hs2':eC w1 (.slice av us.length cv) v':=fun i hi=>(Ku i hi).imp id (fun g=>by rw [aE]at g;omega);have HN:=V (iy.new HRN.out HUS.out HUL.out ho Kp hs2' O4 HUQ.out);have HBN:Hid (Below wA.heap.size wA w2):=V ((KW.out.alloc O4 _).trans (Kp.below (by rw [aE];omega) (fun i hi=>(eo HUS.out hi).1)));clear ho Kp Ku hs2';go_wp2_with fail;refine HR.out _ _ ⟨_,j+1+1,rfl,by omega,HBN.out,?_⟩ ?_
   ·rw [aQ,HX.out]
    show iy _ _ _ (gx (e.locals.take (j+1)++[x]));rw [nd,HSN.out];exact HN.out
   ·simp [intOf]
    omega
  ·subst q1
   have f2:(k'==k')=true:=eF rfl;have HSN:Hid (kG (gx (e.locals.take (j+1))) k'=rs++[(n+1,k')]):=V (by rw [OT,qg,aJ rfl]);have hnn:n <=32:=by
    have:=(qG (e.locals.take (j+1)) (n,k') (by rw [OT];simp)).2;rw [aR]at this;simp only at this;omega
   have hrl:=HRN.out;rw [OT]at hrl;obtain⟨LJ,ul,h2,h3,h4,h5,h6⟩:=hrl.last;obtain⟨g,cap,cur,rfl,Ov,MQ,hg3,Me,La⟩:=h3.open (by simp);have hlu:(LJ++[ul]).length=LJ.length+1:=by simp
   rw [hlu]at h3 h6 Me;rw [hlu];obtain⟨aul,cul,rfl,-,hcu⟩:=h4.slice;rw [bu]at h3 h4 h6;have c1:w1.cell? ⟨g,LJ.length,none⟩=some (.slice aul n cul):=by
    have:=dR.cell qY h3 (i:=LJ.length) (j:=0) (x:= .slice aul n cul) (u:= .slice aul n cul) (by simp) rfl
    rwa [bj,aK]at this
   have H2:=V h2;have H3:=V h3;have H4:=V h4;have H6:=V h6;have hus2:LJ.length <=32:=by
    have:=oM (e.locals.take (j+1));rw [aR,OT]at this;simp at this;omega
   have O4:=KW.out.size;clear hrl h2 h3 h4 h5 h6 hg3 OT Np PY q0 hy hlu La;go_wp2_with (first | (at_builtin;refine eQ w1 rfl _ _ 25 rfl _ 8 (by kernel_rfl) jH rfl (by decide) (by decide) wA.heap.size (.slice aul n cul) (List.replicate n k') rfl H4.out k' _ rfl rfl (BG k') rfl (by simp only [bu];omega) O4 ?_));intro v' w2 ho Kp Ku;have hd:∀i,ey (.slice (some ⟨g,0,none⟩) (LJ.length+1) cap) i ->¬ ey (.slice aul n cul) i:=fun i hi=>dR.ne H3.out H4.out (by decide) i hi;have H3':=V (dR.keeps H3.out Kp hd);have c2:w2.cell? ⟨g,LJ.length,none⟩=some (.slice aul n cul):=by
    have:=dR.cell qY H3'.out (i:=LJ.length) (j:=0) (x:= .slice aul n cul) (u:= .slice aul n cul) (by simp) rfl
    rwa [bj,aK]at this
   have z2:=H3'.out.free LJ.length;obtain⟨av,cv,rfl,-,LC⟩:=ho.slice;have HN:=V (iy.grow H2.out H3.out H4.out H6.out ho Kp Ku rfl);have HBN:Hid (Below wA.heap.size wA (w2.setCell ⟨g,LJ.length,none⟩ (.slice av (List.replicate n k'++[k']).length cv))):=V ((KW.out.trans (Kp.below O4 (fun i hi=>(eo H4.out hi).1))).setCell Ov _);rw [ah,bu,aB]at HN HBN;rw [ah,bu,aB];clear ho Kp Ku hd;go_wp2_with fail;refine HR.out _ _ ⟨_,j+1+1,rfl,by omega,HBN.out,?_⟩ ?_
   ·rw [aQ,HX.out]
    show iy _ _ _ (gx (e.locals.take (j+1)++[k']));rw [nd,HSN.out];exact HN.out
   ·simp [intOf]
    omega
theorem tv {w:World} {Y:Nat} (h:eE w Y #[.int .u8 0] 5):eI w (.slice (some ⟨Y,0,none⟩) 1 1) [0]:=
 ⟨_,1,rfl,ag _,by simp [maxLen],fun i x hx=>⟨Y,0,rfl,by
  match i,hx with
  | 0,hx=>
   injection hx with hx;subst hx;exact h.cell 0⟩⟩
theorem Gh (e:iB) (b:Value) (xs:List UInt8) (w:World) (B:Nat) (Ki:dU w B b xs) (hn:xs.length <=100000000) (hB:B <=w.heap.size) (hm:e.may):
  Calls prog 186 #[b, .agg #[.string e.name, .int .i64 e.func]] w (fk xs (nE e) B b w):=by
 have l1:=nJ hm.1;have hs0:=hm.1.2.1;have HM:=V hm;clear hm;have HW:=V ((Wr.refl Ki).alloc (.cells #[.string e.name, .int .i64 e.func] 111));have HA:=V (Aside.new Ki #[.string e.name, .int .i64 e.func] 111);clear Ki;go_enter func186,ntmps186;go_wp2_with fail;refine lC (fun w'=>w'.cell? ⟨w.heap.size,0,none⟩=some (.string e.name)/\w'.cell? ⟨w.heap.size,1,none⟩=some (.int .i64 e.func)) (ord [(0,true),(1,true),(2,true),(6,true),(7,true)] (.fork 3 4 (ord [(4,false),(5,false),(8,false),(9,true)] .nil) (ord [(3,false),(5,false),(8,false),(9,true)] .nil))) (by kernel_rfl) (by kernel_rfl) ⟨HA.out.cell 0,HA.out.cell 1⟩ ?_;dsimp only [ord];have HW:=V HW.out.drew;have HA:=V HA.out.drew;obtain⟨X,hX⟩:∃X,X=w.heap.size:=⟨_,rfl⟩;rw [<- hX]at HA⊢;clear hX;generalize(w.alloc (.cells #[.string e.name, .int .i64 e.func] 111)).drew=wa at HW HA⊢;iterate 5 (first | (apply ord_skip rfl rfl;simp only [Act.put,aZ,bE,bH]) | (apply iw rfl rfl rfl;·(rintro w' ⟨t0,t1⟩;go_wp2;exact⟨rfl,rfl,rfl⟩)))
 refine pg rfl rfl rfl rfl ?_ ?_
 ·skip
  go_wp2_with fail;refine(mW b xs e.name B wa HW.out.1 (by omega) (by omega) (HW.out.base hB)).mono ?_;rintro e' w1 ⟨v1,rfl,ho,hk,hs⟩;have HA:=V (HA.out.next ⟨ho,hk,hs⟩);have HW:=V (HW.out.step ⟨ho,hk,hs⟩);clear ho hk hs;go_wp2_with fail;refine⟨⟨HA.out.cell 0,HA.out.cell 1⟩,?_⟩;refine fH rfl rfl ?_;go_wp2_with fail;refine⟨⟨(HA.out.alloc _).cell 0,(HA.out.alloc _).cell 1⟩,?_⟩;refine fH rfl rfl ?_;go_wp2_with (first | (at_builtin;refine eV w1 rfl _ _ rfl rfl B v1 _ rfl HW.out.1 (0:UInt8) _ rfl rfl (by first | omega | (simp only [ah];omega) | (simp only [ah,aB];omega)) (HW.out.base hB) ?_));intro v2 w2 ho hk hs;have HA:=V (HA.out.next ⟨ho,hk,hs⟩);have HW:=V (HW.out.step ⟨ho,hk,hs⟩);clear ho hk hs;go_wp2_with fail;refine⟨⟨HA.out.cell 0,HA.out.cell 1⟩,?_⟩;refine fH rfl rfl ?_;go_wp2_with fail;refine(mz e.func HM.out.2 v2 _ B w2 HW.out.1 (by simp only [ah,aB];omega) (HW.out.base hB)).mono ?_;rintro e' w9 ⟨v9,rfl,ho,hk,hs⟩;have HA:=V (HA.out.next ⟨ho,hk,hs⟩);have HW:=V (HW.out.step ⟨ho,hk,hs⟩);clear ho hk hs;go_wp2_with fail;refine⟨⟨HA.out.cell 0,HA.out.cell 1⟩,?_⟩;iterate 1 (first | (apply ord_skip rfl rfl;simp only [Act.put,aZ,bE,bH]) | (apply iw rfl rfl rfl;·(rintro w' ⟨t0,t1⟩;go_wp2;exact⟨rfl,rfl,rfl⟩)))
  refine lX ?_;refine aD ?_;go_wp2_with fail;go_ret;exact⟨_,rfl,by show Wr _ _ _ _ _ _;simpa [nE,rD] using HW.out⟩
 ·go_wp2_with fail
  refine⟨⟨(HA.out.alloc _).cell 0,(HA.out.alloc _).cell 1⟩,?_⟩;have HY:=V (Aside.new HW.out.1 #[.int .u8 0] 5);have HW:=V (HW.out.alloc (.cells #[.int .u8 0] 5));have HA:=V (HA.out.alloc (.cells #[.int .u8 0] 5));refine fH rfl rfl ?_;go_wp2_with fail;refine(mW b xs e.name B _ HW.out.1 (by omega) (by omega) (HW.out.base hB)).mono ?_;rintro e' w1 ⟨v1,rfl,ho,hk,hs⟩;have HY:=V (HY.out.next ⟨ho,hk,hs⟩);have HA:=V (HA.out.next ⟨ho,hk,hs⟩);have HW:=V (HW.out.step ⟨ho,hk,hs⟩);clear ho hk hs;go_wp2_with fail;refine⟨⟨HA.out.cell 0,HA.out.cell 1⟩,?_⟩;refine fH rfl rfl ?_;go_wp2_with (first | (at_builtin;refine fK w1 rfl _ _ rfl rfl B v1 _ rfl HW.out.1 _ [0] rfl (tv HY.out.1) (by first | omega | (simp only [ah,aB];omega) | (simp only [ah,aI,aM];omega)) (HW.out.base hB) ?_));intro v2 w2 ho hk hs;have HA:=V (HA.out.next ⟨ho,hk,hs⟩);have HW:=V (HW.out.step ⟨ho,hk,hs⟩);clear ho hk hs;go_wp2_with fail;refine⟨⟨HA.out.cell 0,HA.out.cell 1⟩,?_⟩;refine fH rfl rfl ?_;go_wp2_with fail;refine(mz e.func HM.out.2 v2 _ B w2 HW.out.1 (by simp only [ah,aB];omega) (HW.out.base hB)).mono ?_;rintro e' w9 ⟨v9,rfl,ho,hk,hs⟩;have HA:=V (HA.out.next ⟨ho,hk,hs⟩);have HW:=V (HW.out.step ⟨ho,hk,hs⟩);clear ho hk hs;go_wp2_with fail;refine⟨⟨HA.out.cell 0,HA.out.cell 1⟩,?_⟩;iterate 1 (first | (apply ord_skip rfl rfl;simp only [Act.put,aZ,bE,bH]) | (apply iw rfl rfl rfl;·(rintro w' ⟨t0,t1⟩;go_wp2;exact⟨rfl,rfl,rfl⟩)))
  refine lX ?_;refine aD ?_;go_wp2_with fail;go_ret;exact⟨_,rfl,by show Wr _ _ _ _ _ _;simpa [nE,rD] using HW.out⟩
theorem Gz (e:jd) (b:Value) (xs:List UInt8) (w:World) (B:Nat) (Ki:dU w B b xs) (hn:xs.length <=100000000) (hB:B <=w.heap.size) (hm:e.may):
  Calls prog 174 #[b, .agg #[.string e.mod, .string e.name, .int .i64 e.type]] w (fk xs (nq e) B b w):=by
 have l1:=nJ hm.1;have l2:=nJ hm.2.1;have hs0:=hm.1.2.1;have LV:=hm.2.1.2.1;have HM:=V hm;clear hm;have HW:=V ((Wr.refl Ki).alloc (.cells #[.string e.mod, .string e.name, .int .i64 e.type] 118));have HA:=V (Aside.new Ki #[.string e.mod, .string e.name, .int .i64 e.type] 118);clear Ki;go_enter func174,ntmps174;go_wp2_with fail;refine lC (fun w'=>w'.cell? ⟨w.heap.size,0,none⟩=some (.string e.mod)/\w'.cell? ⟨w.heap.size,1,none⟩=some (.string e.name)/\w'.cell? ⟨w.heap.size,2,none⟩=some (.int .i64 e.type)) (ord [(0,true),(1,true),(2,true),(4,true),(5,true),(9,true),(10,true)] (.fork 3 7 (.fork 6 7 (ord [(7,false),(8,false),(11,false),(12,true)] .nil) (ord [(6,false),(8,false),(11,false),(12,true)] .nil)) (ord [(3,false),(6,false),(8,false),(11,false),(12,true)] .nil))) (by kernel_rfl) (by kernel_rfl) ⟨HA.out.cell 0,HA.out.cell 1,HA.out.cell 2⟩ ?_;dsimp only [ord];have HW:=V HW.out.drew;have HA:=V HA.out.drew;obtain⟨X,hX⟩:∃X,X=w.heap.size:=⟨_,rfl⟩;rw [<- hX]at HA⊢;clear hX;generalize(w.alloc (.cells #[.string e.mod, .string e.name, .int .i64 e.type] 118)).drew=wa at HW HA⊢;iterate 7 (first | (apply ord_skip rfl rfl;simp only [Act.put,aZ,bE,bH]) | (apply iw rfl rfl rfl;·(rintro w' ⟨t0,t1,t2⟩;go_wp2;exact⟨rfl,rfl,rfl⟩)))
 refine pg rfl rfl rfl rfl ?_ ?_
 ·skip
  go_wp2_with fail;refine(mW b xs e.mod B wa HW.out.1 (by omega) (by omega) (HW.out.base hB)).mono ?_;rintro e' w1 ⟨v1,rfl,ho,hk,hs⟩;have HA:=V (HA.out.next ⟨ho,hk,hs⟩);have HW:=V (HW.out.step ⟨ho,hk,hs⟩);clear ho hk hs;go_wp2_with fail;refine⟨⟨HA.out.cell 0,HA.out.cell 1,HA.out.cell 2⟩,?_⟩;refine pg rfl rfl rfl rfl ?_ ?_
  ·skip
   go_wp2_with fail;refine(mW v1 _ e.name B w1 HW.out.1 (by simp only [ah];omega) (by omega) (HW.out.base hB)).mono ?_;rintro e' w2 ⟨v2,rfl,ho,hk,hs⟩;have HA:=V (HA.out.next ⟨ho,hk,hs⟩);have HW:=V (HW.out.step ⟨ho,hk,hs⟩);clear ho hk hs;go_wp2_with fail;refine⟨⟨HA.out.cell 0,HA.out.cell 1,HA.out.cell 2⟩,?_⟩;refine fH rfl rfl ?_;go_wp2_with fail;refine⟨⟨(HA.out.alloc _).cell 0,(HA.out.alloc _).cell 1,(HA.out.alloc _).cell 2⟩,?_⟩;refine fH rfl rfl ?_;go_wp2_with (first | (at_builtin;refine eV w2 rfl _ _ rfl rfl B v2 _ rfl HW.out.1 (0:UInt8) _ rfl rfl (by first | omega | (simp only [ah];omega) | (simp only [ah,aB];omega)) (HW.out.base hB) ?_));intro v3 w3 ho hk hs;have HA:=V (HA.out.next ⟨ho,hk,hs⟩);have HW:=V (HW.out.step ⟨ho,hk,hs⟩);clear ho hk hs;go_wp2_with fail;refine⟨⟨HA.out.cell 0,HA.out.cell 1,HA.out.cell 2⟩,?_⟩;refine fH rfl rfl ?_;go_wp2_with fail;refine(mz e.type HM.out.2.2 v3 _ B w3 HW.out.1 (by simp only [ah,aB];omega) (HW.out.base hB)).mono ?_;rintro e' w9 ⟨v9,rfl,ho,hk,hs⟩;have HA:=V (HA.out.next ⟨ho,hk,hs⟩);have HW:=V (HW.out.step ⟨ho,hk,hs⟩);clear ho hk hs;go_wp2_with fail;refine⟨⟨HA.out.cell 0,HA.out.cell 1,HA.out.cell 2⟩,?_⟩;iterate 1 (first | (apply ord_skip rfl rfl;simp only [Act.put,aZ,bE,bH]) | (apply iw rfl rfl rfl;·(rintro w' ⟨t0,t1,t2⟩;go_wp2;exact⟨rfl,rfl,rfl⟩)))
   refine lX ?_;refine aD ?_;go_wp2_with fail;go_ret;exact⟨_,rfl,by show Wr _ _ _ _ _ _;simpa [nq,rD] using HW.out⟩
  ·go_wp2_with fail
   refine⟨⟨(HA.out.alloc _).cell 0,(HA.out.alloc _).cell 1,(HA.out.alloc _).cell 2⟩,?_⟩;have HY:=V (Aside.new HW.out.1 #[.int .u8 0] 5);have HW:=V (HW.out.alloc (.cells #[.int .u8 0] 5));have HA:=V (HA.out.alloc (.cells #[.int .u8 0] 5));refine fH rfl rfl ?_;go_wp2_with fail;refine(mW v1 _ e.name B _ HW.out.1 (by simp only [ah];omega) (by omega) (HW.out.base hB)).mono ?_;rintro e' w2 ⟨v2,rfl,ho,hk,hs⟩;have HY:=V (HY.out.next ⟨ho,hk,hs⟩);have HA:=V (HA.out.next ⟨ho,hk,hs⟩);have HW:=V (HW.out.step ⟨ho,hk,hs⟩);clear ho hk hs;go_wp2_with fail;refine⟨⟨HA.out.cell 0,HA.out.cell 1,HA.out.cell 2⟩,?_⟩;refine fH rfl rfl ?_;go_wp2_with (first | (at_builtin;refine fK w2 rfl _ _ rfl rfl B v2 _ rfl HW.out.1 _ [0] rfl (tv HY.out.1) (by first | omega | (simp only [ah,aB];omega) | (simp only [ah,aI,aM];omega)) (HW.out.base hB) ?_));intro v3 w3 ho hk hs;have HA:=V (HA.out.next ⟨ho,hk,hs⟩);have HW:=V (HW.out.step ⟨ho,hk,hs⟩);clear ho hk hs;go_wp2_with fail;refine⟨⟨HA.out.cell 0,HA.out.cell 1,HA.out.cell 2⟩,?_⟩;refine fH rfl rfl ?_;go_wp2_with fail;refine(mz e.type HM.out.2.2 v3 _ B w3 HW.out.1 (by simp only [ah,aB];omega) (HW.out.base hB)).mono ?_;rintro e' w9 ⟨v9,rfl,ho,hk,hs⟩;have HA:=V (HA.out.next ⟨ho,hk,hs⟩);have HW:=V (HW.out.step ⟨ho,hk,hs⟩);clear ho hk hs;go_wp2_with fail;refine⟨⟨HA.out.cell 0,HA.out.cell 1,HA.out.cell 2⟩,?_⟩;iterate 1 (first | (apply ord_skip rfl rfl;simp only [Act.put,aZ,bE,bH]) | (apply iw rfl rfl rfl;·(rintro w' ⟨t0,t1,t2⟩;go_wp2;exact⟨rfl,rfl,rfl⟩)))
   refine lX ?_;refine aD ?_;go_wp2_with fail;go_ret;exact⟨_,rfl,by show Wr _ _ _ _ _ _;simpa [nq,rD] using HW.out⟩
 ·go_wp2_with fail
  refine⟨⟨(HA.out.alloc _).cell 0,(HA.out.alloc _).cell 1,(HA.out.alloc _).cell 2⟩,?_⟩;have HY:=V (Aside.new HW.out.1 #[.int .u8 0] 5);have HW:=V (HW.out.alloc (.cells #[.int .u8 0] 5));have HA:=V (HA.out.alloc (.cells #[.int .u8 0] 5));refine fH rfl rfl ?_;go_wp2_with fail;refine(mW b xs e.mod B _ HW.out.1 (by omega) (by omega) (HW.out.base hB)).mono ?_;rintro e' w1 ⟨v1,rfl,ho,hk,hs⟩;have HY:=V (HY.out.next ⟨ho,hk,hs⟩);have HA:=V (HA.out.next ⟨ho,hk,hs⟩);have HW:=V (HW.out.step ⟨ho,hk,hs⟩);clear ho hk hs;go_wp2_with fail;refine⟨⟨HA.out.cell 0,HA.out.cell 1,HA.out.cell 2⟩,?_⟩;refine fH rfl rfl ?_;go_wp2_with fail;refine(mW v1 _ e.name B w1 HW.out.1 (by simp only [ah];omega) (by omega) (HW.out.base hB)).mono ?_;rintro e' w2 ⟨v2,rfl,ho,hk,hs⟩;have HY:=V (HY.out.next ⟨ho,hk,hs⟩);have HA:=V (HA.out.next ⟨ho,hk,hs⟩);have HW:=V (HW.out.step ⟨ho,hk,hs⟩);clear ho hk hs;go_wp2_with fail;refine⟨⟨HA.out.cell 0,HA.out.cell 1,HA.out.cell 2⟩,?_⟩;refine fH rfl rfl ?_;go_wp2_with (first | (at_builtin;refine fK w2 rfl _ _ rfl rfl B v2 _ rfl HW.out.1 _ [0] rfl (tv HY.out.1) (by first | omega | (simp only [ah,aB];omega) | (simp only [ah,aI,aM];omega)) (HW.out.base hB) ?_));intro v3 w3 ho hk hs;have HA:=V (HA.out.next ⟨ho,hk,hs⟩);have HW:=V (HW.out.step ⟨ho,hk,hs⟩);clear ho hk hs;go_wp2_with fail;refine⟨⟨HA.out.cell 0,HA.out.cell 1,HA.out.cell 2⟩,?_⟩;refine fH rfl rfl ?_;go_wp2_with fail;refine(mz e.type HM.out.2.2 v3 _ B w3 HW.out.1 (by simp only [ah,aB];omega) (HW.out.base hB)).mono ?_;rintro e' w9 ⟨v9,rfl,ho,hk,hs⟩;have HA:=V (HA.out.next ⟨ho,hk,hs⟩);have HW:=V (HW.out.step ⟨ho,hk,hs⟩);clear ho hk hs;go_wp2_with fail;refine⟨⟨HA.out.cell 0,HA.out.cell 1,HA.out.cell 2⟩,?_⟩;iterate 1 (first | (apply ord_skip rfl rfl;simp only [Act.put,aZ,bE,bH]) | (apply iw rfl rfl rfl;·(rintro w' ⟨t0,t1,t2⟩;go_wp2;exact⟨rfl,rfl,rfl⟩)))
  refine lX ?_;refine aD ?_;go_wp2_with fail;go_ret;exact⟨_,rfl,by show Wr _ _ _ _ _ _;simpa [nq,rD] using HW.out⟩
theorem dU.F7 {w:World} {B:Nat} {v:Value} {xs:List UInt8} {x:UInt8} (h:dU w B v (xs++[x])):
  ∃g cap,v= .slice (some ⟨g,0,none⟩) (xs.length+1) cap/\xs.length+1 <=cap/\cap <=maxLen/\g < w.heap.size/\w.cell? ⟨g,xs.length,none⟩=some (bv x)/\w.frozen? ⟨g,xs.length,none⟩=false/\
   ∀y,dU (w.setCell ⟨g,xs.length,none⟩ (bv y)) B v (xs++[y]):=by
 have hb:=dU.fm h;obtain⟨hl,hv | ⟨g,cap,cur,hv,hB,hg,hn,hm,hs,ht⟩⟩:=h
 ·exact absurd hv.2 (by simp)
 ·have hlen:(xs++[x]).length=xs.length+1:=by simp
  rw [hlen]at hv hn;refine⟨g,cap,hv,hn,hm,(cq.1 hg).1,?_,cZ w g _ cur _ hg,fun y=>?_⟩
  ·obtain⟨a,KE,he,_,_,hc⟩:=hb
   rw [hv]at he;injection he with e1 e2 e3;subst e1;obtain⟨b,off,Kl,KH⟩:=hc xs.length x (by simp);injection Kl with Kl;injection Kl with Kl K4;subst Kl K4;rw [bX]at KH;exact KH
  ·refine⟨by simp, .inr ⟨g,cap,cur.setIfInBounds xs.length (bv y),by rw [hv];simp,hB,heap_setCell_same w g _ cur _ _ hg,by simpa using hn,hm,by simpa using hs,?_⟩⟩
   rw [Array.toList_setIfInBounds,List.take_set];have ht2:cur.toList.take ((xs++[y]).length*1)=xs.map bv++[bv x]:=by
    rw [show(xs++[y]).length*1=(xs++[x]).length*1 by simp,ht];simp
   rw [ht2,List.set_append_right _ _ (by simp)];simp
theorem Gn (e:jb) (b:Value) (xs:List UInt8) (w:World) (B:Nat) (Ki:dU w B b xs) (hn:xs.length <=100000000) (hB:B <=w.heap.size) (hm:e.init.may) (ho:e.init.ok):
  Calls prog 183 #[b, .agg #[.bool e.isVar, .int .i64 e.init.kind, .int .i64 e.init.n]] w (fk xs (kB e) B b w):=by
 have HM:=V hm;have HO:=V ho;obtain⟨mu,k,n⟩:=e;simp only at HM HO⊢;clear hm ho;have HW:=V ((Wr.refl Ki).alloc (.cells #[.bool mu, .int .i64 k, .int .i64 n] 120));have HA:=V (Aside.new Ki #[.bool mu, .int .i64 k, .int .i64 n] 120);clear Ki;have c1:(w.alloc (.cells #[.bool mu, .int .i64 k, .int .i64 n] 120)).cell? ⟨w.heap.size,1,none⟩=some (.int .i64 k):=HA.out.cell 1;go_enter func183,ntmps183;go_wp2_with fail;refine(ng b xs k B _ HW.out.1 (by omega) (HW.out.base hB)).mono ?_;rintro e' w1 ⟨v1,rfl,ho,hk,hs⟩;have HA:=V (HA.out.next ⟨ho,hk,hs⟩);have HW:=V (HW.out.step ⟨ho,hk,hs⟩);clear ho hk hs c1;go_wp2_with (first | (at_builtin;refine eV w1 rfl _ _ rfl rfl B v1 _ rfl HW.out.1 (0:UInt8) _ rfl rfl (by simp only [ah,je,aI,aM];omega) (HW.out.base hB) ?_));intro v2 w2 ho hk hs;have HA:=V (HA.out.next ⟨ho,hk,hs⟩);have HW:=V (HW.out.step ⟨ho,hk,hs⟩);clear ho hk hs;have c0:w2.cell? ⟨w.heap.size,0,none⟩=some (.bool mu):=HA.out.cell 0;obtain⟨L,hL⟩:∃L,xs++je k=L:=⟨_,rfl⟩;have hLn:L.length <=100000001:=by rw [<- hL,ah];simp only [je,aI,aM];omega
 have HG:Hid (xs++kB ⟨mu,⟨k,n⟩⟩=L++((if mu=true then 1 else 0)::lQ ⟨k,n⟩)):=V (by rw [<- hL,kB,aP]);have HL:=V (show Wr w b B w2 v2 (L++[0])by rw [<- hL,aP];exact HW.out);clear hL;obtain⟨g,cap,rfl,K7,MR,hg,cl,fz,Og⟩:=HL.out.1.F7;unfold maxLen at MR;have HSET:=V Og;clear Og;cases mu with
 | false=>
  have c1:w2.cell? ⟨w.heap.size,1,none⟩=some (.int .i64 k):=HA.out.cell 1;have c2:w2.cell? ⟨w.heap.size,2,none⟩=some (.int .i64 n):=HA.out.cell 2;go_wp2_with fail;refine(nU (.slice (some ⟨g,0,none⟩) (L.length+1) cap) _ ⟨k,n⟩ B w2 HL.out.1 (by simp only [ah,aB];omega) (HL.out.base hB) HM.out HO.out).mono ?_;rintro e' w9 ⟨v9,rfl,ho,hk,hs⟩;have HL9:=V (HL.out.step ⟨ho,hk,hs⟩);clear ho hk hs;go_wp2_with fail;go_ret;exact⟨_,rfl,by rw [HG.out];show Wr _ _ _ _ _ _;simpa using HL9.out⟩
 | true=>
  have ho:=HSET.out 1;have hk:dS (ey (.slice (some ⟨g,0,none⟩) (L.length+1) cap)) w2 (w2.setCell ⟨g,L.length,none⟩ (.int .u8 1)):=(show dS (fun k=>k=g) w2 (w2.setCell ⟨g,L.length,none⟩ (.int .u8 1))from⟨rfl,rfl,rfl,by simp,fun k _ hk=>cN w2 ⟨g,L.length,none⟩ (.int .u8 1) k hk⟩).mono (fun i hi=>by rw [hi];rfl);have hs:=eC.refl w2 (.slice (some ⟨g,0,none⟩) (L.length+1) cap);have HA2:=V (HA.out.next ⟨ho,hk,hs⟩);have PQ:=V (HL.out.step ⟨ho,hk,hs⟩);have c1:(w2.setCell ⟨g,L.length,none⟩ (.int .u8 1)).cell? ⟨w.heap.size,1,none⟩=some (.int .i64 k):=HA2.out.cell 1;have c2:(w2.setCell ⟨g,L.length,none⟩ (.int .u8 1)).cell? ⟨w.heap.size,2,none⟩=some (.int .i64 n):=HA2.out.cell 2;clear ho hk hs;go_wp2_with fail;refine(nU (.slice (some ⟨g,0,none⟩) (L.length+1) cap) _ ⟨k,n⟩ B _ PQ.out.1 (by simp only [ah,aB];omega) (PQ.out.base hB) HM.out HO.out).mono ?_;rintro e' w9 ⟨v9,rfl,ho,hk,hs⟩;have HL9:=V (PQ.out.step ⟨ho,hk,hs⟩);clear ho hk hs;go_wp2_with fail;go_ret;exact⟨_,rfl,by rw [HG.out];show Wr _ _ _ _ _ _;simpa using HL9.out⟩
theorem Hl (p:gy ->Bool) (v:Value) (l:List gy) (w:World) (hl:ea 2 ru gG w v l) (Kj:Nat) (cs:Array Value)
  (hE:∀args w,(callFunc Kj args).run prog w= .ok (.enter Kj args) w)
  (hp:∀e∈l,∀u w',Below w.heap.size w w' ->gG w' e u ->Calls prog Kj (#[.agg #[u.1,u.2]]++cs) w' (et (p e) w')):
  Calls prog 284 #[v, .func (.func Kj) #[] cs] w (jP p l w):=by
 have HP:=V hp;have HI:=V hl;obtain⟨a,cap,rfl,h1,h2⟩:=ea.slice hl;clear hl hp;go_enter func284,ntmps284;go_wp2_with fail;refine ez (fun a' w'=>∃(k:Nat),a'=fr (.slice a l.length cap:: .func (.func Kj) #[] cs::gs a' 2 5 (.int .i64 l.length:: .int .i64 k::gs a' 9 10 []))/\pI p l w w' k) (fun a' _=>(l.length - (intOf (a'.tmps.getD 8 undef)).toNat)) ?_ ?_
 ·exact⟨0,rfl,by omega,fun i hi=>by omega,an _ _⟩
 ·skip
  rintro R a' w1 ⟨k,Kk,hJ⟩ HR;dsimp only [fr,gs]at Kk;generalize slot a'=f at Kk;subst Kk;obtain⟨hk,hm,hb⟩:=hJ;have Lj:=V hm;clear hm;by_cases Lg:k < l.length;rotate_left
  ·obtain rfl:k=l.length:=by omega
   go_wp2_with fail;go_ret;exact⟨by rw [gL Lj.out];rfl,hb⟩
  obtain⟨e,he⟩:∃e,l[k]?=some e:=⟨_,aq Lg⟩;obtain⟨b,off,u,rfl,Kq,hc,hu⟩:=(ea.below HI.out (hb.mono (ag _)) (fun _ _ h=>h.below (hb.mono (ag _)))).get he;have Ks:=HP.out e (aO he) u w1 hb hu;obtain⟨u1,u2⟩:=u;obtain⟨⟨⟨a1,Ky,Mc,-,-,-⟩,⟨a2,Kn,Ml,-,-,-⟩⟩,-⟩:=id hu;simp only at Mc Ml;subst Mc Ml;have c0:=hc 0 _ rfl;have c1:=hc 1 _ rfl;rw [aK]at c0;have HE:=V he;clear he hc hu;cases hq:p e
  all_goals
   rw [hq]at Ks;have HQ:=V hq;clear hq;go_wp2_with fail;refine Ks.mono ?_;rintro x w2 ⟨rfl,Kl⟩;replace hb:=dW hb Kl;clear Ks Kl c0 c1;go_wp2_with fail
  ·refine HR.out _ _ ⟨k+1,rfl,by omega,?_,hb⟩ ?_
   ·intro i hi d hd
    rcases bq i k with h | h
    ·exact Lj.out i h d hd
    ·obtain rfl:i=k:=by omega
     rw [HE.out]at hd;injection hd with hd;rw [<- hd];exact HQ.out
   ·simp [intOf]
    omega
  ·go_ret
   exact⟨by rw [ie HE.out HQ.out Lj.out];rfl,hb⟩
theorem Ew (p:gy ->Bool) (v:Value) (l:List gy) (w:World) (hl:ea 2 ru gG w v l) (Kj:Nat) (cs:Array Value)
  (hE:∀args w,(callFunc Kj args).run prog w= .ok (.enter Kj args) w)
  (hp:∀e∈l,∀u w',Below w.heap.size w w' ->gG w' e u ->Calls prog Kj (#[.agg #[u.1,u.2]]++cs) w' (et (p e) w')):
  Calls prog 245 #[v, .func (.func Kj) #[] cs] w (et (l.any p) w):=by
 go_enter func245,ntmps245;go_wp2_with fail;refine(Hl p v l _ hl Kj cs hE hp).mono ?_;rintro x w2 ⟨rfl,hb⟩;clear hE;go_wp2_with fail;go_ret;exact⟨by rw [<- iu];rfl,hb⟩
theorem DH (b:Bool) (a1 a2:Option Addr) (n1 n2 c1 c2:Nat) (Kj:Nat) (cs:Array Value) (X:Nat) (w:World)
  (hE:∀args w,(callFunc Kj args).run prog w= .ok (.enter Kj args) w) (hX:w.cell? ⟨X,0,none⟩=some (.func (.func Kj) #[] cs))
  (hp:∀w',Below w.heap.size w w' ->Calls prog Kj (#[.agg #[.slice a1 n1 c1, .slice a2 n2 c2]]++cs) w' (et b w')):
  Calls prog 246 #[.agg #[.slice a1 n1 c1, .slice a2 n2 c2], .pointer (some ⟨X,0,none⟩)] w (et (!b) w):=by
 have Kq:=aS w _ hX;have HP:=V hp;clear hp;go_enter func246,ntmps246;go_wp2_with fail;refine(HP.out _ ((an _ _).alloc (ag _) _)).mono ?_;rintro x w2 ⟨rfl,hb⟩;clear hE hX;go_wp2_with fail;go_ret;exact⟨rfl,((an _ _).alloc (ag _) _).trans (hb.mono (by simp))⟩
theorem ER (p:gy ->Bool) (v:Value) (l:List gy) (w:World) (hl:ea 2 ru gG w v l) (Kj:Nat) (fg:Int)
  (hE:∀args w,(callFunc Kj args).run prog w= .ok (.enter Kj args) w)
  (hp:∀e∈l,∀u w',Below w.heap.size w w' ->gG w' e u ->Calls prog Kj #[.agg #[u.1,u.2]] w' (et (p e) w')):
  Calls prog 154 #[v, .int .i64 fg, .func (.func Kj) #[] #[]] w (et (decide ((l.length:Int) <=fg)&&l.all p) w):=by
 have HP:=V hp;obtain⟨a,cap,rfl,h1,h2⟩:∃a cap,v= .slice a l.length cap/\l.length <=cap/\cap <=9223372036854775807:=ea.slice hl;have HL:=V hl;clear hp hl;by_cases q:(l.length:Int) <=fg
 ·have f:decide ((l.length:Int) <=fg)=true:=az q
  go_enter func154,ntmps154;go_wp2_with fail;refine bT (Ew (fun e=> !p e) _ l _ (ea.below HL.out ((an _ _).alloc (ag _) _) (fun _ _ h=>h.below ((an _ _).alloc (ag _) _))) 246 #[.pointer (some ⟨w.heap.size,0,none⟩)] (fun args w=>by rfl) ?_) ?_
  ·intro e he u w' hw' hu
   obtain⟨hX,hw⟩:=boxed hw';obtain⟨u1,u2⟩:=u;obtain⟨⟨⟨a1,Ky,Mc,-,-,-⟩,⟨a2,Kn,Ml,-,-,-⟩⟩,-⟩:=id hu;simp only at Mc Ml;subst Mc Ml;exact DH (p e) _ _ _ _ _ _ Kj #[] _ w' hE hX (fun w2 h2=>by simpa using HP.out e he _ w2 (hw.trans (h2.mono hw.size)) (hu.below h2))
  rintro x w2 ⟨rfl,hb⟩;clear hE;have HF:=V f;clear f;have f:decide ((l.length:Int) <=fg)=true:=HF.out;go_wp2_with fail;go_ret;refine⟨?_,((an _ _).alloc (ag _) _).trans (hb.mono (by simp))⟩;have e1:l.all p= !(l.any fun e=> !p e):=by rw [bU];simp
  rw [f,e1,ct];rfl
 ·have f:decide ((l.length:Int) <=fg)=false:=aA q
  go_enter func154,ntmps154;go_wp2_with fail;go_ret;exact⟨by first | rfl | (rw [f];rfl),(an _ _).alloc (ag _) _⟩
theorem He (p:gN ->Bool) (v:Value) (l:List gN) (w:World) (hl:ea 2 rV gD w v l) (Kj:Nat) (cs:Array Value)
  (hE:∀args w,(callFunc Kj args).run prog w= .ok (.enter Kj args) w)
  (hp:∀e∈l,∀u w',Below w.heap.size w w' ->gD w' e u ->Calls prog Kj (#[.agg #[u.1,u.2]]++cs) w' (et (p e) w')):
  Calls prog 243 #[v, .func (.func Kj) #[] cs] w (jP p l w):=by
 have HP:=V hp;have HI:=V hl;obtain⟨a,cap,rfl,h1,h2⟩:=ea.slice hl;clear hl hp;go_enter func243,ntmps243;go_wp2_with fail;refine ez (fun a' w'=>∃(k:Nat),a'=fr (.slice a l.length cap:: .func (.func Kj) #[] cs::gs a' 2 5 (.int .i64 l.length:: .int .i64 k::gs a' 9 10 []))/\pI p l w w' k) (fun a' _=>(l.length - (intOf (a'.tmps.getD 8 undef)).toNat)) ?_ ?_
 ·exact⟨0,rfl,by omega,fun i hi=>by omega,an _ _⟩
 ·skip
  rintro R a' w1 ⟨k,Kk,hJ⟩ HR;dsimp only [fr,gs]at Kk;generalize slot a'=f at Kk;subst Kk;obtain⟨hk,hm,hb⟩:=hJ;have Lj:=V hm;clear hm;by_cases Lg:k < l.length;rotate_left
  ·obtain rfl:k=l.length:=by omega
   go_wp2_with fail;go_ret;exact⟨by rw [gL Lj.out];rfl,hb⟩
  obtain⟨e,he⟩:∃e,l[k]?=some e:=⟨_,aq Lg⟩;obtain⟨b,off,u,rfl,Kq,hc,hu⟩:=(ea.below HI.out (hb.mono (ag _)) (fun _ _ h=>h.below (hb.mono (ag _)))).get he;have Ks:=HP.out e (aO he) u w1 hb hu;obtain⟨u1,u2⟩:=u;obtain⟨⟨⟨a1,Ky,Mc,-,-,-⟩,K5⟩,-⟩:=id hu;obtain⟨a2,Kn,Ml,-,-⟩:=ea.slice K5;simp only at Mc Ml;subst Mc Ml;clear K5;have c0:=hc 0 _ rfl;have c1:=hc 1 _ rfl;rw [aK]at c0;have HE:=V he;clear he hc hu;cases hq:p e
  all_goals
   rw [hq]at Ks;have HQ:=V hq;clear hq;go_wp2_with fail;refine Ks.mono ?_;rintro x w2 ⟨rfl,Kl⟩;replace hb:=dW hb Kl;clear Ks Kl c0 c1;go_wp2_with fail
  ·refine HR.out _ _ ⟨k+1,rfl,by omega,?_,hb⟩ ?_
   ·intro i hi d hd
    rcases bq i k with h | h
    ·exact Lj.out i h d hd
    ·obtain rfl:i=k:=by omega
     rw [HE.out]at hd;injection hd with hd;rw [<- hd];exact HQ.out
   ·simp [intOf]
    omega
  ·go_ret
   exact⟨by rw [ie HE.out HQ.out Lj.out];rfl,hb⟩
theorem Em (p:gN ->Bool) (v:Value) (l:List gN) (w:World) (hl:ea 2 rV gD w v l) (Kj:Nat) (cs:Array Value)
  (hE:∀args w,(callFunc Kj args).run prog w= .ok (.enter Kj args) w)
  (hp:∀e∈l,∀u w',Below w.heap.size w w' ->gD w' e u ->Calls prog Kj (#[.agg #[u.1,u.2]]++cs) w' (et (p e) w')):
  Calls prog 145 #[v, .func (.func Kj) #[] cs] w (et (l.any p) w):=by
 go_enter func145,ntmps145;go_wp2_with fail;refine(He p v l _ hl Kj cs hE hp).mono ?_;rintro x w2 ⟨rfl,hb⟩;clear hE;go_wp2_with fail;go_ret;exact⟨by rw [<- iu];rfl,hb⟩
theorem Dx (b:Bool) (a1 a2:Option Addr) (n1 n2 c1 c2:Nat) (Kj:Nat) (cs:Array Value) (X:Nat) (w:World)
  (hE:∀args w,(callFunc Kj args).run prog w= .ok (.enter Kj args) w) (hX:w.cell? ⟨X,0,none⟩=some (.func (.func Kj) #[] cs))
  (hp:∀w',Below w.heap.size w w' ->Calls prog Kj (#[.agg #[.slice a1 n1 c1, .slice a2 n2 c2]]++cs) w' (et b w')):
  Calls prog 146 #[.agg #[.slice a1 n1 c1, .slice a2 n2 c2], .pointer (some ⟨X,0,none⟩)] w (et (!b) w):=by
 have Kq:=aS w _ hX;have HP:=V hp;clear hp;go_enter func146,ntmps146;go_wp2_with fail;refine(HP.out _ ((an _ _).alloc (ag _) _)).mono ?_;rintro x w2 ⟨rfl,hb⟩;clear hE hX;go_wp2_with fail;go_ret;exact⟨rfl,((an _ _).alloc (ag _) _).trans (hb.mono (by simp))⟩
theorem Ec (p:gN ->Bool) (v:Value) (l:List gN) (w:World) (hl:ea 2 rV gD w v l) (Kj:Nat) (fg:Int)
  (hE:∀args w,(callFunc Kj args).run prog w= .ok (.enter Kj args) w)
  (hp:∀e∈l,∀u w',Below w.heap.size w w' ->gD w' e u ->Calls prog Kj #[.agg #[u.1,u.2]] w' (et (p e) w')):
  Calls prog 90 #[v, .int .i64 fg, .func (.func Kj) #[] #[]] w (et (decide ((l.length:Int) <=fg)&&l.all p) w):=by
 have HP:=V hp;obtain⟨a,cap,rfl,h1,h2⟩:∃a cap,v= .slice a l.length cap/\l.length <=cap/\cap <=9223372036854775807:=ea.slice hl;have HL:=V hl;clear hp hl;by_cases q:(l.length:Int) <=fg
 ·have f:decide ((l.length:Int) <=fg)=true:=az q
  go_enter func90,ntmps90;go_wp2_with fail;refine bT (Em (fun e=> !p e) _ l _ (ea.below HL.out ((an _ _).alloc (ag _) _) (fun _ _ h=>h.below ((an _ _).alloc (ag _) _))) 146 #[.pointer (some ⟨w.heap.size,0,none⟩)] (fun args w=>by rfl) ?_) ?_
  ·intro e he u w' hw' hu
   obtain⟨hX,hw⟩:=boxed hw';obtain⟨u1,u2⟩:=u;obtain⟨⟨⟨a1,Ky,Mc,-,-,-⟩,K5⟩,-⟩:=id hu;obtain⟨a2,Kn,Ml,-,-⟩:=ea.slice K5;simp only at Mc Ml;subst Mc Ml;clear K5;exact Dx (p e) _ _ _ _ _ _ Kj #[] _ w' hE hX (fun w2 h2=>by simpa using HP.out e he _ w2 (hw.trans (h2.mono hw.size)) (hu.below h2))
  rintro x w2 ⟨rfl,hb⟩;clear hE;have HF:=V f;clear f;have f:decide ((l.length:Int) <=fg)=true:=HF.out;go_wp2_with fail;go_ret;refine⟨?_,((an _ _).alloc (ag _) _).trans (hb.mono (by simp))⟩;have e1:l.all p= !(l.any fun e=> !p e):=by rw [bU];simp
  rw [f,e1,ct];rfl
 ·have f:decide ((l.length:Int) <=fg)=false:=aA q
  go_enter func90,ntmps90;go_wp2_with fail;go_ret;exact⟨by first | rfl | (rw [f];rfl),(an _ _).alloc (ag _) _⟩
theorem G5 (p:UInt8 ->Bool) (v:Value) (l:List UInt8) (w:World) (hl:eI w v l) (Kj:Nat) (cs:Array Value)
  (hE:∀args w,(callFunc Kj args).run prog w= .ok (.enter Kj args) w)
  (hp:∀e∈l,∀w',Below w.heap.size w w' ->Calls prog Kj (#[bv e]++cs) w' (et (p e) w')):
  Calls prog 292 #[v, .func (.func Kj) #[] cs] w (jP p l w):=by
 have HP:=V hp;have HI:=V hl;obtain⟨a,cap,rfl,h1,h2,_⟩:=id hl;unfold maxLen at h2;clear hl hp;go_enter func292,ntmps292;go_wp2_with fail;refine ez (fun a' w'=>∃(k:Nat),a'=fr (.slice a l.length cap:: .func (.func Kj) #[] cs::gs a' 2 5 (.int .i64 l.length:: .int .i64 k::gs a' 9 10 []))/\pI p l w w' k) (fun a' _=>(l.length - (intOf (a'.tmps.getD 8 undef)).toNat)) ?_ ?_
 ·exact⟨0,rfl,by omega,fun i hi=>by omega,an _ _⟩
 ·skip
  rintro R a' w1 ⟨k,Kk,hJ⟩ HR;dsimp only [fr,gs]at Kk;generalize slot a'=f at Kk;subst Kk;obtain⟨hk,hm,hb⟩:=hJ;have Lj:=V hm;clear hm;by_cases Lg:k < l.length;rotate_left
  ·obtain rfl:k=l.length:=by omega
   go_wp2_with fail;go_ret;exact⟨by rw [gL Lj.out];rfl,hb⟩
  obtain⟨e,he⟩:∃e,l[k]?=some e:=⟨_,aq Lg⟩;obtain⟨a',KE,hv,_,_,Kh⟩:=HI.out.below (hb.mono (ag _));injection hv with e1 e2 e3;subst e1 e3;obtain⟨b,off,rfl,c0⟩:=Kh k e he;have Ks:=HP.out e (aO he) w1 hb;have HE:=V he;clear Kh e2 he;cases hq:p e
  all_goals
   rw [hq]at Ks;have HQ:=V hq;clear hq;go_wp2_with fail;refine Ks.mono ?_;rintro x w2 ⟨rfl,Kl⟩;replace hb:=dW hb Kl;clear Ks Kl c0;go_wp2_with fail
  ·refine HR.out _ _ ⟨k+1,rfl,by omega,?_,hb⟩ ?_
   ·intro i hi d hd
    rcases bq i k with h | h
    ·exact Lj.out i h d hd
    ·obtain rfl:i=k:=by omega
     rw [HE.out]at hd;injection hd with hd;rw [<- hd];exact HQ.out
   ·simp [intOf]
    omega
  ·go_ret
   exact⟨by rw [ie HE.out HQ.out Lj.out];rfl,hb⟩
theorem DI (p:UInt8 ->Bool) (v:Value) (l:List UInt8) (w:World) (hl:eI w v l) (Kj:Nat) (cs:Array Value)
  (hE:∀args w,(callFunc Kj args).run prog w= .ok (.enter Kj args) w)
  (hp:∀e∈l,∀w',Below w.heap.size w w' ->Calls prog Kj (#[bv e]++cs) w' (et (p e) w')):
  Calls prog 285 #[v, .func (.func Kj) #[] cs] w (et (l.any p) w):=by
 go_enter func285,ntmps285;go_wp2_with fail;refine(G5 p v l _ hl Kj cs hE hp).mono ?_;rintro x w2 ⟨rfl,hb⟩;clear hE;go_wp2_with fail;go_ret;exact⟨by rw [<- iu];rfl,hb⟩
theorem En (b:Bool) (c:UInt8) (Kj:Nat) (cs:Array Value) (X:Nat) (w:World)
  (hE:∀args w,(callFunc Kj args).run prog w= .ok (.enter Kj args) w) (hX:w.cell? ⟨X,0,none⟩=some (.func (.func Kj) #[] cs))
  (hp:∀w',Below w.heap.size w w' ->Calls prog Kj (#[bv c]++cs) w' (et b w')):
  Calls prog 286 #[bv c, .pointer (some ⟨X,0,none⟩)] w (et (!b) w):=by
 have Kq:=aS w _ hX;have HP:=V hp;clear hp;go_enter func286,ntmps286;go_wp2_with fail;refine(HP.out _ (an _ _)).mono ?_;rintro x w2 ⟨rfl,hb⟩;clear hE hX;go_wp2_with fail;go_ret;exact⟨rfl,hb⟩
theorem DE (p:UInt8 ->Bool) (v:Value) (l:List UInt8) (w:World) (hl:eI w v l) (Kj:Nat) (fg:Int)
  (hE:∀args w,(callFunc Kj args).run prog w= .ok (.enter Kj args) w)
  (hp:∀e∈l,∀w',Below w.heap.size w w' ->Calls prog Kj #[bv e] w' (et (p e) w')):
  Calls prog 248 #[v, .int .i64 fg, .func (.func Kj) #[] #[]] w (et (decide ((l.length:Int) <=fg)&&l.all p) w):=by
 have HP:=V hp;obtain⟨a,cap,rfl,h1,h2⟩:∃a cap,v= .slice a l.length cap/\l.length <=cap/\cap <=9223372036854775807:=uQ hl;have HL:=V hl;clear hp hl;by_cases q:(l.length:Int) <=fg
 ·have f:decide ((l.length:Int) <=fg)=true:=az q
  go_enter func248,ntmps248;go_wp2_with fail;refine bT (DI (fun e=> !p e) _ l _ (HL.out.below ((an _ _).alloc (ag _) _)) 286 #[.pointer (some ⟨w.heap.size,0,none⟩)] (fun args w=>by rfl) ?_) ?_
  ·intro e he w' hw'
   obtain⟨hX,hw⟩:=boxed hw';exact En (p e) _ Kj #[] _ w' hE hX (fun w2 h2=>by simpa using HP.out e he w2 (hw.trans (h2.mono hw.size)))
  rintro x w2 ⟨rfl,hb⟩;clear hE;have HF:=V f;clear f;have f:decide ((l.length:Int) <=fg)=true:=HF.out;go_wp2_with fail;go_ret;refine⟨?_,((an _ _).alloc (ag _) _).trans (hb.mono (by simp))⟩;have e1:l.all p= !(l.any fun e=> !p e):=by rw [bU];simp
  rw [f,e1,ct];rfl
 ·have f:decide ((l.length:Int) <=fg)=false:=aA q
  go_enter func248,ntmps248;go_wp2_with fail;go_ret;exact⟨by first | rfl | (rw [f];rfl),(an _ _).alloc (ag _) _⟩
def uc (n:Int):Bool:= !lG n 0 1000
theorem DW (l:List Int):l.any uc=false↔∀n∈l,fR n:=by
 rw [dz]
 constructor
 ·intro h n hn
  have:=h n hn;simp only [uc,dN,Bool.not_eq_false]at this;exact jJ.1 (by simpa using this)
 ·intro h n hn
  have:=jJ.2 (h n hn);simp [uc,this]
theorem uP (n:Int) (w:World):Calls prog 153 #[.int .i64 n] w (et (uc n) w):=by
 go_enter func153,ntmps153;go_wp2_with fail;refine(nk n _).mono ?_;rintro x w1 ⟨rfl,hb⟩;go_wp2_with fail;go_ret;exact⟨rfl,hb⟩
theorem yP (v:Value) (l:List Int) (w:World) (hl:ee 1 eZ w v l):
  Calls prog 100 #[v, .func (.func 153) #[] #[]] w (jP uc l w):=by
 have HI:=V hl;have hl':=hl;obtain⟨a,cap,rfl,h1,h2,_⟩:=hl';unfold maxLen at h2;clear hl;go_enter func100,ntmps100;go_wp2_with fail;refine ez (fun a' w'=>∃(k:Nat),a'=fr (.slice a l.length cap:: .func (.func 153) #[] #[]::gs a' 2 5 (.int .i64 l.length:: .int .i64 k::gs a' 9 10 []))/\pI uc l w w' k) (fun a' _=>(l.length - (intOf (a'.tmps.getD 8 undef)).toNat)) ?_ ?_
 ·exact⟨0,rfl,by omega,fun i hi=>by omega,an _ _⟩
 ·skip
  rintro R a' w1 ⟨k,Kk,hJ⟩ HR;dsimp only [fr,gs]at Kk;generalize slot a'=f at Kk;subst Kk;obtain⟨hk,hm,hb⟩:=hJ;have Lj:=V hm;clear hm;by_cases Lg:k < l.length;rotate_left
  ·obtain rfl:k=l.length:=by omega
   go_wp2_with fail;go_ret;exact⟨by rw [gL Lj.out];rfl,hb⟩
  obtain⟨e,he⟩:∃e,l[k]?=some e:=⟨_,aq Lg⟩;obtain⟨a',KE,hv,_,_,Kh⟩:=HI.out.below (hb.mono (ag _));injection hv with e1 e2 e3;subst e1 e3;obtain⟨b,off,rfl,Kq,hc⟩:=Kh k e he;have c0:=hc 0 _ rfl;rw [aK,bj]at c0;have HE:=V he;clear Kh e2 he hc;have Ks:=uP e w1;cases hq:uc e
  all_goals
   rw [hq]at Ks;have HQ:=V hq;clear hq;go_wp2_with fail;refine Ks.mono ?_;rintro x w2 ⟨rfl,Kl⟩;replace hb:=dW hb Kl;clear Ks Kl;go_wp2_with fail
  ·refine HR.out _ _ ⟨k+1,rfl,by omega,?_,hb⟩ ?_
   ·intro i hi d hd
    rcases bq i k with h | h
    ·exact Lj.out i h d hd
    ·obtain rfl:i=k:=by omega
     rw [HE.out]at hd;injection hd with hd;rw [<- hd];exact HQ.out
   ·simp [intOf]
    omega
  ·go_ret
   exact⟨by rw [ie HE.out HQ.out Lj.out];rfl,hb⟩
theorem xr (v:Value) (l:List Int) (w:World) (hl:ee 1 eZ w v l):
  Calls prog 63 #[v, .func (.func 153) #[] #[]] w (et (l.any uc) w):=by
 go_enter func63,ntmps63;go_wp2_with fail;refine(yP v l _ hl).mono ?_;rintro x w2 ⟨rfl,hb⟩;go_wp2_with fail;go_ret;exact⟨by rw [<- iu];rfl,hb⟩
def gA (f:Nat) (a b:Int) (l:List Int):Bool:=
 if(f≠4/\0 < l.length)\/(f≠6/\b≠0)then false else
 match f with
 | 1=>decide (a=0)
 | 2=>lG a 0 2
 | 3=>lG a 0 1000
 | 4=>lG a 0 1000&&(decide (l.length <=50)&& !l.any uc)
 | 5=>lG a 0 1000
 | 6=>lG a 0 3&&lG b 0 4294967295
 | 7=>decide (a=0)
 | 8=>lG a (-2147483648) 2147483647
 | 9=>true
 | _=>false
theorem IA (x:eK):decide x.may=gA (fG x.op) x.a x.b x.l:=by
 rw [dw,decide_eq_true_iff];have Qx:=nM x.op;have hn:x.l=[]↔¬ 0 < x.l.length:=by rw [List.length_pos_iff];simp
 unfold eK.may gA;generalize fG x.op=f at*;by_cases h:(f≠4/\0 < x.l.length)\/(f≠6/\x.b≠0)
 ·rw [aJ h]
  rw [hn]
  constructor
  ·rintro⟨h1,h2,_⟩
   rcases h with⟨g1,g2⟩ | ⟨g1,g2⟩
   ·exact absurd g2 (h1 g1)
   ·exact absurd (h2 g1) g2
  ·intro g;cases g
 ·rw [aC h]
  have h1:f≠4 ->x.l=[]:=fun g=>by rw [hn];exact fun k=>h (.inl ⟨g,k⟩)
  have h2:f≠6 ->x.b=0:=fun g=>by
   rcases Decidable.em (x.b=0)with k | k
   ·exact k
   ·exact absurd (.inr ⟨g,k⟩) h
  have hs:(x.l.any uc=false)↔∀n∈x.l,fR n:=DW x.l;rcases(show f=0\/f=1\/f=2\/f=3\/f=4\/f=5\/f=6\/f=7\/f=8\/f=9 by omega)with rfl | rfl | rfl | rfl | rfl | rfl | rfl | rfl | rfl | rfl
  ·simp
  ·simp [h1,h2]
  ·simp [h1,h2,jJ]
  ·simp [h1,h2,jJ,fR]
  ·simp [h2,jJ,hs,fR]
  ·simp [h1,h2,jJ,fR]
  ·simp [h1,jJ]
  ·simp [h1,h2]
  ·simp [h1,h2,jJ]
  ·simp [h1,h2]
theorem xC (x:eK) (u:Value) (w:World) (hx:gJ w x u):Calls prog 95 #[.agg #[.int .i64 x.op, .int .i64 x.a, .int .i64 x.b,u]] w (et (decide x.may) w):=by
 have LX:=IA x;have Qx:=nM x.op;obtain⟨op,a,b,l⟩:=x;have hx':=hx;obtain⟨⟨au,Kr,rfl,h1,h2,-⟩,Kt⟩:=hx';obtain⟨⟨o1,o2⟩,⟨a1,a2⟩,⟨b1,b2⟩,-⟩:=Kt;unfold maxLen at h2;simp only at LX Qx h1 h2 o1 o2 a1 a2 b1 b2;obtain⟨f,hf⟩:∃f,fG op=f:=⟨_,rfl⟩;obtain⟨m,hm⟩:∃m,decide (eK.may ⟨op,a,b,l⟩)=m:=⟨_,rfl⟩;rw [hf]at LX Qx;rw [hm]at LX;have HX:=V hx.1;have HF:=V hf;have HM:=V hm;have HB:=V LX;clear hx hf hm LX;go_enter func95,ntmps95;go_wp2_with fail;refine(tc op _).mono ?_;rintro e w1 ⟨rfl,Kw⟩;rw [HF.out];have hb:Below w.heap.size w w1:=((an _ _).alloc (ag _) _).trans (Kw.mono (by simp));have Kh:∀i v,(#[Value.int .i64 op, .int .i64 a, .int .i64 b, .slice au l.length Kr])[i]?=some v ->w1.cell? ⟨w.heap.size,i,none⟩=some v:=fun i v h=>by
  rw [Kw.cell (by simp),bP];exact h
 have c1:=Kh 1 _ rfl;have c2:=Kh 2 _ rfl;have c3:=Kh 3 _ rfl;have HX1:=V (HX.out.below hb);clear Kh Kw;rcases(show f=0\/f=1\/f=2\/f=3\/f=4\/f=5\/f=6\/f=7\/f=8\/f=9 by omega)with rfl | rfl | rfl | rfl | rfl | rfl | rfl | rfl | rfl | rfl
 ·skip
  rcases aY l.length with q | q;rotate_left
  ·have q':¬ l=[]:=fun e=>by rw [e]at q;exact absurd q (by decide)
   have KL:Hid (gA 0 a b l=false):=V (by unfold gA;rw [if_pos (.inl ⟨by decide,q⟩)]);go_wp2_with fail;go_ret;exact⟨by rw [HM.out,HB.out,KL.out];rfl,hb⟩
  obtain rfl:=aH q;clear q;by_cases r:b=0;rotate_left
  ·have r':(b !=0)=true:=fc r
   have KL:Hid (gA 0 a b []=false):=V (by unfold gA;rw [if_pos (.inr ⟨by decide,r⟩)]);clear r;go_wp2_with fail;go_ret;exact⟨by rw [HM.out,HB.out,KL.out];rfl,hb⟩
  subst r;have KL:Hid (gA 0 a 0 []=false):=V (by unfold gA;exact(if_neg (by simp)).trans rfl);go_wp2_with fail;go_ret;exact⟨by rw [HM.out,HB.out,KL.out];rfl,hb⟩
 ·skip
  rcases aY l.length with q | q;rotate_left
  ·have q':¬ l=[]:=fun e=>by rw [e]at q;exact absurd q (by decide)
   have KL:Hid (gA 1 a b l=false):=V (by unfold gA;rw [if_pos (.inl ⟨by decide,q⟩)]);go_wp2_with fail;go_ret;exact⟨by rw [HM.out,HB.out,KL.out];rfl,hb⟩
  obtain rfl:=aH q;clear q;by_cases r:b=0;rotate_left
  ·have r':(b !=0)=true:=fc r
   have KL:Hid (gA 1 a b []=false):=V (by unfold gA;rw [if_pos (.inr ⟨by decide,r⟩)]);clear r;go_wp2_with fail;go_ret;exact⟨by rw [HM.out,HB.out,KL.out];rfl,hb⟩
  subst r;have KL:Hid (gA 1 a 0 []=decide (a=0)):=V (by unfold gA;exact(if_neg (by simp)).trans rfl);by_cases r:a=0
  ·have r':(a==0)=true:=eF r
   have KL:Hid (gA 1 a 0 []=true):=V (by rw [KL.out,r];rfl);clear r;go_wp2_with fail;go_ret;exact⟨by rw [HM.out,HB.out,KL.out];rfl,hb⟩
  ·have r':(a==0)=false:=dQ r
   have KL:Hid (gA 1 a 0 []=false):=V (by rw [KL.out];exact aA r);clear r;go_wp2_with fail;go_ret;exact⟨by rw [HM.out,HB.out,KL.out];rfl,hb⟩
 ·skip
  rcases aY l.length with q | q;rotate_left
  ·have q':¬ l=[]:=fun e=>by rw [e]at q;exact absurd q (by decide)
   have KL:Hid (gA 2 a b l=false):=V (by unfold gA;rw [if_pos (.inl ⟨by decide,q⟩)]);go_wp2_with fail;go_ret;exact⟨by rw [HM.out,HB.out,KL.out];rfl,hb⟩
  obtain rfl:=aH q;clear q;by_cases r:b=0;rotate_left
  ·have r':(b !=0)=true:=fc r
   have KL:Hid (gA 2 a b []=false):=V (by unfold gA;rw [if_pos (.inr ⟨by decide,r⟩)]);clear r;go_wp2_with fail;go_ret;exact⟨by rw [HM.out,HB.out,KL.out];rfl,hb⟩
  subst r;have KL:Hid (gA 2 a 0 []=lG a 0 2):=V (by unfold gA;exact(if_neg (by simp)).trans rfl);go_wp2_with fail;refine(jW a 0 2 _).mono ?_;rintro e w2 ⟨rfl,Kl⟩;replace hb:=dW hb Kl;clear Kl;go_wp2_with fail;go_ret;exact⟨by rw [HM.out,HB.out,KL.out];rfl,hb⟩
 ·skip
  rcases aY l.length with q | q;rotate_left
  ·have q':¬ l=[]:=fun e=>by rw [e]at q;exact absurd q (by decide)
   have KL:Hid (gA 3 a b l=false):=V (by unfold gA;rw [if_pos (.inl ⟨by decide,q⟩)]);go_wp2_with fail;go_ret;exact⟨by rw [HM.out,HB.out,KL.out];rfl,hb⟩
  obtain rfl:=aH q;clear q;by_cases r:b=0;rotate_left
  ·have r':(b !=0)=true:=fc r
   have KL:Hid (gA 3 a b []=false):=V (by unfold gA;rw [if_pos (.inr ⟨by decide,r⟩)]);clear r;go_wp2_with fail;go_ret;exact⟨by rw [HM.out,HB.out,KL.out];rfl,hb⟩
  subst r;have KL:Hid (gA 3 a 0 []=lG a 0 1000):=V (by unfold gA;exact(if_neg (by simp)).trans rfl);go_wp2_with fail;refine(nk a _).mono ?_;rintro e w2 ⟨rfl,Kl⟩;replace hb:=dW hb Kl;clear Kl;go_wp2_with fail;go_ret;exact⟨by rw [HM.out,HB.out,KL.out];rfl,hb⟩
 ·skip
  by_cases r:b=0;rotate_left
  ·have r':(b !=0)=true:=fc r
   have KL:Hid (gA 4 a b l=false):=V (by unfold gA;rw [if_pos (.inr ⟨by decide,r⟩)]);clear r;go_wp2_with fail;go_ret;exact⟨by rw [HM.out,HB.out,KL.out];rfl,hb⟩
  subst r;have KL:Hid (gA 4 a 0 l=(lG a 0 1000&&(decide (l.length <=50)&& !l.any uc))):=V (by unfold gA;exact(if_neg (by simp)).trans rfl);go_wp2_with fail;refine(nk a _).mono ?_;rintro e w2 ⟨rfl,Kl⟩;have c3':=(Kl.cell (aS w1 _ c3)).trans c3;clear c1 c2 c3;cases h6:lG a 0 1000
  ·have H6:=V h6
   replace hb:=hb.trans (Kl.mono hb.size);clear h6 Kl c3';go_wp2_with fail;go_ret;exact⟨by rw [HM.out,HB.out,KL.out,H6.out];rfl,hb⟩
  have H6:=V h6;clear h6;by_cases q:l.length <=50
  ·have q1:decide ((l.length:Int) <=50)=true:=az (by omega)
   have Q:=V (az q);clear q;go_wp2_with fail;refine(xr _ l _ (HX1.out.below (Kl.mono (ag _)))).mono ?_;rintro e w3 ⟨rfl,K4⟩;replace hb:=(hb.trans (Kl.mono hb.size)).trans (K4.mono (hb.trans (Kl.mono hb.size)).size);clear Kl K4 c3' q1;go_wp2_with fail;go_ret;exact⟨by rw [HM.out,HB.out,KL.out,H6.out,Q.out,ct,ct];rfl,hb⟩
  ·have q1:decide ((l.length:Int) <=50)=false:=aA (by omega)
   have Q:=V (aA q);replace hb:=hb.trans (Kl.mono hb.size);clear q Kl;go_wp2_with fail;go_ret;exact⟨by rw [HM.out,HB.out,KL.out,H6.out,Q.out];rfl,hb⟩
 ·skip
  rcases aY l.length with q | q;rotate_left
  ·have q':¬ l=[]:=fun e=>by rw [e]at q;exact absurd q (by decide)
   have KL:Hid (gA 5 a b l=false):=V (by unfold gA;rw [if_pos (.inl ⟨by decide,q⟩)]);go_wp2_with fail;go_ret;exact⟨by rw [HM.out,HB.out,KL.out];rfl,hb⟩
  obtain rfl:=aH q;clear q;by_cases r:b=0;rotate_left
  ·have r':(b !=0)=true:=fc r
   have KL:Hid (gA 5 a b []=false):=V (by unfold gA;rw [if_pos (.inr ⟨by decide,r⟩)]);clear r;go_wp2_with fail;go_ret;exact⟨by rw [HM.out,HB.out,KL.out];rfl,hb⟩
  subst r;have KL:Hid (gA 5 a 0 []=lG a 0 1000):=V (by unfold gA;exact(if_neg (by simp)).trans rfl);go_wp2_with fail;refine(nk a _).mono ?_;rintro e w2 ⟨rfl,Kl⟩;replace hb:=dW hb Kl;clear Kl;go_wp2_with fail;go_ret;exact⟨by rw [HM.out,HB.out,KL.out];rfl,hb⟩
 ·skip
  rcases aY l.length with q | q;rotate_left
  ·have q':¬ l=[]:=fun e=>by rw [e]at q;exact absurd q (by decide)
   have KL:Hid (gA 6 a b l=false):=V (by unfold gA;rw [if_pos (.inl ⟨by decide,q⟩)]);go_wp2_with fail;go_ret;exact⟨by rw [HM.out,HB.out,KL.out];rfl,hb⟩
  obtain rfl:=aH q;clear q;have KL:Hid (gA 6 a b []=(lG a 0 3&&lG b 0 4294967295)):=V (by unfold gA;exact(if_neg (by simp)).trans rfl);go_wp2_with fail;refine(jW a 0 3 _).mono ?_;rintro e w2 ⟨rfl,Kl⟩;have c2':=(Kl.cell (aS w1 _ c2)).trans c2;clear c1 c2 c3;cases h6:lG a 0 3
  ·have H6:=V h6
   replace hb:=hb.trans (Kl.mono hb.size);clear h6 Kl c2';go_wp2_with fail;go_ret;exact⟨by rw [HM.out,HB.out,KL.out,H6.out];rfl,hb⟩
  have H6:=V h6;clear h6;go_wp2_with fail;refine(jW b 0 4294967295 _).mono ?_;rintro e w3 ⟨rfl,K4⟩;replace hb:=(hb.trans (Kl.mono hb.size)).trans (K4.mono (hb.trans (Kl.mono hb.size)).size);clear Kl K4 c2';go_wp2_with fail;go_ret;exact⟨by rw [HM.out,HB.out,KL.out,H6.out,ct];rfl,hb⟩
 ·skip
  rcases aY l.length with q | q;rotate_left
  ·have q':¬ l=[]:=fun e=>by rw [e]at q;exact absurd q (by decide)
   have KL:Hid (gA 7 a b l=false):=V (by unfold gA;rw [if_pos (.inl ⟨by decide,q⟩)]);go_wp2_with fail;go_ret;exact⟨by rw [HM.out,HB.out,KL.out];rfl,hb⟩
  obtain rfl:=aH q;clear q;by_cases r:b=0;rotate_left
  ·have r':(b !=0)=true:=fc r
   have KL:Hid (gA 7 a b []=false):=V (by unfold gA;rw [if_pos (.inr ⟨by decide,r⟩)]);clear r;go_wp2_with fail;go_ret;exact⟨by rw [HM.out,HB.out,KL.out];rfl,hb⟩
  subst r;have KL:Hid (gA 7 a 0 []=decide (a=0)):=V (by unfold gA;exact(if_neg (by simp)).trans rfl);by_cases r:a=0
  ·have r':(a==0)=true:=eF r
   have KL:Hid (gA 7 a 0 []=true):=V (by rw [KL.out,r];rfl);clear r;go_wp2_with fail;go_ret;exact⟨by rw [HM.out,HB.out,KL.out];rfl,hb⟩
  ·have r':(a==0)=false:=dQ r
   have KL:Hid (gA 7 a 0 []=false):=V (by rw [KL.out];exact aA r);clear r;go_wp2_with fail;go_ret;exact⟨by rw [HM.out,HB.out,KL.out];rfl,hb⟩
 ·skip
  rcases aY l.length with q | q;rotate_left
  ·have q':¬ l=[]:=fun e=>by rw [e]at q;exact absurd q (by decide)
   have KL:Hid (gA 8 a b l=false):=V (by unfold gA;rw [if_pos (.inl ⟨by decide,q⟩)]);go_wp2_with fail;go_ret;exact⟨by rw [HM.out,HB.out,KL.out];rfl,hb⟩
  obtain rfl:=aH q;clear q;by_cases r:b=0;rotate_left
  ·have r':(b !=0)=true:=fc r
   have KL:Hid (gA 8 a b []=false):=V (by unfold gA;rw [if_pos (.inr ⟨by decide,r⟩)]);clear r;go_wp2_with fail;go_ret;exact⟨by rw [HM.out,HB.out,KL.out];rfl,hb⟩
  subst r;have KL:Hid (gA 8 a 0 []=lG a (-2147483648) 2147483647):=V (by unfold gA;exact(if_neg (by simp)).trans rfl);go_wp2_with fail;refine(jW a (-2147483648) 2147483647 _).mono ?_;rintro e w2 ⟨rfl,Kl⟩;replace hb:=dW hb Kl;clear Kl;go_wp2_with fail;go_ret;exact⟨by rw [HM.out,HB.out,KL.out];rfl,hb⟩
 ·skip
  rcases aY l.length with q | q;rotate_left
  ·have q':¬ l=[]:=fun e=>by rw [e]at q;exact absurd q (by decide)
   have KL:Hid (gA 9 a b l=false):=V (by unfold gA;rw [if_pos (.inl ⟨by decide,q⟩)]);go_wp2_with fail;go_ret;exact⟨by rw [HM.out,HB.out,KL.out];rfl,hb⟩
  obtain rfl:=aH q;clear q;by_cases r:b=0;rotate_left
  ·have r':(b !=0)=true:=fc r
   have KL:Hid (gA 9 a b []=false):=V (by unfold gA;rw [if_pos (.inr ⟨by decide,r⟩)]);clear r;go_wp2_with fail;go_ret;exact⟨by rw [HM.out,HB.out,KL.out];rfl,hb⟩
  subst r;have KL:Hid (gA 9 a 0 []=true):=V (by unfold gA;exact(if_neg (by simp)).trans rfl);go_wp2_with fail;go_ret;exact⟨by rw [HM.out,HB.out,KL.out];rfl,hb⟩
theorem kH {α:Type} (p:α ->Prop) [DecidablePred p] (l:List α) (n:Int):(decide ((l.length:Int) <=n)&&l.all fun x=>decide (p x))=decide ((l.length:Int) <=n/\∀x∈l,p x):=by
 rw [dw];simp
theorem qa (n:Int) (w:World):Calls prog 159 #[.int .i64 n] w (et (decide (fR n)) w):=by
 by_cases q1:0 <=n
 ·have f1:decide (0 <=n)=true:=az q1
  have HB:Hid (decide (fR n)=decide (n <=1000)):=V (by simp [fR,q1]);clear q1;go_enter func159,ntmps159;go_wp2_with fail;go_ret;exact⟨by rw [HB.out];rfl,an _ _⟩
 ·have f1:decide (0 <=n)=false:=aA q1
  have HB:Hid (decide (fR n)=false):=V (by simp [fR,q1]);clear q1;go_enter func159,ntmps159;go_wp2_with fail;go_ret;exact⟨by rw [HB.out];rfl,an _ _⟩
theorem CB (n:Int) (w:World):Calls prog 93 #[.int .i64 n] w (et (decide (kindOk n)) w):=by
 by_cases q1:n=1
 ·have HB:Hid (decide (kindOk n)=true):=V (by simp [kindOk,q1])
  have f1:=eF q1;clear q1;go_enter func93,ntmps93;go_wp2_with fail;go_ret;exact⟨by rw [HB.out];rfl,an _ _⟩
 ·have f1:=dQ q1
  have HB:Hid (decide (kindOk n)=(n==2)):=V (by simp only [kindOk,q1,false_or];rw [dw];simp);clear q1;go_enter func93,ntmps93;go_wp2_with fail;go_ret;exact⟨by rw [HB.out];rfl,an _ _⟩
theorem zd (n:Int) (w:World):Calls prog 166 #[.int .i64 n] w (et (decide (lV n)) w):=by
 by_cases q1: -2147483648 <=n
 ·have f1:decide (-2147483648 <=n)=true:=az q1
  have HB:Hid (decide (lV n)=decide (n <=2147483647)):=V (by simp [lV,q1]);clear q1;go_enter func166,ntmps166;go_wp2_with fail;go_ret;exact⟨by rw [HB.out];rfl,an _ _⟩
 ·have f1:decide (-2147483648 <=n)=false:=aA q1
  have HB:Hid (decide (lV n)=false):=V (by simp only [lV,q1,false_and];rfl);clear q1;go_enter func166,ntmps166;go_wp2_with fail;go_ret;exact⟨by rw [HB.out];rfl,an _ _⟩
theorem zC (c:UInt8) (w:World):Calls prog 249 #[bv c] w (et (decide (32 <=c.toNat/\c.toNat <=126)) w):=by
 by_cases q1:32 <=c.toNat
 ·have f1:decide ((32:Int) <=c.toNat)=true:=az (by omega)
  have HB:Hid (decide (32 <=c.toNat/\c.toNat <=126)=decide ((c.toNat:Int) <=126)):=V (by rw [dw];simp [q1];omega);clear q1;go_enter func249,ntmps249;go_wp2_with fail;go_ret;exact⟨by rw [HB.out];rfl,an _ _⟩
 ·have f1:decide ((32:Int) <=c.toNat)=false:=aA (by omega)
  have HB:Hid (decide (32 <=c.toNat/\c.toNat <=126)=false):=V (by simp [q1]);clear q1;go_enter func249,ntmps249;go_wp2_with fail;go_ret;exact⟨by rw [HB.out];rfl,an _ _⟩
theorem od (v:Value) (l:List Int) (n:Int) (w:World) (hl:ee 1 eZ w v l):Calls prog 92 #[v, .int .i64 n, .func (.func 93) #[] #[]] w (et (decide ((l.length:Int) <=n/\∀k∈l,kindOk k)) w):=by
 rw [<- kH];exact tG (fun k=>decide (kindOk k)) v l w hl 93 n (fun _ _=>by rfl) (fun e _ w' _=>CB e w')
theorem pV (v:Value) (l:List Int) (n:Int) (w:World) (hl:ee 1 eZ w v l):Calls prog 92 #[v, .int .i64 n, .func (.func 159) #[] #[]] w (et (decide ((l.length:Int) <=n/\∀k∈l,fR k)) w):=by
 rw [<- kH];exact tG (fun k=>decide (fR k)) v l w hl 159 n (fun _ _=>by rfl) (fun e _ w' _=>qa e w')
theorem vy (v:Value) (l:List eK) (n:Int) (w:World) (hl:gd w v l):Calls prog 94 #[v, .int .i64 n, .func (.func 95) #[] #[]] w (et (decide ((l.length:Int) <=n/\∀y∈l,y.may)) w):=by
 rw [<- kH];exact FH (fun y=>decide y.may) v l w hl 95 n (fun _ _=>by rfl) (fun e _ u w' _ hu=>xC e u w' hu)
theorem Dp (e:gy) (u:Value × Value) (w:World) (hu:gG w e u):Calls prog 155 #[.agg #[u.1,u.2]] w (et (decide e.may) w):=by
 obtain⟨u1,u2⟩:=u;have HU:=V hu;obtain⟨⟨⟨a1,Ky,Mc,-,-,-⟩,⟨a2,Kn,Ml,-,-,-⟩⟩,-⟩:=id hu;simp only at Mc Ml;subst Mc Ml;have HM:Hid (decide e.may=(decide ((e.params.length:Int) <=32/\∀k∈e.params,kindOk k)&&decide ((e.results.length:Int) <=1/\∀k∈e.results,kindOk k))):=V (by rw [<- cL];exact dc.2 (and_congr (dI (by omega)) (dI (by omega))));have B0:=eE.new w #[.slice a1 e.params.length Ky, .slice a2 e.results.length Kn] 109;have h0:Below w.heap.size w (w.alloc (.cells #[.slice a1 e.params.length Ky, .slice a2 e.results.length Kn] 109)):=(an _ _).alloc (ag _) _;clear hu;go_enter func155,ntmps155;go_wp2_with fail;refine(od _ e.params 32 _ (HU.out.1.1.below h0)).mono ?_;rintro x w2 ⟨rfl,hb⟩;obtain⟨r1,hr⟩:∃r,decide ((e.params.length:Int) <=32/\∀k∈e.params,kindOk k)=r:=⟨_,rfl⟩;rw [hr];have R1:=V hr;clear hr;have B1:=B0.below hb B0.lt;have h1:=h0.trans (hb.mono h0.size);have c1:w2.cell? ⟨w.heap.size,1,none⟩=some (.slice a2 e.results.length Kn):=B1.cell 1;cases r1
 ·go_wp2_with fail
  go_ret;exact⟨by rw [HM.out,R1.out];rfl,h1⟩
 ·go_wp2_with fail
  refine(od _ e.results 1 _ (HU.out.1.2.below h1)).mono ?_;rintro x w3 ⟨rfl,hb⟩;obtain⟨r2,hr⟩:∃r,decide ((e.results.length:Int) <=1/\∀k∈e.results,kindOk k)=r:=⟨_,rfl⟩;rw [hr];have R2:=V hr;clear hr;go_wp2_with fail;go_ret;exact⟨by rw [HM.out,R1.out,R2.out];rfl,h1.trans (hb.mono h1.size)⟩
theorem rq (s:ByteArray) (w:World) (hs:s.size <=1000000000000):Calls prog 158 #[.string s] w (et (decide (jR s)) w):=by
 have hse:s.toList=s.data.toList:=by
  have:=ln s.data.toList;exact this
 have kc:=fun(w:World)=>CA w s;by_cases q:s.data.toList=[]
 ·have f:s.toList.isEmpty=true:=by rw [hse,q];rfl
  have HB:Hid (decide (jR s)=false):=V (by simp [jR,q]);clear hse q;go_enter func158,ntmps158;go_wp2_with fail;go_ret;exact⟨by rw [HB.out];rfl,an _ _⟩
 ·have f:s.toList.isEmpty=false:=by
   rw [hse];cases h:s.data.toList with
   | nil=>exact absurd h q
   | cons x l=>rfl
  have HB:Hid (decide (jR s)=decide ((s.data.toList.length:Int) <=16/\∀c∈s.data.toList,32 <=c.toNat/\c.toNat <=126)):=V (dc.2 ⟨fun h=>⟨by have:=h.2.1;omega,h.2.2⟩,fun h=>⟨q,by have:=h.1;omega,h.2⟩⟩);clear hse q;go_enter func158,ntmps158;go_wp2_with fail;refine(DE (fun c=>decide (32 <=c.toNat/\c.toNat <=126)) _ s.data.toList _ (GU w s hs) 249 16 (fun _ _=>by rfl) (fun e _ w' _=>zC e w')).mono ?_;rintro x w2 ⟨rfl,hb⟩;obtain⟨r1,hr⟩:∃r,(decide ((s.data.toList.length:Int) <=16)&&s.data.toList.all fun c=>decide (32 <=c.toNat/\c.toNat <=126))=r:=⟨_,rfl⟩;rw [hr];have R1:=V hr;clear hr;go_wp2_with fail;go_ret;exact⟨by rw [HB.out, <- kH,R1.out];rfl,(sV w s).trans (hb.mono (sV w s).size)⟩
theorem Du (e:jd) (w:World) (hs:e.mod.size <=1000000000000/\e.name.size <=1000000000000):Calls prog 157 #[.agg #[.string e.mod, .string e.name, .int .i64 e.type]] w (et (decide e.may) w):=by
 have HM:Hid (decide e.may=(decide (jR e.mod)&&(decide (jR e.name)&&decide (fR e.type)))):=V (by rw [<- cL, <- cL];rfl);have B0:=eE.new w #[.string e.mod, .string e.name, .int .i64 e.type] 118;have h0:Below w.heap.size w (w.alloc (.cells #[.string e.mod, .string e.name, .int .i64 e.type] 118)):=(an _ _).alloc (ag _) _;go_enter func157,ntmps157;go_wp2_with fail;refine(rq e.mod _ hs.1).mono ?_;rintro x w2 ⟨rfl,hb⟩;obtain⟨r1,hr⟩:∃r,decide (jR e.mod)=r:=⟨_,rfl⟩;rw [hr];have R1:=V hr;clear hr;have B1:=B0.below hb B0.lt;have h1:=h0.trans (hb.mono h0.size);have c1:w2.cell? ⟨w.heap.size,1,none⟩=some (.string e.name):=B1.cell 1;cases r1
 ·go_wp2_with fail
  go_ret;exact⟨by rw [HM.out,R1.out];rfl,h1⟩
 ·go_wp2_with fail
  refine(rq e.name _ hs.2).mono ?_;rintro x w3 ⟨rfl,hb⟩;obtain⟨r2,hr⟩:∃r,decide (jR e.name)=r:=⟨_,rfl⟩;rw [hr];have R2:=V hr;clear hr;have B2:=B1.below hb B1.lt;have h2:=h1.trans (hb.mono h1.size);have c2:w3.cell? ⟨w.heap.size,2,none⟩=some (.int .i64 e.type):=B2.cell 2;cases r2
  ·go_wp2_with fail
   go_ret;exact⟨by rw [HM.out,R1.out,R2.out];rfl,h2⟩
  ·go_wp2_with fail
   refine(qa e.type _).mono ?_;rintro x w4 ⟨rfl,hb⟩;obtain⟨r3,hr⟩:∃r,decide (fR e.type)=r:=⟨_,rfl⟩;rw [hr];have R3:=V hr;clear hr;go_wp2_with fail;go_ret;exact⟨by rw [HM.out,R1.out,R2.out,R3.out];rfl,h2.trans (hb.mono h2.size)⟩
theorem FJ (e:jb) (w:World):Calls prog 161 #[.agg #[.bool e.isVar, .int .i64 e.init.kind, .int .i64 e.init.n]] w (et (decide e.init.may) w):=by
 have B0:=eE.new w #[.bool e.isVar, .int .i64 e.init.kind, .int .i64 e.init.n] 120;have h0:Below w.heap.size w (w.alloc (.cells #[.bool e.isVar, .int .i64 e.init.kind, .int .i64 e.init.n] 120)):=(an _ _).alloc (ag _) _;go_enter func161,ntmps161;go_wp2_with fail;refine(ni e.init _).mono ?_;rintro x w2 ⟨rfl,hb⟩;obtain⟨r1,hr⟩:∃r,decide e.init.may=r:=⟨_,rfl⟩;rw [hr];have R1:=V hr;clear hr;go_wp2_with fail;go_ret;exact⟨by rw [R1.out];rfl,h0.trans (hb.mono h0.size)⟩
theorem Ei (e:iB) (w:World) (hs:e.name.size <=1000000000000):Calls prog 163 #[.agg #[.string e.name, .int .i64 e.func]] w (et (decide e.may) w):=by
 have HM:Hid (decide e.may=(decide (jR e.name)&&decide (fR e.func))):=V (by rw [<- cL];rfl);have B0:=eE.new w #[.string e.name, .int .i64 e.func] 111;have h0:Below w.heap.size w (w.alloc (.cells #[.string e.name, .int .i64 e.func] 111)):=(an _ _).alloc (ag _) _;go_enter func163,ntmps163;go_wp2_with fail;refine(rq e.name _ hs).mono ?_;rintro x w2 ⟨rfl,hb⟩;obtain⟨r1,hr⟩:∃r,decide (jR e.name)=r:=⟨_,rfl⟩;rw [hr];have R1:=V hr;clear hr;have B1:=B0.below hb B0.lt;have h1:=h0.trans (hb.mono h0.size);have c1:w2.cell? ⟨w.heap.size,1,none⟩=some (.int .i64 e.func):=B1.cell 1;cases r1
 ·go_wp2_with fail
  go_ret;exact⟨by rw [HM.out,R1.out];rfl,h1⟩
 ·go_wp2_with fail
  refine(qa e.func _).mono ?_;rintro x w4 ⟨rfl,hb⟩;obtain⟨r3,hr⟩:∃r,decide (fR e.func)=r:=⟨_,rfl⟩;rw [hr];have R3:=V hr;clear hr;go_wp2_with fail;go_ret;exact⟨by rw [HM.out,R1.out,R3.out];rfl,h1.trans (hb.mono h1.size)⟩
theorem E3 (e:iO) (u:Value) (w:World) (hu:gS w e u):Calls prog 165 #[.agg #[.int .i64 e.off,u]] w (et (decide e.may) w):=by
 have HU:=V hu;obtain⟨⟨a1,Ky,rfl,-,-,-⟩,-⟩:=id hu;clear hu;have HM:Hid (decide e.may=(decide (lV e.off)&&decide ((e.funcs.length:Int) <=50/\∀n∈e.funcs,fR n))):=V (by rw [<- cL];exact dc.2 (and_congr_right' (dI (by omega))));have B0:=eE.new w #[.int .i64 e.off, .slice a1 e.funcs.length Ky] 95;have h0:Below w.heap.size w (w.alloc (.cells #[.int .i64 e.off, .slice a1 e.funcs.length Ky] 95)):=(an _ _).alloc (ag _) _;go_enter func165,ntmps165;go_wp2_with fail;refine(zd e.off _).mono ?_;rintro x w2 ⟨rfl,hb⟩;obtain⟨r1,hr⟩:∃r,decide (lV e.off)=r:=⟨_,rfl⟩;rw [hr];have R1:=V hr;clear hr;have B1:=B0.below hb B0.lt;have h1:=h0.trans (hb.mono h0.size);have c1:w2.cell? ⟨w.heap.size,1,none⟩=some (.slice a1 e.funcs.length Ky):=B1.cell 1;cases r1
 ·go_wp2_with fail
  go_ret;exact⟨by rw [HM.out,R1.out];rfl,h1⟩
 ·go_wp2_with fail
  refine(pV _ e.funcs 50 _ (HU.out.1.below h1)).mono ?_;rintro x w4 ⟨rfl,hb⟩;obtain⟨r3,hr⟩:∃r,decide ((e.funcs.length:Int) <=50/\∀n∈e.funcs,fR n)=r:=⟨_,rfl⟩;rw [hr];have R3:=V hr;clear hr;go_wp2_with fail;go_ret;exact⟨by rw [HM.out,R1.out,R3.out];rfl,h1.trans (hb.mono h1.size)⟩
theorem EJ (e:gl) (u:Value) (w:World) (hu:gm w e u):Calls prog 168 #[.agg #[.int .i64 e.off,u]] w (et (decide e.may) w):=by
 have HU:=V hu;obtain⟨⟨a1,Ky,rfl,-,-,-⟩,-⟩:=id hu;clear hu;have HM:Hid (decide e.may=(decide (lV e.off)&&decide ((e.bytes.length:Int) <=1000))):=V (by rw [<- cL];exact dc.2 (and_congr_right' (by omega)));have B0:=eE.new w #[.int .i64 e.off, .slice a1 e.bytes.length Ky] 99;have h0:Below w.heap.size w (w.alloc (.cells #[.int .i64 e.off, .slice a1 e.bytes.length Ky] 99)):=(an _ _).alloc (ag _) _;go_enter func168,ntmps168;go_wp2_with fail;refine(zd e.off _).mono ?_;rintro x w2 ⟨rfl,hb⟩;obtain⟨r1,hr⟩:∃r,decide (lV e.off)=r:=⟨_,rfl⟩;rw [hr];have R1:=V hr;clear hr;have B1:=B0.below hb B0.lt;have h1:=h0.trans (hb.mono h0.size);have c1:w2.cell? ⟨w.heap.size,1,none⟩=some (.slice a1 e.bytes.length Ky):=B1.cell 1;cases r1
 ·go_wp2_with fail
  go_ret;exact⟨by rw [HM.out,R1.out];rfl,h1⟩
 ·go_wp2_with fail
  go_ret;exact⟨by rw [HM.out,R1.out];rfl,h1⟩
theorem FZ (e:gN) (u:Value × Value) (w:World) (hu:gD w e u):Calls prog 91 #[.agg #[u.1,u.2]] w (et (decide e.may) w):=by
 obtain⟨u1,u2⟩:=u;have HU:=V hu;obtain⟨⟨⟨a1,Ky,Mc,-,-,-⟩,K5⟩,-⟩:=id hu;obtain⟨a2,Kn,Ml,-,-⟩:=ea.slice K5;simp only at Mc Ml;subst Mc Ml;clear K5 hu;have HM:Hid (decide e.may=((fu e.body).isSome&&(decide ((e.locals.length:Int) <=32/\∀k∈e.locals,kindOk k)&&decide ((e.body.length:Int) <=300/\∀y∈e.body,y.may)))):=V (by
  rw [<- cL,show(fu e.body).isSome=decide ((fu e.body).isSome=true)by simp, <- cL];exact dc.2 (and_congr_right' (and_congr (dI (by omega)) (dI (by omega)))))
 have B0:=eE.new w #[.slice a1 e.locals.length Ky, .slice a2 e.body.length Kn] 69;have h0:Below w.heap.size w (w.alloc (.cells #[.slice a1 e.locals.length Ky, .slice a2 e.body.length Kn] 69)):=(an _ _).alloc (ag _) _;have c1:(w.alloc (.cells #[.slice a1 e.locals.length Ky, .slice a2 e.body.length Kn] 69)).cell? ⟨w.heap.size,1,none⟩=some (.slice a2 e.body.length Kn):=B0.cell 1;go_enter func91,ntmps91;go_wp2_with fail;refine(pC _ e.body _ (HU.out.1.2.below h0)).mono ?_;rintro x w2 ⟨hb,⟨bs,v,hm,rfl,-⟩ | ⟨hm,rfl⟩⟩;rotate_left
 ·have R1:=V (show(fu e.body).isSome=false by rw [hm];rfl)
  have h1:=h0.trans (hb.mono h0.size);clear hm hb;go_wp2_with fail;go_ret;exact⟨by rw [HM.out,R1.out];rfl,h1⟩
 have R1:=V (show(fu e.body).isSome=true by rw [hm];rfl);have B1:=B0.below hb B0.lt;have h1:=h0.trans (hb.mono h0.size);have c0:w2.cell? ⟨w.heap.size,0,none⟩=some (.slice a1 e.locals.length Ky):=B1.cell 0;clear hm hb c1;go_wp2_with fail;refine(od _ e.locals 32 _ (HU.out.1.1.below h1)).mono ?_;rintro x w3 ⟨rfl,hb⟩;obtain⟨r2,hr⟩:∃r,decide ((e.locals.length:Int) <=32/\∀k∈e.locals,kindOk k)=r:=⟨_,rfl⟩;rw [hr];have R2:=V hr;clear hr;have B2:=B1.below hb B1.lt;have h2:=h1.trans (hb.mono h1.size);have c1:w3.cell? ⟨w.heap.size,1,none⟩=some (.slice a2 e.body.length Kn):=B2.cell 1;clear c0;cases r2
 ·go_wp2_with fail
  go_ret;exact⟨by rw [HM.out,R1.out,R2.out];rfl,h2⟩
 ·go_wp2_with fail
  refine(vy _ e.body 300 _ (HU.out.1.2.below h2)).mono ?_;rintro x w4 ⟨rfl,hb⟩;obtain⟨r3,hr⟩:∃r,decide ((e.body.length:Int) <=300/\∀y∈e.body,y.may)=r:=⟨_,rfl⟩;rw [hr];have R3:=V hr;clear hr;go_wp2_with fail;go_ret;exact⟨by rw [HM.out,R1.out,R2.out,R3.out];rfl,h2.trans (hb.mono h2.size)⟩
end Go.Proofs.YthbjdhjppbcneaaGreatDoor
