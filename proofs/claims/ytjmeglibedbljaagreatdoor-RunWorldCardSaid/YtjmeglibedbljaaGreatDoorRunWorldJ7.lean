import Derived.Test.YtjmeglibedbljaaGreatDoorRunWorldJ6
import Derived.Deep.Cut
namespace Go.Proofs.YtjmeglibedbljaaGreatDoor
set_option maxRecDepth 100000
set_option maxHeartbeats 20000000
open Go.RowKit Tryz
open Lib renaming hid->V
set_option linter.all false
theorem pE.seq {α β:Type} {a:jt α} {b:jt β} (ha:pE a) (hb:pE b):pE (kC a b):=by
 intro l y hy;simp only [kC]at hy;cases h:a l with
 | none=>rw [h]at hy;simp at hy
 | some x=>
  rw [h]at hy;simp only [ao]at hy;cases h2:b x.2 with
  | none=>rw [h2]at hy;simp at hy
  | some z=>
   rw [h2]at hy;simp only [ao,aS]at hy;subst hy;exact aQ (hb _ _ h2) (ha _ _ h)
theorem A8:pE gH:=by
 intro l y hy;obtain⟨p,rfl⟩:=oX (x:=y.1) (r:=y.2) hy;simp
theorem wU:∀(f:Nat) (acc:List fa) (deep:Int) (l:List UInt8) (y:List fa × List UInt8),kM f acc deep l=some y ->∃p,l=p++y.2
 | 0,_,_,_,_,h=>by cases h
 | f+1,acc,deep,l,y,h=>by
  rw [kM]at h;cases hi:gH l with
  | none=>rw [hi]at h;cases h
  | some x=>
   obtain⟨p,hp⟩:=oX (x:=x.1) (r:=x.2) hi;rw [hi]at h;simp only [ao]at h;split at h
   ·split at h
    ·injection h with h
     subst h;exact⟨p,hp⟩
    ·cases h
   ·split at h
    ·cases h
    ·obtain⟨q,hq⟩:=wU f _ _ _ _ h
     exact⟨p++q,by rw [aL, <- hq];exact hp⟩
theorem xH {l:List UInt8} {y:List fa × List UInt8} (h:lB l=some y):∃p,l=p++y.2:=wU _ _ _ _ _ h
theorem CK:pE lB:=by
 intro l y hy;obtain⟨p,hp⟩:=xH hy;rw [hp];simp
theorem wC:jL gU:=by
 intro l y hy;unfold gU at hy;cases hi:gH l with
 | none=>rw [hi]at hy;cases hy
 | some x=>
  have h1:=A8 l x hi;rw [hi]at hy;simp only [ao]at hy;split at hy
  ·cases hb:fp x.2 with
   | none=>rw [hb]at hy;cases hy
   | some c=>
    rw [hb]at hy;injection hy with hy;subst hy;have:=lh _ _ hb;simp only;omega
  ·cases hy
theorem vg:jL jx:=by rw [tj];exact(lh.seq wC.mG).map
theorem pr:jL wX:=by rw [rK];exact lk.map
theorem xT:jL mY:=by
 intro l y hy;unfold mY at hy;cases h:gD l with
 | none=>rw [h]at hy;cases hy
 | some x=>
  rw [h]at hy;simp only [ao]at hy;split at hy
  ·cases hy
  ·injection hy with hy
   subst hy;have:=lk l x h;simp only [bu];omega
theorem rq:jL jN:=by rw [uO];exact xT.map
theorem pM:jL gw:=by
 intro l y hy;unfold gw at hy;cases hc:fp l with
 | none=>rw [hc]at hy;cases hy
 | some c=>
  have h1:=lh _ _ hc;rw [hc]at hy;simp only [ao]at hy;cases hn:gD c.2 with
  | none=>rw [hn]at hy;cases hy
  | some n=>
   have h2:=lk _ _ hn;rw [hn]at hy;simp only [ao]at hy;split at hy
   ·injection hy with hy
    subst hy;simp only;omega
   ·cases hm:gD n.2 with
    | none=>rw [hm]at hy;cases hy
    | some m=>
     have h3:=lk _ _ hm;rw [hm]at hy;injection hy with hy;subst hy;simp only;omega
theorem uX:jL ly:=by rw [tf];exact(lh.seq pM.mG).map
theorem xX:jL pX:=by rw [vu];exact(lh.seq ((iy me).mG.seq (iy me).mG)).map
theorem Ag:jL vw:=by rw [yQ];exact(rq.seq (rq.mG.seq (lh.mG.seq pr.mG))).map
theorem xG:jL qs:=by rw [vE];exact(me.seq (lh.mG.seq wC.mG)).map
theorem Av:jL uP:=by rw [zs];exact(rq.seq (lh.mG.seq pr.mG)).map
theorem yg:jL qv:=by rw [pZ];exact(vg.seq (iy pr).mG).map
theorem AP:jL wI:=by rw [zl];exact(vg.seq xT.mG).map
theorem zM:jL mJ:=by
 intro l y hy;unfold mJ at hy;cases hn:gD l with
 | none=>rw [hn]at hy;cases hy
 | some n=>
  have h1:=lk _ _ hn;rw [hn]at hy;simp only [ao]at hy;cases hk:gT n.2 with
  | none=>rw [hk]at hy;cases hy
  | some k=>
   have h2:=me _ _ hk;rw [hk]at hy;simp only [ao]at hy;split at hy
   ·cases hy
   ·injection hy with hy
    subst hy;simp only;omega
theorem kN:jO=ib jc (fF mJ):=by
 funext l
 simp only [jO,ib];cases fF mJ l <;>rfl
theorem zS:jL jO:=by rw [kN];exact(iy zM).map
theorem uZ:mA=ib (fun x=>⟨x.2.1,x.2.2⟩) (kC gD (kC jO lB)):=by
 funext l
 simp only [mA,ib,kC];cases h1:gD l with
 | none=>rfl
 | some a=>
  simp only [ao];cases h2:jO a.2 with
  | none=>rfl
  | some b=>
   simp only [ao];cases lB b.2 <;>rfl
theorem yq:jL mA:=by rw [uZ];exact(lk.seq (zS.mG.seq CK)).map
theorem GF (m:eI):(jS 1 m:jt eI)=ib (fun x=>{m with types:=x}) (fF pX):=by funext l;simp only [jS,ib];cases fF pX l <;>rfl
theorem Gu (m:eI):(jS 2 m:jt eI)=ib (fun x=>{m with imports:=x}) (fF vw):=by funext l;simp only [jS,ib];cases fF vw l <;>rfl
theorem Ip (m:eI):(jS 3 m:jt eI)=ib (fun x=>{m with funcs:=x}) (fF wX):=by funext l;simp only [jS,ib];cases fF wX l <;>rfl
theorem Ia (m:eI):(jS 4 m:jt eI)=ib (fun x=>{m with table:=ki x}) (fF ly):=by funext l;simp only [jS,ib];cases fF ly l <;>rfl
theorem Ih (m:eI):(jS 5 m:jt eI)=ib (fun x=>{m with mem:=ki x}) (fF gw):=by funext l;simp only [jS,ib];cases fF gw l <;>rfl
theorem IN (m:eI):(jS 6 m:jt eI)=ib (fun x=>{m with globals:=x}) (fF qs):=by funext l;simp only [jS,ib];cases fF qs l <;>rfl
theorem Gg (m:eI):(jS 7 m:jt eI)=ib (fun x=>{m with ey:=x}) (fF uP):=by funext l;simp only [jS,ib];cases fF uP l <;>rfl
theorem GO (m:eI):(jS 9 m:jt eI)=ib (fun x=>{m with elems:=x}) (fF qv):=by funext l;simp only [jS,ib];cases fF qv l <;>rfl
theorem Di (m:eI):(jS 10 m:jt eI)=ib (fun x=>{m with eF:=x}) (fF mA):=by funext l;simp only [jS,ib];cases fF mA l <;>rfl
theorem Df (m:eI):(jS 11 m:jt eI)=ib (fun x=>{m with eP:=x}) (fF wI):=by funext l;simp only [jS,ib];cases fF wI l <;>rfl
theorem xN {n:Nat} (m:eI) (l:List UInt8) (h:n=0\/n=8\/11 < n):jS n m l=none:=by
 unfold jS;split <;>first | rfl | omega
theorem FK (n:Nat) (m:eI):pE (jS n m):=by
 by_cases h:n=0\/n=8\/11 < n
 ·intro l y hy
  have hy:jS n m l=some y:=hy;rw [xN m l h]at hy;cases hy
 ·have h2:n=1\/n=2\/n=3\/n=4\/n=5\/n=6\/n=7\/n=9\/n=10\/n=11:=by omega
  rcases h2 with rfl | rfl | rfl | rfl | rfl | rfl | rfl | rfl | rfl | rfl
  ·rw [GF];exact(iy xX).map.mG
  ·rw [Gu];exact(iy Ag).map.mG
  ·rw [Ip];exact(iy pr).map.mG
  ·rw [Ia];exact(iy uX).map.mG
  ·rw [Ih];exact(iy pM).map.mG
  ·rw [IN];exact(iy xG).map.mG
  ·rw [Gg];exact(iy Av).map.mG
  ·rw [GO];exact(iy yg).map.mG
  ·rw [Di];exact(iy yq).map.mG
  ·rw [Df];exact(iy AP).map.mG
def rY {α:Type} (get:jt α) (n:Nat) (acc:List α) (st:gV):Option (List α × List UInt8):=(st.bind (tl get n)).map fun y=>(acc++y.1,y.2)
theorem Fa {α:Type} (get:jt α) (acc:List α) (st:gV):rY get 0 acc st=st.map fun l=>(acc,l):=by
 cases st with
 | none=>rfl
 | some l=>simp [rY,tl]
theorem EL {α:Type} (get:jt α) (n:Nat) (acc:List α):rY get n acc none=none:=rfl
theorem tc {α:Type} (get:jt α) (n:Nat) (acc:List α) {st:gV} {x:α} (h:ie get st x):rY get (n+1) acc st=rY get n (acc++[x]) (eK get st):=by
 cases st with
 | none=>rfl
 | some l=>
  simp only [rY,tl,eK,ao];cases hg:get l with
  | none=>rfl
  | some y=>
   have:=h y (by simpa using hg);subst this;simp only [ao,bA];cases tl get n y.2 <;>simp
theorem wj {α:Type} (get:jt α) (st:gV) (n:Nat) (hn:ie gD st n):st.bind (fF get)=rY get n [] (eK gD st):=by
 cases st with
 | none=>rfl
 | some l=>
  simp only [fF,rY,eK,ao];cases hg:gD l with
  | none=>rfl
  | some y=>
   have:=hn y (by simpa using hg);subst this;simp
theorem oM {α:Type} (get:jt α) {st TB:gV} {acc:List α} {n:Nat} (h:st.bind (fF get)=rY get n acc TB) (he:n=0\/TB=none):eK (fF get) st=TB/\ie (fF get) st acc:=by
 rcases he with rfl | rfl
 ·rw [Fa]at h
  refine⟨?_,fun y hy=>?_⟩
  ·unfold eK
   rw [h];cases TB <;>rfl
  ·rw [h]at hy
   cases TB with
   | none=>cases hy
   | some l=>injection hy with hy;rw [<- hy]
 ·rw [EL]at h
  refine⟨?_,fun y hy=>?_⟩
  ·unfold eK
   rw [h];rfl
  ·rw [h]at hy
   cases hy
def Kh:Value ->Nat
 | .slice _ n _=>n
 | _=>0
theorem nK:(prog.info? 39).map (fun i=>(i.zero,i.size,i.bytes))=some (some (.agg #[.int .i64 0, .int .i64 0, .int .i64 0, .slice none 0 0]),4,48):=by kernel_rfl
theorem lE (x:fa × Value):(qO x).length=4:=rfl
def Jr (L:List UInt8) (w:World) (e:Ending) (w':World):Prop:=
 Below w.heap.size w w'/\((∃l r v,lB L=some (l,r)/\e= .returned (.tuple #[v, .int .i64 ((L.length - r.length:Nat):Int), .int .i64 0])/\fA 39 4 qO gY w' w.heap.size v l)\/
  (∃err:Int,lB L=none/\err≠0/\(0 <=err/\err <=12)/\e= .returned (.tuple #[.slice none 0 0, .int .i64 0, .int .i64 err])))
def Me (L:List UInt8) (w w':World) (v:Value) (acc:List fa) (deep at0:Int) (p q:List UInt8):Prop:=
 L=p++q/\at0=p.length/\lB L=kM (301 - acc.length) acc deep q/\acc.length <=300/\fA 39 4 qO gY w' w.heap.size v acc/\Below w.heap.size w w'/\0 <=deep/\deep <=acc.length
theorem Aq {f:Nat} {acc:List fa} {deep:Int} {q:List UInt8} (h:gH q=none):kM f acc deep q=none:=by
 cases f with
 | zero=>rfl
 | succ f=>rw [kM,h];rfl
theorem kV {f:Nat} {acc:List fa} {deep:Int} {q:List UInt8} {x:fa} {r:List UInt8} (h:gH q=some (x,r)) (hd:¬ iC x.op deep < 0):kM (f+1) acc deep q=(if 300 < acc.length+1 then none else kM f (acc++[x]) (iC x.op deep) r):=by
 rw [kM,h];simp only [ao];rw [az hd]
theorem Aj {f:Nat} {acc:List fa} {deep:Int} {q:List UInt8} {x:fa} {r:List UInt8} (h:gH q=some (x,r)) (hd:iC x.op deep < 0):kM (f+1) acc deep q=(if(fM acc).isSome then some (acc,r)else none):=by
 rw [kM,h];simp only [ao];rw [aE hd]
theorem Ah (b:Value) (L:List UInt8) (w:World) (hb:eZ w b L) (hl:L.length <=1000000):Calls prog 290 #[b] w (Jr L w):=by
 obtain⟨a,cap,rfl,NX,Px,-⟩:=id hb;have HB:=V hb;unfold maxLen at Px;clear hb;go_enter func290,ntmps290;go_wp2_with fail;refine eR (fun a' w'=>∃(v:Value) (acc:List fa) (deep at0:Int) (p q:List UInt8),a'=fr (.slice a L.length cap::gs a' 1 4 (v:: .int .i64 deep:: .int .i64 at0::gs a' 8 47 []))/\Me L w w' v acc deep at0 p q) (fun a' _=>(301 - Kh (a'.tmps.getD 5 undef))) ?_ ?_
 ·exact⟨_,[],0,0,[],L,rfl,rfl,rfl,rfl,by simp,fA.nil _ _,an _ _,by omega,by simp⟩
 ·skip
  rintro R a' w1 ⟨v,acc,deep,at0,p,q,Nm,hJ⟩ HR;dsimp only [fr,gs]at Nm;generalize slot a'=f at Nm;subst Nm;obtain⟨hL,hat,hgo,hacc,Nl,N2,hd0,hd1⟩:=hJ;obtain⟨a2,Nr,Qr,Pa⟩:=EV hL a cap;rw [<- hat]at Qr;have hlp:0 <=at0/\at0 <=1000000:=by rw [hat];rw [hL,ah]at hl;omega
  have SI:=Pa w1 (HB.out.below N2);have hql:q.length <=1000000:=by rw [hL,ah]at hl;omega
  have HLE:=V hL;have HAT:=V hat;have HGO:=V hgo;have Rx:=V Nl;clear hL hat hgo Pa Nl;go_wp2_with fail;refine(rV _ q w1 SI hql).mono ?_;rintro e w2 ⟨No,NO⟩;clear Qr SI;rcases NO with⟨x,r,u,hx,rfl,hu,hf⟩ | ⟨err,hx,Ox,her,rfl⟩;rotate_left
  ·have f1:=fB Ox
   have HN:=V (show lB L=none by rw [HGO.out];exact Aq hx);have N2:=N2.trans (No.mono N2.size);clear hx No;go_wp2
   go_ret3
   exact⟨N2.alloc N2.size _, .inr ⟨err,HN.out,Ox,her,rfl⟩⟩
  obtain⟨mid,hmid⟩:=oX hx;have hlen:q.length - r.length=mid.length:=by rw [hmid];simp
  rw [hlen];have hml:(mid.length:Int)+at0 <=1000000:=by rw [HAT.out];have:=HLE.out;rw [this,hmid]at hl;simp only [ah]at hl;omega
  have HR2:Hid (L.length - r.length=p.length+mid.length):=V (by rw [HLE.out,hmid];simp only [ah];omega);have SZ:Hid (L=(p++mid)++r):=V (by rw [HLE.out,hmid,aL]);obtain⟨op,xa,xb,xl⟩:=x;obtain⟨⟨au,Ns,rfl,-,-,-⟩,-⟩:=id hu;have HX:=V hx;have HU:=V (Dw hu hf);obtain⟨m,hm⟩:∃m,acc.length=m:=⟨_,rfl⟩;clear hx hmid hlen hu hf;clear hm m;have hat64:at0+(mid.length:Int) <=1000000:=by omega
  have RU:=N2.trans (No.mono N2.size)
  go_upto_region 5 with fail
  have hw2W:Below w2.heap.size w2 (w2.alloc (.cells #[.int .i64 op, .int .i64 xa, .int .i64 xb, .slice au xl.length Ns] 39)):=(an _ _).alloc (ag _) _;have hw1W:=No.trans (hw2W.mono No.size);have Tj:=RU.trans (hw2W.mono RU.size);have hBW:=eS.new w2 #[.int .i64 op, .int .i64 xa, .int .i64 xb, .slice au xl.length Ns] 39;have c0:(w2.alloc (.cells #[.int .i64 op, .int .i64 xa, .int .i64 xb, .slice au xl.length Ns] 39)).cell? ⟨w2.heap.size,0,none⟩=some (.int .i64 op):=hBW.cell 0;have c1:(w2.alloc (.cells #[.int .i64 op, .int .i64 xa, .int .i64 xb, .slice au xl.length Ns] 39)).cell? ⟨w2.heap.size,1,none⟩=some (.int .i64 xa):=hBW.cell 1;have c2:(w2.alloc (.cells #[.int .i64 op, .int .i64 xa, .int .i64 xb, .slice au xl.length Ns] 39)).cell? ⟨w2.heap.size,2,none⟩=some (.int .i64 xb):=hBW.cell 2;have c3:(w2.alloc (.cells #[.int .i64 op, .int .i64 xa, .int .i64 xb, .slice au xl.length Ns] 39)).cell? ⟨w2.heap.size,3,none⟩=some (.slice au xl.length Ns):=hBW.cell 3;have hXW:=hBW.lt;clear hBW;have Ov:=V hw2W;have RM:=V hw1W;have h1W:=hw1W.size;clear hw2W hw1W;generalize w2.alloc (.cells #[.int .i64 op, .int .i64 xa, .int .i64 xb, .slice au xl.length Ns] 39)=W at c0 c1 c2 c3 Ov RM Tj h1W hXW⊢;by_cases QN:op=11
  ·have f11:=eV QN
   by_cases qd:deep=0
   ·subst qd
    have HDP:Hid (iC op 0 < 0):=V (by rw [QN];decide);clear QN;have HOW2:=V (fA.keeps (fun _ _ _ _ he h=>h.ext he) Rx.out (ep.et (S:=fun _=>False) RM.out) (fun _ h=>h.elim));have Rs:=V (gN.gf (S:=kD w.heap.size) (fA.low lE (fun _ _ _ _ he h=>h.ext he) HOW2.out));go_wp2_with fail;refine(qJ v acc _ Rs.out).mono ?_;rintro e w3 ⟨NP,hm3⟩;have hbl3:=Tj.trans (NP.mono Tj.size);have HE3:=V (show lB L=(if(fM acc).isSome then some (acc,r)else none)by rw [HGO.out,show 301 - acc.length=(300 - acc.length)+1 from by omega,Aj HX.out HDP.out]);have HOW3:=V (fA.keeps (fun _ _ _ _ he h=>h.ext he) HOW2.out (ep.et (S:=fun _=>False) NP) (fun _ h=>h.elim));clear NP No c0 c1 c2 c3;rcases hm3 with⟨bs,vb,So,rfl,-⟩ | ⟨So,rfl⟩
    ·have RN:=V (show lB L=some (acc,r)by rw [HE3.out,So];rfl)
     clear So;go_wp2
     go_ret3
     refine⟨hbl3, .inl ⟨acc,r,v,RN.out,?_,HOW3.out⟩⟩;rw [HR2.out];show Ending.returned (.tuple #[v, .int .i64 (at0+mid.length), .int .i64 0])=_;rw [HAT.out];rfl
    ·have RN:=V (show lB L=none by rw [HE3.out,So];rfl)
     clear So;go_wp2
     go_ret3
     exact⟨hbl3, .inr ⟨1,RN.out,by decide,by decide,rfl⟩⟩
   ·have hd':0 <=deep - 1:=by omega
    have HDP:Hid (iC op deep=deep - 1):=V (by unfold iC;rw [if_pos QN]);clear QN;have QC:=V (fA.keeps (fun _ _ _ _ he h=>h.ext he) Rx.out (ep.et (S:=fun _=>False) RM.out) (fun _ h=>h.elim));have HU4:=V (HU.out.ext (nV (P:=fun _=>False) (ep.et Ov.out) (fun _ h=>h.elim) (.inl (ag _))));obtain⟨us,u1,u2,u3⟩:=QC.out;have Qy:(acc.zip us).length=acc.length:=by rw [bV,u1,cV]
    obtain⟨av,cv,ev,_,Oh,-⟩:=u2.fT lE;rw [Qy]at ev;subst ev;unfold maxLen at Oh;have HV:=V (show∀i,eO (.slice av acc.length cv) i ->i < w1.heap.size from fun i hi=>(fA.lt Rx.out hi).2);have U1:=V u1;have U3:=V u3;clear u1 u3;go_wp2_with (first | (at_builtin;refine fw W rfl _ _ 37 rfl _ 48 (by kernel_rfl) nK rfl (by decide) (by decide) w.heap.size (.slice av acc.length cv) (acc.zip us) rfl u2 (⟨op,xa,xb,xl⟩, .slice au xl.length Ns) _ rfl rfl (by simp [qO,Value.oneCell']) rfl (by omega) (by exact Tj.size) ?_));intro v5 w5 Ou Pr RL;have HD5:=V (fA.app (fun _ _ _ _ he h=>h.ext he) (w1:=w1) U1.out U3.out Ou Pr RL N2.size HV.out HU4.out);have N7:=Tj.trans (Pr.below Tj.size (fun i hi=>(eM u2 hi).1));obtain⟨av5,cv5,ev5,_,hcv5,-⟩:=Ou.fT lE;have hlz:(acc.zip us++[((⟨op,xa,xb,xl⟩:fa),Value.slice au xl.length Ns)]).length=acc.length+1:=by rw [ah,Qy];rfl
    rw [hlz]at ev5;subst ev5;clear Ou Pr RL u2 Qy hlz QC HU4 HV U1 U3;by_cases qm:acc.length+1 <=300
    ·have f300:decide ((300:Int) < ((acc.length+1:Nat):Int))=false:=aw (by omega)
     go_wp2;refine HR.out _ _ ⟨_,acc++[⟨op,xa,xb,xl⟩],(deep - 1),at0+mid.length,p++mid,r,rfl,SZ.out,?_,?_,by rw [ah];exact qm,HD5.out,N7,by omega,?_⟩ ?_
     ·rw [HAT.out,ah];rfl
     ·rw [HGO.out,show 301 - acc.length=(300 - acc.length)+1 from by omega,kV HX.out (by rw [HDP.out];omega),az (by omega),HDP.out,ah]
      congr 1
      simp only [aB];omega
     ·rw [ah];simp only [aB];omega
     ·simp [Kh]
      omega
    ·have f300:decide ((300:Int) < ((acc.length+1:Nat):Int))=true:=ay (by omega)
     have HN:=V (show lB L=none by rw [HGO.out,show 301 - acc.length=(300 - acc.length)+1 from by omega,kV HX.out (by rw [HDP.out];omega),aE (by omega)]);go_wp2
     go_ret3
     exact⟨N7, .inr ⟨4,HN.out,by decide,by decide,rfl⟩⟩
  have f11:=eh QN;have HD0:=V (show iC op deep=if ko op then deep+1 else deep by unfold iC;rw [if_neg QN]);clear QN;go_wp2_with fail;refine(qH op _).mono ?_;rintro e w3 ⟨rfl,NP⟩;have Ov:=V (Ov.out.trans (NP.mono Ov.out.size));have RM:=V (RM.out.trans (NP.mono RM.out.size));have Tj:=Tj.trans (NP.mono Tj.size);have h1W:=RM.out.size;replace c0:=(NP.cell hXW).trans c0;replace c1:=(NP.cell hXW).trans c1;replace c2:=(NP.cell hXW).trans c2;replace c3:=(NP.cell hXW).trans c3;clear NP;cases ho:ko op with
  | true=>
   have hd':0 <=deep+1:=by omega
   have HDP:=V (show iC op deep=deep+1 by rw [HD0.out,ho];rfl);clear ho;have QC:=V (fA.keeps (fun _ _ _ _ he h=>h.ext he) Rx.out (ep.et (S:=fun _=>False) RM.out) (fun _ h=>h.elim));have HU4:=V (HU.out.ext (nV (P:=fun _=>False) (ep.et Ov.out) (fun _ h=>h.elim) (.inl (ag _))));obtain⟨us,u1,u2,u3⟩:=QC.out;have Qy:(acc.zip us).length=acc.length:=by rw [bV,u1,cV]
   obtain⟨av,cv,ev,_,Oh,-⟩:=u2.fT lE;rw [Qy]at ev;subst ev;unfold maxLen at Oh;have HV:=V (show∀i,eO (.slice av acc.length cv) i ->i < w1.heap.size from fun i hi=>(fA.lt Rx.out hi).2);have U1:=V u1;have U3:=V u3;clear u1 u3;go_wp2_with (first | (at_builtin;refine fw w3 rfl _ _ 37 rfl _ 48 (by kernel_rfl) nK rfl (by decide) (by decide) w.heap.size (.slice av acc.length cv) (acc.zip us) rfl u2 (⟨op,xa,xb,xl⟩, .slice au xl.length Ns) _ rfl rfl (by simp [qO,Value.oneCell']) rfl (by omega) (by exact Tj.size) ?_));intro v5 w5 Ou Pr RL;have HD5:=V (fA.app (fun _ _ _ _ he h=>h.ext he) (w1:=w1) U1.out U3.out Ou Pr RL N2.size HV.out HU4.out);have N7:=Tj.trans (Pr.below Tj.size (fun i hi=>(eM u2 hi).1));obtain⟨av5,cv5,ev5,_,hcv5,-⟩:=Ou.fT lE;have hlz:(acc.zip us++[((⟨op,xa,xb,xl⟩:fa),Value.slice au xl.length Ns)]).length=acc.length+1:=by rw [ah,Qy];rfl
   rw [hlz]at ev5;subst ev5;clear Ou Pr RL u2 Qy hlz QC HU4 HV U1 U3;by_cases qm:acc.length+1 <=300
   ·have f300:decide ((300:Int) < ((acc.length+1:Nat):Int))=false:=aw (by omega)
    go_wp2;refine HR.out _ _ ⟨_,acc++[⟨op,xa,xb,xl⟩],(deep+1),at0+mid.length,p++mid,r,rfl,SZ.out,?_,?_,by rw [ah];exact qm,HD5.out,N7,by omega,?_⟩ ?_
    ·rw [HAT.out,ah];rfl
    ·rw [HGO.out,show 301 - acc.length=(300 - acc.length)+1 from by omega,kV HX.out (by rw [HDP.out];omega),az (by omega),HDP.out,ah]
     congr 1
     simp only [aB];omega
    ·rw [ah];simp only [aB];omega
    ·simp [Kh]
     omega
   ·have f300:decide ((300:Int) < ((acc.length+1:Nat):Int))=true:=ay (by omega)
    have HN:=V (show lB L=none by rw [HGO.out,show 301 - acc.length=(300 - acc.length)+1 from by omega,kV HX.out (by rw [HDP.out];omega),aE (by omega)]);go_wp2
    go_ret3
    exact⟨N7, .inr ⟨4,HN.out,by decide,by decide,rfl⟩⟩
  | false=>
   have HDP:=V (show iC op deep=deep by rw [HD0.out,ho];rfl);clear ho;have QC:=V (fA.keeps (fun _ _ _ _ he h=>h.ext he) Rx.out (ep.et (S:=fun _=>False) RM.out) (fun _ h=>h.elim));have HU4:=V (HU.out.ext (nV (P:=fun _=>False) (ep.et Ov.out) (fun _ h=>h.elim) (.inl (ag _))));obtain⟨us,u1,u2,u3⟩:=QC.out;have Qy:(acc.zip us).length=acc.length:=by rw [bV,u1,cV]
   obtain⟨av,cv,ev,_,Oh,-⟩:=u2.fT lE;rw [Qy]at ev;subst ev;unfold maxLen at Oh;have HV:=V (show∀i,eO (.slice av acc.length cv) i ->i < w1.heap.size from fun i hi=>(fA.lt Rx.out hi).2);have U1:=V u1;have U3:=V u3;clear u1 u3;go_wp2_with (first | (at_builtin;refine fw w3 rfl _ _ 37 rfl _ 48 (by kernel_rfl) nK rfl (by decide) (by decide) w.heap.size (.slice av acc.length cv) (acc.zip us) rfl u2 (⟨op,xa,xb,xl⟩, .slice au xl.length Ns) _ rfl rfl (by simp [qO,Value.oneCell']) rfl (by omega) (by exact Tj.size) ?_));intro v5 w5 Ou Pr RL;have HD5:=V (fA.app (fun _ _ _ _ he h=>h.ext he) (w1:=w1) U1.out U3.out Ou Pr RL N2.size HV.out HU4.out);have N7:=Tj.trans (Pr.below Tj.size (fun i hi=>(eM u2 hi).1));obtain⟨av5,cv5,ev5,_,hcv5,-⟩:=Ou.fT lE;have hlz:(acc.zip us++[((⟨op,xa,xb,xl⟩:fa),Value.slice au xl.length Ns)]).length=acc.length+1:=by rw [ah,Qy];rfl
   rw [hlz]at ev5;subst ev5;clear Ou Pr RL u2 Qy hlz QC HU4 HV U1 U3;by_cases qm:acc.length+1 <=300
   ·have f300:decide ((300:Int) < ((acc.length+1:Nat):Int))=false:=aw (by omega)
    go_wp2;refine HR.out _ _ ⟨_,acc++[⟨op,xa,xb,xl⟩],deep,at0+mid.length,p++mid,r,rfl,SZ.out,?_,?_,by rw [ah];exact qm,HD5.out,N7,by omega,?_⟩ ?_
    ·rw [HAT.out,ah];rfl
    ·rw [HGO.out,show 301 - acc.length=(300 - acc.length)+1 from by omega,kV HX.out (by rw [HDP.out];omega),az (by omega),HDP.out,ah]
     congr 1
     simp only [aB];omega
    ·rw [ah];simp only [aB];omega
    ·simp [Kh]
     omega
   ·have f300:decide ((300:Int) < ((acc.length+1:Nat):Int))=true:=ay (by omega)
    have HN:=V (show lB L=none by rw [HGO.out,show 301 - acc.length=(300 - acc.length)+1 from by omega,kV HX.out (by rw [HDP.out];omega),aE (by omega)]);go_wp2
    go_ret3
    exact⟨N7, .inr ⟨4,HN.out,by decide,by decide,rfl⟩⟩
theorem A1 (x:kj):(rR x).length=3:=rfl
theorem BI (x:gl):(uk x).length=3:=rfl
theorem zY (x:jY):(rL x).length=3:=rfl
theorem A9 (x:jr):(pS x).length=2:=rfl
theorem vC (x:gC × Value × Value):(pU x).length=2:=rfl
theorem vK (x:ij × Value × Value):(pV x).length=2:=rfl
theorem wF (x:jI × Value):(sq x).length=2:=rfl
theorem th (x:iq × Value):(ou x).length=2:=rfl
theorem DT (x:Int):∀u∈fk x,u.oneCell'=true:=by simp [fk,Value.oneCell']
theorem Ms (x:kj):∀u∈rR x,u.oneCell'=true:=by simp [rR,Value.oneCell']
theorem Mq (x:gl):∀u∈uk x,u.oneCell'=true:=by simp [uk,Value.oneCell']
theorem LS (x:jY):∀u∈rL x,u.oneCell'=true:=by simp [rL,Value.oneCell']
theorem LU (x:jr):∀u∈pS x,u.oneCell'=true:=by simp [pS,Value.oneCell']
theorem I5:(prog.info? 71).map (fun i=>(i.zero,i.size,i.bytes))=some (some (.agg #[.string (bs []), .string (bs []), .int .i64 0]),3,40):=by kernel_rfl
theorem GZ:(prog.info? 28).map (fun i=>(i.zero,i.size,i.bytes))=some (some (.agg #[.bool false, .int .i64 0, .int .i64 0]),3,24):=by kernel_rfl
theorem EX:(prog.info? 73).map (fun i=>(i.zero,i.size,i.bytes))=some (some (.agg #[.bool false, .int .i64 0, .int .i64 0]),3,24):=by kernel_rfl
theorem BU:(prog.info? 75).map (fun i=>(i.zero,i.size,i.bytes))=some (some (.agg #[.string (bs []), .int .i64 0]),2,24):=by kernel_rfl
theorem FI:(prog.info? 69).map (fun i=>(i.zero,i.size,i.bytes))=some (some (.agg #[.slice none 0 0, .slice none 0 0]),2,48):=by kernel_rfl
theorem FB:(prog.info? 41).map (fun i=>(i.zero,i.size,i.bytes))=some (some (.agg #[.slice none 0 0, .slice none 0 0]),2,48):=by kernel_rfl
theorem EH:(prog.info? 77).map (fun i=>(i.zero,i.size,i.bytes))=some (some (.agg #[.int .i64 0, .slice none 0 0]),2,32):=by kernel_rfl
theorem FJ:(prog.info? 106).map (fun i=>(i.zero,i.size,i.bytes))=some (some (.agg #[.int .i64 0, .slice none 0 0]),2,32):=by kernel_rfl
def Lo {α:Type} (val:α ->Value) (w0:World) (Y:Nat) (get:jt α) (P:α ->Prop) (s:gV) (w1:World) (e:Ending) (w2:World):Prop:=
 ∃x:α,e= .returned (val x)/\P x/\ie get s x/\fZ w0 w2 Y (eK get s)/\ep (fun k=>k=Y) w1 w2
def LM {α β:Type} (val:α ->β ->Value) (inner:World ->α ->β ->Prop) (w0:World) (Y:Nat) (get:jt α) (P:α ->Prop) (s:gV) (w1:World) (e:Ending) (w2:World):Prop:=
 ∃(x:α) (u:β),e= .returned (val x u)/\inner (mask (kD w1.heap.size) w2) x u/\P x/\ie get s x/\fZ w0 w2 Y (eK get s)/\ep (fun k=>k=Y) w1 w2
def Nh {α:Type} (t:TypeId) (k:Nat) (enc:α ->List Value) (w0:World) (Y:Nat) (get:jt α) (P:α ->Prop) (st:gV) (w:World) (e:Ending) (w':World):Prop:=
 ∃(v:Value) (l:List α),e= .returned v/\ei t k enc w' w.heap.size v l/\(∀x∈l,P x)/\l.length <=8001/\ie (fF get) st l/\fZ w0 w' Y (eK (fF get) st)/\ep (fun k=>k=Y) w w'
def Nj {α β:Type} (t:TypeId) (k:Nat) (enc:α × β ->List Value) (inner:World ->α ->β ->Prop) (w0:World) (Y:Nat) (get:jt α) (P:α ->Prop) (st:gV) (w:World) (e:Ending) (w':World):Prop:=
 ∃(v:Value) (l:List α),e= .returned v/\fA t k enc inner w' w.heap.size v l/\(∀x∈l,P x)/\l.length <=8001/\ie (fF get) st l/\fZ w0 w' Y (eK (fF get) st)/\ep (fun k=>k=Y) w w'
def Nb {α:Type} (w0:World) (Y:Nat) (get:jt α) (P:α ->Prop) (st:gV) (w w':World) (acc:List α) (n:Nat) (s:gV):Prop:=
 st.bind (fF get)=rY get n acc s/\(∀x∈acc,P x)/\acc.length+s.len <=8001/\fZ w0 w' Y s/\ep (fun k=>k=Y) w w'/\n < 4294967296
theorem Bz {α β:Type} {t:TypeId} {k:Nat} {enc:α × β ->List Value} {inner:World ->α ->β ->Prop} {wi:World} {x:α} {u:β} (_:inner wi x u) {P:Program} (w:World) {ops:Array Oper} {rest:List Oper} {o:Oper} {a:Act} {Q:Exit ->Act ->World ->Prop} (P0:o.guard=none) (s x':Operand) (ts:TypeId)
  (ho:o.op= .call {callee:= .builtin .append,args:=#[s,x'],argTypes:=#[ts,ts]}) (z:Value) (bytes:Nat) (ht:P.underlying ts=some (.slice t)) (hi:(P.info? t).map (fun i=>(i.zero,i.size,i.bytes))=some (some z,k,bytes)) (Sh:z.cells.size=k) (h0:0 < k) (O8:bytes <=100000000)
  (B:Nat) (v:Value) (l:List (α × β)) (hs:a.eval s=v) (Nl:ei t k enc w B v l) (cs:Array Value) (Ro:cs=(enc (x,u)).toArray) (hk:(enc (x,u)).length=k) (h1:∀y∈enc (x,u),y.oneCell'=true) (hx:a.eval x'= .slice (some ⟨w.heap.size,0,none⟩) 1 1) (QK:l.length <=1000000) (NN:B <=w.heap.size)
  (h:∀v' w',ei t k enc w' B v' (l++[(x,u)]) ->ep (eO v) w w' ->eQ w v v' ->wpList P ops Q rest (a.put o.dst v') w'):wpList P ops Q (o::rest) a (w.alloc (.cells cs t)):=
 fw w P0 s x' ts ho z bytes ht hi Sh h0 O8 B v l hs Nl (x,u) cs Ro hk h1 hx QK NN h
def Er {α:Type} (fl:Nat) (t:TypeId) (k:Nat) (enc:α ->List Value) (val:α ->Value):Prop:=∀(w0:World) (Y:Nat) (get:jt α) (P:α ->Prop) (_:jL get) (st:gV) (w:World) (Nq:Nat) (bs cs:Array Value),(∀args w,(callFunc Nq args).run prog w= .ok (.enter Nq args) w) ->fZ w0 w Y st ->
 (∀s w1,fZ w0 w1 Y s ->ep (fun k=>k=Y) w w1 ->Calls prog Nq (bs++cs) w1 (Lo val w0 Y get P s w1)) ->Calls prog fl #[.pointer (some ⟨Y,0,none⟩), .func (.func Nq) bs cs] w (Nh t k enc w0 Y get P st w)
def Hr {α:Type} (fl:Nat) (t:TypeId) (enc:α ->List Value) (val:α ->Value):Prop:=∀(t':TypeId) (k':Nat) (Qh:α ->List Value) (z:Value) (bytes:Nat),t'=t ->Qh=enc ->(prog.info? t').map (fun i=>(i.zero,i.size,i.bytes))=some (some z,k',bytes) ->z.cells.size=k' ->0 < k' ->bytes <=100000000 ->(∀x,(Qh x).length=k') ->(∀x,∀u∈Qh x,u.oneCell'=true) ->Er fl t' k' Qh val
theorem sj:Hr 209 3 fk (fun x:Int=> .int .i64 x)/\Hr 207 71 rR (fun x:kj=> .agg #[.string x.mod, .string x.name, .int .i64 x.type])/\Hr 285 28 uk (fun x:gl=> .agg #[.bool x.has, .int .i64 x.min, .int .i64 x.max])/\Hr 211 73 rL (fun x:jY=> .agg #[.bool x.isVar, .int .i64 x.init.kind, .int .i64 x.init.n])/\Hr 213 75 pS (fun x:jr=> .agg #[.string x.name, .int .i64 x.func]):=by
 refine⟨?_,?_,?_,?_,?_⟩
 all_goals
  intro t' k' Qh z bytes ht he SK Sh RE O8 hlen hone w0 Y get P hG st w Nq bs cs hE h hp;have HT:=V ht;have HEN:=V he;have HINF:=V SK;have SL:=V hlen;have HONE:=V hone;have HP:=V hp;have HH:=V h;have hR:=h.lt;have HG:=V hG;clear hp h hG ht he SK hlen hone
  first | go_enter func209,ntmps209 | go_enter func207,ntmps207 | go_enter func285,ntmps285 | go_enter func211,ntmps211 | go_enter func213,ntmps213
  go_wp2_with fail;refine(kg w0 w Y st HH.out).mono ?_;rintro e w1 ⟨rfl,h1,P1⟩;have SA:=V (wj get st _ (nM st));have hn:=mi st;have hlen:=h1.len;obtain⟨N,eN⟩:∃N,jJ st=N:=⟨_,rfl⟩;rw [eN]at hn SA⊢;clear eN;go_wp2_with fail;refine eR (fun a' w'=>∃(v:Value) (acc:List _) (n:Nat) (s:gV),a'=fr (.pointer (some ⟨Y,0,none⟩):: .func (.func Nq) bs cs::gs a' 2 3 (v:: .int .i64 n::gs a' 7 19 []))/\ei t' k' Qh w' w.heap.size v acc/\Nb w0 Y get P st w w' acc n s) (fun a' _=>(intOf (a'.tmps.getD 6 undef)).toNat) ?_ ?_
  ·exact⟨_,[],N,eK gD st,rfl,ei.nil _ _,SA.out,by simp,by simpa using hlen,h1,P1,hn⟩
  ·clear h1 P1 hn hlen SA HH
   rintro R a' w1 ⟨v,acc,n,s,Nm,hJ⟩ HR;dsimp only [fr,gs]at Nm;generalize slot a'=f at Nm;subst Nm;obtain⟨ho,Ra,N5,hlen,Pa,hk,hn⟩:=hJ;have Oe:=V Pa;have Pn:=V Ra;have N9:=V N5;have HRL:=V hR;have Oc:=hk.size;have c1:=Pa.bad;have HO:=V ho;have HNT:=V (show∀i,eO v i ->¬ i=Y from fun i hi=>by have:=(eM ho hi).1;omega);have HK:=V hk;clear ho Ra N5 Pa hk;rcases bq n with QM | QM
   ·obtain⟨g1,g2⟩:=oM get Pn.out (.inl QM)
    have G1:=V g1;have G2:=V g2;subst QM;clear g1 g2;go_wp2;go_ret;exact⟨_,acc,rfl,HO.out,N9.out,by omega,G2.out,by rw [G1.out];exact Oe.out,HK.out⟩
   have f0:decide ((0:Int) < (n:Int))=true:=ay (by omega);cases s with
   | none=>
    have c1:w1.cell? ⟨Y,1,none⟩=some (.bool true):=c1;obtain⟨g1,g2⟩:=oM get Pn.out (.inr rfl);have G1:=V g1;have G2:=V g2;clear g1 g2;go_wp2;go_ret;exact⟨_,acc,rfl,HO.out,N9.out,by omega,G2.out,by rw [G1.out];exact Oe.out,HK.out⟩
   | some lb=>
    have c1:w1.cell? ⟨Y,1,none⟩=some (.bool false):=c1;obtain⟨n',rfl⟩:∃n',n=n'+1:=⟨n - 1,by omega⟩;have Nu:=HG.out.len lb;have hacc:acc.length <=8001:=by omega
    have QA:=V (show acc.length+1+(eK get (some lb)).len <=8001 by omega);clear Nu hlen;go_wp2_with fail;refine(HP.out (some lb) w1 Oe.out HK.out).mono ?_;rintro e w2 ⟨x,rfl,hpx,hwx,h2,Nw⟩;have OO:=V (ei.keeps HO.out Nw HNT.out);obtain⟨av,cv,ev,_,Oh,-⟩:=OO.out.fT SL.out;subst ev;unfold maxLen at Oh;have SB:=V h2;have HPX:=V hpx;have HREP2:=V (Pn.out.trans (tc get n' acc hwx));have OX:=V (HK.out.trans Nw (fun _ h=> .inl h));have HSZ1:=V (show w.heap.size <=w1.heap.size from HK.out.size);have HSZ2:=V (show w.heap.size <=w2.heap.size from OX.out.size);have e7:=HT.out;have e8:=HEN.out;subst e7 e8;clear hpx hwx h2 Nw c1;go_wp2_with (first | (at_builtin;refine fw w2 rfl _ _ _ rfl z bytes (by kernel_rfl) HINF.out Sh RE O8 w.heap.size (.slice av acc.length cv) acc rfl OO.out x _ rfl (SL.out x) (HONE.out x) rfl (by omega) HSZ2.out ?_));intro v3 w3 O9 Oo PW;have HO3:=V O9;have Sa:∀i,eO (.slice av acc.length cv) i ->w.heap.size <=i/\i < w2.heap.size:=fun i hi=>eM OO.out hi;have HRD3:=V (SB.out.keeps Oo (fun h=>by have:=(Sa _ h).1;have:=HRL.out;omega) (fun i hi=>by have:=(Sa i hi).1;have:=SB.out.old.2;have:=HRL.out;omega));have HK3:=V (OX.out.trans Oo (fun i hi=> .inr (Sa i hi).1));clear O9 Oo PW Sa;go_wp2;refine HR.out _ _ ⟨_,acc++[x],n',eK get (some lb),rfl,HO3.out,HREP2.out,?_,?_,HRD3.out,HK3.out,by omega⟩ ?_
    ·intro y hy
     rcases bU.1 hy with h | h
     ·exact N9.out y h
     ·obtain rfl:=aV.1 h
      exact HPX.out
    ·rw [ah]
     exact QA.out
    ·simp [intOf]
theorem ox:Er 209 3 1 fk (fun x:Int=> .int .i64 x):=sj.1 _ _ _ _ _ rfl rfl jT rfl (by decide) (by decide) fI DT
theorem JP:Er 207 71 3 rR (fun x:kj=> .agg #[.string x.mod, .string x.name, .int .i64 x.type]):=sj.2.1 _ _ _ _ _ rfl rfl I5 rfl (by decide) (by decide) A1 Ms
theorem Km:Er 285 28 3 uk (fun x:gl=> .agg #[.bool x.has, .int .i64 x.min, .int .i64 x.max]):=sj.2.2.1 _ _ _ _ _ rfl rfl GZ rfl (by decide) (by decide) BI Mq
theorem JG:Er 211 73 3 rL (fun x:jY=> .agg #[.bool x.isVar, .int .i64 x.init.kind, .int .i64 x.init.n]):=sj.2.2.2.1 _ _ _ _ _ rfl rfl EX rfl (by decide) (by decide) zY LS
theorem Kn:Er 213 75 2 pS (fun x:jr=> .agg #[.string x.name, .int .i64 x.func]):=sj.2.2.2.2 _ _ _ _ _ rfl rfl BU rfl (by decide) (by decide) A9 LU
def Ht {α β:Type} (fl:Nat) (t:TypeId) (k:Nat) (enc:α × β ->List Value) (inner:World ->α ->β ->Prop) (val:α ->β ->Value):Prop:=∀(w0:World) (Y:Nat) (get:jt α) (P:α ->Prop) (_:jL get) (st:gV) (w:World) (Nq:Nat) (bs cs:Array Value),(∀args w,(callFunc Nq args).run prog w= .ok (.enter Nq args) w) ->fZ w0 w Y st ->
 (∀s w1,fZ w0 w1 Y s ->ep (fun k=>k=Y) w w1 ->Calls prog Nq (bs++cs) w1 (LM val inner w0 Y get P s w1)) ->Calls prog fl #[.pointer (some ⟨Y,0,none⟩), .func (.func Nq) bs cs] w (Nj t k enc inner w0 Y get P st w)
def JX {α β:Type} (fl:Nat) (t:TypeId) (enc:α × β ->List Value) (inner:World ->α ->β ->Prop) (val:α ->β ->Value):Prop:=∀(t':TypeId) (k':Nat) (Qh:α × β ->List Value) (inn:World ->α ->β ->Prop) (z:Value) (bytes:Nat),t'=t ->Qh=enc ->inn=inner ->(prog.info? t').map (fun i=>(i.zero,i.size,i.bytes))=some (some z,k',bytes) ->z.cells.size=k' ->0 < k' ->bytes <=100000000 ->(∀x,(Qh x).length=k') ->Ht fl t' k' Qh inn val
theorem uu:JX 205 69 pU hI (fun(_:gC) (u:Value × Value)=> .agg #[u.1,u.2])/\JX 218 41 pV gW (fun(_:ij) (u:Value × Value)=> .agg #[u.1,u.2])/\JX 215 77 sq il (fun(x:jI) (u:Value)=> .agg #[.int .i64 x.off,u])/\JX 220 106 ou gG (fun(x:iq) (u:Value)=> .agg #[.int .i64 x.off,u]):=by
 refine⟨?_,?_,?_,?_⟩
 all_goals
  intro t' k' Qh inn z bytes ht he hie SK Sh RE O8 hlen w0 Y get P hG st w Nq bs cs hE h hp;have HT:=V ht;have HEN:=V he;have HIE:=V hie;clear hie;have HINF:=V SK;have SL:=V hlen;have HP:=V hp;have HH:=V h;have hR:=h.lt;have HG:=V hG;clear hp h hG ht he SK hlen
  first | go_enter func205,ntmps205 | go_enter func218,ntmps218 | go_enter func215,ntmps215 | go_enter func220,ntmps220
  go_wp2_with fail;refine(kg w0 w Y st HH.out).mono ?_;rintro e w1 ⟨rfl,h1,P1⟩;have SA:=V (wj get st _ (nM st));have hn:=mi st;have hlen:=h1.len;obtain⟨N,eN⟩:∃N,jJ st=N:=⟨_,rfl⟩;rw [eN]at hn SA⊢;clear eN;go_wp2_with fail;refine eR (fun a' w'=>∃(v:Value) (acc:List _) (n:Nat) (s:gV),a'=fr (.pointer (some ⟨Y,0,none⟩):: .func (.func Nq) bs cs::gs a' 2 3 (v:: .int .i64 n::gs a' 7 19 []))/\fA t' k' Qh inn w' w.heap.size v acc/\Nb w0 Y get P st w w' acc n s) (fun a' _=>(intOf (a'.tmps.getD 6 undef)).toNat) ?_ ?_
  ·exact⟨_,[],N,eK gD st,rfl,fA.nil _ _,SA.out,by simp,by simpa using hlen,h1,P1,hn⟩
  ·clear h1 P1 hn hlen SA HH
   rintro R a' w1 ⟨v,acc,n,s,Nm,hJ⟩ HR;dsimp only [fr,gs]at Nm;generalize slot a'=f at Nm;subst Nm;obtain⟨ho,Ra,N5,hlen,Pa,hk,hn⟩:=hJ;have Oe:=V Pa;have Pn:=V Ra;have N9:=V N5;have HRL:=V hR;have Oc:=hk.size;have c1:=Pa.bad;have HO:=V ho;have HNT:=V (show∀i,eO v i ->¬ i=Y from fun i hi=>by have:=(fA.lt ho hi).1;omega);have HK:=V hk;clear ho Ra N5 Pa hk;rcases bq n with QM | QM
   ·obtain⟨g1,g2⟩:=oM get Pn.out (.inl QM)
    have G1:=V g1;have G2:=V g2;subst QM;clear g1 g2;go_wp2;go_ret;exact⟨_,acc,rfl,HO.out,N9.out,by omega,G2.out,by rw [G1.out];exact Oe.out,HK.out⟩
   have f0:decide ((0:Int) < (n:Int))=true:=ay (by omega);cases s with
   | none=>
    have c1:w1.cell? ⟨Y,1,none⟩=some (.bool true):=c1;obtain⟨g1,g2⟩:=oM get Pn.out (.inr rfl);have G1:=V g1;have G2:=V g2;clear g1 g2;go_wp2;go_ret;exact⟨_,acc,rfl,HO.out,N9.out,by omega,G2.out,by rw [G1.out];exact Oe.out,HK.out⟩
   | some lb=>
    have c1:w1.cell? ⟨Y,1,none⟩=some (.bool false):=c1;obtain⟨n',rfl⟩:∃n',n=n'+1:=⟨n - 1,by omega⟩;have Nu:=HG.out.len lb;have hacc:acc.length <=8001:=by omega
    have QA:=V (show acc.length+1+(eK get (some lb)).len <=8001 by omega);clear Nu hlen;go_wp2_with fail;refine(HP.out (some lb) w1 Oe.out HK.out).mono ?_;rintro e w2 ⟨x,u,rfl,N6,hpx,hwx,h2,Nw⟩;have e9:=HIE.out;subst e9
    first
    | (obtain⟨⟨a1,NI,rfl,-,-,-⟩,-⟩:=id N6)
    | (obtain⟨u1,u2⟩:=u;obtain⟨⟨⟨a1,NI,OW,-,-,-⟩,⟨a2,Nr,OZ,-,-,-⟩⟩,-⟩:=id N6;simp only at OW OZ;subst OW OZ)
    | (obtain⟨u1,u2⟩:=u;obtain⟨⟨⟨a1,NI,OW,-,-,-⟩,N3⟩,-⟩:=id N6;obtain⟨a2,Nr,OZ,-,-⟩:=eD.slice N3;simp only at OW OZ;subst OW OZ;clear N3)
    have NF:=V N6;clear N6;have OO:=V (fA.keeps (fun _ _ _ _ he h=>h.ext he) HO.out Nw (fun i hi=>by subst hi;exact .inl HRL.out));obtain⟨us,u1,u2,u3⟩:=OO.out;have Qy:(acc.zip us).length=acc.length:=by rw [bV,u1,cV]
    obtain⟨av,cv,ev,_,Oh,-⟩:=u2.fT SL.out;rw [Qy]at ev;subst ev;unfold maxLen at Oh;have HV:=V (show∀i,eO (.slice av acc.length cv) i ->i < w1.heap.size from fun i hi=>(fA.lt HO.out hi).2);have U1:=V u1;have U3:=V u3;have U2:=V u2;have SB:=V h2;have HPX:=V hpx;have HREP2:=V (Pn.out.trans (tc get n' acc hwx));have OX:=V (HK.out.trans Nw (fun _ h=> .inl h));have HSZ1:=V (show w.heap.size <=w1.heap.size from HK.out.size);have HSZ2:=V (show w.heap.size <=w2.heap.size from OX.out.size);have e7:=HT.out;have e8:=HEN.out;subst e7 e8;clear hpx hwx h2 Nw c1;go_wp2_with (first | (at_builtin;refine Bz NF.out w2 rfl _ _ _ rfl z bytes (by kernel_rfl) HINF.out Sh RE O8 w.heap.size (.slice av acc.length cv) (acc.zip us) rfl U2.out _ rfl (SL.out _) (by simp [Value.oneCell',pU,pV,sq,ou]) rfl (by rw [bV,U1.out,cV];omega) HSZ2.out ?_));intro v3 w3 O9 Oo PW;have HO3:=V (fA.app (fun _ _ _ _ he h=>h.ext he) (w1:=w1) U1.out U3.out O9 Oo PW HSZ1.out HV.out NF.out);have Sa:∀i,eO (.slice av acc.length cv) i ->w.heap.size <=i/\i < w2.heap.size:=fun i hi=>eM U2.out hi;have HRD3:=V (SB.out.keeps Oo (fun h=>by have:=(Sa _ h).1;have:=HRL.out;omega) (fun i hi=>by have:=(Sa i hi).1;have:=SB.out.old.2;have:=HRL.out;omega));have HK3:=V (OX.out.trans Oo (fun i hi=> .inr (Sa i hi).1));clear O9 Oo PW Sa;go_wp2;refine HR.out _ _ ⟨_,acc++[x],n',eK get (some lb),rfl,HO3.out,HREP2.out,?_,?_,HRD3.out,HK3.out,by omega⟩ ?_
    ·intro y hy
     rcases bU.1 hy with h | h
     ·exact N9.out y h
     ·obtain rfl:=aV.1 h
      exact HPX.out
    ·rw [ah]
     exact QA.out
    ·simp [intOf]
theorem Ko:Ht 205 69 2 pU hI (fun(_:gC) (u:Value × Value)=> .agg #[u.1,u.2]):=uu.1 _ _ _ _ _ _ rfl rfl rfl FI rfl (by decide) (by decide) vC
theorem Jh:Ht 218 41 2 pV gW (fun(_:ij) (u:Value × Value)=> .agg #[u.1,u.2]):=uu.2.1 _ _ _ _ _ _ rfl rfl rfl FB rfl (by decide) (by decide) vK
theorem J1:Ht 215 77 2 sq il (fun(x:jI) (u:Value)=> .agg #[.int .i64 x.off,u]):=uu.2.2.1 _ _ _ _ _ _ rfl rfl rfl EH rfl (by decide) (by decide) wF
theorem Kl:Ht 220 106 2 ou gG (fun(x:iq) (u:Value)=> .agg #[.int .i64 x.off,u]):=uu.2.2.2 _ _ _ _ _ _ rfl rfl rfl FJ rfl (by decide) (by decide) th
theorem yJ:(prog.info? 26).map (fun i=>(i.zero,i.size,i.bytes))=some (some (.slice none 0 0),1,24):=by kernel_rfl
theorem IF {w:World} {B:Nat} {v:Value} {us RK:List Value} (h:ei 26 1 sx w B v us) (h':ei 26 1 sx w B v RK):us=RK:=by
 have hf:∀l:List Value,l.flatMap sx=l:=fun l=>by
  induction l with
  | nil=>rfl
  | cons x l ih=>rw [bK,ih];rfl
 obtain⟨_,hv | ⟨g,cap,cur,hv,hb,hg,hn,hm,hs,ht⟩⟩:=h
 ·obtain⟨_,Si | ⟨g',NK,cur',Si,_⟩⟩:=h'
  ·rw [aI hv.2,aI Si.2]
  ·rw [hv.1]at Si
   cases Si
 ·obtain⟨_,Si | ⟨g',NK,cur',Si,_,TD,_,_,_,ht'⟩⟩:=h'
  ·rw [Si.1]at hv
   cases hv
  ·rw [hv]at Si
   injection Si with e1 e2 e3;injection e1 with e1;injection e1 with e1;subst e1;rw [hg]at TD;injection TD with TD;injection TD with TD;rw [e2,TD,ht']at ht;rw [hf,hf]at ht;exact ht.symm
theorem iS.rows {w:World} {B:Nat} {v:Value} {rs:List (Nat × Int)} (h:iS w B v rs):∃us,ei 26 1 sx w B v us/\us.length=rs.length/\
  ∀Qu Oy ul n k',rs=Qu++[(n,k')] ->Oy.length=Qu.length ->ei 26 1 sx w B v (Oy++[ul]) ->us=Oy++[ul]:=by
 rcases h with⟨rfl,rfl⟩ | ⟨Qu,Oy,ul,n,k,rfl,h2,h3,h4,h5,h6⟩
 ·exact⟨[],ei.nil _ _,rfl,fun Qu Oy ul n k' he=>by simp at he⟩
 ·exact⟨Oy++[ul],h3,by simp [h2],fun _ _ _ _ _ _ _ h=>IF h3 h⟩
theorem iS.last {w:World} {B:Nat} {v:Value} {Qu:List (Nat × Int)} {n:Nat} {k:Int} (h:iS w B v (Qu++[(n,k)])):
  ∃(Oy:List Value) (ul:Value),Oy.length=Qu.length/\ei 26 1 sx w B v (Oy++[ul])/\
  ei 3 1 fk w B ul (List.replicate n k)/\1 <=n/\∀(i:Nat) (x:Nat × Int) (u:Value),Qu[i]?=some x ->Oy[i]?=some u ->nk (mask (B7 B v ul) w) x u:=by
 rcases h with⟨h,_⟩ | ⟨rs1,Oy,ul,n1,k1,he,h2,h3,h4,h5,h6⟩
 ·simp at h
 ·obtain⟨e1,e2⟩:=List.append_inj' he rfl
  simp only [List.cons.injEq,eg,and_true]at e2;obtain⟨rfl,rfl⟩:=e2;subst e1;exact⟨Oy,ul,h2,h3,h4,h5,h6⟩
theorem ei.free {α:Type} {t:TypeId} {k:Nat} {enc:α ->List Value} {w:World} {B g n cap:Nat} {l:List α} (h:ei t k enc w B (.slice (some ⟨g,0,none⟩) n cap) l) (i:Nat):w.frozen? ⟨g,i,none⟩=false:=by
 obtain⟨_,hv | ⟨g',NK,cur,hv,hb,hg,hn,hm,hs,ht⟩⟩:=h
 ·cases hv.1
 ·injection hv with e1
  injection e1 with e1;injection e1 with e1;subst e1;exact dc w g i cur _ hg
def M4 (ls:List Int) (wA w':World) (v:Value) (k:Nat):Prop:=k <=ls.length/\Below wA.heap.size wA w'/\iS w' wA.heap.size v (gO (ls.take k))
theorem Kr (w0:World) (e:ij) (u:Value × Value) (hu:gW w0 e u) (hm:e.may) (b:Value) (xs:List UInt8) (w:World) (B:Nat) (Nl:eC w B b xs) (hn:xs.length <=100000000) (hB:B <=w.heap.size) (h0:Src w0 w B):
  Calls prog 187 #[b, .agg #[u.1,u.2]] w (iw xs (iK e) B b w):=by
 obtain⟨u1,u2⟩:=u;have HU:=V hu;obtain⟨⟨⟨a1,NI,OW,hca1,hca2,Nk⟩,N3⟩,-⟩:=id hu;obtain⟨a2,Nr,OZ,-,-⟩:=eD.slice N3;have Oj:=V N3.LX;simp only at OW OZ;subst OW OZ;have HCL:=V Nk;have hn1:e.locals.length <=32:=hm.2.1.1;have HM:=V hm;have HO:=V Nl;have H0:=V h0;have h0B:=h0.2;have HA:=V (eS.new w #[.slice a1 e.locals.length NI, .slice a2 e.body.length Nr] 41);have TK:=V ((an w.heap.size w).alloc (ag _) (.cells #[.slice a1 e.locals.length NI, .slice a2 e.body.length Nr] 41));clear Nk N3 hu hm Nl h0;go_enter func187,ntmps187;go_wp2_with fail;obtain⟨X,hX⟩:∃X,X=w.heap.size:=⟨_,rfl⟩;rw [<- hX]at HA⊢;have hX1:=dm hX;have hX2:=dm hX.symm;clear hX;generalize w.alloc (.cells #[.slice a1 e.locals.length NI, .slice a2 e.body.length Nr] 41)=wA at HA TK⊢;have hXA:X < wA.heap.size:=HA.out.lt;refine eR (fun a' w'=>∃(v:Value) (k:Nat),a'=fr (b::gs a' 1 2 (.pointer (some ⟨X,0,none⟩)::gs a' 4 1 (v::gs a' 6 4 (.slice a1 e.locals.length NI:: .int .i64 e.locals.length:: .int .i64 k::gs a' 13 48 []))))/\M4 e.locals wA w' v k) (fun a' _=>(e.locals.length - (intOf (a'.tmps.getD 12 undef)).toNat)) ?_ ?_
 ·exact⟨_,0,rfl,by omega,an _ _, .inl ⟨rfl,rfl⟩⟩
 ·skip
  rintro R a' w1 ⟨v,k,Nm,hJ⟩ HR;dsimp only [fr,gs]at Nm;generalize slot a'=f at Nm;subst Nm;obtain⟨hk,Sy,hrn⟩:=hJ;have NV:=V Sy;have HRN:=V hrn;have HX1:=V (HA.out.below Sy hXA);have x0:w1.cell? ⟨X,0,none⟩=some (.slice a1 e.locals.length NI):=HX1.out.cell 0;clear Sy hrn;by_cases q:k < e.locals.length;rotate_left
  ·obtain rfl:k=e.locals.length:=by omega
   have hl:=wq hn1;have HD:=V (show eD 1 KA nk w1 v (gO e.locals)by have:=HRN.out.deep;rwa [aU]at this);obtain⟨av,cv,rfl,-,Oh⟩:=eD.slice HD.out;have Sc:=NV.out.size;go_wp2_with fail;refine(GB w1 zC 1000 (.slice none 0 0) [] _ (gO e.locals) w1.heap.size w1 278 (fun args w=>by rfl) HD.out (eC.nil _ _) (ag _) ⟨an _ _,ag _⟩ (by rw [kJ]at hl;simp only [aH];omega) (by omega) ?_).mono ?_
   ·intro e1 OW u hu b xs w ho hx hB hs
    exact KE w1 e1 u hu b xs w _ ho (by omega) hB hs (by have:=(sr _ _ OW).2;omega)
   rintro x w2 ⟨v2,rfl,NU,Nw,NC⟩;have No:Below w1.heap.size w1 w2:=sV Nw rfl;have NQ:=V No;have OO:=V (show eC w2 w1.heap.size v2 (kJ e.locals)by simpa [kJ] using NU);have x1:w2.cell? ⟨X,1,none⟩=some (.slice a2 e.body.length Nr):=(HX1.out.below No HX1.out.lt).cell 1;have Qp:=No.size;have HBW2:=V (TK.out.trans (NV.out.mono TK.out.size));have OF:=V (show Src w0 w2 w1.heap.size from⟨H0.out.1.trans ((HBW2.out.mono H0.out.1.size).trans (No.mono (by have:=H0.out.1.size;have:=HBW2.out.size;omega))),by have:=H0.out.1.size;have:=HBW2.out.size;omega⟩);clear Nw NC NU No x0;go_wp2_with fail;refine(AL w0 v2 _ _ e.body w1.heap.size w2 OO.out (by omega) Qp HU.out.1.2 OF.out HM.out.2.2.1 HM.out.2.2.2).mono ?_;rintro x w3 ⟨v3,rfl,O9,Oo,PW⟩;have hlen3:(kJ e.locals++nz e.body).length <=1000000:=by
    have h1:=sW (l:=e.body) HM.out.2.2.2 Oj.out;have h2:=HM.out.2.2.1;have h3:530*e.body.length <=530*300:=dN _ h2;simp only [nz,ah,aB];omega
   have TL:Hid (Below w1.heap.size w1 w3):=V (NQ.out.trans (Oo.below Qp (fun i hi=>(eM OO.out hi).1)));obtain⟨L,hL⟩:∃L,L=kJ e.locals++nz e.body:=⟨_,rfl⟩;rw [<- hL]at O9 hlen3;have HL:=V hL;have HO3:=V O9;have Qq:=TL.out.size;have hsz0:=HBW2.out.size;have hb03:Below w.heap.size w w3:=HBW2.out.trans (TL.out.mono hsz0);have R9:=V ((Wr.refl HO.out).below hb03);have HIB:=V (eC.gK O9);obtain⟨a3,OH,rfl,-,-,-⟩:=eC.gK O9;clear hL Oo PW O9 x1 hb03;go_wp2_with fail;refine(jC b xs L.length (by omega) B w3 R9.out.1 (by omega) (R9.out.base hB)).mono ?_;rintro x w4 ⟨v4,rfl,OM,QF,O2⟩;have PA:=V (R9.out.step ⟨OM,QF,O2⟩);have Q7:=V (eC.gK (eC.keeps HO3.out QF (fun i hi hj=>by have:=(eM HO3.out hi).1;have:=(eM HO.out hj).2;omega)));have hp:=(eU L.length).2;clear QF O2 OM;go_wp2_with (first | (at_builtin;refine ja w4 rfl _ _ rfl rfl B v4 _ rfl PA.out.1 _ _ rfl Q7.out (by simp only [ah];omega) (PA.out.base hB) ?_));intro v5 w5 ho5 Pr RL;have S3:=V (PA.out.step ⟨ho5,Pr,RL⟩);clear ho5 Pr RL;go_wp2;go_ret;exact⟨_,rfl,by
    have h:=S3.out;rw [HL.out]at h;show Wr _ _ _ _ _ _;simpa [iK,mM] using h⟩
  obtain⟨x,hx⟩:∃x,e.locals[k]?=some x:=⟨_,aq q⟩;obtain⟨bb,off,rfl,Nu,NA⟩:=HCL.out k x hx;have hb01:Below w0.heap.size w0 w1:=H0.out.1.trans ((TK.out.trans (NV.out.mono TK.out.size)).mono H0.out.1.size);have c0:=(hb01.cell Nu).trans (NA 0 _ rfl);rw [aJ,aW]at c0;have HX:=V hx;clear NA Nu hx hb01;by_cases q0:k=0
  ·have f1:decide (0 < k)=false:=aw (by omega)
   have HSN:Hid (lI (gO (e.locals.take k)) x=gO (e.locals.take k)++[(1,x)]):=V (by subst q0;rfl);clear q0;obtain⟨us,hus,Rc,huq⟩:=HRN.out.rows;have Qy:us.length <=32:=by
    have:=pT (e.locals.take (k));rw [aP]at this;omega
   have HUS:=V hus;have HUQ:=V huq;have HUL:=V Rc;obtain⟨av,cv,rfl,-,Oh⟩:=hus.slice;have Sc:=NV.out.size;clear hus huq Rc;go_wp2_with (first | (at_builtin;refine fw (w1.alloc (.cells #[.int .i64 x] 3)) rfl _ _ 331 rfl _ 24 (by kernel_rfl) yJ rfl (by decide) (by decide) wA.heap.size (.slice av us.length cv) us rfl (HUS.out.below ((an _ _).alloc (ag _) _)) (.slice (some ⟨w1.heap.size,0,none⟩) 1 1) _ rfl rfl (by simp [sx,Value.oneCell']) (by rw [aC];rfl) (by omega) (by rw [aC];omega) ?_));intro v' w2 ho Nw NC;have hs2':eQ w1 (.slice av us.length cv) v':=fun i hi=>(NC i hi).imp id (fun g=>by rw [aC]at g;omega);have HN:=V (iS.new HRN.out HUS.out HUL.out ho Nw hs2' Sc HUQ.out);have HBN:Hid (Below wA.heap.size wA w2):=V ((NV.out.alloc Sc _).trans (Nw.below (by rw [aC];omega) (fun i hi=>(eM HUS.out hi).1)));clear ho Nw NC hs2';go_wp2;refine HR.out _ _ ⟨_,k+1,rfl,by omega,HBN.out,?_⟩ ?_
   ·rw [aR,HX.out]
    show iS _ _ _ (gO (e.locals.take (k)++[x]));rw [nO,HSN.out];exact HN.out
   ·simp [intOf]
    omega
  obtain⟨j,rfl⟩:∃j,k=j+1:=⟨k - 1,by omega⟩;obtain⟨y,hy⟩:∃y,e.locals[j]?=some y:=⟨_,aq (by omega)⟩;obtain⟨bb',off',heq,Nu,NA⟩:=HCL.out j y hy;injection heq with heq;injection heq with e1 e2;subst e1 e2;have hb01:Below w0.heap.size w0 w1:=H0.out.1.trans ((TK.out.trans (NV.out.mono TK.out.size)).mono H0.out.1.size);have cy:=(hb01.cell Nu).trans (NA 0 _ rfl);rw [aJ,aW]at cy;clear NA Nu hb01;have f1:decide ((0:Int) < (j:Int)+1)=true:=ay (by omega);obtain⟨rs,n,k',RQ,P7,S9⟩:=yC (e.locals.take (j+1)) (by
   intro h;have:=cY List.length h;rw [aP]at this;simp only [aH]at this;omega)
  have hky:k'=y:=by
   rw [aR,hy]at P7;simpa using P7.symm
  subst hky;by_cases q1:k'=x;rotate_left
  ·have f2:(k'==x)=false:=eh q1
   have HSN:Hid (lI (gO (e.locals.take (j+1))) x=gO (e.locals.take (j+1))++[(1,x)]):=V (by rw [RQ,rC,az q1];simp);clear q1 q0 RQ P7 S9 hy;obtain⟨us,hus,Rc,huq⟩:=HRN.out.rows;have Qy:us.length <=32:=by
    have:=pT (e.locals.take (j+1));rw [aP]at this;omega
   have HUS:=V hus;have HUQ:=V huq;have HUL:=V Rc;obtain⟨av,cv,rfl,-,Oh⟩:=hus.slice;have Sc:=NV.out.size;clear hus huq Rc;go_wp2_with (first | (at_builtin;refine fw (w1.alloc (.cells #[.int .i64 x] 3)) rfl _ _ 331 rfl _ 24 (by kernel_rfl) yJ rfl (by decide) (by decide) wA.heap.size (.slice av us.length cv) us rfl (HUS.out.below ((an _ _).alloc (ag _) _)) (.slice (some ⟨w1.heap.size,0,none⟩) 1 1) _ rfl rfl (by simp [sx,Value.oneCell']) (by rw [aC];rfl) (by omega) (by rw [aC];omega) ?_));intro v' w2 ho Nw NC;have hs2':eQ w1 (.slice av us.length cv) v':=fun i hi=>(NC i hi).imp id (fun g=>by rw [aC]at g;omega);have HN:=V (iS.new HRN.out HUS.out HUL.out ho Nw hs2' Sc HUQ.out);have HBN:Hid (Below wA.heap.size wA w2):=V ((NV.out.alloc Sc _).trans (Nw.below (by rw [aC];omega) (fun i hi=>(eM HUS.out hi).1)));clear ho Nw NC hs2';go_wp2;refine HR.out _ _ ⟨_,j+1+1,rfl,by omega,HBN.out,?_⟩ ?_
   ·rw [aR,HX.out]
    show iS _ _ _ (gO (e.locals.take (j+1)++[x]));rw [nO,HSN.out];exact HN.out
   ·simp [intOf]
    omega
  ·subst q1
   have f2:(k'==k')=true:=eV rfl;have HSN:Hid (lI (gO (e.locals.take (j+1))) k'=rs++[(n+1,k')]):=V (by rw [RQ,rC,aE rfl]);have hnn:n <=32:=by
    have:=(sr (e.locals.take (j+1)) (n,k') (by rw [RQ];simp)).2;rw [aP]at this;simp only at this;omega
   have hrl:=HRN.out;rw [RQ]at hrl;obtain⟨Oy,ul,h2,h3,h4,h5,h6⟩:=hrl.last;obtain⟨g,cap,cur,rfl,Rp,Pv,hg3,PV,Ow⟩:=h3.open (by simp);have hlu:(Oy++[ul]).length=Oy.length+1:=by simp
   rw [hlu]at h3 h6 PV;rw [hlu];obtain⟨aul,cul,rfl,-,hcu⟩:=h4.slice;rw [bB]at h3 h4 h6;have c1:w1.cell? ⟨g,Oy.length,none⟩=some (.slice aul n cul):=by
    have:=ei.cell se h3 (i:=Oy.length) (j:=0) (x:= .slice aul n cul) (u:= .slice aul n cul) (by simp) rfl
    rwa [aW,aJ]at this
   have H2:=V h2;have H3:=V h3;have H4:=V h4;have H6:=V h6;have hus2:Oy.length <=32:=by
    have:=pT (e.locals.take (j+1));rw [aP,RQ]at this;simp at this;omega
   have Sc:=NV.out.size;clear hrl h2 h3 h4 h5 h6 hg3 RQ P7 S9 q0 hy hlu Ow;go_wp2_with (first | (at_builtin;refine fw w1 rfl _ _ 26 rfl _ 8 (by kernel_rfl) jT rfl (by decide) (by decide) wA.heap.size (.slice aul n cul) (List.replicate n k') rfl H4.out k' _ rfl rfl (DT k') rfl (by simp only [bB];omega) Sc ?_));intro v' w2 ho Nw NC;have hd:∀i,eO (.slice (some ⟨g,0,none⟩) (Oy.length+1) cap) i ->¬ eO (.slice aul n cul) i:=fun i hi=>ei.ne H3.out H4.out (by decide) i hi;have H3':=V (ei.keeps H3.out Nw hd);have c2:w2.cell? ⟨g,Oy.length,none⟩=some (.slice aul n cul):=by
    have:=ei.cell se H3'.out (i:=Oy.length) (j:=0) (x:= .slice aul n cul) (u:= .slice aul n cul) (by simp) rfl
    rwa [aW,aJ]at this
   have z2:=H3'.out.free Oy.length;obtain⟨av,cv,rfl,-,Oh⟩:=ho.slice;have HN:=V (iS.grow H2.out H3.out H4.out H6.out ho Nw NC rfl);have HBN:Hid (Below wA.heap.size wA (w2.setCell ⟨g,Oy.length,none⟩ (.slice av (List.replicate n k'++[k']).length cv))):=V ((NV.out.trans (Nw.below Sc (fun i hi=>(eM H4.out hi).1))).setCell Rp _);rw [ah,bB,aB]at HN HBN;rw [ah,bB,aB];clear ho Nw NC hd;go_wp2;refine HR.out _ _ ⟨_,j+1+1,rfl,by omega,HBN.out,?_⟩ ?_
   ·rw [aR,HX.out]
    show iS _ _ _ (gO (e.locals.take (j+1)++[k']));rw [nO,HSN.out];exact HN.out
   ·simp [intOf]
    omega
theorem vZ {w:World} {Y:Nat} (h:eS w Y #[.int .u8 0] 5):eZ w (.slice (some ⟨Y,0,none⟩) 1 1) [0]:=
 ⟨_,1,rfl,ag _,by simp [maxLen],fun i x hx=>⟨Y,0,rfl,by
  match i,hx with
  | 0,hx=>
   injection hx with hx;subst hx;exact h.cell 0⟩⟩
theorem JT (e:jr) (b:Value) (xs:List UInt8) (w:World) (B:Nat) (Nl:eC w B b xs) (hn:xs.length <=100000000) (hB:B <=w.heap.size) (hm:e.may):
  Calls prog 182 #[b, .agg #[.string e.name, .int .i64 e.func]] w (iw xs (oz e) B b w):=by
 have l1:=oq hm.1;have hs0:=hm.1.2.1;have HM:=V hm;clear hm;have HW:=V ((Wr.refl Nl).alloc (.cells #[.string e.name, .int .i64 e.func] 75));have HA:=V (Aside.new Nl #[.string e.name, .int .i64 e.func] 75);clear Nl;go_enter func182,ntmps182;go_wp2_with fail;refine mo (fun w'=>w'.cell? ⟨w.heap.size,0,none⟩=some (.string e.name)/\w'.cell? ⟨w.heap.size,1,none⟩=some (.int .i64 e.func)) (ord [(0,true),(1,true),(2,true),(6,true),(7,true)] (.fork 3 4 (ord [(4,false),(5,false),(8,false),(9,true)] .nil) (ord [(3,false),(5,false),(8,false),(9,true)] .nil))) (by kernel_rfl) (by kernel_rfl) ⟨HA.out.cell 0,HA.out.cell 1⟩ ?_;dsimp only [ord];have HW:=V HW.out.drew;have HA:=V HA.out.drew;obtain⟨X,hX⟩:∃X,X=w.heap.size:=⟨_,rfl⟩;rw [<- hX]at HA⊢;clear hX;generalize(w.alloc (.cells #[.string e.name, .int .i64 e.func] 75)).drew=wa at HW HA⊢;iterate 5 (first | (apply ord_skip rfl rfl;simp only [Act.put,aX,bE,bG]) | (apply iR rfl rfl rfl;·(rintro w' ⟨t0,t1⟩;go_wp2;exact⟨rfl,rfl,rfl⟩)))
 refine pL rfl rfl rfl rfl ?_ ?_
 ·skip
  go_wp2_with fail;refine(ny b xs e.name B wa HW.out.1 (by omega) (by omega) (HW.out.base hB)).mono ?_;rintro e' w1 ⟨v1,rfl,ho,hk,hs⟩;have HA:=V (HA.out.next ⟨ho,hk,hs⟩);have HW:=V (HW.out.step ⟨ho,hk,hs⟩);clear ho hk hs;go_wp2_with fail;refine⟨⟨HA.out.cell 0,HA.out.cell 1⟩,?_⟩;refine fW rfl rfl ?_;go_wp2_with fail;refine⟨⟨(HA.out.alloc _).cell 0,(HA.out.alloc _).cell 1⟩,?_⟩;refine fW rfl rfl ?_;go_wp2_with (first | (at_builtin;refine fm w1 rfl _ _ rfl rfl B v1 _ rfl HW.out.1 (0:UInt8) _ rfl rfl (by first | omega | (simp only [ah];omega) | (simp only [ah,aB];omega)) (HW.out.base hB) ?_));intro v2 w2 ho hk hs;have HA:=V (HA.out.next ⟨ho,hk,hs⟩);have HW:=V (HW.out.step ⟨ho,hk,hs⟩);clear ho hk hs;go_wp2_with fail;refine⟨⟨HA.out.cell 0,HA.out.cell 1⟩,?_⟩;refine fW rfl rfl ?_;go_wp2_with fail;refine(nJ e.func HM.out.2 v2 _ B w2 HW.out.1 (by simp only [ah,aB];omega) (HW.out.base hB)).mono ?_;rintro e' w9 ⟨v9,rfl,ho,hk,hs⟩;have HA:=V (HA.out.next ⟨ho,hk,hs⟩);have HW:=V (HW.out.step ⟨ho,hk,hs⟩);clear ho hk hs;go_wp2_with fail;refine⟨⟨HA.out.cell 0,HA.out.cell 1⟩,?_⟩;iterate 1 (first | (apply ord_skip rfl rfl;simp only [Act.put,aX,bE,bG]) | (apply iR rfl rfl rfl;·(rintro w' ⟨t0,t1⟩;go_wp2;exact⟨rfl,rfl,rfl⟩)))
  refine nc ?_;refine aA ?_;go_wp2;go_ret;exact⟨_,rfl,by show Wr _ _ _ _ _ _;simpa [oz,tk] using HW.out⟩
 ·go_wp2_with fail
  refine⟨⟨(HA.out.alloc _).cell 0,(HA.out.alloc _).cell 1⟩,?_⟩;have HY:=V (Aside.new HW.out.1 #[.int .u8 0] 5);have HW:=V (HW.out.alloc (.cells #[.int .u8 0] 5));have HA:=V (HA.out.alloc (.cells #[.int .u8 0] 5));refine fW rfl rfl ?_;go_wp2_with fail;refine(ny b xs e.name B _ HW.out.1 (by omega) (by omega) (HW.out.base hB)).mono ?_;rintro e' w1 ⟨v1,rfl,ho,hk,hs⟩;have HY:=V (HY.out.next ⟨ho,hk,hs⟩);have HA:=V (HA.out.next ⟨ho,hk,hs⟩);have HW:=V (HW.out.step ⟨ho,hk,hs⟩);clear ho hk hs;go_wp2_with fail;refine⟨⟨HA.out.cell 0,HA.out.cell 1⟩,?_⟩;refine fW rfl rfl ?_;go_wp2_with (first | (at_builtin;refine ja w1 rfl _ _ rfl rfl B v1 _ rfl HW.out.1 _ [0] rfl (vZ HY.out.1) (by first | omega | (simp only [ah,aB];omega) | (simp only [ah,aD,aH];omega)) (HW.out.base hB) ?_));intro v2 w2 ho hk hs;have HA:=V (HA.out.next ⟨ho,hk,hs⟩);have HW:=V (HW.out.step ⟨ho,hk,hs⟩);clear ho hk hs;go_wp2_with fail;refine⟨⟨HA.out.cell 0,HA.out.cell 1⟩,?_⟩;refine fW rfl rfl ?_;go_wp2_with fail;refine(nJ e.func HM.out.2 v2 _ B w2 HW.out.1 (by simp only [ah,aB];omega) (HW.out.base hB)).mono ?_;rintro e' w9 ⟨v9,rfl,ho,hk,hs⟩;have HA:=V (HA.out.next ⟨ho,hk,hs⟩);have HW:=V (HW.out.step ⟨ho,hk,hs⟩);clear ho hk hs;go_wp2_with fail;refine⟨⟨HA.out.cell 0,HA.out.cell 1⟩,?_⟩;iterate 1 (first | (apply ord_skip rfl rfl;simp only [Act.put,aX,bE,bG]) | (apply iR rfl rfl rfl;·(rintro w' ⟨t0,t1⟩;go_wp2;exact⟨rfl,rfl,rfl⟩)))
  refine nc ?_;refine aA ?_;go_wp2;go_ret;exact⟨_,rfl,by show Wr _ _ _ _ _ _;simpa [oz,tk] using HW.out⟩
theorem Kj (e:kj) (b:Value) (xs:List UInt8) (w:World) (B:Nat) (Nl:eC w B b xs) (hn:xs.length <=100000000) (hB:B <=w.heap.size) (hm:e.may):
  Calls prog 170 #[b, .agg #[.string e.mod, .string e.name, .int .i64 e.type]] w (iw xs (od e) B b w):=by
 have l1:=oq hm.1;have l2:=oq hm.2.1;have hs0:=hm.1.2.1;have OC:=hm.2.1.2.1;have HM:=V hm;clear hm;have HW:=V ((Wr.refl Nl).alloc (.cells #[.string e.mod, .string e.name, .int .i64 e.type] 71));have HA:=V (Aside.new Nl #[.string e.mod, .string e.name, .int .i64 e.type] 71);clear Nl;go_enter func170,ntmps170;go_wp2_with fail;refine mo (fun w'=>w'.cell? ⟨w.heap.size,0,none⟩=some (.string e.mod)/\w'.cell? ⟨w.heap.size,1,none⟩=some (.string e.name)/\w'.cell? ⟨w.heap.size,2,none⟩=some (.int .i64 e.type)) (ord [(0,true),(1,true),(2,true),(4,true),(5,true),(9,true),(10,true)] (.fork 3 7 (.fork 6 7 (ord [(7,false),(8,false),(11,false),(12,true)] .nil) (ord [(6,false),(8,false),(11,false),(12,true)] .nil)) (ord [(3,false),(6,false),(8,false),(11,false),(12,true)] .nil))) (by kernel_rfl) (by kernel_rfl) ⟨HA.out.cell 0,HA.out.cell 1,HA.out.cell 2⟩ ?_;dsimp only [ord];have HW:=V HW.out.drew;have HA:=V HA.out.drew;obtain⟨X,hX⟩:∃X,X=w.heap.size:=⟨_,rfl⟩;rw [<- hX]at HA⊢;clear hX;generalize(w.alloc (.cells #[.string e.mod, .string e.name, .int .i64 e.type] 71)).drew=wa at HW HA⊢;iterate 7 (first | (apply ord_skip rfl rfl;simp only [Act.put,aX,bE,bG]) | (apply iR rfl rfl rfl;·(rintro w' ⟨t0,t1,t2⟩;go_wp2;exact⟨rfl,rfl,rfl⟩)))
 refine pL rfl rfl rfl rfl ?_ ?_
 ·skip
  go_wp2_with fail;refine(ny b xs e.mod B wa HW.out.1 (by omega) (by omega) (HW.out.base hB)).mono ?_;rintro e' w1 ⟨v1,rfl,ho,hk,hs⟩;have HA:=V (HA.out.next ⟨ho,hk,hs⟩);have HW:=V (HW.out.step ⟨ho,hk,hs⟩);clear ho hk hs;go_wp2_with fail;refine⟨⟨HA.out.cell 0,HA.out.cell 1,HA.out.cell 2⟩,?_⟩;refine pL rfl rfl rfl rfl ?_ ?_
  ·skip
   go_wp2_with fail;refine(ny v1 _ e.name B w1 HW.out.1 (by simp only [ah];omega) (by omega) (HW.out.base hB)).mono ?_;rintro e' w2 ⟨v2,rfl,ho,hk,hs⟩;have HA:=V (HA.out.next ⟨ho,hk,hs⟩);have HW:=V (HW.out.step ⟨ho,hk,hs⟩);clear ho hk hs;go_wp2_with fail;refine⟨⟨HA.out.cell 0,HA.out.cell 1,HA.out.cell 2⟩,?_⟩;refine fW rfl rfl ?_;go_wp2_with fail;refine⟨⟨(HA.out.alloc _).cell 0,(HA.out.alloc _).cell 1,(HA.out.alloc _).cell 2⟩,?_⟩;refine fW rfl rfl ?_;go_wp2_with (first | (at_builtin;refine fm w2 rfl _ _ rfl rfl B v2 _ rfl HW.out.1 (0:UInt8) _ rfl rfl (by first | omega | (simp only [ah];omega) | (simp only [ah,aB];omega)) (HW.out.base hB) ?_));intro v3 w3 ho hk hs;have HA:=V (HA.out.next ⟨ho,hk,hs⟩);have HW:=V (HW.out.step ⟨ho,hk,hs⟩);clear ho hk hs;go_wp2_with fail;refine⟨⟨HA.out.cell 0,HA.out.cell 1,HA.out.cell 2⟩,?_⟩;refine fW rfl rfl ?_;go_wp2_with fail;refine(nJ e.type HM.out.2.2 v3 _ B w3 HW.out.1 (by simp only [ah,aB];omega) (HW.out.base hB)).mono ?_;rintro e' w9 ⟨v9,rfl,ho,hk,hs⟩;have HA:=V (HA.out.next ⟨ho,hk,hs⟩);have HW:=V (HW.out.step ⟨ho,hk,hs⟩);clear ho hk hs;go_wp2_with fail;refine⟨⟨HA.out.cell 0,HA.out.cell 1,HA.out.cell 2⟩,?_⟩;iterate 1 (first | (apply ord_skip rfl rfl;simp only [Act.put,aX,bE,bG]) | (apply iR rfl rfl rfl;·(rintro w' ⟨t0,t1,t2⟩;go_wp2;exact⟨rfl,rfl,rfl⟩)))
   refine nc ?_;refine aA ?_;go_wp2;go_ret;exact⟨_,rfl,by show Wr _ _ _ _ _ _;simpa [od,tk] using HW.out⟩
  ·go_wp2_with fail
   refine⟨⟨(HA.out.alloc _).cell 0,(HA.out.alloc _).cell 1,(HA.out.alloc _).cell 2⟩,?_⟩;have HY:=V (Aside.new HW.out.1 #[.int .u8 0] 5);have HW:=V (HW.out.alloc (.cells #[.int .u8 0] 5));have HA:=V (HA.out.alloc (.cells #[.int .u8 0] 5));refine fW rfl rfl ?_;go_wp2_with fail;refine(ny v1 _ e.name B _ HW.out.1 (by simp only [ah];omega) (by omega) (HW.out.base hB)).mono ?_;rintro e' w2 ⟨v2,rfl,ho,hk,hs⟩;have HY:=V (HY.out.next ⟨ho,hk,hs⟩);have HA:=V (HA.out.next ⟨ho,hk,hs⟩);have HW:=V (HW.out.step ⟨ho,hk,hs⟩);clear ho hk hs;go_wp2_with fail;refine⟨⟨HA.out.cell 0,HA.out.cell 1,HA.out.cell 2⟩,?_⟩;refine fW rfl rfl ?_;go_wp2_with (first | (at_builtin;refine ja w2 rfl _ _ rfl rfl B v2 _ rfl HW.out.1 _ [0] rfl (vZ HY.out.1) (by first | omega | (simp only [ah,aB];omega) | (simp only [ah,aD,aH];omega)) (HW.out.base hB) ?_));intro v3 w3 ho hk hs;have HA:=V (HA.out.next ⟨ho,hk,hs⟩);have HW:=V (HW.out.step ⟨ho,hk,hs⟩);clear ho hk hs;go_wp2_with fail;refine⟨⟨HA.out.cell 0,HA.out.cell 1,HA.out.cell 2⟩,?_⟩;refine fW rfl rfl ?_;go_wp2_with fail;refine(nJ e.type HM.out.2.2 v3 _ B w3 HW.out.1 (by simp only [ah,aB];omega) (HW.out.base hB)).mono ?_;rintro e' w9 ⟨v9,rfl,ho,hk,hs⟩;have HA:=V (HA.out.next ⟨ho,hk,hs⟩);have HW:=V (HW.out.step ⟨ho,hk,hs⟩);clear ho hk hs;go_wp2_with fail;refine⟨⟨HA.out.cell 0,HA.out.cell 1,HA.out.cell 2⟩,?_⟩;iterate 1 (first | (apply ord_skip rfl rfl;simp only [Act.put,aX,bE,bG]) | (apply iR rfl rfl rfl;·(rintro w' ⟨t0,t1,t2⟩;go_wp2;exact⟨rfl,rfl,rfl⟩)))
   refine nc ?_;refine aA ?_;go_wp2;go_ret;exact⟨_,rfl,by show Wr _ _ _ _ _ _;simpa [od,tk] using HW.out⟩
 ·go_wp2_with fail
  refine⟨⟨(HA.out.alloc _).cell 0,(HA.out.alloc _).cell 1,(HA.out.alloc _).cell 2⟩,?_⟩;have HY:=V (Aside.new HW.out.1 #[.int .u8 0] 5);have HW:=V (HW.out.alloc (.cells #[.int .u8 0] 5));have HA:=V (HA.out.alloc (.cells #[.int .u8 0] 5));refine fW rfl rfl ?_;go_wp2_with fail;refine(ny b xs e.mod B _ HW.out.1 (by omega) (by omega) (HW.out.base hB)).mono ?_;rintro e' w1 ⟨v1,rfl,ho,hk,hs⟩;have HY:=V (HY.out.next ⟨ho,hk,hs⟩);have HA:=V (HA.out.next ⟨ho,hk,hs⟩);have HW:=V (HW.out.step ⟨ho,hk,hs⟩);clear ho hk hs;go_wp2_with fail;refine⟨⟨HA.out.cell 0,HA.out.cell 1,HA.out.cell 2⟩,?_⟩;refine fW rfl rfl ?_;go_wp2_with fail;refine(ny v1 _ e.name B w1 HW.out.1 (by simp only [ah];omega) (by omega) (HW.out.base hB)).mono ?_;rintro e' w2 ⟨v2,rfl,ho,hk,hs⟩;have HY:=V (HY.out.next ⟨ho,hk,hs⟩);have HA:=V (HA.out.next ⟨ho,hk,hs⟩);have HW:=V (HW.out.step ⟨ho,hk,hs⟩);clear ho hk hs;go_wp2_with fail;refine⟨⟨HA.out.cell 0,HA.out.cell 1,HA.out.cell 2⟩,?_⟩;refine fW rfl rfl ?_;go_wp2_with (first | (at_builtin;refine ja w2 rfl _ _ rfl rfl B v2 _ rfl HW.out.1 _ [0] rfl (vZ HY.out.1) (by first | omega | (simp only [ah,aB];omega) | (simp only [ah,aD,aH];omega)) (HW.out.base hB) ?_));intro v3 w3 ho hk hs;have HA:=V (HA.out.next ⟨ho,hk,hs⟩);have HW:=V (HW.out.step ⟨ho,hk,hs⟩);clear ho hk hs;go_wp2_with fail;refine⟨⟨HA.out.cell 0,HA.out.cell 1,HA.out.cell 2⟩,?_⟩;refine fW rfl rfl ?_;go_wp2_with fail;refine(nJ e.type HM.out.2.2 v3 _ B w3 HW.out.1 (by simp only [ah,aB];omega) (HW.out.base hB)).mono ?_;rintro e' w9 ⟨v9,rfl,ho,hk,hs⟩;have HA:=V (HA.out.next ⟨ho,hk,hs⟩);have HW:=V (HW.out.step ⟨ho,hk,hs⟩);clear ho hk hs;go_wp2_with fail;refine⟨⟨HA.out.cell 0,HA.out.cell 1,HA.out.cell 2⟩,?_⟩;iterate 1 (first | (apply ord_skip rfl rfl;simp only [Act.put,aX,bE,bG]) | (apply iR rfl rfl rfl;·(rintro w' ⟨t0,t1,t2⟩;go_wp2;exact⟨rfl,rfl,rfl⟩)))
  refine nc ?_;refine aA ?_;go_wp2;go_ret;exact⟨_,rfl,by show Wr _ _ _ _ _ _;simpa [od,tk] using HW.out⟩
theorem eC.JE {w:World} {B:Nat} {v:Value} {xs:List UInt8} {x:UInt8} (h:eC w B v (xs++[x])):
  ∃g cap,v= .slice (some ⟨g,0,none⟩) (xs.length+1) cap/\xs.length+1 <=cap/\cap <=maxLen/\g < w.heap.size/\w.cell? ⟨g,xs.length,none⟩=some (bv x)/\w.frozen? ⟨g,xs.length,none⟩=false/\
   ∀y,eC (w.setCell ⟨g,xs.length,none⟩ (bv y)) B v (xs++[y]):=by
 have hb:=eC.gK h;obtain⟨hl,hv | ⟨g,cap,cur,hv,hB,hg,hn,hm,hs,ht⟩⟩:=h
 ·exact absurd hv.2 (by simp)
 ·have hlen:(xs++[x]).length=xs.length+1:=by simp
  rw [hlen]at hv hn;refine⟨g,cap,hv,hn,hm,(cm.1 hg).1,?_,dc w g _ cur _ hg,fun y=>?_⟩
  ·obtain⟨a,NK,he,_,_,hc⟩:=hb
   rw [hv]at he;injection he with e1 e2 e3;subst e1;obtain⟨b,off,No,NA⟩:=hc xs.length x (by simp);injection No with No;injection No with No NP;subst No NP;rw [bT]at NA;exact NA
  ·refine⟨by simp, .inr ⟨g,cap,cur.setIfInBounds xs.length (bv y),by rw [hv];simp,hB,heap_setCell_same w g _ cur _ _ hg,by simpa using hn,hm,by simpa using hs,?_⟩⟩
   rw [Array.toList_setIfInBounds,List.take_set];have ht2:cur.toList.take ((xs++[y]).length*1)=xs.map bv++[bv x]:=by
    rw [show(xs++[y]).length*1=(xs++[x]).length*1 by simp,ht];simp
   rw [ht2,List.set_append_right _ _ (by simp)];simp
theorem Ku (e:jY) (b:Value) (xs:List UInt8) (w:World) (B:Nat) (Nl:eC w B b xs) (hn:xs.length <=100000000) (hB:B <=w.heap.size) (hm:e.init.may) (ho:e.init.ok):
  Calls prog 179 #[b, .agg #[.bool e.isVar, .int .i64 e.init.kind, .int .i64 e.init.n]] w (iw xs (kS e) B b w):=by
 have HM:=V hm;have HO:=V ho;obtain⟨mu,k,n⟩:=e;simp only at HM HO⊢;clear hm ho;have HW:=V ((Wr.refl Nl).alloc (.cells #[.bool mu, .int .i64 k, .int .i64 n] 73));have HA:=V (Aside.new Nl #[.bool mu, .int .i64 k, .int .i64 n] 73);clear Nl;have c1:(w.alloc (.cells #[.bool mu, .int .i64 k, .int .i64 n] 73)).cell? ⟨w.heap.size,1,none⟩=some (.int .i64 k):=HA.out.cell 1;go_enter func179,ntmps179;go_wp2_with fail;refine(nS b xs k B _ HW.out.1 (by omega) (HW.out.base hB)).mono ?_;rintro e' w1 ⟨v1,rfl,ho,hk,hs⟩;have HA:=V (HA.out.next ⟨ho,hk,hs⟩);have HW:=V (HW.out.step ⟨ho,hk,hs⟩);clear ho hk hs c1;go_wp2_with (first | (at_builtin;refine fm w1 rfl _ _ rfl rfl B v1 _ rfl HW.out.1 (0:UInt8) _ rfl rfl (by simp only [ah,jo,aD,aH];omega) (HW.out.base hB) ?_));intro v2 w2 ho hk hs;have HA:=V (HA.out.next ⟨ho,hk,hs⟩);have HW:=V (HW.out.step ⟨ho,hk,hs⟩);clear ho hk hs;have c0:w2.cell? ⟨w.heap.size,0,none⟩=some (.bool mu):=HA.out.cell 0;obtain⟨L,hL⟩:∃L,xs++jo k=L:=⟨_,rfl⟩;have hLn:L.length <=100000001:=by rw [<- hL,ah];simp only [jo,aD,aH];omega
 have HG:Hid (xs++kS ⟨mu,⟨k,n⟩⟩=L++((if mu=true then 1 else 0)::mI ⟨k,n⟩)):=V (by rw [<- hL,kS,aL]);have HL:=V (show Wr w b B w2 v2 (L++[0])by rw [<- hL,aL];exact HW.out);clear hL;obtain⟨g,cap,rfl,NX,Px,hg,cl,fz,Q8⟩:=HL.out.1.JE;unfold maxLen at Px;have HSET:=V Q8;clear Q8;cases mu with
 | false=>
  have c1:w2.cell? ⟨w.heap.size,1,none⟩=some (.int .i64 k):=HA.out.cell 1;have c2:w2.cell? ⟨w.heap.size,2,none⟩=some (.int .i64 n):=HA.out.cell 2;go_wp2_with fail;refine(pa (.slice (some ⟨g,0,none⟩) (L.length+1) cap) _ ⟨k,n⟩ B w2 HL.out.1 (by simp only [ah,aB];omega) (HL.out.base hB) HM.out HO.out).mono ?_;rintro e' w9 ⟨v9,rfl,ho,hk,hs⟩;have HL9:=V (HL.out.step ⟨ho,hk,hs⟩);clear ho hk hs;go_wp2;go_ret;exact⟨_,rfl,by rw [HG.out];show Wr _ _ _ _ _ _;simpa using HL9.out⟩
 | true=>
  have ho:=HSET.out 1;have hk:ep (eO (.slice (some ⟨g,0,none⟩) (L.length+1) cap)) w2 (w2.setCell ⟨g,L.length,none⟩ (.int .u8 1)):=(show ep (fun k=>k=g) w2 (w2.setCell ⟨g,L.length,none⟩ (.int .u8 1))from⟨rfl,rfl,rfl,by simp,fun k _ hk=>cM w2 ⟨g,L.length,none⟩ (.int .u8 1) k hk⟩).mono (fun i hi=>by rw [hi];rfl);have hs:=eQ.refl w2 (.slice (some ⟨g,0,none⟩) (L.length+1) cap);have HA2:=V (HA.out.next ⟨ho,hk,hs⟩);have SZ:=V (HL.out.step ⟨ho,hk,hs⟩);have c1:(w2.setCell ⟨g,L.length,none⟩ (.int .u8 1)).cell? ⟨w.heap.size,1,none⟩=some (.int .i64 k):=HA2.out.cell 1;have c2:(w2.setCell ⟨g,L.length,none⟩ (.int .u8 1)).cell? ⟨w.heap.size,2,none⟩=some (.int .i64 n):=HA2.out.cell 2;clear ho hk hs;go_wp2_with fail;refine(pa (.slice (some ⟨g,0,none⟩) (L.length+1) cap) _ ⟨k,n⟩ B _ SZ.out.1 (by simp only [ah,aB];omega) (SZ.out.base hB) HM.out HO.out).mono ?_;rintro e' w9 ⟨v9,rfl,ho,hk,hs⟩;have HL9:=V (SZ.out.step ⟨ho,hk,hs⟩);clear ho hk hs;go_wp2;go_ret;exact⟨_,rfl,by rw [HG.out];show Wr _ _ _ _ _ _;simpa using HL9.out⟩
theorem Ky (p:gC ->Bool) (v:Value) (l:List gC) (w:World) (hl:eD 2 pU hI w v l) (Nq:Nat) (cs:Array Value)
  (hE:∀args w,(callFunc Nq args).run prog w= .ok (.enter Nq args) w)
  (hp:∀e∈l,∀u w',Below w.heap.size w w' ->hI w' e u ->Calls prog Nq (#[.agg #[u.1,u.2]]++cs) w' (eL (p e) w')):
  Calls prog 303 #[v, .func (.func Nq) #[] cs] w (kp p l w):=by
 have HP:=V hp;have HI:=V hl;obtain⟨a,cap,rfl,h1,h2⟩:=eD.slice hl;clear hl hp;go_enter func303,ntmps303;go_wp2_with fail;refine eR (fun a' w'=>∃(k:Nat),a'=fr (.slice a l.length cap:: .func (.func Nq) #[] cs::gs a' 2 5 (.int .i64 l.length:: .int .i64 k::gs a' 9 10 []))/\qP p l w w' k) (fun a' _=>(l.length - (intOf (a'.tmps.getD 8 undef)).toNat)) ?_ ?_
 ·exact⟨0,rfl,by omega,fun i hi=>by omega,an _ _⟩
 ·skip
  rintro R a' w1 ⟨k,Nm,hJ⟩ HR;dsimp only [fr,gs]at Nm;generalize slot a'=f at Nm;subst Nm;obtain⟨hk,hm,hb⟩:=hJ;have N1:=V hm;clear hm;by_cases N8:k < l.length;rotate_left
  ·obtain rfl:k=l.length:=by omega
   go_wp2;go_ret;exact⟨by rw [ia N1.out];rfl,hb⟩
  obtain⟨e,he⟩:∃e,l[k]?=some e:=⟨_,aq N8⟩;obtain⟨b,off,u,rfl,Nu,hc,hu⟩:=(eD.below HI.out (hb.mono (ag _)) (fun _ _ h=>h.below (hb.mono (ag _)))).get he;have Nv:=HP.out e (aN he) u w1 hb hu;obtain⟨u1,u2⟩:=u;obtain⟨⟨⟨a1,NI,OW,-,-,-⟩,⟨a2,Nr,OZ,-,-,-⟩⟩,-⟩:=id hu;simp only at OW OZ;subst OW OZ;have c0:=hc 0 _ rfl;have c1:=hc 1 _ rfl;rw [aJ]at c0;have HE:=V he;clear he hc hu;cases hq:p e
  all_goals
   rw [hq]at Nv;have HQ:=V hq;clear hq;go_wp2_with fail;refine Nv.mono ?_;rintro x w2 ⟨rfl,No⟩;replace hb:=ej hb No;clear Nv No c0 c1;go_wp2_with fail
  ·refine HR.out _ _ ⟨k+1,rfl,by omega,?_,hb⟩ ?_
   ·intro i hi d hd
    rcases bz i k with h | h
    ·exact N1.out i h d hd
    ·obtain rfl:i=k:=by omega
     rw [HE.out]at hd;injection hd with hd;rw [<- hd];exact HQ.out
   ·simp [intOf]
    omega
  ·go_ret
   exact⟨by rw [iF HE.out HQ.out N1.out];rfl,hb⟩
theorem ID (p:gC ->Bool) (v:Value) (l:List gC) (w:World) (hl:eD 2 pU hI w v l) (Nq:Nat) (cs:Array Value)
  (hE:∀args w,(callFunc Nq args).run prog w= .ok (.enter Nq args) w)
  (hp:∀e∈l,∀u w',Below w.heap.size w w' ->hI w' e u ->Calls prog Nq (#[.agg #[u.1,u.2]]++cs) w' (eL (p e) w')):
  Calls prog 257 #[v, .func (.func Nq) #[] cs] w (eL (l.any p) w):=by
 go_enter func257,ntmps257;go_wp2_with fail;refine(Ky p v l _ hl Nq cs hE hp).mono ?_;rintro x w2 ⟨rfl,hb⟩;clear hE;go_wp2;go_ret;exact⟨by rw [<- iQ];rfl,hb⟩
theorem Iy (b:Bool) (a1 a2:Option Addr) (n1 n2 c1 c2:Nat) (Nq:Nat) (cs:Array Value) (X:Nat) (w:World)
  (hE:∀args w,(callFunc Nq args).run prog w= .ok (.enter Nq args) w) (hX:w.cell? ⟨X,0,none⟩=some (.func (.func Nq) #[] cs))
  (hp:∀w',Below w.heap.size w w' ->Calls prog Nq (#[.agg #[.slice a1 n1 c1, .slice a2 n2 c2]]++cs) w' (eL b w')):
  Calls prog 258 #[.agg #[.slice a1 n1 c1, .slice a2 n2 c2], .pointer (some ⟨X,0,none⟩)] w (eL (!b) w):=by
 have Nu:=aO w _ hX;have HP:=V hp;clear hp;go_enter func258,ntmps258;go_wp2_with fail;refine(HP.out _ ((an _ _).alloc (ag _) _)).mono ?_;rintro x w2 ⟨rfl,hb⟩;clear hE hX;go_wp2;go_ret;exact⟨rfl,((an _ _).alloc (ag _) _).trans (hb.mono (by simp))⟩
theorem FU (p:gC ->Bool) (v:Value) (l:List gC) (w:World) (hl:eD 2 pU hI w v l) (Nq:Nat) (fD:Int)
  (hE:∀args w,(callFunc Nq args).run prog w= .ok (.enter Nq args) w)
  (hp:∀e∈l,∀u w',Below w.heap.size w w' ->hI w' e u ->Calls prog Nq #[.agg #[u.1,u.2]] w' (eL (p e) w')):
  Calls prog 150 #[v, .int .i64 fD, .func (.func Nq) #[] #[]] w (eL (decide ((l.length:Int) <=fD)&&l.all p) w):=by
 have HP:=V hp;obtain⟨a,cap,rfl,h1,h2⟩:∃a cap,v= .slice a l.length cap/\l.length <=cap/\cap <=9223372036854775807:=eD.slice hl;have HL:=V hl;clear hp hl;by_cases q:(l.length:Int) <=fD
 ·have f:decide ((l.length:Int) <=fD)=true:=ay q
  go_enter func150,ntmps150;go_wp2_with fail;refine bZ (ID (fun e=> !p e) _ l _ (eD.below HL.out ((an _ _).alloc (ag _) _) (fun _ _ h=>h.below ((an _ _).alloc (ag _) _))) 258 #[.pointer (some ⟨w.heap.size,0,none⟩)] (fun args w=>by rfl) ?_) ?_
  ·intro e he u w' hw' hu
   obtain⟨hX,hw⟩:=boxed hw';obtain⟨u1,u2⟩:=u;obtain⟨⟨⟨a1,NI,OW,-,-,-⟩,⟨a2,Nr,OZ,-,-,-⟩⟩,-⟩:=id hu;simp only at OW OZ;subst OW OZ;exact Iy (p e) _ _ _ _ _ _ Nq #[] _ w' hE hX (fun w2 h2=>by simpa using HP.out e he _ w2 (hw.trans (h2.mono hw.size)) (hu.below h2))
  rintro x w2 ⟨rfl,hb⟩;clear hE;have HF:=V f;clear f;have f:decide ((l.length:Int) <=fD)=true:=HF.out;go_wp2;go_ret;refine⟨?_,((an _ _).alloc (ag _) _).trans (hb.mono (by simp))⟩;have e1:l.all p= !(l.any fun e=> !p e):=by rw [bP];simp
  rw [f,e1,cn];rfl
 ·have f:decide ((l.length:Int) <=fD)=false:=aw q
  go_enter func150,ntmps150;go_wp2;go_ret;exact⟨by first | rfl | (rw [f];rfl),(an _ _).alloc (ag _) _⟩
theorem Jt (p:ij ->Bool) (v:Value) (l:List ij) (w:World) (hl:eD 2 pV gW w v l) (Nq:Nat) (cs:Array Value)
  (hE:∀args w,(callFunc Nq args).run prog w= .ok (.enter Nq args) w)
  (hp:∀e∈l,∀u w',Below w.heap.size w w' ->gW w' e u ->Calls prog Nq (#[.agg #[u.1,u.2]]++cs) w' (eL (p e) w')):
  Calls prog 255 #[v, .func (.func Nq) #[] cs] w (kp p l w):=by
 have HP:=V hp;have HI:=V hl;obtain⟨a,cap,rfl,h1,h2⟩:=eD.slice hl;clear hl hp;go_enter func255,ntmps255;go_wp2_with fail;refine eR (fun a' w'=>∃(k:Nat),a'=fr (.slice a l.length cap:: .func (.func Nq) #[] cs::gs a' 2 5 (.int .i64 l.length:: .int .i64 k::gs a' 9 10 []))/\qP p l w w' k) (fun a' _=>(l.length - (intOf (a'.tmps.getD 8 undef)).toNat)) ?_ ?_
 ·exact⟨0,rfl,by omega,fun i hi=>by omega,an _ _⟩
 ·skip
  rintro R a' w1 ⟨k,Nm,hJ⟩ HR;dsimp only [fr,gs]at Nm;generalize slot a'=f at Nm;subst Nm;obtain⟨hk,hm,hb⟩:=hJ;have N1:=V hm;clear hm;by_cases N8:k < l.length;rotate_left
  ·obtain rfl:k=l.length:=by omega
   go_wp2;go_ret;exact⟨by rw [ia N1.out];rfl,hb⟩
  obtain⟨e,he⟩:∃e,l[k]?=some e:=⟨_,aq N8⟩;obtain⟨b,off,u,rfl,Nu,hc,hu⟩:=(eD.below HI.out (hb.mono (ag _)) (fun _ _ h=>h.below (hb.mono (ag _)))).get he;have Nv:=HP.out e (aN he) u w1 hb hu;obtain⟨u1,u2⟩:=u;obtain⟨⟨⟨a1,NI,OW,-,-,-⟩,N3⟩,-⟩:=id hu;obtain⟨a2,Nr,OZ,-,-⟩:=eD.slice N3;simp only at OW OZ;subst OW OZ;clear N3;have c0:=hc 0 _ rfl;have c1:=hc 1 _ rfl;rw [aJ]at c0;have HE:=V he;clear he hc hu;cases hq:p e
  all_goals
   rw [hq]at Nv;have HQ:=V hq;clear hq;go_wp2_with fail;refine Nv.mono ?_;rintro x w2 ⟨rfl,No⟩;replace hb:=ej hb No;clear Nv No c0 c1;go_wp2_with fail
  ·refine HR.out _ _ ⟨k+1,rfl,by omega,?_,hb⟩ ?_
   ·intro i hi d hd
    rcases bz i k with h | h
    ·exact N1.out i h d hd
    ·obtain rfl:i=k:=by omega
     rw [HE.out]at hd;injection hd with hd;rw [<- hd];exact HQ.out
   ·simp [intOf]
    omega
  ·go_ret
   exact⟨by rw [iF HE.out HQ.out N1.out];rfl,hb⟩
theorem Gf (p:ij ->Bool) (v:Value) (l:List ij) (w:World) (hl:eD 2 pV gW w v l) (Nq:Nat) (cs:Array Value)
  (hE:∀args w,(callFunc Nq args).run prog w= .ok (.enter Nq args) w)
  (hp:∀e∈l,∀u w',Below w.heap.size w w' ->gW w' e u ->Calls prog Nq (#[.agg #[u.1,u.2]]++cs) w' (eL (p e) w')):
  Calls prog 141 #[v, .func (.func Nq) #[] cs] w (eL (l.any p) w):=by
 go_enter func141,ntmps141;go_wp2_with fail;refine(Jt p v l _ hl Nq cs hE hp).mono ?_;rintro x w2 ⟨rfl,hb⟩;clear hE;go_wp2;go_ret;exact⟨by rw [<- iQ];rfl,hb⟩
theorem He (b:Bool) (a1 a2:Option Addr) (n1 n2 c1 c2:Nat) (Nq:Nat) (cs:Array Value) (X:Nat) (w:World)
  (hE:∀args w,(callFunc Nq args).run prog w= .ok (.enter Nq args) w) (hX:w.cell? ⟨X,0,none⟩=some (.func (.func Nq) #[] cs))
  (hp:∀w',Below w.heap.size w w' ->Calls prog Nq (#[.agg #[.slice a1 n1 c1, .slice a2 n2 c2]]++cs) w' (eL b w')):
  Calls prog 142 #[.agg #[.slice a1 n1 c1, .slice a2 n2 c2], .pointer (some ⟨X,0,none⟩)] w (eL (!b) w):=by
 have Nu:=aO w _ hX;have HP:=V hp;clear hp;go_enter func142,ntmps142;go_wp2_with fail;refine(HP.out _ ((an _ _).alloc (ag _) _)).mono ?_;rintro x w2 ⟨rfl,hb⟩;clear hE hX;go_wp2;go_ret;exact⟨rfl,((an _ _).alloc (ag _) _).trans (hb.mono (by simp))⟩
theorem Iq (p:ij ->Bool) (v:Value) (l:List ij) (w:World) (hl:eD 2 pV gW w v l) (Nq:Nat) (fD:Int)
  (hE:∀args w,(callFunc Nq args).run prog w= .ok (.enter Nq args) w)
  (hp:∀e∈l,∀u w',Below w.heap.size w w' ->gW w' e u ->Calls prog Nq #[.agg #[u.1,u.2]] w' (eL (p e) w')):
  Calls prog 102 #[v, .int .i64 fD, .func (.func Nq) #[] #[]] w (eL (decide ((l.length:Int) <=fD)&&l.all p) w):=by
 have HP:=V hp;obtain⟨a,cap,rfl,h1,h2⟩:∃a cap,v= .slice a l.length cap/\l.length <=cap/\cap <=9223372036854775807:=eD.slice hl;have HL:=V hl;clear hp hl;by_cases q:(l.length:Int) <=fD
 ·have f:decide ((l.length:Int) <=fD)=true:=ay q
  go_enter func102,ntmps102;go_wp2_with fail;refine bZ (Gf (fun e=> !p e) _ l _ (eD.below HL.out ((an _ _).alloc (ag _) _) (fun _ _ h=>h.below ((an _ _).alloc (ag _) _))) 142 #[.pointer (some ⟨w.heap.size,0,none⟩)] (fun args w=>by rfl) ?_) ?_
  ·intro e he u w' hw' hu
   obtain⟨hX,hw⟩:=boxed hw';obtain⟨u1,u2⟩:=u;obtain⟨⟨⟨a1,NI,OW,-,-,-⟩,N3⟩,-⟩:=id hu;obtain⟨a2,Nr,OZ,-,-⟩:=eD.slice N3;simp only at OW OZ;subst OW OZ;clear N3;exact He (p e) _ _ _ _ _ _ Nq #[] _ w' hE hX (fun w2 h2=>by simpa using HP.out e he _ w2 (hw.trans (h2.mono hw.size)) (hu.below h2))
  rintro x w2 ⟨rfl,hb⟩;clear hE;have HF:=V f;clear f;have f:decide ((l.length:Int) <=fD)=true:=HF.out;go_wp2;go_ret;refine⟨?_,((an _ _).alloc (ag _) _).trans (hb.mono (by simp))⟩;have e1:l.all p= !(l.any fun e=> !p e):=by rw [bP];simp
  rw [f,e1,cn];rfl
 ·have f:decide ((l.length:Int) <=fD)=false:=aw q
  go_enter func102,ntmps102;go_wp2;go_ret;exact⟨by first | rfl | (rw [f];rfl),(an _ _).alloc (ag _) _⟩
theorem J3 (p:UInt8 ->Bool) (v:Value) (l:List UInt8) (w:World) (hl:eZ w v l) (Nq:Nat) (cs:Array Value)
  (hE:∀args w,(callFunc Nq args).run prog w= .ok (.enter Nq args) w)
  (hp:∀e∈l,∀w',Below w.heap.size w w' ->Calls prog Nq (#[bv e]++cs) w' (eL (p e) w')):
  Calls prog 313 #[v, .func (.func Nq) #[] cs] w (kp p l w):=by
 have HP:=V hp;have HI:=V hl;obtain⟨a,cap,rfl,h1,h2,_⟩:=id hl;unfold maxLen at h2;clear hl hp;go_enter func313,ntmps313;go_wp2_with fail;refine eR (fun a' w'=>∃(k:Nat),a'=fr (.slice a l.length cap:: .func (.func Nq) #[] cs::gs a' 2 5 (.int .i64 l.length:: .int .i64 k::gs a' 9 10 []))/\qP p l w w' k) (fun a' _=>(l.length - (intOf (a'.tmps.getD 8 undef)).toNat)) ?_ ?_
 ·exact⟨0,rfl,by omega,fun i hi=>by omega,an _ _⟩
 ·skip
  rintro R a' w1 ⟨k,Nm,hJ⟩ HR;dsimp only [fr,gs]at Nm;generalize slot a'=f at Nm;subst Nm;obtain⟨hk,hm,hb⟩:=hJ;have N1:=V hm;clear hm;by_cases N8:k < l.length;rotate_left
  ·obtain rfl:k=l.length:=by omega
   go_wp2;go_ret;exact⟨by rw [ia N1.out];rfl,hb⟩
  obtain⟨e,he⟩:∃e,l[k]?=some e:=⟨_,aq N8⟩;obtain⟨a',NK,hv,_,_,Nk⟩:=HI.out.below (hb.mono (ag _));injection hv with e1 e2 e3;subst e1 e3;obtain⟨b,off,rfl,c0⟩:=Nk k e he;have Nv:=HP.out e (aN he) w1 hb;have HE:=V he;clear Nk e2 he;cases hq:p e
  all_goals
   rw [hq]at Nv;have HQ:=V hq;clear hq;go_wp2_with fail;refine Nv.mono ?_;rintro x w2 ⟨rfl,No⟩;replace hb:=ej hb No;clear Nv No c0;go_wp2_with fail
  ·refine HR.out _ _ ⟨k+1,rfl,by omega,?_,hb⟩ ?_
   ·intro i hi d hd
    rcases bz i k with h | h
    ·exact N1.out i h d hd
    ·obtain rfl:i=k:=by omega
     rw [HE.out]at hd;injection hd with hd;rw [<- hd];exact HQ.out
   ·simp [intOf]
    omega
  ·go_ret
   exact⟨by rw [iF HE.out HQ.out N1.out];rfl,hb⟩
theorem Gj (p:UInt8 ->Bool) (v:Value) (l:List UInt8) (w:World) (hl:eZ w v l) (Nq:Nat) (cs:Array Value)
  (hE:∀args w,(callFunc Nq args).run prog w= .ok (.enter Nq args) w)
  (hp:∀e∈l,∀w',Below w.heap.size w w' ->Calls prog Nq (#[bv e]++cs) w' (eL (p e) w')):
  Calls prog 304 #[v, .func (.func Nq) #[] cs] w (eL (l.any p) w):=by
 go_enter func304,ntmps304;go_wp2_with fail;refine(J3 p v l _ hl Nq cs hE hp).mono ?_;rintro x w2 ⟨rfl,hb⟩;clear hE;go_wp2;go_ret;exact⟨by rw [<- iQ];rfl,hb⟩
theorem IB (b:Bool) (c:UInt8) (Nq:Nat) (cs:Array Value) (X:Nat) (w:World)
  (hE:∀args w,(callFunc Nq args).run prog w= .ok (.enter Nq args) w) (hX:w.cell? ⟨X,0,none⟩=some (.func (.func Nq) #[] cs))
  (hp:∀w',Below w.heap.size w w' ->Calls prog Nq (#[bv c]++cs) w' (eL b w')):
  Calls prog 305 #[bv c, .pointer (some ⟨X,0,none⟩)] w (eL (!b) w):=by
 have Nu:=aO w _ hX;have HP:=V hp;clear hp;go_enter func305,ntmps305;go_wp2_with fail;refine(HP.out _ (an _ _)).mono ?_;rintro x w2 ⟨rfl,hb⟩;clear hE hX;go_wp2;go_ret;exact⟨rfl,hb⟩
theorem Hk (p:UInt8 ->Bool) (v:Value) (l:List UInt8) (w:World) (hl:eZ w v l) (Nq:Nat) (fD:Int)
  (hE:∀args w,(callFunc Nq args).run prog w= .ok (.enter Nq args) w)
  (hp:∀e∈l,∀w',Below w.heap.size w w' ->Calls prog Nq #[bv e] w' (eL (p e) w')):
  Calls prog 260 #[v, .int .i64 fD, .func (.func Nq) #[] #[]] w (eL (decide ((l.length:Int) <=fD)&&l.all p) w):=by
 have HP:=V hp;obtain⟨a,cap,rfl,h1,h2⟩:∃a cap,v= .slice a l.length cap/\l.length <=cap/\cap <=9223372036854775807:=xA hl;have HL:=V hl;clear hp hl;by_cases q:(l.length:Int) <=fD
 ·have f:decide ((l.length:Int) <=fD)=true:=ay q
  go_enter func260,ntmps260;go_wp2_with fail;refine bZ (Gj (fun e=> !p e) _ l _ (HL.out.below ((an _ _).alloc (ag _) _)) 305 #[.pointer (some ⟨w.heap.size,0,none⟩)] (fun args w=>by rfl) ?_) ?_
  ·intro e he w' hw'
   obtain⟨hX,hw⟩:=boxed hw';exact IB (p e) _ Nq #[] _ w' hE hX (fun w2 h2=>by simpa using HP.out e he w2 (hw.trans (h2.mono hw.size)))
  rintro x w2 ⟨rfl,hb⟩;clear hE;have HF:=V f;clear f;have f:decide ((l.length:Int) <=fD)=true:=HF.out;go_wp2;go_ret;refine⟨?_,((an _ _).alloc (ag _) _).trans (hb.mono (by simp))⟩;have e1:l.all p= !(l.any fun e=> !p e):=by rw [bP];simp
  rw [f,e1,cn];rfl
 ·have f:decide ((l.length:Int) <=fD)=false:=aw q
  go_enter func260,ntmps260;go_wp2;go_ret;exact⟨by first | rfl | (rw [f];rfl),(an _ _).alloc (ag _) _⟩
def vx (n:Int):Bool:= !mE n 0 1000
theorem G4 (l:List Int):l.any vx=false↔∀n∈l,gh n:=by
 rw [dH]
 constructor
 ·intro h n hn
  have:=h n hn;simp only [vx,du,Bool.not_eq_false]at this;exact kb.1 (by simpa using this)
 ·intro h n hn
  have:=kb.2 (h n hn);simp [vx,this]
theorem xk (n:Int) (w:World):Calls prog 149 #[.int .i64 n] w (eL (vx n) w):=by
 go_enter func149,ntmps149;go_wp2_with fail;refine(nT n _).mono ?_;rintro x w1 ⟨rfl,hb⟩;go_wp2;go_ret;exact⟨rfl,hb⟩
theorem Be (v:Value) (l:List Int) (w:World) (hl:eA 1 fk w v l):
  Calls prog 112 #[v, .func (.func 149) #[] #[]] w (kp vx l w):=by
 have HI:=V hl;have hl':=hl;obtain⟨a,cap,rfl,h1,h2,_⟩:=hl';unfold maxLen at h2;clear hl;go_enter func112,ntmps112;go_wp2_with fail;refine eR (fun a' w'=>∃(k:Nat),a'=fr (.slice a l.length cap:: .func (.func 149) #[] #[]::gs a' 2 5 (.int .i64 l.length:: .int .i64 k::gs a' 9 10 []))/\qP vx l w w' k) (fun a' _=>(l.length - (intOf (a'.tmps.getD 8 undef)).toNat)) ?_ ?_
 ·exact⟨0,rfl,by omega,fun i hi=>by omega,an _ _⟩
 ·skip
  rintro R a' w1 ⟨k,Nm,hJ⟩ HR;dsimp only [fr,gs]at Nm;generalize slot a'=f at Nm;subst Nm;obtain⟨hk,hm,hb⟩:=hJ;have N1:=V hm;clear hm;by_cases N8:k < l.length;rotate_left
  ·obtain rfl:k=l.length:=by omega
   go_wp2;go_ret;exact⟨by rw [ia N1.out];rfl,hb⟩
  obtain⟨e,he⟩:∃e,l[k]?=some e:=⟨_,aq N8⟩;obtain⟨a',NK,hv,_,_,Nk⟩:=HI.out.below (hb.mono (ag _));injection hv with e1 e2 e3;subst e1 e3;obtain⟨b,off,rfl,Nu,hc⟩:=Nk k e he;have c0:=hc 0 _ rfl;rw [aJ,aW]at c0;have HE:=V he;clear Nk e2 he hc;have Nv:=xk e w1;cases hq:vx e
  all_goals
   rw [hq]at Nv;have HQ:=V hq;clear hq;go_wp2_with fail;refine Nv.mono ?_;rintro x w2 ⟨rfl,No⟩;replace hb:=ej hb No;clear Nv No;go_wp2_with fail
  ·refine HR.out _ _ ⟨k+1,rfl,by omega,?_,hb⟩ ?_
   ·intro i hi d hd
    rcases bz i k with h | h
    ·exact N1.out i h d hd
    ·obtain rfl:i=k:=by omega
     rw [HE.out]at hd;injection hd with hd;rw [<- hd];exact HQ.out
   ·simp [intOf]
    omega
  ·go_ret
   exact⟨by rw [iF HE.out HQ.out N1.out];rfl,hb⟩
theorem ze (v:Value) (l:List Int) (w:World) (hl:eA 1 fk w v l):
  Calls prog 75 #[v, .func (.func 149) #[] #[]] w (eL (l.any vx) w):=by
 go_enter func75,ntmps75;go_wp2_with fail;refine(Be v l _ hl).mono ?_;rintro x w2 ⟨rfl,hb⟩;go_wp2;go_ret;exact⟨by rw [<- iQ];rfl,hb⟩
def gQ (f:Nat) (a b:Int) (l:List Int):Bool:=
 if(f≠4/\0 < l.length)\/(f≠6/\b≠0)then false else
 match f with
 | 1=>decide (a=0)
 | 2=>mE a 0 2
 | 3=>mE a 0 1000
 | 4=>mE a 0 1000&&(decide (l.length <=50)&& !l.any vx)
 | 5=>mE a 0 1000
 | 6=>mE a 0 3&&mE b 0 4294967295
 | 7=>decide (a=0)
 | 8=>mE a (-2147483648) 2147483647
 | 9=>true
 | _=>false
theorem KY (x:fa):decide x.may=gQ (fU x.op) x.a x.b x.l:=by
 rw [dD,decide_eq_true_iff];have TC:=oO x.op;have hn:x.l=[]↔¬ 0 < x.l.length:=by rw [List.length_pos_iff];simp
 unfold fa.may gQ;generalize fU x.op=f at*;by_cases h:(f≠4/\0 < x.l.length)\/(f≠6/\x.b≠0)
 ·rw [aE h]
  rw [hn]
  constructor
  ·rintro⟨h1,h2,_⟩
   rcases h with⟨g1,g2⟩ | ⟨g1,g2⟩
   ·exact absurd g2 (h1 g1)
   ·exact absurd (h2 g1) g2
  ·intro g;cases g
 ·rw [az h]
  have h1:f≠4 ->x.l=[]:=fun g=>by rw [hn];exact fun k=>h (.inl ⟨g,k⟩)
  have h2:f≠6 ->x.b=0:=fun g=>by
   rcases Decidable.em (x.b=0)with k | k
   ·exact k
   ·exact absurd (.inr ⟨g,k⟩) h
  have hs:(x.l.any vx=false)↔∀n∈x.l,gh n:=G4 x.l;rcases(show f=0\/f=1\/f=2\/f=3\/f=4\/f=5\/f=6\/f=7\/f=8\/f=9 by omega)with rfl | rfl | rfl | rfl | rfl | rfl | rfl | rfl | rfl | rfl
  ·simp
  ·simp [h1,h2]
  ·simp [h1,h2,kb]
  ·simp [h1,h2,kb,gh]
  ·simp [h2,kb,hs,gh]
  ·simp [h1,h2,kb,gh]
  ·simp [h1,kb]
  ·simp [h1,h2]
  ·simp [h1,h2,kb]
  ·simp [h1,h2]
theorem yP (x:fa) (u:Value) (w:World) (hx:gY w x u):Calls prog 107 #[.agg #[.int .i64 x.op, .int .i64 x.a, .int .i64 x.b,u]] w (eL (decide x.may) w):=by
 have OJ:=KY x;have TC:=oO x.op;obtain⟨op,a,b,l⟩:=x;have hx':=hx;obtain⟨⟨au,Ns,rfl,h1,h2,-⟩,Nt⟩:=hx';obtain⟨⟨o1,o2⟩,⟨a1,a2⟩,⟨b1,b2⟩,-⟩:=Nt;unfold maxLen at h2;simp only at OJ TC h1 h2 o1 o2 a1 a2 b1 b2;obtain⟨f,hf⟩:∃f,fU op=f:=⟨_,rfl⟩;obtain⟨m,hm⟩:∃m,decide (fa.may ⟨op,a,b,l⟩)=m:=⟨_,rfl⟩;rw [hf]at OJ TC;rw [hm]at OJ;have HX:=V hx.1;have HF:=V hf;have HM:=V hm;have HB:=V OJ;clear hx hf hm OJ;go_enter func107,ntmps107;go_wp2_with fail;refine(uQ op _).mono ?_;rintro e w1 ⟨rfl,Nx⟩;rw [HF.out];have hb:Below w.heap.size w w1:=((an _ _).alloc (ag _) _).trans (Nx.mono (by simp));have Nk:∀i v,(#[Value.int .i64 op, .int .i64 a, .int .i64 b, .slice au l.length Ns])[i]?=some v ->w1.cell? ⟨w.heap.size,i,none⟩=some v:=fun i v h=>by
  rw [Nx.cell (by simp),bL];exact h
 have c1:=Nk 1 _ rfl;have c2:=Nk 2 _ rfl;have c3:=Nk 3 _ rfl;have HX1:=V (HX.out.below hb);clear Nk Nx;rcases(show f=0\/f=1\/f=2\/f=3\/f=4\/f=5\/f=6\/f=7\/f=8\/f=9 by omega)with rfl | rfl | rfl | rfl | rfl | rfl | rfl | rfl | rfl | rfl
 ·skip
  rcases bq l.length with q | q;rotate_left
  ·have q':¬ l=[]:=fun e=>by rw [e]at q;exact absurd q (by decide)
   have NM:Hid (gQ 0 a b l=false):=V (by unfold gQ;rw [if_pos (.inl ⟨by decide,q⟩)]);go_wp2;go_ret;exact⟨by rw [HM.out,HB.out,NM.out];rfl,hb⟩
  obtain rfl:=aI q;clear q;by_cases r:b=0;rotate_left
  ·have r':(b !=0)=true:=fB r
   have NM:Hid (gQ 0 a b []=false):=V (by unfold gQ;rw [if_pos (.inr ⟨by decide,r⟩)]);clear r;go_wp2;go_ret;exact⟨by rw [HM.out,HB.out,NM.out];rfl,hb⟩
  subst r;have NM:Hid (gQ 0 a 0 []=false):=V (by unfold gQ;exact(if_neg (by simp)).trans rfl);go_wp2;go_ret;exact⟨by rw [HM.out,HB.out,NM.out];rfl,hb⟩
 ·skip
  rcases bq l.length with q | q;rotate_left
  ·have q':¬ l=[]:=fun e=>by rw [e]at q;exact absurd q (by decide)
   have NM:Hid (gQ 1 a b l=false):=V (by unfold gQ;rw [if_pos (.inl ⟨by decide,q⟩)]);go_wp2;go_ret;exact⟨by rw [HM.out,HB.out,NM.out];rfl,hb⟩
  obtain rfl:=aI q;clear q;by_cases r:b=0;rotate_left
  ·have r':(b !=0)=true:=fB r
   have NM:Hid (gQ 1 a b []=false):=V (by unfold gQ;rw [if_pos (.inr ⟨by decide,r⟩)]);clear r;go_wp2;go_ret;exact⟨by rw [HM.out,HB.out,NM.out];rfl,hb⟩
  subst r;have NM:Hid (gQ 1 a 0 []=decide (a=0)):=V (by unfold gQ;exact(if_neg (by simp)).trans rfl);by_cases r:a=0
  ·have r':(a==0)=true:=eV r
   have NM:Hid (gQ 1 a 0 []=true):=V (by rw [NM.out,r];rfl);clear r;go_wp2;go_ret;exact⟨by rw [HM.out,HB.out,NM.out];rfl,hb⟩
  ·have r':(a==0)=false:=eh r
   have NM:Hid (gQ 1 a 0 []=false):=V (by rw [NM.out];exact aw r);clear r;go_wp2;go_ret;exact⟨by rw [HM.out,HB.out,NM.out];rfl,hb⟩
 ·skip
  rcases bq l.length with q | q;rotate_left
  ·have q':¬ l=[]:=fun e=>by rw [e]at q;exact absurd q (by decide)
   have NM:Hid (gQ 2 a b l=false):=V (by unfold gQ;rw [if_pos (.inl ⟨by decide,q⟩)]);go_wp2;go_ret;exact⟨by rw [HM.out,HB.out,NM.out];rfl,hb⟩
  obtain rfl:=aI q;clear q;by_cases r:b=0;rotate_left
  ·have r':(b !=0)=true:=fB r
   have NM:Hid (gQ 2 a b []=false):=V (by unfold gQ;rw [if_pos (.inr ⟨by decide,r⟩)]);clear r;go_wp2;go_ret;exact⟨by rw [HM.out,HB.out,NM.out];rfl,hb⟩
  subst r;have NM:Hid (gQ 2 a 0 []=mE a 0 2):=V (by unfold gQ;exact(if_neg (by simp)).trans rfl);go_wp2_with fail;refine(kE a 0 2 _).mono ?_;rintro e w2 ⟨rfl,No⟩;replace hb:=ej hb No;clear No;go_wp2;go_ret;exact⟨by rw [HM.out,HB.out,NM.out];rfl,hb⟩
 ·skip
  rcases bq l.length with q | q;rotate_left
  ·have q':¬ l=[]:=fun e=>by rw [e]at q;exact absurd q (by decide)
   have NM:Hid (gQ 3 a b l=false):=V (by unfold gQ;rw [if_pos (.inl ⟨by decide,q⟩)]);go_wp2;go_ret;exact⟨by rw [HM.out,HB.out,NM.out];rfl,hb⟩
  obtain rfl:=aI q;clear q;by_cases r:b=0;rotate_left
  ·have r':(b !=0)=true:=fB r
   have NM:Hid (gQ 3 a b []=false):=V (by unfold gQ;rw [if_pos (.inr ⟨by decide,r⟩)]);clear r;go_wp2;go_ret;exact⟨by rw [HM.out,HB.out,NM.out];rfl,hb⟩
  subst r;have NM:Hid (gQ 3 a 0 []=mE a 0 1000):=V (by unfold gQ;exact(if_neg (by simp)).trans rfl);go_wp2_with fail;refine(nT a _).mono ?_;rintro e w2 ⟨rfl,No⟩;replace hb:=ej hb No;clear No;go_wp2;go_ret;exact⟨by rw [HM.out,HB.out,NM.out];rfl,hb⟩
 ·skip
  by_cases r:b=0;rotate_left
  ·have r':(b !=0)=true:=fB r
   have NM:Hid (gQ 4 a b l=false):=V (by unfold gQ;rw [if_pos (.inr ⟨by decide,r⟩)]);clear r;go_wp2;go_ret;exact⟨by rw [HM.out,HB.out,NM.out];rfl,hb⟩
  subst r;have NM:Hid (gQ 4 a 0 l=(mE a 0 1000&&(decide (l.length <=50)&& !l.any vx))):=V (by unfold gQ;exact(if_neg (by simp)).trans rfl);go_wp2_with fail;refine(nT a _).mono ?_;rintro e w2 ⟨rfl,No⟩;have c3':=(No.cell (aO w1 _ c3)).trans c3;clear c1 c2 c3;cases h6:mE a 0 1000
  ·have H6:=V h6
   replace hb:=hb.trans (No.mono hb.size);clear h6 No c3';go_wp2;go_ret;exact⟨by rw [HM.out,HB.out,NM.out,H6.out];rfl,hb⟩
  have H6:=V h6;clear h6;by_cases q:l.length <=50
  ·have q1:decide ((l.length:Int) <=50)=true:=ay (by omega)
   have Q:=V (ay q);clear q;go_wp2_with fail;refine(ze _ l _ (HX1.out.below (No.mono (ag _)))).mono ?_;rintro e w3 ⟨rfl,NP⟩;replace hb:=(hb.trans (No.mono hb.size)).trans (NP.mono (hb.trans (No.mono hb.size)).size);clear No NP c3' q1;go_wp2;go_ret;exact⟨by rw [HM.out,HB.out,NM.out,H6.out,Q.out,cn,cn];rfl,hb⟩
  ·have q1:decide ((l.length:Int) <=50)=false:=aw (by omega)
   have Q:=V (aw q);replace hb:=hb.trans (No.mono hb.size);clear q No;go_wp2;go_ret;exact⟨by rw [HM.out,HB.out,NM.out,H6.out,Q.out];rfl,hb⟩
 ·skip
  rcases bq l.length with q | q;rotate_left
  ·have q':¬ l=[]:=fun e=>by rw [e]at q;exact absurd q (by decide)
   have NM:Hid (gQ 5 a b l=false):=V (by unfold gQ;rw [if_pos (.inl ⟨by decide,q⟩)]);go_wp2;go_ret;exact⟨by rw [HM.out,HB.out,NM.out];rfl,hb⟩
  obtain rfl:=aI q;clear q;by_cases r:b=0;rotate_left
  ·have r':(b !=0)=true:=fB r
   have NM:Hid (gQ 5 a b []=false):=V (by unfold gQ;rw [if_pos (.inr ⟨by decide,r⟩)]);clear r;go_wp2;go_ret;exact⟨by rw [HM.out,HB.out,NM.out];rfl,hb⟩
  subst r;have NM:Hid (gQ 5 a 0 []=mE a 0 1000):=V (by unfold gQ;exact(if_neg (by simp)).trans rfl);go_wp2_with fail;refine(nT a _).mono ?_;rintro e w2 ⟨rfl,No⟩;replace hb:=ej hb No;clear No;go_wp2;go_ret;exact⟨by rw [HM.out,HB.out,NM.out];rfl,hb⟩
 ·skip
  rcases bq l.length with q | q;rotate_left
  ·have q':¬ l=[]:=fun e=>by rw [e]at q;exact absurd q (by decide)
   have NM:Hid (gQ 6 a b l=false):=V (by unfold gQ;rw [if_pos (.inl ⟨by decide,q⟩)]);go_wp2;go_ret;exact⟨by rw [HM.out,HB.out,NM.out];rfl,hb⟩
  obtain rfl:=aI q;clear q;have NM:Hid (gQ 6 a b []=(mE a 0 3&&mE b 0 4294967295)):=V (by unfold gQ;exact(if_neg (by simp)).trans rfl);go_wp2_with fail;refine(kE a 0 3 _).mono ?_;rintro e w2 ⟨rfl,No⟩;have c2':=(No.cell (aO w1 _ c2)).trans c2;clear c1 c2 c3;cases h6:mE a 0 3
  ·have H6:=V h6
   replace hb:=hb.trans (No.mono hb.size);clear h6 No c2';go_wp2;go_ret;exact⟨by rw [HM.out,HB.out,NM.out,H6.out];rfl,hb⟩
  have H6:=V h6;clear h6;go_wp2_with fail;refine(kE b 0 4294967295 _).mono ?_;rintro e w3 ⟨rfl,NP⟩;replace hb:=(hb.trans (No.mono hb.size)).trans (NP.mono (hb.trans (No.mono hb.size)).size);clear No NP c2';go_wp2;go_ret;exact⟨by rw [HM.out,HB.out,NM.out,H6.out,cn];rfl,hb⟩
 ·skip
  rcases bq l.length with q | q;rotate_left
  ·have q':¬ l=[]:=fun e=>by rw [e]at q;exact absurd q (by decide)
   have NM:Hid (gQ 7 a b l=false):=V (by unfold gQ;rw [if_pos (.inl ⟨by decide,q⟩)]);go_wp2;go_ret;exact⟨by rw [HM.out,HB.out,NM.out];rfl,hb⟩
  obtain rfl:=aI q;clear q;by_cases r:b=0;rotate_left
  ·have r':(b !=0)=true:=fB r
   have NM:Hid (gQ 7 a b []=false):=V (by unfold gQ;rw [if_pos (.inr ⟨by decide,r⟩)]);clear r;go_wp2;go_ret;exact⟨by rw [HM.out,HB.out,NM.out];rfl,hb⟩
  subst r;have NM:Hid (gQ 7 a 0 []=decide (a=0)):=V (by unfold gQ;exact(if_neg (by simp)).trans rfl);by_cases r:a=0
  ·have r':(a==0)=true:=eV r
   have NM:Hid (gQ 7 a 0 []=true):=V (by rw [NM.out,r];rfl);clear r;go_wp2;go_ret;exact⟨by rw [HM.out,HB.out,NM.out];rfl,hb⟩
  ·have r':(a==0)=false:=eh r
   have NM:Hid (gQ 7 a 0 []=false):=V (by rw [NM.out];exact aw r);clear r;go_wp2;go_ret;exact⟨by rw [HM.out,HB.out,NM.out];rfl,hb⟩
 ·skip
  rcases bq l.length with q | q;rotate_left
  ·have q':¬ l=[]:=fun e=>by rw [e]at q;exact absurd q (by decide)
   have NM:Hid (gQ 8 a b l=false):=V (by unfold gQ;rw [if_pos (.inl ⟨by decide,q⟩)]);go_wp2;go_ret;exact⟨by rw [HM.out,HB.out,NM.out];rfl,hb⟩
  obtain rfl:=aI q;clear q;by_cases r:b=0;rotate_left
  ·have r':(b !=0)=true:=fB r
   have NM:Hid (gQ 8 a b []=false):=V (by unfold gQ;rw [if_pos (.inr ⟨by decide,r⟩)]);clear r;go_wp2;go_ret;exact⟨by rw [HM.out,HB.out,NM.out];rfl,hb⟩
  subst r;have NM:Hid (gQ 8 a 0 []=mE a (-2147483648) 2147483647):=V (by unfold gQ;exact(if_neg (by simp)).trans rfl);go_wp2_with fail;refine(kE a (-2147483648) 2147483647 _).mono ?_;rintro e w2 ⟨rfl,No⟩;replace hb:=ej hb No;clear No;go_wp2;go_ret;exact⟨by rw [HM.out,HB.out,NM.out];rfl,hb⟩
 ·skip
  rcases bq l.length with q | q;rotate_left
  ·have q':¬ l=[]:=fun e=>by rw [e]at q;exact absurd q (by decide)
   have NM:Hid (gQ 9 a b l=false):=V (by unfold gQ;rw [if_pos (.inl ⟨by decide,q⟩)]);go_wp2;go_ret;exact⟨by rw [HM.out,HB.out,NM.out];rfl,hb⟩
  obtain rfl:=aI q;clear q;by_cases r:b=0;rotate_left
  ·have r':(b !=0)=true:=fB r
   have NM:Hid (gQ 9 a b []=false):=V (by unfold gQ;rw [if_pos (.inr ⟨by decide,r⟩)]);clear r;go_wp2;go_ret;exact⟨by rw [HM.out,HB.out,NM.out];rfl,hb⟩
  subst r;have NM:Hid (gQ 9 a 0 []=true):=V (by unfold gQ;exact(if_neg (by simp)).trans rfl);go_wp2;go_ret;exact⟨by rw [HM.out,HB.out,NM.out];rfl,hb⟩
theorem lF {α:Type} (p:α ->Prop) [DecidablePred p] (l:List α) (n:Int):(decide ((l.length:Int) <=n)&&l.all fun x=>decide (p x))=decide ((l.length:Int) <=n/\∀x∈l,p x):=by
 rw [dD];simp
theorem rP (n:Int) (w:World):Calls prog 155 #[.int .i64 n] w (eL (decide (gh n)) w):=by
 by_cases q1:0 <=n
 ·have f1:decide (0 <=n)=true:=ay q1
  have HB:Hid (decide (gh n)=decide (n <=1000)):=V (by simp [gh,q1]);clear q1;go_enter func155,ntmps155;go_wp2;go_ret;exact⟨by rw [HB.out];rfl,an _ _⟩
 ·have f1:decide (0 <=n)=false:=aw q1
  have HB:Hid (decide (gh n)=false):=V (by simp [gh,q1]);clear q1;go_enter func155,ntmps155;go_wp2;go_ret;exact⟨by rw [HB.out];rfl,an _ _⟩
theorem E0 (n:Int) (w:World):Calls prog 105 #[.int .i64 n] w (eL (decide (kindOk n)) w):=by
 by_cases q1:n=1
 ·have HB:Hid (decide (kindOk n)=true):=V (by simp [kindOk,q1])
  have f1:=eV q1;clear q1;go_enter func105,ntmps105;go_wp2;go_ret;exact⟨by rw [HB.out];rfl,an _ _⟩
 ·have f1:=eh q1
  have HB:Hid (decide (kindOk n)=(n==2)):=V (by simp only [kindOk,q1,false_or];rw [dD];simp);clear q1;go_enter func105,ntmps105;go_wp2;go_ret;exact⟨by rw [HB.out];rfl,an _ _⟩
theorem zR (n:Int) (w:World):Calls prog 162 #[.int .i64 n] w (eL (decide (mN n)) w):=by
 by_cases q1: -2147483648 <=n
 ·have f1:decide (-2147483648 <=n)=true:=ay q1
  have HB:Hid (decide (mN n)=decide (n <=2147483647)):=V (by simp [mN,q1]);clear q1;go_enter func162,ntmps162;go_wp2;go_ret;exact⟨by rw [HB.out];rfl,an _ _⟩
 ·have f1:decide (-2147483648 <=n)=false:=aw q1
  have HB:Hid (decide (mN n)=false):=V (by simp only [mN,q1,false_and];rfl);clear q1;go_enter func162,ntmps162;go_wp2;go_ret;exact⟨by rw [HB.out];rfl,an _ _⟩
theorem Bm (c:UInt8) (w:World):Calls prog 261 #[bv c] w (eL (decide (32 <=c.toNat/\c.toNat <=126)) w):=by
 by_cases q1:32 <=c.toNat
 ·have f1:decide ((32:Int) <=c.toNat)=true:=ay (by omega)
  have HB:Hid (decide (32 <=c.toNat/\c.toNat <=126)=decide ((c.toNat:Int) <=126)):=V (by rw [dD];simp [q1];omega);clear q1;go_enter func261,ntmps261;go_wp2;go_ret;exact⟨by rw [HB.out];rfl,an _ _⟩
 ·have f1:decide ((32:Int) <=c.toNat)=false:=aw (by omega)
  have HB:Hid (decide (32 <=c.toNat/\c.toNat <=126)=false):=V (by simp [q1]);clear q1;go_enter func261,ntmps261;go_wp2;go_ret;exact⟨by rw [HB.out];rfl,an _ _⟩
theorem pw (v:Value) (l:List Int) (n:Int) (w:World) (hl:eA 1 fk w v l):Calls prog 104 #[v, .int .i64 n, .func (.func 105) #[] #[]] w (eL (decide ((l.length:Int) <=n/\∀k∈l,kindOk k)) w):=by
 rw [<- lF];exact vM (fun k=>decide (kindOk k)) v l w hl 105 n (fun _ _=>by rfl) (fun e _ w' _=>E0 e w')
theorem qR (v:Value) (l:List Int) (n:Int) (w:World) (hl:eA 1 fk w v l):Calls prog 104 #[v, .int .i64 n, .func (.func 155) #[] #[]] w (eL (decide ((l.length:Int) <=n/\∀k∈l,gh k)) w):=by
 rw [<- lF];exact vM (fun k=>decide (gh k)) v l w hl 155 n (fun _ _=>by rfl) (fun e _ w' _=>rP e w')
theorem xd (v:Value) (l:List fa) (n:Int) (w:World) (hl:gN w v l):Calls prog 106 #[v, .int .i64 n, .func (.func 107) #[] #[]] w (eL (decide ((l.length:Int) <=n/\∀y∈l,y.may)) w):=by
 rw [<- lF];exact Gz (fun y=>decide y.may) v l w hl 107 n (fun _ _=>by rfl) (fun e _ u w' _ hu=>yP e u w' hu)
theorem Jc (e:gC) (u:Value × Value) (w:World) (hu:hI w e u):Calls prog 151 #[.agg #[u.1,u.2]] w (eL (decide e.may) w):=by
 obtain⟨u1,u2⟩:=u;have HU:=V hu;obtain⟨⟨⟨a1,NI,OW,-,-,-⟩,⟨a2,Nr,OZ,-,-,-⟩⟩,-⟩:=id hu;simp only at OW OZ;subst OW OZ;have HM:Hid (decide e.may=(decide ((e.params.length:Int) <=32/\∀k∈e.params,kindOk k)&&decide ((e.results.length:Int) <=1/\∀k∈e.results,kindOk k))):=V (by rw [<- cJ];exact dh.2 (and_congr (dS (by omega)) (dS (by omega))));have B0:=eS.new w #[.slice a1 e.params.length NI, .slice a2 e.results.length Nr] 69;have h0:Below w.heap.size w (w.alloc (.cells #[.slice a1 e.params.length NI, .slice a2 e.results.length Nr] 69)):=(an _ _).alloc (ag _) _;clear hu;go_enter func151,ntmps151;go_wp2_with fail;refine(pw _ e.params 32 _ (HU.out.1.1.below h0)).mono ?_;rintro x w2 ⟨rfl,hb⟩;obtain⟨r1,hr⟩:∃r,decide ((e.params.length:Int) <=32/\∀k∈e.params,kindOk k)=r:=⟨_,rfl⟩;rw [hr];have R1:=V hr;clear hr;have B1:=B0.below hb B0.lt;have h1:=h0.trans (hb.mono h0.size);have c1:w2.cell? ⟨w.heap.size,1,none⟩=some (.slice a2 e.results.length Nr):=B1.cell 1;cases r1
 ·go_wp2
  go_ret;exact⟨by rw [HM.out,R1.out];rfl,h1⟩
 ·go_wp2_with fail
  refine(pw _ e.results 1 _ (HU.out.1.2.below h1)).mono ?_;rintro x w3 ⟨rfl,hb⟩;obtain⟨r2,hr⟩:∃r,decide ((e.results.length:Int) <=1/\∀k∈e.results,kindOk k)=r:=⟨_,rfl⟩;rw [hr];have R2:=V hr;clear hr;go_wp2;go_ret;exact⟨by rw [HM.out,R1.out,R2.out];rfl,h1.trans (hb.mono h1.size)⟩
theorem sX (s:ByteArray) (w:World) (hs:s.size <=1000000000000):Calls prog 154 #[.string s] w (eL (decide (kr s)) w):=by
 have hse:s.toList=s.data.toList:=by
  have:=lP s.data.toList;exact this
 have kc:=fun(w:World)=>Fq w s;by_cases q:s.data.toList=[]
 ·have f:s.toList.isEmpty=true:=by rw [hse,q];rfl
  have HB:Hid (decide (kr s)=false):=V (by simp [kr,q]);clear hse q;go_enter func154,ntmps154;go_wp2;go_ret;exact⟨by rw [HB.out];rfl,an _ _⟩
 ·have f:s.toList.isEmpty=false:=by
   rw [hse];cases h:s.data.toList with
   | nil=>exact absurd h q
   | cons x l=>rfl
  have HB:Hid (decide (kr s)=decide ((s.data.toList.length:Int) <=16/\∀c∈s.data.toList,32 <=c.toNat/\c.toNat <=126)):=V (dh.2 ⟨fun h=>⟨by have:=h.2.1;omega,h.2.2⟩,fun h=>⟨q,by have:=h.1;omega,h.2⟩⟩);clear hse q;go_enter func154,ntmps154;go_wp2_with fail;refine(Hk (fun c=>decide (32 <=c.toNat/\c.toNat <=126)) _ s.data.toList _ (Kc w s hs) 261 16 (fun _ _=>by rfl) (fun e _ w' _=>Bm e w')).mono ?_;rintro x w2 ⟨rfl,hb⟩;obtain⟨r1,hr⟩:∃r,(decide ((s.data.toList.length:Int) <=16)&&s.data.toList.all fun c=>decide (32 <=c.toNat/\c.toNat <=126))=r:=⟨_,rfl⟩;rw [hr];have R1:=V hr;clear hr;go_wp2;go_ret;exact⟨by rw [HB.out, <- lF,R1.out];rfl,(uM w s).trans (hb.mono (uM w s).size)⟩
theorem Im (e:kj) (w:World) (hs:e.mod.size <=1000000000000/\e.name.size <=1000000000000):Calls prog 153 #[.agg #[.string e.mod, .string e.name, .int .i64 e.type]] w (eL (decide e.may) w):=by
 have HM:Hid (decide e.may=(decide (kr e.mod)&&(decide (kr e.name)&&decide (gh e.type)))):=V (by rw [<- cJ, <- cJ];rfl);have B0:=eS.new w #[.string e.mod, .string e.name, .int .i64 e.type] 71;have h0:Below w.heap.size w (w.alloc (.cells #[.string e.mod, .string e.name, .int .i64 e.type] 71)):=(an _ _).alloc (ag _) _;go_enter func153,ntmps153;go_wp2_with fail;refine(sX e.mod _ hs.1).mono ?_;rintro x w2 ⟨rfl,hb⟩;obtain⟨r1,hr⟩:∃r,decide (kr e.mod)=r:=⟨_,rfl⟩;rw [hr];have R1:=V hr;clear hr;have B1:=B0.below hb B0.lt;have h1:=h0.trans (hb.mono h0.size);have c1:w2.cell? ⟨w.heap.size,1,none⟩=some (.string e.name):=B1.cell 1;cases r1
 ·go_wp2
  go_ret;exact⟨by rw [HM.out,R1.out];rfl,h1⟩
 ·go_wp2_with fail
  refine(sX e.name _ hs.2).mono ?_;rintro x w3 ⟨rfl,hb⟩;obtain⟨r2,hr⟩:∃r,decide (kr e.name)=r:=⟨_,rfl⟩;rw [hr];have R2:=V hr;clear hr;have B2:=B1.below hb B1.lt;have h2:=h1.trans (hb.mono h1.size);have c2:w3.cell? ⟨w.heap.size,2,none⟩=some (.int .i64 e.type):=B2.cell 2;cases r2
  ·go_wp2
   go_ret;exact⟨by rw [HM.out,R1.out,R2.out];rfl,h2⟩
  ·go_wp2_with fail
   refine(rP e.type _).mono ?_;rintro x w4 ⟨rfl,hb⟩;obtain⟨r3,hr⟩:∃r,decide (gh e.type)=r:=⟨_,rfl⟩;rw [hr];have R3:=V hr;clear hr;go_wp2;go_ret;exact⟨by rw [HM.out,R1.out,R2.out,R3.out];rfl,h2.trans (hb.mono h2.size)⟩
theorem Jd (e:jY) (w:World):Calls prog 157 #[.agg #[.bool e.isVar, .int .i64 e.init.kind, .int .i64 e.init.n]] w (eL (decide e.init.may) w):=by
 have B0:=eS.new w #[.bool e.isVar, .int .i64 e.init.kind, .int .i64 e.init.n] 73;have h0:Below w.heap.size w (w.alloc (.cells #[.bool e.isVar, .int .i64 e.init.kind, .int .i64 e.init.n] 73)):=(an _ _).alloc (ag _) _;go_enter func157,ntmps157;go_wp2_with fail;refine(mH e.init _).mono ?_;rintro x w2 ⟨rfl,hb⟩;obtain⟨r1,hr⟩:∃r,decide e.init.may=r:=⟨_,rfl⟩;rw [hr];have R1:=V hr;clear hr;go_wp2;go_ret;exact⟨by rw [R1.out];rfl,h0.trans (hb.mono h0.size)⟩
theorem GP (e:jr) (w:World) (hs:e.name.size <=1000000000000):Calls prog 159 #[.agg #[.string e.name, .int .i64 e.func]] w (eL (decide e.may) w):=by
 have HM:Hid (decide e.may=(decide (kr e.name)&&decide (gh e.func))):=V (by rw [<- cJ];rfl);have B0:=eS.new w #[.string e.name, .int .i64 e.func] 75;have h0:Below w.heap.size w (w.alloc (.cells #[.string e.name, .int .i64 e.func] 75)):=(an _ _).alloc (ag _) _;go_enter func159,ntmps159;go_wp2_with fail;refine(sX e.name _ hs).mono ?_;rintro x w2 ⟨rfl,hb⟩;obtain⟨r1,hr⟩:∃r,decide (kr e.name)=r:=⟨_,rfl⟩;rw [hr];have R1:=V hr;clear hr;have B1:=B0.below hb B0.lt;have h1:=h0.trans (hb.mono h0.size);have c1:w2.cell? ⟨w.heap.size,1,none⟩=some (.int .i64 e.func):=B1.cell 1;cases r1
 ·go_wp2
  go_ret;exact⟨by rw [HM.out,R1.out];rfl,h1⟩
 ·go_wp2_with fail
  refine(rP e.func _).mono ?_;rintro x w4 ⟨rfl,hb⟩;obtain⟨r3,hr⟩:∃r,decide (gh e.func)=r:=⟨_,rfl⟩;rw [hr];have R3:=V hr;clear hr;go_wp2;go_ret;exact⟨by rw [HM.out,R1.out,R3.out];rfl,h1.trans (hb.mono h1.size)⟩
theorem GA (e:jI) (u:Value) (w:World) (hu:il w e u):Calls prog 161 #[.agg #[.int .i64 e.off,u]] w (eL (decide e.may) w):=by
 have HU:=V hu;obtain⟨⟨a1,NI,rfl,-,-,-⟩,-⟩:=id hu;clear hu;have HM:Hid (decide e.may=(decide (mN e.off)&&decide ((e.funcs.length:Int) <=50/\∀n∈e.funcs,gh n))):=V (by rw [<- cJ];exact dh.2 (and_congr_right' (dS (by omega))));have B0:=eS.new w #[.int .i64 e.off, .slice a1 e.funcs.length NI] 77;have h0:Below w.heap.size w (w.alloc (.cells #[.int .i64 e.off, .slice a1 e.funcs.length NI] 77)):=(an _ _).alloc (ag _) _;go_enter func161,ntmps161;go_wp2_with fail;refine(zR e.off _).mono ?_;rintro x w2 ⟨rfl,hb⟩;obtain⟨r1,hr⟩:∃r,decide (mN e.off)=r:=⟨_,rfl⟩;rw [hr];have R1:=V hr;clear hr;have B1:=B0.below hb B0.lt;have h1:=h0.trans (hb.mono h0.size);have c1:w2.cell? ⟨w.heap.size,1,none⟩=some (.slice a1 e.funcs.length NI):=B1.cell 1;cases r1
 ·go_wp2
  go_ret;exact⟨by rw [HM.out,R1.out];rfl,h1⟩
 ·go_wp2_with fail
  refine(qR _ e.funcs 50 _ (HU.out.1.below h1)).mono ?_;rintro x w4 ⟨rfl,hb⟩;obtain⟨r3,hr⟩:∃r,decide ((e.funcs.length:Int) <=50/\∀n∈e.funcs,gh n)=r:=⟨_,rfl⟩;rw [hr];have R3:=V hr;clear hr;go_wp2;go_ret;exact⟨by rw [HM.out,R1.out,R3.out];rfl,h1.trans (hb.mono h1.size)⟩
theorem IL (e:iq) (u:Value) (w:World) (hu:gG w e u):Calls prog 164 #[.agg #[.int .i64 e.off,u]] w (eL (decide e.may) w):=by
 have HU:=V hu;obtain⟨⟨a1,NI,rfl,-,-,-⟩,-⟩:=id hu;clear hu;have HM:Hid (decide e.may=(decide (mN e.off)&&decide ((e.bytes.length:Int) <=1000))):=V (by rw [<- cJ];exact dh.2 (and_congr_right' (by omega)));have B0:=eS.new w #[.int .i64 e.off, .slice a1 e.bytes.length NI] 106;have h0:Below w.heap.size w (w.alloc (.cells #[.int .i64 e.off, .slice a1 e.bytes.length NI] 106)):=(an _ _).alloc (ag _) _;go_enter func164,ntmps164;go_wp2_with fail;refine(zR e.off _).mono ?_;rintro x w2 ⟨rfl,hb⟩;obtain⟨r1,hr⟩:∃r,decide (mN e.off)=r:=⟨_,rfl⟩;rw [hr];have R1:=V hr;clear hr;have B1:=B0.below hb B0.lt;have h1:=h0.trans (hb.mono h0.size);have c1:w2.cell? ⟨w.heap.size,1,none⟩=some (.slice a1 e.bytes.length NI):=B1.cell 1;cases r1
 ·go_wp2
  go_ret;exact⟨by rw [HM.out,R1.out];rfl,h1⟩
 ·go_wp2
  go_ret;exact⟨by rw [HM.out,R1.out];rfl,h1⟩
theorem Hy (e:ij) (u:Value × Value) (w:World) (hu:gW w e u):Calls prog 103 #[.agg #[u.1,u.2]] w (eL (decide e.may) w):=by
 obtain⟨u1,u2⟩:=u;have HU:=V hu;obtain⟨⟨⟨a1,NI,OW,-,-,-⟩,N3⟩,-⟩:=id hu;obtain⟨a2,Nr,OZ,-,-⟩:=eD.slice N3;simp only at OW OZ;subst OW OZ;clear N3 hu;have HM:Hid (decide e.may=((fM e.body).isSome&&(decide ((e.locals.length:Int) <=32/\∀k∈e.locals,kindOk k)&&decide ((e.body.length:Int) <=300/\∀y∈e.body,y.may)))):=V (by
  rw [<- cJ,show(fM e.body).isSome=decide ((fM e.body).isSome=true)by simp, <- cJ];exact dh.2 (and_congr_right' (and_congr (dS (by omega)) (dS (by omega)))))
 have B0:=eS.new w #[.slice a1 e.locals.length NI, .slice a2 e.body.length Nr] 41;have h0:Below w.heap.size w (w.alloc (.cells #[.slice a1 e.locals.length NI, .slice a2 e.body.length Nr] 41)):=(an _ _).alloc (ag _) _;have c1:(w.alloc (.cells #[.slice a1 e.locals.length NI, .slice a2 e.body.length Nr] 41)).cell? ⟨w.heap.size,1,none⟩=some (.slice a2 e.body.length Nr):=B0.cell 1;go_enter func103,ntmps103;go_wp2_with fail;refine(qJ _ e.body _ (HU.out.1.2.below h0)).mono ?_;rintro x w2 ⟨hb,⟨bs,v,hm,rfl,-⟩ | ⟨hm,rfl⟩⟩;rotate_left
 ·have R1:=V (show(fM e.body).isSome=false by rw [hm];rfl)
  have h1:=h0.trans (hb.mono h0.size);clear hm hb;go_wp2;go_ret;exact⟨by rw [HM.out,R1.out];rfl,h1⟩
 have R1:=V (show(fM e.body).isSome=true by rw [hm];rfl);have B1:=B0.below hb B0.lt;have h1:=h0.trans (hb.mono h0.size);have c0:w2.cell? ⟨w.heap.size,0,none⟩=some (.slice a1 e.locals.length NI):=B1.cell 0;clear hm hb c1;go_wp2_with fail;refine(pw _ e.locals 32 _ (HU.out.1.1.below h1)).mono ?_;rintro x w3 ⟨rfl,hb⟩;obtain⟨r2,hr⟩:∃r,decide ((e.locals.length:Int) <=32/\∀k∈e.locals,kindOk k)=r:=⟨_,rfl⟩;rw [hr];have R2:=V hr;clear hr;have B2:=B1.below hb B1.lt;have h2:=h1.trans (hb.mono h1.size);have c1:w3.cell? ⟨w.heap.size,1,none⟩=some (.slice a2 e.body.length Nr):=B2.cell 1;clear c0;cases r2
 ·go_wp2
  go_ret;exact⟨by rw [HM.out,R1.out,R2.out];rfl,h2⟩
 ·go_wp2_with fail
  refine(xd _ e.body 300 _ (HU.out.1.2.below h2)).mono ?_;rintro x w4 ⟨rfl,hb⟩;obtain⟨r3,hr⟩:∃r,decide ((e.body.length:Int) <=300/\∀y∈e.body,y.may)=r:=⟨_,rfl⟩;rw [hr];have R3:=V hr;clear hr;go_wp2;go_ret;exact⟨by rw [HM.out,R1.out,R2.out,R3.out];rfl,h2.trans (hb.mono h2.size)⟩
end Go.Proofs.YtjmeglibedbljaaGreatDoor
