import Derived.Test.YthbjdhjppbcneaaGreatDoorFramesJ6
import Derived.Deep.Cut
namespace Go.Proofs.YthbjdhjppbcneaaGreatDoor
set_option maxRecDepth 100000
set_option maxHeartbeats 20000000
open Go.RowKit Tryz
open Lib renaming hid->V
set_option linter.all false
theorem oJ.seq {α β:Type} {a:iU α} {b:iU β} (ha:oJ a) (hb:oJ b):oJ (jZ a b):=by
 intro l y hy;simp only [jZ]at hy;cases h:a l with
 | none=>rw [h]at hy;simp at hy
 | some x=>
  rw [h]at hy;simp only [aw]at hy;cases h2:b x.2 with
  | none=>rw [h2]at hy;simp at hy
  | some z=>
   rw [h2]at hy;simp only [aw,aX]at hy;subst hy;exact aW (hb _ _ h2) (ha _ _ h)
theorem zs:oJ gu:=by
 intro l y hy;obtain⟨p,rfl⟩:=oF (x:=y.1) (r:=y.2) hy;simp
theorem tM:∀(f:Nat) (acc:List eK) (deep:Int) (l:List UInt8) (y:List eK × List UInt8),kt f acc deep l=some y ->∃p,l=p++y.2
 | 0,_,_,_,_,h=>by cases h
 | f+1,acc,deep,l,y,h=>by
  rw [kt]at h;cases hi:gu l with
  | none=>rw [hi]at h;cases h
  | some x=>
   obtain⟨p,hp⟩:=oF (x:=x.1) (r:=x.2) hi;rw [hi]at h;simp only [aw]at h;split at h
   ·split at h
    ·injection h with h
     subst h;exact⟨p,hp⟩
    ·cases h
   ·split at h
    ·cases h
    ·obtain⟨q,hq⟩:=tM f _ _ _ _ h
     exact⟨p++q,by rw [aP, <- hq];exact hp⟩
theorem vZ {l:List UInt8} {y:List eK × List UInt8} (h:kO l=some y):∃p,l=p++y.2:=tM _ _ _ _ _ h
theorem At:oJ kO:=by
 intro l y hy;obtain⟨p,hp⟩:=vZ hy;rw [hp];simp
theorem uA:iM gG:=by
 intro l y hy;unfold gG at hy;cases hi:gu l with
 | none=>rw [hi]at hy;cases hy
 | some x=>
  have h1:=zs l x hi;rw [hi]at hy;simp only [aw]at hy;split at hy
  ·cases hb:eZ x.2 with
   | none=>rw [hb]at hy;cases hy
   | some c=>
    rw [hb]at hy;injection hy with hy;subst hy;have:=kF _ _ hb;simp only;omega
  ·cases hy
theorem ua:iM jk:=by rw [rR];exact(kF.seq uA.lO).map
theorem nW:iM uV:=by rw [qk];exact kS.map
theorem wM:iM mv:=by
 intro l y hy;unfold mv at hy;cases h:fU l with
 | none=>rw [h]at hy;cases hy
 | some x=>
  rw [h]at hy;simp only [aw]at hy;split at hy
  ·cases hy
  ·injection hy with hy
   subst hy;have:=kS l x h;simp only [bq];omega
theorem qh:iM jB:=by rw [tX];exact wM.map
theorem o8:iM gg:=by
 intro l y hy;unfold gg at hy;cases hc:eZ l with
 | none=>rw [hc]at hy;cases hy
 | some c=>
  have h1:=kF _ _ hc;rw [hc]at hy;simp only [aw]at hy;cases hn:fU c.2 with
  | none=>rw [hn]at hy;cases hy
  | some n=>
   have h2:=kS _ _ hn;rw [hn]at hy;simp only [aw]at hy;split at hy
   ·injection hy with hy
    subst hy;simp only;omega
   ·cases hm:fU n.2 with
    | none=>rw [hm]at hy;cases hy
    | some m=>
     have h3:=kS _ _ hm;rw [hm]at hy;injection hy with hy;subst hy;simp only;omega
theorem tR:iM kM:=by rw [rN];exact(kF.seq o8.lO).map
theorem wq:iM oN:=by rw [uI];exact(kF.seq ((hI lz).lO.seq (hI lz).lO)).map
theorem xZ:iM tH:=by rw [xq];exact(qh.seq (qh.lO.seq (kF.lO.seq nW.lO))).map
theorem vT:iM o9:=by rw [uR];exact(lz.seq (kF.lO.seq uA.lO)).map
theorem ze:iM tG:=by rw [xK];exact(qh.seq (kF.lO.seq nW.lO)).map
theorem wo:iM pk:=by rw [oZ];exact(ua.seq (hI nW).lO).map
theorem zQ:iM th:=by rw [xE];exact(ua.seq wM.lO).map
theorem zU:iM lX:=by
 intro l y hy;unfold lX at hy;cases hn:fU l with
 | none=>rw [hn]at hy;cases hy
 | some n=>
  have h1:=kS _ _ hn;rw [hn]at hy;simp only [aw]at hy;cases hk:gJ n.2 with
  | none=>rw [hk]at hy;cases hy
  | some k=>
   have h2:=lz _ _ hk;rw [hk]at hy;simp only [aw]at hy;split at hy
   ·cases hy
   ·injection hy with hy
    subst hy;simp only;omega
theorem ku:jC=gR iQ (fk lX):=by
 funext l
 simp only [jC,gR];cases fk lX l <;>rfl
theorem yp:iM jC:=by rw [ku];exact(hI zU).map
theorem uT:lJ=gR (fun x=>⟨x.2.1,x.2.2⟩) (jZ fU (jZ jC kO)):=by
 funext l
 simp only [lJ,gR,jZ];cases h1:fU l with
 | none=>rfl
 | some a=>
  simp only [aw];cases h2:jC a.2 with
  | none=>rfl
  | some b=>
   simp only [aw];cases kO b.2 <;>rfl
theorem wN:iM lJ:=by rw [uT];exact(kS.seq (yp.lO.seq At)).map
theorem DB (m:ez):(jL 1 m:iU ez)=gR (fun x=>{m with types:=x}) (fk oN):=by funext l;simp only [jL,gR];cases fk oN l <;>rfl
theorem DN (m:ez):(jL 2 m:iU ez)=gR (fun x=>{m with imports:=x}) (fk tH):=by funext l;simp only [jL,gR];cases fk tH l <;>rfl
theorem EI (m:ez):(jL 3 m:iU ez)=gR (fun x=>{m with funcs:=x}) (fk uV):=by funext l;simp only [jL,gR];cases fk uV l <;>rfl
theorem EY (m:ez):(jL 4 m:iU ez)=gR (fun x=>{m with table:=jP x}) (fk kM):=by funext l;simp only [jL,gR];cases fk kM l <;>rfl
theorem EX (m:ez):(jL 5 m:iU ez)=gR (fun x=>{m with mem:=jP x}) (fk gg):=by funext l;simp only [jL,gR];cases fk gg l <;>rfl
theorem ED (m:ez):(jL 6 m:iU ez)=gR (fun x=>{m with globals:=x}) (fk o9):=by funext l;simp only [jL,gR];cases fk o9 l <;>rfl
theorem FF (m:ez):(jL 7 m:iU ez)=gR (fun x=>{m with ea:=x}) (fk tG):=by funext l;simp only [jL,gR];cases fk tG l <;>rfl
theorem Fx (m:ez):(jL 9 m:iU ez)=gR (fun x=>{m with elems:=x}) (fk pk):=by funext l;simp only [jL,gR];cases fk pk l <;>rfl
theorem AR (m:ez):(jL 10 m:iU ez)=gR (fun x=>{m with ej:=x}) (fk lJ):=by funext l;simp only [jL,gR];cases fk lJ l <;>rfl
theorem Be (m:ez):(jL 11 m:iU ez)=gR (fun x=>{m with eC:=x}) (fk th):=by funext l;simp only [jL,gR];cases fk th l <;>rfl
theorem vH {n:Nat} (m:ez) (l:List UInt8) (h:n=0\/n=8\/11 < n):jL n m l=none:=by
 unfold jL;split <;>first | rfl | omega
theorem C4 (n:Nat) (m:ez):oJ (jL n m):=by
 by_cases h:n=0\/n=8\/11 < n
 ·intro l y hy
  have hy:jL n m l=some y:=hy;rw [vH m l h]at hy;cases hy
 ·have h2:n=1\/n=2\/n=3\/n=4\/n=5\/n=6\/n=7\/n=9\/n=10\/n=11:=by omega
  rcases h2 with rfl | rfl | rfl | rfl | rfl | rfl | rfl | rfl | rfl | rfl
  ·rw [DB];exact(hI wq).map.lO
  ·rw [DN];exact(hI xZ).map.lO
  ·rw [EI];exact(hI nW).map.lO
  ·rw [EY];exact(hI tR).map.lO
  ·rw [EX];exact(hI o8).map.lO
  ·rw [ED];exact(hI vT).map.lO
  ·rw [FF];exact(hI ze).map.lO
  ·rw [Fx];exact(hI wo).map.lO
  ·rw [AR];exact(hI wN).map.lO
  ·rw [Be];exact(hI zQ).map.lO
def rh {α:Type} (get:iU α) (n:Nat) (acc:List α) (st:fZ):Option (List α × List UInt8):=(st.bind (rV get n)).map fun y=>(acc++y.1,y.2)
theorem CX {α:Type} (get:iU α) (acc:List α) (st:fZ):rh get 0 acc st=st.map fun l=>(acc,l):=by
 cases st with
 | none=>rfl
 | some l=>simp [rh,rV]
theorem Ce {α:Type} (get:iU α) (n:Nat) (acc:List α):rh get n acc none=none:=rfl
theorem ju {α:Type} (get:iU α) (n:Nat) (acc:List α) {st:fZ} {x:α} (h:gU get st x):rh get (n+1) acc st=rh get n (acc++[x]) (ei get st):=by
 cases st with
 | none=>rfl
 | some l=>
  simp only [rh,rV,ei,aw];cases hg:get l with
  | none=>rfl
  | some y=>
   have:=h y (by simpa using hg);subst this;simp only [aw,bE];cases rV get n y.2 <;>simp
theorem kh {α:Type} (get:iU α) (st:fZ) (n:Nat) (hn:gU fU st n):st.bind (fk get)=rh get n [] (ei fU st):=by
 cases st with
 | none=>rfl
 | some l=>
  simp only [fk,rh,ei,aw];cases hg:fU l with
  | none=>rfl
  | some y=>
   have:=hn y (by simpa using hg);subst this;simp
theorem gD {α:Type} (get:iU α) {st QK:fZ} {acc:List α} {n:Nat} (h:st.bind (fk get)=rh get n acc QK) (he:n=0\/QK=none):ei (fk get) st=QK/\gU (fk get) st acc:=by
 rcases he with rfl | rfl
 ·rw [CX]at h
  refine⟨?_,fun y hy=>?_⟩
  ·unfold ei
   rw [h];cases QK <;>rfl
  ·rw [h]at hy
   cases QK with
   | none=>cases hy
   | some l=>injection hy with hy;rw [<- hy]
 ·rw [Ce]at h
  refine⟨?_,fun y hy=>?_⟩
  ·unfold ei
   rw [h];rfl
  ·rw [h]at hy
   cases hy
def Ho:Value ->Nat
 | .slice _ n _=>n
 | _=>0
theorem mY:(prog.info? 27).map (fun i=>(i.zero,i.size,i.bytes))=some (some (.agg #[.int .i64 0, .int .i64 0, .int .i64 0, .slice none 0 0]),4,48):=by kernel_rfl
theorem kX (x:eK × Value):(pI x).length=4:=rfl
def Hy (L:List UInt8) (w:World) (e:Ending) (w':World):Prop:=
 Below w.heap.size w w'/\((∃l r v,kO L=some (l,r)/\e= .returned (.tuple #[v, .int .i64 ((L.length - r.length:Nat):Int), .int .i64 0])/\eR 27 4 pI gN w' w.heap.size v l)\/
  (∃err:Int,kO L=none/\err≠0/\(0 <=err/\err <=12)/\e= .returned (.tuple #[.slice none 0 0, .int .i64 0, .int .i64 err])))
def Ja (L:List UInt8) (w w':World) (v:Value) (acc:List eK) (deep at0:Int) (p q:List UInt8):Prop:=
 L=p++q/\at0=p.length/\kO L=kt (301 - acc.length) acc deep q/\acc.length <=300/\eR 27 4 pI gN w' w.heap.size v acc/\Below w.heap.size w w'/\0 <=deep/\deep <=acc.length
theorem zm {f:Nat} {acc:List eK} {deep:Int} {q:List UInt8} (h:gu q=none):kt f acc deep q=none:=by
 cases f with
 | zero=>rfl
 | succ f=>rw [kt,h];rfl
theorem kB {f:Nat} {acc:List eK} {deep:Int} {q:List UInt8} {x:eK} {r:List UInt8} (h:gu q=some (x,r)) (hd:¬ hU x.op deep < 0):kt (f+1) acc deep q=(if 300 < acc.length+1 then none else kt f (acc++[x]) (hU x.op deep) r):=by
 rw [kt,h];simp only [aw];rw [aC hd]
theorem zr {f:Nat} {acc:List eK} {deep:Int} {q:List UInt8} {x:eK} {r:List UInt8} (h:gu q=some (x,r)) (hd:hU x.op deep < 0):kt (f+1) acc deep q=(if(fC acc).isSome then some (acc,r)else none):=by
 rw [kt,h];simp only [aw];rw [aJ hd]
theorem xW (b:Value) (L:List UInt8) (w:World) (hb:eJ w b L) (hl:L.length <=1000000):Calls prog 277 #[b] w (Hy L w):=by
 obtain⟨a,cap,rfl,Lk,M8,-⟩:=id hb;have HB:=V hb;unfold maxLen at M8;clear hb;go_enter func277,ntmps277;go_wp2_with fail;refine eB (fun a' w'=>∃(v:Value) (acc:List eK) (deep at0:Int) (p q:List UInt8),a'=fr (.slice a L.length cap::gs a' 1 4 (v:: .int .i64 deep:: .int .i64 at0::gs a' 8 47 []))/\Ja L w w' v acc deep at0 p q) (fun a' _=>(301 - Ho (a'.tmps.getD 5 undef))) ?_ ?_
 ·exact⟨_,[],0,0,[],L,rfl,rfl,rfl,rfl,by simp,eR.nil _ _,an _ _,by omega,by simp⟩
 ·skip
  rintro R a' w1 ⟨v,acc,deep,at0,p,q,Kw,hJ⟩ HR;dsimp only [fr,gs]at Kw;generalize slot a'=f at Kw;subst Kw;obtain⟨hL,hat,hgo,OP,Ku,Lm,hd0,hd1⟩:=hJ;obtain⟨a2,KA,N3,Lp⟩:=CK hL a cap;rw [<- hat]at N3;have hlp:0 <=at0/\at0 <=1000000:=by rw [hat];rw [hL,ah]at hl;omega
  have PK:=Lp w1 (HB.out.below Lm);have hql:q.length <=1000000:=by rw [hL,ah]at hl;omega
  have HLE:=V hL;have HAT:=V hat;have HGO:=V hgo;have OV:=V Ku;clear hL hat hgo Lp Ku;go_wp2_with fail;refine(qT _ q w1 PK hql).mono ?_;rintro e w2 ⟨Kx,Lc⟩;clear N3 PK;rcases Lc with⟨x,r,u,hx,rfl,hu,hf⟩ | ⟨err,hx,Ma,her,rfl⟩;rotate_left
  ·have f1:=ff Ma
   have HN:=V (show kO L=none by rw [HGO.out];exact zm hx);have Lm:=Lm.trans (Kx.mono Lm.size);clear hx Kx;go_wp2_with fail
   go_ret3
   exact⟨Lm.alloc Lm.size _, .inr ⟨err,HN.out,Ma,her,rfl⟩⟩
  obtain⟨mid,hmid⟩:=oF hx;have hlen:q.length - r.length=mid.length:=by rw [hmid];simp
  rw [hlen];have hml:(mid.length:Int)+at0 <=1000000:=by rw [HAT.out];have:=HLE.out;rw [this,hmid]at hl;simp only [ah]at hl;omega
  have HR2:Hid (L.length - r.length=p.length+mid.length):=V (by rw [HLE.out,hmid];simp only [ah];omega);have P3:Hid (L=(p++mid)++r):=V (by rw [HLE.out,hmid,aP]);obtain⟨op,xa,xb,xl⟩:=x;obtain⟨⟨au,KD,rfl,-,-,-⟩,-⟩:=id hu;have HX:=V hx;have HU:=V (A2 hu hf);obtain⟨m,hm⟩:∃m,acc.length=m:=⟨_,rfl⟩;clear hx hmid hlen hu hf;clear hm m;have hat64:at0+(mid.length:Int) <=1000000:=by omega
  have Pc:=Lm.trans (Kx.mono Lm.size)
  go_upto_region 5 with fail
  have hw2W:Below w2.heap.size w2 (w2.alloc (.cells #[.int .i64 op, .int .i64 xa, .int .i64 xb, .slice au xl.length KD] 27)):=(an _ _).alloc (ag _) _;have hw1W:=Kx.trans (hw2W.mono Kx.size);have Qo:=Pc.trans (hw2W.mono Pc.size);have hBW:=eG.new w2 #[.int .i64 op, .int .i64 xa, .int .i64 xb, .slice au xl.length KD] 27;have c0:(w2.alloc (.cells #[.int .i64 op, .int .i64 xa, .int .i64 xb, .slice au xl.length KD] 27)).cell? ⟨w2.heap.size,0,none⟩=some (.int .i64 op):=hBW.cell 0;have c1:(w2.alloc (.cells #[.int .i64 op, .int .i64 xa, .int .i64 xb, .slice au xl.length KD] 27)).cell? ⟨w2.heap.size,1,none⟩=some (.int .i64 xa):=hBW.cell 1;have c2:(w2.alloc (.cells #[.int .i64 op, .int .i64 xa, .int .i64 xb, .slice au xl.length KD] 27)).cell? ⟨w2.heap.size,2,none⟩=some (.int .i64 xb):=hBW.cell 2;have c3:(w2.alloc (.cells #[.int .i64 op, .int .i64 xa, .int .i64 xb, .slice au xl.length KD] 27)).cell? ⟨w2.heap.size,3,none⟩=some (.slice au xl.length KD):=hBW.cell 3;have hXW:=hBW.lt;clear hBW;have KM:=V hw2W;have Lo:=V hw1W;have h1W:=hw1W.size;clear hw2W hw1W;generalize w2.alloc (.cells #[.int .i64 op, .int .i64 xa, .int .i64 xb, .slice au xl.length KD] 27)=W at c0 c1 c2 c3 KM Lo Qo h1W hXW⊢;by_cases Ol:op=11
  ·have f11:=eH Ol
   by_cases qd:deep=0
   ·subst qd
    have HDP:Hid (hU op 0 < 0):=V (by rw [Ol];decide);clear Ol;have HOW2:=V (eR.keeps (fun _ _ _ _ he h=>h.ext he) OV.out (dU.dW (S:=fun _=>False) Lo.out) (fun _ h=>h.elim));have OQ:=V (gd.fT (S:=kH w.heap.size) (eR.low kX (fun _ _ _ _ he h=>h.ext he) HOW2.out));go_wp2_with fail;refine(pw v acc _ OQ.out).mono ?_;rintro e w3 ⟨K9,hm3⟩;have hbl3:=Qo.trans (K9.mono Qo.size);have HE3:=V (show kO L=(if(fC acc).isSome then some (acc,r)else none)by rw [HGO.out,show 301 - acc.length=(300 - acc.length)+1 from by omega,zr HX.out HDP.out]);have HOW3:=V (eR.keeps (fun _ _ _ _ he h=>h.ext he) HOW2.out (dU.dW (S:=fun _=>False) K9) (fun _ h=>h.elim));clear K9 Kx c0 c1 c2 c3;rcases hm3 with⟨bs,vb,Pu,rfl,-⟩ | ⟨Pu,rfl⟩
    ·have O6:=V (show kO L=some (acc,r)by rw [HE3.out,Pu];rfl)
     clear Pu;go_wp2_with fail
     go_ret3
     refine⟨hbl3, .inl ⟨acc,r,v,O6.out,?_,HOW3.out⟩⟩;rw [HR2.out];show Ending.returned (.tuple #[v, .int .i64 (at0+mid.length), .int .i64 0])=_;rw [HAT.out];rfl
    ·have O6:=V (show kO L=none by rw [HE3.out,Pu];rfl)
     clear Pu;go_wp2_with fail
     go_ret3
     exact⟨hbl3, .inr ⟨1,O6.out,by decide,by decide,rfl⟩⟩
   ·have hd':0 <=deep - 1:=by omega
    have HDP:Hid (hU op deep=deep - 1):=V (by unfold hU;rw [if_pos Ol]);clear Ol;have Oc:=V (eR.keeps (fun _ _ _ _ he h=>h.ext he) OV.out (dU.dW (S:=fun _=>False) Lo.out) (fun _ h=>h.elim));have HU4:=V (HU.out.ext (nx (P:=fun _=>False) (dU.dW KM.out) (fun _ h=>h.elim) (.inl (ag _))));obtain⟨us,u1,u2,u3⟩:=Oc.out;have Nv:(acc.zip us).length=acc.length:=by rw [bG,u1,bZ]
    obtain⟨av,cv,ev,_,LC,-⟩:=u2.fy kX;rw [Nv]at ev;subst ev;unfold maxLen at LC;have HV:=V (show∀i,eA (.slice av acc.length cv) i ->i < w1.heap.size from fun i hi=>(eR.lt OV.out hi).2);have U1:=V u1;have U3:=V u3;clear u1 u3;go_wp2_with (first | (at_builtin;refine eT W rfl _ _ 24 rfl _ 48 (by kernel_rfl) mY rfl (by decide) (by decide) w.heap.size (.slice av acc.length cv) (acc.zip us) rfl u2 (⟨op,xa,xb,xl⟩, .slice au xl.length KD) _ rfl rfl (by simp [pI,Value.oneCell']) rfl (by omega) (by exact Qo.size) ?_));intro v5 w5 LS NR PH;have HD5:=V (eR.app (fun _ _ _ _ he h=>h.ext he) (w1:=w1) U1.out U3.out LS NR PH Lm.size HV.out HU4.out);have Ly:=Qo.trans (NR.below Qo.size (fun i hi=>(et u2 hi).1));obtain⟨av5,cv5,ev5,_,hcv5,-⟩:=LS.fy kX;have hlz:(acc.zip us++[((⟨op,xa,xb,xl⟩:eK),Value.slice au xl.length KD)]).length=acc.length+1:=by rw [ah,Nv];rfl
    rw [hlz]at ev5;subst ev5;clear LS NR PH u2 Nv hlz Oc HU4 HV U1 U3;by_cases qm:acc.length+1 <=300
    ·have f300:decide ((300:Int) < ((acc.length+1:Nat):Int))=false:=az (by omega)
     go_wp2_with fail;refine HR.out _ _ ⟨_,acc++[⟨op,xa,xb,xl⟩],(deep - 1),at0+mid.length,p++mid,r,rfl,P3.out,?_,?_,by rw [ah];exact qm,HD5.out,Ly,by omega,?_⟩ ?_
     ·rw [HAT.out,ah];rfl
     ·rw [HGO.out,show 301 - acc.length=(300 - acc.length)+1 from by omega,kB HX.out (by rw [HDP.out];omega),aC (by omega),HDP.out,ah]
      congr 1
      simp only [aB];omega
     ·rw [ah];simp only [aB];omega
     ·simp [Ho]
      omega
    ·have f300:decide ((300:Int) < ((acc.length+1:Nat):Int))=true:=aA (by omega)
     have HN:=V (show kO L=none by rw [HGO.out,show 301 - acc.length=(300 - acc.length)+1 from by omega,kB HX.out (by rw [HDP.out];omega),aJ (by omega)]);go_wp2_with fail
     go_ret3
     exact⟨Ly, .inr ⟨4,HN.out,by decide,by decide,rfl⟩⟩
  have f11:=dS Ol;have HD0:=V (show hU op deep=if jS op then deep+1 else deep by unfold hU;rw [if_neg Ol]);clear Ol;go_wp2_with fail;refine(py op _).mono ?_;rintro e w3 ⟨rfl,K9⟩;have KM:=V (KM.out.trans (K9.mono KM.out.size));have Lo:=V (Lo.out.trans (K9.mono Lo.out.size));have Qo:=Qo.trans (K9.mono Qo.size);have h1W:=Lo.out.size;replace c0:=(K9.cell hXW).trans c0;replace c1:=(K9.cell hXW).trans c1;replace c2:=(K9.cell hXW).trans c2;replace c3:=(K9.cell hXW).trans c3;clear K9;cases ho:jS op with
  | true=>
   have hd':0 <=deep+1:=by omega
   have HDP:=V (show hU op deep=deep+1 by rw [HD0.out,ho];rfl);clear ho;have Oc:=V (eR.keeps (fun _ _ _ _ he h=>h.ext he) OV.out (dU.dW (S:=fun _=>False) Lo.out) (fun _ h=>h.elim));have HU4:=V (HU.out.ext (nx (P:=fun _=>False) (dU.dW KM.out) (fun _ h=>h.elim) (.inl (ag _))));obtain⟨us,u1,u2,u3⟩:=Oc.out;have Nv:(acc.zip us).length=acc.length:=by rw [bG,u1,bZ]
   obtain⟨av,cv,ev,_,LC,-⟩:=u2.fy kX;rw [Nv]at ev;subst ev;unfold maxLen at LC;have HV:=V (show∀i,eA (.slice av acc.length cv) i ->i < w1.heap.size from fun i hi=>(eR.lt OV.out hi).2);have U1:=V u1;have U3:=V u3;clear u1 u3;go_wp2_with (first | (at_builtin;refine eT w3 rfl _ _ 24 rfl _ 48 (by kernel_rfl) mY rfl (by decide) (by decide) w.heap.size (.slice av acc.length cv) (acc.zip us) rfl u2 (⟨op,xa,xb,xl⟩, .slice au xl.length KD) _ rfl rfl (by simp [pI,Value.oneCell']) rfl (by omega) (by exact Qo.size) ?_));intro v5 w5 LS NR PH;have HD5:=V (eR.app (fun _ _ _ _ he h=>h.ext he) (w1:=w1) U1.out U3.out LS NR PH Lm.size HV.out HU4.out);have Ly:=Qo.trans (NR.below Qo.size (fun i hi=>(et u2 hi).1));obtain⟨av5,cv5,ev5,_,hcv5,-⟩:=LS.fy kX;have hlz:(acc.zip us++[((⟨op,xa,xb,xl⟩:eK),Value.slice au xl.length KD)]).length=acc.length+1:=by rw [ah,Nv];rfl
   rw [hlz]at ev5;subst ev5;clear LS NR PH u2 Nv hlz Oc HU4 HV U1 U3;by_cases qm:acc.length+1 <=300
   ·have f300:decide ((300:Int) < ((acc.length+1:Nat):Int))=false:=az (by omega)
    go_wp2_with fail;refine HR.out _ _ ⟨_,acc++[⟨op,xa,xb,xl⟩],(deep+1),at0+mid.length,p++mid,r,rfl,P3.out,?_,?_,by rw [ah];exact qm,HD5.out,Ly,by omega,?_⟩ ?_
    ·rw [HAT.out,ah];rfl
    ·rw [HGO.out,show 301 - acc.length=(300 - acc.length)+1 from by omega,kB HX.out (by rw [HDP.out];omega),aC (by omega),HDP.out,ah]
     congr 1
     simp only [aB];omega
    ·rw [ah];simp only [aB];omega
    ·simp [Ho]
     omega
   ·have f300:decide ((300:Int) < ((acc.length+1:Nat):Int))=true:=aA (by omega)
    have HN:=V (show kO L=none by rw [HGO.out,show 301 - acc.length=(300 - acc.length)+1 from by omega,kB HX.out (by rw [HDP.out];omega),aJ (by omega)]);go_wp2_with fail
    go_ret3
    exact⟨Ly, .inr ⟨4,HN.out,by decide,by decide,rfl⟩⟩
  | false=>
   have HDP:=V (show hU op deep=deep by rw [HD0.out,ho];rfl);clear ho;have Oc:=V (eR.keeps (fun _ _ _ _ he h=>h.ext he) OV.out (dU.dW (S:=fun _=>False) Lo.out) (fun _ h=>h.elim));have HU4:=V (HU.out.ext (nx (P:=fun _=>False) (dU.dW KM.out) (fun _ h=>h.elim) (.inl (ag _))));obtain⟨us,u1,u2,u3⟩:=Oc.out;have Nv:(acc.zip us).length=acc.length:=by rw [bG,u1,bZ]
   obtain⟨av,cv,ev,_,LC,-⟩:=u2.fy kX;rw [Nv]at ev;subst ev;unfold maxLen at LC;have HV:=V (show∀i,eA (.slice av acc.length cv) i ->i < w1.heap.size from fun i hi=>(eR.lt OV.out hi).2);have U1:=V u1;have U3:=V u3;clear u1 u3;go_wp2_with (first | (at_builtin;refine eT w3 rfl _ _ 24 rfl _ 48 (by kernel_rfl) mY rfl (by decide) (by decide) w.heap.size (.slice av acc.length cv) (acc.zip us) rfl u2 (⟨op,xa,xb,xl⟩, .slice au xl.length KD) _ rfl rfl (by simp [pI,Value.oneCell']) rfl (by omega) (by exact Qo.size) ?_));intro v5 w5 LS NR PH;have HD5:=V (eR.app (fun _ _ _ _ he h=>h.ext he) (w1:=w1) U1.out U3.out LS NR PH Lm.size HV.out HU4.out);have Ly:=Qo.trans (NR.below Qo.size (fun i hi=>(et u2 hi).1));obtain⟨av5,cv5,ev5,_,hcv5,-⟩:=LS.fy kX;have hlz:(acc.zip us++[((⟨op,xa,xb,xl⟩:eK),Value.slice au xl.length KD)]).length=acc.length+1:=by rw [ah,Nv];rfl
   rw [hlz]at ev5;subst ev5;clear LS NR PH u2 Nv hlz Oc HU4 HV U1 U3;by_cases qm:acc.length+1 <=300
   ·have f300:decide ((300:Int) < ((acc.length+1:Nat):Int))=false:=az (by omega)
    go_wp2_with fail;refine HR.out _ _ ⟨_,acc++[⟨op,xa,xb,xl⟩],deep,at0+mid.length,p++mid,r,rfl,P3.out,?_,?_,by rw [ah];exact qm,HD5.out,Ly,by omega,?_⟩ ?_
    ·rw [HAT.out,ah];rfl
    ·rw [HGO.out,show 301 - acc.length=(300 - acc.length)+1 from by omega,kB HX.out (by rw [HDP.out];omega),aC (by omega),HDP.out,ah]
     congr 1
     simp only [aB];omega
    ·rw [ah];simp only [aB];omega
    ·simp [Ho]
     omega
   ·have f300:decide ((300:Int) < ((acc.length+1:Nat):Int))=true:=aA (by omega)
    have HN:=V (show kO L=none by rw [HGO.out,show 301 - acc.length=(300 - acc.length)+1 from by omega,kB HX.out (by rw [HDP.out];omega),aJ (by omega)]);go_wp2_with fail
    go_ret3
    exact⟨Ly, .inr ⟨4,HN.out,by decide,by decide,rfl⟩⟩
theorem yX (x:jh):(sF x).length=3:=rfl
theorem yR (x:fP):(xJ x).length=3:=rfl
theorem zy (x:ja):(sG x).length=3:=rfl
theorem zB (x:iC):(qK x).length=2:=rfl
theorem uK (x:gr × Value × Value):(rP x).length=2:=rfl
theorem tL (x:gF × Value × Value):(rH x).length=2:=rfl
theorem uC (x:iS × Value):(tF x).length=2:=rfl
theorem rA (x:gp × Value):(pW x).length=2:=rfl
theorem BF (x:Int):∀u∈fb x,u.oneCell'=true:=by simp [fb,Value.oneCell']
theorem Jf (x:jh):∀u∈sF x,u.oneCell'=true:=by simp [sF,Value.oneCell']
theorem Jk (x:fP):∀u∈xJ x,u.oneCell'=true:=by simp [xJ,Value.oneCell']
theorem Jv (x:ja):∀u∈sG x,u.oneCell'=true:=by simp [sG,Value.oneCell']
theorem JD (x:iC):∀u∈qK x,u.oneCell'=true:=by simp [qK,Value.oneCell']
theorem DR:(prog.info? 118).map (fun i=>(i.zero,i.size,i.bytes))=some (some (.agg #[.string (bs []), .string (bs []), .int .i64 0]),3,40):=by kernel_rfl
theorem Ey:(prog.info? 55).map (fun i=>(i.zero,i.size,i.bytes))=some (some (.agg #[.bool false, .int .i64 0, .int .i64 0]),3,24):=by kernel_rfl
theorem Da:(prog.info? 120).map (fun i=>(i.zero,i.size,i.bytes))=some (some (.agg #[.bool false, .int .i64 0, .int .i64 0]),3,24):=by kernel_rfl
theorem yW:(prog.info? 111).map (fun i=>(i.zero,i.size,i.bytes))=some (some (.agg #[.string (bs []), .int .i64 0]),2,24):=by kernel_rfl
theorem Dn:(prog.info? 109).map (fun i=>(i.zero,i.size,i.bytes))=some (some (.agg #[.slice none 0 0, .slice none 0 0]),2,48):=by kernel_rfl
theorem CU:(prog.info? 69).map (fun i=>(i.zero,i.size,i.bytes))=some (some (.agg #[.slice none 0 0, .slice none 0 0]),2,48):=by kernel_rfl
theorem Cu:(prog.info? 95).map (fun i=>(i.zero,i.size,i.bytes))=some (some (.agg #[.int .i64 0, .slice none 0 0]),2,32):=by kernel_rfl
theorem Df:(prog.info? 99).map (fun i=>(i.zero,i.size,i.bytes))=some (some (.agg #[.int .i64 0, .slice none 0 0]),2,32):=by kernel_rfl
def DC {α:Type} (val:α ->Value) (w0:World) (Y:Nat) (get:iU α) (P:α ->Prop) (s:fZ) (w1:World) (e:Ending) (w2:World):Prop:=
 ∃x:α,e= .returned (val x)/\P x/\gU get s x/\fm w0 w2 Y (ei get s)/\dU (fun k=>k=Y) w1 w2
def Ij {α β:Type} (val:α ->β ->Value) (inner:World ->α ->β ->Prop) (w0:World) (Y:Nat) (get:iU α) (P:α ->Prop) (s:fZ) (w1:World) (e:Ending) (w2:World):Prop:=
 ∃(x:α) (u:β),e= .returned (val x u)/\inner (mask (kH w1.heap.size) w2) x u/\P x/\gU get s x/\fm w0 w2 Y (ei get s)/\dU (fun k=>k=Y) w1 w2
def JL {α:Type} (t:TypeId) (k:Nat) (enc:α ->List Value) (w0:World) (Y:Nat) (get:iU α) (P:α ->Prop) (st:fZ) (w:World) (e:Ending) (w':World):Prop:=
 ∃(v:Value) (l:List α),e= .returned v/\dT t k enc w' w.heap.size v l/\(∀x∈l,P x)/\l.length <=8001/\gU (fk get) st l/\fm w0 w' Y (ei (fk get) st)/\dU (fun k=>k=Y) w w'
def JQ {α β:Type} (t:TypeId) (k:Nat) (enc:α × β ->List Value) (inner:World ->α ->β ->Prop) (w0:World) (Y:Nat) (get:iU α) (P:α ->Prop) (st:fZ) (w:World) (e:Ending) (w':World):Prop:=
 ∃(v:Value) (l:List α),e= .returned v/\eR t k enc inner w' w.heap.size v l/\(∀x∈l,P x)/\l.length <=8001/\gU (fk get) st l/\fm w0 w' Y (ei (fk get) st)/\dU (fun k=>k=Y) w w'
def GC {α:Type} (w0:World) (Y:Nat) (get:iU α) (P:α ->Prop) (st:fZ) (w w':World) (acc:List α) (n:Nat) (s:fZ):Prop:=
 st.bind (fk get)=rh get n acc s/\(∀x∈acc,P x)/\acc.length+s.len <=8001/\fm w0 w' Y s/\dU (fun k=>k=Y) w w'/\n < 4294967296
theorem nI (w0:World) (Y:Nat) (get:iU (Int)) (P:Int ->Prop) (hG:iM get) (st:fZ) (w:World) (Kv:Nat) (bs cs:Array Value)
  (hE:∀args w,(callFunc Kv args).run prog w= .ok (.enter Kv args) w) (h:fm w0 w Y st)
  (hp:∀s w1,fm w0 w1 Y s ->dU (fun k=>k=Y) w w1 ->Calls prog Kv (bs++cs) w1 (DC (fun x:Int=> .int .i64 x) w0 Y get P s w1)):
  Calls prog 213 #[.pointer (some ⟨Y,0,none⟩), .func (.func Kv) bs cs] w (JL 3 1 fb w0 Y get P st w):=by
 have HP:=V hp;have HH:=V h;have hR:=h.lt;have HG:=V hG;clear hp h hG;go_enter func213,ntmps213;go_wp2_with fail;refine(gZ w0 w Y st HH.out).mono ?_;rintro e w1 ⟨rfl,h1,LN⟩;have Ms:=V (kh get st _ (iF st));have hn:=iG st;have hlen:=h1.len;obtain⟨N,eN⟩:∃N,iN st=N:=⟨_,rfl⟩;rw [eN]at hn Ms⊢;clear eN;go_wp2_with fail;refine eB (fun a' w'=>∃(v:Value) (acc:List (Int)) (n:Nat) (s:fZ),a'=fr (.pointer (some ⟨Y,0,none⟩):: .func (.func Kv) bs cs::gs a' 2 3 (v:: .int .i64 n::gs a' 7 19 []))/\dT 3 1 fb w' w.heap.size v acc/\GC w0 Y get P st w w' acc n s) (fun a' _=>(intOf (a'.tmps.getD 6 undef)).toNat) ?_ ?_
 ·exact⟨_,[],N,ei fU st,rfl,dT.nil _ _,Ms.out,by simp,by simpa using hlen,h1,LN,hn⟩
 ·clear h1 LN hn hlen Ms HH
  rintro R a' w1 ⟨v,acc,n,s,Kw,hJ⟩ HR;dsimp only [fr,gs]at Kw;generalize slot a'=f at Kw;subst Kw;obtain⟨ho,Lx,KU,hlen,Lp,hk,hn⟩:=hJ;have K5:=V Lp;have K0:=V Lx;have KN:=V KU;have MY:=V hR;have Lr:=hk.size;have c1:=Lp.bad;have HO:=V ho;have Lz:∀i,eA v i ->¬ i=Y:=fun i hi=>by have:=(et ho hi).1;omega
  have P1:=V Lz;have HK:=V hk;clear ho Lz Lx KU Lp hk;rcases aZ n with L8 | L8
  ·obtain⟨g1,g2⟩:=gD get K0.out (.inl L8)
   have G1:=V g1;have G2:=V g2;subst L8;clear g1 g2;go_wp2_with fail;go_ret;exact⟨_,acc,rfl,HO.out,KN.out,by omega,G2.out,by rw [G1.out];exact K5.out,HK.out⟩
  have f0:decide ((0:Int) < (n:Int))=true:=aA (by omega);cases s with
  | none=>
   have c1:w1.cell? ⟨Y,1,none⟩=some (.bool true):=c1;obtain⟨g1,g2⟩:=gD get K0.out (.inr rfl);have G1:=V g1;have G2:=V g2;clear g1 g2;go_wp2_with fail;go_ret;exact⟨_,acc,rfl,HO.out,KN.out,by omega,G2.out,by rw [G1.out];exact K5.out,HK.out⟩
  | some lb=>
   have c1:w1.cell? ⟨Y,1,none⟩=some (.bool false):=c1;obtain⟨n',rfl⟩:∃n',n=n'+1:=⟨n - 1,by omega⟩;have KC:=HG.out.len lb;have OP:acc.length <=8001:=by omega
   have MI:=V (show acc.length+1+(ei get (some lb)).len <=8001 by omega);clear KC hlen;go_wp2_with fail;refine(HP.out (some lb) w1 K5.out HK.out).mono ?_;rintro e w2 ⟨x,rfl,Od,NK,h2,KB⟩;have Lq:=V (dT.keeps HO.out KB P1.out);obtain⟨av,cv,ev,_,LC,-⟩:=Lq.out.fy fw;subst ev;unfold maxLen at LC;have LI:=V h2;have Pl:=V Od;have L6:=V (K0.out.trans (ju get n' acc NK));have LK:=V (HK.out.trans KB (fun _ h=> .inl h));have Oi:=V (show w.heap.size <=w1.heap.size from HK.out.size);have MC:=V (show w.heap.size <=w2.heap.size from LK.out.size);clear Od NK h2 KB c1;go_wp2_with (first | (at_builtin;refine eT w2 rfl _ _ 25 rfl _ 8 (by kernel_rfl) jF rfl (by decide) (by decide) w.heap.size (.slice av acc.length cv) acc rfl Lq.out x _ rfl rfl (BF x) rfl (by omega) MC.out ?_));intro v3 w3 LD K7 Md;have MW:=V LD;have K8:∀i,eA (.slice av acc.length cv) i ->w.heap.size <=i/\i < w2.heap.size:=fun i hi=>et Lq.out hi;have ML:=V (LI.out.keeps K7 (fun h=>by have:=(K8 _ h).1;have:=MY.out;omega) (fun i hi=>by have:=(K8 i hi).1;have:=LI.out.old.2;have:=MY.out;omega));have OW:=V (LK.out.trans K7 (fun i hi=> .inr (K8 i hi).1));clear LD K7 Md K8;go_wp2_with fail;refine HR.out _ _ ⟨_,acc++[x],n',ei get (some lb),rfl,MW.out,L6.out,?_,?_,ML.out,OW.out,by omega⟩ ?_
   ·intro y hy
    rcases bx.1 hy with h | h
    ·exact KN.out y h
    ·obtain rfl:=aV.1 h
     exact Pl.out
   ·rw [ah]
    exact MI.out
   ·simp [intOf]
theorem Hi (w0:World) (Y:Nat) (get:iU (jh)) (P:jh ->Prop) (hG:iM get) (st:fZ) (w:World) (Kv:Nat) (bs cs:Array Value)
  (hE:∀args w,(callFunc Kv args).run prog w= .ok (.enter Kv args) w) (h:fm w0 w Y st)
  (hp:∀s w1,fm w0 w1 Y s ->dU (fun k=>k=Y) w w1 ->Calls prog Kv (bs++cs) w1 (DC (fun x:jh=> .agg #[.string x.mod, .string x.name, .int .i64 x.type]) w0 Y get P s w1)):
  Calls prog 211 #[.pointer (some ⟨Y,0,none⟩), .func (.func Kv) bs cs] w (JL 118 3 sF w0 Y get P st w):=by
 have HP:=V hp;have HH:=V h;have hR:=h.lt;have HG:=V hG;clear hp h hG;go_enter func211,ntmps211;go_wp2_with fail;refine(gZ w0 w Y st HH.out).mono ?_;rintro e w1 ⟨rfl,h1,LN⟩;have Ms:=V (kh get st _ (iF st));have hn:=iG st;have hlen:=h1.len;obtain⟨N,eN⟩:∃N,iN st=N:=⟨_,rfl⟩;rw [eN]at hn Ms⊢;clear eN;go_wp2_with fail;refine eB (fun a' w'=>∃(v:Value) (acc:List (jh)) (n:Nat) (s:fZ),a'=fr (.pointer (some ⟨Y,0,none⟩):: .func (.func Kv) bs cs::gs a' 2 3 (v:: .int .i64 n::gs a' 7 19 []))/\dT 118 3 sF w' w.heap.size v acc/\GC w0 Y get P st w w' acc n s) (fun a' _=>(intOf (a'.tmps.getD 6 undef)).toNat) ?_ ?_
 ·exact⟨_,[],N,ei fU st,rfl,dT.nil _ _,Ms.out,by simp,by simpa using hlen,h1,LN,hn⟩
 ·clear h1 LN hn hlen Ms HH
  rintro R a' w1 ⟨v,acc,n,s,Kw,hJ⟩ HR;dsimp only [fr,gs]at Kw;generalize slot a'=f at Kw;subst Kw;obtain⟨ho,Lx,KU,hlen,Lp,hk,hn⟩:=hJ;have K5:=V Lp;have K0:=V Lx;have KN:=V KU;have MY:=V hR;have Lr:=hk.size;have c1:=Lp.bad;have HO:=V ho;have Lz:∀i,eA v i ->¬ i=Y:=fun i hi=>by have:=(et ho hi).1;omega
  have P1:=V Lz;have HK:=V hk;clear ho Lz Lx KU Lp hk;rcases aZ n with L8 | L8
  ·obtain⟨g1,g2⟩:=gD get K0.out (.inl L8)
   have G1:=V g1;have G2:=V g2;subst L8;clear g1 g2;go_wp2_with fail;go_ret;exact⟨_,acc,rfl,HO.out,KN.out,by omega,G2.out,by rw [G1.out];exact K5.out,HK.out⟩
  have f0:decide ((0:Int) < (n:Int))=true:=aA (by omega);cases s with
  | none=>
   have c1:w1.cell? ⟨Y,1,none⟩=some (.bool true):=c1;obtain⟨g1,g2⟩:=gD get K0.out (.inr rfl);have G1:=V g1;have G2:=V g2;clear g1 g2;go_wp2_with fail;go_ret;exact⟨_,acc,rfl,HO.out,KN.out,by omega,G2.out,by rw [G1.out];exact K5.out,HK.out⟩
  | some lb=>
   have c1:w1.cell? ⟨Y,1,none⟩=some (.bool false):=c1;obtain⟨n',rfl⟩:∃n',n=n'+1:=⟨n - 1,by omega⟩;have KC:=HG.out.len lb;have OP:acc.length <=8001:=by omega
   have MI:=V (show acc.length+1+(ei get (some lb)).len <=8001 by omega);clear KC hlen;go_wp2_with fail;refine(HP.out (some lb) w1 K5.out HK.out).mono ?_;rintro e w2 ⟨x,rfl,Od,NK,h2,KB⟩;have Lq:=V (dT.keeps HO.out KB P1.out);obtain⟨av,cv,ev,_,LC,-⟩:=Lq.out.fy yX;subst ev;unfold maxLen at LC;have LI:=V h2;have Pl:=V Od;have L6:=V (K0.out.trans (ju get n' acc NK));have LK:=V (HK.out.trans KB (fun _ h=> .inl h));have Oi:=V (show w.heap.size <=w1.heap.size from HK.out.size);have MC:=V (show w.heap.size <=w2.heap.size from LK.out.size);clear Od NK h2 KB c1;go_wp2_with (first | (at_builtin;refine eT w2 rfl _ _ 53 rfl _ 40 (by kernel_rfl) DR rfl (by decide) (by decide) w.heap.size (.slice av acc.length cv) acc rfl Lq.out x _ rfl rfl (Jf x) rfl (by omega) MC.out ?_));intro v3 w3 LD K7 Md;have MW:=V LD;have K8:∀i,eA (.slice av acc.length cv) i ->w.heap.size <=i/\i < w2.heap.size:=fun i hi=>et Lq.out hi;have ML:=V (LI.out.keeps K7 (fun h=>by have:=(K8 _ h).1;have:=MY.out;omega) (fun i hi=>by have:=(K8 i hi).1;have:=LI.out.old.2;have:=MY.out;omega));have OW:=V (LK.out.trans K7 (fun i hi=> .inr (K8 i hi).1));clear LD K7 Md K8;go_wp2_with fail;refine HR.out _ _ ⟨_,acc++[x],n',ei get (some lb),rfl,MW.out,L6.out,?_,?_,ML.out,OW.out,by omega⟩ ?_
   ·intro y hy
    rcases bx.1 hy with h | h
    ·exact KN.out y h
    ·obtain rfl:=aV.1 h
     exact Pl.out
   ·rw [ah]
    exact MI.out
   ·simp [intOf]
theorem wF:(prog.info? 25).map (fun i=>(i.zero,i.size,i.bytes))=some (some (.slice none 0 0),1,24):=by kernel_rfl
theorem FO {w:World} {B:Nat} {v:Value} {us O5:List Value} (h:dT 25 1 qR w B v us) (h':dT 25 1 qR w B v O5):us=O5:=by
 have hf:∀l:List Value,l.flatMap qR=l:=fun l=>by
  induction l with
  | nil=>rfl
  | cons x l ih=>rw [bP,ih];rfl
 obtain⟨_,hv | ⟨g,cap,cur,hv,hb,hg,hn,hm,hs,ht⟩⟩:=h
 ·obtain⟨_,Pp | ⟨g',KR,cur',Pp,_⟩⟩:=h'
  ·rw [aH hv.2,aH Pp.2]
  ·rw [hv.1]at Pp
   cases Pp
 ·obtain⟨_,Pp | ⟨g',KR,cur',Pp,_,QM,_,_,_,ht'⟩⟩:=h'
  ·rw [Pp.1]at hv
   cases hv
  ·rw [hv]at Pp
   injection Pp with e1 e2 e3;injection e1 with e1;injection e1 with e1;subst e1;rw [hg]at QM;injection QM with QM;injection QM with QM;rw [e2,QM,ht']at ht;rw [hf,hf]at ht;exact ht.symm
theorem iz.rows {w:World} {B:Nat} {v:Value} {rs:List (Nat × Int)} (h:iz w B v rs):∃us,dT 25 1 qR w B v us/\us.length=rs.length/\
  ∀N7 LW ul n k',rs=N7++[(n,k')] ->LW.length=N7.length ->dT 25 1 qR w B v (LW++[ul]) ->us=LW++[ul]:=by
 rcases h with⟨rfl,rfl⟩ | ⟨N7,LW,ul,n,k,rfl,h2,h3,h4,h5,h6⟩
 ·exact⟨[],dT.nil _ _,rfl,fun N7 LW ul n k' he=>by simp at he⟩
 ·exact⟨LW++[ul],h3,by simp [h2],fun _ _ _ _ _ _ _ h=>FO h3 h⟩
theorem iz.last {w:World} {B:Nat} {v:Value} {N7:List (Nat × Int)} {n:Nat} {k:Int} (h:iz w B v (N7++[(n,k)])):
  ∃(LW:List Value) (ul:Value),LW.length=N7.length/\dT 25 1 qR w B v (LW++[ul])/\
  dT 3 1 fb w B ul (List.replicate n k)/\1 <=n/\∀(i:Nat) (x:Nat × Int) (u:Value),N7[i]?=some x ->LW[i]?=some u ->mK (mask (zT B v ul) w) x u:=by
 rcases h with⟨h,_⟩ | ⟨rs1,LW,ul,n1,k1,he,h2,h3,h4,h5,h6⟩
 ·simp at h
 ·obtain⟨e1,e2⟩:=List.append_inj' he rfl
  simp only [List.cons.injEq,Prod.mk.injEq,and_true]at e2;obtain⟨rfl,rfl⟩:=e2;subst e1;exact⟨LW,ul,h2,h3,h4,h5,h6⟩
theorem dT.free {α:Type} {t:TypeId} {k:Nat} {enc:α ->List Value} {w:World} {B g n cap:Nat} {l:List α} (h:dT t k enc w B (.slice (some ⟨g,0,none⟩) n cap) l) (i:Nat):w.frozen? ⟨g,i,none⟩=false:=by
 obtain⟨_,hv | ⟨g',KR,cur,hv,hb,hg,hn,hm,hs,ht⟩⟩:=h
 ·cases hv.1
 ·injection hv with e1
  injection e1 with e1;injection e1 with e1;subst e1;exact cY w g i cur _ hg
def JV (ls:List Int) (wA w':World) (v:Value) (k:Nat):Prop:=k <=ls.length/\Below wA.heap.size wA w'/\iz w' wA.heap.size v (gz (ls.take k))
theorem Gh (w0:World) (e:gF) (u:Value × Value) (hu:gH w0 e u) (hm:e.may) (b:Value) (xs:List UInt8) (w:World) (B:Nat) (Ku:dX w B b xs) (hn:xs.length <=100000000) (hB:B <=w.heap.size) (h0:Src w0 w B):
  Calls prog 191 #[b, .agg #[u.1,u.2]] w (fo xs (ir e) B b w):=by
 obtain⟨u1,u2⟩:=u;have HU:=V hu;obtain⟨⟨⟨a1,KK,Mi,hca1,hca2,Kt⟩,Lh⟩,-⟩:=id hu;obtain⟨a2,KA,Mu,-,-⟩:=ee.slice Lh;have LH:=V Lh.JN;simp only at Mi Mu;subst Mi Mu;have HCL:=V Kt;have hn1:e.locals.length <=32:=hm.2.1.1;have HM:=V hm;have HO:=V Ku;have H0:=V h0;have h0B:=h0.2;have HA:=V (eG.new w #[.slice a1 e.locals.length KK, .slice a2 e.body.length KA] 69);have QU:=V ((an w.heap.size w).alloc (ag _) (.cells #[.slice a1 e.locals.length KK, .slice a2 e.body.length KA] 69));clear Kt Lh hu hm Ku h0;go_enter func191,ntmps191;go_wp2_with fail;obtain⟨X,hX⟩:∃X,X=w.heap.size:=⟨_,rfl⟩;rw [<- hX]at HA⊢;have hX1:=df hX;have hX2:=df hX.symm;clear hX;generalize w.alloc (.cells #[.slice a1 e.locals.length KK, .slice a2 e.body.length KA] 69)=wA at HA QU⊢;have hXA:X < wA.heap.size:=HA.out.lt;refine eB (fun a' w'=>∃(v:Value) (k:Nat),a'=fr (b::gs a' 1 2 (.pointer (some ⟨X,0,none⟩)::gs a' 4 1 (v::gs a' 6 4 (.slice a1 e.locals.length KK:: .int .i64 e.locals.length:: .int .i64 k::gs a' 13 48 []))))/\JV e.locals wA w' v k) (fun a' _=>(e.locals.length - (intOf (a'.tmps.getD 12 undef)).toNat)) ?_ ?_
 ·exact⟨_,0,rfl,by omega,an _ _, .inl ⟨rfl,rfl⟩⟩
 ·skip
  rintro R a' w1 ⟨v,k,Kw,hJ⟩ HR;dsimp only [fr,gs]at Kw;generalize slot a'=f at Kw;subst Kw;obtain⟨hk,Pz,hrn⟩:=hJ;have Lb:=V Pz;have HRN:=V hrn;have HX1:=V (HA.out.below Pz hXA);have x0:w1.cell? ⟨X,0,none⟩=some (.slice a1 e.locals.length KK):=HX1.out.cell 0;clear Pz hrn;by_cases q:k < e.locals.length;rotate_left
  ·obtain rfl:k=e.locals.length:=by omega
   have hl:=uO hn1;have HD:=V (show ee 1 Is mK w1 v (gz e.locals)by have:=HRN.out.deep;rwa [aU]at this);obtain⟨av,cv,rfl,-,LC⟩:=ee.slice HD.out;have Pm:=Lb.out.size;go_wp2_with fail;refine(FC w1 xz 1000 (.slice none 0 0) [] _ (gz e.locals) w1.heap.size w1 265 (fun args w=>by rfl) HD.out (dX.nil _ _) (ag _) ⟨an _ _,ag _⟩ (by rw [kn]at hl;simp only [aK];omega) (by omega) ?_).mono ?_
   ·intro e1 Mi u hu b xs w ho hx hB hs
    exact Hr w1 e1 u hu b xs w _ ho (by omega) hB hs (by have:=(qH _ _ Mi).2;omega)
   rintro x w2 ⟨v2,rfl,KQ,KB,KG⟩;have Kx:Below w1.heap.size w1 w2:=jy KB rfl;have K6:=V Kx;have Lq:=V (show dX w2 w1.heap.size v2 (kn e.locals)by simpa [kn] using KQ);have x1:w2.cell? ⟨X,1,none⟩=some (.slice a2 e.body.length KA):=(HX1.out.below Kx HX1.out.lt).cell 1;have N1:=Kx.size;have HBW2:=V (QU.out.trans (Lb.out.mono QU.out.size));have K4:=V (show Src w0 w2 w1.heap.size from⟨H0.out.1.trans ((HBW2.out.mono H0.out.1.size).trans (Kx.mono (by have:=H0.out.1.size;have:=HBW2.out.size;omega))),by have:=H0.out.1.size;have:=HBW2.out.size;omega⟩);clear KB KG KQ Kx x0;go_wp2_with fail;refine(yY w0 v2 _ _ e.body w1.heap.size w2 Lq.out (by omega) N1 HU.out.1.2 K4.out HM.out.2.2.1 HM.out.2.2.2).mono ?_;rintro x w3 ⟨v3,rfl,LD,K7,Md⟩;have hlen3:(kn e.locals++mI e.body).length <=1000000:=by
    have h1:=rE (l:=e.body) HM.out.2.2.2 LH.out;have h2:=HM.out.2.2.1;have h3:530*e.body.length <=530*300:=dH _ h2;simp only [mI,ah,aB];omega
   have QV:Hid (Below w1.heap.size w1 w3):=V (K6.out.trans (K7.below N1 (fun i hi=>(et Lq.out hi).1)));obtain⟨L,hL⟩:∃L,L=kn e.locals++mI e.body:=⟨_,rfl⟩;rw [<- hL]at LD hlen3;have HL:=V hL;have MW:=V LD;have N2:=QV.out.size;have hsz0:=HBW2.out.size;have hb03:Below w.heap.size w w3:=HBW2.out.trans (QV.out.mono hsz0);have Mp:=V ((Wr.refl HO.out).below hb03);have HIB:=V (dX.fp LD);obtain⟨a3,Me,rfl,-,-,-⟩:=dX.fp LD;clear hL K7 Md LD x1 hb03;go_wp2_with fail;refine(fI b xs L.length (by omega) B w3 Mp.out.1 (by omega) (Mp.out.base hB)).mono ?_;rintro x w4 ⟨v4,rfl,LP,Of,Mb⟩;have LA:=V (Mp.out.step ⟨LP,Of,Mb⟩);have MB:=V (dX.fp (dX.keeps MW.out Of (fun i hi hj=>by have:=(et MW.out hi).1;have:=(et HO.out hj).2;omega)));have hp:=(eF L.length).2;clear Of Mb LP;go_wp2_with (first | (at_builtin;refine fO w4 rfl _ _ rfl rfl B v4 _ rfl LA.out.1 _ _ rfl MB.out (by simp only [ah];omega) (LA.out.base hB) ?_));intro v5 w5 ho5 NR PH;have N6:=V (LA.out.step ⟨ho5,NR,PH⟩);clear ho5 NR PH;go_wp2_with fail;go_ret;exact⟨_,rfl,by
    have h:=N6.out;rw [HL.out]at h;show Wr _ _ _ _ _ _;simpa [ir,lY] using h⟩
  obtain⟨x,hx⟩:∃x,e.locals[k]?=some x:=⟨_,aq q⟩;obtain⟨bb,off,rfl,KC,KV⟩:=HCL.out k x hx;have hb01:Below w0.heap.size w0 w1:=H0.out.1.trans ((QU.out.trans (Lb.out.mono QU.out.size)).mono H0.out.1.size);have c0:=(hb01.cell KC).trans (KV 0 _ rfl);rw [aL,bo]at c0;have HX:=V hx;clear KV KC hx hb01;by_cases q0:k=0
  ·have f1:decide (0 < k)=false:=az (by omega)
   have HSN:Hid (kY (gz (e.locals.take k)) x=gz (e.locals.take k)++[(1,x)]):=V (by subst q0;rfl);clear q0;obtain⟨us,hus,Oy,huq⟩:=HRN.out.rows;have Nv:us.length <=32:=by
    have:=pe (e.locals.take (k));rw [aS]at this;omega
   have HUS:=V hus;have HUQ:=V huq;have HUL:=V Oy;obtain⟨av,cv,rfl,-,LC⟩:=hus.slice;have Pm:=Lb.out.size;clear hus huq Oy;go_wp2_with (first | (at_builtin;refine eT (w1.alloc (.cells #[.int .i64 x] 3)) rfl _ _ 318 rfl _ 24 (by kernel_rfl) wF rfl (by decide) (by decide) wA.heap.size (.slice av us.length cv) us rfl (HUS.out.below ((an _ _).alloc (ag _) _)) (.slice (some ⟨w1.heap.size,0,none⟩) 1 1) _ rfl rfl (by simp [qR,Value.oneCell']) (by rw [aE];rfl) (by omega) (by rw [aE];omega) ?_));intro v' w2 ho KB KG;have hs2':eE w1 (.slice av us.length cv) v':=fun i hi=>(KG i hi).imp id (fun g=>by rw [aE]at g;omega);have HN:=V (iz.new HRN.out HUS.out HUL.out ho KB hs2' Pm HUQ.out);have HBN:Hid (Below wA.heap.size wA w2):=V ((Lb.out.alloc Pm _).trans (KB.below (by rw [aE];omega) (fun i hi=>(et HUS.out hi).1)));clear ho KB KG hs2';go_wp2_with fail;refine HR.out _ _ ⟨_,k+1,rfl,by omega,HBN.out,?_⟩ ?_
   ·rw [aQ,HX.out]
    show iz _ _ _ (gz (e.locals.take (k)++[x]));rw [nt,HSN.out];exact HN.out
   ·simp [intOf]
    omega
  obtain⟨j,rfl⟩:∃j,k=j+1:=⟨k - 1,by omega⟩;obtain⟨y,hy⟩:∃y,e.locals[j]?=some y:=⟨_,aq (by omega)⟩;obtain⟨bb',off',heq,KC,KV⟩:=HCL.out j y hy;injection heq with heq;injection heq with e1 e2;subst e1 e2;have hb01:Below w0.heap.size w0 w1:=H0.out.1.trans ((QU.out.trans (Lb.out.mono QU.out.size)).mono H0.out.1.size);have cy:=(hb01.cell KC).trans (KV 0 _ rfl);rw [aL,bo]at cy;clear KV KC hb01;have f1:decide ((0:Int) < (j:Int)+1)=true:=aA (by omega);obtain⟨rs,n,k',Pa,ND,Qd⟩:=vM (e.locals.take (j+1)) (by
   intro h;have:=cV List.length h;rw [aS]at this;simp only [aK]at this;omega)
  have hky:k'=y:=by
   rw [aQ,hy]at ND;simpa using ND.symm
  subst hky;by_cases q1:k'=x;rotate_left
  ·have f2:(k'==x)=false:=dS q1
   have HSN:Hid (kY (gz (e.locals.take (j+1))) x=gz (e.locals.take (j+1))++[(1,x)]):=V (by rw [Pa,qi,aC q1];simp);clear q1 q0 Pa ND Qd hy;obtain⟨us,hus,Oy,huq⟩:=HRN.out.rows;have Nv:us.length <=32:=by
    have:=pe (e.locals.take (j+1));rw [aS]at this;omega
   have HUS:=V hus;have HUQ:=V huq;have HUL:=V Oy;obtain⟨av,cv,rfl,-,LC⟩:=hus.slice;have Pm:=Lb.out.size;clear hus huq Oy;go_wp2_with (first | (at_builtin;refine eT (w1.alloc (.cells #[.int .i64 x] 3)) rfl _ _ 318 rfl _ 24 (by kernel_rfl) wF rfl (by decide) (by decide) wA.heap.size (.slice av us.length cv) us rfl (HUS.out.below ((an _ _).alloc (ag _) _)) (.slice (some ⟨w1.heap.size,0,none⟩) 1 1) _ rfl rfl (by simp [qR,Value.oneCell']) (by rw [aE];rfl) (by omega) (by rw [aE];omega) ?_));intro v' w2 ho KB KG;have hs2':eE w1 (.slice av us.length cv) v':=fun i hi=>(KG i hi).imp id (fun g=>by rw [aE]at g;omega);have HN:=V (iz.new HRN.out HUS.out HUL.out ho KB hs2' Pm HUQ.out);have HBN:Hid (Below wA.heap.size wA w2):=V ((Lb.out.alloc Pm _).trans (KB.below (by rw [aE];omega) (fun i hi=>(et HUS.out hi).1)));clear ho KB KG hs2';go_wp2_with fail;refine HR.out _ _ ⟨_,j+1+1,rfl,by omega,HBN.out,?_⟩ ?_
   ·rw [aQ,HX.out]
    show iz _ _ _ (gz (e.locals.take (j+1)++[x]));rw [nt,HSN.out];exact HN.out
   ·simp [intOf]
    omega
  ·subst q1
   have f2:(k'==k')=true:=eH rfl;have HSN:Hid (kY (gz (e.locals.take (j+1))) k'=rs++[(n+1,k')]):=V (by rw [Pa,qi,aJ rfl]);have hnn:n <=32:=by
    have:=(qH (e.locals.take (j+1)) (n,k') (by rw [Pa];simp)).2;rw [aS]at this;simp only at this;omega
   have hrl:=HRN.out;rw [Pa]at hrl;obtain⟨LW,ul,h2,h3,h4,h5,h6⟩:=hrl.last;obtain⟨g,cap,cur,rfl,OJ,M7,hg3,Mj,Lj⟩:=h3.open (by simp);have hlu:(LW++[ul]).length=LW.length+1:=by simp
   rw [hlu]at h3 h6 Mj;rw [hlu];obtain⟨aul,cul,rfl,-,hcu⟩:=h4.slice;rw [aY]at h3 h4 h6;have c1:w1.cell? ⟨g,LW.length,none⟩=some (.slice aul n cul):=by
    have:=dT.cell rp h3 (i:=LW.length) (j:=0) (x:= .slice aul n cul) (u:= .slice aul n cul) (by simp) rfl
    rwa [bo,aL]at this
   have H2:=V h2;have H3:=V h3;have H4:=V h4;have H6:=V h6;have hus2:LW.length <=32:=by
    have:=pe (e.locals.take (j+1));rw [aS,Pa]at this;simp at this;omega
   have Pm:=Lb.out.size;clear hrl h2 h3 h4 h5 h6 hg3 Pa ND Qd q0 hy hlu Lj;go_wp2_with (first | (at_builtin;refine eT w1 rfl _ _ 25 rfl _ 8 (by kernel_rfl) jF rfl (by decide) (by decide) wA.heap.size (.slice aul n cul) (List.replicate n k') rfl H4.out k' _ rfl rfl (BF k') rfl (by simp only [aY];omega) Pm ?_));intro v' w2 ho KB KG;have hd:∀i,eA (.slice (some ⟨g,0,none⟩) (LW.length+1) cap) i ->¬ eA (.slice aul n cul) i:=fun i hi=>dT.ne H3.out H4.out (by decide) i hi;have H3':=V (dT.keeps H3.out KB hd);have c2:w2.cell? ⟨g,LW.length,none⟩=some (.slice aul n cul):=by
    have:=dT.cell rp H3'.out (i:=LW.length) (j:=0) (x:= .slice aul n cul) (u:= .slice aul n cul) (by simp) rfl
    rwa [bo,aL]at this
   have z2:=H3'.out.free LW.length;obtain⟨av,cv,rfl,-,LC⟩:=ho.slice;have HN:=V (iz.grow H2.out H3.out H4.out H6.out ho KB KG rfl);have HBN:Hid (Below wA.heap.size wA (w2.setCell ⟨g,LW.length,none⟩ (.slice av (List.replicate n k'++[k']).length cv))):=V ((Lb.out.trans (KB.below Pm (fun i hi=>(et H4.out hi).1))).setCell OJ _);rw [ah,aY,aB]at HN HBN;rw [ah,aY,aB];clear ho KB KG hd;go_wp2_with fail;refine HR.out _ _ ⟨_,j+1+1,rfl,by omega,HBN.out,?_⟩ ?_
   ·rw [aQ,HX.out]
    show iz _ _ _ (gz (e.locals.take (j+1)++[k']));rw [nt,HSN.out];exact HN.out
   ·simp [intOf]
    omega
theorem tQ {w:World} {Y:Nat} (h:eG w Y #[.int .u8 0] 5):eJ w (.slice (some ⟨Y,0,none⟩) 1 1) [0]:=
 ⟨_,1,rfl,ag _,by simp [maxLen],fun i x hx=>⟨Y,0,rfl,by
  match i,hx with
  | 0,hx=>
   injection hx with hx;subst hx;exact h.cell 0⟩⟩
theorem G5 (e:iC) (b:Value) (xs:List UInt8) (w:World) (B:Nat) (Ku:dX w B b xs) (hn:xs.length <=100000000) (hB:B <=w.heap.size) (hm:e.may):
  Calls prog 186 #[b, .agg #[.string e.name, .int .i64 e.func]] w (fo xs (nR e) B b w):=by
 have l1:=nL hm.1;have hs0:=hm.1.2.1;have HM:=V hm;clear hm;have HW:=V ((Wr.refl Ku).alloc (.cells #[.string e.name, .int .i64 e.func] 111));have HA:=V (Aside.new Ku #[.string e.name, .int .i64 e.func] 111);clear Ku;go_enter func186,ntmps186;go_wp2_with fail;refine lC (fun w'=>w'.cell? ⟨w.heap.size,0,none⟩=some (.string e.name)/\w'.cell? ⟨w.heap.size,1,none⟩=some (.int .i64 e.func)) (ord [(0,true),(1,true),(2,true),(6,true),(7,true)] (.fork 3 4 (ord [(4,false),(5,false),(8,false),(9,true)] .nil) (ord [(3,false),(5,false),(8,false),(9,true)] .nil))) (by kernel_rfl) (by kernel_rfl) ⟨HA.out.cell 0,HA.out.cell 1⟩ ?_;dsimp only [ord];have HW:=V HW.out.drew;have HA:=V HA.out.drew;obtain⟨X,hX⟩:∃X,X=w.heap.size:=⟨_,rfl⟩;rw [<- hX]at HA⊢;clear hX;generalize(w.alloc (.cells #[.string e.name, .int .i64 e.func] 111)).drew=wa at HW HA⊢;iterate 5 (first | (apply ord_skip rfl rfl;simp only [Act.put,bj,bD,bF]) | (apply iy rfl rfl rfl;·(rintro w' ⟨t0,t1⟩;go_wp2;exact⟨rfl,rfl,rfl⟩)))
 refine po rfl rfl rfl rfl ?_ ?_
 ·skip
  go_wp2_with fail;refine(mM b xs e.name B wa HW.out.1 (by omega) (by omega) (HW.out.base hB)).mono ?_;rintro e' w1 ⟨v1,rfl,ho,hk,hs⟩;have HA:=V (HA.out.next ⟨ho,hk,hs⟩);have HW:=V (HW.out.step ⟨ho,hk,hs⟩);clear ho hk hs;go_wp2_with fail;refine⟨⟨HA.out.cell 0,HA.out.cell 1⟩,?_⟩;refine fL rfl rfl ?_;go_wp2_with fail;refine⟨⟨(HA.out.alloc _).cell 0,(HA.out.alloc _).cell 1⟩,?_⟩;refine fL rfl rfl ?_;go_wp2_with (first | (at_builtin;refine eY w1 rfl _ _ rfl rfl B v1 _ rfl HW.out.1 (0:UInt8) _ rfl rfl (by first | omega | (simp only [ah];omega) | (simp only [ah,aB];omega)) (HW.out.base hB) ?_));intro v2 w2 ho hk hs;have HA:=V (HA.out.next ⟨ho,hk,hs⟩);have HW:=V (HW.out.step ⟨ho,hk,hs⟩);clear ho hk hs;go_wp2_with fail;refine⟨⟨HA.out.cell 0,HA.out.cell 1⟩,?_⟩;refine fL rfl rfl ?_;go_wp2_with fail;refine(mE e.func HM.out.2 v2 _ B w2 HW.out.1 (by simp only [ah,aB];omega) (HW.out.base hB)).mono ?_;rintro e' w9 ⟨v9,rfl,ho,hk,hs⟩;have HA:=V (HA.out.next ⟨ho,hk,hs⟩);have HW:=V (HW.out.step ⟨ho,hk,hs⟩);clear ho hk hs;go_wp2_with fail;refine⟨⟨HA.out.cell 0,HA.out.cell 1⟩,?_⟩;iterate 1 (first | (apply ord_skip rfl rfl;simp only [Act.put,bj,bD,bF]) | (apply iy rfl rfl rfl;·(rintro w' ⟨t0,t1⟩;go_wp2;exact⟨rfl,rfl,rfl⟩)))
  refine mo ?_;refine aD ?_;go_wp2_with fail;go_ret;exact⟨_,rfl,by show Wr _ _ _ _ _ _;simpa [nR,rS] using HW.out⟩
 ·go_wp2_with fail
  refine⟨⟨(HA.out.alloc _).cell 0,(HA.out.alloc _).cell 1⟩,?_⟩;have HY:=V (Aside.new HW.out.1 #[.int .u8 0] 5);have HW:=V (HW.out.alloc (.cells #[.int .u8 0] 5));have HA:=V (HA.out.alloc (.cells #[.int .u8 0] 5));refine fL rfl rfl ?_;go_wp2_with fail;refine(mM b xs e.name B _ HW.out.1 (by omega) (by omega) (HW.out.base hB)).mono ?_;rintro e' w1 ⟨v1,rfl,ho,hk,hs⟩;have HY:=V (HY.out.next ⟨ho,hk,hs⟩);have HA:=V (HA.out.next ⟨ho,hk,hs⟩);have HW:=V (HW.out.step ⟨ho,hk,hs⟩);clear ho hk hs;go_wp2_with fail;refine⟨⟨HA.out.cell 0,HA.out.cell 1⟩,?_⟩;refine fL rfl rfl ?_;go_wp2_with (first | (at_builtin;refine fO w1 rfl _ _ rfl rfl B v1 _ rfl HW.out.1 _ [0] rfl (tQ HY.out.1) (by first | omega | (simp only [ah,aB];omega) | (simp only [ah,aI,aK];omega)) (HW.out.base hB) ?_));intro v2 w2 ho hk hs;have HA:=V (HA.out.next ⟨ho,hk,hs⟩);have HW:=V (HW.out.step ⟨ho,hk,hs⟩);clear ho hk hs;go_wp2_with fail;refine⟨⟨HA.out.cell 0,HA.out.cell 1⟩,?_⟩;refine fL rfl rfl ?_;go_wp2_with fail;refine(mE e.func HM.out.2 v2 _ B w2 HW.out.1 (by simp only [ah,aB];omega) (HW.out.base hB)).mono ?_;rintro e' w9 ⟨v9,rfl,ho,hk,hs⟩;have HA:=V (HA.out.next ⟨ho,hk,hs⟩);have HW:=V (HW.out.step ⟨ho,hk,hs⟩);clear ho hk hs;go_wp2_with fail;refine⟨⟨HA.out.cell 0,HA.out.cell 1⟩,?_⟩;iterate 1 (first | (apply ord_skip rfl rfl;simp only [Act.put,bj,bD,bF]) | (apply iy rfl rfl rfl;·(rintro w' ⟨t0,t1⟩;go_wp2;exact⟨rfl,rfl,rfl⟩)))
  refine mo ?_;refine aD ?_;go_wp2_with fail;go_ret;exact⟨_,rfl,by show Wr _ _ _ _ _ _;simpa [nR,rS] using HW.out⟩
theorem Gf (e:jh) (b:Value) (xs:List UInt8) (w:World) (B:Nat) (Ku:dX w B b xs) (hn:xs.length <=100000000) (hB:B <=w.heap.size) (hm:e.may):
  Calls prog 174 #[b, .agg #[.string e.mod, .string e.name, .int .i64 e.type]] w (fo xs (nA e) B b w):=by
 have l1:=nL hm.1;have l2:=nL hm.2.1;have hs0:=hm.1.2.1;have LZ:=hm.2.1.2.1;have HM:=V hm;clear hm;have HW:=V ((Wr.refl Ku).alloc (.cells #[.string e.mod, .string e.name, .int .i64 e.type] 118));have HA:=V (Aside.new Ku #[.string e.mod, .string e.name, .int .i64 e.type] 118);clear Ku;go_enter func174,ntmps174;go_wp2_with fail;refine lC (fun w'=>w'.cell? ⟨w.heap.size,0,none⟩=some (.string e.mod)/\w'.cell? ⟨w.heap.size,1,none⟩=some (.string e.name)/\w'.cell? ⟨w.heap.size,2,none⟩=some (.int .i64 e.type)) (ord [(0,true),(1,true),(2,true),(4,true),(5,true),(9,true),(10,true)] (.fork 3 7 (.fork 6 7 (ord [(7,false),(8,false),(11,false),(12,true)] .nil) (ord [(6,false),(8,false),(11,false),(12,true)] .nil)) (ord [(3,false),(6,false),(8,false),(11,false),(12,true)] .nil))) (by kernel_rfl) (by kernel_rfl) ⟨HA.out.cell 0,HA.out.cell 1,HA.out.cell 2⟩ ?_;dsimp only [ord];have HW:=V HW.out.drew;have HA:=V HA.out.drew;obtain⟨X,hX⟩:∃X,X=w.heap.size:=⟨_,rfl⟩;rw [<- hX]at HA⊢;clear hX;generalize(w.alloc (.cells #[.string e.mod, .string e.name, .int .i64 e.type] 118)).drew=wa at HW HA⊢;iterate 7 (first | (apply ord_skip rfl rfl;simp only [Act.put,bj,bD,bF]) | (apply iy rfl rfl rfl;·(rintro w' ⟨t0,t1,t2⟩;go_wp2;exact⟨rfl,rfl,rfl⟩)))
 refine po rfl rfl rfl rfl ?_ ?_
 ·skip
  go_wp2_with fail;refine(mM b xs e.mod B wa HW.out.1 (by omega) (by omega) (HW.out.base hB)).mono ?_;rintro e' w1 ⟨v1,rfl,ho,hk,hs⟩;have HA:=V (HA.out.next ⟨ho,hk,hs⟩);have HW:=V (HW.out.step ⟨ho,hk,hs⟩);clear ho hk hs;go_wp2_with fail;refine⟨⟨HA.out.cell 0,HA.out.cell 1,HA.out.cell 2⟩,?_⟩;refine po rfl rfl rfl rfl ?_ ?_
  ·skip
   go_wp2_with fail;refine(mM v1 _ e.name B w1 HW.out.1 (by simp only [ah];omega) (by omega) (HW.out.base hB)).mono ?_;rintro e' w2 ⟨v2,rfl,ho,hk,hs⟩;have HA:=V (HA.out.next ⟨ho,hk,hs⟩);have HW:=V (HW.out.step ⟨ho,hk,hs⟩);clear ho hk hs;go_wp2_with fail;refine⟨⟨HA.out.cell 0,HA.out.cell 1,HA.out.cell 2⟩,?_⟩;refine fL rfl rfl ?_;go_wp2_with fail;refine⟨⟨(HA.out.alloc _).cell 0,(HA.out.alloc _).cell 1,(HA.out.alloc _).cell 2⟩,?_⟩;refine fL rfl rfl ?_;go_wp2_with (first | (at_builtin;refine eY w2 rfl _ _ rfl rfl B v2 _ rfl HW.out.1 (0:UInt8) _ rfl rfl (by first | omega | (simp only [ah];omega) | (simp only [ah,aB];omega)) (HW.out.base hB) ?_));intro v3 w3 ho hk hs;have HA:=V (HA.out.next ⟨ho,hk,hs⟩);have HW:=V (HW.out.step ⟨ho,hk,hs⟩);clear ho hk hs;go_wp2_with fail;refine⟨⟨HA.out.cell 0,HA.out.cell 1,HA.out.cell 2⟩,?_⟩;refine fL rfl rfl ?_;go_wp2_with fail;refine(mE e.type HM.out.2.2 v3 _ B w3 HW.out.1 (by simp only [ah,aB];omega) (HW.out.base hB)).mono ?_;rintro e' w9 ⟨v9,rfl,ho,hk,hs⟩;have HA:=V (HA.out.next ⟨ho,hk,hs⟩);have HW:=V (HW.out.step ⟨ho,hk,hs⟩);clear ho hk hs;go_wp2_with fail;refine⟨⟨HA.out.cell 0,HA.out.cell 1,HA.out.cell 2⟩,?_⟩;iterate 1 (first | (apply ord_skip rfl rfl;simp only [Act.put,bj,bD,bF]) | (apply iy rfl rfl rfl;·(rintro w' ⟨t0,t1,t2⟩;go_wp2;exact⟨rfl,rfl,rfl⟩)))
   refine mo ?_;refine aD ?_;go_wp2_with fail;go_ret;exact⟨_,rfl,by show Wr _ _ _ _ _ _;simpa [nA,rS] using HW.out⟩
  ·go_wp2_with fail
   refine⟨⟨(HA.out.alloc _).cell 0,(HA.out.alloc _).cell 1,(HA.out.alloc _).cell 2⟩,?_⟩;have HY:=V (Aside.new HW.out.1 #[.int .u8 0] 5);have HW:=V (HW.out.alloc (.cells #[.int .u8 0] 5));have HA:=V (HA.out.alloc (.cells #[.int .u8 0] 5));refine fL rfl rfl ?_;go_wp2_with fail;refine(mM v1 _ e.name B _ HW.out.1 (by simp only [ah];omega) (by omega) (HW.out.base hB)).mono ?_;rintro e' w2 ⟨v2,rfl,ho,hk,hs⟩;have HY:=V (HY.out.next ⟨ho,hk,hs⟩);have HA:=V (HA.out.next ⟨ho,hk,hs⟩);have HW:=V (HW.out.step ⟨ho,hk,hs⟩);clear ho hk hs;go_wp2_with fail;refine⟨⟨HA.out.cell 0,HA.out.cell 1,HA.out.cell 2⟩,?_⟩;refine fL rfl rfl ?_;go_wp2_with (first | (at_builtin;refine fO w2 rfl _ _ rfl rfl B v2 _ rfl HW.out.1 _ [0] rfl (tQ HY.out.1) (by first | omega | (simp only [ah,aB];omega) | (simp only [ah,aI,aK];omega)) (HW.out.base hB) ?_));intro v3 w3 ho hk hs;have HA:=V (HA.out.next ⟨ho,hk,hs⟩);have HW:=V (HW.out.step ⟨ho,hk,hs⟩);clear ho hk hs;go_wp2_with fail;refine⟨⟨HA.out.cell 0,HA.out.cell 1,HA.out.cell 2⟩,?_⟩;refine fL rfl rfl ?_;go_wp2_with fail;refine(mE e.type HM.out.2.2 v3 _ B w3 HW.out.1 (by simp only [ah,aB];omega) (HW.out.base hB)).mono ?_;rintro e' w9 ⟨v9,rfl,ho,hk,hs⟩;have HA:=V (HA.out.next ⟨ho,hk,hs⟩);have HW:=V (HW.out.step ⟨ho,hk,hs⟩);clear ho hk hs;go_wp2_with fail;refine⟨⟨HA.out.cell 0,HA.out.cell 1,HA.out.cell 2⟩,?_⟩;iterate 1 (first | (apply ord_skip rfl rfl;simp only [Act.put,bj,bD,bF]) | (apply iy rfl rfl rfl;·(rintro w' ⟨t0,t1,t2⟩;go_wp2;exact⟨rfl,rfl,rfl⟩)))
   refine mo ?_;refine aD ?_;go_wp2_with fail;go_ret;exact⟨_,rfl,by show Wr _ _ _ _ _ _;simpa [nA,rS] using HW.out⟩
 ·go_wp2_with fail
  refine⟨⟨(HA.out.alloc _).cell 0,(HA.out.alloc _).cell 1,(HA.out.alloc _).cell 2⟩,?_⟩;have HY:=V (Aside.new HW.out.1 #[.int .u8 0] 5);have HW:=V (HW.out.alloc (.cells #[.int .u8 0] 5));have HA:=V (HA.out.alloc (.cells #[.int .u8 0] 5));refine fL rfl rfl ?_;go_wp2_with fail;refine(mM b xs e.mod B _ HW.out.1 (by omega) (by omega) (HW.out.base hB)).mono ?_;rintro e' w1 ⟨v1,rfl,ho,hk,hs⟩;have HY:=V (HY.out.next ⟨ho,hk,hs⟩);have HA:=V (HA.out.next ⟨ho,hk,hs⟩);have HW:=V (HW.out.step ⟨ho,hk,hs⟩);clear ho hk hs;go_wp2_with fail;refine⟨⟨HA.out.cell 0,HA.out.cell 1,HA.out.cell 2⟩,?_⟩;refine fL rfl rfl ?_;go_wp2_with fail;refine(mM v1 _ e.name B w1 HW.out.1 (by simp only [ah];omega) (by omega) (HW.out.base hB)).mono ?_;rintro e' w2 ⟨v2,rfl,ho,hk,hs⟩;have HY:=V (HY.out.next ⟨ho,hk,hs⟩);have HA:=V (HA.out.next ⟨ho,hk,hs⟩);have HW:=V (HW.out.step ⟨ho,hk,hs⟩);clear ho hk hs;go_wp2_with fail;refine⟨⟨HA.out.cell 0,HA.out.cell 1,HA.out.cell 2⟩,?_⟩;refine fL rfl rfl ?_;go_wp2_with (first | (at_builtin;refine fO w2 rfl _ _ rfl rfl B v2 _ rfl HW.out.1 _ [0] rfl (tQ HY.out.1) (by first | omega | (simp only [ah,aB];omega) | (simp only [ah,aI,aK];omega)) (HW.out.base hB) ?_));intro v3 w3 ho hk hs;have HA:=V (HA.out.next ⟨ho,hk,hs⟩);have HW:=V (HW.out.step ⟨ho,hk,hs⟩);clear ho hk hs;go_wp2_with fail;refine⟨⟨HA.out.cell 0,HA.out.cell 1,HA.out.cell 2⟩,?_⟩;refine fL rfl rfl ?_;go_wp2_with fail;refine(mE e.type HM.out.2.2 v3 _ B w3 HW.out.1 (by simp only [ah,aB];omega) (HW.out.base hB)).mono ?_;rintro e' w9 ⟨v9,rfl,ho,hk,hs⟩;have HA:=V (HA.out.next ⟨ho,hk,hs⟩);have HW:=V (HW.out.step ⟨ho,hk,hs⟩);clear ho hk hs;go_wp2_with fail;refine⟨⟨HA.out.cell 0,HA.out.cell 1,HA.out.cell 2⟩,?_⟩;iterate 1 (first | (apply ord_skip rfl rfl;simp only [Act.put,bj,bD,bF]) | (apply iy rfl rfl rfl;·(rintro w' ⟨t0,t1,t2⟩;go_wp2;exact⟨rfl,rfl,rfl⟩)))
  refine mo ?_;refine aD ?_;go_wp2_with fail;go_ret;exact⟨_,rfl,by show Wr _ _ _ _ _ _;simpa [nA,rS] using HW.out⟩
theorem dX.GP {w:World} {B:Nat} {v:Value} {xs:List UInt8} {x:UInt8} (h:dX w B v (xs++[x])):
  ∃g cap,v= .slice (some ⟨g,0,none⟩) (xs.length+1) cap/\xs.length+1 <=cap/\cap <=maxLen/\g < w.heap.size/\w.cell? ⟨g,xs.length,none⟩=some (bv x)/\w.frozen? ⟨g,xs.length,none⟩=false/\
   ∀y,dX (w.setCell ⟨g,xs.length,none⟩ (bv y)) B v (xs++[y]):=by
 have hb:=dX.fp h;obtain⟨hl,hv | ⟨g,cap,cur,hv,hB,hg,hn,hm,hs,ht⟩⟩:=h
 ·exact absurd hv.2 (by simp)
 ·have hlen:(xs++[x]).length=xs.length+1:=by simp
  rw [hlen]at hv hn;refine⟨g,cap,hv,hn,hm,(cg.1 hg).1,?_,cY w g _ cur _ hg,fun y=>?_⟩
  ·obtain⟨a,KR,he,_,_,hc⟩:=hb
   rw [hv]at he;injection he with e1 e2 e3;subst e1;obtain⟨b,off,Kx,KV⟩:=hc xs.length x (by simp);injection Kx with Kx;injection Kx with Kx K9;subst Kx K9;rw [bW]at KV;exact KV
  ·refine⟨by simp, .inr ⟨g,cap,cur.setIfInBounds xs.length (bv y),by rw [hv];simp,hB,heap_setCell_same w g _ cur _ _ hg,by simpa using hn,hm,by simpa using hs,?_⟩⟩
   rw [Array.toList_setIfInBounds,List.take_set];have ht2:cur.toList.take ((xs++[y]).length*1)=xs.map bv++[bv x]:=by
    rw [show(xs++[y]).length*1=(xs++[x]).length*1 by simp,ht];simp
   rw [ht2,List.set_append_right _ _ (by simp)];simp
theorem Gr (e:ja) (b:Value) (xs:List UInt8) (w:World) (B:Nat) (Ku:dX w B b xs) (hn:xs.length <=100000000) (hB:B <=w.heap.size) (hm:e.init.may) (ho:e.init.ok):
  Calls prog 183 #[b, .agg #[.bool e.isVar, .int .i64 e.init.kind, .int .i64 e.init.n]] w (fo xs (kE e) B b w):=by
 have HM:=V hm;have HO:=V ho;obtain⟨mu,k,n⟩:=e;simp only at HM HO⊢;clear hm ho;have HW:=V ((Wr.refl Ku).alloc (.cells #[.bool mu, .int .i64 k, .int .i64 n] 120));have HA:=V (Aside.new Ku #[.bool mu, .int .i64 k, .int .i64 n] 120);clear Ku;have c1:(w.alloc (.cells #[.bool mu, .int .i64 k, .int .i64 n] 120)).cell? ⟨w.heap.size,1,none⟩=some (.int .i64 k):=HA.out.cell 1;go_enter func183,ntmps183;go_wp2_with fail;refine(nu b xs k B _ HW.out.1 (by omega) (HW.out.base hB)).mono ?_;rintro e' w1 ⟨v1,rfl,ho,hk,hs⟩;have HA:=V (HA.out.next ⟨ho,hk,hs⟩);have HW:=V (HW.out.step ⟨ho,hk,hs⟩);clear ho hk hs c1;go_wp2_with (first | (at_builtin;refine eY w1 rfl _ _ rfl rfl B v1 _ rfl HW.out.1 (0:UInt8) _ rfl rfl (by simp only [ah,ji,aI,aK];omega) (HW.out.base hB) ?_));intro v2 w2 ho hk hs;have HA:=V (HA.out.next ⟨ho,hk,hs⟩);have HW:=V (HW.out.step ⟨ho,hk,hs⟩);clear ho hk hs;have c0:w2.cell? ⟨w.heap.size,0,none⟩=some (.bool mu):=HA.out.cell 0;obtain⟨L,hL⟩:∃L,xs++ji k=L:=⟨_,rfl⟩;have hLn:L.length <=100000001:=by rw [<- hL,ah];simp only [ji,aI,aK];omega
 have HG:Hid (xs++kE ⟨mu,⟨k,n⟩⟩=L++((if mu=true then 1 else 0)::ma ⟨k,n⟩)):=V (by rw [<- hL,kE,aP]);have HL:=V (show Wr w b B w2 v2 (L++[0])by rw [<- hL,aP];exact HW.out);clear hL;obtain⟨g,cap,rfl,Lk,M8,hg,cl,fz,Ow⟩:=HL.out.1.GP;unfold maxLen at M8;have HSET:=V Ow;clear Ow;cases mu with
 | false=>
  have c1:w2.cell? ⟨w.heap.size,1,none⟩=some (.int .i64 k):=HA.out.cell 1;have c2:w2.cell? ⟨w.heap.size,2,none⟩=some (.int .i64 n):=HA.out.cell 2;go_wp2_with fail;refine(oh (.slice (some ⟨g,0,none⟩) (L.length+1) cap) _ ⟨k,n⟩ B w2 HL.out.1 (by simp only [ah,aB];omega) (HL.out.base hB) HM.out HO.out).mono ?_;rintro e' w9 ⟨v9,rfl,ho,hk,hs⟩;have HL9:=V (HL.out.step ⟨ho,hk,hs⟩);clear ho hk hs;go_wp2_with fail;go_ret;exact⟨_,rfl,by rw [HG.out];show Wr _ _ _ _ _ _;simpa using HL9.out⟩
 | true=>
  have ho:=HSET.out 1;have hk:dU (eA (.slice (some ⟨g,0,none⟩) (L.length+1) cap)) w2 (w2.setCell ⟨g,L.length,none⟩ (.int .u8 1)):=(show dU (fun k=>k=g) w2 (w2.setCell ⟨g,L.length,none⟩ (.int .u8 1))from⟨rfl,rfl,rfl,by simp,fun k _ hk=>cL w2 ⟨g,L.length,none⟩ (.int .u8 1) k hk⟩).mono (fun i hi=>by rw [hi];rfl);have hs:=eE.refl w2 (.slice (some ⟨g,0,none⟩) (L.length+1) cap);have HA2:=V (HA.out.next ⟨ho,hk,hs⟩);have P3:=V (HL.out.step ⟨ho,hk,hs⟩);have c1:(w2.setCell ⟨g,L.length,none⟩ (.int .u8 1)).cell? ⟨w.heap.size,1,none⟩=some (.int .i64 k):=HA2.out.cell 1;have c2:(w2.setCell ⟨g,L.length,none⟩ (.int .u8 1)).cell? ⟨w.heap.size,2,none⟩=some (.int .i64 n):=HA2.out.cell 2;clear ho hk hs;go_wp2_with fail;refine(oh (.slice (some ⟨g,0,none⟩) (L.length+1) cap) _ ⟨k,n⟩ B _ P3.out.1 (by simp only [ah,aB];omega) (P3.out.base hB) HM.out HO.out).mono ?_;rintro e' w9 ⟨v9,rfl,ho,hk,hs⟩;have HL9:=V (P3.out.step ⟨ho,hk,hs⟩);clear ho hk hs;go_wp2_with fail;go_ret;exact⟨_,rfl,by rw [HG.out];show Wr _ _ _ _ _ _;simpa using HL9.out⟩
theorem GV (p:gr ->Bool) (v:Value) (l:List gr) (w:World) (hl:ee 2 rP gI w v l) (Kv:Nat) (cs:Array Value)
  (hE:∀args w,(callFunc Kv args).run prog w= .ok (.enter Kv args) w)
  (hp:∀e∈l,∀u w',Below w.heap.size w w' ->gI w' e u ->Calls prog Kv (#[.agg #[u.1,u.2]]++cs) w' (ew (p e) w')):
  Calls prog 284 #[v, .func (.func Kv) #[] cs] w (jU p l w):=by
 have HP:=V hp;have HI:=V hl;obtain⟨a,cap,rfl,h1,h2⟩:=ee.slice hl;clear hl hp;go_enter func284,ntmps284;go_wp2_with fail;refine eB (fun a' w'=>∃(k:Nat),a'=fr (.slice a l.length cap:: .func (.func Kv) #[] cs::gs a' 2 5 (.int .i64 l.length:: .int .i64 k::gs a' 9 10 []))/\pK p l w w' k) (fun a' _=>(l.length - (intOf (a'.tmps.getD 8 undef)).toNat)) ?_ ?_
 ·exact⟨0,rfl,by omega,fun i hi=>by omega,an _ _⟩
 ·skip
  rintro R a' w1 ⟨k,Kw,hJ⟩ HR;dsimp only [fr,gs]at Kw;generalize slot a'=f at Kw;subst Kw;obtain⟨hk,hm,hb⟩:=hJ;have Lv:=V hm;clear hm;by_cases Ls:k < l.length;rotate_left
  ·obtain rfl:k=l.length:=by omega
   go_wp2_with fail;go_ret;exact⟨by rw [gO Lv.out];rfl,hb⟩
  obtain⟨e,he⟩:∃e,l[k]?=some e:=⟨_,aq Ls⟩;obtain⟨b,off,u,rfl,KC,hc,hu⟩:=(ee.below HI.out (hb.mono (ag _)) (fun _ _ h=>h.below (hb.mono (ag _)))).get he;have KE:=HP.out e (aO he) u w1 hb hu;obtain⟨u1,u2⟩:=u;obtain⟨⟨⟨a1,KK,Mi,-,-,-⟩,⟨a2,KA,Mu,-,-,-⟩⟩,-⟩:=id hu;simp only at Mi Mu;subst Mi Mu;have c0:=hc 0 _ rfl;have c1:=hc 1 _ rfl;rw [aL]at c0;have HE:=V he;clear he hc hu;cases hq:p e
  all_goals
   rw [hq]at KE;have HQ:=V hq;clear hq;go_wp2_with fail;refine KE.mono ?_;rintro x w2 ⟨rfl,Kx⟩;replace hb:=dY hb Kx;clear KE Kx c0 c1;go_wp2_with fail
  ·refine HR.out _ _ ⟨k+1,rfl,by omega,?_,hb⟩ ?_
   ·intro i hi d hd
    rcases bC i k with h | h
    ·exact Lv.out i h d hd
    ·obtain rfl:i=k:=by omega
     rw [HE.out]at hd;injection hd with hd;rw [<- hd];exact HQ.out
   ·simp [intOf]
    omega
  ·go_ret
   exact⟨by rw [ic HE.out HQ.out Lv.out];rfl,hb⟩
theorem Fe (p:gr ->Bool) (v:Value) (l:List gr) (w:World) (hl:ee 2 rP gI w v l) (Kv:Nat) (cs:Array Value)
  (hE:∀args w,(callFunc Kv args).run prog w= .ok (.enter Kv args) w)
  (hp:∀e∈l,∀u w',Below w.heap.size w w' ->gI w' e u ->Calls prog Kv (#[.agg #[u.1,u.2]]++cs) w' (ew (p e) w')):
  Calls prog 245 #[v, .func (.func Kv) #[] cs] w (ew (l.any p) w):=by
 go_enter func245,ntmps245;go_wp2_with fail;refine(GV p v l _ hl Kv cs hE hp).mono ?_;rintro x w2 ⟨rfl,hb⟩;clear hE;go_wp2_with fail;go_ret;exact⟨by rw [<- iu];rfl,hb⟩
theorem El (b:Bool) (a1 a2:Option Addr) (n1 n2 c1 c2:Nat) (Kv:Nat) (cs:Array Value) (X:Nat) (w:World)
  (hE:∀args w,(callFunc Kv args).run prog w= .ok (.enter Kv args) w) (hX:w.cell? ⟨X,0,none⟩=some (.func (.func Kv) #[] cs))
  (hp:∀w',Below w.heap.size w w' ->Calls prog Kv (#[.agg #[.slice a1 n1 c1, .slice a2 n2 c2]]++cs) w' (ew b w')):
  Calls prog 246 #[.agg #[.slice a1 n1 c1, .slice a2 n2 c2], .pointer (some ⟨X,0,none⟩)] w (ew (!b) w):=by
 have KC:=aT w _ hX;have HP:=V hp;clear hp;go_enter func246,ntmps246;go_wp2_with fail;refine(HP.out _ ((an _ _).alloc (ag _) _)).mono ?_;rintro x w2 ⟨rfl,hb⟩;clear hE hX;go_wp2_with fail;go_ret;exact⟨rfl,((an _ _).alloc (ag _) _).trans (hb.mono (by simp))⟩
theorem D7 (p:gr ->Bool) (v:Value) (l:List gr) (w:World) (hl:ee 2 rP gI w v l) (Kv:Nat) (fi:Int)
  (hE:∀args w,(callFunc Kv args).run prog w= .ok (.enter Kv args) w)
  (hp:∀e∈l,∀u w',Below w.heap.size w w' ->gI w' e u ->Calls prog Kv #[.agg #[u.1,u.2]] w' (ew (p e) w')):
  Calls prog 154 #[v, .int .i64 fi, .func (.func Kv) #[] #[]] w (ew (decide ((l.length:Int) <=fi)&&l.all p) w):=by
 have HP:=V hp;obtain⟨a,cap,rfl,h1,h2⟩:∃a cap,v= .slice a l.length cap/\l.length <=cap/\cap <=9223372036854775807:=ee.slice hl;have HL:=V hl;clear hp hl;by_cases q:(l.length:Int) <=fi
 ·have f:decide ((l.length:Int) <=fi)=true:=aA q
  go_enter func154,ntmps154;go_wp2_with fail;refine bV (Fe (fun e=> !p e) _ l _ (ee.below HL.out ((an _ _).alloc (ag _) _) (fun _ _ h=>h.below ((an _ _).alloc (ag _) _))) 246 #[.pointer (some ⟨w.heap.size,0,none⟩)] (fun args w=>by rfl) ?_) ?_
  ·intro e he u w' hw' hu
   obtain⟨hX,hw⟩:=boxed hw';obtain⟨u1,u2⟩:=u;obtain⟨⟨⟨a1,KK,Mi,-,-,-⟩,⟨a2,KA,Mu,-,-,-⟩⟩,-⟩:=id hu;simp only at Mi Mu;subst Mi Mu;exact El (p e) _ _ _ _ _ _ Kv #[] _ w' hE hX (fun w2 h2=>by simpa using HP.out e he _ w2 (hw.trans (h2.mono hw.size)) (hu.below h2))
  rintro x w2 ⟨rfl,hb⟩;clear hE;have HF:=V f;clear f;have f:decide ((l.length:Int) <=fi)=true:=HF.out;go_wp2_with fail;go_ret;refine⟨?_,((an _ _).alloc (ag _) _).trans (hb.mono (by simp))⟩;have e1:l.all p= !(l.any fun e=> !p e):=by rw [bT];simp
  rw [f,e1,cm];rfl
 ·have f:decide ((l.length:Int) <=fi)=false:=az q
  go_enter func154,ntmps154;go_wp2_with fail;go_ret;exact⟨by first | rfl | (rw [f];rfl),(an _ _).alloc (ag _) _⟩
theorem Ht (p:gF ->Bool) (v:Value) (l:List gF) (w:World) (hl:ee 2 rH gH w v l) (Kv:Nat) (cs:Array Value)
  (hE:∀args w,(callFunc Kv args).run prog w= .ok (.enter Kv args) w)
  (hp:∀e∈l,∀u w',Below w.heap.size w w' ->gH w' e u ->Calls prog Kv (#[.agg #[u.1,u.2]]++cs) w' (ew (p e) w')):
  Calls prog 243 #[v, .func (.func Kv) #[] cs] w (jU p l w):=by
 have HP:=V hp;have HI:=V hl;obtain⟨a,cap,rfl,h1,h2⟩:=ee.slice hl;clear hl hp;go_enter func243,ntmps243;go_wp2_with fail;refine eB (fun a' w'=>∃(k:Nat),a'=fr (.slice a l.length cap:: .func (.func Kv) #[] cs::gs a' 2 5 (.int .i64 l.length:: .int .i64 k::gs a' 9 10 []))/\pK p l w w' k) (fun a' _=>(l.length - (intOf (a'.tmps.getD 8 undef)).toNat)) ?_ ?_
 ·exact⟨0,rfl,by omega,fun i hi=>by omega,an _ _⟩
 ·skip
  rintro R a' w1 ⟨k,Kw,hJ⟩ HR;dsimp only [fr,gs]at Kw;generalize slot a'=f at Kw;subst Kw;obtain⟨hk,hm,hb⟩:=hJ;have Lv:=V hm;clear hm;by_cases Ls:k < l.length;rotate_left
  ·obtain rfl:k=l.length:=by omega
   go_wp2_with fail;go_ret;exact⟨by rw [gO Lv.out];rfl,hb⟩
  obtain⟨e,he⟩:∃e,l[k]?=some e:=⟨_,aq Ls⟩;obtain⟨b,off,u,rfl,KC,hc,hu⟩:=(ee.below HI.out (hb.mono (ag _)) (fun _ _ h=>h.below (hb.mono (ag _)))).get he;have KE:=HP.out e (aO he) u w1 hb hu;obtain⟨u1,u2⟩:=u;obtain⟨⟨⟨a1,KK,Mi,-,-,-⟩,Lh⟩,-⟩:=id hu;obtain⟨a2,KA,Mu,-,-⟩:=ee.slice Lh;simp only at Mi Mu;subst Mi Mu;clear Lh;have c0:=hc 0 _ rfl;have c1:=hc 1 _ rfl;rw [aL]at c0;have HE:=V he;clear he hc hu;cases hq:p e
  all_goals
   rw [hq]at KE;have HQ:=V hq;clear hq;go_wp2_with fail;refine KE.mono ?_;rintro x w2 ⟨rfl,Kx⟩;replace hb:=dY hb Kx;clear KE Kx c0 c1;go_wp2_with fail
  ·refine HR.out _ _ ⟨k+1,rfl,by omega,?_,hb⟩ ?_
   ·intro i hi d hd
    rcases bC i k with h | h
    ·exact Lv.out i h d hd
    ·obtain rfl:i=k:=by omega
     rw [HE.out]at hd;injection hd with hd;rw [<- hd];exact HQ.out
   ·simp [intOf]
    omega
  ·go_ret
   exact⟨by rw [ic HE.out HQ.out Lv.out];rfl,hb⟩
theorem Ec (p:gF ->Bool) (v:Value) (l:List gF) (w:World) (hl:ee 2 rH gH w v l) (Kv:Nat) (cs:Array Value)
  (hE:∀args w,(callFunc Kv args).run prog w= .ok (.enter Kv args) w)
  (hp:∀e∈l,∀u w',Below w.heap.size w w' ->gH w' e u ->Calls prog Kv (#[.agg #[u.1,u.2]]++cs) w' (ew (p e) w')):
  Calls prog 145 #[v, .func (.func Kv) #[] cs] w (ew (l.any p) w):=by
 go_enter func145,ntmps145;go_wp2_with fail;refine(Ht p v l _ hl Kv cs hE hp).mono ?_;rintro x w2 ⟨rfl,hb⟩;clear hE;go_wp2_with fail;go_ret;exact⟨by rw [<- iu];rfl,hb⟩
theorem EH (b:Bool) (a1 a2:Option Addr) (n1 n2 c1 c2:Nat) (Kv:Nat) (cs:Array Value) (X:Nat) (w:World)
  (hE:∀args w,(callFunc Kv args).run prog w= .ok (.enter Kv args) w) (hX:w.cell? ⟨X,0,none⟩=some (.func (.func Kv) #[] cs))
  (hp:∀w',Below w.heap.size w w' ->Calls prog Kv (#[.agg #[.slice a1 n1 c1, .slice a2 n2 c2]]++cs) w' (ew b w')):
  Calls prog 146 #[.agg #[.slice a1 n1 c1, .slice a2 n2 c2], .pointer (some ⟨X,0,none⟩)] w (ew (!b) w):=by
 have KC:=aT w _ hX;have HP:=V hp;clear hp;go_enter func146,ntmps146;go_wp2_with fail;refine(HP.out _ ((an _ _).alloc (ag _) _)).mono ?_;rintro x w2 ⟨rfl,hb⟩;clear hE hX;go_wp2_with fail;go_ret;exact⟨rfl,((an _ _).alloc (ag _) _).trans (hb.mono (by simp))⟩
theorem EF (p:gF ->Bool) (v:Value) (l:List gF) (w:World) (hl:ee 2 rH gH w v l) (Kv:Nat) (fi:Int)
  (hE:∀args w,(callFunc Kv args).run prog w= .ok (.enter Kv args) w)
  (hp:∀e∈l,∀u w',Below w.heap.size w w' ->gH w' e u ->Calls prog Kv #[.agg #[u.1,u.2]] w' (ew (p e) w')):
  Calls prog 90 #[v, .int .i64 fi, .func (.func Kv) #[] #[]] w (ew (decide ((l.length:Int) <=fi)&&l.all p) w):=by
 have HP:=V hp;obtain⟨a,cap,rfl,h1,h2⟩:∃a cap,v= .slice a l.length cap/\l.length <=cap/\cap <=9223372036854775807:=ee.slice hl;have HL:=V hl;clear hp hl;by_cases q:(l.length:Int) <=fi
 ·have f:decide ((l.length:Int) <=fi)=true:=aA q
  go_enter func90,ntmps90;go_wp2_with fail;refine bV (Ec (fun e=> !p e) _ l _ (ee.below HL.out ((an _ _).alloc (ag _) _) (fun _ _ h=>h.below ((an _ _).alloc (ag _) _))) 146 #[.pointer (some ⟨w.heap.size,0,none⟩)] (fun args w=>by rfl) ?_) ?_
  ·intro e he u w' hw' hu
   obtain⟨hX,hw⟩:=boxed hw';obtain⟨u1,u2⟩:=u;obtain⟨⟨⟨a1,KK,Mi,-,-,-⟩,Lh⟩,-⟩:=id hu;obtain⟨a2,KA,Mu,-,-⟩:=ee.slice Lh;simp only at Mi Mu;subst Mi Mu;clear Lh;exact EH (p e) _ _ _ _ _ _ Kv #[] _ w' hE hX (fun w2 h2=>by simpa using HP.out e he _ w2 (hw.trans (h2.mono hw.size)) (hu.below h2))
  rintro x w2 ⟨rfl,hb⟩;clear hE;have HF:=V f;clear f;have f:decide ((l.length:Int) <=fi)=true:=HF.out;go_wp2_with fail;go_ret;refine⟨?_,((an _ _).alloc (ag _) _).trans (hb.mono (by simp))⟩;have e1:l.all p= !(l.any fun e=> !p e):=by rw [bT];simp
  rw [f,e1,cm];rfl
 ·have f:decide ((l.length:Int) <=fi)=false:=az q
  go_enter func90,ntmps90;go_wp2_with fail;go_ret;exact⟨by first | rfl | (rw [f];rfl),(an _ _).alloc (ag _) _⟩
theorem Hx (p:UInt8 ->Bool) (v:Value) (l:List UInt8) (w:World) (hl:eJ w v l) (Kv:Nat) (cs:Array Value)
  (hE:∀args w,(callFunc Kv args).run prog w= .ok (.enter Kv args) w)
  (hp:∀e∈l,∀w',Below w.heap.size w w' ->Calls prog Kv (#[bv e]++cs) w' (ew (p e) w')):
  Calls prog 292 #[v, .func (.func Kv) #[] cs] w (jU p l w):=by
 have HP:=V hp;have HI:=V hl;obtain⟨a,cap,rfl,h1,h2,_⟩:=id hl;unfold maxLen at h2;clear hl hp;go_enter func292,ntmps292;go_wp2_with fail;refine eB (fun a' w'=>∃(k:Nat),a'=fr (.slice a l.length cap:: .func (.func Kv) #[] cs::gs a' 2 5 (.int .i64 l.length:: .int .i64 k::gs a' 9 10 []))/\pK p l w w' k) (fun a' _=>(l.length - (intOf (a'.tmps.getD 8 undef)).toNat)) ?_ ?_
 ·exact⟨0,rfl,by omega,fun i hi=>by omega,an _ _⟩
 ·skip
  rintro R a' w1 ⟨k,Kw,hJ⟩ HR;dsimp only [fr,gs]at Kw;generalize slot a'=f at Kw;subst Kw;obtain⟨hk,hm,hb⟩:=hJ;have Lv:=V hm;clear hm;by_cases Ls:k < l.length;rotate_left
  ·obtain rfl:k=l.length:=by omega
   go_wp2_with fail;go_ret;exact⟨by rw [gO Lv.out];rfl,hb⟩
  obtain⟨e,he⟩:∃e,l[k]?=some e:=⟨_,aq Ls⟩;obtain⟨a',KR,hv,_,_,Kt⟩:=HI.out.below (hb.mono (ag _));injection hv with e1 e2 e3;subst e1 e3;obtain⟨b,off,rfl,c0⟩:=Kt k e he;have KE:=HP.out e (aO he) w1 hb;have HE:=V he;clear Kt e2 he;cases hq:p e
  all_goals
   rw [hq]at KE;have HQ:=V hq;clear hq;go_wp2_with fail;refine KE.mono ?_;rintro x w2 ⟨rfl,Kx⟩;replace hb:=dY hb Kx;clear KE Kx c0;go_wp2_with fail
  ·refine HR.out _ _ ⟨k+1,rfl,by omega,?_,hb⟩ ?_
   ·intro i hi d hd
    rcases bC i k with h | h
    ·exact Lv.out i h d hd
    ·obtain rfl:i=k:=by omega
     rw [HE.out]at hd;injection hd with hd;rw [<- hd];exact HQ.out
   ·simp [intOf]
    omega
  ·go_ret
   exact⟨by rw [ic HE.out HQ.out Lv.out];rfl,hb⟩
theorem D0 (p:UInt8 ->Bool) (v:Value) (l:List UInt8) (w:World) (hl:eJ w v l) (Kv:Nat) (cs:Array Value)
  (hE:∀args w,(callFunc Kv args).run prog w= .ok (.enter Kv args) w)
  (hp:∀e∈l,∀w',Below w.heap.size w w' ->Calls prog Kv (#[bv e]++cs) w' (ew (p e) w')):
  Calls prog 285 #[v, .func (.func Kv) #[] cs] w (ew (l.any p) w):=by
 go_enter func285,ntmps285;go_wp2_with fail;refine(Hx p v l _ hl Kv cs hE hp).mono ?_;rintro x w2 ⟨rfl,hb⟩;clear hE;go_wp2_with fail;go_ret;exact⟨by rw [<- iu];rfl,hb⟩
theorem Fk (b:Bool) (c:UInt8) (Kv:Nat) (cs:Array Value) (X:Nat) (w:World)
  (hE:∀args w,(callFunc Kv args).run prog w= .ok (.enter Kv args) w) (hX:w.cell? ⟨X,0,none⟩=some (.func (.func Kv) #[] cs))
  (hp:∀w',Below w.heap.size w w' ->Calls prog Kv (#[bv c]++cs) w' (ew b w')):
  Calls prog 286 #[bv c, .pointer (some ⟨X,0,none⟩)] w (ew (!b) w):=by
 have KC:=aT w _ hX;have HP:=V hp;clear hp;go_enter func286,ntmps286;go_wp2_with fail;refine(HP.out _ (an _ _)).mono ?_;rintro x w2 ⟨rfl,hb⟩;clear hE hX;go_wp2_with fail;go_ret;exact⟨rfl,hb⟩
theorem Ei (p:UInt8 ->Bool) (v:Value) (l:List UInt8) (w:World) (hl:eJ w v l) (Kv:Nat) (fi:Int)
  (hE:∀args w,(callFunc Kv args).run prog w= .ok (.enter Kv args) w)
  (hp:∀e∈l,∀w',Below w.heap.size w w' ->Calls prog Kv #[bv e] w' (ew (p e) w')):
  Calls prog 248 #[v, .int .i64 fi, .func (.func Kv) #[] #[]] w (ew (decide ((l.length:Int) <=fi)&&l.all p) w):=by
 have HP:=V hp;obtain⟨a,cap,rfl,h1,h2⟩:∃a cap,v= .slice a l.length cap/\l.length <=cap/\cap <=9223372036854775807:=vF hl;have HL:=V hl;clear hp hl;by_cases q:(l.length:Int) <=fi
 ·have f:decide ((l.length:Int) <=fi)=true:=aA q
  go_enter func248,ntmps248;go_wp2_with fail;refine bV (D0 (fun e=> !p e) _ l _ (HL.out.below ((an _ _).alloc (ag _) _)) 286 #[.pointer (some ⟨w.heap.size,0,none⟩)] (fun args w=>by rfl) ?_) ?_
  ·intro e he w' hw'
   obtain⟨hX,hw⟩:=boxed hw';exact Fk (p e) _ Kv #[] _ w' hE hX (fun w2 h2=>by simpa using HP.out e he w2 (hw.trans (h2.mono hw.size)))
  rintro x w2 ⟨rfl,hb⟩;clear hE;have HF:=V f;clear f;have f:decide ((l.length:Int) <=fi)=true:=HF.out;go_wp2_with fail;go_ret;refine⟨?_,((an _ _).alloc (ag _) _).trans (hb.mono (by simp))⟩;have e1:l.all p= !(l.any fun e=> !p e):=by rw [bT];simp
  rw [f,e1,cm];rfl
 ·have f:decide ((l.length:Int) <=fi)=false:=az q
  go_enter func248,ntmps248;go_wp2_with fail;go_ret;exact⟨by first | rfl | (rw [f];rfl),(an _ _).alloc (ag _) _⟩
def uJ (n:Int):Bool:= !lN n 0 1000
theorem F1 (l:List Int):l.any uJ=false↔∀n∈l,fV n:=by
 rw [dB]
 constructor
 ·intro h n hn
  have:=h n hn;simp only [uJ,dQ,Bool.not_eq_false]at this;exact jM.1 (by simpa using this)
 ·intro h n hn
  have:=jM.2 (h n hn);simp [uJ,this]
theorem vB (n:Int) (w:World):Calls prog 153 #[.int .i64 n] w (ew (uJ n) w):=by
 go_enter func153,ntmps153;go_wp2_with fail;refine(nq n _).mono ?_;rintro x w1 ⟨rfl,hb⟩;go_wp2_with fail;go_ret;exact⟨rfl,hb⟩
theorem zJ (v:Value) (l:List Int) (w:World) (hl:eg 1 fb w v l):
  Calls prog 100 #[v, .func (.func 153) #[] #[]] w (jU uJ l w):=by
 have HI:=V hl;have hl':=hl;obtain⟨a,cap,rfl,h1,h2,_⟩:=hl';unfold maxLen at h2;clear hl;go_enter func100,ntmps100;go_wp2_with fail;refine eB (fun a' w'=>∃(k:Nat),a'=fr (.slice a l.length cap:: .func (.func 153) #[] #[]::gs a' 2 5 (.int .i64 l.length:: .int .i64 k::gs a' 9 10 []))/\pK uJ l w w' k) (fun a' _=>(l.length - (intOf (a'.tmps.getD 8 undef)).toNat)) ?_ ?_
 ·exact⟨0,rfl,by omega,fun i hi=>by omega,an _ _⟩
 ·skip
  rintro R a' w1 ⟨k,Kw,hJ⟩ HR;dsimp only [fr,gs]at Kw;generalize slot a'=f at Kw;subst Kw;obtain⟨hk,hm,hb⟩:=hJ;have Lv:=V hm;clear hm;by_cases Ls:k < l.length;rotate_left
  ·obtain rfl:k=l.length:=by omega
   go_wp2_with fail;go_ret;exact⟨by rw [gO Lv.out];rfl,hb⟩
  obtain⟨e,he⟩:∃e,l[k]?=some e:=⟨_,aq Ls⟩;obtain⟨a',KR,hv,_,_,Kt⟩:=HI.out.below (hb.mono (ag _));injection hv with e1 e2 e3;subst e1 e3;obtain⟨b,off,rfl,KC,hc⟩:=Kt k e he;have c0:=hc 0 _ rfl;rw [aL,bo]at c0;have HE:=V he;clear Kt e2 he hc;have KE:=vB e w1;cases hq:uJ e
  all_goals
   rw [hq]at KE;have HQ:=V hq;clear hq;go_wp2_with fail;refine KE.mono ?_;rintro x w2 ⟨rfl,Kx⟩;replace hb:=dY hb Kx;clear KE Kx;go_wp2_with fail
  ·refine HR.out _ _ ⟨k+1,rfl,by omega,?_,hb⟩ ?_
   ·intro i hi d hd
    rcases bC i k with h | h
    ·exact Lv.out i h d hd
    ·obtain rfl:i=k:=by omega
     rw [HE.out]at hd;injection hd with hd;rw [<- hd];exact HQ.out
   ·simp [intOf]
    omega
  ·go_ret
   exact⟨by rw [ic HE.out HQ.out Lv.out];rfl,hb⟩
theorem xI (v:Value) (l:List Int) (w:World) (hl:eg 1 fb w v l):
  Calls prog 63 #[v, .func (.func 153) #[] #[]] w (ew (l.any uJ) w):=by
 go_enter func63,ntmps63;go_wp2_with fail;refine(zJ v l _ hl).mono ?_;rintro x w2 ⟨rfl,hb⟩;go_wp2_with fail;go_ret;exact⟨by rw [<- iu];rfl,hb⟩
def gC (f:Nat) (a b:Int) (l:List Int):Bool:=
 if(f≠4/\0 < l.length)\/(f≠6/\b≠0)then false else
 match f with
 | 1=>decide (a=0)
 | 2=>lN a 0 2
 | 3=>lN a 0 1000
 | 4=>lN a 0 1000&&(decide (l.length <=50)&& !l.any uJ)
 | 5=>lN a 0 1000
 | 6=>lN a 0 3&&lN b 0 4294967295
 | 7=>decide (a=0)
 | 8=>lN a (-2147483648) 2147483647
 | 9=>true
 | _=>false
theorem IJ (x:eK):decide x.may=gC (fJ x.op) x.a x.b x.l:=by
 rw [dy,decide_eq_true_iff];have QL:=nT x.op;have hn:x.l=[]↔¬ 0 < x.l.length:=by rw [dI];simp
 unfold eK.may gC;generalize fJ x.op=f at*;by_cases h:(f≠4/\0 < x.l.length)\/(f≠6/\x.b≠0)
 ·rw [aJ h]
  rw [hn]
  constructor
  ·rintro⟨h1,h2,_⟩
   rcases h with⟨g1,g2⟩ | ⟨g1,g2⟩
   ·exact absurd g2 (h1 g1)
   ·exact absurd (h2 g1) g2
  ·intro g;cases g
 ·rw [aC h]
  have h1:f≠4 ->x.l=[]:=fun g=>by rw [hn];exact fun k=>h (.inl ⟨g,k⟩)
  have h2:f≠6 ->x.b=0:=fun g=>by
   rcases Decidable.em (x.b=0)with k | k
   ·exact k
   ·exact absurd (.inr ⟨g,k⟩) h
  have hs:(x.l.any uJ=false)↔∀n∈x.l,fV n:=F1 x.l;rcases(show f=0\/f=1\/f=2\/f=3\/f=4\/f=5\/f=6\/f=7\/f=8\/f=9 by omega)with rfl | rfl | rfl | rfl | rfl | rfl | rfl | rfl | rfl | rfl
  ·simp
  ·simp [h1,h2]
  ·simp [h1,h2,jM]
  ·simp [h1,h2,jM,fV]
  ·simp [h2,jM,hs,fV]
  ·simp [h1,h2,jM,fV]
  ·simp [h1,jM]
  ·simp [h1,h2]
  ·simp [h1,h2,jM]
  ·simp [h1,h2]
theorem wY (x:eK) (u:Value) (w:World) (hx:gN w x u):Calls prog 95 #[.agg #[.int .i64 x.op, .int .i64 x.a, .int .i64 x.b,u]] w (ew (decide x.may) w):=by
 have Mg:=IJ x;have QL:=nT x.op;obtain⟨op,a,b,l⟩:=x;have hx':=hx;obtain⟨⟨au,KD,rfl,h1,h2,-⟩,KF⟩:=hx';obtain⟨⟨o1,o2⟩,⟨a1,a2⟩,⟨b1,b2⟩,-⟩:=KF;unfold maxLen at h2;simp only at Mg QL h1 h2 o1 o2 a1 a2 b1 b2;obtain⟨f,hf⟩:∃f,fJ op=f:=⟨_,rfl⟩;obtain⟨m,hm⟩:∃m,decide (eK.may ⟨op,a,b,l⟩)=m:=⟨_,rfl⟩;rw [hf]at Mg QL;rw [hm]at Mg;have HX:=V hx.1;have HF:=V hf;have HM:=V hm;have HB:=V Mg;clear hx hf hm Mg;go_enter func95,ntmps95;go_wp2_with fail;refine(tO op _).mono ?_;rintro e w1 ⟨rfl,KJ⟩;rw [HF.out];have hb:Below w.heap.size w w1:=((an _ _).alloc (ag _) _).trans (KJ.mono (by simp));have Kt:∀i v,(#[Value.int .i64 op, .int .i64 a, .int .i64 b, .slice au l.length KD])[i]?=some v ->w1.cell? ⟨w.heap.size,i,none⟩=some v:=fun i v h=>by
  rw [KJ.cell (by simp),bQ];exact h
 have c1:=Kt 1 _ rfl;have c2:=Kt 2 _ rfl;have c3:=Kt 3 _ rfl;have HX1:=V (HX.out.below hb);clear Kt KJ;rcases(show f=0\/f=1\/f=2\/f=3\/f=4\/f=5\/f=6\/f=7\/f=8\/f=9 by omega)with rfl | rfl | rfl | rfl | rfl | rfl | rfl | rfl | rfl | rfl
 ·skip
  rcases aZ l.length with q | q;rotate_left
  ·have q':¬ l=[]:=fun e=>by rw [e]at q;exact absurd q (by decide)
   have KY:Hid (gC 0 a b l=false):=V (by unfold gC;rw [if_pos (.inl ⟨by decide,q⟩)]);go_wp2_with fail;go_ret;exact⟨by rw [HM.out,HB.out,KY.out];rfl,hb⟩
  obtain rfl:=aH q;clear q;by_cases r:b=0;rotate_left
  ·have r':(b !=0)=true:=ff r
   have KY:Hid (gC 0 a b []=false):=V (by unfold gC;rw [if_pos (.inr ⟨by decide,r⟩)]);clear r;go_wp2_with fail;go_ret;exact⟨by rw [HM.out,HB.out,KY.out];rfl,hb⟩
  subst r;have KY:Hid (gC 0 a 0 []=false):=V (by unfold gC;exact(if_neg (by simp)).trans rfl);go_wp2_with fail;go_ret;exact⟨by rw [HM.out,HB.out,KY.out];rfl,hb⟩
 ·skip
  rcases aZ l.length with q | q;rotate_left
  ·have q':¬ l=[]:=fun e=>by rw [e]at q;exact absurd q (by decide)
   have KY:Hid (gC 1 a b l=false):=V (by unfold gC;rw [if_pos (.inl ⟨by decide,q⟩)]);go_wp2_with fail;go_ret;exact⟨by rw [HM.out,HB.out,KY.out];rfl,hb⟩
  obtain rfl:=aH q;clear q;by_cases r:b=0;rotate_left
  ·have r':(b !=0)=true:=ff r
   have KY:Hid (gC 1 a b []=false):=V (by unfold gC;rw [if_pos (.inr ⟨by decide,r⟩)]);clear r;go_wp2_with fail;go_ret;exact⟨by rw [HM.out,HB.out,KY.out];rfl,hb⟩
  subst r;have KY:Hid (gC 1 a 0 []=decide (a=0)):=V (by unfold gC;exact(if_neg (by simp)).trans rfl);by_cases r:a=0
  ·have r':(a==0)=true:=eH r
   have KY:Hid (gC 1 a 0 []=true):=V (by rw [KY.out,r];rfl);clear r;go_wp2_with fail;go_ret;exact⟨by rw [HM.out,HB.out,KY.out];rfl,hb⟩
  ·have r':(a==0)=false:=dS r
   have KY:Hid (gC 1 a 0 []=false):=V (by rw [KY.out];exact az r);clear r;go_wp2_with fail;go_ret;exact⟨by rw [HM.out,HB.out,KY.out];rfl,hb⟩
 ·skip
  rcases aZ l.length with q | q;rotate_left
  ·have q':¬ l=[]:=fun e=>by rw [e]at q;exact absurd q (by decide)
   have KY:Hid (gC 2 a b l=false):=V (by unfold gC;rw [if_pos (.inl ⟨by decide,q⟩)]);go_wp2_with fail;go_ret;exact⟨by rw [HM.out,HB.out,KY.out];rfl,hb⟩
  obtain rfl:=aH q;clear q;by_cases r:b=0;rotate_left
  ·have r':(b !=0)=true:=ff r
   have KY:Hid (gC 2 a b []=false):=V (by unfold gC;rw [if_pos (.inr ⟨by decide,r⟩)]);clear r;go_wp2_with fail;go_ret;exact⟨by rw [HM.out,HB.out,KY.out];rfl,hb⟩
  subst r;have KY:Hid (gC 2 a 0 []=lN a 0 2):=V (by unfold gC;exact(if_neg (by simp)).trans rfl);go_wp2_with fail;refine(ki a 0 2 _).mono ?_;rintro e w2 ⟨rfl,Kx⟩;replace hb:=dY hb Kx;clear Kx;go_wp2_with fail;go_ret;exact⟨by rw [HM.out,HB.out,KY.out];rfl,hb⟩
 ·skip
  rcases aZ l.length with q | q;rotate_left
  ·have q':¬ l=[]:=fun e=>by rw [e]at q;exact absurd q (by decide)
   have KY:Hid (gC 3 a b l=false):=V (by unfold gC;rw [if_pos (.inl ⟨by decide,q⟩)]);go_wp2_with fail;go_ret;exact⟨by rw [HM.out,HB.out,KY.out];rfl,hb⟩
  obtain rfl:=aH q;clear q;by_cases r:b=0;rotate_left
  ·have r':(b !=0)=true:=ff r
   have KY:Hid (gC 3 a b []=false):=V (by unfold gC;rw [if_pos (.inr ⟨by decide,r⟩)]);clear r;go_wp2_with fail;go_ret;exact⟨by rw [HM.out,HB.out,KY.out];rfl,hb⟩
  subst r;have KY:Hid (gC 3 a 0 []=lN a 0 1000):=V (by unfold gC;exact(if_neg (by simp)).trans rfl);go_wp2_with fail;refine(nq a _).mono ?_;rintro e w2 ⟨rfl,Kx⟩;replace hb:=dY hb Kx;clear Kx;go_wp2_with fail;go_ret;exact⟨by rw [HM.out,HB.out,KY.out];rfl,hb⟩
 ·skip
  by_cases r:b=0;rotate_left
  ·have r':(b !=0)=true:=ff r
   have KY:Hid (gC 4 a b l=false):=V (by unfold gC;rw [if_pos (.inr ⟨by decide,r⟩)]);clear r;go_wp2_with fail;go_ret;exact⟨by rw [HM.out,HB.out,KY.out];rfl,hb⟩
  subst r;have KY:Hid (gC 4 a 0 l=(lN a 0 1000&&(decide (l.length <=50)&& !l.any uJ))):=V (by unfold gC;exact(if_neg (by simp)).trans rfl);go_wp2_with fail;refine(nq a _).mono ?_;rintro e w2 ⟨rfl,Kx⟩;have c3':=(Kx.cell (aT w1 _ c3)).trans c3;clear c1 c2 c3;cases h6:lN a 0 1000
  ·have H6:=V h6
   replace hb:=hb.trans (Kx.mono hb.size);clear h6 Kx c3';go_wp2_with fail;go_ret;exact⟨by rw [HM.out,HB.out,KY.out,H6.out];rfl,hb⟩
  have H6:=V h6;clear h6;by_cases q:l.length <=50
  ·have q1:decide ((l.length:Int) <=50)=true:=aA (by omega)
   have Q:=V (aA q);clear q;go_wp2_with fail;refine(xI _ l _ (HX1.out.below (Kx.mono (ag _)))).mono ?_;rintro e w3 ⟨rfl,K9⟩;replace hb:=(hb.trans (Kx.mono hb.size)).trans (K9.mono (hb.trans (Kx.mono hb.size)).size);clear Kx K9 c3' q1;go_wp2_with fail;go_ret;exact⟨by rw [HM.out,HB.out,KY.out,H6.out,Q.out,cm,cm];rfl,hb⟩
  ·have q1:decide ((l.length:Int) <=50)=false:=az (by omega)
   have Q:=V (az q);replace hb:=hb.trans (Kx.mono hb.size);clear q Kx;go_wp2_with fail;go_ret;exact⟨by rw [HM.out,HB.out,KY.out,H6.out,Q.out];rfl,hb⟩
 ·skip
  rcases aZ l.length with q | q;rotate_left
  ·have q':¬ l=[]:=fun e=>by rw [e]at q;exact absurd q (by decide)
   have KY:Hid (gC 5 a b l=false):=V (by unfold gC;rw [if_pos (.inl ⟨by decide,q⟩)]);go_wp2_with fail;go_ret;exact⟨by rw [HM.out,HB.out,KY.out];rfl,hb⟩
  obtain rfl:=aH q;clear q;by_cases r:b=0;rotate_left
  ·have r':(b !=0)=true:=ff r
   have KY:Hid (gC 5 a b []=false):=V (by unfold gC;rw [if_pos (.inr ⟨by decide,r⟩)]);clear r;go_wp2_with fail;go_ret;exact⟨by rw [HM.out,HB.out,KY.out];rfl,hb⟩
  subst r;have KY:Hid (gC 5 a 0 []=lN a 0 1000):=V (by unfold gC;exact(if_neg (by simp)).trans rfl);go_wp2_with fail;refine(nq a _).mono ?_;rintro e w2 ⟨rfl,Kx⟩;replace hb:=dY hb Kx;clear Kx;go_wp2_with fail;go_ret;exact⟨by rw [HM.out,HB.out,KY.out];rfl,hb⟩
 ·skip
  rcases aZ l.length with q | q;rotate_left
  ·have q':¬ l=[]:=fun e=>by rw [e]at q;exact absurd q (by decide)
   have KY:Hid (gC 6 a b l=false):=V (by unfold gC;rw [if_pos (.inl ⟨by decide,q⟩)]);go_wp2_with fail;go_ret;exact⟨by rw [HM.out,HB.out,KY.out];rfl,hb⟩
  obtain rfl:=aH q;clear q;have KY:Hid (gC 6 a b []=(lN a 0 3&&lN b 0 4294967295)):=V (by unfold gC;exact(if_neg (by simp)).trans rfl);go_wp2_with fail;refine(ki a 0 3 _).mono ?_;rintro e w2 ⟨rfl,Kx⟩;have c2':=(Kx.cell (aT w1 _ c2)).trans c2;clear c1 c2 c3;cases h6:lN a 0 3
  ·have H6:=V h6
   replace hb:=hb.trans (Kx.mono hb.size);clear h6 Kx c2';go_wp2_with fail;go_ret;exact⟨by rw [HM.out,HB.out,KY.out,H6.out];rfl,hb⟩
  have H6:=V h6;clear h6;go_wp2_with fail;refine(ki b 0 4294967295 _).mono ?_;rintro e w3 ⟨rfl,K9⟩;replace hb:=(hb.trans (Kx.mono hb.size)).trans (K9.mono (hb.trans (Kx.mono hb.size)).size);clear Kx K9 c2';go_wp2_with fail;go_ret;exact⟨by rw [HM.out,HB.out,KY.out,H6.out,cm];rfl,hb⟩
 ·skip
  rcases aZ l.length with q | q;rotate_left
  ·have q':¬ l=[]:=fun e=>by rw [e]at q;exact absurd q (by decide)
   have KY:Hid (gC 7 a b l=false):=V (by unfold gC;rw [if_pos (.inl ⟨by decide,q⟩)]);go_wp2_with fail;go_ret;exact⟨by rw [HM.out,HB.out,KY.out];rfl,hb⟩
  obtain rfl:=aH q;clear q;by_cases r:b=0;rotate_left
  ·have r':(b !=0)=true:=ff r
   have KY:Hid (gC 7 a b []=false):=V (by unfold gC;rw [if_pos (.inr ⟨by decide,r⟩)]);clear r;go_wp2_with fail;go_ret;exact⟨by rw [HM.out,HB.out,KY.out];rfl,hb⟩
  subst r;have KY:Hid (gC 7 a 0 []=decide (a=0)):=V (by unfold gC;exact(if_neg (by simp)).trans rfl);by_cases r:a=0
  ·have r':(a==0)=true:=eH r
   have KY:Hid (gC 7 a 0 []=true):=V (by rw [KY.out,r];rfl);clear r;go_wp2_with fail;go_ret;exact⟨by rw [HM.out,HB.out,KY.out];rfl,hb⟩
  ·have r':(a==0)=false:=dS r
   have KY:Hid (gC 7 a 0 []=false):=V (by rw [KY.out];exact az r);clear r;go_wp2_with fail;go_ret;exact⟨by rw [HM.out,HB.out,KY.out];rfl,hb⟩
 ·skip
  rcases aZ l.length with q | q;rotate_left
  ·have q':¬ l=[]:=fun e=>by rw [e]at q;exact absurd q (by decide)
   have KY:Hid (gC 8 a b l=false):=V (by unfold gC;rw [if_pos (.inl ⟨by decide,q⟩)]);go_wp2_with fail;go_ret;exact⟨by rw [HM.out,HB.out,KY.out];rfl,hb⟩
  obtain rfl:=aH q;clear q;by_cases r:b=0;rotate_left
  ·have r':(b !=0)=true:=ff r
   have KY:Hid (gC 8 a b []=false):=V (by unfold gC;rw [if_pos (.inr ⟨by decide,r⟩)]);clear r;go_wp2_with fail;go_ret;exact⟨by rw [HM.out,HB.out,KY.out];rfl,hb⟩
  subst r;have KY:Hid (gC 8 a 0 []=lN a (-2147483648) 2147483647):=V (by unfold gC;exact(if_neg (by simp)).trans rfl);go_wp2_with fail;refine(ki a (-2147483648) 2147483647 _).mono ?_;rintro e w2 ⟨rfl,Kx⟩;replace hb:=dY hb Kx;clear Kx;go_wp2_with fail;go_ret;exact⟨by rw [HM.out,HB.out,KY.out];rfl,hb⟩
 ·skip
  rcases aZ l.length with q | q;rotate_left
  ·have q':¬ l=[]:=fun e=>by rw [e]at q;exact absurd q (by decide)
   have KY:Hid (gC 9 a b l=false):=V (by unfold gC;rw [if_pos (.inl ⟨by decide,q⟩)]);go_wp2_with fail;go_ret;exact⟨by rw [HM.out,HB.out,KY.out];rfl,hb⟩
  obtain rfl:=aH q;clear q;by_cases r:b=0;rotate_left
  ·have r':(b !=0)=true:=ff r
   have KY:Hid (gC 9 a b []=false):=V (by unfold gC;rw [if_pos (.inr ⟨by decide,r⟩)]);clear r;go_wp2_with fail;go_ret;exact⟨by rw [HM.out,HB.out,KY.out];rfl,hb⟩
  subst r;have KY:Hid (gC 9 a 0 []=true):=V (by unfold gC;exact(if_neg (by simp)).trans rfl);go_wp2_with fail;go_ret;exact⟨by rw [HM.out,HB.out,KY.out];rfl,hb⟩
theorem ld {α:Type} (p:α ->Prop) [DecidablePred p] (l:List α) (n:Int):(decide ((l.length:Int) <=n)&&l.all fun x=>decide (p x))=decide ((l.length:Int) <=n/\∀x∈l,p x):=by
 rw [dy];simp
theorem qC (n:Int) (w:World):Calls prog 159 #[.int .i64 n] w (ew (decide (fV n)) w):=by
 by_cases q1:0 <=n
 ·have f1:decide (0 <=n)=true:=aA q1
  have HB:Hid (decide (fV n)=decide (n <=1000)):=V (by simp [fV,q1]);clear q1;go_enter func159,ntmps159;go_wp2_with fail;go_ret;exact⟨by rw [HB.out];rfl,an _ _⟩
 ·have f1:decide (0 <=n)=false:=az q1
  have HB:Hid (decide (fV n)=false):=V (by simp [fV,q1]);clear q1;go_enter func159,ntmps159;go_wp2_with fail;go_ret;exact⟨by rw [HB.out];rfl,an _ _⟩
theorem C8 (n:Int) (w:World):Calls prog 93 #[.int .i64 n] w (ew (decide (kindOk n)) w):=by
 by_cases q1:n=1
 ·have HB:Hid (decide (kindOk n)=true):=V (by simp [kindOk,q1])
  have f1:=eH q1;clear q1;go_enter func93,ntmps93;go_wp2_with fail;go_ret;exact⟨by rw [HB.out];rfl,an _ _⟩
 ·have f1:=dS q1
  have HB:Hid (decide (kindOk n)=(n==2)):=V (by simp only [kindOk,q1,false_or];rw [dy];simp);clear q1;go_enter func93,ntmps93;go_wp2_with fail;go_ret;exact⟨by rw [HB.out];rfl,an _ _⟩
theorem zF (n:Int) (w:World):Calls prog 166 #[.int .i64 n] w (ew (decide (mb n)) w):=by
 by_cases q1: -2147483648 <=n
 ·have f1:decide (-2147483648 <=n)=true:=aA q1
  have HB:Hid (decide (mb n)=decide (n <=2147483647)):=V (by simp [mb,q1]);clear q1;go_enter func166,ntmps166;go_wp2_with fail;go_ret;exact⟨by rw [HB.out];rfl,an _ _⟩
 ·have f1:decide (-2147483648 <=n)=false:=az q1
  have HB:Hid (decide (mb n)=false):=V (by simp only [mb,q1,false_and];rfl);clear q1;go_enter func166,ntmps166;go_wp2_with fail;go_ret;exact⟨by rw [HB.out];rfl,an _ _⟩
theorem zW (c:UInt8) (w:World):Calls prog 249 #[bv c] w (ew (decide (32 <=c.toNat/\c.toNat <=126)) w):=by
 by_cases q1:32 <=c.toNat
 ·have f1:decide ((32:Int) <=c.toNat)=true:=aA (by omega)
  have HB:Hid (decide (32 <=c.toNat/\c.toNat <=126)=decide ((c.toNat:Int) <=126)):=V (by rw [dy];simp [q1];omega);clear q1;go_enter func249,ntmps249;go_wp2_with fail;go_ret;exact⟨by rw [HB.out];rfl,an _ _⟩
 ·have f1:decide ((32:Int) <=c.toNat)=false:=az (by omega)
  have HB:Hid (decide (32 <=c.toNat/\c.toNat <=126)=false):=V (by simp [q1]);clear q1;go_enter func249,ntmps249;go_wp2_with fail;go_ret;exact⟨by rw [HB.out];rfl,an _ _⟩
theorem oA (v:Value) (l:List Int) (n:Int) (w:World) (hl:eg 1 fb w v l):Calls prog 92 #[v, .int .i64 n, .func (.func 93) #[] #[]] w (ew (decide ((l.length:Int) <=n/\∀k∈l,kindOk k)) w):=by
 rw [<- ld];exact tt (fun k=>decide (kindOk k)) v l w hl 93 n (fun _ _=>by rfl) (fun e _ w' _=>C8 e w')
theorem pN (v:Value) (l:List Int) (n:Int) (w:World) (hl:eg 1 fb w v l):Calls prog 92 #[v, .int .i64 n, .func (.func 159) #[] #[]] w (ew (decide ((l.length:Int) <=n/\∀k∈l,fV k)) w):=by
 rw [<- ld];exact tt (fun k=>decide (fV k)) v l w hl 159 n (fun _ _=>by rfl) (fun e _ w' _=>qC e w')
theorem vx (v:Value) (l:List eK) (n:Int) (w:World) (hl:gd w v l):Calls prog 94 #[v, .int .i64 n, .func (.func 95) #[] #[]] w (ew (decide ((l.length:Int) <=n/\∀y∈l,y.may)) w):=by
 rw [<- ld];exact FW (fun y=>decide y.may) v l w hl 95 n (fun _ _=>by rfl) (fun e _ u w' _ hu=>wY e u w' hu)
theorem ER (e:gr) (u:Value × Value) (w:World) (hu:gI w e u):Calls prog 155 #[.agg #[u.1,u.2]] w (ew (decide e.may) w):=by
 obtain⟨u1,u2⟩:=u;have HU:=V hu;obtain⟨⟨⟨a1,KK,Mi,-,-,-⟩,⟨a2,KA,Mu,-,-,-⟩⟩,-⟩:=id hu;simp only at Mi Mu;subst Mi Mu;have HM:Hid (decide e.may=(decide ((e.params.length:Int) <=32/\∀k∈e.params,kindOk k)&&decide ((e.results.length:Int) <=1/\∀k∈e.results,kindOk k))):=V (by rw [<- cJ];exact db.2 (and_congr (dL (by omega)) (dL (by omega))));have B0:=eG.new w #[.slice a1 e.params.length KK, .slice a2 e.results.length KA] 109;have h0:Below w.heap.size w (w.alloc (.cells #[.slice a1 e.params.length KK, .slice a2 e.results.length KA] 109)):=(an _ _).alloc (ag _) _;clear hu;go_enter func155,ntmps155;go_wp2_with fail;refine(oA _ e.params 32 _ (HU.out.1.1.below h0)).mono ?_;rintro x w2 ⟨rfl,hb⟩;obtain⟨r1,hr⟩:∃r,decide ((e.params.length:Int) <=32/\∀k∈e.params,kindOk k)=r:=⟨_,rfl⟩;rw [hr];have R1:=V hr;clear hr;have B1:=B0.below hb B0.lt;have h1:=h0.trans (hb.mono h0.size);have c1:w2.cell? ⟨w.heap.size,1,none⟩=some (.slice a2 e.results.length KA):=B1.cell 1;cases r1
 ·go_wp2_with fail
  go_ret;exact⟨by rw [HM.out,R1.out];rfl,h1⟩
 ·go_wp2_with fail
  refine(oA _ e.results 1 _ (HU.out.1.2.below h1)).mono ?_;rintro x w3 ⟨rfl,hb⟩;obtain⟨r2,hr⟩:∃r,decide ((e.results.length:Int) <=1/\∀k∈e.results,kindOk k)=r:=⟨_,rfl⟩;rw [hr];have R2:=V hr;clear hr;go_wp2_with fail;go_ret;exact⟨by rw [HM.out,R1.out,R2.out];rfl,h1.trans (hb.mono h1.size)⟩
theorem rz (s:ByteArray) (w:World) (hs:s.size <=1000000000000):Calls prog 158 #[.string s] w (ew (decide (jV s)) w):=by
 have hse:s.toList=s.data.toList:=by
  have:=lu s.data.toList;exact this
 have kc:=fun(w:World)=>Dd w s;by_cases q:s.data.toList=[]
 ·have f:s.toList.isEmpty=true:=by rw [hse,q];rfl
  have HB:Hid (decide (jV s)=false):=V (by simp [jV,q]);clear hse q;go_enter func158,ntmps158;go_wp2_with fail;go_ret;exact⟨by rw [HB.out];rfl,an _ _⟩
 ·have f:s.toList.isEmpty=false:=by
   rw [hse];cases h:s.data.toList with
   | nil=>exact absurd h q
   | cons x l=>rfl
  have HB:Hid (decide (jV s)=decide ((s.data.toList.length:Int) <=16/\∀c∈s.data.toList,32 <=c.toNat/\c.toNat <=126)):=V (db.2 ⟨fun h=>⟨by have:=h.2.1;omega,h.2.2⟩,fun h=>⟨q,by have:=h.1;omega,h.2⟩⟩);clear hse q;go_enter func158,ntmps158;go_wp2_with fail;refine(Ei (fun c=>decide (32 <=c.toNat/\c.toNat <=126)) _ s.data.toList _ (GI w s hs) 249 16 (fun _ _=>by rfl) (fun e _ w' _=>zW e w')).mono ?_;rintro x w2 ⟨rfl,hb⟩;obtain⟨r1,hr⟩:∃r,(decide ((s.data.toList.length:Int) <=16)&&s.data.toList.all fun c=>decide (32 <=c.toNat/\c.toNat <=126))=r:=⟨_,rfl⟩;rw [hr];have R1:=V hr;clear hr;go_wp2_with fail;go_ret;exact⟨by rw [HB.out, <- ld,R1.out];rfl,(tc w s).trans (hb.mono (tc w s).size)⟩
theorem Ds (e:jh) (w:World) (hs:e.mod.size <=1000000000000/\e.name.size <=1000000000000):Calls prog 157 #[.agg #[.string e.mod, .string e.name, .int .i64 e.type]] w (ew (decide e.may) w):=by
 have HM:Hid (decide e.may=(decide (jV e.mod)&&(decide (jV e.name)&&decide (fV e.type)))):=V (by rw [<- cJ, <- cJ];rfl);have B0:=eG.new w #[.string e.mod, .string e.name, .int .i64 e.type] 118;have h0:Below w.heap.size w (w.alloc (.cells #[.string e.mod, .string e.name, .int .i64 e.type] 118)):=(an _ _).alloc (ag _) _;go_enter func157,ntmps157;go_wp2_with fail;refine(rz e.mod _ hs.1).mono ?_;rintro x w2 ⟨rfl,hb⟩;obtain⟨r1,hr⟩:∃r,decide (jV e.mod)=r:=⟨_,rfl⟩;rw [hr];have R1:=V hr;clear hr;have B1:=B0.below hb B0.lt;have h1:=h0.trans (hb.mono h0.size);have c1:w2.cell? ⟨w.heap.size,1,none⟩=some (.string e.name):=B1.cell 1;cases r1
 ·go_wp2_with fail
  go_ret;exact⟨by rw [HM.out,R1.out];rfl,h1⟩
 ·go_wp2_with fail
  refine(rz e.name _ hs.2).mono ?_;rintro x w3 ⟨rfl,hb⟩;obtain⟨r2,hr⟩:∃r,decide (jV e.name)=r:=⟨_,rfl⟩;rw [hr];have R2:=V hr;clear hr;have B2:=B1.below hb B1.lt;have h2:=h1.trans (hb.mono h1.size);have c2:w3.cell? ⟨w.heap.size,2,none⟩=some (.int .i64 e.type):=B2.cell 2;cases r2
  ·go_wp2_with fail
   go_ret;exact⟨by rw [HM.out,R1.out,R2.out];rfl,h2⟩
  ·go_wp2_with fail
   refine(qC e.type _).mono ?_;rintro x w4 ⟨rfl,hb⟩;obtain⟨r3,hr⟩:∃r,decide (fV e.type)=r:=⟨_,rfl⟩;rw [hr];have R3:=V hr;clear hr;go_wp2_with fail;go_ret;exact⟨by rw [HM.out,R1.out,R2.out,R3.out];rfl,h2.trans (hb.mono h2.size)⟩
theorem FB (e:ja) (w:World):Calls prog 161 #[.agg #[.bool e.isVar, .int .i64 e.init.kind, .int .i64 e.init.n]] w (ew (decide e.init.may) w):=by
 have B0:=eG.new w #[.bool e.isVar, .int .i64 e.init.kind, .int .i64 e.init.n] 120;have h0:Below w.heap.size w (w.alloc (.cells #[.bool e.isVar, .int .i64 e.init.kind, .int .i64 e.init.n] 120)):=(an _ _).alloc (ag _) _;go_enter func161,ntmps161;go_wp2_with fail;refine(ni e.init _).mono ?_;rintro x w2 ⟨rfl,hb⟩;obtain⟨r1,hr⟩:∃r,decide e.init.may=r:=⟨_,rfl⟩;rw [hr];have R1:=V hr;clear hr;go_wp2_with fail;go_ret;exact⟨by rw [R1.out];rfl,h0.trans (hb.mono h0.size)⟩
theorem D8 (e:iC) (w:World) (hs:e.name.size <=1000000000000):Calls prog 163 #[.agg #[.string e.name, .int .i64 e.func]] w (ew (decide e.may) w):=by
 have HM:Hid (decide e.may=(decide (jV e.name)&&decide (fV e.func))):=V (by rw [<- cJ];rfl);have B0:=eG.new w #[.string e.name, .int .i64 e.func] 111;have h0:Below w.heap.size w (w.alloc (.cells #[.string e.name, .int .i64 e.func] 111)):=(an _ _).alloc (ag _) _;go_enter func163,ntmps163;go_wp2_with fail;refine(rz e.name _ hs).mono ?_;rintro x w2 ⟨rfl,hb⟩;obtain⟨r1,hr⟩:∃r,decide (jV e.name)=r:=⟨_,rfl⟩;rw [hr];have R1:=V hr;clear hr;have B1:=B0.below hb B0.lt;have h1:=h0.trans (hb.mono h0.size);have c1:w2.cell? ⟨w.heap.size,1,none⟩=some (.int .i64 e.func):=B1.cell 1;cases r1
 ·go_wp2_with fail
  go_ret;exact⟨by rw [HM.out,R1.out];rfl,h1⟩
 ·go_wp2_with fail
  refine(qC e.func _).mono ?_;rintro x w4 ⟨rfl,hb⟩;obtain⟨r3,hr⟩:∃r,decide (fV e.func)=r:=⟨_,rfl⟩;rw [hr];have R3:=V hr;clear hr;go_wp2_with fail;go_ret;exact⟨by rw [HM.out,R1.out,R3.out];rfl,h1.trans (hb.mono h1.size)⟩
theorem EU (e:iS) (u:Value) (w:World) (hu:gW w e u):Calls prog 165 #[.agg #[.int .i64 e.off,u]] w (ew (decide e.may) w):=by
 have HU:=V hu;obtain⟨⟨a1,KK,rfl,-,-,-⟩,-⟩:=id hu;clear hu;have HM:Hid (decide e.may=(decide (mb e.off)&&decide ((e.funcs.length:Int) <=50/\∀n∈e.funcs,fV n))):=V (by rw [<- cJ];exact db.2 (and_congr_right' (dL (by omega))));have B0:=eG.new w #[.int .i64 e.off, .slice a1 e.funcs.length KK] 95;have h0:Below w.heap.size w (w.alloc (.cells #[.int .i64 e.off, .slice a1 e.funcs.length KK] 95)):=(an _ _).alloc (ag _) _;go_enter func165,ntmps165;go_wp2_with fail;refine(zF e.off _).mono ?_;rintro x w2 ⟨rfl,hb⟩;obtain⟨r1,hr⟩:∃r,decide (mb e.off)=r:=⟨_,rfl⟩;rw [hr];have R1:=V hr;clear hr;have B1:=B0.below hb B0.lt;have h1:=h0.trans (hb.mono h0.size);have c1:w2.cell? ⟨w.heap.size,1,none⟩=some (.slice a1 e.funcs.length KK):=B1.cell 1;cases r1
 ·go_wp2_with fail
  go_ret;exact⟨by rw [HM.out,R1.out];rfl,h1⟩
 ·go_wp2_with fail
  refine(pN _ e.funcs 50 _ (HU.out.1.below h1)).mono ?_;rintro x w4 ⟨rfl,hb⟩;obtain⟨r3,hr⟩:∃r,decide ((e.funcs.length:Int) <=50/\∀n∈e.funcs,fV n)=r:=⟨_,rfl⟩;rw [hr];have R3:=V hr;clear hr;go_wp2_with fail;go_ret;exact⟨by rw [HM.out,R1.out,R3.out];rfl,h1.trans (hb.mono h1.size)⟩
theorem Ek (e:gp) (u:Value) (w:World) (hu:gq w e u):Calls prog 168 #[.agg #[.int .i64 e.off,u]] w (ew (decide e.may) w):=by
 have HU:=V hu;obtain⟨⟨a1,KK,rfl,-,-,-⟩,-⟩:=id hu;clear hu;have HM:Hid (decide e.may=(decide (mb e.off)&&decide ((e.bytes.length:Int) <=1000))):=V (by rw [<- cJ];exact db.2 (and_congr_right' (by omega)));have B0:=eG.new w #[.int .i64 e.off, .slice a1 e.bytes.length KK] 99;have h0:Below w.heap.size w (w.alloc (.cells #[.int .i64 e.off, .slice a1 e.bytes.length KK] 99)):=(an _ _).alloc (ag _) _;go_enter func168,ntmps168;go_wp2_with fail;refine(zF e.off _).mono ?_;rintro x w2 ⟨rfl,hb⟩;obtain⟨r1,hr⟩:∃r,decide (mb e.off)=r:=⟨_,rfl⟩;rw [hr];have R1:=V hr;clear hr;have B1:=B0.below hb B0.lt;have h1:=h0.trans (hb.mono h0.size);have c1:w2.cell? ⟨w.heap.size,1,none⟩=some (.slice a1 e.bytes.length KK):=B1.cell 1;cases r1
 ·go_wp2_with fail
  go_ret;exact⟨by rw [HM.out,R1.out];rfl,h1⟩
 ·go_wp2_with fail
  go_ret;exact⟨by rw [HM.out,R1.out];rfl,h1⟩
theorem Eo (e:gF) (u:Value × Value) (w:World) (hu:gH w e u):Calls prog 91 #[.agg #[u.1,u.2]] w (ew (decide e.may) w):=by
 obtain⟨u1,u2⟩:=u;have HU:=V hu;obtain⟨⟨⟨a1,KK,Mi,-,-,-⟩,Lh⟩,-⟩:=id hu;obtain⟨a2,KA,Mu,-,-⟩:=ee.slice Lh;simp only at Mi Mu;subst Mi Mu;clear Lh hu;have HM:Hid (decide e.may=((fC e.body).isSome&&(decide ((e.locals.length:Int) <=32/\∀k∈e.locals,kindOk k)&&decide ((e.body.length:Int) <=300/\∀y∈e.body,y.may)))):=V (by
  rw [<- cJ,show(fC e.body).isSome=decide ((fC e.body).isSome=true)by simp, <- cJ];exact db.2 (and_congr_right' (and_congr (dL (by omega)) (dL (by omega)))))
 have B0:=eG.new w #[.slice a1 e.locals.length KK, .slice a2 e.body.length KA] 69;have h0:Below w.heap.size w (w.alloc (.cells #[.slice a1 e.locals.length KK, .slice a2 e.body.length KA] 69)):=(an _ _).alloc (ag _) _;have c1:(w.alloc (.cells #[.slice a1 e.locals.length KK, .slice a2 e.body.length KA] 69)).cell? ⟨w.heap.size,1,none⟩=some (.slice a2 e.body.length KA):=B0.cell 1;go_enter func91,ntmps91;go_wp2_with fail;refine(pw _ e.body _ (HU.out.1.2.below h0)).mono ?_;rintro x w2 ⟨hb,⟨bs,v,hm,rfl,-⟩ | ⟨hm,rfl⟩⟩;rotate_left
 ·have R1:=V (show(fC e.body).isSome=false by rw [hm];rfl)
  have h1:=h0.trans (hb.mono h0.size);clear hm hb;go_wp2_with fail;go_ret;exact⟨by rw [HM.out,R1.out];rfl,h1⟩
 have R1:=V (show(fC e.body).isSome=true by rw [hm];rfl);have B1:=B0.below hb B0.lt;have h1:=h0.trans (hb.mono h0.size);have c0:w2.cell? ⟨w.heap.size,0,none⟩=some (.slice a1 e.locals.length KK):=B1.cell 0;clear hm hb c1;go_wp2_with fail;refine(oA _ e.locals 32 _ (HU.out.1.1.below h1)).mono ?_;rintro x w3 ⟨rfl,hb⟩;obtain⟨r2,hr⟩:∃r,decide ((e.locals.length:Int) <=32/\∀k∈e.locals,kindOk k)=r:=⟨_,rfl⟩;rw [hr];have R2:=V hr;clear hr;have B2:=B1.below hb B1.lt;have h2:=h1.trans (hb.mono h1.size);have c1:w3.cell? ⟨w.heap.size,1,none⟩=some (.slice a2 e.body.length KA):=B2.cell 1;clear c0;cases r2
 ·go_wp2_with fail
  go_ret;exact⟨by rw [HM.out,R1.out,R2.out];rfl,h2⟩
 ·go_wp2_with fail
  refine(vx _ e.body 300 _ (HU.out.1.2.below h2)).mono ?_;rintro x w4 ⟨rfl,hb⟩;obtain⟨r3,hr⟩:∃r,decide ((e.body.length:Int) <=300/\∀y∈e.body,y.may)=r:=⟨_,rfl⟩;rw [hr];have R3:=V hr;clear hr;go_wp2_with fail;go_ret;exact⟨by rw [HM.out,R1.out,R2.out,R3.out];rfl,h2.trans (hb.mono h2.size)⟩
end Go.Proofs.YthbjdhjppbcneaaGreatDoor
