import Derived.Test.YtjmeglibedbljaaGreatDoorRunNoneJ5
import Derived.Deep.Cut
import Derived.Lib.SlBytesConst
import Derived.Lib.ConvBytes
namespace Go.Proofs.YtjmeglibedbljaaGreatDoor
set_option maxRecDepth 100000
set_option maxHeartbeats 20000000
open Go.RowKit Tryz
open Lib renaming hid->V
set_option linter.all false
def Fx (w0 w:World) (R:Nat) (st:gA) (e:Ending) (w':World):Prop:=
 ∃v:eX,e= .returned (.agg #[.int .i64 v.kind, .int .i64 v.n])/\v.ok/\gO gy st v/\fG w0 w' R (et gy st)/\dU (fun k=>k=R) w w'
theorem qI {l r:List UInt8} {x:eP} (h:gf l=some (x,r)) (ok:Bool) (LF:ok=(decide (x.op=65) || decide (x.op=66))) (bad:Bool):
  et gy (if bad=true then none else some l)=et eV (il (l.length - r.length) ok (if bad=true then none else some l)):=by
 obtain⟨p,rfl⟩:=oC h;cases bad with
 | true=>rfl
 | false=>
  have hd:(p++r).drop ((p++r).length - r.length)=r:=by
   have:(p++r).length - r.length=p.length:=by rw [ah];omega
   rw [this,cZ]
  have hs:il ((p++r).length - r.length) ok (some (p++r))=if x.op=65\/x.op=66 then some r else none:=by
   subst LF;simp only [il,ao,hd];by_cases q:x.op=65\/x.op=66
   ·rw [aD ⟨by rcases q with q | q <;>simp [q],by omega⟩,aD q]
   ·have q1:¬ x.op=65:=fun g=>q (.inl g)
    have q2:¬ x.op=66:=fun g=>q (.inr g);rw [az (by simp [q1,q2]),az q]
  show et gy (some (p++r))=et eV (il ((p++r).length - r.length) ok (some (p++r)));rw [hs];simp only [et,gy,h,ao];by_cases q:x.op=65\/x.op=66
  ·rw [aD q,aD q]
   simp only [ao];cases eV r <;>rfl
  ·rw [az q,az q]
   rfl
theorem Db {l r:List UInt8} {x:eP} (h:gf l=some (x,r)) (bad:Bool):gO gy (if bad=true then none else some l) ⟨if x.op=66 then 2 else 1,x.a⟩:=by
 cases bad with
 | true=>exact mo _ _
 | false=>
  intro y hy;simp only [gy,h,bW,dD,ao]at hy;split at hy
  ·cases hb:eV r with
   | none=>rw [hb]at hy;cases hy
   | some c=>rw [hb]at hy;injection hy with hy;rw [<- hy]
  ·cases hy
theorem Cj {l:List UInt8} (h:gf l=none) (n:Nat) (bad:Bool):et gy (if bad=true then none else some l)=et eV (il n false (if bad=true then none else some l))/\∀v,gO gy (if bad=true then none else some l) v:=by
 cases bad with
 | true=>exact⟨rfl,fun v=>mo _ _⟩
 | false=>
  simp only [et,gy,il,h,bW,dD,ao];refine⟨by simp,fun v y hy=>?_⟩;simp [gy,h]at hy
theorem KJ {k n:Int} (hk:k=1\/k=2) (hn:iR n):eX.ok ⟨k,n⟩:=by
 rcases hk with rfl | rfl
 ·exact⟨⟨by show(-9223372036854775808:Int) <=1;decide,by show(1:Int) <=9223372036854775807;decide⟩,hn⟩
 ·exact⟨⟨by show(-9223372036854775808:Int) <=2;decide,by show(2:Int) <=9223372036854775807;decide⟩,hn⟩
theorem wq (w0 w:World) (R:Nat) (st:gA) (h:fG w0 w R st):Calls prog 288 #[.pointer (some ⟨R,0,none⟩)] w (Fx w0 w R st):=by
 have Oc:=h.lt;have Po:=h.old.2;have HH:=V (h.alloc (.cells #[.int .i64 0, .int .i64 0] 52));have LI:=V (eD.new w #[.int .i64 0, .int .i64 0] 52);have HK:=V ((dU.refl (fun k=>k=R) w).alloc (.cells #[.int .i64 0, .int .i64 0] 52));obtain⟨a,l,cap,bad,LN,hl,hlen,LS,LR,-⟩:=HH.out;have c0:(w.alloc (.cells #[.int .i64 0, .int .i64 0] 52)).cell? ⟨R,0,none⟩=some (.slice a l.length cap):=LN.cell 0;have HL:=V (hl.below LR);have Lz:=V LS;clear LN hl LR h LS;go_enter func288,ntmps288;go_wp2_with fail;refine(qX _ l _ HL.out (by omega)).mono ?_;rintro e w1 ⟨hb,⟨x,r,u,hx,rfl,Ml,-⟩ | ⟨err,hx,he,-,rfl⟩⟩
 ·have HA:=V Ml.2.2.1
  have HWS:Hid (gO gy st ⟨if x.op=66 then 2 else 1,x.a⟩):=V (by rw [Lz.out];exact Db hx bad);obtain⟨⟨au,LB,rfl,-,-,-⟩,-⟩:=id Ml;obtain⟨op,xa,xb,xl⟩:=x;simp only at HA HWS⊢;have Mg:=V (eD.new w1 #[.int .i64 op, .int .i64 xa, .int .i64 xb, .slice au xl.length LB] 39);have LI:=V ((LI.out.below hb LI.out.lt).alloc (.cells #[.int .i64 op, .int .i64 xa, .int .i64 xb, .slice au xl.length LB] 39));have HK:=V ((HK.out.trans (dU.dW (S:=fun k=>k=R) hb) (fun _ h=> .inl h)).alloc (.cells #[.int .i64 op, .int .i64 xa, .int .i64 xb, .slice au xl.length LB] 39));have HH:=V ((HH.out.below hb).alloc (.cells #[.int .i64 op, .int .i64 xa, .int .i64 xb, .slice au xl.length LB] 39));have MQ:w.heap.size < w1.heap.size:=by have:=hb.size;rw [aC]at this;omega
  have c3:(w1.alloc (.cells #[.int .i64 op, .int .i64 xa, .int .i64 xb, .slice au xl.length LB] 39)).cell? ⟨w1.heap.size,0,none⟩=some (.int .i64 op):=Mg.out.cell 0;by_cases q1:op=65
  ·have f1:=eI q1
   have f2:(op==66)=false:=dR (by omega);have HN:=V (show et gy st=et eV (il (l.length - r.length) true st)by rw [Lz.out];exact qI hx true (by simp [q1]) bad);have HW:=V (show gO gy st ⟨1,xa⟩by have:=HWS.out;rwa [az (show ¬ op=66 by omega)]at this);clear q1 hb Ml hx c0;go_wp2_with fail;refine(kt w0 _ R _ (l.length - r.length) true (by omega) HH.out).mono ?_;rintro e w2 ⟨rfl,hh,hk⟩;have HH:=V hh;have LI:=V (LI.out.keeps hk (by omega));have Mg:=V (Mg.out.keeps hk (by omega));have HK:=V (HK.out.trans hk (fun _ h=> .inl h));clear hh hk;clear c3;go_wp2_with fail;refine(iM w0 w2 R _ HH.out).mono ?_;rintro e w3 ⟨rfl,hh,hk⟩;have HH:=V hh;have LI:=V (LI.out.keeps hk (by omega));have Mg:=V (Mg.out.keeps hk (by omega));have HK:=V (HK.out.trans hk (fun _ h=> .inl h));clear hh hk;obtain⟨x0,x1,z0,z1⟩:=LI.out.two;have d0:w3.cell? ⟨w1.heap.size,0,none⟩=some (.int .i64 op):=Mg.out.cell 0;have d1:w3.cell? ⟨w1.heap.size,1,none⟩=some (.int .i64 xa):=Mg.out.cell 1;go_wp2_with fail;have hx:=LI.out.mL (.int .i64 1) (.int .i64 xa);have Lx:=fp w3 w.heap.size (.int .i64 1) (.int .i64 xa);refine aF (ej rfl _ _ rfl hx.lq) rfl ?_;exact⟨⟨1,xa⟩,rfl,KJ (.inl rfl) HA.out,HW.out,by rw [HN.out];exact HH.out.keeps Lx (by omega) (fun i hi=>by omega),HK.out.iJ Lx (ag _)⟩
  ·have f1:=dR q1
   by_cases q2:op=66
   ·have f2:=eI q2
    have HN:=V (show et gy st=et eV (il (l.length - r.length) true st)by rw [Lz.out];exact qI hx true (by simp [q2]) bad);have HW:=V (show gO gy st ⟨2,xa⟩by have:=HWS.out;rwa [aD q2]at this);clear q1 q2 hb Ml hx c0;go_wp2_with fail;refine(kt w0 _ R _ (l.length - r.length) true (by omega) HH.out).mono ?_;rintro e w2 ⟨rfl,hh,hk⟩;have HH:=V hh;have LI:=V (LI.out.keeps hk (by omega));have Mg:=V (Mg.out.keeps hk (by omega));have HK:=V (HK.out.trans hk (fun _ h=> .inl h));clear hh hk;clear c3;go_wp2_with fail;refine(iM w0 w2 R _ HH.out).mono ?_;rintro e w3 ⟨rfl,hh,hk⟩;have HH:=V hh;have LI:=V (LI.out.keeps hk (by omega));have Mg:=V (Mg.out.keeps hk (by omega));have HK:=V (HK.out.trans hk (fun _ h=> .inl h));clear hh hk;obtain⟨x0,x1,z0,z1⟩:=LI.out.two;have d0:w3.cell? ⟨w1.heap.size,0,none⟩=some (.int .i64 op):=Mg.out.cell 0;have d1:w3.cell? ⟨w1.heap.size,1,none⟩=some (.int .i64 xa):=Mg.out.cell 1;go_wp2_with fail;have hx:=LI.out.mL (.int .i64 2) (.int .i64 xa);have Lx:=fp w3 w.heap.size (.int .i64 2) (.int .i64 xa);refine aF (ej rfl _ _ rfl hx.lq) rfl ?_;exact⟨⟨2,xa⟩,rfl,KJ (.inr rfl) HA.out,HW.out,by rw [HN.out];exact HH.out.keeps Lx (by omega) (fun i hi=>by omega),HK.out.iJ Lx (ag _)⟩
   ·have f2:=dR q2
    have HN:=V (show et gy st=et eV (il (l.length - r.length) false st)by rw [Lz.out];exact qI hx false (by simp [q1,q2]) bad);have HW:=V (show gO gy st ⟨1,xa⟩by have:=HWS.out;rwa [az q2]at this);clear q1 q2 hb Ml hx c0;go_wp2_with fail;refine(kt w0 _ R _ (l.length - r.length) false (by omega) HH.out).mono ?_;rintro e w2 ⟨rfl,hh,hk⟩;have HH:=V hh;have LI:=V (LI.out.keeps hk (by omega));have Mg:=V (Mg.out.keeps hk (by omega));have HK:=V (HK.out.trans hk (fun _ h=> .inl h));clear hh hk;clear c3;go_wp2_with fail;refine(iM w0 w2 R _ HH.out).mono ?_;rintro e w3 ⟨rfl,hh,hk⟩;have HH:=V hh;have LI:=V (LI.out.keeps hk (by omega));have Mg:=V (Mg.out.keeps hk (by omega));have HK:=V (HK.out.trans hk (fun _ h=> .inl h));clear hh hk;obtain⟨x0,x1,z0,z1⟩:=LI.out.two;have d0:w3.cell? ⟨w1.heap.size,0,none⟩=some (.int .i64 op):=Mg.out.cell 0;have d1:w3.cell? ⟨w1.heap.size,1,none⟩=some (.int .i64 xa):=Mg.out.cell 1;go_wp2_with fail;have hx:=LI.out.mL (.int .i64 1) (.int .i64 xa);have Lx:=fp w3 w.heap.size (.int .i64 1) (.int .i64 xa);refine aF (ej rfl _ _ rfl hx.lq) rfl ?_;exact⟨⟨1,xa⟩,rfl,KJ (.inl rfl) HA.out,HW.out,by rw [HN.out];exact HH.out.keeps Lx (by omega) (fun i hi=>by omega),HK.out.iJ Lx (ag _)⟩
 ·have HA:=V yq
  have Mg:=V (eD.new w1 #[.int .i64 0, .int .i64 0, .int .i64 0, .slice none 0 0] 39);have LI:=V ((LI.out.below hb LI.out.lt).alloc (.cells #[.int .i64 0, .int .i64 0, .int .i64 0, .slice none 0 0] 39));have HK:=V ((HK.out.trans (dU.dW (S:=fun k=>k=R) hb) (fun _ h=> .inl h)).alloc (.cells #[.int .i64 0, .int .i64 0, .int .i64 0, .slice none 0 0] 39));have HH:=V ((HH.out.below hb).alloc (.cells #[.int .i64 0, .int .i64 0, .int .i64 0, .slice none 0 0] 39));have MQ:w.heap.size < w1.heap.size:=by have:=hb.size;rw [aC]at this;omega
  have c3:(w1.alloc (.cells #[.int .i64 0, .int .i64 0, .int .i64 0, .slice none 0 0] 39)).cell? ⟨w1.heap.size,0,none⟩=some (.int .i64 0):=Mg.out.cell 0;have f1:=dR he;obtain⟨hn,hw⟩:=Cj hx 0 bad;rw [<- Lz.out]at hn hw;have HN:=V hn;have HW:=V (hw ⟨1,0⟩);clear hb he hn hw hx c0;go_wp2_with fail;refine(kt w0 _ R _ 0 false (by omega) HH.out).mono ?_;rintro e w2 ⟨rfl,hh,hk⟩;have HH:=V hh;have LI:=V (LI.out.keeps hk (by omega));have Mg:=V (Mg.out.keeps hk (by omega));have HK:=V (HK.out.trans hk (fun _ h=> .inl h));clear hh hk;clear c3;go_wp2_with fail;refine(iM w0 w2 R _ HH.out).mono ?_;rintro e w3 ⟨rfl,hh,hk⟩;have HH:=V hh;have LI:=V (LI.out.keeps hk (by omega));have Mg:=V (Mg.out.keeps hk (by omega));have HK:=V (HK.out.trans hk (fun _ h=> .inl h));clear hh hk;obtain⟨x0,x1,z0,z1⟩:=LI.out.two;have d0:w3.cell? ⟨w1.heap.size,0,none⟩=some (.int .i64 0):=Mg.out.cell 0;have d1:w3.cell? ⟨w1.heap.size,1,none⟩=some (.int .i64 0):=Mg.out.cell 1;go_wp2_with fail;have hx:=LI.out.mL (.int .i64 1) (.int .i64 0);have Lx:=fp w3 w.heap.size (.int .i64 1) (.int .i64 0);refine aF (ej rfl _ _ rfl hx.lq) rfl ?_;exact⟨⟨1,0⟩,rfl,KJ (.inl rfl) HA.out,HW.out,by rw [HN.out];exact HH.out.keeps Lx (by omega) (fun i hi=>by omega),HK.out.iJ Lx (ag _)⟩
def En (w0 w:World) (R:Nat) (st:gA) (e:Ending) (w':World):Prop:=
 ∃n:Int,e= .returned (.int .i64 n)/\iR n/\gO iX st n/\fG w0 w' R (et iX st)/\dU (fun k=>k=R) w w'
theorem Bd (st:gA):et iX st=et gy (et eV st):=by rw [sg,fh,gI]
theorem Dh {st:gA} {v:eX} (h:gO gy (et eV st) v):gO iX st v.n:=by
 rw [sg];exact fo (f:=fun x=>x.2.n) (ib (ml st) h)
theorem si (w0 w:World) (R:Nat) (st:gA) (h:fG w0 w R st):Calls prog 217 #[.pointer (some ⟨R,0,none⟩)] w (En w0 w R st):=by
 have HH:=V h;clear h;go_enter func217,ntmps217;go_wp2_with fail;refine(iM w0 w R st HH.out).mono ?_;rintro e w1 ⟨rfl,h1,hk⟩;have HH1:=V h1;have HK:=V hk;clear h1 hk;go_wp2_with fail;refine(wq w0 w1 R _ HH1.out).mono ?_;rintro e w2 ⟨v,rfl,LF,hw,h2,hk⟩;have HH2:=V h2;have Nv:=V (HK.out.trans hk (fun _ h=> .inl h));have HW:=V (Dh hw);obtain⟨n1,n2⟩:=LF.2;have hfd:∀wx:World,(Instr.field 52 (.agg #[.int .i64 v.kind, .int .i64 v.n]) 1).run prog wx= .ok (.int .i64 v.n) wx:=fun _=>by kernel_rfl
 clear h2 hk hw;go_wp2;go_ret;exact⟨v.n,rfl,⟨n1,n2⟩,HW.out,by rw [Bd];exact HH2.out,Nv.out⟩
def JF (w0 w:World) (R:Nat) (st:gA) (e:Ending) (w':World):Prop:=
 ∃x:fN,e= .returned (.agg #[.bool x.has, .int .i64 x.min, .int .i64 x.max])/\x.ok/\gO fT st x/\fG w0 w' R (et fT st)/\dU (fun k=>k=R) w w'
theorem zi {st:gA} (h:mv st=0):et fT st=et fX (et eV st)/\gO fT st ⟨true,jj (et eV st),-1⟩:=by
 match st,h with
 | none,_=>exact⟨rfl,mo _ _⟩
 | some [],_=>exact⟨rfl,fun y hy=>by simp [fT,eV]at hy⟩
 | some (c::l),h=>
  obtain rfl:c=0:=h;simp only [et,jj,ao,bq,eV,fT,gO];cases hn:fX l with
  | none=>simp
  | some y=>simp
theorem Ao {st:gA} (h:mv st≠0):et fT st=et fX (et fX (et eV st))/\gO fT st ⟨true,jj (et eV st),jj (et fX (et eV st))⟩:=by
 match st,h with
 | none,_=>exact⟨rfl,mo _ _⟩
 | some [],_=>exact⟨rfl,fun y hy=>by simp [fT,eV]at hy⟩
 | some (c::l),h=>
  have hc:c≠0:=h;simp only [et,jj,ao,bq,eV,fT,gO,hc,dD];cases hn:fX l with
  | none=>simp
  | some y=>
   simp only [ao,bq];cases hn2:fX y.2 with
   | none=>simp
   | some z=>simp
theorem Je {n:Nat} {m:Int} (hn:n < 4294967296) (hm: -1 <=m/\m < 4294967296):fN.ok ⟨true,n,m⟩:=⟨⟨by show(-9223372036854775808:Int) <=n;omega,by show(n:Int) <=9223372036854775807;omega⟩,by show(-9223372036854775808:Int) <=m;omega,by show m <=9223372036854775807;omega⟩
theorem uM (w0 w:World) (R:Nat) (st:gA) (h:fG w0 w R st):Calls prog 287 #[.pointer (some ⟨R,0,none⟩)] w (JF w0 w R st):=by
 have Oc:=h.lt;have Po:=h.old.2;have HH:=V ((h.alloc (.cells #[.bool false, .int .i64 0, .int .i64 0] 28)).alloc (.cells #[.bool true, .int .i64 0, .int .i64 (-1)] 28));have LI:=V ((eD.new w #[.bool false, .int .i64 0, .int .i64 0] 28).alloc (.cells #[.bool true, .int .i64 0, .int .i64 (-1)] 28));have Mg:Hid (eD ((w.alloc (.cells #[.bool false, .int .i64 0, .int .i64 0] 28)).alloc (.cells #[.bool true, .int .i64 0, .int .i64 (-1)] 28)) (w.heap.size+1) #[.bool true, .int .i64 0, .int .i64 (-1)] 28):=V (by have:=eD.new (w.alloc (.cells #[.bool false, .int .i64 0, .int .i64 0] 28)) #[.bool true, .int .i64 0, .int .i64 (-1)] 28;rw [aC]at this;exact this);have HK:=V (((dU.refl (fun k=>k=R) w).alloc (.cells #[.bool false, .int .i64 0, .int .i64 0] 28)).alloc (.cells #[.bool true, .int .i64 0, .int .i64 (-1)] 28));have hn1:=lz (et eV st);have hn2:=lz (et fX (et eV st));obtain⟨n,en⟩:∃n,jj (et eV st)=n:=⟨_,rfl⟩;obtain⟨m,em⟩:∃m,jj (et fX (et eV st))=m:=⟨_,rfl⟩;obtain⟨c,ec⟩:∃c,mv st=c:=⟨_,rfl⟩;rw [en]at hn1;rw [em]at hn2;have EN:=V en;have EM:=V em;have EC:=V ec;clear h en em ec;go_enter func287,ntmps287;go_wp2_with fail;refine(iM w0 _ R st HH.out).mono ?_;rintro e w1 ⟨rfl,hh,hk⟩;have HH:=V hh;have LI:=V (LI.out.keeps hk (by omega));have Mg:=V (Mg.out.keeps hk (by omega));have HK:=V (HK.out.trans hk (fun _ h=> .inl h));clear hh hk;rw [EC.out];by_cases q:c=0
 ·have f1:((c.toNat:Int) !=0)=false:=by rw [q];rfl
  have HN:=V ((zi (EC.out.trans q)).1);have HW:=V (show gO fT st ⟨true,n,-1⟩by rw [<- EN.out];exact(zi (EC.out.trans q)).2);clear q;go_wp2_with fail;refine(jI w0 w1 R _ HH.out).mono ?_;rintro e w2 ⟨rfl,hh,hk⟩;have HH:=V hh;have LI:=V (LI.out.keeps hk (by omega));have Mg:=V (Mg.out.keeps hk (by omega));have HK:=V (HK.out.trans hk (fun _ h=> .inl h));clear hh hk;rw [EN.out];obtain⟨y0,y1,y2,-,u1,u2⟩:=Mg.out.Hd;obtain⟨x0,x1,x2,z0,z1,z2⟩:=LI.out.Hd;have Mg:=V ((Mg.out.set 1 (.int .i64 n)));have LI:=V (LI.out.other ⟨w.heap.size+1,1,none⟩ (.int .i64 n) (by show w.heap.size≠w.heap.size+1;omega));have HH:=V (HH.out.keeps (ei w2 (w.heap.size+1) 1 (.int .i64 n)) (by omega) (fun i hi=>by omega));have HK:=V (HK.out.iJ (ei w2 (w.heap.size+1) 1 (.int .i64 n)) (by omega));go_wp2_with fail;have hx:=LI.out.vr (.bool true) (.int .i64 n) (.int .i64 (-1));have Lx:=kp (w2.setCell ⟨w.heap.size+1,1,none⟩ (.int .i64 n)) w.heap.size (.bool true) (.int .i64 n) (.int .i64 (-1));refine aF (ej rfl _ _ rfl hx.pN) rfl ?_;exact⟨⟨true,n,(-1)⟩,rfl,Je hn1 (by omega),HW.out,by rw [HN.out];exact HH.out.keeps Lx (by omega) (fun i hi=>by omega),HK.out.iJ Lx (ag _)⟩
 ·have f1:((c.toNat:Int) !=0)=true:=fa (fun h=>q (du.1 (by show c.toNat=0;omega)))
  have HN:=V ((Ao (fun h=>q (EC.out.symm.trans h))).1);have HW:=V (show gO fT st ⟨true,n,m⟩by rw [<- EN.out, <- EM.out];exact(Ao (fun h=>q (EC.out.symm.trans h))).2);clear q;go_wp2_with fail;refine(jI w0 w1 R _ HH.out).mono ?_;rintro e w2 ⟨rfl,hh,hk⟩;have HH:=V hh;have LI:=V (LI.out.keeps hk (by omega));have Mg:=V (Mg.out.keeps hk (by omega));have HK:=V (HK.out.trans hk (fun _ h=> .inl h));clear hh hk;rw [EN.out];have y1:=Mg.out.cell 1;have u1:=Mg.out.free 1;have Mg:=V ((Mg.out.set 1 (.int .i64 n)));have LI:=V (LI.out.other ⟨w.heap.size+1,1,none⟩ (.int .i64 n) (by show w.heap.size≠w.heap.size+1;omega));have HH:=V (HH.out.keeps (ei w2 (w.heap.size+1) 1 (.int .i64 n)) (by omega) (fun i hi=>by omega));have HK:=V (HK.out.iJ (ei w2 (w.heap.size+1) 1 (.int .i64 n)) (by omega));have Mg:=V (show eD (w2.setCell ⟨w.heap.size+1,1,none⟩ (.int .i64 n)) (w.heap.size+1) #[.bool true, .int .i64 n, .int .i64 (-1)] 28 from by simpa using Mg.out);go_wp2_with fail;refine(jI w0 _ R _ HH.out).mono ?_;rintro e w3 ⟨rfl,hh,hk⟩;have HH:=V hh;have LI:=V (LI.out.keeps hk (by omega));have Mg:=V (Mg.out.keeps hk (by omega));have HK:=V (HK.out.trans hk (fun _ h=> .inl h));clear hh hk;clear y1 u1;rw [EM.out];obtain⟨y0,y1,y2,-,u1,u2⟩:=Mg.out.Hd;obtain⟨x0,x1,x2,z0,z1,z2⟩:=LI.out.Hd;have Mg:=V ((Mg.out.set 2 (.int .i64 m)));have LI:=V (LI.out.other ⟨w.heap.size+1,2,none⟩ (.int .i64 m) (by show w.heap.size≠w.heap.size+1;omega));have HH:=V (HH.out.keeps (ei w3 (w.heap.size+1) 2 (.int .i64 m)) (by omega) (fun i hi=>by omega));have HK:=V (HK.out.iJ (ei w3 (w.heap.size+1) 2 (.int .i64 m)) (by omega));go_wp2_with fail;have hx:=LI.out.vr (.bool true) (.int .i64 n) (.int .i64 m);have Lx:=kp (w3.setCell ⟨w.heap.size+1,2,none⟩ (.int .i64 m)) w.heap.size (.bool true) (.int .i64 n) (.int .i64 m);refine aF (ej rfl _ _ rfl hx.pN) rfl ?_;exact⟨⟨true,n,m⟩,rfl,Je hn1 (by omega),HW.out,by rw [HN.out];exact HH.out.keeps Lx (by omega) (fun i hi=>by omega),HK.out.iJ Lx (ag _)⟩
theorem oI.seq {α β:Type} {a:iV α} {b:iV β} (ha:oI a) (hb:oI b):oI (jT a b):=by
 intro l y hy;simp only [jT]at hy;cases h:a l with
 | none=>rw [h]at hy;simp at hy
 | some x=>
  rw [h]at hy;simp only [ao]at hy;cases h2:b x.2 with
  | none=>rw [h2]at hy;simp at hy
  | some z=>
   rw [h2]at hy;simp only [ao,aS]at hy;subst hy;exact aQ (hb _ _ h2) (ha _ _ h)
theorem yB:oI gf:=by
 intro l y hy;obtain⟨p,rfl⟩:=oC (x:=y.1) (r:=y.2) hy;simp
theorem tO:∀(f:Nat) (acc:List eP) (deep:Int) (l:List UInt8) (y:List eP × List UInt8),ka f acc deep l=some y ->∃p,l=p++y.2
 | 0,_,_,_,_,h=>by cases h
 | f+1,acc,deep,l,y,h=>by
  rw [ka]at h;cases hi:gf l with
  | none=>rw [hi]at h;cases h
  | some x=>
   obtain⟨p,hp⟩:=oC (x:=x.1) (r:=x.2) hi;rw [hi]at h;simp only [ao]at h;split at h
   ·split at h
    ·injection h with h
     subst h;exact⟨p,hp⟩
    ·cases h
   ·split at h
    ·cases h
    ·obtain⟨q,hq⟩:=tO f _ _ _ _ h
     exact⟨p++q,by rw [aK, <- hq];exact hp⟩
theorem vY {l:List UInt8} {y:List eP × List UInt8} (h:kI l=some y):∃p,l=p++y.2:=tO _ _ _ _ _ h
theorem BQ:oI kI:=by
 intro l y hy;obtain⟨p,hp⟩:=vY hy;rw [hp];simp
theorem uG:jg gy:=by
 intro l y hy;unfold gy at hy;cases hi:gf l with
 | none=>rw [hi]at hy;cases hy
 | some x=>
  have h1:=yB l x hi;rw [hi]at hy;simp only [ao]at hy;split at hy
  ·cases hb:eV x.2 with
   | none=>rw [hb]at hy;cases hy
   | some c=>
    rw [hb]at hy;injection hy with hy;subst hy;have:=km _ _ hb;simp only;omega
  ·cases hy
theorem uL:jg iX:=by rw [sg];exact(km.seq uG.lJ).map
theorem og:jg vz:=by rw [qC];exact kK.map
theorem wT:jg mb:=by
 intro l y hy;unfold mb at hy;cases h:fX l with
 | none=>rw [h]at hy;cases hy
 | some x=>
  rw [h]at hy;simp only [ao]at hy;split at hy
  ·cases hy
  ·injection hy with hy
   subst hy;have:=kK l x h;simp only [bg];omega
theorem qG:jg jm:=by rw [uh];exact wT.map
theorem pn:jg fT:=by
 intro l y hy;unfold fT at hy;cases hc:eV l with
 | none=>rw [hc]at hy;cases hy
 | some c=>
  have h1:=km _ _ hc;rw [hc]at hy;simp only [ao]at hy;cases hn:fX c.2 with
  | none=>rw [hn]at hy;cases hy
  | some n=>
   have h2:=kK _ _ hn;rw [hn]at hy;simp only [ao]at hy;split at hy
   ·injection hy with hy
    subst hy;simp only;omega
   ·cases hm:fX n.2 with
    | none=>rw [hm]at hy;cases hy
    | some m=>
     have h3:=kK _ _ hm;rw [hm]at hy;injection hy with hy;subst hy;simp only;omega
theorem uc:jg kD:=by rw [se];exact(km.seq pn.lJ).map
theorem xc:jg pe:=by rw [uI];exact(km.seq ((gW kZ).lJ.seq (gW kZ).lJ)).map
theorem zQ:jg ua:=by rw [yd];exact(qG.seq (qG.lJ.seq (km.lJ.seq og.lJ))).map
theorem wz:jg oT:=by rw [tJ];exact(kZ.seq (km.lJ.seq uG.lJ)).map
theorem zE:jg uw:=by rw [yc];exact(qG.seq (km.lJ.seq og.lJ)).map
theorem xe:jg pd:=by rw [pr];exact(uL.seq (gW og).lJ).map
theorem zK:jg uk:=by rw [yp];exact(uL.seq wT.lJ).map
theorem yy:jg lU:=by
 intro l y hy;unfold lU at hy;cases hn:fX l with
 | none=>rw [hn]at hy;cases hy
 | some n=>
  have h1:=kK _ _ hn;rw [hn]at hy;simp only [ao]at hy;cases hk:gz n.2 with
  | none=>rw [hk]at hy;cases hy
  | some k=>
   have h2:=kZ _ _ hk;rw [hk]at hy;simp only [ao]at hy;split at hy
   ·cases hy
   ·injection hy with hy
    subst hy;simp only;omega
theorem kh:jn=gK iF (fg lU):=by
 funext l
 simp only [jn,gK];cases fg lU l <;>rfl
theorem Ax:jg jn:=by rw [kh];exact(gW yy).map
theorem tu:lM=gK (fun x=>⟨x.2.1,x.2.2⟩) (jT fX (jT jn kI)):=by
 funext l
 simp only [lM,gK,jT];cases h1:fX l with
 | none=>rfl
 | some a=>
  simp only [ao];cases h2:jn a.2 with
  | none=>rfl
  | some b=>
   simp only [ao];cases kI b.2 <;>rfl
theorem wD:jg lM:=by rw [tu];exact(kK.seq (Ax.lJ.seq BQ)).map
theorem Ft (m:eu):(jo 1 m:iV eu)=gK (fun x=>{m with types:=x}) (fg pe):=by funext l;simp only [jo,gK];cases fg pe l <;>rfl
theorem G4 (m:eu):(jo 2 m:iV eu)=gK (fun x=>{m with imports:=x}) (fg ua):=by funext l;simp only [jo,gK];cases fg ua l <;>rfl
theorem FH (m:eu):(jo 3 m:iV eu)=gK (fun x=>{m with funcs:=x}) (fg vz):=by funext l;simp only [jo,gK];cases fg vz l <;>rfl
theorem EE (m:eu):(jo 4 m:iV eu)=gK (fun x=>{m with table:=jF x}) (fg kD):=by funext l;simp only [jo,gK];cases fg kD l <;>rfl
theorem EH (m:eu):(jo 5 m:iV eu)=gK (fun x=>{m with mem:=jF x}) (fg fT):=by funext l;simp only [jo,gK];cases fg fT l <;>rfl
theorem Gc (m:eu):(jo 6 m:iV eu)=gK (fun x=>{m with globals:=x}) (fg oT):=by funext l;simp only [jo,gK];cases fg oT l <;>rfl
theorem E0 (m:eu):(jo 7 m:iV eu)=gK (fun x=>{m with dY:=x}) (fg uw):=by funext l;simp only [jo,gK];cases fg uw l <;>rfl
theorem Gd (m:eu):(jo 9 m:iV eu)=gK (fun x=>{m with elems:=x}) (fg pd):=by funext l;simp only [jo,gK];cases fg pd l <;>rfl
theorem BG (m:eu):(jo 10 m:iV eu)=gK (fun x=>{m with eh:=x}) (fg lM):=by funext l;simp only [jo,gK];cases fg lM l <;>rfl
theorem AP (m:eu):(jo 11 m:iV eu)=gK (fun x=>{m with eA:=x}) (fg uk):=by funext l;simp only [jo,gK];cases fg uk l <;>rfl
theorem xg {n:Nat} (m:eu) (l:List UInt8) (h:n=0\/n=8\/11 < n):jo n m l=none:=by
 unfold jo;split <;>first | rfl | omega
theorem Dx (n:Nat) (m:eu):oI (jo n m):=by
 by_cases h:n=0\/n=8\/11 < n
 ·intro l y hy
  have hy:jo n m l=some y:=hy;rw [xg m l h]at hy;cases hy
 ·have h2:n=1\/n=2\/n=3\/n=4\/n=5\/n=6\/n=7\/n=9\/n=10\/n=11:=by omega
  rcases h2 with rfl | rfl | rfl | rfl | rfl | rfl | rfl | rfl | rfl | rfl
  ·rw [Ft];exact(gW xc).map.lJ
  ·rw [G4];exact(gW zQ).map.lJ
  ·rw [FH];exact(gW og).map.lJ
  ·rw [EE];exact(gW uc).map.lJ
  ·rw [EH];exact(gW pn).map.lJ
  ·rw [Gc];exact(gW wz).map.lJ
  ·rw [E0];exact(gW zE).map.lJ
  ·rw [Gd];exact(gW xe).map.lJ
  ·rw [BG];exact(gW wD).map.lJ
  ·rw [AP];exact(gW zK).map.lJ
def qT {α:Type} (get:iV α) (n:Nat) (acc:List α) (st:gA):Option (List α × List UInt8):=(st.bind (rY get n)).map fun y=>(acc++y.1,y.2)
theorem DW {α:Type} (get:iV α) (acc:List α) (st:gA):qT get 0 acc st=st.map fun l=>(acc,l):=by
 cases st with
 | none=>rfl
 | some l=>simp [qT,rY]
theorem Dj {α:Type} (get:iV α) (n:Nat) (acc:List α):qT get n acc none=none:=rfl
theorem rR {α:Type} (get:iV α) (n:Nat) (acc:List α) {st:gA} {x:α} (h:gO get st x):qT get (n+1) acc st=qT get n (acc++[x]) (et get st):=by
 cases st with
 | none=>rfl
 | some l=>
  simp only [qT,rY,et,ao];cases hg:get l with
  | none=>rfl
  | some y=>
   have:=h y (by simpa using hg);subst this;simp only [ao,bq];cases rY get n y.2 <;>simp
theorem tY {α:Type} (get:iV α) (st:gA) (n:Nat) (hn:gO fX st n):st.bind (fg get)=qT get n [] (et fX st):=by
 cases st with
 | none=>rfl
 | some l=>
  simp only [fg,qT,et,ao];cases hg:fX l with
  | none=>rfl
  | some y=>
   have:=hn y (by simpa using hg);subst this;simp
theorem nv {α:Type} (get:iV α) {st Rr:gA} {acc:List α} {n:Nat} (h:st.bind (fg get)=qT get n acc Rr) (he:n=0\/Rr=none):et (fg get) st=Rr/\gO (fg get) st acc:=by
 rcases he with rfl | rfl
 ·rw [DW]at h
  refine⟨?_,fun y hy=>?_⟩
  ·unfold et
   rw [h];cases Rr <;>rfl
  ·rw [h]at hy
   cases Rr with
   | none=>cases hy
   | some l=>injection hy with hy;rw [<- hy]
 ·rw [Dj]at h
  refine⟨?_,fun y hy=>?_⟩
  ·unfold et
   rw [h];rfl
  ·rw [h]at hy
   cases hy
def Jd:Value ->Nat
 | .slice _ n _=>n
 | _=>0
theorem qz:(prog.info? 39).map (fun i=>(i.zero,i.size,i.bytes))=some (some (.agg #[.int .i64 0, .int .i64 0, .int .i64 0, .slice none 0 0]),4,48):=by kernel_rfl
theorem ku (x:eP × Value):(rA x).length=4:=rfl
def IG (L:List UInt8) (w:World) (e:Ending) (w':World):Prop:=
 Below w.heap.size w w'/\((∃l r v,kI L=some (l,r)/\e= .returned (.tuple #[v, .int .i64 ((L.length - r.length:Nat):Int), .int .i64 0])/\eZ 39 4 rA gD w' w.heap.size v l)\/
  (∃err:Int,kI L=none/\err≠0/\(0 <=err/\err <=12)/\e= .returned (.tuple #[.slice none 0 0, .int .i64 0, .int .i64 err])))
def Kj (L:List UInt8) (w w':World) (v:Value) (acc:List eP) (deep at0:Int) (p q:List UInt8):Prop:=
 L=p++q/\at0=p.length/\kI L=ka (301 - acc.length) acc deep q/\acc.length <=300/\eZ 39 4 rA gD w' w.heap.size v acc/\Below w.heap.size w w'/\0 <=deep/\deep <=acc.length
theorem zj {f:Nat} {acc:List eP} {deep:Int} {q:List UInt8} (h:gf q=none):ka f acc deep q=none:=by
 cases f with
 | zero=>rfl
 | succ f=>rw [ka,h];rfl
theorem ko {f:Nat} {acc:List eP} {deep:Int} {q:List UInt8} {x:eP} {r:List UInt8} (h:gf q=some (x,r)) (hd:¬ hU x.op deep < 0):ka (f+1) acc deep q=(if 300 < acc.length+1 then none else ka f (acc++[x]) (hU x.op deep) r):=by
 rw [ka,h];simp only [ao];rw [az hd]
theorem Ad {f:Nat} {acc:List eP} {deep:Int} {q:List UInt8} {x:eP} {r:List UInt8} (h:gf q=some (x,r)) (hd:hU x.op deep < 0):ka (f+1) acc deep q=(if(fJ acc).isSome then some (acc,r)else none):=by
 rw [ka,h];simp only [ao];rw [aD hd]
theorem zq (b:Value) (L:List UInt8) (w:World) (hb:eG w b L) (hl:L.length <=1000000):Calls prog 290 #[b] w (IG L w):=by
 obtain⟨a,cap,rfl,L7,NG,-⟩:=id hb;have HB:=V hb;unfold maxLen at NG;clear hb;go_enter func290,ntmps290;go_wp2_with fail;refine eC (fun a' w'=>∃(v:Value) (acc:List eP) (deep at0:Int) (p q:List UInt8),a'=fr (.slice a L.length cap::gs a' 1 4 (v:: .int .i64 deep:: .int .i64 at0::gs a' 8 47 []))/\Kj L w w' v acc deep at0 p q) (fun a' _=>(301 - Jd (a'.tmps.getD 5 undef))) ?_ ?_
 ·exact⟨_,[],0,0,[],L,rfl,rfl,rfl,rfl,by simp,eZ.nil _ _,an _ _,by omega,by simp⟩
 ·skip
  rintro R a' w1 ⟨v,acc,deep,at0,p,q,Lv,hJ⟩ HR;dsimp only [fr,gs]at Lv;generalize slot a'=f at Lv;subst Lv;obtain⟨hL,hat,hgo,hacc,Lu,Mf,hd0,hd1⟩:=hJ;obtain⟨a2,LA,OE,Nm⟩:=DF hL a cap;rw [<- hat]at OE;have hlp:0 <=at0/\at0 <=1000000:=by rw [hat];rw [hL,ah]at hl;omega
  have Qs:=Nm w1 (HB.out.below Mf);have hql:q.length <=1000000:=by rw [hL,ah]at hl;omega
  have HLE:=V hL;have HAT:=V hat;have HGO:=V hgo;have Pw:=V Lu;clear hL hat hgo Nm Lu;go_wp2_with fail;refine(qX _ q w1 Qs hql).mono ?_;rintro e w2 ⟨Lw,L6⟩;clear OE Qs;rcases L6 with⟨x,r,u,hx,rfl,hu,hf⟩ | ⟨err,hx,MO,her,rfl⟩;rotate_left
  ·have f1:=fa MO
   have HN:=V (show kI L=none by rw [HGO.out];exact zj hx);have Mf:=Mf.trans (Lw.mono Mf.size);clear hx Lw;go_wp2
   go_ret3
   exact⟨Mf.alloc Mf.size _, .inr ⟨err,HN.out,MO,her,rfl⟩⟩
  obtain⟨mid,hmid⟩:=oC hx;have hlen:q.length - r.length=mid.length:=by rw [hmid];simp
  rw [hlen];have hml:(mid.length:Int)+at0 <=1000000:=by rw [HAT.out];have:=HLE.out;rw [this,hmid]at hl;simp only [ah]at hl;omega
  have HR2:Hid (L.length - r.length=p.length+mid.length):=V (by rw [HLE.out,hmid];simp only [ah];omega);have QG:Hid (L=(p++mid)++r):=V (by rw [HLE.out,hmid,aK]);obtain⟨op,xa,xb,xl⟩:=x;obtain⟨⟨au,LB,rfl,-,-,-⟩,-⟩:=id hu;have HX:=V hx;have HU:=V (Cb hu hf);obtain⟨m,hm⟩:∃m,acc.length=m:=⟨_,rfl⟩;clear hx hmid hlen hu hf;clear hm m;have hat64:at0+(mid.length:Int) <=1000000:=by omega
  have PW:=Mf.trans (Lw.mono Mf.size)
  go_upto_region 5 with fail
  have hw2W:Below w2.heap.size w2 (w2.alloc (.cells #[.int .i64 op, .int .i64 xa, .int .i64 xb, .slice au xl.length LB] 39)):=(an _ _).alloc (ag _) _;have hw1W:=Lw.trans (hw2W.mono Lw.size);have QZ:=PW.trans (hw2W.mono PW.size);have hBW:=eD.new w2 #[.int .i64 op, .int .i64 xa, .int .i64 xb, .slice au xl.length LB] 39;have c0:(w2.alloc (.cells #[.int .i64 op, .int .i64 xa, .int .i64 xb, .slice au xl.length LB] 39)).cell? ⟨w2.heap.size,0,none⟩=some (.int .i64 op):=hBW.cell 0;have c1:(w2.alloc (.cells #[.int .i64 op, .int .i64 xa, .int .i64 xb, .slice au xl.length LB] 39)).cell? ⟨w2.heap.size,1,none⟩=some (.int .i64 xa):=hBW.cell 1;have c2:(w2.alloc (.cells #[.int .i64 op, .int .i64 xa, .int .i64 xb, .slice au xl.length LB] 39)).cell? ⟨w2.heap.size,2,none⟩=some (.int .i64 xb):=hBW.cell 2;have c3:(w2.alloc (.cells #[.int .i64 op, .int .i64 xa, .int .i64 xb, .slice au xl.length LB] 39)).cell? ⟨w2.heap.size,3,none⟩=some (.slice au xl.length LB):=hBW.cell 3;have hXW:=hBW.lt;clear hBW;have MD:=V hw2W;have PJ:=V hw1W;have h1W:=hw1W.size;clear hw2W hw1W;generalize w2.alloc (.cells #[.int .i64 op, .int .i64 xa, .int .i64 xb, .slice au xl.length LB] 39)=W at c0 c1 c2 c3 MD PJ QZ h1W hXW⊢;by_cases OX:op=11
  ·have f11:=eI OX
   by_cases qd:deep=0
   ·subst qd
    have HDP:Hid (hU op 0 < 0):=V (by rw [OX];decide);clear OX;have HOW2:=V (eZ.keeps (fun _ _ _ _ he h=>h.ext he) Pw.out (dU.dW (S:=fun _=>False) PJ.out) (fun _ h=>h.elim));have Pr:=V (gu.fK (S:=jO w.heap.size) (eZ.low ku (fun _ _ _ _ he h=>h.ext he) HOW2.out));go_wp2_with fail;refine(pI v acc _ Pr.out).mono ?_;rintro e w3 ⟨LZ,hm3⟩;have hbl3:=QZ.trans (LZ.mono QZ.size);have HE3:=V (show kI L=(if(fJ acc).isSome then some (acc,r)else none)by rw [HGO.out,show 301 - acc.length=(300 - acc.length)+1 from by omega,Ad HX.out HDP.out]);have HOW3:=V (eZ.keeps (fun _ _ _ _ he h=>h.ext he) HOW2.out (dU.dW (S:=fun _=>False) LZ) (fun _ h=>h.elim));clear LZ Lw c0 c1 c2 c3;rcases hm3 with⟨bs,vb,Qa,rfl,-⟩ | ⟨Qa,rfl⟩
    ·have PK:=V (show kI L=some (acc,r)by rw [HE3.out,Qa];rfl)
     clear Qa;go_wp2
     go_ret3
     refine⟨hbl3, .inl ⟨acc,r,v,PK.out,?_,HOW3.out⟩⟩;rw [HR2.out];show Ending.returned (.tuple #[v, .int .i64 (at0+mid.length), .int .i64 0])=_;rw [HAT.out];rfl
    ·have PK:=V (show kI L=none by rw [HE3.out,Qa];rfl)
     clear Qa;go_wp2
     go_ret3
     exact⟨hbl3, .inr ⟨1,PK.out,by decide,by decide,rfl⟩⟩
   ·have hd':0 <=deep - 1:=by omega
    have HDP:Hid (hU op deep=deep - 1):=V (by unfold hU;rw [if_pos OX]);clear OX;have ON:=V (eZ.keeps (fun _ _ _ _ he h=>h.ext he) Pw.out (dU.dW (S:=fun _=>False) PJ.out) (fun _ h=>h.elim));have HU4:=V (HU.out.ext (ni (P:=fun _=>False) (dU.dW MD.out) (fun _ h=>h.elim) (.inl (ag _))));obtain⟨us,u1,u2,u3⟩:=ON.out;have OK:(acc.zip us).length=acc.length:=by rw [bS,u1,cP]
    obtain⟨av,cv,ev,_,M6,-⟩:=u2.fH ku;rw [OK]at ev;subst ev;unfold maxLen at M6;have HV:=V (show∀i,ez (.slice av acc.length cv) i ->i < w1.heap.size from fun i hi=>(eZ.lt Pw.out hi).2);have U1:=V u1;have U3:=V u3;clear u1 u3;go_wp2_with (first | (at_builtin;refine fb W rfl _ _ 37 rfl _ 48 (by kernel_rfl) qz rfl (by decide) (by decide) w.heap.size (.slice av acc.length cv) (acc.zip us) rfl u2 (⟨op,xa,xb,xl⟩, .slice au xl.length LB) _ rfl rfl (by simp [rA,Value.oneCell']) rfl (by omega) (by exact QZ.size) ?_));intro v5 w5 MC N7 Qq;have HD5:=V (eZ.app (fun _ _ _ _ he h=>h.ext he) (w1:=w1) U1.out U3.out MC N7 Qq Mf.size HV.out HU4.out);have Mh:=QZ.trans (N7.below QZ.size (fun i hi=>(ey u2 hi).1));obtain⟨av5,cv5,ev5,_,hcv5,-⟩:=MC.fH ku;have hlz:(acc.zip us++[((⟨op,xa,xb,xl⟩:eP),Value.slice au xl.length LB)]).length=acc.length+1:=by rw [ah,OK];rfl
    rw [hlz]at ev5;subst ev5;clear MC N7 Qq u2 OK hlz ON HU4 HV U1 U3;by_cases qm:acc.length+1 <=300
    ·have f300:decide ((300:Int) < ((acc.length+1:Nat):Int))=false:=aw (by omega)
     go_wp2;refine HR.out _ _ ⟨_,acc++[⟨op,xa,xb,xl⟩],(deep - 1),at0+mid.length,p++mid,r,rfl,QG.out,?_,?_,by rw [ah];exact qm,HD5.out,Mh,by omega,?_⟩ ?_
     ·rw [HAT.out,ah];rfl
     ·rw [HGO.out,show 301 - acc.length=(300 - acc.length)+1 from by omega,ko HX.out (by rw [HDP.out];omega),az (by omega),HDP.out,ah]
      congr 1
      simp only [aB];omega
     ·rw [ah];simp only [aB];omega
     ·simp [Jd]
      omega
    ·have f300:decide ((300:Int) < ((acc.length+1:Nat):Int))=true:=ay (by omega)
     have HN:=V (show kI L=none by rw [HGO.out,show 301 - acc.length=(300 - acc.length)+1 from by omega,ko HX.out (by rw [HDP.out];omega),aD (by omega)]);go_wp2
     go_ret3
     exact⟨Mh, .inr ⟨4,HN.out,by decide,by decide,rfl⟩⟩
  have f11:=dR OX;have HD0:=V (show hU op deep=if kA op then deep+1 else deep by unfold hU;rw [if_neg OX]);clear OX;go_wp2_with fail;refine(pP op _).mono ?_;rintro e w3 ⟨rfl,LZ⟩;have MD:=V (MD.out.trans (LZ.mono MD.out.size));have PJ:=V (PJ.out.trans (LZ.mono PJ.out.size));have QZ:=QZ.trans (LZ.mono QZ.size);have h1W:=PJ.out.size;replace c0:=(LZ.cell hXW).trans c0;replace c1:=(LZ.cell hXW).trans c1;replace c2:=(LZ.cell hXW).trans c2;replace c3:=(LZ.cell hXW).trans c3;clear LZ;cases ho:kA op with
  | true=>
   have hd':0 <=deep+1:=by omega
   have HDP:=V (show hU op deep=deep+1 by rw [HD0.out,ho];rfl);clear ho;have ON:=V (eZ.keeps (fun _ _ _ _ he h=>h.ext he) Pw.out (dU.dW (S:=fun _=>False) PJ.out) (fun _ h=>h.elim));have HU4:=V (HU.out.ext (ni (P:=fun _=>False) (dU.dW MD.out) (fun _ h=>h.elim) (.inl (ag _))));obtain⟨us,u1,u2,u3⟩:=ON.out;have OK:(acc.zip us).length=acc.length:=by rw [bS,u1,cP]
   obtain⟨av,cv,ev,_,M6,-⟩:=u2.fH ku;rw [OK]at ev;subst ev;unfold maxLen at M6;have HV:=V (show∀i,ez (.slice av acc.length cv) i ->i < w1.heap.size from fun i hi=>(eZ.lt Pw.out hi).2);have U1:=V u1;have U3:=V u3;clear u1 u3;go_wp2_with (first | (at_builtin;refine fb w3 rfl _ _ 37 rfl _ 48 (by kernel_rfl) qz rfl (by decide) (by decide) w.heap.size (.slice av acc.length cv) (acc.zip us) rfl u2 (⟨op,xa,xb,xl⟩, .slice au xl.length LB) _ rfl rfl (by simp [rA,Value.oneCell']) rfl (by omega) (by exact QZ.size) ?_));intro v5 w5 MC N7 Qq;have HD5:=V (eZ.app (fun _ _ _ _ he h=>h.ext he) (w1:=w1) U1.out U3.out MC N7 Qq Mf.size HV.out HU4.out);have Mh:=QZ.trans (N7.below QZ.size (fun i hi=>(ey u2 hi).1));obtain⟨av5,cv5,ev5,_,hcv5,-⟩:=MC.fH ku;have hlz:(acc.zip us++[((⟨op,xa,xb,xl⟩:eP),Value.slice au xl.length LB)]).length=acc.length+1:=by rw [ah,OK];rfl
   rw [hlz]at ev5;subst ev5;clear MC N7 Qq u2 OK hlz ON HU4 HV U1 U3;by_cases qm:acc.length+1 <=300
   ·have f300:decide ((300:Int) < ((acc.length+1:Nat):Int))=false:=aw (by omega)
    go_wp2;refine HR.out _ _ ⟨_,acc++[⟨op,xa,xb,xl⟩],(deep+1),at0+mid.length,p++mid,r,rfl,QG.out,?_,?_,by rw [ah];exact qm,HD5.out,Mh,by omega,?_⟩ ?_
    ·rw [HAT.out,ah];rfl
    ·rw [HGO.out,show 301 - acc.length=(300 - acc.length)+1 from by omega,ko HX.out (by rw [HDP.out];omega),az (by omega),HDP.out,ah]
     congr 1
     simp only [aB];omega
    ·rw [ah];simp only [aB];omega
    ·simp [Jd]
     omega
   ·have f300:decide ((300:Int) < ((acc.length+1:Nat):Int))=true:=ay (by omega)
    have HN:=V (show kI L=none by rw [HGO.out,show 301 - acc.length=(300 - acc.length)+1 from by omega,ko HX.out (by rw [HDP.out];omega),aD (by omega)]);go_wp2
    go_ret3
    exact⟨Mh, .inr ⟨4,HN.out,by decide,by decide,rfl⟩⟩
  | false=>
   have HDP:=V (show hU op deep=deep by rw [HD0.out,ho];rfl);clear ho;have ON:=V (eZ.keeps (fun _ _ _ _ he h=>h.ext he) Pw.out (dU.dW (S:=fun _=>False) PJ.out) (fun _ h=>h.elim));have HU4:=V (HU.out.ext (ni (P:=fun _=>False) (dU.dW MD.out) (fun _ h=>h.elim) (.inl (ag _))));obtain⟨us,u1,u2,u3⟩:=ON.out;have OK:(acc.zip us).length=acc.length:=by rw [bS,u1,cP]
   obtain⟨av,cv,ev,_,M6,-⟩:=u2.fH ku;rw [OK]at ev;subst ev;unfold maxLen at M6;have HV:=V (show∀i,ez (.slice av acc.length cv) i ->i < w1.heap.size from fun i hi=>(eZ.lt Pw.out hi).2);have U1:=V u1;have U3:=V u3;clear u1 u3;go_wp2_with (first | (at_builtin;refine fb w3 rfl _ _ 37 rfl _ 48 (by kernel_rfl) qz rfl (by decide) (by decide) w.heap.size (.slice av acc.length cv) (acc.zip us) rfl u2 (⟨op,xa,xb,xl⟩, .slice au xl.length LB) _ rfl rfl (by simp [rA,Value.oneCell']) rfl (by omega) (by exact QZ.size) ?_));intro v5 w5 MC N7 Qq;have HD5:=V (eZ.app (fun _ _ _ _ he h=>h.ext he) (w1:=w1) U1.out U3.out MC N7 Qq Mf.size HV.out HU4.out);have Mh:=QZ.trans (N7.below QZ.size (fun i hi=>(ey u2 hi).1));obtain⟨av5,cv5,ev5,_,hcv5,-⟩:=MC.fH ku;have hlz:(acc.zip us++[((⟨op,xa,xb,xl⟩:eP),Value.slice au xl.length LB)]).length=acc.length+1:=by rw [ah,OK];rfl
   rw [hlz]at ev5;subst ev5;clear MC N7 Qq u2 OK hlz ON HU4 HV U1 U3;by_cases qm:acc.length+1 <=300
   ·have f300:decide ((300:Int) < ((acc.length+1:Nat):Int))=false:=aw (by omega)
    go_wp2;refine HR.out _ _ ⟨_,acc++[⟨op,xa,xb,xl⟩],deep,at0+mid.length,p++mid,r,rfl,QG.out,?_,?_,by rw [ah];exact qm,HD5.out,Mh,by omega,?_⟩ ?_
    ·rw [HAT.out,ah];rfl
    ·rw [HGO.out,show 301 - acc.length=(300 - acc.length)+1 from by omega,ko HX.out (by rw [HDP.out];omega),az (by omega),HDP.out,ah]
     congr 1
     simp only [aB];omega
    ·rw [ah];simp only [aB];omega
    ·simp [Jd]
     omega
   ·have f300:decide ((300:Int) < ((acc.length+1:Nat):Int))=true:=ay (by omega)
    have HN:=V (show kI L=none by rw [HGO.out,show 301 - acc.length=(300 - acc.length)+1 from by omega,ko HX.out (by rw [HDP.out];omega),aD (by omega)]);go_wp2
    go_ret3
    exact⟨Mh, .inr ⟨4,HN.out,by decide,by decide,rfl⟩⟩
def Row (w:World) (B:Nat) (b:Value) (xs:List UInt8):Prop:=
 ed w B b xs\/∃g,b= .slice (some ⟨g,0,none⟩) xs.length xs.length/\eG w b xs/\B <=g/\g < w.heap.size
theorem Row.lt {w:World} {B:Nat} {b:Value} {xs:List UInt8} (h:Row w B b xs) {i:Nat} (hi:ez b i):B <=i/\i < w.heap.size:=by
 rcases h with h | ⟨g,rfl,_,h1,h2⟩
 ·exact ey h hi
 ·simp [ez,Value.ownBlock]at hi
  subst hi;exact⟨h1,h2⟩
theorem Row.below {w w':World} {B:Nat} {b:Value} {xs:List UInt8} (h:Row w B b xs) (hb:Below w.heap.size w w'):Row w' B b xs:=by
 rcases h with h | ⟨g,rfl,h0,h1,h2⟩
 ·exact .inl (ed.below h hb)
 ·exact .inr ⟨g,rfl,h0.below hb,h1,by have:=hb.size;omega⟩
theorem Row.gl {w:World} {B:Nat} {b:Value} {xs:List UInt8} (h:Row w B b xs):eG w b xs:=by
 rcases h with h | ⟨g,_,h0,_⟩
 ·exact ed.gl h
 ·exact h0
def xy (w:World) (b:Value) (B:Nat) (w':World) (v:Value) (L:List UInt8):Prop:=Row w' B v L/\dU (ez b) w w'/\eB w b v
theorem xy.refl {w:World} {b:Value} {B:Nat} {L:List UInt8} (h:Row w B b L):xy w b B w b L:=⟨h,dU.refl _ _,eB.refl _ _⟩
theorem xy.below {w w1 w2:World} {b v:Value} {B:Nat} {L:List UInt8} (h:xy w b B w1 v L) (hb:Below w1.heap.size w1 w2):xy w b B w2 v L:=
 ⟨h.1.below hb,h.2.1.trans (dU.dW (S:=fun _=>False) hb) (fun _ hi=>hi.elim),h.2.2⟩
theorem xy.base {w w1:World} {b v:Value} {B:Nat} {L:List UInt8} (h:xy w b B w1 v L) (hB:B <=w.heap.size):B <=w1.heap.size:=aQ hB h.2.1.size
theorem xy.own {w w1 w2:World} {b v1 v2:Value} {B:Nat} {L1 L2:List UInt8} (h:xy w b B w1 v1 L1) (k:ed w2 B v2 L2/\dU (ez v1) w1 w2/\eB w1 v1 v2):Wr w b B w2 v2 L2:=
 ⟨k.1,h.2.1.trans k.2.1 (fun i hi=>h.2.2 i hi),h.2.2.trans k.2.2 h.2.1.size⟩
theorem xy.step {w w1 w2:World} {b v1 v2:Value} {B:Nat} {L1 L2:List UInt8} (h:xy w b B w1 v1 L1) (k:xy w1 v1 B w2 v2 L2):xy w b B w2 v2 L2:=
 ⟨k.1,h.2.1.trans k.2.1 (fun i hi=>h.2.2 i hi),h.2.2.trans k.2.2 h.2.1.size⟩
theorem Wr.row {w w1:World} {b v:Value} {B:Nat} {L:List UInt8} (h:Wr w b B w1 v L):xy w b B w1 v L:=⟨.inl h.1,h.2⟩
def Cx (xs ys:List UInt8) (B:Nat) (b:Value) (w:World) (e:Ending) (w':World):Prop:=∃v',e= .returned v'/\xy w b B w' v' (xs++ys)
theorem qV {P:Program} (w:World) {ops:Array Oper} {rest:List Oper} {o:Oper} {a:Act} {Q:Exit ->Act ->World ->Prop} (OP:o.guard=none) (s x:Operand)
  (hP:P=prog) (ho:o.op= .call {callee:= .builtin .append,args:=#[s,x],argTypes:=#[104,104]})
  (B:Nat) (v:Value) (l:List UInt8) (hs:a.eval s=v) (Lu:Row w B v l)
  (y:UInt8) (m:Int) (hm:m=y.toNat) (hx:a.eval x= .slice (some ⟨w.heap.size,0,none⟩) 1 1)
  (OU:l.length <=1000000000) (LW:B <=w.heap.size)
  (h:∀v' w',ed w' B v' (l++[y]) ->dU (ez v) w w' ->eB w v v' ->wpList P ops Q rest (a.put o.dst v') w'):wpList P ops Q (o::rest) a (w.alloc (.cells #[.int .u8 m] 5)):=by
 rcases Lu with Lu | ⟨g,rfl,hi,h1,h2⟩
 ·exact eT w OP s x hP ho B v l hs Lu y m hm hx (by omega) LW h
 ·subst hP
  subst hm;refine dK OP fun _ hK=>?_;obtain⟨i0,Oy,NM,ME,Nd⟩:=bV nV;obtain⟨a0,cap0,he,_,_,hc⟩:=hi;injection he with e1 e2 e3;subst e1;have holds:∀j u,(l.map bv)[j]?=some u ->(w.alloc (.cells #[.int .u8 (y.toNat:Int)] 5)).cell? ((⟨g,0,none⟩:Addr).add j)=some u:=by
   intro j u hj;rw [cM,bu]at hj;obtain⟨z,hz,rfl⟩:=hj;obtain⟨b,off,hb,hcz⟩:=hc j z hz;injection hb with hb;injection hb with e4 e5;subst e4 e5;have O1:(⟨g,0,none⟩:Addr).add j=⟨g,j,none⟩:=by unfold Addr.add;split <;>simp_all
   rw [O1];rw [bR]at hcz;rw [((an w.heap.size w).alloc (ag _) _).cell (by exact h2)];exact hcz
  have OZ:∀j u,[bv y][j]?=some u ->(w.alloc (.cells #[.int .u8 (y.toNat:Int)] 5)).cell? ((⟨w.heap.size,0,none⟩:Addr).add j)=some u:=by
   intro j u hu;have O1:(⟨w.heap.size,0,none⟩:Addr).add j=⟨w.heap.size,j,none⟩:=by unfold Addr.add;split <;>simp_all
   rw [O1,bJ];simpa using hu
  have hr:=run_append_grow (P:=prog) (w.alloc (.cells #[.int .u8 (y.toNat:Int)] 5)) 104 o.type 5 i0 (.int .u8 0) (by kernel_rfl) Oy NM ⟨g,0,none⟩ l.length l.length (l.map bv) (by rw [bD,ME,aY]) holds
   ⟨w.heap.size,0,none⟩ 1 1 [bv y] (by rw [ME];rfl) OZ (by omega) (by omega) (growslice_fits (by omega) (by rw [Nd];omega))
  unfold Oper.wp execOp;simp only [ho,resolve,invoke,builtin,cG,bX,cz,dr,bF,cT,hs,hx,hr];have hge:=grownCap_ge (w.alloc (.cells #[.int .u8 (y.toNat:Int)] 5)) (l.length+1) l.length 5;have Nc:=dJ (w.alloc (.cells #[.int .u8 (y.toNat:Int)] 5)) (l.length+1) l.length 5 (by simp only [maxLen];omega);refine hK _ _ (h _ _ ?_ ?_ ?_)
  ·refine⟨by simp, .inr ⟨_,_,_,by rw [ah];rfl,by simp;omega,dn _ _,by rw [ah];exact hge,Nc,?_,?_⟩⟩
   ·have hz:(Value.int IntKind.u8 0).cells.size=1:=rfl
    simp only [Array.size_append,dx,size_zeroCells,hz,bD,aB];omega
   ·have hl:(l.map bv++[bv y]).length=(l++[y]).length*1:=by simp
    simp only [Array.toList_append,cn,bF,cT];rw [<- hl];exact cJ
  ·exact(((dU.refl _ _).alloc _).drew).alloc _
  ·intro k hk
   simp [ez,Value.ownBlock]at hk;exact .inr (by omega)
theorem Dq (w:World) (s:ByteArray):(convert 9 104 (.string s)).run prog w= .ok (.slice (some ⟨w.heap.size,0,none⟩) s.size (grownCap w s.size 0 5)) (Lib.bytesWorld w 5 s):=
 Lib.run_convert_string_bytes (u:= .string) w _ _ _ s (by kernel_rfl) (by kernel_rfl) (by kernel_rfl)
theorem ur (w:World) (s:ByteArray):Below w.heap.size w (Lib.bytesWorld w 5 s):=⟨rfl,rfl,rfl,by rw [Lib.bytesWorld_size];omega,fun k hk=>Lib.bytesWorld_at_old w _ s k hk⟩
theorem Ig (w:World) (s:ByteArray) (h:s.size <=1000000000000):eG (Lib.bytesWorld w 5 s) (.slice (some ⟨w.heap.size,0,none⟩) s.size (grownCap w s.size 0 5)) s.data.toList:=by
 have Mq:s.data.toList.length=s.size:=rfl;refine⟨_,_,by rw [Mq],by rw [Mq];exact grownCap_ge _ _ _ _,dJ _ _ _ _ (by simp only [maxLen];omega),fun i x hx=>⟨_,0,rfl,?_⟩⟩;have hi:i < s.size:=by rw [<- Mq];exact(aG.1 hx).1
 rw [bR,Lib.bytesWorld_cell w _ s i hi,List.getD_eq_getElem?_getD,hx];rfl
theorem fk {α:Type} {k:Nat} {enc:α ->List Value} {w:World} {v:Value} {l:List α} (h:ee k enc w v l):∃a cap,v= .slice a l.length cap/\l.length <=cap/\cap <=9223372036854775807:=by
 obtain⟨a,cap,hv,h1,h2,_⟩:=h;exact⟨a,cap,hv,h1,h2⟩
theorem vR {w:World} {v:Value} {l:List UInt8} (h:eG w v l):∃a cap,v= .slice a l.length cap/\l.length <=cap/\cap <=9223372036854775807:=by
 obtain⟨a,cap,hv,h1,h2,_⟩:=h;exact⟨a,cap,hv,h1,h2⟩
theorem boxed {w w':World} {F:Value} {t:TypeId} (h:Below (w.alloc (.cells #[F] t)).heap.size (w.alloc (.cells #[F] t)) w'):w'.cell? ⟨w.heap.size,0,none⟩=some F/\Below w.heap.size w w':=
 ⟨by rw [h.cell (by simp),bJ];rfl,((an _ _).alloc (ag _) _).trans (h.mono (by simp))⟩
theorem Dl (p:Int ->Bool) (v:Value) (l:List Int) (w:World) (hl:ee 1 eU w v l) (Ly:Nat) (cs:Array Value)
  (hE:∀args w,(callFunc Ly args).run prog w= .ok (.enter Ly args) w)
  (hp:∀e∈l,∀w',Below w.heap.size w w' ->Calls prog Ly (#[.int .i64 e]++cs) w' (ew (p e) w')):
  Calls prog 112 #[v, .func (.func Ly) #[] cs] w (jM p l w):=by
 have HP:=V hp;have HI:=V hl;obtain⟨a,cap,rfl,h1,h2,_⟩:=id hl;unfold maxLen at h2;clear hl hp;go_enter func112,ntmps112;go_wp2_with fail;refine eC (fun a' w'=>∃(k:Nat),a'=fr (.slice a l.length cap:: .func (.func Ly) #[] cs::gs a' 2 5 (.int .i64 l.length:: .int .i64 k::gs a' 9 10 []))/\pR p l w w' k) (fun a' _=>(l.length - (intOf (a'.tmps.getD 8 undef)).toNat)) ?_ ?_
 ·exact⟨0,rfl,by omega,fun i hi=>by omega,an _ _⟩
 ·skip
  rintro R a' w1 ⟨k,Lv,hJ⟩ HR;dsimp only [fr,gs]at Lv;generalize slot a'=f at Lv;subst Lv;obtain⟨hk,hm,hb⟩:=hJ;have Ma:=V hm;clear hm;by_cases Mi:k < l.length;rotate_left
  ·obtain rfl:k=l.length:=by omega
   go_wp2;go_ret;exact⟨by rw [gJ Ma.out];rfl,hb⟩
  obtain⟨e,he⟩:∃e,l[k]?=some e:=⟨_,aq Mi⟩;obtain⟨a',LQ,hv,_,_,Lt⟩:=HI.out.below (hb.mono (ag _));injection hv with e1 e2 e3;subst e1 e3;obtain⟨b,off,rfl,LD,hc⟩:=Lt k e he;have c0:=hc 0 _ rfl;rw [aI,aY]at c0;have LC:=HP.out e (aN he) w1 hb;have HE:=V he;clear Lt e2 he hc;cases hq:p e
  all_goals
   rw [hq]at LC;have HQ:=V hq;clear hq;go_wp2_with fail;refine LC.mono ?_;rintro x w2 ⟨rfl,Lw⟩;replace hb:=dT hb Lw;clear LC Lw c0;go_wp2_with fail
  ·refine HR.out _ _ ⟨k+1,rfl,by omega,?_,hb⟩ ?_
   ·intro i hi d hd
    rcases bx i k with h | h
    ·exact Ma.out i h d hd
    ·obtain rfl:i=k:=by omega
     rw [HE.out]at hd;injection hd with hd;rw [<- hd];exact HQ.out
   ·simp [intOf]
    omega
  ·go_ret
   exact⟨by rw [ic HE.out HQ.out Ma.out];rfl,hb⟩
theorem qt (p:Int ->Bool) (v:Value) (l:List Int) (w:World) (hl:ee 1 eU w v l) (Ly:Nat) (cs:Array Value)
  (hE:∀args w,(callFunc Ly args).run prog w= .ok (.enter Ly args) w)
  (hp:∀e∈l,∀w',Below w.heap.size w w' ->Calls prog Ly (#[.int .i64 e]++cs) w' (ew (p e) w')):
  Calls prog 75 #[v, .func (.func Ly) #[] cs] w (ew (l.any p) w):=by
 go_enter func75,ntmps75;go_wp2_with fail;refine(Dl p v l _ hl Ly cs hE hp).mono ?_;rintro x w2 ⟨rfl,hb⟩;clear hE;go_wp2;go_ret;exact⟨by rw [<- ir];rfl,hb⟩
theorem BR (b:Bool) (n:Int) (Ly:Nat) (cs:Array Value) (X:Nat) (w:World)
  (hE:∀args w,(callFunc Ly args).run prog w= .ok (.enter Ly args) w) (hX:w.cell? ⟨X,0,none⟩=some (.func (.func Ly) #[] cs))
  (hp:∀w',Below w.heap.size w w' ->Calls prog Ly (#[.int .i64 n]++cs) w' (ew b w')):
  Calls prog 143 #[.int .i64 n, .pointer (some ⟨X,0,none⟩)] w (ew (!b) w):=by
 have LD:=aO w _ hX;have HP:=V hp;clear hp;go_enter func143,ntmps143;go_wp2_with fail;refine(HP.out _ (an _ _)).mono ?_;rintro x w2 ⟨rfl,hb⟩;clear hE hX;go_wp2;go_ret;exact⟨rfl,hb⟩
theorem tD (p:Int ->Bool) (v:Value) (l:List Int) (w:World) (hl:ee 1 eU w v l) (Ly:Nat) (ff:Int)
  (hE:∀args w,(callFunc Ly args).run prog w= .ok (.enter Ly args) w)
  (hp:∀e∈l,∀w',Below w.heap.size w w' ->Calls prog Ly #[.int .i64 e] w' (ew (p e) w')):
  Calls prog 104 #[v, .int .i64 ff, .func (.func Ly) #[] #[]] w (ew (decide ((l.length:Int) <=ff)&&l.all p) w):=by
 have HP:=V hp;obtain⟨a,cap,rfl,h1,h2⟩:∃a cap,v= .slice a l.length cap/\l.length <=cap/\cap <=9223372036854775807:=fk hl;have HL:=V hl;clear hp hl;by_cases q:(l.length:Int) <=ff
 ·have f:decide ((l.length:Int) <=ff)=true:=ay q
  go_enter func104,ntmps104;go_wp2_with fail;refine bY (qt (fun e=> !p e) _ l _ (HL.out.below ((an _ _).alloc (ag _) _)) 143 #[.pointer (some ⟨w.heap.size,0,none⟩)] (fun args w=>by rfl) ?_) ?_
  ·intro e he w' hw'
   obtain⟨hX,hw⟩:=boxed hw';exact BR (p e) _ Ly #[] _ w' hE hX (fun w2 h2=>by simpa using HP.out e he w2 (hw.trans (h2.mono hw.size)))
  rintro x w2 ⟨rfl,hb⟩;clear hE;have HF:=V f;clear f;have f:decide ((l.length:Int) <=ff)=true:=HF.out;go_wp2;go_ret;refine⟨?_,((an _ _).alloc (ag _) _).trans (hb.mono (by simp))⟩;have e1:l.all p= !(l.any fun e=> !p e):=by rw [bM];simp
  rw [f,e1,cd];rfl
 ·have f:decide ((l.length:Int) <=ff)=false:=aw q
  go_enter func104,ntmps104;go_wp2;go_ret;exact⟨by first | rfl | (rw [f];rfl),(an _ _).alloc (ag _) _⟩
theorem iZ (b:Value) (xs:List UInt8) (u:Nat) (h1:u <=9223372036854775807) (B:Nat) (w:World) (Lu:ed w B b xs) (hn:xs.length <=1000000000) (hB:B <=w.heap.size):
  Calls prog 171 #[b, .int .i64 u] w (gU xs (eO u) B b w):=by
 go_enter func171,ntmps171;go_wp2_with fail;refine(iP b xs u (by omega) B w Lu hn hB).mono ?_;rintro x w2 ⟨v,rfl,h2,h3,h4⟩;go_wp2;go_ret;exact⟨v,rfl,h2,h3,h4⟩
def Kx {α:Type} (w0:World) (put:α ->List UInt8) (xs:List UInt8) (l:List α) (B:Nat) (b:Value) (w w':World) (v:Value) (k:Nat):Prop:=
 k <=l.length/\Wr w b B w' v (xs++(eO l.length++((l.take k).map put).flatten))/\Src w0 w' B
theorem wU {α:Type} (put:α ->List UInt8) (l:List α) (k:Nat):(((l.take k).map put).flatten).length <=((l.map put).flatten).length:=by
 conv=>rhs;rw [<- cB k l]
 simp only [cn,List.flatten_append,ah];omega
def sP (x:fN):List Value:=[.bool x.has, .int .i64 x.min, .int .i64 x.max]
def qs {α:Type} (fv k:Nat) (enc:α ->List Value) (val:α ->Value):Prop:=∀(w0:World) (put:α ->List UInt8) (C:Nat) (b:Value) (xs:List UInt8) (v:Value) (l:List α) (B:Nat) (w:World) (Ly:Nat),(∀args w,(callFunc Ly args).run prog w= .ok (.enter Ly args) w) ->ee k enc w0 v l ->ed w B b xs ->B <=w.heap.size ->Src w0 w B ->xs.length+(ia put l).length <=C ->C <=900000000 ->
 (∀e∈l,∀b xs w,ed w B b xs ->xs.length <=C ->B <=w.heap.size ->Src w0 w B ->Calls prog Ly #[b,val e] w (gU xs (put e) B b w)) ->Calls prog fv #[b,v, .func (.func Ly) #[] #[]] w (gU xs (ia put l) B b w)
def vO {α:Type} (fv k:Nat) (enc:α ->List Value) (val:α ->Value):Prop:=∀(w0:World) (put:α ->List UInt8) (no:Nat) (_:no < 256) (b:Value) (xs:List UInt8) (v:Value) (l:List α) (B:Nat) (w:World) (Ly:Nat),(∀args w,(callFunc Ly args).run prog w= .ok (.enter Ly args) w) ->ee k enc w0 v l ->Row w B b xs ->B <=w.heap.size ->Below w0.heap.size w0 w ->xs.length+(ia put l).length <=100000000 ->
 (∀e∈l,∀b xs w B,ed w B b xs ->xs.length <=100000000 ->B <=w.heap.size ->Src w0 w B ->Calls prog Ly #[b,val e] w (gU xs (put e) B b w)) ->Calls prog fv #[b, .int .i64 no,v, .func (.func Ly) #[] #[]] w (Cx xs (ij (b8 no) put l) B b w)
theorem o9:qs 167 1 eU (fun e=> .int .i64 e)/\qs 269 3 qv (fun e=> .agg #[.string e.mod, .string e.name, .int .i64 e.type])/\qs 271 3 sP (fun e=> .agg #[.bool e.has, .int .i64 e.min, .int .i64 e.max])/\qs 272 3 qB (fun e=> .agg #[.bool e.isVar, .int .i64 e.init.kind, .int .i64 e.init.n])/\qs 274 2 oZ (fun e=> .agg #[.string e.name, .int .i64 e.func]):=by
 refine⟨?_,?_,?_,?_,?_⟩
 all_goals
  intro w0 put C b xs v l B w Ly hE hl Lu hB h0 hC OJ hp;have HP:=V hp;have HL:=V hl;have H0:=V h0;have HC:=V hC;have HW:=V (Wr.refl Lu);have hxs:xs.length <=900000000:=by omega
  obtain⟨a,cap,rfl,N3,MF⟩:=fk hl;clear hp hl h0 hC Lu OJ
  first | go_enter func167,ntmps167 | go_enter func269,ntmps269 | go_enter func271,ntmps271 | go_enter func272,ntmps272 | go_enter func274,ntmps274
  go_wp2_with fail;refine(iZ b xs l.length (by omega) B w HW.out.1 (by omega) hB).mono ?_;rintro e w2 ⟨v2,rfl,ho,hk,hs⟩;have MD:=V (HW.out.step ⟨ho,hk,hs⟩);have MM:=V (H0.out.next HW.out.1 ⟨ho,hk,hs⟩);clear ho hk hs;go_wp2_with fail;refine eC (fun a' w'=>∃(vb:Value) (k:Nat),a'=fr (vb::gs a' 1 1 (.func (.func Ly) #[] #[]::gs a' 3 10 (.slice a l.length cap:: .int .i64 l.length:: .int .i64 k::gs a' 16 9 [])))/\Kx w0 put xs l B b w w' vb k) (fun a' _=>(l.length - (intOf (a'.tmps.getD 15 undef)).toNat)) ?_ ?_
  ·exact⟨_,0,rfl,by omega,by simpa using MD.out,MM.out⟩
  ·skip
   clear HW MD MM H0 v2;rintro R a' w1 ⟨vb,k,Lv,hJ⟩ HR;dsimp only [fr,gs]at Lv;generalize slot a'=f at Lv;subst Lv;obtain⟨hk,hwr,hsr⟩:=hJ;have HW:=V hwr;have HS:=V hsr;have HC1:=V (show(xs++(eO l.length++((l.take k).map put).flatten)).length <=C by
    have h1:=HC.out;have h2:=wU put l k;simp only [ia,ah]at*;omega)
   clear hwr hsr;by_cases q:k < l.length;rotate_left
   ·obtain rfl:k=l.length:=by omega
    have HW:=V (show Wr w b B w1 vb (xs++ia put l)by have:=HW.out;rwa [aU]at this);go_wp2;go_ret;exact⟨_,rfl,HW.out⟩
   obtain⟨x,hx⟩:∃x,l[k]?=some x:=⟨_,aq q⟩;obtain⟨a',LQ,hv,_,_,Lt⟩:=HL.out;injection hv with e1 e2 e3;subst e1 e3;obtain⟨bb,off,rfl,LD,Pp⟩:=Lt k x hx;clear Lt e2;have c0:=(HS.out.1.cell LD).trans (Pp 0 _ rfl)
   try have c1:=(HS.out.1.cell LD).trans (Pp 1 _ rfl)
   try have c2:=(HS.out.1.cell LD).trans (Pp 2 _ rfl)
   rw [aI]at c0
   try rw [aY]at c0
   have HX:=V hx;clear Pp hx;go_wp2_with fail;refine(HP.out x (aN HX.out) _ _ _ (by first | exact HW.out.1 | exact(HW.out.alloc _).1) HC1.out (by first | exact HW.out.base hB | exact(HW.out.alloc _).base hB) (by first | exact HS.out | exact HS.out.alloc _)).mono ?_;rintro e w2 ⟨v2,rfl,L4,LH,LL⟩;have MD:=V (Wr.step (by first | exact HW.out | exact HW.out.alloc _) ⟨L4,LH,LL⟩);have MM:=V (Src.next (by first | exact HS.out | exact HS.out.alloc _) (by first | exact HW.out.1 | exact(HW.out.alloc _).1) ⟨L4,LH,LL⟩);clear L4 LH LL c0
   try clear c1
   try clear c2
   go_wp2;refine HR.out _ _ ⟨_,k+1,rfl,by omega,?_,MM.out⟩ ?_
   ·have:=MD.out
    rw [aR,HX.out];simpa using this
   ·simp [intOf]
    omega
theorem oq:qs 167 1 eU (fun e=> .int .i64 e):=o9.1
theorem Gl:qs 269 3 qv (fun e=> .agg #[.string e.mod, .string e.name, .int .i64 e.type]):=o9.2.1
theorem Gy:qs 271 3 sP (fun e=> .agg #[.bool e.has, .int .i64 e.min, .int .i64 e.max]):=o9.2.2.1
theorem Fp:qs 272 3 qB (fun e=> .agg #[.bool e.isVar, .int .i64 e.init.kind, .int .i64 e.init.n]):=o9.2.2.2.1
theorem F5:qs 274 2 oZ (fun e=> .agg #[.string e.name, .int .i64 e.func]):=o9.2.2.2.2
theorem oO:(qs 167 1 eU (fun e=> .int .i64 e) ->vO 173 1 eU (fun e=> .int .i64 e))/\(qs 269 3 qv (fun e=> .agg #[.string e.mod, .string e.name, .int .i64 e.type]) ->vO 169 3 qv (fun e=> .agg #[.string e.mod, .string e.name, .int .i64 e.type]))/\(qs 271 3 sP (fun e=> .agg #[.bool e.has, .int .i64 e.min, .int .i64 e.max]) ->vO 174 3 sP (fun e=> .agg #[.bool e.has, .int .i64 e.min, .int .i64 e.max]))/\(qs 272 3 qB (fun e=> .agg #[.bool e.isVar, .int .i64 e.init.kind, .int .i64 e.init.n]) ->vO 178 3 qB (fun e=> .agg #[.bool e.isVar, .int .i64 e.init.kind, .int .i64 e.init.n]))/\(qs 274 2 oZ (fun e=> .agg #[.string e.name, .int .i64 e.func]) ->vO 181 2 oZ (fun e=> .agg #[.string e.name, .int .i64 e.func])):=by
 refine⟨?_,?_,?_,?_,?_⟩
 all_goals
  intro HV w0 put no MR b xs v l B w Ly hE hl Lu hB h0 hC hp;have HP:=V hp;have HL:=V hl;have H0:=V h0;have HW:=V (xy.refl Lu);obtain⟨a,cap,rfl,N3,MF⟩:=fk hl;clear hp hl h0 Lu;by_cases q:l.length=0
  ·have f1:=eI (show(l.length:Int)=0 by omega)
   have HN:=V (show l=[]from aH q);clear q
   first | go_enter func173,ntmps173 | go_enter func169,ntmps169 | go_enter func174,ntmps174 | go_enter func178,ntmps178 | go_enter func181,ntmps181
   go_wp2;go_ret;exact⟨_,rfl,by rw [HN.out];simpa [ij] using HW.out⟩
  ·have f1:=dR (show ¬ (l.length:Int)=0 by omega)
   have HN:Hid (ij (b8 no) put l=b8 no::(eO (ia put l).length++ia put l)):=V (by
    cases l with
    | nil=>exact absurd rfl q
    | cons x l=>rfl)
   clear q
   first | go_enter func173,ntmps173 | go_enter func169,ntmps169 | go_enter func174,ntmps174 | go_enter func178,ntmps178 | go_enter func181,ntmps181
   go_wp2_with fail;refine(HV w0 put 100000000 (.slice none 0 0) [] _ l w.heap.size w Ly hE HL.out (ed.nil _ _) (ag _) ⟨H0.out,H0.out.size⟩ (by simp only [aL];omega) (by decide) (fun e he b xs w ho hx hB h0=>HP.out e he b xs w _ ho hx hB h0)).mono ?_;rintro e w2 ⟨v2,rfl,ho,hk,hs⟩;rw [cg]at ho;have Lw:=rM hk rfl;have HO:=V ho;have MD:=V (HW.out.below Lw);obtain⟨a2,LA,ev2,-,-,-⟩:=ho.gl;subst ev2;have hdis:∀i,ez (.slice a2 (ia put l).length LA) i ->¬ ez b i:=fun i h1 h2=>by
    have:=(ey HO.out h1).1;have:=(HW.out.1.lt h2).2;omega
   have HD:=V hdis;clear ho hk hs hE hdis;go_wp2_with (first | (at_builtin;refine qV w2 rfl _ _ rfl rfl B b _ rfl MD.out.1 (b8 no) _ ?_ ?_ ?_ ?_ ?_))
   ·rw [gC MR]
   ·rfl
   ·omega
   ·exact MD.out.base hB
   intro v3 w3 ho hk hs;have PZ:=V (MD.out.own ⟨ho,hk,hs⟩);have HO3:=V (HO.out.keeps hk HD.out);have HD3:=V (show∀i,ez (.slice a2 (ia put l).length LA) i ->¬ ez v3 i from fun i h1 h2=>(hs i h2).elim (HD.out i h1) (fun g=>by have:=(ey HO.out h1).2;omega));clear ho hk hs;go_wp2_with fail;refine(iZ v3 _ (ia put l).length (by omega) B w3 PZ.out.1 (by simp only [ah,aB];omega) (PZ.out.base hB)).mono ?_;rintro e w4 ⟨v4,rfl,ho,hk,hs⟩;have NJ:=V (PZ.out.step ⟨ho,hk,hs⟩);have O6:=V (HO3.out.keeps hk HD3.out);have hp4:=(eL (ia put l).length).2;clear ho hk hs;go_wp2_with (first | (at_builtin;refine iB w4 rfl _ _ rfl rfl B v4 _ rfl NJ.out.1 _ _ rfl O6.out.gl (by simp only [ah,aB];omega) (NJ.out.base hB) ?_));intro v5 w5 ho hk hs;have HW5:=V (NJ.out.step ⟨ho,hk,hs⟩);clear ho hk hs;go_wp2;go_ret;exact⟨_,rfl,by rw [HN.out];exact HW5.out.row⟩
theorem Bm:vO 173 1 eU (fun e=> .int .i64 e):=oO.1 oq
theorem FT:vO 169 3 qv (fun e=> .agg #[.string e.mod, .string e.name, .int .i64 e.type]):=oO.2.1 Gl
theorem zc:vO 174 3 sP (fun e=> .agg #[.bool e.has, .int .i64 e.min, .int .i64 e.max]):=oO.2.2.1 Gy
theorem E8:vO 178 3 qB (fun e=> .agg #[.bool e.isVar, .int .i64 e.init.kind, .int .i64 e.init.n]):=oO.2.2.2.1 Fp
theorem FL:vO 181 2 oZ (fun e=> .agg #[.string e.name, .int .i64 e.func]):=oO.2.2.2.2 F5
theorem zB (x:jD):(qv x).length=3:=rfl
theorem yP (x:fN):(sP x).length=3:=rfl
theorem Ai (x:jz):(qB x).length=3:=rfl
theorem yV (x:iU):(oZ x).length=2:=rfl
theorem vi (x:gw × Value × Value):(oV x).length=2:=rfl
theorem tG (x:hI × Value × Value):(oY x).length=2:=rfl
theorem um (x:jh × Value):(rE x).length=2:=rfl
theorem rW (x:gR × Value):(nJ x).length=2:=rfl
theorem CH (x:Int):∀u∈eU x,u.oneCell'=true:=by simp [eU,Value.oneCell']
theorem KD (x:jD):∀u∈qv x,u.oneCell'=true:=by simp [qv,Value.oneCell']
theorem Ki (x:fN):∀u∈sP x,u.oneCell'=true:=by simp [sP,Value.oneCell']
theorem KA (x:jz):∀u∈qB x,u.oneCell'=true:=by simp [qB,Value.oneCell']
theorem Ko (x:iU):∀u∈oZ x,u.oneCell'=true:=by simp [oZ,Value.oneCell']
theorem G7:(prog.info? 71).map (fun i=>(i.zero,i.size,i.bytes))=some (some (.agg #[.string (bs []), .string (bs []), .int .i64 0]),3,40):=by kernel_rfl
theorem G9:(prog.info? 28).map (fun i=>(i.zero,i.size,i.bytes))=some (some (.agg #[.bool false, .int .i64 0, .int .i64 0]),3,24):=by kernel_rfl
theorem C9:(prog.info? 73).map (fun i=>(i.zero,i.size,i.bytes))=some (some (.agg #[.bool false, .int .i64 0, .int .i64 0]),3,24):=by kernel_rfl
theorem Ab:(prog.info? 75).map (fun i=>(i.zero,i.size,i.bytes))=some (some (.agg #[.string (bs []), .int .i64 0]),2,24):=by kernel_rfl
theorem Dz:(prog.info? 69).map (fun i=>(i.zero,i.size,i.bytes))=some (some (.agg #[.slice none 0 0, .slice none 0 0]),2,48):=by kernel_rfl
theorem Ee:(prog.info? 41).map (fun i=>(i.zero,i.size,i.bytes))=some (some (.agg #[.slice none 0 0, .slice none 0 0]),2,48):=by kernel_rfl
theorem DY:(prog.info? 77).map (fun i=>(i.zero,i.size,i.bytes))=some (some (.agg #[.int .i64 0, .slice none 0 0]),2,32):=by kernel_rfl
theorem Eb:(prog.info? 106).map (fun i=>(i.zero,i.size,i.bytes))=some (some (.agg #[.int .i64 0, .slice none 0 0]),2,32):=by kernel_rfl
def JH {α:Type} (val:α ->Value) (w0:World) (Y:Nat) (get:iV α) (P:α ->Prop) (s:gA) (w1:World) (e:Ending) (w2:World):Prop:=
 ∃x:α,e= .returned (val x)/\P x/\gO get s x/\fG w0 w2 Y (et get s)/\dU (fun k=>k=Y) w1 w2
def KB {α β:Type} (val:α ->β ->Value) (inner:World ->α ->β ->Prop) (w0:World) (Y:Nat) (get:iV α) (P:α ->Prop) (s:gA) (w1:World) (e:Ending) (w2:World):Prop:=
 ∃(x:α) (u:β),e= .returned (val x u)/\inner (mask (jO w1.heap.size) w2) x u/\P x/\gO get s x/\fG w0 w2 Y (et get s)/\dU (fun k=>k=Y) w1 w2
def Ls {α:Type} (t:TypeId) (k:Nat) (enc:α ->List Value) (w0:World) (Y:Nat) (get:iV α) (P:α ->Prop) (st:gA) (w:World) (e:Ending) (w':World):Prop:=
 ∃(v:Value) (l:List α),e= .returned v/\dS t k enc w' w.heap.size v l/\(∀x∈l,P x)/\l.length <=8001/\gO (fg get) st l/\fG w0 w' Y (et (fg get) st)/\dU (fun k=>k=Y) w w'
def Lo {α β:Type} (t:TypeId) (k:Nat) (enc:α × β ->List Value) (inner:World ->α ->β ->Prop) (w0:World) (Y:Nat) (get:iV α) (P:α ->Prop) (st:gA) (w:World) (e:Ending) (w':World):Prop:=
 ∃(v:Value) (l:List α),e= .returned v/\eZ t k enc inner w' w.heap.size v l/\(∀x∈l,P x)/\l.length <=8001/\gO (fg get) st l/\fG w0 w' Y (et (fg get) st)/\dU (fun k=>k=Y) w w'
def Ll {α:Type} (w0:World) (Y:Nat) (get:iV α) (P:α ->Prop) (st:gA) (w w':World) (acc:List α) (n:Nat) (s:gA):Prop:=
 st.bind (fg get)=qT get n acc s/\(∀x∈acc,P x)/\acc.length+s.len <=8001/\fG w0 w' Y s/\dU (fun k=>k=Y) w w'/\n < 4294967296
theorem zN {α β:Type} {t:TypeId} {k:Nat} {enc:α × β ->List Value} {inner:World ->α ->β ->Prop} {wi:World} {x:α} {u:β} (_:inner wi x u) {P:Program} (w:World) {ops:Array Oper} {rest:List Oper} {o:Oper} {a:Act} {Q:Exit ->Act ->World ->Prop} (OP:o.guard=none) (s x':Operand) (ts:TypeId)
  (ho:o.op= .call {callee:= .builtin .append,args:=#[s,x'],argTypes:=#[ts,ts]}) (z:Value) (bytes:Nat) (ht:P.underlying ts=some (.slice t)) (hi:(P.info? t).map (fun i=>(i.zero,i.size,i.bytes))=some (some z,k,bytes)) (P5:z.cells.size=k) (h0:0 < k) (Nk:bytes <=100000000)
  (B:Nat) (v:Value) (l:List (α × β)) (hs:a.eval s=v) (Lu:dS t k enc w B v l) (cs:Array Value) (hcs:cs=(enc (x,u)).toArray) (hk:(enc (x,u)).length=k) (h1:∀y∈enc (x,u),y.oneCell'=true) (hx:a.eval x'= .slice (some ⟨w.heap.size,0,none⟩) 1 1) (OU:l.length <=1000000) (LW:B <=w.heap.size)
  (h:∀v' w',dS t k enc w' B v' (l++[(x,u)]) ->dU (ez v) w w' ->eB w v v' ->wpList P ops Q rest (a.put o.dst v') w'):wpList P ops Q (o::rest) a (w.alloc (.cells cs t)):=
 fb w OP s x' ts ho z bytes ht hi P5 h0 Nk B v l hs Lu (x,u) cs hcs hk h1 hx OU LW h
def Ds {α:Type} (fl:Nat) (t:TypeId) (k:Nat) (enc:α ->List Value) (val:α ->Value):Prop:=∀(w0:World) (Y:Nat) (get:iV α) (P:α ->Prop) (_:jg get) (st:gA) (w:World) (Ly:Nat) (bs cs:Array Value),(∀args w,(callFunc Ly args).run prog w= .ok (.enter Ly args) w) ->fG w0 w Y st ->
 (∀s w1,fG w0 w1 Y s ->dU (fun k=>k=Y) w w1 ->Calls prog Ly (bs++cs) w1 (JH val w0 Y get P s w1)) ->Calls prog fl #[.pointer (some ⟨Y,0,none⟩), .func (.func Ly) bs cs] w (Ls t k enc w0 Y get P st w)
def EF {α:Type} (fl:Nat) (t:TypeId) (enc:α ->List Value) (val:α ->Value):Prop:=∀(t':TypeId) (k':Nat) (Ot:α ->List Value) (z:Value) (bytes:Nat),t'=t ->Ot=enc ->(prog.info? t').map (fun i=>(i.zero,i.size,i.bytes))=some (some z,k',bytes) ->z.cells.size=k' ->0 < k' ->bytes <=100000000 ->(∀x,(Ot x).length=k') ->(∀x,∀u∈Ot x,u.oneCell'=true) ->Ds fl t' k' Ot val
theorem qU:EF 209 3 eU (fun x:Int=> .int .i64 x)/\EF 207 71 qv (fun x:jD=> .agg #[.string x.mod, .string x.name, .int .i64 x.type])/\EF 285 28 sP (fun x:fN=> .agg #[.bool x.has, .int .i64 x.min, .int .i64 x.max])/\EF 211 73 qB (fun x:jz=> .agg #[.bool x.isVar, .int .i64 x.init.kind, .int .i64 x.init.n])/\EF 213 75 oZ (fun x:iU=> .agg #[.string x.name, .int .i64 x.func]):=by
 refine⟨?_,?_,?_,?_,?_⟩
 all_goals
  intro t' k' Ot z bytes ht he Qt P5 PC Nk hlen hone w0 Y get P hG st w Ly bs cs hE h hp;have HT:=V ht;have HEN:=V he;have HINF:=V Qt;have Qu:=V hlen;have HONE:=V hone;have HP:=V hp;have HH:=V h;have hR:=h.lt;have HG:=V hG;clear hp h hG ht he Qt hlen hone
  first | go_enter func209,ntmps209 | go_enter func207,ntmps207 | go_enter func285,ntmps285 | go_enter func211,ntmps211 | go_enter func213,ntmps213
  go_wp2_with fail;refine(jI w0 w Y st HH.out).mono ?_;rintro e w1 ⟨rfl,h1,Oa⟩;have Qk:=V (tY get st _ (mF st));have hn:=lz st;have hlen:=h1.len;obtain⟨N,eN⟩:∃N,jj st=N:=⟨_,rfl⟩;rw [eN]at hn Qk⊢;clear eN;go_wp2_with fail;refine eC (fun a' w'=>∃(v:Value) (acc:List _) (n:Nat) (s:gA),a'=fr (.pointer (some ⟨Y,0,none⟩):: .func (.func Ly) bs cs::gs a' 2 3 (v:: .int .i64 n::gs a' 7 19 []))/\dS t' k' Ot w' w.heap.size v acc/\Ll w0 Y get P st w w' acc n s) (fun a' _=>(intOf (a'.tmps.getD 6 undef)).toNat) ?_ ?_
  ·exact⟨_,[],N,et fX st,rfl,dS.nil _ _,Qk.out,by simp,by simpa using hlen,h1,Oa,hn⟩
  ·clear h1 Oa hn hlen Qk HH
   rintro R a' w1 ⟨v,acc,n,s,Lv,hJ⟩ HR;dsimp only [fr,gs]at Lv;generalize slot a'=f at Lv;subst Lv;obtain⟨ho,O7,Mo,hlen,Nm,hk,hn⟩:=hJ;have Ms:=V Nm;have Nx:=V O7;have Mk:=V Mo;have HRL:=V hR;have Mq:=hk.size;have c1:=Nm.bad;have HO:=V ho;have HNT:=V (show∀i,ez v i ->¬ i=Y from fun i hi=>by have:=(ey ho hi).1;omega);have HK:=V hk;clear ho O7 Mo Nm hk;rcases aZ n with OW | OW
   ·obtain⟨g1,g2⟩:=nv get Nx.out (.inl OW)
    have G1:=V g1;have G2:=V g2;subst OW;clear g1 g2;go_wp2;go_ret;exact⟨_,acc,rfl,HO.out,Mk.out,by omega,G2.out,by rw [G1.out];exact Ms.out,HK.out⟩
   have f0:decide ((0:Int) < (n:Int))=true:=ay (by omega);cases s with
   | none=>
    have c1:w1.cell? ⟨Y,1,none⟩=some (.bool true):=c1;obtain⟨g1,g2⟩:=nv get Nx.out (.inr rfl);have G1:=V g1;have G2:=V g2;clear g1 g2;go_wp2;go_ret;exact⟨_,acc,rfl,HO.out,Mk.out,by omega,G2.out,by rw [G1.out];exact Ms.out,HK.out⟩
   | some lb=>
    have c1:w1.cell? ⟨Y,1,none⟩=some (.bool false):=c1;obtain⟨n',rfl⟩:∃n',n=n'+1:=⟨n - 1,by omega⟩;have LD:=HG.out.len lb;have hacc:acc.length <=8001:=by omega
    have OM:=V (show acc.length+1+(et get (some lb)).len <=8001 by omega);clear LD hlen;go_wp2_with fail;refine(HP.out (some lb) w1 Ms.out HK.out).mono ?_;rintro e w2 ⟨x,rfl,hpx,hwx,h2,LH⟩;have MX:=V (dS.keeps HO.out LH HNT.out);obtain⟨av,cv,ev,_,M6,-⟩:=MX.out.fH Qu.out;subst ev;unfold maxLen at M6;have Ql:=V h2;have HPX:=V hpx;have HREP2:=V (Nx.out.trans (rR get n' acc hwx));have Nv:=V (HK.out.trans LH (fun _ h=> .inl h));have HSZ1:=V (show w.heap.size <=w1.heap.size from HK.out.size);have HSZ2:=V (show w.heap.size <=w2.heap.size from Nv.out.size);have e7:=HT.out;have e8:=HEN.out;subst e7 e8;clear hpx hwx h2 LH c1;go_wp2_with (first | (at_builtin;refine fb w2 rfl _ _ _ rfl z bytes (by kernel_rfl) HINF.out P5 PC Nk w.heap.size (.slice av acc.length cv) acc rfl MX.out x _ rfl (Qu.out x) (HONE.out x) rfl (by omega) HSZ2.out ?_));intro v3 w3 Nl Mz N4;have HO3:=V Nl;have P0:∀i,ez (.slice av acc.length cv) i ->w.heap.size <=i/\i < w2.heap.size:=fun i hi=>ey MX.out hi;have HRD3:=V (Ql.out.keeps Mz (fun h=>by have:=(P0 _ h).1;have:=HRL.out;omega) (fun i hi=>by have:=(P0 i hi).1;have:=Ql.out.old.2;have:=HRL.out;omega));have HK3:=V (Nv.out.trans Mz (fun i hi=> .inr (P0 i hi).1));clear Nl Mz N4 P0;go_wp2;refine HR.out _ _ ⟨_,acc++[x],n',et get (some lb),rfl,HO3.out,HREP2.out,?_,?_,HRD3.out,HK3.out,by omega⟩ ?_
    ·intro y hy
     rcases bT.1 hy with h | h
     ·exact Mk.out y h
     ·obtain rfl:=aV.1 h
      exact HPX.out
    ·rw [ah]
     exact OM.out
    ·simp [intOf]
theorem nD:Ds 209 3 1 eU (fun x:Int=> .int .i64 x):=qU.1 _ _ _ _ _ rfl rfl jA rfl (by decide) (by decide) fm CH
theorem Ja:Ds 207 71 3 qv (fun x:jD=> .agg #[.string x.mod, .string x.name, .int .i64 x.type]):=qU.2.1 _ _ _ _ _ rfl rfl G7 rfl (by decide) (by decide) zB KD
theorem IQ:Ds 285 28 3 sP (fun x:fN=> .agg #[.bool x.has, .int .i64 x.min, .int .i64 x.max]):=qU.2.2.1 _ _ _ _ _ rfl rfl G9 rfl (by decide) (by decide) yP Ki
theorem I3:Ds 211 73 3 qB (fun x:jz=> .agg #[.bool x.isVar, .int .i64 x.init.kind, .int .i64 x.init.n]):=qU.2.2.2.1 _ _ _ _ _ rfl rfl C9 rfl (by decide) (by decide) Ai KA
theorem IC:Ds 213 75 2 oZ (fun x:iU=> .agg #[.string x.name, .int .i64 x.func]):=qU.2.2.2.2 _ _ _ _ _ rfl rfl Ab rfl (by decide) (by decide) yV Ko
def EW {α β:Type} (fl:Nat) (t:TypeId) (k:Nat) (enc:α × β ->List Value) (inner:World ->α ->β ->Prop) (val:α ->β ->Value):Prop:=∀(w0:World) (Y:Nat) (get:iV α) (P:α ->Prop) (_:jg get) (st:gA) (w:World) (Ly:Nat) (bs cs:Array Value),(∀args w,(callFunc Ly args).run prog w= .ok (.enter Ly args) w) ->fG w0 w Y st ->
 (∀s w1,fG w0 w1 Y s ->dU (fun k=>k=Y) w w1 ->Calls prog Ly (bs++cs) w1 (KB val inner w0 Y get P s w1)) ->Calls prog fl #[.pointer (some ⟨Y,0,none⟩), .func (.func Ly) bs cs] w (Lo t k enc inner w0 Y get P st w)
def Hg {α β:Type} (fl:Nat) (t:TypeId) (enc:α × β ->List Value) (inner:World ->α ->β ->Prop) (val:α ->β ->Value):Prop:=∀(t':TypeId) (k':Nat) (Ot:α × β ->List Value) (inn:World ->α ->β ->Prop) (z:Value) (bytes:Nat),t'=t ->Ot=enc ->inn=inner ->(prog.info? t').map (fun i=>(i.zero,i.size,i.bytes))=some (some z,k',bytes) ->z.cells.size=k' ->0 < k' ->bytes <=100000000 ->(∀x,(Ot x).length=k') ->EW fl t' k' Ot inn val
theorem td:Hg 205 69 oV gG (fun(_:gw) (u:Value × Value)=> .agg #[u.1,u.2])/\Hg 218 41 oY gE (fun(_:hI) (u:Value × Value)=> .agg #[u.1,u.2])/\Hg 215 77 rE gQ (fun(x:jh) (u:Value)=> .agg #[.int .i64 x.off,u])/\Hg 220 106 nJ gb (fun(x:gR) (u:Value)=> .agg #[.int .i64 x.off,u]):=by
 refine⟨?_,?_,?_,?_⟩
 all_goals
  intro t' k' Ot inn z bytes ht he hie Qt P5 PC Nk hlen w0 Y get P hG st w Ly bs cs hE h hp;have HT:=V ht;have HEN:=V he;have HIE:=V hie;clear hie;have HINF:=V Qt;have Qu:=V hlen;have HP:=V hp;have HH:=V h;have hR:=h.lt;have HG:=V hG;clear hp h hG ht he Qt hlen
  first | go_enter func205,ntmps205 | go_enter func218,ntmps218 | go_enter func215,ntmps215 | go_enter func220,ntmps220
  go_wp2_with fail;refine(jI w0 w Y st HH.out).mono ?_;rintro e w1 ⟨rfl,h1,Oa⟩;have Qk:=V (tY get st _ (mF st));have hn:=lz st;have hlen:=h1.len;obtain⟨N,eN⟩:∃N,jj st=N:=⟨_,rfl⟩;rw [eN]at hn Qk⊢;clear eN;go_wp2_with fail;refine eC (fun a' w'=>∃(v:Value) (acc:List _) (n:Nat) (s:gA),a'=fr (.pointer (some ⟨Y,0,none⟩):: .func (.func Ly) bs cs::gs a' 2 3 (v:: .int .i64 n::gs a' 7 19 []))/\eZ t' k' Ot inn w' w.heap.size v acc/\Ll w0 Y get P st w w' acc n s) (fun a' _=>(intOf (a'.tmps.getD 6 undef)).toNat) ?_ ?_
  ·exact⟨_,[],N,et fX st,rfl,eZ.nil _ _,Qk.out,by simp,by simpa using hlen,h1,Oa,hn⟩
  ·clear h1 Oa hn hlen Qk HH
   rintro R a' w1 ⟨v,acc,n,s,Lv,hJ⟩ HR;dsimp only [fr,gs]at Lv;generalize slot a'=f at Lv;subst Lv;obtain⟨ho,O7,Mo,hlen,Nm,hk,hn⟩:=hJ;have Ms:=V Nm;have Nx:=V O7;have Mk:=V Mo;have HRL:=V hR;have Mq:=hk.size;have c1:=Nm.bad;have HO:=V ho;have HNT:=V (show∀i,ez v i ->¬ i=Y from fun i hi=>by have:=(eZ.lt ho hi).1;omega);have HK:=V hk;clear ho O7 Mo Nm hk;rcases aZ n with OW | OW
   ·obtain⟨g1,g2⟩:=nv get Nx.out (.inl OW)
    have G1:=V g1;have G2:=V g2;subst OW;clear g1 g2;go_wp2;go_ret;exact⟨_,acc,rfl,HO.out,Mk.out,by omega,G2.out,by rw [G1.out];exact Ms.out,HK.out⟩
   have f0:decide ((0:Int) < (n:Int))=true:=ay (by omega);cases s with
   | none=>
    have c1:w1.cell? ⟨Y,1,none⟩=some (.bool true):=c1;obtain⟨g1,g2⟩:=nv get Nx.out (.inr rfl);have G1:=V g1;have G2:=V g2;clear g1 g2;go_wp2;go_ret;exact⟨_,acc,rfl,HO.out,Mk.out,by omega,G2.out,by rw [G1.out];exact Ms.out,HK.out⟩
   | some lb=>
    have c1:w1.cell? ⟨Y,1,none⟩=some (.bool false):=c1;obtain⟨n',rfl⟩:∃n',n=n'+1:=⟨n - 1,by omega⟩;have LD:=HG.out.len lb;have hacc:acc.length <=8001:=by omega
    have OM:=V (show acc.length+1+(et get (some lb)).len <=8001 by omega);clear LD hlen;go_wp2_with fail;refine(HP.out (some lb) w1 Ms.out HK.out).mono ?_;rintro e w2 ⟨x,u,rfl,Ml,hpx,hwx,h2,LH⟩;have e9:=HIE.out;subst e9
    first
    | (obtain⟨⟨a1,LO,rfl,-,-,-⟩,-⟩:=id Ml)
    | (obtain⟨u1,u2⟩:=u;obtain⟨⟨⟨a1,LO,M5,-,-,-⟩,⟨a2,LA,M9,-,-,-⟩⟩,-⟩:=id Ml;simp only at M5 M9;subst M5 M9)
    | (obtain⟨u1,u2⟩:=u;obtain⟨⟨⟨a1,LO,M5,-,-,-⟩,Me⟩,-⟩:=id Ml;obtain⟨a2,LA,M9,-,-⟩:=ef.slice Me;simp only at M5 M9;subst M5 M9;clear Me)
    have L9:=V Ml;clear Ml;have MX:=V (eZ.keeps (fun _ _ _ _ he h=>h.ext he) HO.out LH (fun i hi=>by subst hi;exact .inl HRL.out));obtain⟨us,u1,u2,u3⟩:=MX.out;have OK:(acc.zip us).length=acc.length:=by rw [bS,u1,cP]
    obtain⟨av,cv,ev,_,M6,-⟩:=u2.fH Qu.out;rw [OK]at ev;subst ev;unfold maxLen at M6;have HV:=V (show∀i,ez (.slice av acc.length cv) i ->i < w1.heap.size from fun i hi=>(eZ.lt HO.out hi).2);have U1:=V u1;have U3:=V u3;have U2:=V u2;have Ql:=V h2;have HPX:=V hpx;have HREP2:=V (Nx.out.trans (rR get n' acc hwx));have Nv:=V (HK.out.trans LH (fun _ h=> .inl h));have HSZ1:=V (show w.heap.size <=w1.heap.size from HK.out.size);have HSZ2:=V (show w.heap.size <=w2.heap.size from Nv.out.size);have e7:=HT.out;have e8:=HEN.out;subst e7 e8;clear hpx hwx h2 LH c1;go_wp2_with (first | (at_builtin;refine zN L9.out w2 rfl _ _ _ rfl z bytes (by kernel_rfl) HINF.out P5 PC Nk w.heap.size (.slice av acc.length cv) (acc.zip us) rfl U2.out _ rfl (Qu.out _) (by simp [Value.oneCell',oV,oY,rE,nJ]) rfl (by rw [bS,U1.out,cP];omega) HSZ2.out ?_));intro v3 w3 Nl Mz N4;have HO3:=V (eZ.app (fun _ _ _ _ he h=>h.ext he) (w1:=w1) U1.out U3.out Nl Mz N4 HSZ1.out HV.out L9.out);have P0:∀i,ez (.slice av acc.length cv) i ->w.heap.size <=i/\i < w2.heap.size:=fun i hi=>ey U2.out hi;have HRD3:=V (Ql.out.keeps Mz (fun h=>by have:=(P0 _ h).1;have:=HRL.out;omega) (fun i hi=>by have:=(P0 i hi).1;have:=Ql.out.old.2;have:=HRL.out;omega));have HK3:=V (Nv.out.trans Mz (fun i hi=> .inr (P0 i hi).1));clear Nl Mz N4 P0;go_wp2;refine HR.out _ _ ⟨_,acc++[x],n',et get (some lb),rfl,HO3.out,HREP2.out,?_,?_,HRD3.out,HK3.out,by omega⟩ ?_
    ·intro y hy
     rcases bT.1 hy with h | h
     ·exact Mk.out y h
     ·obtain rfl:=aV.1 h
      exact HPX.out
    ·rw [ah]
     exact OM.out
    ·simp [intOf]
theorem I2:EW 205 69 2 oV gG (fun(_:gw) (u:Value × Value)=> .agg #[u.1,u.2]):=td.1 _ _ _ _ _ _ rfl rfl rfl Dz rfl (by decide) (by decide) vi
theorem H9:EW 218 41 2 oY gE (fun(_:hI) (u:Value × Value)=> .agg #[u.1,u.2]):=td.2.1 _ _ _ _ _ _ rfl rfl rfl Ee rfl (by decide) (by decide) tG
theorem Iz:EW 215 77 2 rE gQ (fun(x:jh) (u:Value)=> .agg #[.int .i64 x.off,u]):=td.2.2.1 _ _ _ _ _ _ rfl rfl rfl DY rfl (by decide) (by decide) um
theorem Hr:EW 220 106 2 nJ gb (fun(x:gR) (u:Value)=> .agg #[.int .i64 x.off,u]):=td.2.2.2 _ _ _ _ _ _ rfl rfl rfl Eb rfl (by decide) (by decide) rW
theorem dS.stay {α:Type} {t:TypeId} {k:Nat} {enc:α ->List Value} {w w':World} {B:Nat} {v:Value} {l:List α} {S:Nat ->Prop} (h:dS t k enc w B v l) (hk:dU S w w') (hs:∀i,S i ->i < B):dS t k enc w' B v l:=
 h.keeps hk (fun i hi hp=>by have:=(ey h hi).1;have:=hs i hp;omega)
theorem dS.lower {α:Type} {t:TypeId} {k:Nat} {enc:α ->List Value} {w:World} {B B':Nat} {v:Value} {l:List α} (h:dS t k enc w B v l) (hB:B' <=B):dS t k enc w B' v l:=
 my h (fun _ hk=>aQ hB (ey h hk).1)
theorem CY (st:gA):iR (nC st):=by
 rcases(zh st).2 with h;rw [h];split
 ·exact⟨by decide,by decide⟩
 ·split <;>exact⟨by decide,by decide⟩
theorem ED (w0 w:World) (R:Nat) (s:gA) (h:fG w0 w R s):Calls prog 283 (#[.pointer (some ⟨R,0,none⟩)]++#[]) w (JH (fun x:Int=> .int .i64 x) w0 R gz iR s w):=by
 refine(tS w0 w R s h).mono ?_;rintro e w' ⟨rfl,h1,h2⟩;exact⟨nC s,rfl,CY s,xi s,h1,h2⟩
theorem A1 (n:Nat) (h:n < 4294967296):iR n:=⟨by show(-9223372036854775808:Int) <=n;omega,by show(n:Int) <=9223372036854775807;omega⟩
theorem Gb (w0 w:World) (R:Nat) (s:gA) (h:fG w0 w R s):Calls prog 122 (#[.pointer (some ⟨R,0,none⟩)]++#[]) w (JH (fun x:Int=> .int .i64 x) w0 R vz iR s w):=by
 refine(jI w0 w R s h).mono ?_;rintro e w' ⟨rfl,h1,h2⟩;exact⟨jj s,rfl,A1 _ (lz s),by rw [qC];exact fo (mF s),by rw [qC,fh];exact h1,h2⟩
theorem Em (w0 w:World) (R:Nat) (st:gA) (h:fG w0 w R st):Calls prog 206 (#[.pointer (some ⟨R,0,none⟩)]++#[]) w (KB (fun(_:gw) (u:Value × Value)=> .agg #[u.1,u.2]) gG w0 R pe (fun _=>True) st w):=by
 have Oc:=h.lt;have Po:=h.old.2;have HH:=V (h.alloc (.cells #[.slice none 0 0, .slice none 0 0] 69));have HX:=V (eD.new w #[.slice none 0 0, .slice none 0 0] 69);have HK:=V ((dU.refl (fun k=>k=R) w).alloc (.cells #[.slice none 0 0, .slice none 0 0] 69));have Mq:(w.alloc (.cells #[.slice none 0 0, .slice none 0 0] 69)).heap.size=w.heap.size+1:=aC _ _;have ME:=dt Mq.symm;clear h Mq;go_enter func206,ntmps206;go_wp2_with fail;refine(iM w0 _ R st HH.out).mono ?_;rintro e w1 ⟨rfl,hh,hk⟩;have ME:=aQ ME hk.size;have HH:=V hh;have HX:=V (HX.out.keeps hk (by omega));have HK:=V (HK.out.trans hk (fun _ h=> .inl h));clear hh hk;go_wp2_with fail;refine(nD w0 R gz iR kZ _ w1 283 #[.pointer (some ⟨R,0,none⟩)] #[] (fun _ _=>by rfl) HH.out (fun s w1 h _=>ED w0 w1 R s h)).mono ?_;rintro e w2 ⟨v1,l1,rfl,Og,hp1,QV,P9,hh,hk⟩;obtain⟨a1,c1,rfl,-,-⟩:=Og.slice;have Nd:=aQ ME hk.size;have M4:=V Og;have HP1:=V hp1;have PJ:=V P9;clear Og hp1 P9;have HH:=V hh;have HX:=V (HX.out.keeps hk (by omega));have HK:=V (HK.out.trans hk (fun _ h=> .inl h));clear hh hk;go_wp2_with fail;refine(nD w0 R gz iR kZ _ w2 283 #[.pointer (some ⟨R,0,none⟩)] #[] (fun _ _=>by rfl) HH.out (fun s w1 h _=>ED w0 w1 R s h)).mono ?_;rintro e w3 ⟨v2,l2,rfl,L4,Qb,hl2,NO,hh,hk⟩;obtain⟨a2,c2,rfl,-,-⟩:=L4.slice;have M4:=V (M4.out.stay hk (fun i hi=>by omega));have MX:=V L4;have HP2:=V Qb;have MD:=V NO;clear L4 Qb NO;have HH:=V hh;have HX:=V (HX.out.keeps hk (by omega));have HK:=V (HK.out.trans hk (fun _ h=> .inl h));clear hh hk;obtain⟨x0,x1,z0,z1⟩:=HX.out.two;go_wp2_with fail;have hx:=HX.out.mL (.slice a1 l1.length c1) (.slice a2 l2.length c2);have Lx:=fp w3 w.heap.size (.slice a1 l1.length c1) (.slice a2 l2.length c2);refine aF (ej rfl _ _ rfl hx.kr) rfl ?_;have o1:=((M4.out.stay Lx (fun i hi=>by omega)).lower (show w.heap.size <=w1.heap.size by omega));have o2:=((MX.out.stay Lx (fun i hi=>by omega)).lower (show w.heap.size <=w2.heap.size by omega));refine⟨⟨l1,l2⟩,(.slice a1 l1.length c1, .slice a2 l2.length c2),rfl,⟨⟨iY fm o1,iY fm o2⟩,HP1.out,HP2.out⟩,trivial,?_,?_,HK.out.iJ Lx (ag _)⟩
 ·rw [uI]
  exact fo (f:=fun x:UInt8 × List Int × List Int=>gw.mk x.2.1 x.2.2) (ib (ml st) (ib PJ.out MD.out))
 ·rw [uI,fh,gI,gI]
  exact HH.out.keeps Lx (by omega) (fun i hi=>by omega)
theorem qP {w0 w:World} {R:Nat} {st:gA} (h:fG w0 w R st):(wJ st).size <=8000:=by
 have:=zf h;show((nG st).toArray).size <=8000;simpa using this
def jD.fits (x:jD):Prop:=x.mod.size <=8000/\x.name.size <=8000/\iR x.type
def iU.fits (x:iU):Prop:=x.name.size <=8000/\iR x.func
theorem BY (w0 w:World) (R:Nat) (st:gA) (h:fG w0 w R st):Calls prog 208 (#[.pointer (some ⟨R,0,none⟩)]++#[]) w (JH (fun x:jD=> .agg #[.string x.mod, .string x.name, .int .i64 x.type]) w0 R ua jD.fits st w):=by
 have Oc:=h.lt;have Po:=h.old.2;have HH:=V (h.alloc (.cells #[.string (bs []), .string (bs []), .int .i64 0] 71));have HX:=V (eD.new w #[.string (bs []), .string (bs []), .int .i64 0] 71);have HK:=V ((dU.refl (fun k=>k=R) w).alloc (.cells #[.string (bs []), .string (bs []), .int .i64 0] 71));have Mq:(w.alloc (.cells #[.string (bs []), .string (bs []), .int .i64 0] 71)).heap.size=w.heap.size+1:=aC _ _;have ME:=dt Mq.symm;have HT1:=V (qP h);clear h Mq;go_enter func208,ntmps208;go_wp2_with fail;refine(uE w0 _ R st HH.out).mono ?_;rintro e w1 ⟨rfl,hh,hk⟩;have ME:=aQ ME hk.size;have HH:=V hh;have HX:=V (HX.out.keeps hk (by omega));have HK:=V (HK.out.trans hk (fun _ h=> .inl h));clear hh hk;have HT2:=V (qP HH.out);go_wp2_with fail;refine(uE w0 w1 R _ HH.out).mono ?_;rintro e w2 ⟨rfl,hh,hk⟩;have Nd:=aQ ME hk.size;have HH:=V hh;have HX:=V (HX.out.keeps hk (by omega));have HK:=V (HK.out.trans hk (fun _ h=> .inl h));clear hh hk;obtain⟨s1,es1⟩:∃s,wJ st=s:=⟨_,rfl⟩;obtain⟨s2,es2⟩:∃s,wJ (et jm st)=s:=⟨_,rfl⟩;rw [es1]at HT1;rw [es2]at HT2;rw [es1,es2];have ES1:=V es1;have ES2:=V es2;clear es1 es2;have HY:=V (eD.new w2 #[.string s1, .string s2, .int .i64 0] 71);have HX:=V (HX.out.alloc (.cells #[.string s1, .string s2, .int .i64 0] 71));have HK:=V (HK.out.alloc (.cells #[.string s1, .string s2, .int .i64 0] 71));have HH:=V (HH.out.alloc (.cells #[.string s1, .string s2, .int .i64 0] 71));go_wp2_with fail;refine(iM w0 _ R _ HH.out).mono ?_;rintro e w3 ⟨rfl,hh,hk⟩;have HH:=V hh;have HX:=V (HX.out.keeps hk (by omega));have HY:=V (HY.out.keeps hk (by omega));have HK:=V (HK.out.trans hk (fun _ h=> .inl h));clear hh hk;go_wp2_with fail;refine(jI w0 w3 R _ HH.out).mono ?_;rintro e w4 ⟨rfl,hh,hk⟩;have HH:=V hh;have HX:=V (HX.out.keeps hk (by omega));have HY:=V (HY.out.keeps hk (by omega));have HK:=V (HK.out.trans hk (fun _ h=> .inl h));clear hh hk;have hn:=lz (et eV (et jm (et jm st)));obtain⟨n,en⟩:∃n,jj (et eV (et jm (et jm st)))=n:=⟨_,rfl⟩;rw [en]at hn⊢;have EN:=V en;clear en;obtain⟨y0,y1,y2,v0,v1,v2⟩:=HY.out.Hd;obtain⟨x0,x1,x2,z0,z1,z2⟩:=HX.out.Hd;go_wp2_with fail;have Ns:=ei w4 w2.heap.size 2 (.int .i64 n);have hx:=(HX.out.keeps Ns (by omega)).vr (.string s1) (.string s2) (.int .i64 n);have Lx:=kp (w4.setCell ⟨w2.heap.size,2,none⟩ (.int .i64 n)) w.heap.size (.string s1) (.string s2) (.int .i64 n);refine aF (ej rfl _ _ rfl hx.Ic) rfl ?_;refine⟨⟨s1,s2,n⟩,rfl,⟨HT1.out,HT2.out,A1 n hn⟩,?_,?_,(HK.out.iJ Ns (by omega)).iJ Lx (ag _)⟩
 ·rw [yd]
  refine fo (f:=fun x:ByteArray × ByteArray × UInt8 × Int=>jD.mk x.1 x.2.1 x.2.2.2) (x:=(s1,s2,_,(n:Int))) (ib ?_ (ib ?_ (ib (ml _) ?_)))
  ·rw [<- ES1.out];exact r9 st
  ·rw [<- ES2.out];exact r9 _
  ·rw [qC, <- EN.out]
   exact fo (f:=fun n:Nat=>(n:Int)) (mF _)
 ·rw [yd,fh,gI,gI,gI,qC,fh]
  exact(HH.out.keeps Ns (by omega) (fun i hi=>by omega)).keeps Lx (by omega) (fun i hi=>by omega)
theorem BT (w0 w:World) (R:Nat) (st:gA) (h:fG w0 w R st):Calls prog 214 (#[.pointer (some ⟨R,0,none⟩)]++#[]) w (JH (fun x:iU=> .agg #[.string x.name, .int .i64 x.func]) w0 R uw iU.fits st w):=by
 have Oc:=h.lt;have Po:=h.old.2;have HH:=V (h.alloc (.cells #[.string (bs []), .int .i64 0] 75));have HX:=V (eD.new w #[.string (bs []), .int .i64 0] 75);have HK:=V ((dU.refl (fun k=>k=R) w).alloc (.cells #[.string (bs []), .int .i64 0] 75));have Mq:(w.alloc (.cells #[.string (bs []), .int .i64 0] 75)).heap.size=w.heap.size+1:=aC _ _;have ME:=dt Mq.symm;have HT1:=V (qP h);clear h Mq;go_enter func214,ntmps214;go_wp2_with fail;refine(uE w0 _ R st HH.out).mono ?_;rintro e w2 ⟨rfl,hh,hk⟩;have Nd:=aQ ME hk.size;have HH:=V hh;have HX:=V (HX.out.keeps hk (by omega));have HK:=V (HK.out.trans hk (fun _ h=> .inl h));clear hh hk;obtain⟨s1,es1⟩:∃s,wJ st=s:=⟨_,rfl⟩;rw [es1]at HT1;rw [es1];have ES1:=V es1;clear es1;have HY:=V (eD.new w2 #[.string s1, .int .i64 0] 75);have HX:=V (HX.out.alloc (.cells #[.string s1, .int .i64 0] 75));have HK:=V (HK.out.alloc (.cells #[.string s1, .int .i64 0] 75));have HH:=V (HH.out.alloc (.cells #[.string s1, .int .i64 0] 75));go_wp2_with fail;refine(iM w0 _ R _ HH.out).mono ?_;rintro e w3 ⟨rfl,hh,hk⟩;have HH:=V hh;have HX:=V (HX.out.keeps hk (by omega));have HY:=V (HY.out.keeps hk (by omega));have HK:=V (HK.out.trans hk (fun _ h=> .inl h));clear hh hk;go_wp2_with fail;refine(jI w0 w3 R _ HH.out).mono ?_;rintro e w4 ⟨rfl,hh,hk⟩;have HH:=V hh;have HX:=V (HX.out.keeps hk (by omega));have HY:=V (HY.out.keeps hk (by omega));have HK:=V (HK.out.trans hk (fun _ h=> .inl h));clear hh hk;have hn:=lz (et eV (et jm st));obtain⟨n,en⟩:∃n,jj (et eV (et jm st))=n:=⟨_,rfl⟩;rw [en]at hn⊢;have EN:=V en;clear en;obtain⟨y0,y1,v0,v1⟩:=HY.out.two;obtain⟨x0,x1,z0,z1⟩:=HX.out.two;go_wp2_with fail;have Ns:=ei w4 w2.heap.size 1 (.int .i64 n);have hx:=(HX.out.keeps Ns (by omega)).mL (.string s1) (.int .i64 n);have Lx:=fp (w4.setCell ⟨w2.heap.size,1,none⟩ (.int .i64 n)) w.heap.size (.string s1) (.int .i64 n);refine aF (ej rfl _ _ rfl hx.IL) rfl ?_;refine⟨⟨s1,n⟩,rfl,⟨HT1.out,A1 n hn⟩,?_,?_,(HK.out.iJ Ns (by omega)).iJ Lx (ag _)⟩
 ·rw [yc]
  refine fo (f:=fun x:ByteArray × UInt8 × Int=>iU.mk x.1 x.2.2) (x:=(s1,_,(n:Int))) (ib ?_ (ib (ml _) ?_))
  ·rw [<- ES1.out];exact r9 st
  ·rw [qC, <- EN.out]
   exact fo (f:=fun n:Nat=>(n:Int)) (mF _)
 ·rw [yc,fh,gI,gI,qC,fh]
  exact(HH.out.keeps Ns (by omega) (fun i hi=>by omega)).keeps Lx (by omega) (fun i hi=>by omega)
theorem BA (w0 w:World) (R:Nat) (st:gA) (h:fG w0 w R st):Calls prog 212 (#[.pointer (some ⟨R,0,none⟩)]++#[]) w (JH (fun x:jz=> .agg #[.bool x.isVar, .int .i64 x.init.kind, .int .i64 x.init.n]) w0 R oT (fun x=>x.init.ok) st w):=by
 have Oc:=h.lt;have Po:=h.old.2;have HH:=V (h.alloc (.cells #[.bool false, .int .i64 0, .int .i64 0] 73));have HX:=V (eD.new w #[.bool false, .int .i64 0, .int .i64 0] 73);have HK:=V ((dU.refl (fun k=>k=R) w).alloc (.cells #[.bool false, .int .i64 0, .int .i64 0] 73));clear h;go_enter func212,ntmps212;go_wp2_with fail;refine(tS w0 _ R st HH.out).mono ?_;rintro e w1 ⟨rfl,hh,hk⟩;have HH:=V hh;have HX:=V (HX.out.keeps hk (by omega));have HK:=V (HK.out.trans hk (fun _ h=> .inl h));clear hh hk;go_wp2_with fail;refine(iM w0 w1 R _ HH.out).mono ?_;rintro e w2 ⟨rfl,hh,hk⟩;have HH:=V hh;have HX:=V (HX.out.keeps hk (by omega));have HK:=V (HK.out.trans hk (fun _ h=> .inl h));clear hh hk;obtain⟨c,ec⟩:∃c,mv (et gz st)=c:=⟨_,rfl⟩;rw [ec];have EC:=V ec;clear ec;go_wp2_with fail;refine(wq w0 w2 R _ HH.out).mono ?_;rintro e w3 ⟨v,rfl,LF,hw,hh,hk⟩;have Mv:=V LF;have HW:=V hw;clear LF hw;have HH:=V hh;have HX:=V (HX.out.keeps hk (by omega));have HK:=V (HK.out.trans hk (fun _ h=> .inl h));clear hh hk;obtain⟨x0,x1,x2,z0,z1,z2⟩:=HX.out.Hd;obtain⟨b,eb⟩:∃b,((c.toNat:Int) !=0)=b:=⟨_,rfl⟩;rw [eb];have EB:Hid ((c !=0)=b):=V (by
  rw [<- eb,dv];simp only [bne_iff_ne,ne_eq];refine not_congr ⟨fun h=>by rw [h];rfl,fun h=>du.1 (by show c.toNat=0;omega)⟩)
 clear eb;go_wp2_with fail;have hx:=HX.out.vr (.bool b) (.int .i64 v.kind) (.int .i64 v.n);have Lx:=kp w3 w.heap.size (.bool b) (.int .i64 v.kind) (.int .i64 v.n);refine aF (ej rfl _ _ rfl hx.Ga) rfl ?_;refine⟨⟨b,v⟩,rfl,Mv.out,?_,?_,HK.out.iJ Lx (ag _)⟩
 ·rw [tJ, <- EB.out, <- EC.out]
  exact fo (f:=fun x:Int × UInt8 × eX=>jz.mk (x.2.1 !=0) x.2.2) (ib (xi st) (ib (ml _) HW.out))
 ·rw [tJ,fh,gI,gI]
  exact HH.out.keeps Lx (by omega) (fun i hi=>by omega)
theorem GF {x:hI} (hm:x.may) (ho:∀y∈x.body,y.ok):(jV x).length <=160000:=by
 have h1:=ud hm.2.1.1;have h2:=rP hm.2.2.2 ho;have h3:530*x.body.length <=530*300:=dF _ hm.2.2.1;have h4:=(eL (oD x).length).2;simp only [jV,oD,qa,ah,aB]at*;omega
theorem pF (x:fN):(oneOf x).length <=1:=by
 unfold oneOf;split <;>simp
structure eu.Fits (m:eu):Prop where
 v1:(ia lE m.types).length <=2000
 v2:(ia ow m.imports).length <=2000
 v3:(ia sR m.funcs).length <=2000
 v4:(ia jy (oneOf m.table)).length <=2000
 v5:(ia gM (oneOf m.mem)).length <=2000
 v6:(ia kQ m.globals).length <=2000
 v7:(ia oM m.dY).length <=2000
 v9:(ia lP m.elems).length <=10000
 v10:(ia jV m.eh).length <=3000000
 v11:(ia oB m.eA).length <=20000
 s1:(ij (b8 1) lE m.types).length <=2100
 s2:(ij (b8 2) ow m.imports).length <=2100
 s3:(ij (b8 3) sR m.funcs).length <=2100
 s4:(ij (b8 4) jy (oneOf m.table)).length <=2100
 s5:(ij (b8 5) gM (oneOf m.mem)).length <=2100
 s6:(ij (b8 6) kQ m.globals).length <=2100
 s7:(ij (b8 7) oM m.dY).length <=2100
 s9:(ij (b8 9) lP m.elems).length <=11000
 Hb:(ij (b8 10) jV m.eh).length <=3010000
 Hc:(ij (b8 11) oB m.eA).length <=21000
theorem eu.vD.fits {m:eu} (h:m.vD) (hg:∀x∈m.globals,x.init.ok) (ho:∀x∈m.eh,∀y∈x.body,y.ok):m.Fits:=by
 obtain⟨⟨_,n10,h10⟩,⟨⟨⟨n1,h1⟩,⟨n2,h2⟩,n3,h3⟩,⟨n6,h6⟩,⟨n7,h7⟩,⟨n9,h9⟩,n11,h11⟩,h4,h5⟩:=h;have n3:m.funcs.length <=16:=by omega
 have t1:=fun x hx=>GV (h1 x hx);have t2:=fun x hx=>I4 (h2 x hx);have t6:=fun x hx=>F8 (hg x hx);have t7:=fun x hx=>Hp (h7 x hx);have t9:=fun x hx=>Gm (h9 x hx);have t10:=fun x hx=>GF (h10 x hx) (ho x hx);have t11:=fun x hx=>Hu (h11 x hx);have a1:=ji lE 100 16 m.types t1 n1;have a2:=ji ow 100 16 m.imports t2 n2;have a3:=ji sR 10 16 m.funcs (fun x _=>rK x) n3;have a4:=ji jy 31 1 (oneOf m.table) (fun x _=>xu x) (pF _);have a5:=ji gM 30 1 (oneOf m.mem) (fun x _=>qx x) (pF _);have a6:=ji kQ 14 16 m.globals t6 n6;have a7:=ji oM 100 16 m.dY t7 n7;have a9:=ji lP 600 16 m.elems t9 n9;have a10:=ji jV 160000 16 m.eh t10 n10;have a11:=ji oB 1100 16 m.eA t11 n11;have b1:=ng (b8 1) lE 100 16 m.types t1 n1;have b2:=ng (b8 2) ow 100 16 m.imports t2 n2;have b3:=ng (b8 3) sR 10 16 m.funcs (fun x _=>rK x) n3;have b4:=ng (b8 4) jy 31 1 (oneOf m.table) (fun x _=>xu x) (pF _);have b5:=ng (b8 5) gM 30 1 (oneOf m.mem) (fun x _=>qx x) (pF _);have b6:=ng (b8 6) kQ 14 16 m.globals t6 n6;have b7:=ng (b8 7) oM 100 16 m.dY t7 n7;have b9:=ng (b8 9) lP 600 16 m.elems t9 n9;have b10:=ng (b8 10) jV 160000 16 m.eh t10 n10;have b11:=ng (b8 11) oB 1100 16 m.eA t11 n11
 constructor <;>omega
theorem Bg (m:eu):fA m=((((((((((fw++ij (b8 1) lE m.types)++ij (b8 2) ow m.imports)++ij (b8 3) sR m.funcs)++ij (b8 4) jy (oneOf m.table))++ij (b8 5) gM (oneOf m.mem))++ij (b8 6) kQ m.globals)++ij (b8 7) oM m.dY)++ij (b8 9) lP m.elems)++ij (b8 10) jV m.eh)++ij (b8 11) oB m.eA):=by
 have e1:b8 1=1:=rfl;have e2:b8 2=2:=rfl;have e3:b8 3=3:=rfl;have e4:b8 4=4:=rfl;have e5:b8 5=5:=rfl;have e6:b8 6=6:=rfl;have e7:b8 7=7:=rfl;have e9:b8 9=9:=rfl;have e10:b8 10=10:=rfl;have e11:b8 11=11:=rfl;rw [e1,e2,e3,e4,e5,e6,e7,e9,e10,e11];simp only [fA,pX,aK]
theorem nq (l:List UInt8) (w:World):(Builtin.firstCells 1 l.length (.string (bs l))).run prog w= .ok (l.map bv).toArray w:=by
 have h:((bs l).extract 0 l.length).data.map (fun b:UInt8=>Value.int IntKind.u8 (b.toNat:Int))=(l.map bv).toArray:=by
  have e:(bs l).extract 0 l.length=bs l:=by
   apply ByteArray.ext;simp [bs]
  rw [e];simp [bs]
 simp only [Builtin.firstCells,bX,h]
theorem Ap (w:World) (B:Nat) (ty:TypeId) (v:Value) (l m:List UInt8) (Lu:ed w B v l) (OU:l.length+m.length <=140737488355327) (LW:B <=w.heap.size):
  ∃v' w',(Builtin.append_ #[104,9] ty #[v, .string (bs m)]).run prog w= .ok v' w'/\ed w' B v' (l++m)/\dU (ez v) w w'/\eB w v v':=by
 obtain⟨i0,hi,NM,ME,Nd⟩:=bV nV;have ht:prog.underlying 104=some (.slice 5):=by kernel_rfl
 have hu:prog.underlying 9=some .string:=by kernel_rfl
 have hs:(bs m).size=m.length:=Cp m;have grown:∀(old:Nat),old < l.length+m.length ->
   ed (w.drew.alloc (.cells ((l.map bv).toArray++(m.map bv).toArray++Builtin.zeroCells #[.int .u8 0] (grownCap w (l.length+m.length) old 5 - (l.length+m.length))) 5)) B
    (.slice (some ⟨w.heap.size,0,none⟩) (l.length+m.length) (grownCap w (l.length+m.length) old 5)) (l++m)/\
   dU (ez v) w (w.drew.alloc (.cells ((l.map bv).toArray++(m.map bv).toArray++Builtin.zeroCells #[.int .u8 0] (grownCap w (l.length+m.length) old 5 - (l.length+m.length))) 5))/\
   eB w v (.slice (some ⟨w.heap.size,0,none⟩) (l.length+m.length) (grownCap w (l.length+m.length) old 5)):=by
  intro old ho;have hge:=grownCap_ge w (l.length+m.length) old 5;have Nc:grownCap w (l.length+m.length) old 5 <=maxLen:=dJ w (l.length+m.length) old 5 (by simp only [maxLen];omega);refine⟨⟨by simp, .inr ⟨w.heap.size,_,_,?_,LW,dn w.drew _,?_,Nc,?_,?_⟩⟩,(dU.refl _ _).drew.alloc _,fun k hk=> .inr ?_⟩
  ·rw [ah]
  ·rw [ah];exact hge
  ·simp [size_zeroCells]
   omega
  ·simp only [Array.toList_append,aK]
   rw [<- aK,cn,aY,show(l++m).length=(l.map bv++m.map bv).length from by simp];exact cJ
  ·simp [ez,Value.ownBlock]at hk
   omega
 rcases Lu.2 with⟨rfl,h0⟩ | ⟨g,cap,cur,rfl,hbg,hg,hnc,Nc,hcs,Ri⟩
 ·obtain rfl:l=[]:=aH h0
  by_cases hm:m.length=0
  ·obtain rfl:m=[]:=aH hm
   refine⟨.slice none 0 0,w,?_,ed.nil _ _,dU.refl _ _,eB.refl _ _⟩;have hf:=nq [] w;simp only [aL]at hf;simp [Builtin.append_,bj ht,bj hu,sizeOf,typeInfo,hi,ME,Builtin.lenOf,hs,hf]
  ·have hr:=run_append_nil_string (P:=prog) w 104 9 ty 5 i0 (.int .u8 0) ht hu hi NM (bs m) (by omega) (by omega) (by rw [Nd];omega)
   have PB:=grown 0 (by simp;omega);have e1:(bs m).data.map (fun b:UInt8=>Value.int IntKind.u8 (b.toNat:Int))=(m.map bv).toArray:=by simp [bs]
   rw [hs,e1]at hr;simp only [aL,bR,cT,cg,Array.empty_append]at PB;exact⟨_,_,hr,PB.1,PB.2.1,PB.2.2⟩
 ·simp only [aY]at hcs Ri
  by_cases O0:l.length+m.length <=cap
  ·have hf:=nq m w
   have LS:=run_storeCells_at prog g l.length 5 (m.map bv) 0 cur w hg (by simp;omega) (Ce m);simp only [aI]at LS;refine⟨.slice (some ⟨g,0,none⟩) (l.length+m.length) cap,w.setRow g (cur.toList.take l.length++m.map bv++cur.toList.drop (l.length+(m.map bv).length)).toArray,?_,⟨by simp, .inr ⟨g,cap,_,by rw [ah],hbg,setRow_heap w g cur _ _ _ hg,by rw [ah];exact O0,Nc,?_,?_⟩⟩,⟨rfl,rfl,rfl,by simp,fun k _ hk=>setRow_other w g k _ (fun e=>hk (by simp [ez,Value.ownBlock,e]))⟩,fun k hk=> .inl hk⟩
   ·simp [Builtin.append_,bj ht,bj hu,sizeOf,typeInfo,hi,ME,Builtin.lenOf,hs,O0,hf,Addr.add_lit,LS]
   ·simp only [dx,ah,aP,bg,Array.length_toList,bD]
    omega
   ·rw [Ri,cn,aY,show(l++m).length=(l.map bv++m.map bv).length from by simp]
    exact cJ
  ·have holds:∀j u,(l.map bv)[j]?=some u ->w.cell? ((⟨g,0,none⟩:Addr).add j)=some u:=Lu.cells (g:=g) rfl
   have hn:¬ (l.length+m.length <=cap):=O0;have h63':¬ (9223372036854775807 < ((l.length:Int)+(m.length:Int))):=by omega
   have h48':¬ (281474976710656 < Builtin.nextslicecap (l.length+m.length) cap*i0.bytes):=by
    have:=growslice_fits (need:=l.length+m.length) (old:=cap) (bytes:=1) (by omega) (by omega);rw [Nd];omega
   have hf:=nq m w.drew;have hfo:=run_firstCells_some (P:=prog) w.drew 1 l.length ⟨g,0,none⟩ l.length cap (l.map bv) (by simp) (by simpa using holds);have PB:=grown cap (by omega);refine⟨_,_,?_,PB.1,PB.2.1,PB.2.2⟩;rw [Nd,aY]at h48';simp [Builtin.append_,bj ht,bj hu,sizeOf,typeInfo,zeroValue,hi,NM,ME,Nd,Builtin.lenOf,hs,hn,h63',h48',Question.forced,hf,hfo,newRow,grownCap]
   congr 2
   apply Array.ext';simp [aK];rfl
theorem AV {P:Program} (w:World) {ops:Array Oper} {rest:List Oper} {o:Oper} {a:Act} {Q:Exit ->Act ->World ->Prop} (OP:o.guard=none) (s x:Operand)
  (hP:P=prog) (ho:o.op= .call {callee:= .builtin .append,args:=#[s,x],argTypes:=#[104,9]})
  (B:Nat) (v:Value) (l m:List UInt8) (hs:a.eval s=v) (Lu:ed w B v l) (hx:a.eval x= .string (bs m))
  (OU:l.length+m.length <=140737488355327) (LW:B <=w.heap.size)
  (h:∀v' w',ed w' B v' (l++m) ->dU (ez v) w w' ->eB w v v' ->wpList P ops Q rest (a.put o.dst v') w'):wpList P ops Q (o::rest) a w:=by
 subst hP;refine dK OP fun _ hK=>?_;obtain⟨v',w',hr,h2,h3,h4⟩:=Ap w B o.type v l m Lu OU LW;unfold Oper.wp execOp;simp only [ho,resolve,invoke,builtin,cG,bX,cz,dr,bF,cT,hs,hx,hr];exact hK _ _ (h v' w' h2 h3 h4)
theorem mY (b:Value) (xs:List UInt8) (k:Int) (B:Nat) (w:World) (Lu:ed w B b xs) (hn:xs.length <=900000000) (hB:B <=w.heap.size):
  Calls prog 168 #[b, .int .i64 k] w (gU xs (iS k) B b w):=by
 have HW:=V (Wr.refl Lu);by_cases q:k=1
 ·have f1:=eI q
  have HB:Hid (iS k=[127]):=V (by simp [iS,q]);clear q Lu;go_enter func168,ntmps168;go_wp2_with (first | (at_builtin;refine eT w rfl _ _ rfl rfl B b _ rfl HW.out.1 (127:UInt8) _ rfl rfl (by first | omega | (simp only [ah];omega) | (simp only [ah,aB];omega) | (simp only [ah,aE,aL];omega)) (HW.out.base hB) ?_));intro v2 w2 ho hk hs;have MD:=V (HW.out.step ⟨ho,hk,hs⟩);clear ho hk hs;go_wp2;go_ret;exact⟨_,rfl,by rw [HB.out];exact MD.out⟩
 ·have f1:=dR q
  have HB:Hid (iS k=[126]):=V (by simp [iS,q]);clear q Lu;go_enter func168,ntmps168;go_wp2_with (first | (at_builtin;refine eT w rfl _ _ rfl rfl B b _ rfl HW.out.1 (126:UInt8) _ rfl rfl (by first | omega | (simp only [ah];omega) | (simp only [ah,aB];omega) | (simp only [ah,aE,aL];omega)) (HW.out.base hB) ?_));intro v2 w2 ho hk hs;have MD:=V (HW.out.step ⟨ho,hk,hs⟩);clear ho hk hs;go_wp2;go_ret;exact⟨_,rfl,by rw [HB.out];exact MD.out⟩
theorem mM (b:Value) (xs:List UInt8) (s:ByteArray) (B:Nat) (w:World) (Lu:ed w B b xs) (hn:xs.length <=900000000) (hs:s.data.toList.length <=1000000) (hB:B <=w.heap.size):
  Calls prog 172 #[b, .string s] w (gU xs (oK s) B b w):=by
 have HW:=V (Wr.refl Lu);obtain⟨n,hn2⟩:∃n,s.data.toList.length=n:=⟨_,rfl⟩;have HN:=V hn2;have hp:=(eL n).2;rw [hn2]at hs;have Mq:s.size=n:=hn2;have HB:Hid (oK s=eO n++s.data.toList):=V (by rw [oK,hn2]);clear Lu hn2;go_enter func172,ntmps172;go_wp2_with fail;refine(iZ b _ n (by omega) B _ HW.out.1 (by first | omega | (simp only [ah];omega) | (simp only [ah,aB];omega) | (simp only [ah,aE,aL];omega)) (HW.out.base hB)).mono ?_;rintro e w2 ⟨v2,rfl,ho,hk,hs⟩;have MD:=V (HW.out.step ⟨ho,hk,hs⟩);clear ho hk hs;go_wp2_with (first | (at_builtin;refine AV w2 rfl _ _ rfl rfl B v2 _ s.data.toList rfl MD.out.1 rfl (by rw [HN.out];simp only [ah];omega) (MD.out.base hB) ?_));intro v3 w3 ho hk hs;have PZ:=V (MD.out.step ⟨ho,hk,hs⟩);clear ho hk hs;go_wp2;go_ret;exact⟨_,rfl,by rw [HB.out];exact PZ.out⟩
theorem Fk (w:World) (op n:Int) (h1:iR op) (h2:iR n):gD w ⟨op,n,0,[]⟩ (.slice none 0 0):=⟨ee.nil w,h1,h2,yq,by simp⟩
theorem K6:iR 65:=⟨by decide,by decide⟩
theorem Lj:iR 66:=⟨by decide,by decide⟩
def sn (w:World):World:={w with heap:=#[]}
theorem tV (w:World) (B:Nat):Src (sn w) w B:=⟨⟨rfl,rfl,rfl,by simp [sn],fun k hk=>by simp [sn]at hk⟩,by simp [sn]⟩
theorem nN (b:Value) (xs:List UInt8) (v:eX) (B:Nat) (w:World) (Lu:ed w B b xs) (hn:xs.length <=800000000) (hB:B <=w.heap.size) (hm:v.may) (ho:v.ok):
  Calls prog 180 #[b, .agg #[.int .i64 v.kind, .int .i64 v.n]] w (gU xs (lR v) B b w):=by
 obtain⟨k,n⟩:=v;have hl:=sd ho;have HW:=V ((Wr.refl Lu).alloc (.cells #[.int .i64 k, .int .i64 n] 52));have c0:(w.alloc (.cells #[.int .i64 k, .int .i64 n] 52)).cell? ⟨w.heap.size,0,none⟩=some (.int .i64 k):=(eD.new w _ _).cell 0;have c1:(w.alloc (.cells #[.int .i64 k, .int .i64 n] 52)).cell? ⟨w.heap.size,1,none⟩=some (.int .i64 n):=(eD.new w _ _).cell 1;have HO:=V ho;have HM:=V hm;clear Lu ho hm;by_cases q:k=2
 ·skip
  have f1:=eI q;have HB:Hid (lR ⟨k,n⟩=ix ⟨66,n,0,[]⟩++[11]):=V (by simp [lR,q]);rw [HB.out]at hl;simp only [ah,aB]at hl;clear q;go_enter func180,ntmps180;go_wp2_with fail;refine(oc (sn w) b xs ⟨66,n,0,[]⟩ (.slice none 0 0) B _ HW.out.1 (by omega) (HW.out.base hB) (Fk _ _ _ Lj HO.out.2) ((tV w B).alloc _) (Jg n)).mono ?_;rintro e w2 ⟨v2,rfl,ho,hk,hs⟩;have MD:=V (HW.out.step ⟨ho,hk,hs⟩);clear ho hk hs;go_wp2_with (first | (at_builtin;refine eT w2 rfl _ _ rfl rfl B v2 _ rfl MD.out.1 (11:UInt8) _ rfl rfl (by first | omega | (simp only [ah];omega) | (simp only [ah,aB];omega) | (simp only [ah,aE,aL];omega)) (MD.out.base hB) ?_));intro v3 w3 ho hk hs;have PZ:=V (MD.out.step ⟨ho,hk,hs⟩);clear ho hk hs;go_wp2;go_ret;exact⟨_,rfl,by rw [HB.out];exact PZ.out⟩
 ·have hM:eP.may ⟨65,n,0,[]⟩:=by
   rcases HM.out with h | ⟨_,h1,h2⟩
   ·exact absurd h q
   ·exact Jj h1 h2
  have Ma:=V hM;clear hM;have f1:=dR q;have HB:Hid (lR ⟨k,n⟩=ix ⟨65,n,0,[]⟩++[11]):=V (by simp [lR,q]);rw [HB.out]at hl;simp only [ah,aB]at hl;clear q;go_enter func180,ntmps180;go_wp2_with fail;refine(oc (sn w) b xs ⟨65,n,0,[]⟩ (.slice none 0 0) B _ HW.out.1 (by omega) (HW.out.base hB) (Fk _ _ _ K6 HO.out.2) ((tV w B).alloc _) Ma.out).mono ?_;rintro e w2 ⟨v2,rfl,ho,hk,hs⟩;have MD:=V (HW.out.step ⟨ho,hk,hs⟩);clear ho hk hs;go_wp2_with (first | (at_builtin;refine eT w2 rfl _ _ rfl rfl B v2 _ rfl MD.out.1 (11:UInt8) _ rfl rfl (by first | omega | (simp only [ah];omega) | (simp only [ah,aB];omega) | (simp only [ah,aE,aL];omega)) (MD.out.base hB) ?_));intro v3 w3 ho hk hs;have PZ:=V (MD.out.step ⟨ho,hk,hs⟩);clear ho hk hs;go_wp2;go_ret;exact⟨_,rfl,by rw [HB.out];exact PZ.out⟩
theorem wX (b:Value) (xs:List UInt8) (n:Int) (B:Nat) (w:World) (Lu:ed w B b xs) (hn:xs.length <=700000000) (hB:B <=w.heap.size) (hm:lV n):
  Calls prog 185 #[b, .int .i64 n] w (gU xs (ns n) B b w):=by
 have HW:=V (Wr.refl Lu);have HM:=V hm;obtain⟨m1,m2⟩:=id hm;clear Lu hm;go_enter func185,ntmps185;go_wp2_with (first | (at_builtin;refine eT w rfl _ _ rfl rfl B b _ rfl HW.out.1 (0:UInt8) _ rfl rfl (by first | omega | (simp only [ah];omega) | (simp only [ah,aB];omega) | (simp only [ah,aE,aL];omega)) (HW.out.base hB) ?_));intro v2 w2 ho hk hs;have MD:=V (HW.out.step ⟨ho,hk,hs⟩);clear ho hk hs;go_wp2_with fail;refine(nN v2 _ ⟨1,n⟩ B w2 MD.out.1 (by simp only [ah,aB];omega) (MD.out.base hB) (.inr ⟨rfl,m1,m2⟩) ⟨⟨by show(-9223372036854775808:Int) <=1;decide,by show(1:Int) <=9223372036854775807;decide⟩,by show(-9223372036854775808:Int) <=n;omega,by show n <=(9223372036854775807:Int);omega⟩).mono ?_;rintro e w3 ⟨v3,rfl,ho,hk,hs⟩;have PZ:=V (MD.out.step ⟨ho,hk,hs⟩);clear ho hk hs;go_wp2;go_ret;exact⟨_,rfl,by rw [ns,List.append_cons];exact PZ.out⟩
theorem pU (b:Value) (xs:List UInt8) (x:fN) (B:Nat) (w:World) (Lu:ed w B b xs) (hn:xs.length <=700000000) (hB:B <=w.heap.size) (h0:0 <=x.min) (hm: -1 <=x.max) (ho:x.ok):
  Calls prog 177 #[b, .agg #[.bool x.has, .int .i64 x.min, .int .i64 x.max]] w (gU xs (gM x) B b w):=by
 obtain⟨o1,o2⟩:=ho;obtain⟨has,mn,mx⟩:=x;simp only at h0 hm o1 o2;unfold iR at o1 o2;obtain⟨n,rfl⟩:∃n:Nat,mn=n:=⟨mn.toNat,by omega⟩;have hp:=(eL n).2;by_cases q:mx < 0
 ·have f1:decide (mx < 0)=true:=ay q
  have HB:Hid (gM ⟨has,n,mx⟩=0::eO n):=V (by simp only [gM];rw [aD q];rfl);clear q;have HW:=V ((Wr.refl Lu).alloc (.cells #[.bool has, .int .i64 n, .int .i64 mx] 28));have HA:=V (Aside.new Lu #[.bool has, .int .i64 n, .int .i64 mx] 28);clear Lu;have c2:(w.alloc (.cells #[.bool has, .int .i64 n, .int .i64 mx] 28)).cell? ⟨w.heap.size,2,none⟩=some (.int .i64 mx):=HA.out.cell 2;go_enter func177,ntmps177;go_wp2_with fail;refine ea (fun w'=>w'.cell? ⟨w.heap.size,1,none⟩=some (.int .i64 n)) [(0,true),(3,true),(4,true),(1,false),(2,false),(5,false),(6,true)] (by kernel_rfl) (by kernel_rfl) (HA.out.cell 1) ?_;clear c2;have HW:=V HW.out.drew;have HA:=V HA.out.drew;obtain⟨X,hX⟩:∃X,X=w.heap.size:=⟨_,rfl⟩;rw [<- hX]at HA⊢;clear hX;generalize(w.alloc (.cells #[.bool has, .int .i64 n, .int .i64 mx] 28)).drew=wa at HW HA⊢;iterate 3 (first | (apply sk rfl rfl;simp only [pt]) | (apply dV rfl rfl rfl;·(rintro w' t1;go_wp2;exact⟨rfl,rfl,rfl⟩)))
  refine dZ rfl rfl ?_;go_wp2_with fail;refine⟨(HA.out.alloc _).cell 1,?_⟩;refine dZ rfl rfl ?_;go_wp2_with (first | (at_builtin;refine eT wa rfl _ _ rfl rfl B b _ rfl HW.out.1 (0:UInt8) _ rfl rfl (by first | omega | (simp only [ah];omega) | (simp only [ah,aB];omega) | (simp only [ah,aE,aL];omega)) (HW.out.base hB) ?_));intro v1 w1 ho hk hs;have HA:=V (HA.out.next ⟨ho,hk,hs⟩);have HW:=V (HW.out.step ⟨ho,hk,hs⟩);clear ho hk hs;go_wp2_with fail;refine⟨HA.out.cell 1,?_⟩;refine dZ rfl rfl ?_;go_wp2_with fail;refine(iZ v1 _ n (by omega) B w1 HW.out.1 (by simp only [ah,aE,aL];omega) (HW.out.base hB)).mono ?_;rintro e w2 ⟨v2,rfl,ho,hk,hs⟩;have HA:=V (HA.out.next ⟨ho,hk,hs⟩);have HW:=V (HW.out.step ⟨ho,hk,hs⟩);clear ho hk hs;go_wp2_with fail;refine⟨HA.out.cell 1,?_⟩;iterate 1 (first | (apply sk rfl rfl;simp only [pt]) | (apply dV rfl rfl rfl;·(rintro w' t1;go_wp2;exact⟨rfl,rfl,rfl⟩)))
  refine eF ?_;refine aA ?_;go_wp2;go_ret;exact⟨_,rfl,by rw [HB.out];have h:=HW.out;simp only [aK,bI,cg]at h;exact h⟩
 ·have f1:decide (mx < 0)=false:=aw q
  obtain⟨m,rfl⟩:∃m:Nat,mx=m:=⟨mx.toNat,by omega⟩;have Qb:=(eL m).2;have HB:Hid (gM ⟨has,n,m⟩=1::(eO n++eO m)):=V (by simp only [gM];rw [az q];rfl);clear q;have HW:=V ((Wr.refl Lu).alloc (.cells #[.bool has, .int .i64 n, .int .i64 m] 28));have HA:=V (Aside.new Lu #[.bool has, .int .i64 n, .int .i64 m] 28);clear Lu;have c2:(w.alloc (.cells #[.bool has, .int .i64 n, .int .i64 m] 28)).cell? ⟨w.heap.size,2,none⟩=some (.int .i64 m):=HA.out.cell 2;go_enter func177,ntmps177;go_wp2_with fail;refine ea (fun w'=>w'.cell? ⟨w.heap.size,1,none⟩=some (.int .i64 n)/\w'.cell? ⟨w.heap.size,2,none⟩=some (.int .i64 m)) [(0,true),(3,true),(4,true),(6,true),(7,true),(1,false),(2,false),(5,false),(8,false),(9,true)] (by kernel_rfl) (by kernel_rfl) ⟨HA.out.cell 1,HA.out.cell 2⟩ ?_;clear c2;have HW:=V HW.out.drew;have HA:=V HA.out.drew;obtain⟨X,hX⟩:∃X,X=w.heap.size:=⟨_,rfl⟩;rw [<- hX]at HA⊢;clear hX;generalize(w.alloc (.cells #[.bool has, .int .i64 n, .int .i64 m] 28)).drew=wa at HW HA⊢;iterate 5 (first | (apply sk rfl rfl;simp only [pt]) | (apply dV rfl rfl rfl;·(rintro w' ⟨t1,t2⟩;go_wp2;exact⟨rfl,rfl,rfl⟩)))
  refine dZ rfl rfl ?_;go_wp2_with fail;refine⟨⟨(HA.out.alloc _).cell 1,(HA.out.alloc _).cell 2⟩,?_⟩;refine dZ rfl rfl ?_;go_wp2_with (first | (at_builtin;refine eT wa rfl _ _ rfl rfl B b _ rfl HW.out.1 (1:UInt8) _ rfl rfl (by first | omega | (simp only [ah];omega) | (simp only [ah,aB];omega) | (simp only [ah,aE,aL];omega)) (HW.out.base hB) ?_));intro v1 w1 ho hk hs;have HA:=V (HA.out.next ⟨ho,hk,hs⟩);have HW:=V (HW.out.step ⟨ho,hk,hs⟩);clear ho hk hs;go_wp2_with fail;refine⟨⟨HA.out.cell 1,HA.out.cell 2⟩,?_⟩;refine dZ rfl rfl ?_;go_wp2_with fail;refine(iZ v1 _ n (by omega) B w1 HW.out.1 (by simp only [ah,aE,aL];omega) (HW.out.base hB)).mono ?_;rintro e w2 ⟨v2,rfl,ho,hk,hs⟩;have HA:=V (HA.out.next ⟨ho,hk,hs⟩);have HW:=V (HW.out.step ⟨ho,hk,hs⟩);clear ho hk hs;go_wp2_with fail;refine⟨⟨HA.out.cell 1,HA.out.cell 2⟩,?_⟩;refine dZ rfl rfl ?_;go_wp2_with fail;refine(iZ v2 _ m (by omega) B w2 HW.out.1 (by simp only [ah,aE,aL];omega) (HW.out.base hB)).mono ?_;rintro e w3 ⟨v3,rfl,ho,hk,hs⟩;have HA:=V (HA.out.next ⟨ho,hk,hs⟩);have HW:=V (HW.out.step ⟨ho,hk,hs⟩);clear ho hk hs;go_wp2_with fail;refine⟨⟨HA.out.cell 1,HA.out.cell 2⟩,?_⟩;iterate 1 (first | (apply sk rfl rfl;simp only [pt]) | (apply dV rfl rfl rfl;·(rintro w' ⟨t1,t2⟩;go_wp2;exact⟨rfl,rfl,rfl⟩)))
  refine eF ?_;refine aA ?_;go_wp2;go_ret;exact⟨_,rfl,by rw [HB.out];have h:=HW.out;simp only [aK,bI,cg]at h;exact h⟩
theorem Ct (x:fN) (w:World):Calls prog 175 #[.agg #[.bool x.has, .int .i64 x.min, .int .i64 x.max]] w (fun e w'=>∃v,e= .returned v/\ee 3 (fun x:fN=>[.bool x.has, .int .i64 x.min, .int .i64 x.max]) w' v (oneOf x)/\Below w.heap.size w w'):=by
 obtain⟨has,mn,mx⟩:=x;cases has with
 | false=>
  go_enter func175,ntmps175;go_wp2;go_ret;exact⟨_,rfl,ee.nil _,(an _ _).alloc (ag _) _⟩
 | true=>
  go_enter func175,ntmps175;go_wp2;go_ret;have hx:eD (((w.alloc (.cells #[.bool true, .int .i64 mn, .int .i64 mx] 28)).alloc (.cells #[.bool true, .int .i64 mn, .int .i64 mx] 28))) (w.heap.size+1) #[.bool true, .int .i64 mn, .int .i64 mx] 28:=by have:=eD.new (w.alloc (.cells #[.bool true, .int .i64 mn, .int .i64 mx] 28)) #[.bool true, .int .i64 mn, .int .i64 mx] 28;rw [aC]at this;exact this
  refine⟨_,rfl,⟨some ⟨w.heap.size+1,0,none⟩,1,rfl,ag _,by simp [maxLen],fun i x hi=>⟨w.heap.size+1,0,rfl,hx.lt,fun j u hu=>?_⟩⟩,((an _ _).alloc (ag _) _).alloc (by rw [aC];omega) _⟩;obtain rfl:i=0:=by
   have:=(aG.1 hi).1;simp [oneOf]at this;omega
  simp only [oneOf,cO,aJ,aS]at hi;subst hi;rw [dL,bR];have:=hx.cell j;rw [this];simpa using hu
end Go.Proofs.YtjmeglibedbljaaGreatDoor
