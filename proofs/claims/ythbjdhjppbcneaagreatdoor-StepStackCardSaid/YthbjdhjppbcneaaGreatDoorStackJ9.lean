import Derived.Test.YthbjdhjppbcneaaGreatDoorStackJ8
import Derived.Lib.Mul64
import Derived.Laws.Bits64b
import Derived.Laws.CopyOwn
namespace Go.Proofs.YthbjdhjppbcneaaGreatDoor
set_option maxRecDepth 100000
set_option maxHeartbeats 20000000
open Go.RowKit Tryz
open Lib renaming hid->V
set_option linter.all false
theorem vt (a:Option Addr) (len cap k:Nat) (h:k <=cap) (wx:World):
  (Instr.slice 97 (.slice a len cap) none (some (.int .i64 k)) none).run prog wx= .ok (.slice a k cap) wx:=by
 have hu:prog.underlying 97=some (.slice 5):=by kernel_rfl
 obtain⟨i0,hi,MY,LG,Mm⟩:=cd oC;simp [Instr.slice,bo hu,Instr.sliceBounds,Instr.sliceBound,sizeOf,typeInfo,hi,asIntOf,h];cases a <;>simp [Addr.add]
theorem dU.empty (w:World):dU (w.alloc (.cells #[] 5)) w.heap.size (.slice (some ⟨w.heap.size,0,none⟩) 0 0) []:=
 ⟨by simp, .inr ⟨w.heap.size,0,#[],rfl,ag _,dq w _,ag _,by simp [maxLen],by simp,by simp⟩⟩
theorem dU.base {w:World} {B B':Nat} {v:Value} {l:List UInt8} (h:dU w B v l) (hB:B' <=B):dU w B' v l:=mC h (fun _ hk=>aW hB (eo h hk).1)
def Cr (l:List UInt8) (w:World) (e:Ending) (w':World):Prop:=∃v,e= .returned v/\dU w' w.heap.size v l/\Below w.heap.size w w'
theorem AX (v:Value) (l:List UInt8) (w:World) (hl:eI w v l) (N7:l.length <=1000000):Calls prog 278 #[v] w (Cr l w):=by
 obtain⟨a,cap,rfl,h1,h2,h3⟩:=id hl;unfold maxLen at h2;have HI:=V hl;cases a with
 | none=>
  obtain rfl:l=[]:=by
   cases l with
   | nil=>rfl
   | cons x l=>
    obtain⟨_,_,h,_⟩:=h3 0 x rfl;cases h
  clear h3 hl;have e1:=bQ (P:=prog) w 97 5 none 0 cap 0 0 (by kernel_rfl);rw [dg]at e1;go_enter func278,ntmps278;go_wp2_with fail;go_ret;exact⟨_,rfl,dU.nil _ _,an _ _⟩
 | some ad=>
  clear h3 hl;have e1:=bQ (P:=prog) w 97 5 (some ad) l.length cap 0 0 (by kernel_rfl);rw [df]at e1;have K5:=(an w.heap.size w).alloc (ag _) (.cells #[] 5);have HBO:=V K5;go_enter func278,ntmps278;go_wp2_with (first | (at_builtin;refine fK (w.alloc (.cells #[] 5)) rfl _ _ rfl rfl w.heap.size (.slice (some ⟨w.heap.size,0,none⟩) 0 0) [] rfl (dU.empty w) _ _ rfl (HI.out.below HBO.out) (by simp only [aM];omega) HBO.out.size ?_));intro v w' ho hk hs;have HB:=V (show Below w.heap.size w w' from HBO.out.trans (hk.below HBO.out.size (fun i hi=>by simp [ey,Value.ownBlock]at hi;omega)));have HO:=V ho;clear hk hs K5 ho;go_wp2_with fail;go_ret;exact⟨v,rfl,by simpa using HO.out,HB.out⟩
def nO (st:fW):List UInt8:=((st.bind lY).map (·.1)).getD []
theorem zQ (st:fW):gU lY st (nO st):=fun y hy=>by rw [nO,hy];rfl
theorem yU (st:fW):eg lY st=ir (iC st) true (eg fQ st):=by
 cases st with
 | none=>rfl
 | some l=>
  simp only [eg,lY,iC,ir,aw];cases h:fQ l with
  | none=>rfl
  | some y=>
   simp only [aw,bF,dD,true_and];by_cases q:y.1 <=y.2.length
   ·rw [aC (by omega),aJ q];rfl
   ·rw [aJ (by omega),aC q];rfl
theorem yC {st:fW} (h:eg lY st=none):nO st=[]:=by
 unfold eg at h;unfold nO;cases hb:st.bind lY with
 | none=>rfl
 | some y=>rw [hb]at h;cases h
theorem xU {st:fW} {l r:List UInt8} (h1:eg fQ st=some l) (h:eg lY st=some r):nO st=l.take (iC st)/\iC st <=l.length:=by
 cases st with
 | none=>cases h1
 | some q=>
  simp only [eg,lY,iC,nO,aw]at*;cases hb:fQ q with
  | none=>rw [hb]at h1;cases h1
  | some y=>
   rw [hb]at h1 h;simp only [aw,bF,aX]at h1 h;subst h1;by_cases q:y.2.length < y.1
   ·rw [aJ q]at h;cases h
   ·simp only [aw,bF,dD]
    rw [aC q];exact⟨rfl,by omega⟩
def ID (w0 w:World) (R:Nat) (st:fW) (e:Ending) (w':World):Prop:=
 ∃v,e= .returned v/\dU w' w.heap.size v (nO st)/\fi w0 w' R (eg lY st)/\dS (fun k=>k=R) w w'
theorem ym {w0 w:World} {R:Nat} {st:fW} (h:fi w0 w R st):(nO st).length <=8000:=by
 have hl:=h.len;cases hn:eg lY st with
 | none=>rw [yC hn];simp
 | some r=>
  cases h1:eg fQ st with
  | none=>rw [yU,h1]at hn;cases hn
  | some l=>
   obtain⟨h2,h3⟩:=xU h1 hn;have h4:=(iD.lL kR).len st;rw [h1]at h4;simp only [fW.len]at h4 hl;rw [h2,aR];omega
theorem BU (w0 w:World) (R:Nat) (st:fW) (h:fi w0 w R st):Calls prog 226 #[.pointer (some ⟨R,0,none⟩)] w (ID w0 w R st):=by
 have HH:=V h;have L9:=V (ym h);have hn:=iI st;have HNX:=V (yU st);have HNN:=V (@yC st);have HRS:Hid (∀l r:List UInt8,eg fQ st=some l ->eg lY st=some r ->nO st=l.take (iC st)/\iC st <=l.length):=V (fun l r h1 h2=>xU h1 h2);obtain⟨n,en⟩:∃n,iC st=n:=⟨_,rfl⟩;obtain⟨s1,es⟩:∃s1,eg fQ st=s1:=⟨_,rfl⟩;rw [en]at hn;have EN:=V en;have ES:=V es;clear h en es;go_enter func226,ntmps226;go_wp2_with fail;refine(gZ w0 w R st HH.out).mono ?_;rintro e w1 ⟨rfl,h1,hk⟩;rw [EN.out];rw [ES.out]at h1;have HH1:=V h1;have HK:=V hk;obtain⟨a,l,cap,bad,KD,hl,hlen,KI,KK,Ox⟩:=h1;have c0:w1.cell? ⟨R,0,none⟩=some (.slice a l.length cap):=KD.cell 0;obtain⟨_,_,NO,PM,Mr,-⟩:=id hl;injection NO with e1 e2 e3;subst e1 e3;have HL:=V hl;have Ko:=V KI;clear hk KD hl KK KI Mr e2;go_wp2_with fail;refine(kM w0 w1 R s1 n true (by omega) HH1.out).mono ?_;rintro e w2 ⟨rfl,h2,hk⟩;have LD:eg lY st=ir n true s1:=by rw [HNX.out,EN.out,ES.out]
 rw [<- LD]at h2;have c1:=h2.bad;have HH2:=V h2;have Lx:=V (HK.out.trans hk (fun _ h=> .inl h));clear h2 hk c0 LD;cases hq:eg lY st with
 | none=>
  rw [hq]at c1 HH2;have c1:w2.cell? ⟨R,1,none⟩=some (.bool true):=c1;have HV:=V (HNN.out hq);have HQ:=V hq;clear hq;go_wp2_with fail;go_ret;exact⟨_,rfl,by rw [HV.out];exact dU.nil _ _,by rw [HQ.out];exact HH2.out,Lx.out⟩
 | some r=>
  rw [hq]at c1 HH2;have c1:w2.cell? ⟨R,1,none⟩=some (.bool false):=c1;have LV:s1=some l:=by
   rw [Ko.out];cases bad with
   | false=>rfl
   | true=>
    exfalso;have h3:=HNX.out;rw [ES.out,Ko.out,hq]at h3;cases h3
  obtain⟨hv,hle⟩:=HRS.out _ _ (by rw [ES.out,LV]) hq;rw [EN.out]at hv hle;have HV:=V hv;have HQ:=V hq;have hln:n <=cap:=by omega
  have Kx:=fun wx=>vt a l.length cap n hln wx;have HI:Hid (eI w2 (.slice a (nO st).length cap) (nO st)):=V (by
   have:=(HL.out.below HH2.out.old.1).take n hle;rw [<- hv]at this;have hz:(nO st).length=n:=by rw [hv,aR];omega
   rw [hz];exact this)
  have Qv:(nO st).length=n:=by rw [hv,aR];omega
  have Mg:=V Qv;clear hq hv LV Qv;go_wp2_with fail;refine(AX _ (nO st) w2 (by have:=HI.out;rw [Mg.out]at this;exact this) (aW L9.out (by omega))).mono ?_;rintro e w3 ⟨v,rfl,ho,hb⟩;have HO:=V (dU.base ho Lx.out.size);have HH3:=V (HH2.out.below hb);have OG:=V (Lx.out.trans (dS.dV (S:=fun _=>False) hb) (fun _ h=>h.elim));clear ho hb;go_wp2_with fail;go_ret;exact⟨_,rfl,HO.out,by rw [HQ.out];exact HH3.out,OG.out⟩
def wR (st:fW):ByteArray:=bs (nO st)
theorem rv (st:fW):gU jz st (wR st):=by rw [sS];exact fA (zQ st)
theorem CU (st:fW):eg jz st=eg lY st:=by rw [sS,fo]
theorem uH (w0 w:World) (R:Nat) (st:fW) (h:fi w0 w R st):Calls prog 271 #[.pointer (some ⟨R,0,none⟩)] w (zY w0 w R (.string (wR st)) (eg jz st)):=by
 have HH:=V h;have HN:=V (CU st);clear h;go_enter func271,ntmps271;go_wp2_with fail;refine(BU w0 w R st HH.out).mono ?_;rintro e w1 ⟨v,rfl,ho,h1,hk⟩;have Kx:=pB (dU.fm ho);have HH1:=V h1;have HK:=V hk;clear ho h1 hk;go_wp2_with fail;go_ret;exact⟨rfl,by rw [HN.out];exact HH1.out,HK.out⟩
def Eo (w0 w:World) (R:Nat) (st:fW) (e:Ending) (w':World):Prop:=
 ∃v:fb,e= .returned (.agg #[.int .i64 v.kind, .int .i64 v.n])/\v.ok/\gU gE st v/\fi w0 w' R (eg gE st)/\dS (fun k=>k=R) w w'
theorem pX {l r:List UInt8} {x:eK} (h:gp l=some (x,r)) (ok:Bool) (Kt:ok=(decide (x.op=65) || decide (x.op=66))) (bad:Bool):
  eg gE (if bad=true then none else some l)=eg eX (ir (l.length - r.length) ok (if bad=true then none else some l)):=by
 obtain⟨p,rfl⟩:=oE h;cases bad with
 | true=>rfl
 | false=>
  have hd:(p++r).drop ((p++r).length - r.length)=r:=by
   have:(p++r).length - r.length=p.length:=by rw [ah];omega
   rw [this,da]
  have hs:ir ((p++r).length - r.length) ok (some (p++r))=if x.op=65\/x.op=66 then some r else none:=by
   subst Kt;simp only [ir,aw,hd];by_cases q:x.op=65\/x.op=66
   ·rw [aJ ⟨by rcases q with q | q <;>simp [q],by omega⟩,aJ q]
   ·have q1:¬ x.op=65:=fun g=>q (.inl g)
    have q2:¬ x.op=66:=fun g=>q (.inr g);rw [aC (by simp [q1,q2]),aC q]
  show eg gE (some (p++r))=eg eX (ir ((p++r).length - r.length) ok (some (p++r)));rw [hs];simp only [eg,gE,h,aw];by_cases q:x.op=65\/x.op=66
  ·rw [aJ q,aJ q]
   simp only [aw];cases eX r <;>rfl
  ·rw [aC q,aC q]
   rfl
theorem Cv {l r:List UInt8} {x:eK} (h:gp l=some (x,r)) (bad:Bool):gU gE (if bad=true then none else some l) ⟨if x.op=66 then 2 else 1,x.a⟩:=by
 cases bad with
 | true=>exact mq _ _
 | false=>
  intro y hy;simp only [gE,h,cH,if_false,aw]at hy;split at hy
  ·cases hb:eX r with
   | none=>rw [hb]at hy;cases hy
   | some c=>rw [hb]at hy;injection hy with hy;rw [<- hy]
  ·cases hy
theorem AY {l:List UInt8} (h:gp l=none) (n:Nat) (bad:Bool):eg gE (if bad=true then none else some l)=eg eX (ir n false (if bad=true then none else some l))/\∀v,gU gE (if bad=true then none else some l) v:=by
 cases bad with
 | true=>exact⟨rfl,fun v=>mq _ _⟩
 | false=>
  simp only [eg,gE,ir,h,cH,if_false,aw];refine⟨by simp,fun v y hy=>?_⟩;simp [gE,h]at hy
theorem JD {k n:Int} (hk:k=1\/k=2) (hn:iQ n):fb.ok ⟨k,n⟩:=by
 rcases hk with rfl | rfl
 ·exact⟨⟨by show(-9223372036854775808:Int) <=1;decide,by show(1:Int) <=9223372036854775807;decide⟩,hn⟩
 ·exact⟨⟨by show(-9223372036854775808:Int) <=2;decide,by show(2:Int) <=9223372036854775807;decide⟩,hn⟩
theorem vK (w0 w:World) (R:Nat) (st:fW) (h:fi w0 w R st):Calls prog 275 #[.pointer (some ⟨R,0,none⟩)] w (Eo w0 w R st):=by
 have L6:=h.lt;have Ox:=h.old.2;have HH:=V (h.alloc (.cells #[.int .i64 0, .int .i64 0] 42));have Kv:=V (eE.new w #[.int .i64 0, .int .i64 0] 42);have HK:=V ((dS.refl (fun k=>k=R) w).alloc (.cells #[.int .i64 0, .int .i64 0] 42));obtain⟨a,l,cap,bad,KD,hl,hlen,KI,KK,-⟩:=HH.out;have c0:(w.alloc (.cells #[.int .i64 0, .int .i64 0] 42)).cell? ⟨R,0,none⟩=some (.slice a l.length cap):=KD.cell 0;have HL:=V (hl.below KK);have Ko:=V KI;clear KD hl KK h KI;go_enter func275,ntmps275;go_wp2_with fail;refine(qX _ l _ HL.out (by omega)).mono ?_;rintro e w1 ⟨hb,⟨x,r,u,hx,rfl,K8,-⟩ | ⟨err,hx,he,-,rfl⟩⟩
 ·have HA:=V K8.2.2.1
  have HWS:Hid (gU gE st ⟨if x.op=66 then 2 else 1,x.a⟩):=V (by rw [Ko.out];exact Cv hx bad);obtain⟨⟨au,Kr,rfl,-,-,-⟩,-⟩:=id K8;obtain⟨op,xa,xb,xl⟩:=x;simp only at HA HWS⊢;have K9:=V (eE.new w1 #[.int .i64 op, .int .i64 xa, .int .i64 xb, .slice au xl.length Kr] 27);have Kv:=V ((Kv.out.below hb Kv.out.lt).alloc (.cells #[.int .i64 op, .int .i64 xa, .int .i64 xb, .slice au xl.length Kr] 27));have HK:=V ((HK.out.trans (dS.dV (S:=fun k=>k=R) hb) (fun _ h=> .inl h)).alloc (.cells #[.int .i64 op, .int .i64 xa, .int .i64 xb, .slice au xl.length Kr] 27));have HH:=V ((HH.out.below hb).alloc (.cells #[.int .i64 op, .int .i64 xa, .int .i64 xb, .slice au xl.length Kr] 27));have LV:w.heap.size < w1.heap.size:=by have:=hb.size;rw [aE]at this;omega
  have c3:(w1.alloc (.cells #[.int .i64 op, .int .i64 xa, .int .i64 xb, .slice au xl.length Kr] 27)).cell? ⟨w1.heap.size,0,none⟩=some (.int .i64 op):=K9.out.cell 0;by_cases q1:op=65
  ·have f1:=eF q1
   have f2:(op==66)=false:=dQ (by omega);have HN:=V (show eg gE st=eg eX (ir (l.length - r.length) true st)by rw [Ko.out];exact pX hx true (by simp [q1]) bad);have HW:=V (show gU gE st ⟨1,xa⟩by have:=HWS.out;rwa [aC (show ¬ op=66 by omega)]at this);clear q1 hb K8 hx c0;go_wp2_with fail;refine(kM w0 _ R _ (l.length - r.length) true (by omega) HH.out).mono ?_;rintro e w2 ⟨rfl,hh,hk⟩;have HH:=V hh;have Kv:=V (Kv.out.keeps hk (by omega));have K9:=V (K9.out.keeps hk (by omega));have HK:=V (HK.out.trans hk (fun _ h=> .inl h));clear hh hk;clear c3;go_wp2_with fail;refine(iU w0 w2 R _ HH.out).mono ?_;rintro e w3 ⟨rfl,hh,hk⟩;have HH:=V hh;have Kv:=V (Kv.out.keeps hk (by omega));have K9:=V (K9.out.keeps hk (by omega));have HK:=V (HK.out.trans hk (fun _ h=> .inl h));clear hh hk;obtain⟨x0,x1,z0,z1⟩:=Kv.out.two;have d0:w3.cell? ⟨w1.heap.size,0,none⟩=some (.int .i64 op):=K9.out.cell 0;have d1:w3.cell? ⟨w1.heap.size,1,none⟩=some (.int .i64 xa):=K9.out.cell 1;go_wp2_with fail;have hx:=Kv.out.mX (.int .i64 1) (.int .i64 xa);have Km:=fC w3 w.heap.size (.int .i64 1) (.int .i64 xa);refine aN (eu rfl _ _ rfl hx.ma) rfl ?_;exact⟨⟨1,xa⟩,rfl,JD (.inl rfl) HA.out,HW.out,by rw [HN.out];exact HH.out.keeps Km (by omega) (fun i hi=>by omega),HK.out.iW Km (ag _)⟩
  ·have f1:=dQ q1
   by_cases q2:op=66
   ·have f2:=eF q2
    have HN:=V (show eg gE st=eg eX (ir (l.length - r.length) true st)by rw [Ko.out];exact pX hx true (by simp [q2]) bad);have HW:=V (show gU gE st ⟨2,xa⟩by have:=HWS.out;rwa [aJ q2]at this);clear q1 q2 hb K8 hx c0;go_wp2_with fail;refine(kM w0 _ R _ (l.length - r.length) true (by omega) HH.out).mono ?_;rintro e w2 ⟨rfl,hh,hk⟩;have HH:=V hh;have Kv:=V (Kv.out.keeps hk (by omega));have K9:=V (K9.out.keeps hk (by omega));have HK:=V (HK.out.trans hk (fun _ h=> .inl h));clear hh hk;clear c3;go_wp2_with fail;refine(iU w0 w2 R _ HH.out).mono ?_;rintro e w3 ⟨rfl,hh,hk⟩;have HH:=V hh;have Kv:=V (Kv.out.keeps hk (by omega));have K9:=V (K9.out.keeps hk (by omega));have HK:=V (HK.out.trans hk (fun _ h=> .inl h));clear hh hk;obtain⟨x0,x1,z0,z1⟩:=Kv.out.two;have d0:w3.cell? ⟨w1.heap.size,0,none⟩=some (.int .i64 op):=K9.out.cell 0;have d1:w3.cell? ⟨w1.heap.size,1,none⟩=some (.int .i64 xa):=K9.out.cell 1;go_wp2_with fail;have hx:=Kv.out.mX (.int .i64 2) (.int .i64 xa);have Km:=fC w3 w.heap.size (.int .i64 2) (.int .i64 xa);refine aN (eu rfl _ _ rfl hx.ma) rfl ?_;exact⟨⟨2,xa⟩,rfl,JD (.inr rfl) HA.out,HW.out,by rw [HN.out];exact HH.out.keeps Km (by omega) (fun i hi=>by omega),HK.out.iW Km (ag _)⟩
   ·have f2:=dQ q2
    have HN:=V (show eg gE st=eg eX (ir (l.length - r.length) false st)by rw [Ko.out];exact pX hx false (by simp [q1,q2]) bad);have HW:=V (show gU gE st ⟨1,xa⟩by have:=HWS.out;rwa [aC q2]at this);clear q1 q2 hb K8 hx c0;go_wp2_with fail;refine(kM w0 _ R _ (l.length - r.length) false (by omega) HH.out).mono ?_;rintro e w2 ⟨rfl,hh,hk⟩;have HH:=V hh;have Kv:=V (Kv.out.keeps hk (by omega));have K9:=V (K9.out.keeps hk (by omega));have HK:=V (HK.out.trans hk (fun _ h=> .inl h));clear hh hk;clear c3;go_wp2_with fail;refine(iU w0 w2 R _ HH.out).mono ?_;rintro e w3 ⟨rfl,hh,hk⟩;have HH:=V hh;have Kv:=V (Kv.out.keeps hk (by omega));have K9:=V (K9.out.keeps hk (by omega));have HK:=V (HK.out.trans hk (fun _ h=> .inl h));clear hh hk;obtain⟨x0,x1,z0,z1⟩:=Kv.out.two;have d0:w3.cell? ⟨w1.heap.size,0,none⟩=some (.int .i64 op):=K9.out.cell 0;have d1:w3.cell? ⟨w1.heap.size,1,none⟩=some (.int .i64 xa):=K9.out.cell 1;go_wp2_with fail;have hx:=Kv.out.mX (.int .i64 1) (.int .i64 xa);have Km:=fC w3 w.heap.size (.int .i64 1) (.int .i64 xa);refine aN (eu rfl _ _ rfl hx.ma) rfl ?_;exact⟨⟨1,xa⟩,rfl,JD (.inl rfl) HA.out,HW.out,by rw [HN.out];exact HH.out.keeps Km (by omega) (fun i hi=>by omega),HK.out.iW Km (ag _)⟩
 ·have HA:=V xJ
  have K9:=V (eE.new w1 #[.int .i64 0, .int .i64 0, .int .i64 0, .slice none 0 0] 27);have Kv:=V ((Kv.out.below hb Kv.out.lt).alloc (.cells #[.int .i64 0, .int .i64 0, .int .i64 0, .slice none 0 0] 27));have HK:=V ((HK.out.trans (dS.dV (S:=fun k=>k=R) hb) (fun _ h=> .inl h)).alloc (.cells #[.int .i64 0, .int .i64 0, .int .i64 0, .slice none 0 0] 27));have HH:=V ((HH.out.below hb).alloc (.cells #[.int .i64 0, .int .i64 0, .int .i64 0, .slice none 0 0] 27));have LV:w.heap.size < w1.heap.size:=by have:=hb.size;rw [aE]at this;omega
  have c3:(w1.alloc (.cells #[.int .i64 0, .int .i64 0, .int .i64 0, .slice none 0 0] 27)).cell? ⟨w1.heap.size,0,none⟩=some (.int .i64 0):=K9.out.cell 0;have f1:=dQ he;obtain⟨hn,hw⟩:=AY hx 0 bad;rw [<- Ko.out]at hn hw;have HN:=V hn;have HW:=V (hw ⟨1,0⟩);clear hb he hn hw hx c0;go_wp2_with fail;refine(kM w0 _ R _ 0 false (by omega) HH.out).mono ?_;rintro e w2 ⟨rfl,hh,hk⟩;have HH:=V hh;have Kv:=V (Kv.out.keeps hk (by omega));have K9:=V (K9.out.keeps hk (by omega));have HK:=V (HK.out.trans hk (fun _ h=> .inl h));clear hh hk;clear c3;go_wp2_with fail;refine(iU w0 w2 R _ HH.out).mono ?_;rintro e w3 ⟨rfl,hh,hk⟩;have HH:=V hh;have Kv:=V (Kv.out.keeps hk (by omega));have K9:=V (K9.out.keeps hk (by omega));have HK:=V (HK.out.trans hk (fun _ h=> .inl h));clear hh hk;obtain⟨x0,x1,z0,z1⟩:=Kv.out.two;have d0:w3.cell? ⟨w1.heap.size,0,none⟩=some (.int .i64 0):=K9.out.cell 0;have d1:w3.cell? ⟨w1.heap.size,1,none⟩=some (.int .i64 0):=K9.out.cell 1;go_wp2_with fail;have hx:=Kv.out.mX (.int .i64 1) (.int .i64 0);have Km:=fC w3 w.heap.size (.int .i64 1) (.int .i64 0);refine aN (eu rfl _ _ rfl hx.ma) rfl ?_;exact⟨⟨1,0⟩,rfl,JD (.inl rfl) HA.out,HW.out,by rw [HN.out];exact HH.out.keeps Km (by omega) (fun i hi=>by omega),HK.out.iW Km (ag _)⟩
def EG (w0 w:World) (R:Nat) (st:fW) (e:Ending) (w':World):Prop:=
 ∃n:Int,e= .returned (.int .i64 n)/\iQ n/\gU ji st n/\fi w0 w' R (eg ji st)/\dS (fun k=>k=R) w w'
theorem At (st:fW):eg ji st=eg gE (eg eX st):=by rw [rI,fo,gM]
theorem CI {st:fW} {v:fb} (h:gU gE (eg eX st) v):gU ji st v.n:=by
 rw [rI];exact fA (f:=fun x=>x.2.n) (ic (mr st) h)
theorem rE (w0 w:World) (R:Nat) (st:fW) (h:fi w0 w R st):Calls prog 221 #[.pointer (some ⟨R,0,none⟩)] w (EG w0 w R st):=by
 have HH:=V h;clear h;go_enter func221,ntmps221;go_wp2_with fail;refine(iU w0 w R st HH.out).mono ?_;rintro e w1 ⟨rfl,h1,hk⟩;have HH1:=V h1;have HK:=V hk;clear h1 hk;go_wp2_with fail;refine(vK w0 w1 R _ HH1.out).mono ?_;rintro e w2 ⟨v,rfl,Kt,hw,h2,hk⟩;have HH2:=V h2;have Lx:=V (HK.out.trans hk (fun _ h=> .inl h));have HW:=V (CI hw);obtain⟨n1,n2⟩:=Kt.2;have hfd:∀wx:World,(Instr.field 42 (.agg #[.int .i64 v.kind, .int .i64 v.n]) 1).run prog wx= .ok (.int .i64 v.n) wx:=fun _=>by kernel_rfl
 clear h2 hk hw;go_wp2_with fail;go_ret;exact⟨v.n,rfl,⟨n1,n2⟩,HW.out,by rw [At];exact HH2.out,Lx.out⟩
def IG (w0 w:World) (R:Nat) (st:fW) (e:Ending) (w':World):Prop:=
 ∃x:fL,e= .returned (.agg #[.bool x.has, .int .i64 x.min, .int .i64 x.max])/\x.ok/\gU fZ st x/\fi w0 w' R (eg fZ st)/\dS (fun k=>k=R) w w'
theorem yQ {st:fW} (h:mK st=0):eg fZ st=eg fQ (eg eX st)/\gU fZ st ⟨true,iC (eg eX st),-1⟩:=by
 match st,h with
 | none,_=>exact⟨rfl,mq _ _⟩
 | some [],_=>exact⟨rfl,fun y hy=>by simp [fZ,eX]at hy⟩
 | some (c::l),h=>
  obtain rfl:c=0:=h;simp only [eg,iC,aw,bF,eX,fZ,gU];cases hn:fQ l with
  | none=>simp
  | some y=>simp
theorem zM {st:fW} (h:mK st≠0):eg fZ st=eg fQ (eg fQ (eg eX st))/\gU fZ st ⟨true,iC (eg eX st),iC (eg fQ (eg eX st))⟩:=by
 match st,h with
 | none,_=>exact⟨rfl,mq _ _⟩
 | some [],_=>exact⟨rfl,fun y hy=>by simp [fZ,eX]at hy⟩
 | some (c::l),h=>
  have hc:c≠0:=h;simp only [eg,iC,aw,bF,eX,fZ,gU,hc,if_false];cases hn:fQ l with
  | none=>simp
  | some y=>
   simp only [aw,bF];cases hn2:fQ y.2 with
   | none=>simp
   | some z=>simp
theorem Hz {n:Nat} {m:Int} (hn:n < 4294967296) (hm: -1 <=m/\m < 4294967296):fL.ok ⟨true,n,m⟩:=⟨⟨by show(-9223372036854775808:Int) <=n;omega,by show(n:Int) <=9223372036854775807;omega⟩,by show(-9223372036854775808:Int) <=m;omega,by show m <=9223372036854775807;omega⟩
theorem uA (w0 w:World) (R:Nat) (st:fW) (h:fi w0 w R st):Calls prog 274 #[.pointer (some ⟨R,0,none⟩)] w (IG w0 w R st):=by
 have L6:=h.lt;have Ox:=h.old.2;have HH:=V ((h.alloc (.cells #[.bool false, .int .i64 0, .int .i64 0] 55)).alloc (.cells #[.bool true, .int .i64 0, .int .i64 (-1)] 55));have Kv:=V ((eE.new w #[.bool false, .int .i64 0, .int .i64 0] 55).alloc (.cells #[.bool true, .int .i64 0, .int .i64 (-1)] 55));have K9:Hid (eE ((w.alloc (.cells #[.bool false, .int .i64 0, .int .i64 0] 55)).alloc (.cells #[.bool true, .int .i64 0, .int .i64 (-1)] 55)) (w.heap.size+1) #[.bool true, .int .i64 0, .int .i64 (-1)] 55):=V (by have:=eE.new (w.alloc (.cells #[.bool false, .int .i64 0, .int .i64 0] 55)) #[.bool true, .int .i64 0, .int .i64 (-1)] 55;rw [aE]at this;exact this);have HK:=V (((dS.refl (fun k=>k=R) w).alloc (.cells #[.bool false, .int .i64 0, .int .i64 0] 55)).alloc (.cells #[.bool true, .int .i64 0, .int .i64 (-1)] 55));have hn1:=iI (eg eX st);have hn2:=iI (eg fQ (eg eX st));obtain⟨n,en⟩:∃n,iC (eg eX st)=n:=⟨_,rfl⟩;obtain⟨m,em⟩:∃m,iC (eg fQ (eg eX st))=m:=⟨_,rfl⟩;obtain⟨c,ec⟩:∃c,mK st=c:=⟨_,rfl⟩;rw [en]at hn1;rw [em]at hn2;have EN:=V en;have EM:=V em;have EC:=V ec;clear h en em ec;go_enter func274,ntmps274;go_wp2_with fail;refine(iU w0 _ R st HH.out).mono ?_;rintro e w1 ⟨rfl,hh,hk⟩;have HH:=V hh;have Kv:=V (Kv.out.keeps hk (by omega));have K9:=V (K9.out.keeps hk (by omega));have HK:=V (HK.out.trans hk (fun _ h=> .inl h));clear hh hk;rw [EC.out];by_cases q:c=0
 ·have f1:((c.toNat:Int) !=0)=false:=by rw [q];rfl
  have HN:=V ((yQ (EC.out.trans q)).1);have HW:=V (show gU fZ st ⟨true,n,-1⟩by rw [<- EN.out];exact(yQ (EC.out.trans q)).2);clear q;go_wp2_with fail;refine(gZ w0 w1 R _ HH.out).mono ?_;rintro e w2 ⟨rfl,hh,hk⟩;have HH:=V hh;have Kv:=V (Kv.out.keeps hk (by omega));have K9:=V (K9.out.keeps hk (by omega));have HK:=V (HK.out.trans hk (fun _ h=> .inl h));clear hh hk;rw [EN.out];obtain⟨y0,y1,y2,-,u1,u2⟩:=K9.out.F1;obtain⟨x0,x1,x2,z0,z1,z2⟩:=Kv.out.F1;have K9:=V ((K9.out.set 1 (.int .i64 n)));have Kv:=V (Kv.out.other ⟨w.heap.size+1,1,none⟩ (.int .i64 n) (by show w.heap.size≠w.heap.size+1;omega));have HH:=V (HH.out.keeps (ep w2 (w.heap.size+1) 1 (.int .i64 n)) (by omega) (fun i hi=>by omega));have HK:=V (HK.out.iW (ep w2 (w.heap.size+1) 1 (.int .i64 n)) (by omega));go_wp2_with fail;have hx:=Kv.out.tg (.bool true) (.int .i64 n) (.int .i64 (-1));have Km:=ku (w2.setCell ⟨w.heap.size+1,1,none⟩ (.int .i64 n)) w.heap.size (.bool true) (.int .i64 n) (.int .i64 (-1));refine aN (eu rfl _ _ rfl hx.pw) rfl ?_;exact⟨⟨true,n,(-1)⟩,rfl,Hz hn1 (by omega),HW.out,by rw [HN.out];exact HH.out.keeps Km (by omega) (fun i hi=>by omega),HK.out.iW Km (ag _)⟩
 ·have f1:((c.toNat:Int) !=0)=true:=fc (fun h=>q (dv.1 (by show c.toNat=0;omega)))
  have HN:=V ((zM (fun h=>q (EC.out.symm.trans h))).1);have HW:=V (show gU fZ st ⟨true,n,m⟩by rw [<- EN.out, <- EM.out];exact(zM (fun h=>q (EC.out.symm.trans h))).2);clear q;go_wp2_with fail;refine(gZ w0 w1 R _ HH.out).mono ?_;rintro e w2 ⟨rfl,hh,hk⟩;have HH:=V hh;have Kv:=V (Kv.out.keeps hk (by omega));have K9:=V (K9.out.keeps hk (by omega));have HK:=V (HK.out.trans hk (fun _ h=> .inl h));clear hh hk;rw [EN.out];have y1:=K9.out.cell 1;have u1:=K9.out.free 1;have K9:=V ((K9.out.set 1 (.int .i64 n)));have Kv:=V (Kv.out.other ⟨w.heap.size+1,1,none⟩ (.int .i64 n) (by show w.heap.size≠w.heap.size+1;omega));have HH:=V (HH.out.keeps (ep w2 (w.heap.size+1) 1 (.int .i64 n)) (by omega) (fun i hi=>by omega));have HK:=V (HK.out.iW (ep w2 (w.heap.size+1) 1 (.int .i64 n)) (by omega));have K9:=V (show eE (w2.setCell ⟨w.heap.size+1,1,none⟩ (.int .i64 n)) (w.heap.size+1) #[.bool true, .int .i64 n, .int .i64 (-1)] 55 from by simpa using K9.out);go_wp2_with fail;refine(gZ w0 _ R _ HH.out).mono ?_;rintro e w3 ⟨rfl,hh,hk⟩;have HH:=V hh;have Kv:=V (Kv.out.keeps hk (by omega));have K9:=V (K9.out.keeps hk (by omega));have HK:=V (HK.out.trans hk (fun _ h=> .inl h));clear hh hk;clear y1 u1;rw [EM.out];obtain⟨y0,y1,y2,-,u1,u2⟩:=K9.out.F1;obtain⟨x0,x1,x2,z0,z1,z2⟩:=Kv.out.F1;have K9:=V ((K9.out.set 2 (.int .i64 m)));have Kv:=V (Kv.out.other ⟨w.heap.size+1,2,none⟩ (.int .i64 m) (by show w.heap.size≠w.heap.size+1;omega));have HH:=V (HH.out.keeps (ep w3 (w.heap.size+1) 2 (.int .i64 m)) (by omega) (fun i hi=>by omega));have HK:=V (HK.out.iW (ep w3 (w.heap.size+1) 2 (.int .i64 m)) (by omega));go_wp2_with fail;have hx:=Kv.out.tg (.bool true) (.int .i64 n) (.int .i64 m);have Km:=ku (w3.setCell ⟨w.heap.size+1,2,none⟩ (.int .i64 m)) w.heap.size (.bool true) (.int .i64 n) (.int .i64 m);refine aN (eu rfl _ _ rfl hx.pw) rfl ?_;exact⟨⟨true,n,m⟩,rfl,Hz hn1 (by omega),HW.out,by rw [HN.out];exact HH.out.keeps Km (by omega) (fun i hi=>by omega),HK.out.iW Km (ag _)⟩
theorem GL (w0:World) (Y:Nat) (get:iP (fL)) (P:fL ->Prop) (hG:iD get) (st:fW) (w:World) (Kj:Nat) (bs cs:Array Value)
  (hE:∀args w,(callFunc Kj args).run prog w= .ok (.enter Kj args) w) (h:fi w0 w Y st)
  (hp:∀s w1,fi w0 w1 Y s ->dS (fun k=>k=Y) w w1 ->Calls prog Kj (bs++cs) w1 (Ey (fun x:fL=> .agg #[.bool x.has, .int .i64 x.min, .int .i64 x.max]) w0 Y get P s w1)):
  Calls prog 272 #[.pointer (some ⟨Y,0,none⟩), .func (.func Kj) bs cs] w (Jx 55 3 xh w0 Y get P st w):=by
 have HP:=V hp;have HH:=V h;have hR:=h.lt;have HG:=V hG;clear hp h hG;go_enter func272,ntmps272;go_wp2_with fail;refine(gZ w0 w Y st HH.out).mono ?_;rintro e w1 ⟨rfl,h1,LH⟩;have Mg:=V (jV get st _ (iF st));have hn:=iI st;have hlen:=h1.len;obtain⟨N,eN⟩:∃N,iC st=N:=⟨_,rfl⟩;rw [eN]at hn Mg⊢;clear eN;go_wp2_with fail;refine ez (fun a' w'=>∃(v:Value) (acc:List (fL)) (n:Nat) (s:fW),a'=fr (.pointer (some ⟨Y,0,none⟩):: .func (.func Kj) bs cs::gs a' 2 3 (v:: .int .i64 n::gs a' 7 19 []))/\dR 55 3 xh w' w.heap.size v acc/\F8 w0 Y get P st w w' acc n s) (fun a' _=>(intOf (a'.tmps.getD 6 undef)).toNat) ?_ ?_
 ·exact⟨_,[],N,eg fQ st,rfl,dR.nil _ _,Mg.out,by simp,by simpa using hlen,h1,LH,hn⟩
 ·clear h1 LH hn hlen Mg HH
  rintro R a' w1 ⟨v,acc,n,s,Kk,hJ⟩ HR;dsimp only [fr,gs]at Kk;generalize slot a'=f at Kk;subst Kk;obtain⟨ho,Ll,KG,hlen,Le,hk,hn⟩:=hJ;have KQ:=V Le;have KN:=V Ll;have KC:=V KG;have MJ:=V hR;have Lf:=hk.size;have c1:=Le.bad;have HO:=V ho;have Ln:∀i,ey v i ->¬ i=Y:=fun i hi=>by have:=(eo ho hi).1;omega
  have PN:=V Ln;have HK:=V hk;clear ho Ln Ll KG Le hk;rcases aY n with LP | LP
  ·obtain⟨g1,g2⟩:=gB get KN.out (.inl LP)
   have G1:=V g1;have G2:=V g2;subst LP;clear g1 g2;go_wp2_with fail;go_ret;exact⟨_,acc,rfl,HO.out,KC.out,by omega,G2.out,by rw [G1.out];exact KQ.out,HK.out⟩
  have f0:decide ((0:Int) < (n:Int))=true:=az (by omega);cases s with
  | none=>
   have c1:w1.cell? ⟨Y,1,none⟩=some (.bool true):=c1;obtain⟨g1,g2⟩:=gB get KN.out (.inr rfl);have G1:=V g1;have G2:=V g2;clear g1 g2;go_wp2_with fail;go_ret;exact⟨_,acc,rfl,HO.out,KC.out,by omega,G2.out,by rw [G1.out];exact KQ.out,HK.out⟩
  | some lb=>
   have c1:w1.cell? ⟨Y,1,none⟩=some (.bool false):=c1;obtain⟨n',rfl⟩:∃n',n=n'+1:=⟨n - 1,by omega⟩;have Kq:=HG.out.len lb;have Oz:acc.length <=8001:=by omega
   have L9:=V (show acc.length+1+(eg get (some lb)).len <=8001 by omega);clear Kq hlen;go_wp2_with fail;refine(HP.out (some lb) w1 KQ.out HK.out).mono ?_;rintro e w2 ⟨x,rfl,NY,NZ,h2,Kp⟩;have Ld:=V (dR.keeps HO.out Kp PN.out);obtain⟨av,cv,ev,_,LC,-⟩:=Ld.out.fD yx;subst ev;unfold maxLen at LC;have Lv:=V h2;have O3:=V NY;have LN:=V (KN.out.trans (jr get n' acc NZ));have Lx:=V (HK.out.trans Kp (fun _ h=> .inl h));have N6:=V (show w.heap.size <=w1.heap.size from HK.out.size);have Mn:=V (show w.heap.size <=w2.heap.size from Lx.out.size);clear NY NZ h2 Kp c1;go_wp2_with (first | (at_builtin;refine eQ w2 rfl _ _ 249 rfl _ 24 (by kernel_rfl) DJ rfl (by decide) (by decide) w.heap.size (.slice av acc.length cv) acc rfl Ld.out x _ rfl rfl (I2 x) rfl (by omega) Mn.out ?_));intro v3 w3 Lq KS LS;have MF:=V Lq;have KT:∀i,ey (.slice av acc.length cv) i ->w.heap.size <=i/\i < w2.heap.size:=fun i hi=>eo Ld.out hi;have Mu:=V (Lv.out.keeps KS (fun h=>by have:=(KT _ h).1;have:=MJ.out;omega) (fun i hi=>by have:=(KT i hi).1;have:=Lv.out.old.2;have:=MJ.out;omega));have OG:=V (Lx.out.trans KS (fun i hi=> .inr (KT i hi).1));clear Lq KS LS KT;go_wp2_with fail;refine HR.out _ _ ⟨_,acc++[x],n',eg get (some lb),rfl,MF.out,LN.out,?_,?_,Mu.out,OG.out,by omega⟩ ?_
   ·intro y hy
    rcases bA.1 hy with h | h
    ·exact KC.out y h
    ·obtain rfl:=aV.1 h
     exact O3.out
   ·rw [ah]
    exact L9.out
   ·simp [intOf]
theorem F5 (w0:World) (Y:Nat) (get:iP (jb)) (P:jb ->Prop) (hG:iD get) (st:fW) (w:World) (Kj:Nat) (bs cs:Array Value)
  (hE:∀args w,(callFunc Kj args).run prog w= .ok (.enter Kj args) w) (h:fi w0 w Y st)
  (hp:∀s w1,fi w0 w1 Y s ->dS (fun k=>k=Y) w w1 ->Calls prog Kj (bs++cs) w1 (Ey (fun x:jb=> .agg #[.bool x.isVar, .int .i64 x.init.kind, .int .i64 x.init.n]) w0 Y get P s w1)):
  Calls prog 215 #[.pointer (some ⟨Y,0,none⟩), .func (.func Kj) bs cs] w (Jx 120 3 sC w0 Y get P st w):=by
 have HP:=V hp;have HH:=V h;have hR:=h.lt;have HG:=V hG;clear hp h hG;go_enter func215,ntmps215;go_wp2_with fail;refine(gZ w0 w Y st HH.out).mono ?_;rintro e w1 ⟨rfl,h1,LH⟩;have Mg:=V (jV get st _ (iF st));have hn:=iI st;have hlen:=h1.len;obtain⟨N,eN⟩:∃N,iC st=N:=⟨_,rfl⟩;rw [eN]at hn Mg⊢;clear eN;go_wp2_with fail;refine ez (fun a' w'=>∃(v:Value) (acc:List (jb)) (n:Nat) (s:fW),a'=fr (.pointer (some ⟨Y,0,none⟩):: .func (.func Kj) bs cs::gs a' 2 3 (v:: .int .i64 n::gs a' 7 19 []))/\dR 120 3 sC w' w.heap.size v acc/\F8 w0 Y get P st w w' acc n s) (fun a' _=>(intOf (a'.tmps.getD 6 undef)).toNat) ?_ ?_
 ·exact⟨_,[],N,eg fQ st,rfl,dR.nil _ _,Mg.out,by simp,by simpa using hlen,h1,LH,hn⟩
 ·clear h1 LH hn hlen Mg HH
  rintro R a' w1 ⟨v,acc,n,s,Kk,hJ⟩ HR;dsimp only [fr,gs]at Kk;generalize slot a'=f at Kk;subst Kk;obtain⟨ho,Ll,KG,hlen,Le,hk,hn⟩:=hJ;have KQ:=V Le;have KN:=V Ll;have KC:=V KG;have MJ:=V hR;have Lf:=hk.size;have c1:=Le.bad;have HO:=V ho;have Ln:∀i,ey v i ->¬ i=Y:=fun i hi=>by have:=(eo ho hi).1;omega
  have PN:=V Ln;have HK:=V hk;clear ho Ln Ll KG Le hk;rcases aY n with LP | LP
  ·obtain⟨g1,g2⟩:=gB get KN.out (.inl LP)
   have G1:=V g1;have G2:=V g2;subst LP;clear g1 g2;go_wp2_with fail;go_ret;exact⟨_,acc,rfl,HO.out,KC.out,by omega,G2.out,by rw [G1.out];exact KQ.out,HK.out⟩
  have f0:decide ((0:Int) < (n:Int))=true:=az (by omega);cases s with
  | none=>
   have c1:w1.cell? ⟨Y,1,none⟩=some (.bool true):=c1;obtain⟨g1,g2⟩:=gB get KN.out (.inr rfl);have G1:=V g1;have G2:=V g2;clear g1 g2;go_wp2_with fail;go_ret;exact⟨_,acc,rfl,HO.out,KC.out,by omega,G2.out,by rw [G1.out];exact KQ.out,HK.out⟩
  | some lb=>
   have c1:w1.cell? ⟨Y,1,none⟩=some (.bool false):=c1;obtain⟨n',rfl⟩:∃n',n=n'+1:=⟨n - 1,by omega⟩;have Kq:=HG.out.len lb;have Oz:acc.length <=8001:=by omega
   have L9:=V (show acc.length+1+(eg get (some lb)).len <=8001 by omega);clear Kq hlen;go_wp2_with fail;refine(HP.out (some lb) w1 KQ.out HK.out).mono ?_;rintro e w2 ⟨x,rfl,NY,NZ,h2,Kp⟩;have Ld:=V (dR.keeps HO.out Kp PN.out);obtain⟨av,cv,ev,_,LC,-⟩:=Ld.out.fD xS;subst ev;unfold maxLen at LC;have Lv:=V h2;have O3:=V NY;have LN:=V (KN.out.trans (jr get n' acc NZ));have Lx:=V (HK.out.trans Kp (fun _ h=> .inl h));have N6:=V (show w.heap.size <=w1.heap.size from HK.out.size);have Mn:=V (show w.heap.size <=w2.heap.size from Lx.out.size);clear NY NZ h2 Kp c1;go_wp2_with (first | (at_builtin;refine eQ w2 rfl _ _ 56 rfl _ 24 (by kernel_rfl) Cf rfl (by decide) (by decide) w.heap.size (.slice av acc.length cv) acc rfl Ld.out x _ rfl rfl (Jp x) rfl (by omega) Mn.out ?_));intro v3 w3 Lq KS LS;have MF:=V Lq;have KT:∀i,ey (.slice av acc.length cv) i ->w.heap.size <=i/\i < w2.heap.size:=fun i hi=>eo Ld.out hi;have Mu:=V (Lv.out.keeps KS (fun h=>by have:=(KT _ h).1;have:=MJ.out;omega) (fun i hi=>by have:=(KT i hi).1;have:=Lv.out.old.2;have:=MJ.out;omega));have OG:=V (Lx.out.trans KS (fun i hi=> .inr (KT i hi).1));clear Lq KS LS KT;go_wp2_with fail;refine HR.out _ _ ⟨_,acc++[x],n',eg get (some lb),rfl,MF.out,LN.out,?_,?_,Mu.out,OG.out,by omega⟩ ?_
   ·intro y hy
    rcases bA.1 hy with h | h
    ·exact KC.out y h
    ·obtain rfl:=aV.1 h
     exact O3.out
   ·rw [ah]
    exact L9.out
   ·simp [intOf]
theorem Hk (w0:World) (Y:Nat) (get:iP (iB)) (P:iB ->Prop) (hG:iD get) (st:fW) (w:World) (Kj:Nat) (bs cs:Array Value)
  (hE:∀args w,(callFunc Kj args).run prog w= .ok (.enter Kj args) w) (h:fi w0 w Y st)
  (hp:∀s w1,fi w0 w1 Y s ->dS (fun k=>k=Y) w w1 ->Calls prog Kj (bs++cs) w1 (Ey (fun x:iB=> .agg #[.string x.name, .int .i64 x.func]) w0 Y get P s w1)):
  Calls prog 217 #[.pointer (some ⟨Y,0,none⟩), .func (.func Kj) bs cs] w (Jx 111 2 qS w0 Y get P st w):=by
 have HP:=V hp;have HH:=V h;have hR:=h.lt;have HG:=V hG;clear hp h hG;go_enter func217,ntmps217;go_wp2_with fail;refine(gZ w0 w Y st HH.out).mono ?_;rintro e w1 ⟨rfl,h1,LH⟩;have Mg:=V (jV get st _ (iF st));have hn:=iI st;have hlen:=h1.len;obtain⟨N,eN⟩:∃N,iC st=N:=⟨_,rfl⟩;rw [eN]at hn Mg⊢;clear eN;go_wp2_with fail;refine ez (fun a' w'=>∃(v:Value) (acc:List (iB)) (n:Nat) (s:fW),a'=fr (.pointer (some ⟨Y,0,none⟩):: .func (.func Kj) bs cs::gs a' 2 3 (v:: .int .i64 n::gs a' 7 19 []))/\dR 111 2 qS w' w.heap.size v acc/\F8 w0 Y get P st w w' acc n s) (fun a' _=>(intOf (a'.tmps.getD 6 undef)).toNat) ?_ ?_
 ·exact⟨_,[],N,eg fQ st,rfl,dR.nil _ _,Mg.out,by simp,by simpa using hlen,h1,LH,hn⟩
 ·clear h1 LH hn hlen Mg HH
  rintro R a' w1 ⟨v,acc,n,s,Kk,hJ⟩ HR;dsimp only [fr,gs]at Kk;generalize slot a'=f at Kk;subst Kk;obtain⟨ho,Ll,KG,hlen,Le,hk,hn⟩:=hJ;have KQ:=V Le;have KN:=V Ll;have KC:=V KG;have MJ:=V hR;have Lf:=hk.size;have c1:=Le.bad;have HO:=V ho;have Ln:∀i,ey v i ->¬ i=Y:=fun i hi=>by have:=(eo ho hi).1;omega
  have PN:=V Ln;have HK:=V hk;clear ho Ln Ll KG Le hk;rcases aY n with LP | LP
  ·obtain⟨g1,g2⟩:=gB get KN.out (.inl LP)
   have G1:=V g1;have G2:=V g2;subst LP;clear g1 g2;go_wp2_with fail;go_ret;exact⟨_,acc,rfl,HO.out,KC.out,by omega,G2.out,by rw [G1.out];exact KQ.out,HK.out⟩
  have f0:decide ((0:Int) < (n:Int))=true:=az (by omega);cases s with
  | none=>
   have c1:w1.cell? ⟨Y,1,none⟩=some (.bool true):=c1;obtain⟨g1,g2⟩:=gB get KN.out (.inr rfl);have G1:=V g1;have G2:=V g2;clear g1 g2;go_wp2_with fail;go_ret;exact⟨_,acc,rfl,HO.out,KC.out,by omega,G2.out,by rw [G1.out];exact KQ.out,HK.out⟩
  | some lb=>
   have c1:w1.cell? ⟨Y,1,none⟩=some (.bool false):=c1;obtain⟨n',rfl⟩:∃n',n=n'+1:=⟨n - 1,by omega⟩;have Kq:=HG.out.len lb;have Oz:acc.length <=8001:=by omega
   have L9:=V (show acc.length+1+(eg get (some lb)).len <=8001 by omega);clear Kq hlen;go_wp2_with fail;refine(HP.out (some lb) w1 KQ.out HK.out).mono ?_;rintro e w2 ⟨x,rfl,NY,NZ,h2,Kp⟩;have Ld:=V (dR.keeps HO.out Kp PN.out);obtain⟨av,cv,ev,_,LC,-⟩:=Ld.out.fD yj;subst ev;unfold maxLen at LC;have Lv:=V h2;have O3:=V NY;have LN:=V (KN.out.trans (jr get n' acc NZ));have Lx:=V (HK.out.trans Kp (fun _ h=> .inl h));have N6:=V (show w.heap.size <=w1.heap.size from HK.out.size);have Mn:=V (show w.heap.size <=w2.heap.size from Lx.out.size);clear NY NZ h2 Kp c1;go_wp2_with (first | (at_builtin;refine eQ w2 rfl _ _ 57 rfl _ 24 (by kernel_rfl) yM rfl (by decide) (by decide) w.heap.size (.slice av acc.length cv) acc rfl Ld.out x _ rfl rfl (Jq x) rfl (by omega) Mn.out ?_));intro v3 w3 Lq KS LS;have MF:=V Lq;have KT:∀i,ey (.slice av acc.length cv) i ->w.heap.size <=i/\i < w2.heap.size:=fun i hi=>eo Ld.out hi;have Mu:=V (Lv.out.keeps KS (fun h=>by have:=(KT _ h).1;have:=MJ.out;omega) (fun i hi=>by have:=(KT i hi).1;have:=Lv.out.old.2;have:=MJ.out;omega));have OG:=V (Lx.out.trans KS (fun i hi=> .inr (KT i hi).1));clear Lq KS LS KT;go_wp2_with fail;refine HR.out _ _ ⟨_,acc++[x],n',eg get (some lb),rfl,MF.out,LN.out,?_,?_,Mu.out,OG.out,by omega⟩ ?_
   ·intro y hy
    rcases bA.1 hy with h | h
    ·exact KC.out y h
    ·obtain rfl:=aV.1 h
     exact O3.out
   ·rw [ah]
    exact L9.out
   ·simp [intOf]
theorem dR.stay {α:Type} {t:TypeId} {k:Nat} {enc:α ->List Value} {w w':World} {B:Nat} {v:Value} {l:List α} {S:Nat ->Prop} (h:dR t k enc w B v l) (hk:dS S w w') (hs:∀i,S i ->i < B):dR t k enc w' B v l:=
 h.keeps hk (fun i hi hp=>by have:=(eo h hi).1;have:=hs i hp;omega)
theorem dR.lower {α:Type} {t:TypeId} {k:Nat} {enc:α ->List Value} {w:World} {B B':Nat} {v:Value} {l:List α} (h:dR t k enc w B v l) (hB:B' <=B):dR t k enc w B' v l:=
 mC h (fun _ hk=>aW hB (eo h hk).1)
theorem BT (st:fW):iQ (nB st):=by
 rcases(yV st).2 with h;rw [h];split
 ·exact⟨by decide,by decide⟩
 ·split <;>exact⟨by decide,by decide⟩
theorem FQ (w0 w:World) (R:Nat) (s:fW) (h:fi w0 w R s):Calls prog 270 (#[.pointer (some ⟨R,0,none⟩)]++#[]) w (Ey (fun x:Int=> .int .i64 x) w0 R gH iQ s w):=by
 refine(uu w0 w R s h).mono ?_;rintro e w' ⟨rfl,h1,h2⟩;exact⟨nB s,rfl,BT s,vB s,h1,h2⟩
theorem AG (n:Nat) (h:n < 4294967296):iQ n:=⟨by show(-9223372036854775808:Int) <=n;omega,by show(n:Int) <=9223372036854775807;omega⟩
theorem Ep (w0 w:World) (R:Nat) (s:fW) (h:fi w0 w R s):Calls prog 110 (#[.pointer (some ⟨R,0,none⟩)]++#[]) w (Ey (fun x:Int=> .int .i64 x) w0 R uN iQ s w):=by
 refine(gZ w0 w R s h).mono ?_;rintro e w' ⟨rfl,h1,h2⟩;exact⟨iC s,rfl,AG _ (iI s),by rw [qz];exact fA (iF s),by rw [qz,fo];exact h1,h2⟩
theorem Eg (w0 w:World) (R:Nat) (st:fW) (h:fi w0 w R st):Calls prog 210 (#[.pointer (some ⟨R,0,none⟩)]++#[]) w (Hw (fun(_:gy) (u:Value × Value)=> .agg #[u.1,u.2]) gG w0 R oS (fun _=>True) st w):=by
 have L6:=h.lt;have Ox:=h.old.2;have HH:=V (h.alloc (.cells #[.slice none 0 0, .slice none 0 0] 109));have HX:=V (eE.new w #[.slice none 0 0, .slice none 0 0] 109);have HK:=V ((dS.refl (fun k=>k=R) w).alloc (.cells #[.slice none 0 0, .slice none 0 0] 109));have Lf:(w.alloc (.cells #[.slice none 0 0, .slice none 0 0] 109)).heap.size=w.heap.size+1:=aE _ _;have LG:=dt Lf.symm;clear h Lf;go_enter func210,ntmps210;go_wp2_with fail;refine(iU w0 _ R st HH.out).mono ?_;rintro e w1 ⟨rfl,hh,hk⟩;have LG:=aW LG hk.size;have HH:=V hh;have HX:=V (HX.out.keeps hk (by omega));have HK:=V (HK.out.trans hk (fun _ h=> .inl h));clear hh hk;go_wp2_with fail;refine(nP w0 R gH iQ lx _ w1 270 #[.pointer (some ⟨R,0,none⟩)] #[] (fun _ _=>by rfl) HH.out (fun s w1 h _=>FQ w0 w1 R s h)).mono ?_;rintro e w2 ⟨v1,l1,rfl,Ns,hp1,P5,O9,hh,hk⟩;obtain⟨a1,c1,rfl,-,-⟩:=Ns.slice;have Mm:=aW LG hk.size;have Mb:=V Ns;have HP1:=V hp1;have Lc:=V O9;clear Ns hp1 O9;have HH:=V hh;have HX:=V (HX.out.keeps hk (by omega));have HK:=V (HK.out.trans hk (fun _ h=> .inl h));clear hh hk;go_wp2_with fail;refine(nP w0 R gH iQ lx _ w2 270 #[.pointer (some ⟨R,0,none⟩)] #[] (fun _ _=>by rfl) HH.out (fun s w1 h _=>FQ w0 w1 R s h)).mono ?_;rintro e w3 ⟨v2,l2,rfl,KB,Pa,hl2,ME,hh,hk⟩;obtain⟨a2,c2,rfl,-,-⟩:=KB.slice;have Mb:=V (Mb.out.stay hk (fun i hi=>by omega));have Ld:=V KB;have HP2:=V Pa;have KA:=V ME;clear KB Pa ME;have HH:=V hh;have HX:=V (HX.out.keeps hk (by omega));have HK:=V (HK.out.trans hk (fun _ h=> .inl h));clear hh hk;obtain⟨x0,x1,z0,z1⟩:=HX.out.two;go_wp2_with fail;have hx:=HX.out.mX (.slice a1 l1.length c1) (.slice a2 l2.length c2);have Km:=fC w3 w.heap.size (.slice a1 l1.length c1) (.slice a2 l2.length c2);refine aN (eu rfl _ _ rfl hx.kN) rfl ?_;have o1:=((Mb.out.stay Km (fun i hi=>by omega)).lower (show w.heap.size <=w1.heap.size by omega));have o2:=((Ld.out.stay Km (fun i hi=>by omega)).lower (show w.heap.size <=w2.heap.size by omega));refine⟨⟨l1,l2⟩,(.slice a1 l1.length c1, .slice a2 l2.length c2),rfl,⟨⟨jh fp o1,jh fp o2⟩,HP1.out,HP2.out⟩,trivial,?_,?_,HK.out.iW Km (ag _)⟩
 ·rw [uB]
  exact fA (f:=fun x:UInt8 × List Int × List Int=>gy.mk x.2.1 x.2.2) (ic (mr st) (ic Lc.out KA.out))
 ·rw [uB,fo,gM,gM]
  exact HH.out.keeps Km (by omega) (fun i hi=>by omega)
theorem qi {w0 w:World} {R:Nat} {st:fW} (h:fi w0 w R st):(wR st).size <=8000:=by
 have:=ym h;show((nO st).toArray).size <=8000;simpa using this
def jd.fits (x:jd):Prop:=x.mod.size <=8000/\x.name.size <=8000/\iQ x.type
def iB.fits (x:iB):Prop:=x.name.size <=8000/\iQ x.func
theorem Ae (w0 w:World) (R:Nat) (st:fW) (h:fi w0 w R st):Calls prog 212 (#[.pointer (some ⟨R,0,none⟩)]++#[]) w (Ey (fun x:jd=> .agg #[.string x.mod, .string x.name, .int .i64 x.type]) w0 R uw jd.fits st w):=by
 have L6:=h.lt;have Ox:=h.old.2;have HH:=V (h.alloc (.cells #[.string (bs []), .string (bs []), .int .i64 0] 118));have HX:=V (eE.new w #[.string (bs []), .string (bs []), .int .i64 0] 118);have HK:=V ((dS.refl (fun k=>k=R) w).alloc (.cells #[.string (bs []), .string (bs []), .int .i64 0] 118));have Lf:(w.alloc (.cells #[.string (bs []), .string (bs []), .int .i64 0] 118)).heap.size=w.heap.size+1:=aE _ _;have LG:=dt Lf.symm;have HT1:=V (qi h);clear h Lf;go_enter func212,ntmps212;go_wp2_with fail;refine(uH w0 _ R st HH.out).mono ?_;rintro e w1 ⟨rfl,hh,hk⟩;have LG:=aW LG hk.size;have HH:=V hh;have HX:=V (HX.out.keeps hk (by omega));have HK:=V (HK.out.trans hk (fun _ h=> .inl h));clear hh hk;have HT2:=V (qi HH.out);go_wp2_with fail;refine(uH w0 w1 R _ HH.out).mono ?_;rintro e w2 ⟨rfl,hh,hk⟩;have Mm:=aW LG hk.size;have HH:=V hh;have HX:=V (HX.out.keeps hk (by omega));have HK:=V (HK.out.trans hk (fun _ h=> .inl h));clear hh hk;obtain⟨s1,es1⟩:∃s,wR st=s:=⟨_,rfl⟩;obtain⟨s2,es2⟩:∃s,wR (eg jz st)=s:=⟨_,rfl⟩;rw [es1]at HT1;rw [es2]at HT2;rw [es1,es2];have ES1:=V es1;have ES2:=V es2;clear es1 es2;have HY:=V (eE.new w2 #[.string s1, .string s2, .int .i64 0] 118);have HX:=V (HX.out.alloc (.cells #[.string s1, .string s2, .int .i64 0] 118));have HK:=V (HK.out.alloc (.cells #[.string s1, .string s2, .int .i64 0] 118));have HH:=V (HH.out.alloc (.cells #[.string s1, .string s2, .int .i64 0] 118));go_wp2_with fail;refine(iU w0 _ R _ HH.out).mono ?_;rintro e w3 ⟨rfl,hh,hk⟩;have HH:=V hh;have HX:=V (HX.out.keeps hk (by omega));have HY:=V (HY.out.keeps hk (by omega));have HK:=V (HK.out.trans hk (fun _ h=> .inl h));clear hh hk;go_wp2_with fail;refine(gZ w0 w3 R _ HH.out).mono ?_;rintro e w4 ⟨rfl,hh,hk⟩;have HH:=V hh;have HX:=V (HX.out.keeps hk (by omega));have HY:=V (HY.out.keeps hk (by omega));have HK:=V (HK.out.trans hk (fun _ h=> .inl h));clear hh hk;have hn:=iI (eg eX (eg jz (eg jz st)));obtain⟨n,en⟩:∃n,iC (eg eX (eg jz (eg jz st)))=n:=⟨_,rfl⟩;rw [en]at hn⊢;have EN:=V en;clear en;obtain⟨y0,y1,y2,v0,v1,v2⟩:=HY.out.F1;obtain⟨x0,x1,x2,z0,z1,z2⟩:=HX.out.F1;go_wp2_with fail;have My:=ep w4 w2.heap.size 2 (.int .i64 n);have hx:=(HX.out.keeps My (by omega)).tg (.string s1) (.string s2) (.int .i64 n);have Km:=ku (w4.setCell ⟨w2.heap.size,2,none⟩ (.int .i64 n)) w.heap.size (.string s1) (.string s2) (.int .i64 n);refine aN (eu rfl _ _ rfl hx.Gt) rfl ?_;refine⟨⟨s1,s2,n⟩,rfl,⟨HT1.out,HT2.out,AG n hn⟩,?_,?_,(HK.out.iW My (by omega)).iW Km (ag _)⟩
 ·rw [xg]
  refine fA (f:=fun x:ByteArray × ByteArray × UInt8 × Int=>jd.mk x.1 x.2.1 x.2.2.2) (x:=(s1,s2,_,(n:Int))) (ic ?_ (ic ?_ (ic (mr _) ?_)))
  ·rw [<- ES1.out];exact rv st
  ·rw [<- ES2.out];exact rv _
  ·rw [qz, <- EN.out]
   exact fA (f:=fun n:Nat=>(n:Int)) (iF _)
 ·rw [xg,fo,gM,gM,gM,qz,fo]
  exact(HH.out.keeps My (by omega) (fun i hi=>by omega)).keeps Km (by omega) (fun i hi=>by omega)
theorem A2 (w0 w:World) (R:Nat) (st:fW) (h:fi w0 w R st):Calls prog 218 (#[.pointer (some ⟨R,0,none⟩)]++#[]) w (Ey (fun x:iB=> .agg #[.string x.name, .int .i64 x.func]) w0 R tN iB.fits st w):=by
 have L6:=h.lt;have Ox:=h.old.2;have HH:=V (h.alloc (.cells #[.string (bs []), .int .i64 0] 111));have HX:=V (eE.new w #[.string (bs []), .int .i64 0] 111);have HK:=V ((dS.refl (fun k=>k=R) w).alloc (.cells #[.string (bs []), .int .i64 0] 111));have Lf:(w.alloc (.cells #[.string (bs []), .int .i64 0] 111)).heap.size=w.heap.size+1:=aE _ _;have LG:=dt Lf.symm;have HT1:=V (qi h);clear h Lf;go_enter func218,ntmps218;go_wp2_with fail;refine(uH w0 _ R st HH.out).mono ?_;rintro e w2 ⟨rfl,hh,hk⟩;have Mm:=aW LG hk.size;have HH:=V hh;have HX:=V (HX.out.keeps hk (by omega));have HK:=V (HK.out.trans hk (fun _ h=> .inl h));clear hh hk;obtain⟨s1,es1⟩:∃s,wR st=s:=⟨_,rfl⟩;rw [es1]at HT1;rw [es1];have ES1:=V es1;clear es1;have HY:=V (eE.new w2 #[.string s1, .int .i64 0] 111);have HX:=V (HX.out.alloc (.cells #[.string s1, .int .i64 0] 111));have HK:=V (HK.out.alloc (.cells #[.string s1, .int .i64 0] 111));have HH:=V (HH.out.alloc (.cells #[.string s1, .int .i64 0] 111));go_wp2_with fail;refine(iU w0 _ R _ HH.out).mono ?_;rintro e w3 ⟨rfl,hh,hk⟩;have HH:=V hh;have HX:=V (HX.out.keeps hk (by omega));have HY:=V (HY.out.keeps hk (by omega));have HK:=V (HK.out.trans hk (fun _ h=> .inl h));clear hh hk;go_wp2_with fail;refine(gZ w0 w3 R _ HH.out).mono ?_;rintro e w4 ⟨rfl,hh,hk⟩;have HH:=V hh;have HX:=V (HX.out.keeps hk (by omega));have HY:=V (HY.out.keeps hk (by omega));have HK:=V (HK.out.trans hk (fun _ h=> .inl h));clear hh hk;have hn:=iI (eg eX (eg jz st));obtain⟨n,en⟩:∃n,iC (eg eX (eg jz st))=n:=⟨_,rfl⟩;rw [en]at hn⊢;have EN:=V en;clear en;obtain⟨y0,y1,v0,v1⟩:=HY.out.two;obtain⟨x0,x1,z0,z1⟩:=HX.out.two;go_wp2_with fail;have My:=ep w4 w2.heap.size 1 (.int .i64 n);have hx:=(HX.out.keeps My (by omega)).mX (.string s1) (.int .i64 n);have Km:=fC (w4.setCell ⟨w2.heap.size,1,none⟩ (.int .i64 n)) w.heap.size (.string s1) (.int .i64 n);refine aN (eu rfl _ _ rfl hx.Hm) rfl ?_;refine⟨⟨s1,n⟩,rfl,⟨HT1.out,AG n hn⟩,?_,?_,(HK.out.iW My (by omega)).iW Km (ag _)⟩
 ·rw [wV]
  refine fA (f:=fun x:ByteArray × UInt8 × Int=>iB.mk x.1 x.2.2) (x:=(s1,_,(n:Int))) (ic ?_ (ic (mr _) ?_))
  ·rw [<- ES1.out];exact rv st
  ·rw [qz, <- EN.out]
   exact fA (f:=fun n:Nat=>(n:Int)) (iF _)
 ·rw [wV,fo,gM,gM,qz,fo]
  exact(HH.out.keeps My (by omega) (fun i hi=>by omega)).keeps Km (by omega) (fun i hi=>by omega)
theorem AH (w0 w:World) (R:Nat) (st:fW) (h:fi w0 w R st):Calls prog 216 (#[.pointer (some ⟨R,0,none⟩)]++#[]) w (Ey (fun x:jb=> .agg #[.bool x.isVar, .int .i64 x.init.kind, .int .i64 x.init.n]) w0 R o8 (fun x=>x.init.ok) st w):=by
 have L6:=h.lt;have Ox:=h.old.2;have HH:=V (h.alloc (.cells #[.bool false, .int .i64 0, .int .i64 0] 120));have HX:=V (eE.new w #[.bool false, .int .i64 0, .int .i64 0] 120);have HK:=V ((dS.refl (fun k=>k=R) w).alloc (.cells #[.bool false, .int .i64 0, .int .i64 0] 120));clear h;go_enter func216,ntmps216;go_wp2_with fail;refine(uu w0 _ R st HH.out).mono ?_;rintro e w1 ⟨rfl,hh,hk⟩;have HH:=V hh;have HX:=V (HX.out.keeps hk (by omega));have HK:=V (HK.out.trans hk (fun _ h=> .inl h));clear hh hk;go_wp2_with fail;refine(iU w0 w1 R _ HH.out).mono ?_;rintro e w2 ⟨rfl,hh,hk⟩;have HH:=V hh;have HX:=V (HX.out.keeps hk (by omega));have HK:=V (HK.out.trans hk (fun _ h=> .inl h));clear hh hk;obtain⟨c,ec⟩:∃c,mK (eg gH st)=c:=⟨_,rfl⟩;rw [ec];have EC:=V ec;clear ec;go_wp2_with fail;refine(vK w0 w2 R _ HH.out).mono ?_;rintro e w3 ⟨v,rfl,Kt,hw,hh,hk⟩;have Lu:=V Kt;have HW:=V hw;clear Kt hw;have HH:=V hh;have HX:=V (HX.out.keeps hk (by omega));have HK:=V (HK.out.trans hk (fun _ h=> .inl h));clear hh hk;obtain⟨x0,x1,x2,z0,z1,z2⟩:=HX.out.F1;obtain⟨b,eb⟩:∃b,((c.toNat:Int) !=0)=b:=⟨_,rfl⟩;rw [eb];have EB:Hid ((c !=0)=b):=V (by
  rw [<- eb,dw];simp only [bne_iff_ne,ne_eq];refine not_congr ⟨fun h=>by rw [h];rfl,fun h=>dv.1 (by show c.toNat=0;omega)⟩)
 clear eb;go_wp2_with fail;have hx:=HX.out.tg (.bool b) (.int .i64 v.kind) (.int .i64 v.n);have Km:=ku w3 w.heap.size (.bool b) (.int .i64 v.kind) (.int .i64 v.n);refine aN (eu rfl _ _ rfl hx.Es) rfl ?_;refine⟨⟨b,v⟩,rfl,Lu.out,?_,?_,HK.out.iW Km (ag _)⟩
 ·rw [tM, <- EB.out, <- EC.out]
  exact fA (f:=fun x:Int × UInt8 × fb=>jb.mk (x.2.1 !=0) x.2.2) (ic (vB st) (ic (mr _) HW.out))
 ·rw [tM,fo,gM,gM]
  exact HH.out.keeps Km (by omega) (fun i hi=>by omega)
def Ho (b:Bool):iP fL:=if b=true then kS else fZ
theorem C5 (b:Bool):iD (Ho b):=by cases b <;>first | exact oQ | exact sT
theorem IV (w0 w:World) (R Rb Bb:Nat) (before:Bool) (s:fW) (h:fi w0 w R s) (hr:eE w Rb #[.pointer (some ⟨R,0,none⟩)] 188) (hb:eE w Bb #[.bool before] 4) (n1:R < Rb) (n2:R < Bb):
  Calls prog 273 (#[]++#[.pointer (some ⟨Bb,0,none⟩), .pointer (some ⟨Rb,0,none⟩)]) w (Ey (fun x:fL=> .agg #[.bool x.has, .int .i64 x.min, .int .i64 x.max]) w0 R (Ho before) fL.ok s w):=by
 have L6:=h.lt;have Ox:=h.old.2;have l1:=hr.lt;have l2:=hb.lt;have HH:=V (h.alloc (.cells #[.bool false, .int .i64 0, .int .i64 0] 55));have HX:=V (eE.new w #[.bool false, .int .i64 0, .int .i64 0] 55);have HK:=V ((dS.refl (fun k=>k=R) w).alloc (.cells #[.bool false, .int .i64 0, .int .i64 0] 55));have HA:=V (hr.alloc (.cells #[.bool false, .int .i64 0, .int .i64 0] 55));have HC:=V (hb.alloc (.cells #[.bool false, .int .i64 0, .int .i64 0] 55));have a0:=HA.out.cell 0;have c0:=HC.out.cell 0;simp only [aG,aF]at a0 c0;clear h hr hb;cases before with
 | true=>
  go_enter func273,ntmps273;go_wp2_with fail;refine(iU w0 _ R s HH.out).mono ?_;rintro e w1 ⟨rfl,hh,hk⟩;have HH:=V hh;have HX:=V (HX.out.keeps hk (by omega));have HA:=V (HA.out.keeps hk (by omega));have HC:=V (HC.out.keeps hk (by omega));have HK:=V (HK.out.trans hk (fun _ h=> .inl h));clear hh hk;clear a0 c0;have a0:=HA.out.cell 0;simp only [aG,aF]at a0;go_wp2_with fail;refine(uA w0 w1 R _ HH.out).mono ?_;rintro e w2 ⟨x,rfl,Kt,hw,hh,hk⟩;have Lu:=V Kt;have HW:=V hw;clear Kt hw;have HH:=V hh;have HX:=V (HX.out.keeps hk (by omega));have HA:=V (HA.out.keeps hk (by omega));have HC:=V (HC.out.keeps hk (by omega));have HK:=V (HK.out.trans hk (fun _ h=> .inl h));clear hh hk;clear a0;obtain⟨x0,x1,x2,z0,z1,z2⟩:=HX.out.F1;go_wp2_with fail;have hx:=HX.out.tg (.bool x.has) (.int .i64 x.min) (.int .i64 x.max);have Km:=ku w2 w.heap.size (.bool x.has) (.int .i64 x.min) (.int .i64 x.max);refine aN (eu rfl _ _ rfl hx.pw) rfl ?_;refine⟨x,rfl,Lu.out,?_,?_,HK.out.iW Km (ag _)⟩
  ·show gU kS s x
   rw [rN];exact fA (f:=fun x:UInt8 × fL=>x.2) (ic (mr s) HW.out)
  ·show fi w0 _ R (eg kS s)
   rw [rN,fo,gM];exact HH.out.keeps Km (by omega) (fun i hi=>by omega)
 | false=>
  go_enter func273,ntmps273;go_wp2_with fail;refine(uA w0 _ R _ HH.out).mono ?_;rintro e w2 ⟨x,rfl,Kt,hw,hh,hk⟩;have Lu:=V Kt;have HW:=V hw;clear Kt hw;have HH:=V hh;have HX:=V (HX.out.keeps hk (by omega));have HA:=V (HA.out.keeps hk (by omega));have HC:=V (HC.out.keeps hk (by omega));have HK:=V (HK.out.trans hk (fun _ h=> .inl h));clear hh hk;clear a0 c0;obtain⟨x0,x1,x2,z0,z1,z2⟩:=HX.out.F1;go_wp2_with fail;have hx:=HX.out.tg (.bool x.has) (.int .i64 x.min) (.int .i64 x.max);have Km:=ku w2 w.heap.size (.bool x.has) (.int .i64 x.min) (.int .i64 x.max);refine aN (eu rfl _ _ rfl hx.pw) rfl ?_;exact⟨x,rfl,Lu.out,HW.out,HH.out.keeps Km (by omega) (fun i hi=>by omega),HK.out.iW Km (ag _)⟩
def G6 (w0 w:World) (R:Nat) (st:fW) (get:iP fL) (e:Ending) (w':World):Prop:=
 ∃x:fL,e= .returned (.agg #[.bool x.has, .int .i64 x.min, .int .i64 x.max])/\x.ok/\gU (gO jM (fh get)) st x/\fi w0 w' R (eg (fh get) st)/\dS (fun k=>k=R) w w'
theorem nH:fL.ok ⟨false,0,0⟩:=⟨xJ,xJ⟩
theorem sm (w0 w:World) (R:Nat) (before:Bool) (st:fW) (h:fi w0 w R st):Calls prog 214 #[.pointer (some ⟨R,0,none⟩), .bool before] w (G6 w0 w R st (Ho before)):=by
 have L6:=h.lt;have Ox:=h.old.2;have HH:=V (((h.alloc (.cells #[.pointer (some ⟨R,0,none⟩)] 188)).alloc (.cells #[.bool before] 4)).alloc (.cells #[.bool false, .int .i64 0, .int .i64 0] 55));have HA:=V (((eE.new w #[.pointer (some ⟨R,0,none⟩)] 188).alloc (.cells #[.bool before] 4)).alloc (.cells #[.bool false, .int .i64 0, .int .i64 0] 55));have HC:Hid (eE (((w.alloc (.cells #[.pointer (some ⟨R,0,none⟩)] 188)).alloc (.cells #[.bool before] 4)).alloc (.cells #[.bool false, .int .i64 0, .int .i64 0] 55)) (w.heap.size+1) #[.bool before] 4):=V (by
  have:=(eE.new (w.alloc (.cells #[.pointer (some ⟨R,0,none⟩)] 188)) #[.bool before] 4).alloc (.cells #[.bool false, .int .i64 0, .int .i64 0] 55);rw [aE]at this;exact this)
 have HX:Hid (eE (((w.alloc (.cells #[.pointer (some ⟨R,0,none⟩)] 188)).alloc (.cells #[.bool before] 4)).alloc (.cells #[.bool false, .int .i64 0, .int .i64 0] 55)) (w.heap.size+1+1) #[.bool false, .int .i64 0, .int .i64 0] 55):=V (by
  have:=eE.new ((w.alloc (.cells #[.pointer (some ⟨R,0,none⟩)] 188)).alloc (.cells #[.bool before] 4)) #[.bool false, .int .i64 0, .int .i64 0] 55;rw [aE,aE]at this;exact this)
 have HK:=V ((((dS.refl (fun k=>k=R) w).alloc (.cells #[.pointer (some ⟨R,0,none⟩)] 188)).alloc (.cells #[.bool before] 4)).alloc (.cells #[.bool false, .int .i64 0, .int .i64 0] 55));clear h;go_enter func214,ntmps214;go_wp2_with fail;generalize((w.alloc (.cells #[.pointer (some ⟨R,0,none⟩)] 188)).alloc (.cells #[.bool before] 4)).alloc (.cells #[.bool false, .int .i64 0, .int .i64 0] 55)=wa at HH HA HC HX HK⊢;have hz:=HX.out.lt;refine(GL w0 R (Ho before) fL.ok (C5 before) _ wa 273 #[] #[.pointer (some ⟨w.heap.size+1,0,none⟩), .pointer (some ⟨w.heap.size,0,none⟩)] (fun _ _=>by rfl) HH.out (fun s w1 h hk=>IV w0 w1 R w.heap.size (w.heap.size+1) before s h (HA.out.keeps hk (by omega)) (HC.out.keeps hk (by omega)) (by omega) (by omega))).mono ?_;rintro e w1 ⟨v,l,rfl,ho,hp,hl,hw,hh,hk⟩;have HP:=V hp;have HW:=V hw;have HI:=V (ho.fD yx);clear hw hp;have HH:=V hh;have HX:=V (HX.out.keeps hk (by omega));have HA:=V (HA.out.keeps hk (by omega));have HC:=V (HC.out.keeps hk (by omega));have HK:=V (HK.out.trans hk (fun _ h=> .inl h));clear hh hk;obtain⟨a,cap,rfl,Me,La⟩:=eT HI.out;clear ho;obtain⟨x0,x1,x2,z0,z1,z2⟩:=HX.out.F1;cases l with
 | nil=>
  have f1:((([]:List fL).length:Int)==0)=true:=rfl;go_wp2_with fail;have hx:=HX.out.tg (.bool false) (.int .i64 0) (.int .i64 0);have Km:=ku w1 (w.heap.size+1+1) (.bool false) (.int .i64 0) (.int .i64 0);refine aN (eu rfl _ _ rfl hx.pw) rfl ?_;exact⟨⟨false,0,0⟩,rfl,nH,fA (f:=jM) HW.out,HH.out.keeps Km (by omega) (fun i hi=>by omega),HK.out.iW Km (by omega)⟩
 | cons x l=>
  obtain⟨L,hL⟩:∃L,L=x::l:=⟨_,rfl⟩;obtain⟨_,_,hv,_,_,Kh⟩:=HI.out;injection hv with e1 e2 e3;subst e1;obtain⟨bb,off,rfl,Kq,KH⟩:=Kh 0 x rfl;have g0:=KH 0 _ rfl;have g1:=KH 1 _ rfl;have g2:=KH 2 _ rfl;rw [Nat.zero_mul,aK]at g0;rw [Nat.zero_mul,aK]at g1 g2;rw [<- hL]at HI HP HW Me⊢;have O0:0 < L.length:=by rw [hL];simp
  have f1:((L.length:Int)==0)=false:=dQ (by omega);have f2:(0:Int) < (L.length:Int):=by omega
  have HF:=V (show jM L=x by rw [hL];rfl);have O3:=V (show x.ok from HP.out x (by rw [hL];simp));clear Kh e2 e3 KH hL;go_wp2_with fail;have hx:=HX.out.tg (.bool x.has) (.int .i64 x.min) (.int .i64 x.max);have Km:=ku w1 (w.heap.size+1+1) (.bool x.has) (.int .i64 x.min) (.int .i64 x.max);refine aN (eu rfl _ _ rfl hx.pw) rfl ?_;exact⟨x,rfl,O3.out,by rw [<- HF.out];exact fA (f:=jM) HW.out,HH.out.keeps Km (by omega) (fun i hi=>by omega),HK.out.iW Km (by omega)⟩
theorem Jw (w0 w:World) (R Rb:Nat) (s:fW) (h:fi w0 w R s) (hr:eE w Rb #[.pointer (some ⟨R,0,none⟩)] 188) (n1:R < Rb):
  Calls prog 225 (#[]++#[.pointer (some ⟨Rb,0,none⟩)]) w (Hw (fun(x:gl) (u:Value)=> .agg #[.int .i64 x.off,u]) gm w0 R uD (fun _=>True) s w):=by
 have L6:=h.lt;have Ox:=h.old.2;have l1:=hr.lt;have HH:=V ((h.alloc (.cells #[.int .i64 0, .slice none 0 0] 99)).drew);have HX:=V ((eE.new w #[.int .i64 0, .slice none 0 0] 99).drew);have HK:=V (((dS.refl (fun k=>k=R) w).alloc (.cells #[.int .i64 0, .slice none 0 0] 99)).drew);have HA:=V ((hr.alloc (.cells #[.int .i64 0, .slice none 0 0] 99)).drew);have a0:=HA.out.cell 0;simp only [aG,aF]at a0;clear h hr;go_enter func225,ntmps225;go_wp2_with fail;refine ed (fun w'=>w'.cell? ⟨Rb,0,none⟩=some (.pointer (some ⟨R,0,none⟩))) [(0,true),(2,true),(1,false),(3,false),(4,true),(5,false)] (by kernel_rfl) (by kernel_rfl) a0 ?_;clear a0;generalize(w.alloc (.cells #[.int .i64 0, .slice none 0 0] 99)).drew=wa at HH HX HK HA⊢;have hz:=HX.out.lt;iterate 2 (first | (apply sk rfl rfl;simp only [pt]) | (apply dT rfl rfl rfl;·(rintro w' t0;go_wp2;exact⟨rfl,rfl,rfl⟩)))
 refine dZ rfl rfl ?_;go_wp2_with fail;refine(rE w0 wa R s HH.out).mono ?_;rintro e w1 ⟨n,rfl,hn,hw,hh,hk⟩;have HN:=V hn;have HW:=V hw;have LG:=hk.size;clear hn hw;have HH:=V hh;have HX:=V (HX.out.keeps hk (by omega));have HA:=V (HA.out.keeps hk (by omega));have HK:=V (HK.out.trans hk (fun _ h=> .inl h));clear hh hk;go_wp2_with fail;refine⟨HA.out.cell 0,?_⟩;refine dZ rfl rfl ?_;go_wp2_with fail;refine(BU w0 w1 R _ HH.out).mono ?_;rintro e w2 ⟨v,rfl,ho,hh,hk⟩;have HO:=V ho;obtain⟨a,cap,rfl,-,-,-⟩:=ho.fm;clear ho;have HH:=V hh;have HX:=V (HX.out.keeps hk (by omega));have HA:=V (HA.out.keeps hk (by omega));have HK:=V (HK.out.trans hk (fun _ h=> .inl h));clear hh hk;go_wp2_with fail;refine⟨HA.out.cell 0,?_⟩;iterate 1 (first | (apply sk rfl rfl;simp only [pt]) | (apply dT rfl rfl rfl;·(rintro w' t0;go_wp2;exact⟨rfl,rfl,rfl⟩)))
 refine dZ rfl rfl ?_;obtain⟨x0,x1,z0,z1⟩:=HX.out.two;go_wp2_with fail;have hx:=HX.out.mX (.int .i64 n) (.slice a (nO (eg ji s)).length cap);have Km:=fC w2 w.heap.size (.int .i64 n) (.slice a (nO (eg ji s)).length cap);refine⟨(HA.out.keeps Km (by omega)).cell 0,?_⟩;refine eH ?_;refine aD ?_;go_wp2_with fail;refine aN (eu rfl _ _ rfl hx.D5) rfl ?_;have o1:=dU.base (dU.keeps HO.out Km (fun i hi h=>by have:=(eo HO.out hi).1;omega)) (show w.heap.size <=w1.heap.size by omega);refine⟨⟨n,nO (eg ji s)⟩, .slice a (nO (eg ji s)).length cap,rfl,⟨xA o1,HN.out⟩,trivial,?_,?_,HK.out.iW Km (ag _)⟩
 ·rw [wY]
  exact fA (f:=fun x:Int × List UInt8=>gl.mk x.1 x.2) (ic HW.out (zQ _))
 ·rw [wY,fo,gM]
  exact HH.out.keeps Km (by omega) (fun i hi=>by omega)
theorem Il (w0 w:World) (R Rb:Nat) (s:fW) (h:fi w0 w R s) (hr:eE w Rb #[.pointer (some ⟨R,0,none⟩)] 188) (n1:R < Rb):
  Calls prog 220 (#[]++#[.pointer (some ⟨Rb,0,none⟩)]) w (Hw (fun(x:iO) (u:Value)=> .agg #[.int .i64 x.off,u]) gS w0 R oU (fun _=>True) s w):=by
 have L6:=h.lt;have Ox:=h.old.2;have l1:=hr.lt;have HH:=V ((h.alloc (.cells #[.int .i64 0, .slice none 0 0] 95)).drew);have HX:=V ((eE.new w #[.int .i64 0, .slice none 0 0] 95).drew);have HK:=V (((dS.refl (fun k=>k=R) w).alloc (.cells #[.int .i64 0, .slice none 0 0] 95)).drew);have HA:=V ((hr.alloc (.cells #[.int .i64 0, .slice none 0 0] 95)).drew);have a0:=HA.out.cell 0;simp only [aG,aF]at a0;clear h hr;go_enter func220,ntmps220;go_wp2_with fail;refine lC (fun w'=>w'.cell? ⟨Rb,0,none⟩=some (.pointer (some ⟨R,0,none⟩))) (ord [(0,true),(2,true),(3,true)] (.fork 1 4 (ord [(4,false),(5,false),(6,true),(7,false)] .nil) (ord [(1,false),(5,false),(6,true),(7,false)] .nil))) (by kernel_rfl) (by kernel_rfl) a0 ?_;dsimp only [ord];clear a0;generalize(w.alloc (.cells #[.int .i64 0, .slice none 0 0] 95)).drew=wa at HH HX HK HA⊢;have hz:=HX.out.lt;iterate 3 (first | (apply ord_skip rfl rfl;simp only [Act.put,aZ,bE,bH]) | (apply iw rfl rfl rfl;·(rintro w' t0;go_wp2;exact⟨rfl,rfl,rfl⟩)))
 refine pg rfl rfl rfl rfl ?_ ?_
 ·go_wp2_with fail
  refine(rE w0 wa R s HH.out).mono ?_;rintro e w1 ⟨n,rfl,hn,hw,hh,hk⟩;have HN:=V hn;have HW:=V hw;have LG:=hk.size;clear hn hw;have HH:=V hh;have HX:=V (HX.out.keeps hk (by omega));have HA:=V (HA.out.keeps hk (by omega));have HK:=V (HK.out.trans hk (fun _ h=> .inl h));clear hh hk;go_wp2_with fail;refine⟨HA.out.cell 0,?_⟩;refine fH rfl rfl ?_;go_wp2_with fail;refine⟨HA.out.cell 0,?_⟩;refine fH rfl rfl ?_;go_wp2_with fail;refine(nP w0 R uN iQ oq _ w1 110 #[.pointer (some ⟨R,0,none⟩)] #[] (fun _ _=>by rfl) HH.out (fun s w1 h _=>Ep w0 w1 R s h)).mono ?_;rintro e w2 ⟨v,l,rfl,ho,hp,hl,ME,hh,hk⟩;obtain⟨a,cap,rfl,-,-⟩:=ho.slice;have HO:=V ho;have HP:=V hp;have KA:=V ME;clear ho hp ME;have HH:=V hh;have HX:=V (HX.out.keeps hk (by omega));have HA:=V (HA.out.keeps hk (by omega));have HK:=V (HK.out.trans hk (fun _ h=> .inl h));clear hh hk;go_wp2_with fail;refine⟨HA.out.cell 0,?_⟩;iterate 1 (first | (apply ord_skip rfl rfl;simp only [Act.put,aZ,bE,bH]) | (apply iw rfl rfl rfl;·(rintro w' t0;go_wp2;exact⟨rfl,rfl,rfl⟩)))
  refine fH rfl rfl ?_;obtain⟨x0,x1,z0,z1⟩:=HX.out.two;go_wp2_with fail;have hx:=HX.out.mX (.int .i64 n) (.slice a l.length cap);have Km:=fC w2 w.heap.size (.int .i64 n) (.slice a l.length cap);refine⟨(HA.out.keeps Km (by omega)).cell 0,?_⟩;refine lX ?_;refine aD ?_;go_wp2_with fail;refine aN (eu rfl _ _ rfl hx.yF) rfl ?_;have o1:=(HO.out.stay Km (fun i hi=>by omega)).lower (show w.heap.size <=w1.heap.size by omega);refine⟨⟨n,l⟩, .slice a l.length cap,rfl,⟨jh fp o1,HN.out,HP.out⟩,trivial,?_,?_,HK.out.iW Km (ag _)⟩
  ·rw [pf]
   exact fA (f:=fun x:Int × List Int=>iO.mk x.1 x.2) (ic HW.out KA.out)
  ·rw [pf,fo,gM]
   exact HH.out.keeps Km (by omega) (fun i hi=>by omega)
 ·go_wp2_with fail
  refine⟨HA.out.cell 0,?_⟩;refine fH rfl rfl ?_;go_wp2_with fail;refine(rE w0 wa R s HH.out).mono ?_;rintro e w1 ⟨n,rfl,hn,hw,hh,hk⟩;have HN:=V hn;have HW:=V hw;have LG:=hk.size;clear hn hw;have HH:=V hh;have HX:=V (HX.out.keeps hk (by omega));have HA:=V (HA.out.keeps hk (by omega));have HK:=V (HK.out.trans hk (fun _ h=> .inl h));clear hh hk;go_wp2_with fail;refine⟨HA.out.cell 0,?_⟩;refine fH rfl rfl ?_;go_wp2_with fail;refine(nP w0 R uN iQ oq _ w1 110 #[.pointer (some ⟨R,0,none⟩)] #[] (fun _ _=>by rfl) HH.out (fun s w1 h _=>Ep w0 w1 R s h)).mono ?_;rintro e w2 ⟨v,l,rfl,ho,hp,hl,ME,hh,hk⟩;obtain⟨a,cap,rfl,-,-⟩:=ho.slice;have HO:=V ho;have HP:=V hp;have KA:=V ME;clear ho hp ME;have HH:=V hh;have HX:=V (HX.out.keeps hk (by omega));have HA:=V (HA.out.keeps hk (by omega));have HK:=V (HK.out.trans hk (fun _ h=> .inl h));clear hh hk;go_wp2_with fail;refine⟨HA.out.cell 0,?_⟩;iterate 1 (first | (apply ord_skip rfl rfl;simp only [Act.put,aZ,bE,bH]) | (apply iw rfl rfl rfl;·(rintro w' t0;go_wp2;exact⟨rfl,rfl,rfl⟩)))
  refine fH rfl rfl ?_;obtain⟨x0,x1,z0,z1⟩:=HX.out.two;go_wp2_with fail;have hx:=HX.out.mX (.int .i64 n) (.slice a l.length cap);have Km:=fC w2 w.heap.size (.int .i64 n) (.slice a l.length cap);refine⟨(HA.out.keeps Km (by omega)).cell 0,?_⟩;refine lX ?_;refine aD ?_;go_wp2_with fail;refine aN (eu rfl _ _ rfl hx.yF) rfl ?_;have o1:=(HO.out.stay Km (fun i hi=>by omega)).lower (show w.heap.size <=w1.heap.size by omega);refine⟨⟨n,l⟩, .slice a l.length cap,rfl,⟨jh fp o1,HN.out,HP.out⟩,trivial,?_,?_,HK.out.iW Km (ag _)⟩
  ·rw [pf]
   exact fA (f:=fun x:Int × List Int=>iO.mk x.1 x.2) (ic HW.out KA.out)
  ·rw [pf,fo,gM]
   exact HH.out.keeps Km (by omega) (fun i hi=>by omega)
theorem Fq (a:Nat) (ha:a < 18446744073709551616):bits .and .u64 (a:Int) 4294967295=((a %4294967296:Nat):Int):=by
 have h:=bits_and_u64_nat a 4294967295 ha (by omega);have e:a&&&4294967295=a %4294967296:=Nat.and_two_pow_sub_one_eq_mod a 32;rw [e]at h;exact h
theorem J1 (a:Nat):(a:Int)/4294967296=((a/4294967296:Nat):Int):=by omega
theorem JM (a b:Nat):(a:Int)*(b:Int)=((a*b:Nat):Int):=(Int.natCast_mul a b).symm
theorem JS (a b:Nat):(a:Int)+(b:Int)=((a+b:Nat):Int):=(Int.natCast_add a b).symm
theorem sx (a:Nat) (ha:a < 18446744073709551616):IntKind.u64.wrap (a:Int)=(a:Int):=by rw [IntKind.wrap_u64];omega
theorem Jg (a:Nat):IntKind.u64.wrap (a:Int)=((a %18446744073709551616:Nat):Int):=by rw [IntKind.wrap_u64];omega
def DR (x y:Nat) (w:World) (e:Ending) (w':World):Prop:=e= .returned (.tuple #[.int .u64 ((x*y/18446744073709551616:Nat):Int), .int .u64 ((x*y %18446744073709551616:Nat):Int)])/\w'=w
theorem CX (x y:Nat) (hx:x < 18446744073709551616) (hy:y < 18446744073709551616) (w:World):Calls prog 228 #[.int .u64 x, .int .u64 y] w (DR x y w):=by
 obtain⟨bd,bt,bw,hhi⟩:=Lib.mul64_hi x y hx hy;have ba:=Lib.half_mul_le (a:=x/4294967296) (b:=y/4294967296) (by omega) (by omega);have bb:=Lib.half_mul_le (a:=x/4294967296) (b:=y %4294967296) (by omega) (by omega);have bc:=Lib.half_mul_le (a:=x %4294967296) (b:=y/4294967296) (by omega) (by omega);have ba':x/4294967296*(y/4294967296) < 18446744073709551616:=by omega
 have bb':x/4294967296*(y %4294967296) < 18446744073709551616:=by omega
 have bc':x %4294967296*(y/4294967296) < 18446744073709551616:=by omega
 have bh1:x/4294967296*(y/4294967296)+(x/4294967296*(y %4294967296)+x %4294967296*(y %4294967296)/4294967296)/4294967296 < 18446744073709551616:=by omega
 have bh:x/4294967296*(y/4294967296)+(x/4294967296*(y %4294967296)+x %4294967296*(y %4294967296)/4294967296)/4294967296+((x/4294967296*(y %4294967296)+x %4294967296*(y %4294967296)/4294967296) %4294967296+x %4294967296*(y/4294967296))/4294967296 < 18446744073709551616:=by omega
 go_enter func228,ntmps228;go_wp2;simp only [Fq x hx,Fq y hy,J1,JM,JS,sx _ bd,sx _ bb',sx _ bt,Fq _ bt,sx _ bc',sx _ bw,sx _ ba',sx _ bh1,sx _ bh,Jg (x*y)];rw [hhi]
 go_ret2
 exact⟨rfl,rfl⟩
theorem GH (x y:Nat) (hx:x < 18446744073709551616) (hy:y < 18446744073709551616) (w:World):Calls prog 113 #[.int .u64 x, .int .u64 y] w (DR x y w):=by
 go_enter func113,ntmps113;go_wp2_with fail;refine(CX x y hx hy w).mono ?_;rintro e w' ⟨rfl,rfl⟩;go_wp2_with fail
 go_ret2
 exact⟨rfl,rfl⟩
theorem nt (a:Option Addr) (len cap k:Nat) (h:k <=cap) (wx:World):
  (Instr.slice 25 (.slice a len cap) none (some (.int .i64 k)) none).run prog wx= .ok (.slice a k cap) wx:=by
 have hu:prog.underlying 25=some (.slice 3):=by kernel_rfl
 obtain⟨i0,hi,MY,LG,Mm⟩:=cd jH;simp [Instr.slice,bo hu,Instr.sliceBounds,Instr.sliceBound,sizeOf,typeInfo,hi,asIntOf,h];cases a <;>simp [Addr.add]
theorem kg (g len cap k:Nat) (h:k < len) (h2:len <=cap) (wx:World):
  (Instr.slice 25 (.slice (some ⟨g,0,none⟩) len cap) (some (.int .i64 k)) none none).run prog wx= .ok (.slice (some ⟨g,k,none⟩) (len - k) (cap - k)) wx:=by
 have hu:prog.underlying 25=some (.slice 3):=by kernel_rfl
 obtain⟨i0,hi,MY,LG,Mm⟩:=cd jH;have h3:k <=cap:=by omega
 have h4:¬ cap=k:=by omega
 have h5:k <=len:=by omega
 have h6:¬ k=cap:=by omega
 simp [Instr.slice,bo hu,Instr.sliceBounds,Instr.sliceBound,sizeOf,typeInfo,hi,LG,asIntOf,h4,h5,Addr.add];intro h0;exact h0.symm
theorem CP (K:Nat) (hK:K <=2000) (w:World):(Instr.makeSlice 25 (.int .i64 (K:Int)) (.int .i64 (K:Int))).run prog w=
  .ok (.slice (some ⟨w.heap.size,0,none⟩) K K) (w.alloc (.cells (List.replicate K (.int .i64 0)).toArray 3)):=by
 obtain⟨i,hi,MY,LG,Mm⟩:=cd jH;have h:=run_make (P:=prog) w 25 3 i _ (by kernel_rfl) hi MY .i64 .i64 (K:Int) (K:Int) (by omega) (Int.le_refl _) (by rw [Mm];omega) (by omega);rw [LG,cI,bj]at h;have e:madeCells (Value.cells (.int .i64 0)) K=(List.replicate K (.int .i64 0)).toArray:=by
  apply Array.ext
  ·simp [madeCells]
  ·intro i h1 h2
   have:i %1=0:=Nat.mod_one i;simp [madeCells,Value.cells,this]
 rw [e]at h;exact h
def ko (k:Int) (n m:Nat):List Value:=List.replicate m (.int .i64 k)++List.replicate (n - m) (.int .i64 0)
theorem pS (k:Int) (n m c:Nat) (hc:m+c <=n):splice (ko k n m) m (List.replicate c (.int .i64 k))=ko k n (m+c):=by
 unfold splice ko;rw [List.take_append_of_le_length (by simp),dd (by simp),bu,List.drop_append,List.drop_of_length_le (by simp),bM,bu,List.drop_replicate, <- aP,List.replicate_append_replicate]
 congr 2
 omega
theorem tQ (k:Int) (n m:Nat) (hm:m <=n):(ko k n m).length=n:=by simp [ko];omega
def JZ (k:Int) (n g:Nat) (w w':World) (m:Nat):Prop:=m <=n/\(m=0 ->n=0)/\w'.heap[g]?=some (.cells (ko k n m).toArray 3)/\Below w.heap.size w w'
def Iw (k:Int) (n:Nat) (w:World) (e:Ending) (w':World):Prop:=∃g,e= .returned (.slice (some ⟨g,0,none⟩) n n)/\dR 3 1 eZ w' w.heap.size (.slice (some ⟨g,0,none⟩) n n) (List.replicate n k)/\Below w.heap.size w w'
theorem BI (k:Int) (c:Nat):∀v∈List.replicate c (Value.int .i64 k),v.oneCell'=true:=by
 intro v hv;obtain⟨_,rfl⟩:=dL.1 hv;rfl
theorem FB (k:Int) (n:Nat):(List.replicate n k).flatMap eZ=List.replicate n (Value.int .i64 k):=by
 induction n with
 | zero=>rfl
 | succ n ih=>rw [List.replicate_succ,bR,ih,List.replicate_succ];rfl
theorem qj (a:Option Addr) (cap:Nat) (k:Int) (n:Nat) (hn:n <=1000) (w:World) (hl:ee 1 eZ w (.slice a 1 cap) [k]):Calls prog 70 #[.slice a 1 cap, .int .i64 n] w (Iw k n w):=by
 obtain⟨_,_,hv,Me,La,Kh⟩:=hl;obtain⟨b,off,rfl,Kq,hc⟩:∃b off,a=some ⟨b,off,none⟩/\b < w.heap.size/\w.cell? ⟨b,off,none⟩=some (.int .i64 k):=by
  injection hv with e1 e2 e3;subst e1;obtain⟨b,off,ha,Kq,hc⟩:=Kh 0 k rfl;exact⟨b,off,ha,Kq,by have:=hc 0 _ rfl;simpa using this⟩
 have hmk:=fun w=>CP n (by omega) w;have hmul1:(1*n/18446744073709551616:Nat)=0:=by omega
 have hmul2:(1*n %18446744073709551616:Nat)=n:=by omega
 have HLT:=V Kq;have HC:=V hc;clear hv Me La Kh hc;go_enter func70,ntmps70;go_wp2_with fail;refine(GH 1 n (by omega) (by omega) w).mono ?_;rintro e w1 ⟨rfl,rfl⟩;rw [hmul1,hmul2];clear hmul1 hmul2;obtain⟨g,hg⟩:∃g,g=w1.heap.size:=⟨_,rfl⟩;have HG1:=V (dt hg);have HG2:=V (dt hg.symm);go_wp2_with (first | (refine wpList_copy_splice rfl (.tmp 31) (.tmp 32) 25 25 rfl 3 (by kernel_rfl) (by kernel_rfl) (some ⟨w1.heap.size,0,none⟩) (some ⟨b,off,none⟩) n n 1 cap rfl rfl w1.heap.size 0 (ko k n 0) 3 (by rw [show ko k n 0=List.replicate n (.int .i64 0)by simp [ko]];exact eE.new w1 _ _) (List.replicate (min 1 n) (.int .i64 k)) (by simp) ?_ (by rw [tQ _ _ _ (by omega)];simp;omega) (BI _ _) w1.heap.size w1 ((an _ _).alloc (ag _) _) (ag _) ?_))
 ·intro _ j v hv
  have hj:=(aL.1 hv).1;have Ls:=aO hv;obtain⟨_,rfl⟩:=dL.1 Ls;simp only [bu]at hj;obtain rfl:j=0:=by omega
  exact HC.out
 intro w2 LD hb;rw [<- hg]at LD;have Qa:=V (show w2.heap[g]?=some (.cells (ko k n (min 1 n)).toArray 3)by
  have h1:=LD.out;rw [pS k n 0 (min 1 n) (by omega)]at h1;simpa using h1)
 have HB:=V hb;have hgg:(some ⟨w1.heap.size,0,none⟩:Option Addr)=some ⟨g,0,none⟩:=by rw [hg]
 rw [hgg];clear LD hb hmk hgg hg;go_wp2_with fail;refine ez (fun a' w'=>∃(m:Nat),a'=fr (gs a' 0 7 (.slice (some ⟨g,0,none⟩) n n:: .int .i64 m::gs a' 9 39 []))/\JZ k n g w1 w' m) (fun a' _=>(n - (intOf (a'.tmps.getD 8 undef)).toNat)) ?_ ?_
 ·exact⟨min 1 n,rfl,by omega,by omega,Qa.out,HB.out⟩
 ·skip
  rintro R a' w1 ⟨m,Kk,hJ⟩ HR;dsimp only [fr,gs]at Kk;generalize slot a'=f at Kk;subst Kk;obtain⟨hm,hz,LD,hb⟩:=hJ;have Qa:=V LD;have HB:=V hb;have HZ:=V hz;by_cases q:m < n;rotate_left
  ·obtain rfl:m=n:=by omega
   clear LD hb hz;go_wp2_with fail;go_ret;refine⟨g,rfl,⟨by rw [jL fp], .inr ⟨g,m,_,by rw [bu],HG2.out,Qa.out,by simp,by simp only [maxLen];omega,by simp [ko],?_⟩⟩,HB.out⟩;rw [FB];simp [ko]
  have LV:=fun wx=>kg g n n m q (ag _) wx;have Ku:=fun wx=>nt (some ⟨g,0,none⟩) n n m (by omega) wx;obtain⟨c,hc⟩:∃c,c=min m (n - m):=⟨_,rfl⟩;have HC:=V hc;clear hb hz hc;go_wp2_with fail;refine ed (fun _=>True) (up 0 7 ((7,false)::(8,true)::(9,true)::[])) (by kernel_rfl) (by kernel_rfl) trivial ?_;iterate 7 (first | (apply sk rfl rfl;simp only [pt]) | (apply dT rfl rfl rfl;·(rintro w' t0;go_wp2;exact⟨rfl,rfl,rfl⟩)))
  refine dZ rfl rfl ?_;go_wp2_with (first | (refine wpList_copy_splice rfl (.tmp 41) (.tmp 44) 25 25 rfl 3 (by kernel_rfl) (by kernel_rfl) (some ⟨g,m,none⟩) (some ⟨g,0,none⟩) (n - m) (n - m) m n rfl rfl g m (ko k n m) 3 LD (List.replicate c (.int .i64 k)) (by rw [bu];exact HC.out) ?_ (by rw [tQ _ _ _ hm,bu,HC.out];omega) (BI _ _) g w1 (an g w1).drew (ag _) ?_))
  ·intro _ j v hv
   have hj:=(aL.1 hv).1;have Ls:=aO hv;obtain⟨_,rfl⟩:=dL.1 Ls;simp only [bu]at hj;have KH:=HC.out;have h3:=cell_of_row w1 g j _ _ _ LD;rw [h3];unfold ko;rw [aG,bD (by rw [bu];omega),List.getElem?_replicate,aJ (by omega)]
  intro w2 PA Kl;have HROW2:=V (show w2.heap[g]?=some (.cells (ko k n (m+c)).toArray 3)by
   have h1:=PA.out;rw [pS k n m c (by have:=HC.out;omega)]at h1;exact h1)
  have KR:=V (HB.out.trans (Kl.mono HG2.out));clear LD PA Kl;have hcn:c <=n:=by have:=HC.out;omega
  have Me:1 <=c:=by have:=HC.out;have:=HZ.out;omega
  go_wp2_with fail;refine⟨trivial,?_⟩;iterate 2 (first | (apply sk rfl rfl;simp only [pt]) | (apply dT rfl rfl rfl;·(rintro w' t0;go_wp2;exact⟨rfl,rfl,rfl⟩)))
  refine eH ?_;refine aD ?_;go_wp2_with fail;refine HR.out _ _ ⟨m+c,?_,by have:=HC.out;omega,by omega,HROW2.out,KR.out⟩ ?_
  ·rfl
  ·simp [intOf]
   omega
theorem fi.fail {w0 w:World} {R:Nat} {st:fW} (h:fi w0 w R st):fi w0 (w.setCell ⟨R,1,none⟩ (.bool true)) R none:=by
 obtain⟨a,l,cap,bad,h1,h2,h3,h4,h5,h6⟩:=h;exact⟨a,l,cap,true,by simpa using h1.set 1 (.bool true),h2,h3,rfl,h5.setCell h6 _,h6⟩
theorem fi.free {w0 w:World} {R:Nat} {st:fW} (h:fi w0 w R st) (i:Nat):w.frozen? ⟨R,i,none⟩=false:=by
 obtain⟨a,l,cap,bad,h1,_⟩:=h;exact h1.free i
theorem fi.some {w0 w:World} {R:Nat} {l:List UInt8} (h:fi w0 w R (some l)):∃a cap,w.cell? ⟨R,0,none⟩=some (.slice a l.length cap)/\eI w (.slice a l.length cap) l/\l.length <=8000:=by
 obtain⟨a,l',cap,bad,h1,h2,h3,h4,h5,h6⟩:=h;cases bad with
 | true=>cases h4
 | false=>
  injection h4 with h4;subst h4;exact⟨a,cap,h1.cell 0,h2.below h5,h3⟩
theorem DN {α:Type} {get:iP α} {n:Nat} {acc:List α} {st:fW} (h:eg get st=none):qP get (n+1) acc st=none:=by
 cases st with
 | none=>rfl
 | some l=>
  have hg:get l=none:=by
   cases hg:get l with
   | none=>rfl
   | some y=>simp [eg,hg]at h
  simp [qP,rU,hg]
theorem FW {α:Type} {get:iP α} {st Qw:fW} {acc:List α} {n:Nat} (h:st.bind (fh get)=qP get (n+1) acc Qw) (hb:eg get Qw=none):eg (fh get) st=none/\∀x,gU (fh get) st x:=by
 rw [DN hb]at h;refine⟨by unfold eg;rw [h];rfl,fun x y hy=>by rw [h]at hy;cases hy⟩
theorem Fe (s:fW):eg lR s=(if 32 < iC s then none else eg gH (eg fQ s))/\gU lR s (iC s,nB (eg fQ s)):=by
 cases s with
 | none=>exact⟨rfl,mq _ _⟩
 | some l=>
  cases h:fQ l with
  | none=>
   have h1:lR l=none:=by simp [lR,h]
   have h2:iC (some l)=0:=by simp [iC,h]
   have h3:eg fQ (some l)=none:=by simp [eg,h]
   rw [h2,h3,aC (by decide)];exact⟨by simp [eg,h1],fun y hy=>by simp [h1]at hy⟩
  | some y=>
   have h2:iC (some l)=y.1:=by simp [iC,h]
   have h3:eg fQ (some l)=some y.2:=by simp [eg,h]
   rw [h2,h3];cases hk:gH y.2 with
   | none=>
    have h1:lR l=none:=by simp [lR,h,hk]
    exact⟨by simp [eg,h1,hk],fun z hz=>by simp [h1]at hz⟩
   | some z=>
    by_cases q:32 < y.1
    ·have h1:lR l=none:=by simp [lR,h,hk,q]
     exact⟨by rw [aJ q];simp [eg,h1],fun z hz=>by simp [h1]at hz⟩
    ·have h1:lR l=some ((y.1,z.1),z.2):=by simp [lR,h,hk,q]
     refine⟨by rw [aC q];simp [eg,h1,hk],fun u hu=>?_⟩;simp only [aw,h1,aX]at hu;rw [<- hu];simp [nB,hk]
theorem pe (acc:List (Nat × Int)) (m:Nat) (k:Int):iN (acc++[(m,k)])=iN acc++List.replicate m k:=by simp [iN]
def IE (w0 w:World) (R:Nat) (st:fW) (e:Ending) (w':World):Prop:=
 ∃v l,e= .returned v/\dR 3 1 eZ w' w.heap.size v l/\(∀x∈l,iQ x)/\l.length <=300000/\gU jy st l/\fi w0 w' R (eg jy st)/\dS (fun k=>k=R) w w'
def JT (w0:World) (R:Nat) (st:fW) (w w':World) (v:Value) (acc:List (Nat × Int)) (n:Nat) (s:fW):Prop:=
 st.bind (fh lR)=qP lR n acc s/\dR 3 1 eZ w' w.heap.size v (iN acc)/\(∀x∈iN acc,iQ x)/\(iN acc).length <=32*acc.length/\acc.length+s.len <=8001/\fi w0 w' R s/\dS (fun k=>k=R) w w'/\n < 4294967296
theorem AF (w0 w:World) (Y:Nat) (st:fW) (h:fi w0 w Y st):Calls prog 276 #[.pointer (some ⟨Y,0,none⟩)] w (IE w0 w Y st):=by
 have HH:=V h;have hR:=h.lt;clear h;go_enter func276,ntmps276;go_wp2_with fail;refine(gZ w0 w Y st HH.out).mono ?_;rintro e w1 ⟨rfl,h1,LH⟩;have Mg:=V (jV lR st _ (iF st));have hn:=iI st;have hlen:=h1.len;obtain⟨N,eN⟩:∃N,iC st=N:=⟨_,rfl⟩;rw [eN]at hn Mg⊢;clear eN;go_wp2_with fail;refine ez (fun a' w'=>∃(v:Value) (acc:List (Nat × Int)) (n:Nat) (s:fW),a'=fr (.pointer (some ⟨Y,0,none⟩)::gs a' 1 2 (v:: .int .i64 n::gs a' 5 31 []))/\JT w0 Y st w w' v acc n s) (fun a' _=>(intOf (a'.tmps.getD 4 undef)).toNat) ?_ ?_
 ·exact⟨_,[],N,eg fQ st,rfl,Mg.out,dR.nil _ _,by simp [iN],by simp [iN],by simpa using hlen,h1,LH,hn⟩
 ·clear h1 LH hn hlen Mg HH
  rintro R a' w1 ⟨v,acc,n,s,Kk,hJ⟩ HR;dsimp only [fr,gs]at Kk;generalize slot a'=f at Kk;subst Kk;obtain⟨Ll,ho,K8,Nh,hlen,Le,hk,hn⟩:=hJ;obtain⟨av,cv,rfl,-,LC⟩:=ho.slice;have KQ:=V Le;have KN:=V Ll;have KV:=V K8;have HK:=V hk;have HO:=V ho;have MJ:=V hR;have c1:=Le.bad;have hub:(iN acc).length <=300000:=by omega
  clear Ll ho K8 Le hk;rcases aY n with LP | LP
  ·obtain⟨g1,g2⟩:=gB lR KN.out (.inl LP)
   have G1:=V g1;have G2:=V g2;subst LP;clear g1 g2 Nh hlen;go_wp2_with fail;go_ret;exact⟨_,iN acc,rfl,HO.out,KV.out,hub,by rw [kp];exact fA G2.out,by rw [kp,fo,G1.out];exact KQ.out,HK.out⟩
  have f0:decide ((0:Int) < (n:Int))=true:=az (by omega);cases s with
  | none=>
   have c1:w1.cell? ⟨Y,1,none⟩=some (.bool true):=c1;obtain⟨g1,g2⟩:=gB lR KN.out (.inr rfl);have G1:=V g1;have G2:=V g2;clear g1 g2 Nh hlen;go_wp2_with fail;go_ret;exact⟨_,iN acc,rfl,HO.out,KV.out,hub,by rw [kp];exact fA G2.out,by rw [kp,fo,G1.out];exact KQ.out,HK.out⟩
  | some lb=>
   have c1:w1.cell? ⟨Y,1,none⟩=some (.bool false):=c1;obtain⟨n',rfl⟩:∃n',n=n'+1:=⟨n - 1,by omega⟩;have Kq:=yi.len lb;have L9:=V (show acc.length+1+(eg lR (some lb)).len <=8001 by omega);have HUL:=V Nh;obtain⟨hrn,hrw⟩:=Fe (some lb);have hm:=iI (some lb);clear Kq hlen Nh;go_wp2_with fail;refine(gZ w0 w1 Y _ KQ.out).mono ?_;rintro e w2 ⟨rfl,h2,Kp⟩;have HO:=V (HO.out.stay Kp (fun i hi=>by have:=MJ.out;omega));have KQ:=V h2;have HK:=V (HK.out.trans Kp (fun _ h=> .inl h));obtain⟨m,em⟩:∃m,iC (some lb)=m:=⟨_,rfl⟩;obtain⟨kd,ek⟩:∃kd,nB (eg fQ (some lb))=kd:=⟨_,rfl⟩;have HKI:=V (show iQ kd by rw [<- ek];exact BT _);rw [em]at hrn hrw hm;rw [ek]at hrw;rw [em];have EK:=V ek;have HRN:=V hrn;have HRW:=V hrw;clear h2 Kp c1 hrn hrw em ek;go_wp2_with fail;refine(uu w0 w2 Y _ KQ.out).mono ?_;rintro e w3 ⟨rfl,h3,KS⟩;have HO:=V (HO.out.stay KS (fun i hi=>by have:=MJ.out;omega));have KQ:=V h3;have HK:=V (HK.out.trans KS (fun _ h=> .inl h));rw [EK.out];clear h3 KS;by_cases q:32 < m
   ·have f1:decide ((32:Int) < (m:Int))=true:=az (by omega)
    have f2:decide (32 < m)=true:=az q;obtain⟨g1,g2⟩:=FW KN.out (by rw [HRN.out,aJ q]);have G1:=V g1;have G2:=V g2;have c1:=KQ.out.bad;have z1:=KQ.out.free 1;clear g1 g2 q;go_wp2_with fail;go_ret;have Km:=ep w3 Y 1 (.bool true);exact⟨_,[],rfl,dR.nil _ _,by simp,by simp,by rw [kp];exact fA (f:=iN) (G2.out []),by rw [kp,fo,G1.out];exact KQ.out.fail,HK.out.trans Km (fun _ h=> .inl h)⟩
   ·have f1:decide ((32:Int) < (m:Int))=false:=aA (by omega)
    have f2:decide (32 < m)=false:=aA q;have HNX:=V (show eg lR (some lb)=eg gH (eg fQ (some lb))by rw [HRN.out,aC q]);have hm32:m <=32:=by omega
    have QG:=(an w3.heap.size w3).alloc (ag _) (.cells #[.int .i64 kd] 3);have HO:=V (HO.out.below QG);have KQ:=V (KQ.out.below QG);have HK:=V (HK.out.alloc (.cells #[.int .i64 kd] 3));have HL:=V (lu w3 kd 3);clear q QG;go_wp2_with fail;refine(qj _ 1 kd m (by omega) _ HL.out).mono ?_;rintro e w4 ⟨g,rfl,hog,Md⟩;have HO:=V (HO.out.below Md);have KQ:=V (KQ.out.below Md);have HK:=V (HK.out.trans (dS.dV (S:=fun _=>False) Md) (fun _ h=>h.elim));have HM:=V (by have h:=hog.fD fp;exact h);have HSZ:Hid (w.heap.size <=w4.heap.size):=V HK.out.size;clear hog Md;go_wp2_with (first | (at_builtin;refine kA w4 rfl _ _ 25 rfl _ 8 (by kernel_rfl) jH rfl (by decide) (by decide) w.heap.size (.slice av (iN acc).length cv) (iN acc) rfl HO.out fp (List.replicate m kd) ⟨g,0,none⟩ m m rfl HM.out (fun y _=>BG y) (by rw [bu];omega) HSZ.out ?_));intro v5 w5 ho5 NA Pu;have hlt5:∀i,ey (.slice av (iN acc).length cv) i ->w.heap.size <=i/\i < w4.heap.size:=fun i hi=>eo HO.out hi;have HRD5:=V (KQ.out.keeps NA (fun h=>by have:=(hlt5 _ h).1;have:=MJ.out;omega) (fun i hi=>by have:=(hlt5 i hi).1;have:=KQ.out.old.2;have:=MJ.out;omega));have HK5:=V (HK.out.trans NA (fun i hi=> .inr (hlt5 i hi).1));have HO5:=V ho5;clear ho5 NA Pu hlt5;go_wp2_with fail;refine HR.out _ _ ⟨_,acc++[(m,kd)],n',eg lR (some lb),rfl,by rw [KN.out,jr lR n' acc HRW.out],by rw [pe];exact HO5.out,?_,?_,?_,by rw [HNX.out];exact HRD5.out,HK5.out,by omega⟩ ?_
    ·intro x hx
     rw [pe]at hx;rcases bA.1 hx with hx | hx
     ·exact KV.out x hx
     ·rw [(dL.1 hx).2]
      exact HKI.out
    ·rw [pe,ah,ah,bu,aB]
     have:=HUL.out;omega
    ·rw [ah]
     exact L9.out
    ·simp [intOf]
theorem tX {s:fW} {l1:List Int} {l2:List eK} (h1:gU jy (eg fQ s) l1) (h2:gU kX (eg jy (eg fQ s)) l2):gU lO s ⟨l1,l2⟩:=by
 rw [tm];exact fA (f:=fun x:Nat × List Int × List eK=>gN.mk x.2.1 x.2.2) (ic (iF s) (ic h1 h2))
theorem ry (s:fW):eg lO s=eg kX (eg jy (eg fQ s)):=by rw [tm,fo,gM,gM]
theorem DF (w0 w:World) (R:Nat) (s:fW) (h:fi w0 w R s):Calls prog 223 (#[.pointer (some ⟨R,0,none⟩)]++#[]) w (Hw (fun(_:gN) (u:Value × Value)=> .agg #[u.1,u.2]) gD w0 R lO (fun _=>True) s w):=by
 have L6:=h.lt;have Ox:=h.old.2;have HH:=V (h.alloc (.cells #[.slice none 0 0, .slice none 0 0] 69));have HX:=V (eE.new w #[.slice none 0 0, .slice none 0 0] 69);have HK:=V ((dS.refl (fun k=>k=R) w).alloc (.cells #[.slice none 0 0, .slice none 0 0] 69));have Lf:(w.alloc (.cells #[.slice none 0 0, .slice none 0 0] 69)).heap.size=w.heap.size+1:=aE _ _;have LG:=dt Lf.symm;clear h Lf;go_enter func223,ntmps223;go_wp2_with fail;refine(gZ w0 _ R s HH.out).mono ?_;rintro e w1 ⟨rfl,hh,hk⟩;have LG:=aW LG hk.size;have HH:=V hh;have HX:=V (HX.out.keeps hk (by omega));have HK:=V (HK.out.trans hk (fun _ h=> .inl h));clear hh hk;go_wp2_with fail;refine(AF w0 w1 R _ HH.out).mono ?_;rintro e w2 ⟨v1,l1,rfl,Ns,hp1,P5,O9,hh,hk⟩;obtain⟨a1,c1,rfl,-,-⟩:=Ns.slice;have Mm:=hk.size;have HP1:=V hp1;have Lc:=V O9;have KK:=(an w2.heap.size w2).alloc (ag _) (.cells #[.slice a1 l1.length c1, .slice none 0 0] 69);have Mb:=V (Ns.below KK);have HV:=V (show∀i,ey (.slice a1 l1.length c1) i ->i < w2.heap.size from fun i hi=>(eo Ns hi).2);clear Ns hp1 O9;have HH:=V hh;have HX:=V (HX.out.keeps hk (by omega));have HK:=V (HK.out.trans hk (fun _ h=> .inl h));clear hh hk;have HX:=V (HX.out.below KK HX.out.lt);have HH:=V (HH.out.below KK);have HK:=V (HK.out.alloc (.cells #[.slice a1 l1.length c1, .slice none 0 0] 69));have HY:=V (eE.new w2 #[.slice a1 l1.length c1, .slice none 0 0] 69);clear KK;obtain⟨s3,es3⟩:∃s3,eg jy (eg fQ s)=s3:=⟨_,rfl⟩;rw [es3]at HH;have ES3:=V es3;clear es3;have cb:=HH.out.bad;cases s3 with
 | none=>
  have cb:(w2.alloc (.cells #[.slice a1 l1.length c1, .slice none 0 0] 69)).cell? ⟨R,1,none⟩=some (.bool true):=cb;obtain⟨y0,y1,u0,u1⟩:=HY.out.two;obtain⟨x0,x1,z0,z1⟩:=HX.out.two;go_wp2_with fail;have hx:=HX.out.mX (.slice a1 l1.length c1) (.slice none 0 0);have Km:=fC (w2.alloc (.cells #[.slice a1 l1.length c1, .slice none 0 0] 69)) w.heap.size (.slice a1 l1.length c1) (.slice none 0 0);refine aN (eu rfl _ _ rfl hx.tz) rfl ?_;have o1:=(Mb.out.stay Km (fun i hi=>by omega)).lower (show w.heap.size <=w1.heap.size by omega);refine⟨⟨l1,[]⟩,(.slice a1 l1.length c1, .slice none 0 0),rfl,⟨⟨jh fp o1,ea.nil _⟩,HP1.out⟩,trivial,tX Lc.out (by rw [ES3.out];exact mq _ _),?_,HK.out.iW Km (ag _)⟩;rw [ry,ES3.out];exact HH.out.keeps Km (by omega) (fun i hi=>by omega)
 | some L=>
  have cb:(w2.alloc (.cells #[.slice a1 l1.length c1, .slice none 0 0] 69)).cell? ⟨R,1,none⟩=some (.bool false):=cb;obtain⟨a,cap,c0,hb,hlen⟩:=HH.out.some;have LB:=V hb;obtain⟨_,_,hv,_,Mr,-⟩:=id hb;clear hb hv Mr;go_wp2_with fail;refine(yf _ L _ LB.out (by omega)).mono ?_;rintro e w3 ⟨hb,hc⟩;have Mb:=V (Mb.out.below hb);have HX:=V (HX.out.below hb HX.out.lt);have HY:=V (HY.out.below hb HY.out.lt);have HH:=V (HH.out.below hb);have HK:=V (HK.out.trans (dS.dV (S:=fun _=>False) hb) (fun _ h=>h.elim));have hz3:=hb.size;rw [aE]at hz3 hc;clear hb c0 cb;rcases hc with⟨l2,r,v,K5,rfl,hd⟩ | ⟨err,K5,he,-,rfl⟩
  ·obtain⟨av,cv,rfl,-,-⟩:=ea.slice (eM.low kT (fun _ _ _ _ he h=>h.ext he) hd)
   have HD:=V hd;obtain⟨p,hp⟩:=vR (y:=(l2,r)) K5;have hsk:ir (L.length - r.length) true (some L)=some r:=by
    have h1:L.length - r.length=p.length:=by rw [hp,ah];simp
    rw [h1,hp];simp [ir]
   have HNX:=V (show eg lO s=some r by rw [ry,ES3.out];simp [eg,K5]);have HWS:=V (show gU lO s ⟨l1,l2⟩from tX Lc.out (by
    rw [ES3.out];intro y hy;have:some (l2,r)=some y:=by rw [<- K5];exact hy
    injection this with this;rw [<- this]))
   clear hd K5 hp;go_wp2_with fail;refine(kM w0 w3 R _ (L.length - r.length) true (by omega) HH.out).mono ?_;rintro e w4 ⟨rfl,hh,hk⟩;rw [hsk]at hh;have Mb:=V (Mb.out.stay hk (fun i hi=>by omega));have HY:=V (HY.out.keeps hk (by omega));have HD:=V (eM.keeps (fun _ _ _ _ he h=>h.ext he) HD.out hk (fun i hi=> .inl (by omega)));clear hsk;have HH:=V hh;have HX:=V (HX.out.keeps hk (by omega));have HK:=V (HK.out.trans hk (fun _ h=> .inl h));clear hh hk;obtain⟨y0,y1,u0,u1⟩:=HY.out.two;obtain⟨x0,x1,z0,z1⟩:=HX.out.two;go_wp2_with fail;have My:=ep w4 w2.heap.size 1 (.slice av l2.length cv);have hx:=(HX.out.keeps My (by omega)).mX (.slice a1 l1.length c1) (.slice av l2.length cv);have Km:=fC (w4.setCell ⟨w2.heap.size,1,none⟩ (.slice av l2.length cv)) w.heap.size (.slice a1 l1.length c1) (.slice av l2.length cv);refine aN (eu rfl _ _ rfl hx.tz) rfl ?_;have Mt:dS (fun k=>k < w2.heap.size+1) w4 (((w4.setCell ⟨w2.heap.size,1,none⟩ (.slice av l2.length cv)).setCell ⟨w.heap.size,0,none⟩ (.slice a1 l1.length c1)).setCell ⟨w.heap.size,1,none⟩ (.slice av l2.length cv)):=(My.mono (fun i hi=>by omega)).trans Km (fun i hi=> .inl (by omega));have o1:=((Mb.out.keeps My (fun i hi h=>by have:=HV.out i hi;omega)).stay Km (fun i hi=>by omega)).lower (show w.heap.size <=w1.heap.size by omega);have o2:=eM.low kT (fun _ _ _ _ he h=>h.ext he) (eM.keeps (fun _ _ _ _ he h=>h.ext he) HD.out Mt (fun i hi=> .inl hi));have o3:gd (mask (kD w.heap.size) _) (.slice av l2.length cv) l2:=gd.ext o2 (uj _ (by omega));refine⟨⟨l1,l2⟩,(.slice a1 l1.length c1, .slice av l2.length cv),rfl,⟨⟨jh fp o1,o3⟩,HP1.out⟩,trivial,HWS.out,?_,(HK.out.iW My (by omega)).iW Km (ag _)⟩;rw [HNX.out];exact(HH.out.keeps My (by omega) (fun i hi=>by omega)).keeps Km (by omega) (fun i hi=>by omega)
  ·have f1:=dQ he
   have hsk:ir 0 false (some L)=none:=rfl;have HNX:=V (show eg lO s=none by rw [ry,ES3.out];simp [eg,K5]);have HWS:=V (show gU lO s ⟨l1,[]⟩from tX Lc.out (by
    rw [ES3.out];intro y hy;have:none=some y:=by rw [<- K5];exact hy
    cases this))
   clear K5 he;go_wp2_with fail;refine(kM w0 w3 R _ 0 false (by omega) HH.out).mono ?_;rintro e w4 ⟨rfl,hh,hk⟩;rw [hsk]at hh;have Mb:=V (Mb.out.stay hk (fun i hi=>by omega));have HY:=V (HY.out.keeps hk (by omega));clear hsk;have HH:=V hh;have HX:=V (HX.out.keeps hk (by omega));have HK:=V (HK.out.trans hk (fun _ h=> .inl h));clear hh hk;obtain⟨y0,y1,u0,u1⟩:=HY.out.two;obtain⟨x0,x1,z0,z1⟩:=HX.out.two;go_wp2_with fail;have My:=ep w4 w2.heap.size 1 (.slice none 0 0);have hx:=(HX.out.keeps My (by omega)).mX (.slice a1 l1.length c1) (.slice none 0 0);have Km:=fC (w4.setCell ⟨w2.heap.size,1,none⟩ (.slice none 0 0)) w.heap.size (.slice a1 l1.length c1) (.slice none 0 0);refine aN (eu rfl _ _ rfl hx.tz) rfl ?_;have Mt:dS (fun k=>k < w2.heap.size+1) w4 (((w4.setCell ⟨w2.heap.size,1,none⟩ (.slice none 0 0)).setCell ⟨w.heap.size,0,none⟩ (.slice a1 l1.length c1)).setCell ⟨w.heap.size,1,none⟩ (.slice none 0 0)):=(My.mono (fun i hi=>by omega)).trans Km (fun i hi=> .inl (by omega));have o1:=((Mb.out.keeps My (fun i hi h=>by have:=HV.out i hi;omega)).stay Km (fun i hi=>by omega)).lower (show w.heap.size <=w1.heap.size by omega);refine⟨⟨l1,[]⟩,(.slice a1 l1.length c1, .slice none 0 0),rfl,⟨⟨jh fp o1,ea.nil _⟩,HP1.out⟩,trivial,HWS.out,?_,(HK.out.iW My (by omega)).iW Km (ag _)⟩;rw [HNX.out];exact(HH.out.keeps My (by omega) (fun i hi=>by omega)).keeps Km (by omega) (fun i hi=>by omega)
theorem GN (w0:World) (Y:Nat) (get:iP (gy)) (P:gy ->Prop) (hG:iD get) (st:fW) (w:World) (Kj:Nat) (bs cs:Array Value)
  (hE:∀args w,(callFunc Kj args).run prog w= .ok (.enter Kj args) w) (h:fi w0 w Y st)
  (hp:∀s w1,fi w0 w1 Y s ->dS (fun k=>k=Y) w w1 ->Calls prog Kj (bs++cs) w1 (Hw (fun(_:gy) (u:Value × Value)=> .agg #[u.1,u.2]) gG w0 Y get P s w1)):
  Calls prog 209 #[.pointer (some ⟨Y,0,none⟩), .func (.func Kj) bs cs] w (JF 109 2 ru gG w0 Y get P st w):=by
 have HP:=V hp;have HH:=V h;have hR:=h.lt;have HG:=V hG;clear hp h hG;go_enter func209,ntmps209;go_wp2_with fail;refine(gZ w0 w Y st HH.out).mono ?_;rintro e w1 ⟨rfl,h1,LH⟩;have Mg:=V (jV get st _ (iF st));have hn:=iI st;have hlen:=h1.len;obtain⟨N,eN⟩:∃N,iC st=N:=⟨_,rfl⟩;rw [eN]at hn Mg⊢;clear eN;go_wp2_with fail;refine ez (fun a' w'=>∃(v:Value) (acc:List (gy)) (n:Nat) (s:fW),a'=fr (.pointer (some ⟨Y,0,none⟩):: .func (.func Kj) bs cs::gs a' 2 3 (v:: .int .i64 n::gs a' 7 19 []))/\eM 109 2 ru gG w' w.heap.size v acc/\F8 w0 Y get P st w w' acc n s) (fun a' _=>(intOf (a'.tmps.getD 6 undef)).toNat) ?_ ?_
 ·exact⟨_,[],N,eg fQ st,rfl,eM.nil _ _,Mg.out,by simp,by simpa using hlen,h1,LH,hn⟩
 ·clear h1 LH hn hlen Mg HH
  rintro R a' w1 ⟨v,acc,n,s,Kk,hJ⟩ HR;dsimp only [fr,gs]at Kk;generalize slot a'=f at Kk;subst Kk;obtain⟨ho,Ll,KG,hlen,Le,hk,hn⟩:=hJ;have KQ:=V Le;have KN:=V Ll;have KC:=V KG;have MJ:=V hR;have Lf:=hk.size;have c1:=Le.bad;have HO:=V ho;have Ln:∀i,ey v i ->¬ i=Y:=fun i hi=>by have:=(eM.lt ho hi).1;omega
  have PN:=V Ln;have HK:=V hk;clear ho Ln Ll KG Le hk;rcases aY n with LP | LP
  ·obtain⟨g1,g2⟩:=gB get KN.out (.inl LP)
   have G1:=V g1;have G2:=V g2;subst LP;clear g1 g2;go_wp2_with fail;go_ret;exact⟨_,acc,rfl,HO.out,KC.out,by omega,G2.out,by rw [G1.out];exact KQ.out,HK.out⟩
  have f0:decide ((0:Int) < (n:Int))=true:=az (by omega);cases s with
  | none=>
   have c1:w1.cell? ⟨Y,1,none⟩=some (.bool true):=c1;obtain⟨g1,g2⟩:=gB get KN.out (.inr rfl);have G1:=V g1;have G2:=V g2;clear g1 g2;go_wp2_with fail;go_ret;exact⟨_,acc,rfl,HO.out,KC.out,by omega,G2.out,by rw [G1.out];exact KQ.out,HK.out⟩
  | some lb=>
   have c1:w1.cell? ⟨Y,1,none⟩=some (.bool false):=c1;obtain⟨n',rfl⟩:∃n',n=n'+1:=⟨n - 1,by omega⟩;have Kq:=HG.out.len lb;have Oz:acc.length <=8001:=by omega
   have L9:=V (show acc.length+1+(eg get (some lb)).len <=8001 by omega);clear Kq hlen;go_wp2_with fail;refine(HP.out (some lb) w1 KQ.out HK.out).mono ?_;rintro e w2 ⟨x,u,rfl,K8,NY,NZ,h2,Kp⟩;obtain⟨ux,uy⟩:=u;obtain⟨⟨⟨a1,Ky,Mc,-,-,-⟩,⟨a2,Kn,Ml,-,-,-⟩⟩,-⟩:=id K8;simp only at Mc Ml;subst Mc Ml;have KV:=V K8;clear K8;have Ld:=V (eM.keeps (fun _ _ _ _ he h=>h.ext he) HO.out Kp (fun i hi=>by subst hi;exact .inl MJ.out));obtain⟨us,u1,u2,u3⟩:=Ld.out;have Nh:(acc.zip us).length=acc.length:=by rw [bI,u1,bY]
   obtain⟨av,cv,ev,_,LC,-⟩:=u2.fD tZ;rw [Nh]at ev;subst ev;unfold maxLen at LC;have HV:=V (show∀i,ey (.slice av acc.length cv) i ->i < w1.heap.size from fun i hi=>(eM.lt HO.out hi).2);have U1:=V u1;have U3:=V u3;have U2:=V u2;have Lv:=V h2;have O3:=V NY;have LN:=V (KN.out.trans (jr get n' acc NZ));have Lx:=V (HK.out.trans Kp (fun _ h=> .inl h));have N6:=V (show w.heap.size <=w1.heap.size from HK.out.size);have Mn:=V (show w.heap.size <=w2.heap.size from Lx.out.size);clear NY NZ h2 Kp c1;go_wp2_with (first | (at_builtin;refine eQ w2 rfl _ _ 52 rfl _ 48 (by kernel_rfl) Co rfl (by decide) (by decide) w.heap.size (.slice av acc.length cv) (acc.zip us) rfl U2.out (x,(.slice a1 x.params.length Ky, .slice a2 x.results.length Kn)) _ rfl rfl (by simp [ru,Value.oneCell']) rfl (by rw [bI,U1.out,bY];omega) Mn.out ?_));intro v3 w3 Lq KS LS;have MF:=V (eM.app (fun _ _ _ _ he h=>h.ext he) (w1:=w1) U1.out U3.out Lq KS LS N6.out HV.out KV.out);have KT:∀i,ey (.slice av acc.length cv) i ->w.heap.size <=i/\i < w2.heap.size:=fun i hi=>eo U2.out hi;have Mu:=V (Lv.out.keeps KS (fun h=>by have:=(KT _ h).1;have:=MJ.out;omega) (fun i hi=>by have:=(KT i hi).1;have:=Lv.out.old.2;have:=MJ.out;omega));have OG:=V (Lx.out.trans KS (fun i hi=> .inr (KT i hi).1));clear Lq KS LS KT;go_wp2_with fail;refine HR.out _ _ ⟨_,acc++[x],n',eg get (some lb),rfl,MF.out,LN.out,?_,?_,Mu.out,OG.out,by omega⟩ ?_
   ·intro y hy
    rcases bA.1 hy with h | h
    ·exact KC.out y h
    ·obtain rfl:=aV.1 h
     exact O3.out
   ·rw [ah]
    exact L9.out
   ·simp [intOf]
theorem Hj (w0:World) (Y:Nat) (get:iP (gN)) (P:gN ->Prop) (hG:iD get) (st:fW) (w:World) (Kj:Nat) (bs cs:Array Value)
  (hE:∀args w,(callFunc Kj args).run prog w= .ok (.enter Kj args) w) (h:fi w0 w Y st)
  (hp:∀s w1,fi w0 w1 Y s ->dS (fun k=>k=Y) w w1 ->Calls prog Kj (bs++cs) w1 (Hw (fun(_:gN) (u:Value × Value)=> .agg #[u.1,u.2]) gD w0 Y get P s w1)):
  Calls prog 222 #[.pointer (some ⟨Y,0,none⟩), .func (.func Kj) bs cs] w (JF 69 2 rV gD w0 Y get P st w):=by
 have HP:=V hp;have HH:=V h;have hR:=h.lt;have HG:=V hG;clear hp h hG;go_enter func222,ntmps222;go_wp2_with fail;refine(gZ w0 w Y st HH.out).mono ?_;rintro e w1 ⟨rfl,h1,LH⟩;have Mg:=V (jV get st _ (iF st));have hn:=iI st;have hlen:=h1.len;obtain⟨N,eN⟩:∃N,iC st=N:=⟨_,rfl⟩;rw [eN]at hn Mg⊢;clear eN;go_wp2_with fail;refine ez (fun a' w'=>∃(v:Value) (acc:List (gN)) (n:Nat) (s:fW),a'=fr (.pointer (some ⟨Y,0,none⟩):: .func (.func Kj) bs cs::gs a' 2 3 (v:: .int .i64 n::gs a' 7 19 []))/\eM 69 2 rV gD w' w.heap.size v acc/\F8 w0 Y get P st w w' acc n s) (fun a' _=>(intOf (a'.tmps.getD 6 undef)).toNat) ?_ ?_
 ·exact⟨_,[],N,eg fQ st,rfl,eM.nil _ _,Mg.out,by simp,by simpa using hlen,h1,LH,hn⟩
 ·clear h1 LH hn hlen Mg HH
  rintro R a' w1 ⟨v,acc,n,s,Kk,hJ⟩ HR;dsimp only [fr,gs]at Kk;generalize slot a'=f at Kk;subst Kk;obtain⟨ho,Ll,KG,hlen,Le,hk,hn⟩:=hJ;have KQ:=V Le;have KN:=V Ll;have KC:=V KG;have MJ:=V hR;have Lf:=hk.size;have c1:=Le.bad;have HO:=V ho;have Ln:∀i,ey v i ->¬ i=Y:=fun i hi=>by have:=(eM.lt ho hi).1;omega
  have PN:=V Ln;have HK:=V hk;clear ho Ln Ll KG Le hk;rcases aY n with LP | LP
  ·obtain⟨g1,g2⟩:=gB get KN.out (.inl LP)
   have G1:=V g1;have G2:=V g2;subst LP;clear g1 g2;go_wp2_with fail;go_ret;exact⟨_,acc,rfl,HO.out,KC.out,by omega,G2.out,by rw [G1.out];exact KQ.out,HK.out⟩
  have f0:decide ((0:Int) < (n:Int))=true:=az (by omega);cases s with
  | none=>
   have c1:w1.cell? ⟨Y,1,none⟩=some (.bool true):=c1;obtain⟨g1,g2⟩:=gB get KN.out (.inr rfl);have G1:=V g1;have G2:=V g2;clear g1 g2;go_wp2_with fail;go_ret;exact⟨_,acc,rfl,HO.out,KC.out,by omega,G2.out,by rw [G1.out];exact KQ.out,HK.out⟩
  | some lb=>
   have c1:w1.cell? ⟨Y,1,none⟩=some (.bool false):=c1;obtain⟨n',rfl⟩:∃n',n=n'+1:=⟨n - 1,by omega⟩;have Kq:=HG.out.len lb;have Oz:acc.length <=8001:=by omega
   have L9:=V (show acc.length+1+(eg get (some lb)).len <=8001 by omega);clear Kq hlen;go_wp2_with fail;refine(HP.out (some lb) w1 KQ.out HK.out).mono ?_;rintro e w2 ⟨x,u,rfl,K8,NY,NZ,h2,Kp⟩;obtain⟨ux,uy⟩:=u;obtain⟨⟨⟨a1,Ky,Mc,-,-,-⟩,K5⟩,-⟩:=id K8;obtain⟨a2,Kn,Ml,-,-⟩:=ea.slice K5;simp only at Mc Ml;subst Mc Ml;clear K5;have KV:=V K8;clear K8;have Ld:=V (eM.keeps (fun _ _ _ _ he h=>h.ext he) HO.out Kp (fun i hi=>by subst hi;exact .inl MJ.out));obtain⟨us,u1,u2,u3⟩:=Ld.out;have Nh:(acc.zip us).length=acc.length:=by rw [bI,u1,bY]
   obtain⟨av,cv,ev,_,LC,-⟩:=u2.fD ui;rw [Nh]at ev;subst ev;unfold maxLen at LC;have HV:=V (show∀i,ey (.slice av acc.length cv) i ->i < w1.heap.size from fun i hi=>(eM.lt HO.out hi).2);have U1:=V u1;have U3:=V u3;have U2:=V u2;have Lv:=V h2;have O3:=V NY;have LN:=V (KN.out.trans (jr get n' acc NZ));have Lx:=V (HK.out.trans Kp (fun _ h=> .inl h));have N6:=V (show w.heap.size <=w1.heap.size from HK.out.size);have Mn:=V (show w.heap.size <=w2.heap.size from Lx.out.size);clear NY NZ h2 Kp c1;go_wp2_with (first | (at_builtin;refine eQ w2 rfl _ _ 59 rfl _ 48 (by kernel_rfl) C3 rfl (by decide) (by decide) w.heap.size (.slice av acc.length cv) (acc.zip us) rfl U2.out (x,(.slice a1 x.locals.length Ky, .slice a2 x.body.length Kn)) _ rfl rfl (by simp [rV,Value.oneCell']) rfl (by rw [bI,U1.out,bY];omega) Mn.out ?_));intro v3 w3 Lq KS LS;have MF:=V (eM.app (fun _ _ _ _ he h=>h.ext he) (w1:=w1) U1.out U3.out Lq KS LS N6.out HV.out KV.out);have KT:∀i,ey (.slice av acc.length cv) i ->w.heap.size <=i/\i < w2.heap.size:=fun i hi=>eo U2.out hi;have Mu:=V (Lv.out.keeps KS (fun h=>by have:=(KT _ h).1;have:=MJ.out;omega) (fun i hi=>by have:=(KT i hi).1;have:=Lv.out.old.2;have:=MJ.out;omega));have OG:=V (Lx.out.trans KS (fun i hi=> .inr (KT i hi).1));clear Lq KS LS KT;go_wp2_with fail;refine HR.out _ _ ⟨_,acc++[x],n',eg get (some lb),rfl,MF.out,LN.out,?_,?_,Mu.out,OG.out,by omega⟩ ?_
   ·intro y hy
    rcases bA.1 hy with h | h
    ·exact KC.out y h
    ·obtain rfl:=aV.1 h
     exact O3.out
   ·rw [ah]
    exact L9.out
   ·simp [intOf]
theorem GC (w0:World) (Y:Nat) (get:iP (iO)) (P:iO ->Prop) (hG:iD get) (st:fW) (w:World) (Kj:Nat) (bs cs:Array Value)
  (hE:∀args w,(callFunc Kj args).run prog w= .ok (.enter Kj args) w) (h:fi w0 w Y st)
  (hp:∀s w1,fi w0 w1 Y s ->dS (fun k=>k=Y) w w1 ->Calls prog Kj (bs++cs) w1 (Hw (fun(x:iO) (u:Value)=> .agg #[.int .i64 x.off,u]) gS w0 Y get P s w1)):
  Calls prog 219 #[.pointer (some ⟨Y,0,none⟩), .func (.func Kj) bs cs] w (JF 95 2 tF gS w0 Y get P st w):=by
 have HP:=V hp;have HH:=V h;have hR:=h.lt;have HG:=V hG;clear hp h hG;go_enter func219,ntmps219;go_wp2_with fail;refine(gZ w0 w Y st HH.out).mono ?_;rintro e w1 ⟨rfl,h1,LH⟩;have Mg:=V (jV get st _ (iF st));have hn:=iI st;have hlen:=h1.len;obtain⟨N,eN⟩:∃N,iC st=N:=⟨_,rfl⟩;rw [eN]at hn Mg⊢;clear eN;go_wp2_with fail;refine ez (fun a' w'=>∃(v:Value) (acc:List (iO)) (n:Nat) (s:fW),a'=fr (.pointer (some ⟨Y,0,none⟩):: .func (.func Kj) bs cs::gs a' 2 3 (v:: .int .i64 n::gs a' 7 19 []))/\eM 95 2 tF gS w' w.heap.size v acc/\F8 w0 Y get P st w w' acc n s) (fun a' _=>(intOf (a'.tmps.getD 6 undef)).toNat) ?_ ?_
 ·exact⟨_,[],N,eg fQ st,rfl,eM.nil _ _,Mg.out,by simp,by simpa using hlen,h1,LH,hn⟩
 ·clear h1 LH hn hlen Mg HH
  rintro R a' w1 ⟨v,acc,n,s,Kk,hJ⟩ HR;dsimp only [fr,gs]at Kk;generalize slot a'=f at Kk;subst Kk;obtain⟨ho,Ll,KG,hlen,Le,hk,hn⟩:=hJ;have KQ:=V Le;have KN:=V Ll;have KC:=V KG;have MJ:=V hR;have Lf:=hk.size;have c1:=Le.bad;have HO:=V ho;have Ln:∀i,ey v i ->¬ i=Y:=fun i hi=>by have:=(eM.lt ho hi).1;omega
  have PN:=V Ln;have HK:=V hk;clear ho Ln Ll KG Le hk;rcases aY n with LP | LP
  ·obtain⟨g1,g2⟩:=gB get KN.out (.inl LP)
   have G1:=V g1;have G2:=V g2;subst LP;clear g1 g2;go_wp2_with fail;go_ret;exact⟨_,acc,rfl,HO.out,KC.out,by omega,G2.out,by rw [G1.out];exact KQ.out,HK.out⟩
  have f0:decide ((0:Int) < (n:Int))=true:=az (by omega);cases s with
  | none=>
   have c1:w1.cell? ⟨Y,1,none⟩=some (.bool true):=c1;obtain⟨g1,g2⟩:=gB get KN.out (.inr rfl);have G1:=V g1;have G2:=V g2;clear g1 g2;go_wp2_with fail;go_ret;exact⟨_,acc,rfl,HO.out,KC.out,by omega,G2.out,by rw [G1.out];exact KQ.out,HK.out⟩
  | some lb=>
   have c1:w1.cell? ⟨Y,1,none⟩=some (.bool false):=c1;obtain⟨n',rfl⟩:∃n',n=n'+1:=⟨n - 1,by omega⟩;have Kq:=HG.out.len lb;have Oz:acc.length <=8001:=by omega
   have L9:=V (show acc.length+1+(eg get (some lb)).len <=8001 by omega);clear Kq hlen;go_wp2_with fail;refine(HP.out (some lb) w1 KQ.out HK.out).mono ?_;rintro e w2 ⟨x,u,rfl,K8,NY,NZ,h2,Kp⟩;obtain⟨⟨a1,Ky,rfl,-,-,-⟩,-⟩:=id K8;have KV:=V K8;clear K8;have Ld:=V (eM.keeps (fun _ _ _ _ he h=>h.ext he) HO.out Kp (fun i hi=>by subst hi;exact .inl MJ.out));obtain⟨us,u1,u2,u3⟩:=Ld.out;have Nh:(acc.zip us).length=acc.length:=by rw [bI,u1,bY]
   obtain⟨av,cv,ev,_,LC,-⟩:=u2.fD uL;rw [Nh]at ev;subst ev;unfold maxLen at LC;have HV:=V (show∀i,ey (.slice av acc.length cv) i ->i < w1.heap.size from fun i hi=>(eM.lt HO.out hi).2);have U1:=V u1;have U3:=V u3;have U2:=V u2;have Lv:=V h2;have O3:=V NY;have LN:=V (KN.out.trans (jr get n' acc NZ));have Lx:=V (HK.out.trans Kp (fun _ h=> .inl h));have N6:=V (show w.heap.size <=w1.heap.size from HK.out.size);have Mn:=V (show w.heap.size <=w2.heap.size from Lx.out.size);clear NY NZ h2 Kp c1;go_wp2_with (first | (at_builtin;refine eQ w2 rfl _ _ 58 rfl _ 32 (by kernel_rfl) Cg rfl (by decide) (by decide) w.heap.size (.slice av acc.length cv) (acc.zip us) rfl U2.out (x, .slice a1 x.funcs.length Ky) _ rfl rfl (by simp [tF,Value.oneCell']) rfl (by rw [bI,U1.out,bY];omega) Mn.out ?_));intro v3 w3 Lq KS LS;have MF:=V (eM.app (fun _ _ _ _ he h=>h.ext he) (w1:=w1) U1.out U3.out Lq KS LS N6.out HV.out KV.out);have KT:∀i,ey (.slice av acc.length cv) i ->w.heap.size <=i/\i < w2.heap.size:=fun i hi=>eo U2.out hi;have Mu:=V (Lv.out.keeps KS (fun h=>by have:=(KT _ h).1;have:=MJ.out;omega) (fun i hi=>by have:=(KT i hi).1;have:=Lv.out.old.2;have:=MJ.out;omega));have OG:=V (Lx.out.trans KS (fun i hi=> .inr (KT i hi).1));clear Lq KS LS KT;go_wp2_with fail;refine HR.out _ _ ⟨_,acc++[x],n',eg get (some lb),rfl,MF.out,LN.out,?_,?_,Mu.out,OG.out,by omega⟩ ?_
   ·intro y hy
    rcases bA.1 hy with h | h
    ·exact KC.out y h
    ·obtain rfl:=aV.1 h
     exact O3.out
   ·rw [ah]
    exact L9.out
   ·simp [intOf]
theorem Hn (w0:World) (Y:Nat) (get:iP (gl)) (P:gl ->Prop) (hG:iD get) (st:fW) (w:World) (Kj:Nat) (bs cs:Array Value)
  (hE:∀args w,(callFunc Kj args).run prog w= .ok (.enter Kj args) w) (h:fi w0 w Y st)
  (hp:∀s w1,fi w0 w1 Y s ->dS (fun k=>k=Y) w w1 ->Calls prog Kj (bs++cs) w1 (Hw (fun(x:gl) (u:Value)=> .agg #[.int .i64 x.off,u]) gm w0 Y get P s w1)):
  Calls prog 224 #[.pointer (some ⟨Y,0,none⟩), .func (.func Kj) bs cs] w (JF 99 2 pT gm w0 Y get P st w):=by
 have HP:=V hp;have HH:=V h;have hR:=h.lt;have HG:=V hG;clear hp h hG;go_enter func224,ntmps224;go_wp2_with fail;refine(gZ w0 w Y st HH.out).mono ?_;rintro e w1 ⟨rfl,h1,LH⟩;have Mg:=V (jV get st _ (iF st));have hn:=iI st;have hlen:=h1.len;obtain⟨N,eN⟩:∃N,iC st=N:=⟨_,rfl⟩;rw [eN]at hn Mg⊢;clear eN;go_wp2_with fail;refine ez (fun a' w'=>∃(v:Value) (acc:List (gl)) (n:Nat) (s:fW),a'=fr (.pointer (some ⟨Y,0,none⟩):: .func (.func Kj) bs cs::gs a' 2 3 (v:: .int .i64 n::gs a' 7 19 []))/\eM 99 2 pT gm w' w.heap.size v acc/\F8 w0 Y get P st w w' acc n s) (fun a' _=>(intOf (a'.tmps.getD 6 undef)).toNat) ?_ ?_
 ·exact⟨_,[],N,eg fQ st,rfl,eM.nil _ _,Mg.out,by simp,by simpa using hlen,h1,LH,hn⟩
 ·clear h1 LH hn hlen Mg HH
  rintro R a' w1 ⟨v,acc,n,s,Kk,hJ⟩ HR;dsimp only [fr,gs]at Kk;generalize slot a'=f at Kk;subst Kk;obtain⟨ho,Ll,KG,hlen,Le,hk,hn⟩:=hJ;have KQ:=V Le;have KN:=V Ll;have KC:=V KG;have MJ:=V hR;have Lf:=hk.size;have c1:=Le.bad;have HO:=V ho;have Ln:∀i,ey v i ->¬ i=Y:=fun i hi=>by have:=(eM.lt ho hi).1;omega
  have PN:=V Ln;have HK:=V hk;clear ho Ln Ll KG Le hk;rcases aY n with LP | LP
  ·obtain⟨g1,g2⟩:=gB get KN.out (.inl LP)
   have G1:=V g1;have G2:=V g2;subst LP;clear g1 g2;go_wp2_with fail;go_ret;exact⟨_,acc,rfl,HO.out,KC.out,by omega,G2.out,by rw [G1.out];exact KQ.out,HK.out⟩
  have f0:decide ((0:Int) < (n:Int))=true:=az (by omega);cases s with
  | none=>
   have c1:w1.cell? ⟨Y,1,none⟩=some (.bool true):=c1;obtain⟨g1,g2⟩:=gB get KN.out (.inr rfl);have G1:=V g1;have G2:=V g2;clear g1 g2;go_wp2_with fail;go_ret;exact⟨_,acc,rfl,HO.out,KC.out,by omega,G2.out,by rw [G1.out];exact KQ.out,HK.out⟩
  | some lb=>
   have c1:w1.cell? ⟨Y,1,none⟩=some (.bool false):=c1;obtain⟨n',rfl⟩:∃n',n=n'+1:=⟨n - 1,by omega⟩;have Kq:=HG.out.len lb;have Oz:acc.length <=8001:=by omega
   have L9:=V (show acc.length+1+(eg get (some lb)).len <=8001 by omega);clear Kq hlen;go_wp2_with fail;refine(HP.out (some lb) w1 KQ.out HK.out).mono ?_;rintro e w2 ⟨x,u,rfl,K8,NY,NZ,h2,Kp⟩;obtain⟨⟨a1,Ky,rfl,-,-,-⟩,-⟩:=id K8;have KV:=V K8;clear K8;have Ld:=V (eM.keeps (fun _ _ _ _ he h=>h.ext he) HO.out Kp (fun i hi=>by subst hi;exact .inl MJ.out));obtain⟨us,u1,u2,u3⟩:=Ld.out;have Nh:(acc.zip us).length=acc.length:=by rw [bI,u1,bY]
   obtain⟨av,cv,ev,_,LC,-⟩:=u2.fD rG;rw [Nh]at ev;subst ev;unfold maxLen at LC;have HV:=V (show∀i,ey (.slice av acc.length cv) i ->i < w1.heap.size from fun i hi=>(eM.lt HO.out hi).2);have U1:=V u1;have U3:=V u3;have U2:=V u2;have Lv:=V h2;have O3:=V NY;have LN:=V (KN.out.trans (jr get n' acc NZ));have Lx:=V (HK.out.trans Kp (fun _ h=> .inl h));have N6:=V (show w.heap.size <=w1.heap.size from HK.out.size);have Mn:=V (show w.heap.size <=w2.heap.size from Lx.out.size);clear NY NZ h2 Kp c1;go_wp2_with (first | (at_builtin;refine eQ w2 rfl _ _ 60 rfl _ 32 (by kernel_rfl) Di rfl (by decide) (by decide) w.heap.size (.slice av acc.length cv) (acc.zip us) rfl U2.out (x, .slice a1 x.bytes.length Ky) _ rfl rfl (by simp [pT,Value.oneCell']) rfl (by rw [bI,U1.out,bY];omega) Mn.out ?_));intro v3 w3 Lq KS LS;have MF:=V (eM.app (fun _ _ _ _ he h=>h.ext he) (w1:=w1) U1.out U3.out Lq KS LS N6.out HV.out KV.out);have KT:∀i,ey (.slice av acc.length cv) i ->w.heap.size <=i/\i < w2.heap.size:=fun i hi=>eo U2.out hi;have Mu:=V (Lv.out.keeps KS (fun h=>by have:=(KT _ h).1;have:=MJ.out;omega) (fun i hi=>by have:=(KT i hi).1;have:=Lv.out.old.2;have:=MJ.out;omega));have OG:=V (Lx.out.trans KS (fun i hi=> .inr (KT i hi).1));clear Lq KS LS KT;go_wp2_with fail;refine HR.out _ _ ⟨_,acc++[x],n',eg get (some lb),rfl,MF.out,LN.out,?_,?_,Mu.out,OG.out,by omega⟩ ?_
   ·intro y hy
    rcases bA.1 hy with h | h
    ·exact KC.out y h
    ·obtain rfl:=aV.1 h
     exact O3.out
   ·rw [ah]
    exact L9.out
   ·simp [intOf]
end Go.Proofs.YthbjdhjppbcneaaGreatDoor
