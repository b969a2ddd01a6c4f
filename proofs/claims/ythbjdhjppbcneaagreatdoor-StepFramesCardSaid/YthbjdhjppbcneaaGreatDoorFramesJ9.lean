import Derived.Test.YthbjdhjppbcneaaGreatDoorFramesJ8
import Derived.Lib.Mul64
import Derived.Laws.Bits64b
import Derived.Laws.CopyOwn
namespace Go.Proofs.YthbjdhjppbcneaaGreatDoor
set_option maxRecDepth 100000
set_option maxHeartbeats 20000000
open Go.RowKit Tryz
open Lib renaming hid->V
set_option linter.all false
theorem uY (a:Option Addr) (len cap k:Nat) (h:k <=cap) (wx:World):
  (Instr.slice 97 (.slice a len cap) none (some (.int .i64 k)) none).run prog wx= .ok (.slice a k cap) wx:=by
 have hu:prog.underlying 97=some (.slice 5):=by kernel_rfl
 obtain⟨i0,hi,M5,LR,Mz⟩:=bX od;simp [Instr.slice,bp hu,Instr.sliceBounds,Instr.sliceBound,sizeOf,typeInfo,hi,asIntOf,h];cases a <;>simp [Addr.add]
theorem dX.empty (w:World):dX (w.alloc (.cells #[] 5)) w.heap.size (.slice (some ⟨w.heap.size,0,none⟩) 0 0) []:=
 ⟨by simp, .inr ⟨w.heap.size,0,#[],rfl,ag _,dt w _,ag _,by simp [maxLen],by simp,by simp⟩⟩
theorem dX.base {w:World} {B B':Nat} {v:Value} {l:List UInt8} (h:dX w B v l) (hB:B' <=B):dX w B' v l:=mD h (fun _ hk=>aW hB (et h hk).1)
def Cs (l:List UInt8) (w:World) (e:Ending) (w':World):Prop:=∃v,e= .returned v/\dX w' w.heap.size v l/\Below w.heap.size w w'
theorem Bd (v:Value) (l:List UInt8) (w:World) (hl:eJ w v l) (Ok:l.length <=1000000):Calls prog 278 #[v] w (Cs l w):=by
 obtain⟨a,cap,rfl,h1,h2,h3⟩:=id hl;unfold maxLen at h2;have HI:=V hl;cases a with
 | none=>
  obtain rfl:l=[]:=by
   cases l with
   | nil=>rfl
   | cons x l=>
    obtain⟨_,_,h,_⟩:=h3 0 x rfl;cases h
  clear h3 hl;have e1:=bR (P:=prog) w 97 5 none 0 cap 0 0 (by kernel_rfl);rw [de]at e1;go_enter func278,ntmps278;go_wp2_with fail;go_ret;exact⟨_,rfl,dX.nil _ _,an _ _⟩
 | some ad=>
  clear h3 hl;have e1:=bR (P:=prog) w 97 5 (some ad) l.length cap 0 0 (by kernel_rfl);rw [dd]at e1;have Lh:=(an w.heap.size w).alloc (ag _) (.cells #[] 5);have HBO:=V Lh;go_enter func278,ntmps278;go_wp2_with (first | (at_builtin;refine fO (w.alloc (.cells #[] 5)) rfl _ _ rfl rfl w.heap.size (.slice (some ⟨w.heap.size,0,none⟩) 0 0) [] rfl (dX.empty w) _ _ rfl (HI.out.below HBO.out) (by simp only [aK];omega) HBO.out.size ?_));intro v w' ho hk hs;have HB:=V (show Below w.heap.size w w' from HBO.out.trans (hk.below HBO.out.size (fun i hi=>by simp [eA,Value.ownBlock]at hi;omega)));have HO:=V ho;clear hk hs Lh ho;go_wp2_with fail;go_ret;exact⟨v,rfl,by simpa using HO.out,HB.out⟩
def nH (st:fZ):List UInt8:=((st.bind mv).map (·.1)).getD []
theorem zd (st:fZ):gU mv st (nH st):=fun y hy=>by rw [nH,hy];rfl
theorem yE (st:fZ):ei mv st=ix (iN st) true (ei fU st):=by
 cases st with
 | none=>rfl
 | some l=>
  simp only [ei,mv,iN,ix,aw];cases h:fU l with
  | none=>rfl
  | some y=>
   simp only [aw,bE,dF,true_and];by_cases q:y.1 <=y.2.length
   ·rw [aC (by omega),aJ q];rfl
   ·rw [aJ (by omega),aC q];rfl
theorem yQ {st:fZ} (h:ei mv st=none):nH st=[]:=by
 unfold ei at h;unfold nH;cases hb:st.bind mv with
 | none=>rfl
 | some y=>rw [hb]at h;cases h
theorem yB {st:fZ} {l r:List UInt8} (h1:ei fU st=some l) (h:ei mv st=some r):nH st=l.take (iN st)/\iN st <=l.length:=by
 cases st with
 | none=>cases h1
 | some q=>
  simp only [ei,mv,iN,nH,aw]at*;cases hb:fU q with
  | none=>rw [hb]at h1;cases h1
  | some y=>
   rw [hb]at h1 h;simp only [aw,bE,aX]at h1 h;subst h1;by_cases q:y.2.length < y.1
   ·rw [aJ q]at h;cases h
   ·simp only [aw,bE,dF]
    rw [aC q];exact⟨rfl,by omega⟩
def It (w0 w:World) (R:Nat) (st:fZ) (e:Ending) (w':World):Prop:=
 ∃v,e= .returned v/\dX w' w.heap.size v (nH st)/\fm w0 w' R (ei mv st)/\dU (fun k=>k=R) w w'
theorem yG {w0 w:World} {R:Nat} {st:fZ} (h:fm w0 w R st):(nH st).length <=8000:=by
 have hl:=h.len;cases hn:ei mv st with
 | none=>rw [yQ hn];simp
 | some r=>
  cases h1:ei fU st with
  | none=>rw [yE,h1]at hn;cases hn
  | some l=>
   obtain⟨h2,h3⟩:=yB h1 hn;have h4:=(iM.lO kS).len st;rw [h1]at h4;simp only [fZ.len]at h4 hl;rw [h2,aS];omega
theorem BX (w0 w:World) (R:Nat) (st:fZ) (h:fm w0 w R st):Calls prog 226 #[.pointer (some ⟨R,0,none⟩)] w (It w0 w R st):=by
 have HH:=V h;have MI:=V (yG h);have hn:=iG st;have HNX:=V (yE st);have HNN:=V (@yQ st);have HRS:Hid (∀l r:List UInt8,ei fU st=some l ->ei mv st=some r ->nH st=l.take (iN st)/\iN st <=l.length):=V (fun l r h1 h2=>yB h1 h2);obtain⟨n,en⟩:∃n,iN st=n:=⟨_,rfl⟩;obtain⟨s1,es⟩:∃s1,ei fU st=s1:=⟨_,rfl⟩;rw [en]at hn;have EN:=V en;have ES:=V es;clear h en es;go_enter func226,ntmps226;go_wp2_with fail;refine(gZ w0 w R st HH.out).mono ?_;rintro e w1 ⟨rfl,h1,hk⟩;rw [EN.out];rw [ES.out]at h1;have HH1:=V h1;have HK:=V hk;obtain⟨a,l,cap,bad,KP,hl,hlen,KS,KW,OL⟩:=h1;have c0:w1.cell? ⟨R,0,none⟩=some (.slice a l.length cap):=KP.cell 0;obtain⟨_,_,N3,O8,My,-⟩:=id hl;injection N3 with e1 e2 e3;subst e1 e3;have HL:=V hl;have Ky:=V KS;clear hk KP hl KW KS My e2;go_wp2_with fail;refine(kN w0 w1 R s1 n true (by omega) HH1.out).mono ?_;rintro e w2 ⟨rfl,h2,hk⟩;have LS:ei mv st=ix n true s1:=by rw [HNX.out,EN.out,ES.out]
 rw [<- LS]at h2;have c1:=h2.bad;have HH2:=V h2;have LK:=V (HK.out.trans hk (fun _ h=> .inl h));clear h2 hk c0 LS;cases hq:ei mv st with
 | none=>
  rw [hq]at c1 HH2;have c1:w2.cell? ⟨R,1,none⟩=some (.bool true):=c1;have HV:=V (HNN.out hq);have HQ:=V hq;clear hq;go_wp2_with fail;go_ret;exact⟨_,rfl,by rw [HV.out];exact dX.nil _ _,by rw [HQ.out];exact HH2.out,LK.out⟩
 | some r=>
  rw [hq]at c1 HH2;have c1:w2.cell? ⟨R,1,none⟩=some (.bool false):=c1;have LZ:s1=some l:=by
   rw [Ky.out];cases bad with
   | false=>rfl
   | true=>
    exfalso;have h3:=HNX.out;rw [ES.out,Ky.out,hq]at h3;cases h3
  obtain⟨hv,hle⟩:=HRS.out _ _ (by rw [ES.out,LZ]) hq;rw [EN.out]at hv hle;have HV:=V hv;have HQ:=V hq;have hln:n <=cap:=by omega
  have KH:=fun wx=>uY a l.length cap n hln wx;have HI:Hid (eJ w2 (.slice a (nH st).length cap) (nH st)):=V (by
   have:=(HL.out.below HH2.out.old.1).take n hle;rw [<- hv]at this;have hz:(nH st).length=n:=by rw [hv,aS];omega
   rw [hz];exact this)
  have QJ:(nH st).length=n:=by rw [hv,aS];omega
  have Ms:=V QJ;clear hq hv LZ QJ;go_wp2_with fail;refine(Bd _ (nH st) w2 (by have:=HI.out;rw [Ms.out]at this;exact this) (aW MI.out (by omega))).mono ?_;rintro e w3 ⟨v,rfl,ho,hb⟩;have HO:=V (dX.base ho LK.out.size);have HH3:=V (HH2.out.below hb);have OW:=V (LK.out.trans (dU.dW (S:=fun _=>False) hb) (fun _ h=>h.elim));clear ho hb;go_wp2_with fail;go_ret;exact⟨_,rfl,HO.out,by rw [HQ.out];exact HH3.out,OW.out⟩
def wR (st:fZ):ByteArray:=bs (nH st)
theorem rB (st:fZ):gU jB st (wR st):=by rw [tX];exact fD (zd st)
theorem Cf (st:fZ):ei jB st=ei mv st:=by rw [tX,fu]
theorem uo (w0 w:World) (R:Nat) (st:fZ) (h:fm w0 w R st):Calls prog 271 #[.pointer (some ⟨R,0,none⟩)] w (yw w0 w R (.string (wR st)) (ei jB st)):=by
 have HH:=V h;have HN:=V (Cf st);clear h;go_enter func271,ntmps271;go_wp2_with fail;refine(BX w0 w R st HH.out).mono ?_;rintro e w1 ⟨v,rfl,ho,h1,hk⟩;have KH:=pC (dX.fp ho);have HH1:=V h1;have HK:=V hk;clear ho h1 hk;go_wp2_with fail;go_ret;exact⟨rfl,by rw [HN.out];exact HH1.out,HK.out⟩
def Ff (w0 w:World) (R:Nat) (st:fZ) (e:Ending) (w':World):Prop:=
 ∃v:fa,e= .returned (.agg #[.int .i64 v.kind, .int .i64 v.n])/\v.ok/\gU gG st v/\fm w0 w' R (ei gG st)/\dU (fun k=>k=R) w w'
theorem qz {l r:List UInt8} {x:eK} (h:gu l=some (x,r)) (ok:Bool) (KF:ok=(decide (x.op=65) || decide (x.op=66))) (bad:Bool):
  ei gG (if bad=true then none else some l)=ei eZ (ix (l.length - r.length) ok (if bad=true then none else some l)):=by
 obtain⟨p,rfl⟩:=oF h;cases bad with
 | true=>rfl
 | false=>
  have hd:(p++r).drop ((p++r).length - r.length)=r:=by
   have:(p++r).length - r.length=p.length:=by rw [ah];omega
   rw [this,c9]
  have hs:ix ((p++r).length - r.length) ok (some (p++r))=if x.op=65\/x.op=66 then some r else none:=by
   subst KF;simp only [ix,aw,hd];by_cases q:x.op=65\/x.op=66
   ·rw [aJ ⟨by rcases q with q | q <;>simp [q],by omega⟩,aJ q]
   ·have q1:¬ x.op=65:=fun g=>q (.inl g)
    have q2:¬ x.op=66:=fun g=>q (.inr g);rw [aC (by simp [q1,q2]),aC q]
  show ei gG (some (p++r))=ei eZ (ix ((p++r).length - r.length) ok (some (p++r)));rw [hs];simp only [ei,gG,h,aw];by_cases q:x.op=65\/x.op=66
  ·rw [aJ q,aJ q]
   simp only [aw];cases eZ r <;>rfl
  ·rw [aC q,aC q]
   rfl
theorem CH {l r:List UInt8} {x:eK} (h:gu l=some (x,r)) (bad:Bool):gU gG (if bad=true then none else some l) ⟨if x.op=66 then 2 else 1,x.a⟩:=by
 cases bad with
 | true=>exact mA _ _
 | false=>
  intro y hy;simp only [gG,h,cC,if_false,aw]at hy;split at hy
  ·cases hb:eZ r with
   | none=>rw [hb]at hy;cases hy
   | some c=>rw [hb]at hy;injection hy with hy;rw [<- hy]
  ·cases hy
theorem A1 {l:List UInt8} (h:gu l=none) (n:Nat) (bad:Bool):ei gG (if bad=true then none else some l)=ei eZ (ix n false (if bad=true then none else some l))/\∀v,gU gG (if bad=true then none else some l) v:=by
 cases bad with
 | true=>exact⟨rfl,fun v=>mA _ _⟩
 | false=>
  simp only [ei,gG,ix,h,cC,if_false,aw];refine⟨by simp,fun v y hy=>?_⟩;simp [gG,h]at hy
theorem JP {k n:Int} (hk:k=1\/k=2) (hn:iI n):fa.ok ⟨k,n⟩:=by
 rcases hk with rfl | rfl
 ·exact⟨⟨by show(-9223372036854775808:Int) <=1;decide,by show(1:Int) <=9223372036854775807;decide⟩,hn⟩
 ·exact⟨⟨by show(-9223372036854775808:Int) <=2;decide,by show(2:Int) <=9223372036854775807;decide⟩,hn⟩
theorem vL (w0 w:World) (R:Nat) (st:fZ) (h:fm w0 w R st):Calls prog 275 #[.pointer (some ⟨R,0,none⟩)] w (Ff w0 w R st):=by
 have Mm:=h.lt;have OL:=h.old.2;have HH:=V (h.alloc (.cells #[.int .i64 0, .int .i64 0] 42));have KI:=V (eG.new w #[.int .i64 0, .int .i64 0] 42);have HK:=V ((dU.refl (fun k=>k=R) w).alloc (.cells #[.int .i64 0, .int .i64 0] 42));obtain⟨a,l,cap,bad,KP,hl,hlen,KS,KW,-⟩:=HH.out;have c0:(w.alloc (.cells #[.int .i64 0, .int .i64 0] 42)).cell? ⟨R,0,none⟩=some (.slice a l.length cap):=KP.cell 0;have HL:=V (hl.below KW);have Ky:=V KS;clear KP hl KW h KS;go_enter func275,ntmps275;go_wp2_with fail;refine(qT _ l _ HL.out (by omega)).mono ?_;rintro e w1 ⟨hb,⟨x,r,u,hx,rfl,Li,-⟩ | ⟨err,hx,he,-,rfl⟩⟩
 ·have HA:=V Li.2.2.1
  have HWS:Hid (gU gG st ⟨if x.op=66 then 2 else 1,x.a⟩):=V (by rw [Ky.out];exact CH hx bad);obtain⟨⟨au,KD,rfl,-,-,-⟩,-⟩:=id Li;obtain⟨op,xa,xb,xl⟩:=x;simp only at HA HWS⊢;have Ll:=V (eG.new w1 #[.int .i64 op, .int .i64 xa, .int .i64 xb, .slice au xl.length KD] 27);have KI:=V ((KI.out.below hb KI.out.lt).alloc (.cells #[.int .i64 op, .int .i64 xa, .int .i64 xb, .slice au xl.length KD] 27));have HK:=V ((HK.out.trans (dU.dW (S:=fun k=>k=R) hb) (fun _ h=> .inl h)).alloc (.cells #[.int .i64 op, .int .i64 xa, .int .i64 xb, .slice au xl.length KD] 27));have HH:=V ((HH.out.below hb).alloc (.cells #[.int .i64 op, .int .i64 xa, .int .i64 xb, .slice au xl.length KD] 27));have LZ:w.heap.size < w1.heap.size:=by have:=hb.size;rw [aE]at this;omega
  have c3:(w1.alloc (.cells #[.int .i64 op, .int .i64 xa, .int .i64 xb, .slice au xl.length KD] 27)).cell? ⟨w1.heap.size,0,none⟩=some (.int .i64 op):=Ll.out.cell 0;by_cases q1:op=65
  ·have f1:=eH q1
   have f2:(op==66)=false:=dS (by omega);have HN:=V (show ei gG st=ei eZ (ix (l.length - r.length) true st)by rw [Ky.out];exact qz hx true (by simp [q1]) bad);have HW:=V (show gU gG st ⟨1,xa⟩by have:=HWS.out;rwa [aC (show ¬ op=66 by omega)]at this);clear q1 hb Li hx c0;go_wp2_with fail;refine(kN w0 _ R _ (l.length - r.length) true (by omega) HH.out).mono ?_;rintro e w2 ⟨rfl,hh,hk⟩;have HH:=V hh;have KI:=V (KI.out.keeps hk (by omega));have Ll:=V (Ll.out.keeps hk (by omega));have HK:=V (HK.out.trans hk (fun _ h=> .inl h));clear hh hk;clear c3;go_wp2_with fail;refine(iZ w0 w2 R _ HH.out).mono ?_;rintro e w3 ⟨rfl,hh,hk⟩;have HH:=V hh;have KI:=V (KI.out.keeps hk (by omega));have Ll:=V (Ll.out.keeps hk (by omega));have HK:=V (HK.out.trans hk (fun _ h=> .inl h));clear hh hk;obtain⟨x0,x1,z0,z1⟩:=KI.out.two;have d0:w3.cell? ⟨w1.heap.size,0,none⟩=some (.int .i64 op):=Ll.out.cell 0;have d1:w3.cell? ⟨w1.heap.size,1,none⟩=some (.int .i64 xa):=Ll.out.cell 1;go_wp2_with fail;have hx:=KI.out.mP (.int .i64 1) (.int .i64 xa);have Kz:=fF w3 w.heap.size (.int .i64 1) (.int .i64 xa);refine aM (ey rfl _ _ rfl hx.mq) rfl ?_;exact⟨⟨1,xa⟩,rfl,JP (.inl rfl) HA.out,HW.out,by rw [HN.out];exact HH.out.keeps Kz (by omega) (fun i hi=>by omega),HK.out.jc Kz (ag _)⟩
  ·have f1:=dS q1
   by_cases q2:op=66
   ·have f2:=eH q2
    have HN:=V (show ei gG st=ei eZ (ix (l.length - r.length) true st)by rw [Ky.out];exact qz hx true (by simp [q2]) bad);have HW:=V (show gU gG st ⟨2,xa⟩by have:=HWS.out;rwa [aJ q2]at this);clear q1 q2 hb Li hx c0;go_wp2_with fail;refine(kN w0 _ R _ (l.length - r.length) true (by omega) HH.out).mono ?_;rintro e w2 ⟨rfl,hh,hk⟩;have HH:=V hh;have KI:=V (KI.out.keeps hk (by omega));have Ll:=V (Ll.out.keeps hk (by omega));have HK:=V (HK.out.trans hk (fun _ h=> .inl h));clear hh hk;clear c3;go_wp2_with fail;refine(iZ w0 w2 R _ HH.out).mono ?_;rintro e w3 ⟨rfl,hh,hk⟩;have HH:=V hh;have KI:=V (KI.out.keeps hk (by omega));have Ll:=V (Ll.out.keeps hk (by omega));have HK:=V (HK.out.trans hk (fun _ h=> .inl h));clear hh hk;obtain⟨x0,x1,z0,z1⟩:=KI.out.two;have d0:w3.cell? ⟨w1.heap.size,0,none⟩=some (.int .i64 op):=Ll.out.cell 0;have d1:w3.cell? ⟨w1.heap.size,1,none⟩=some (.int .i64 xa):=Ll.out.cell 1;go_wp2_with fail;have hx:=KI.out.mP (.int .i64 2) (.int .i64 xa);have Kz:=fF w3 w.heap.size (.int .i64 2) (.int .i64 xa);refine aM (ey rfl _ _ rfl hx.mq) rfl ?_;exact⟨⟨2,xa⟩,rfl,JP (.inr rfl) HA.out,HW.out,by rw [HN.out];exact HH.out.keeps Kz (by omega) (fun i hi=>by omega),HK.out.jc Kz (ag _)⟩
   ·have f2:=dS q2
    have HN:=V (show ei gG st=ei eZ (ix (l.length - r.length) false st)by rw [Ky.out];exact qz hx false (by simp [q1,q2]) bad);have HW:=V (show gU gG st ⟨1,xa⟩by have:=HWS.out;rwa [aC q2]at this);clear q1 q2 hb Li hx c0;go_wp2_with fail;refine(kN w0 _ R _ (l.length - r.length) false (by omega) HH.out).mono ?_;rintro e w2 ⟨rfl,hh,hk⟩;have HH:=V hh;have KI:=V (KI.out.keeps hk (by omega));have Ll:=V (Ll.out.keeps hk (by omega));have HK:=V (HK.out.trans hk (fun _ h=> .inl h));clear hh hk;clear c3;go_wp2_with fail;refine(iZ w0 w2 R _ HH.out).mono ?_;rintro e w3 ⟨rfl,hh,hk⟩;have HH:=V hh;have KI:=V (KI.out.keeps hk (by omega));have Ll:=V (Ll.out.keeps hk (by omega));have HK:=V (HK.out.trans hk (fun _ h=> .inl h));clear hh hk;obtain⟨x0,x1,z0,z1⟩:=KI.out.two;have d0:w3.cell? ⟨w1.heap.size,0,none⟩=some (.int .i64 op):=Ll.out.cell 0;have d1:w3.cell? ⟨w1.heap.size,1,none⟩=some (.int .i64 xa):=Ll.out.cell 1;go_wp2_with fail;have hx:=KI.out.mP (.int .i64 1) (.int .i64 xa);have Kz:=fF w3 w.heap.size (.int .i64 1) (.int .i64 xa);refine aM (ey rfl _ _ rfl hx.mq) rfl ?_;exact⟨⟨1,xa⟩,rfl,JP (.inl rfl) HA.out,HW.out,by rw [HN.out];exact HH.out.keeps Kz (by omega) (fun i hi=>by omega),HK.out.jc Kz (ag _)⟩
 ·have HA:=V xN
  have Ll:=V (eG.new w1 #[.int .i64 0, .int .i64 0, .int .i64 0, .slice none 0 0] 27);have KI:=V ((KI.out.below hb KI.out.lt).alloc (.cells #[.int .i64 0, .int .i64 0, .int .i64 0, .slice none 0 0] 27));have HK:=V ((HK.out.trans (dU.dW (S:=fun k=>k=R) hb) (fun _ h=> .inl h)).alloc (.cells #[.int .i64 0, .int .i64 0, .int .i64 0, .slice none 0 0] 27));have HH:=V ((HH.out.below hb).alloc (.cells #[.int .i64 0, .int .i64 0, .int .i64 0, .slice none 0 0] 27));have LZ:w.heap.size < w1.heap.size:=by have:=hb.size;rw [aE]at this;omega
  have c3:(w1.alloc (.cells #[.int .i64 0, .int .i64 0, .int .i64 0, .slice none 0 0] 27)).cell? ⟨w1.heap.size,0,none⟩=some (.int .i64 0):=Ll.out.cell 0;have f1:=dS he;obtain⟨hn,hw⟩:=A1 hx 0 bad;rw [<- Ky.out]at hn hw;have HN:=V hn;have HW:=V (hw ⟨1,0⟩);clear hb he hn hw hx c0;go_wp2_with fail;refine(kN w0 _ R _ 0 false (by omega) HH.out).mono ?_;rintro e w2 ⟨rfl,hh,hk⟩;have HH:=V hh;have KI:=V (KI.out.keeps hk (by omega));have Ll:=V (Ll.out.keeps hk (by omega));have HK:=V (HK.out.trans hk (fun _ h=> .inl h));clear hh hk;clear c3;go_wp2_with fail;refine(iZ w0 w2 R _ HH.out).mono ?_;rintro e w3 ⟨rfl,hh,hk⟩;have HH:=V hh;have KI:=V (KI.out.keeps hk (by omega));have Ll:=V (Ll.out.keeps hk (by omega));have HK:=V (HK.out.trans hk (fun _ h=> .inl h));clear hh hk;obtain⟨x0,x1,z0,z1⟩:=KI.out.two;have d0:w3.cell? ⟨w1.heap.size,0,none⟩=some (.int .i64 0):=Ll.out.cell 0;have d1:w3.cell? ⟨w1.heap.size,1,none⟩=some (.int .i64 0):=Ll.out.cell 1;go_wp2_with fail;have hx:=KI.out.mP (.int .i64 1) (.int .i64 0);have Kz:=fF w3 w.heap.size (.int .i64 1) (.int .i64 0);refine aM (ey rfl _ _ rfl hx.mq) rfl ?_;exact⟨⟨1,0⟩,rfl,JP (.inl rfl) HA.out,HW.out,by rw [HN.out];exact HH.out.keeps Kz (by omega) (fun i hi=>by omega),HK.out.jc Kz (ag _)⟩
def EV (w0 w:World) (R:Nat) (st:fZ) (e:Ending) (w':World):Prop:=
 ∃n:Int,e= .returned (.int .i64 n)/\iI n/\gU jk st n/\fm w0 w' R (ei jk st)/\dU (fun k=>k=R) w w'
theorem A0 (st:fZ):ei jk st=ei gG (ei eZ st):=by rw [rR,fu,gP]
theorem Dj {st:fZ} {v:fa} (h:gU gG (ei eZ st) v):gU jk st v.n:=by
 rw [rR];exact fD (f:=fun x=>x.2.n) (ig (mz st) h)
theorem rT (w0 w:World) (R:Nat) (st:fZ) (h:fm w0 w R st):Calls prog 221 #[.pointer (some ⟨R,0,none⟩)] w (EV w0 w R st):=by
 have HH:=V h;clear h;go_enter func221,ntmps221;go_wp2_with fail;refine(iZ w0 w R st HH.out).mono ?_;rintro e w1 ⟨rfl,h1,hk⟩;have HH1:=V h1;have HK:=V hk;clear h1 hk;go_wp2_with fail;refine(vL w0 w1 R _ HH1.out).mono ?_;rintro e w2 ⟨v,rfl,KF,hw,h2,hk⟩;have HH2:=V h2;have LK:=V (HK.out.trans hk (fun _ h=> .inl h));have HW:=V (Dj hw);obtain⟨n1,n2⟩:=KF.2;have hfd:∀wx:World,(Instr.field 42 (.agg #[.int .i64 v.kind, .int .i64 v.n]) 1).run prog wx= .ok (.int .i64 v.n) wx:=fun _=>by kernel_rfl
 clear h2 hk hw;go_wp2_with fail;go_ret;exact⟨v.n,rfl,⟨n1,n2⟩,HW.out,by rw [A0];exact HH2.out,LK.out⟩
def IF (w0 w:World) (R:Nat) (st:fZ) (e:Ending) (w':World):Prop:=
 ∃x:fP,e= .returned (.agg #[.bool x.has, .int .i64 x.min, .int .i64 x.max])/\x.ok/\gU gg st x/\fm w0 w' R (ei gg st)/\dU (fun k=>k=R) w w'
theorem zi {st:fZ} (h:nc st=0):ei gg st=ei fU (ei eZ st)/\gU gg st ⟨true,iN (ei eZ st),-1⟩:=by
 match st,h with
 | none,_=>exact⟨rfl,mA _ _⟩
 | some [],_=>exact⟨rfl,fun y hy=>by simp [gg,eZ]at hy⟩
 | some (c::l),h=>
  obtain rfl:c=0:=h;simp only [ei,iN,aw,bE,eZ,gg,gU];cases hn:fU l with
  | none=>simp
  | some y=>simp
theorem yx {st:fZ} (h:nc st≠0):ei gg st=ei fU (ei fU (ei eZ st))/\gU gg st ⟨true,iN (ei eZ st),iN (ei fU (ei eZ st))⟩:=by
 match st,h with
 | none,_=>exact⟨rfl,mA _ _⟩
 | some [],_=>exact⟨rfl,fun y hy=>by simp [gg,eZ]at hy⟩
 | some (c::l),h=>
  have hc:c≠0:=h;simp only [ei,iN,aw,bE,eZ,gg,gU,hc,if_false];cases hn:fU l with
  | none=>simp
  | some y=>
   simp only [aw,bE];cases hn2:fU y.2 with
   | none=>simp
   | some z=>simp
theorem Io {n:Nat} {m:Int} (hn:n < 4294967296) (hm: -1 <=m/\m < 4294967296):fP.ok ⟨true,n,m⟩:=⟨⟨by show(-9223372036854775808:Int) <=n;omega,by show(n:Int) <=9223372036854775807;omega⟩,by show(-9223372036854775808:Int) <=m;omega,by show m <=9223372036854775807;omega⟩
theorem tv (w0 w:World) (R:Nat) (st:fZ) (h:fm w0 w R st):Calls prog 274 #[.pointer (some ⟨R,0,none⟩)] w (IF w0 w R st):=by
 have Mm:=h.lt;have OL:=h.old.2;have HH:=V ((h.alloc (.cells #[.bool false, .int .i64 0, .int .i64 0] 55)).alloc (.cells #[.bool true, .int .i64 0, .int .i64 (-1)] 55));have KI:=V ((eG.new w #[.bool false, .int .i64 0, .int .i64 0] 55).alloc (.cells #[.bool true, .int .i64 0, .int .i64 (-1)] 55));have Ll:Hid (eG ((w.alloc (.cells #[.bool false, .int .i64 0, .int .i64 0] 55)).alloc (.cells #[.bool true, .int .i64 0, .int .i64 (-1)] 55)) (w.heap.size+1) #[.bool true, .int .i64 0, .int .i64 (-1)] 55):=V (by have:=eG.new (w.alloc (.cells #[.bool false, .int .i64 0, .int .i64 0] 55)) #[.bool true, .int .i64 0, .int .i64 (-1)] 55;rw [aE]at this;exact this);have HK:=V (((dU.refl (fun k=>k=R) w).alloc (.cells #[.bool false, .int .i64 0, .int .i64 0] 55)).alloc (.cells #[.bool true, .int .i64 0, .int .i64 (-1)] 55));have hn1:=iG (ei eZ st);have hn2:=iG (ei fU (ei eZ st));obtain⟨n,en⟩:∃n,iN (ei eZ st)=n:=⟨_,rfl⟩;obtain⟨m,em⟩:∃m,iN (ei fU (ei eZ st))=m:=⟨_,rfl⟩;obtain⟨c,ec⟩:∃c,nc st=c:=⟨_,rfl⟩;rw [en]at hn1;rw [em]at hn2;have EN:=V en;have EM:=V em;have EC:=V ec;clear h en em ec;go_enter func274,ntmps274;go_wp2_with fail;refine(iZ w0 _ R st HH.out).mono ?_;rintro e w1 ⟨rfl,hh,hk⟩;have HH:=V hh;have KI:=V (KI.out.keeps hk (by omega));have Ll:=V (Ll.out.keeps hk (by omega));have HK:=V (HK.out.trans hk (fun _ h=> .inl h));clear hh hk;rw [EC.out];by_cases q:c=0
 ·have f1:((c.toNat:Int) !=0)=false:=by rw [q];rfl
  have HN:=V ((zi (EC.out.trans q)).1);have HW:=V (show gU gg st ⟨true,n,-1⟩by rw [<- EN.out];exact(zi (EC.out.trans q)).2);clear q;go_wp2_with fail;refine(gZ w0 w1 R _ HH.out).mono ?_;rintro e w2 ⟨rfl,hh,hk⟩;have HH:=V hh;have KI:=V (KI.out.keeps hk (by omega));have Ll:=V (Ll.out.keeps hk (by omega));have HK:=V (HK.out.trans hk (fun _ h=> .inl h));clear hh hk;rw [EN.out];obtain⟨y0,y1,y2,-,u1,u2⟩:=Ll.out.F8;obtain⟨x0,x1,x2,z0,z1,z2⟩:=KI.out.F8;have Ll:=V ((Ll.out.set 1 (.int .i64 n)));have KI:=V (KI.out.other ⟨w.heap.size+1,1,none⟩ (.int .i64 n) (by show w.heap.size≠w.heap.size+1;omega));have HH:=V (HH.out.keeps (eu w2 (w.heap.size+1) 1 (.int .i64 n)) (by omega) (fun i hi=>by omega));have HK:=V (HK.out.jc (eu w2 (w.heap.size+1) 1 (.int .i64 n)) (by omega));go_wp2_with fail;have hx:=KI.out.ui (.bool true) (.int .i64 n) (.int .i64 (-1));have Kz:=ky (w2.setCell ⟨w.heap.size+1,1,none⟩ (.int .i64 n)) w.heap.size (.bool true) (.int .i64 n) (.int .i64 (-1));refine aM (ey rfl _ _ rfl hx.pA) rfl ?_;exact⟨⟨true,n,(-1)⟩,rfl,Io hn1 (by omega),HW.out,by rw [HN.out];exact HH.out.keeps Kz (by omega) (fun i hi=>by omega),HK.out.jc Kz (ag _)⟩
 ·have f1:((c.toNat:Int) !=0)=true:=ff (fun h=>q (dx.1 (by show c.toNat=0;omega)))
  have HN:=V ((yx (fun h=>q (EC.out.symm.trans h))).1);have HW:=V (show gU gg st ⟨true,n,m⟩by rw [<- EN.out, <- EM.out];exact(yx (fun h=>q (EC.out.symm.trans h))).2);clear q;go_wp2_with fail;refine(gZ w0 w1 R _ HH.out).mono ?_;rintro e w2 ⟨rfl,hh,hk⟩;have HH:=V hh;have KI:=V (KI.out.keeps hk (by omega));have Ll:=V (Ll.out.keeps hk (by omega));have HK:=V (HK.out.trans hk (fun _ h=> .inl h));clear hh hk;rw [EN.out];have y1:=Ll.out.cell 1;have u1:=Ll.out.free 1;have Ll:=V ((Ll.out.set 1 (.int .i64 n)));have KI:=V (KI.out.other ⟨w.heap.size+1,1,none⟩ (.int .i64 n) (by show w.heap.size≠w.heap.size+1;omega));have HH:=V (HH.out.keeps (eu w2 (w.heap.size+1) 1 (.int .i64 n)) (by omega) (fun i hi=>by omega));have HK:=V (HK.out.jc (eu w2 (w.heap.size+1) 1 (.int .i64 n)) (by omega));have Ll:=V (show eG (w2.setCell ⟨w.heap.size+1,1,none⟩ (.int .i64 n)) (w.heap.size+1) #[.bool true, .int .i64 n, .int .i64 (-1)] 55 from by simpa using Ll.out);go_wp2_with fail;refine(gZ w0 _ R _ HH.out).mono ?_;rintro e w3 ⟨rfl,hh,hk⟩;have HH:=V hh;have KI:=V (KI.out.keeps hk (by omega));have Ll:=V (Ll.out.keeps hk (by omega));have HK:=V (HK.out.trans hk (fun _ h=> .inl h));clear hh hk;clear y1 u1;rw [EM.out];obtain⟨y0,y1,y2,-,u1,u2⟩:=Ll.out.F8;obtain⟨x0,x1,x2,z0,z1,z2⟩:=KI.out.F8;have Ll:=V ((Ll.out.set 2 (.int .i64 m)));have KI:=V (KI.out.other ⟨w.heap.size+1,2,none⟩ (.int .i64 m) (by show w.heap.size≠w.heap.size+1;omega));have HH:=V (HH.out.keeps (eu w3 (w.heap.size+1) 2 (.int .i64 m)) (by omega) (fun i hi=>by omega));have HK:=V (HK.out.jc (eu w3 (w.heap.size+1) 2 (.int .i64 m)) (by omega));go_wp2_with fail;have hx:=KI.out.ui (.bool true) (.int .i64 n) (.int .i64 m);have Kz:=ky (w3.setCell ⟨w.heap.size+1,2,none⟩ (.int .i64 m)) w.heap.size (.bool true) (.int .i64 n) (.int .i64 m);refine aM (ey rfl _ _ rfl hx.pA) rfl ?_;exact⟨⟨true,n,m⟩,rfl,Io hn1 (by omega),HW.out,by rw [HN.out];exact HH.out.keeps Kz (by omega) (fun i hi=>by omega),HK.out.jc Kz (ag _)⟩
theorem Hd (w0:World) (Y:Nat) (get:iU (fP)) (P:fP ->Prop) (hG:iM get) (st:fZ) (w:World) (Kv:Nat) (bs cs:Array Value)
  (hE:∀args w,(callFunc Kv args).run prog w= .ok (.enter Kv args) w) (h:fm w0 w Y st)
  (hp:∀s w1,fm w0 w1 Y s ->dU (fun k=>k=Y) w w1 ->Calls prog Kv (bs++cs) w1 (DC (fun x:fP=> .agg #[.bool x.has, .int .i64 x.min, .int .i64 x.max]) w0 Y get P s w1)):
  Calls prog 272 #[.pointer (some ⟨Y,0,none⟩), .func (.func Kv) bs cs] w (JL 55 3 xJ w0 Y get P st w):=by
 have HP:=V hp;have HH:=V h;have hR:=h.lt;have HG:=V hG;clear hp h hG;go_enter func272,ntmps272;go_wp2_with fail;refine(gZ w0 w Y st HH.out).mono ?_;rintro e w1 ⟨rfl,h1,LN⟩;have Ms:=V (kh get st _ (iF st));have hn:=iG st;have hlen:=h1.len;obtain⟨N,eN⟩:∃N,iN st=N:=⟨_,rfl⟩;rw [eN]at hn Ms⊢;clear eN;go_wp2_with fail;refine eB (fun a' w'=>∃(v:Value) (acc:List (fP)) (n:Nat) (s:fZ),a'=fr (.pointer (some ⟨Y,0,none⟩):: .func (.func Kv) bs cs::gs a' 2 3 (v:: .int .i64 n::gs a' 7 19 []))/\dT 55 3 xJ w' w.heap.size v acc/\GC w0 Y get P st w w' acc n s) (fun a' _=>(intOf (a'.tmps.getD 6 undef)).toNat) ?_ ?_
 ·exact⟨_,[],N,ei fU st,rfl,dT.nil _ _,Ms.out,by simp,by simpa using hlen,h1,LN,hn⟩
 ·clear h1 LN hn hlen Ms HH
  rintro R a' w1 ⟨v,acc,n,s,Kw,hJ⟩ HR;dsimp only [fr,gs]at Kw;generalize slot a'=f at Kw;subst Kw;obtain⟨ho,Lx,KU,hlen,Lp,hk,hn⟩:=hJ;have K5:=V Lp;have K0:=V Lx;have KN:=V KU;have MY:=V hR;have Lr:=hk.size;have c1:=Lp.bad;have HO:=V ho;have Lz:∀i,eA v i ->¬ i=Y:=fun i hi=>by have:=(et ho hi).1;omega
  have P1:=V Lz;have HK:=V hk;clear ho Lz Lx KU Lp hk;rcases aZ n with L8 | L8
  ·obtain⟨g1,g2⟩:=gD get K0.out (.inl L8)
   have G1:=V g1;have G2:=V g2;subst L8;clear g1 g2;go_wp2_with fail;go_ret;exact⟨_,acc,rfl,HO.out,KN.out,by omega,G2.out,by rw [G1.out];exact K5.out,HK.out⟩
  have f0:decide ((0:Int) < (n:Int))=true:=aA (by omega);cases s with
  | none=>
   have c1:w1.cell? ⟨Y,1,none⟩=some (.bool true):=c1;obtain⟨g1,g2⟩:=gD get K0.out (.inr rfl);have G1:=V g1;have G2:=V g2;clear g1 g2;go_wp2_with fail;go_ret;exact⟨_,acc,rfl,HO.out,KN.out,by omega,G2.out,by rw [G1.out];exact K5.out,HK.out⟩
  | some lb=>
   have c1:w1.cell? ⟨Y,1,none⟩=some (.bool false):=c1;obtain⟨n',rfl⟩:∃n',n=n'+1:=⟨n - 1,by omega⟩;have KC:=HG.out.len lb;have OP:acc.length <=8001:=by omega
   have MI:=V (show acc.length+1+(ei get (some lb)).len <=8001 by omega);clear KC hlen;go_wp2_with fail;refine(HP.out (some lb) w1 K5.out HK.out).mono ?_;rintro e w2 ⟨x,rfl,Od,NK,h2,KB⟩;have Lq:=V (dT.keeps HO.out KB P1.out);obtain⟨av,cv,ev,_,LC,-⟩:=Lq.out.fy yR;subst ev;unfold maxLen at LC;have LI:=V h2;have Pl:=V Od;have L6:=V (K0.out.trans (ju get n' acc NK));have LK:=V (HK.out.trans KB (fun _ h=> .inl h));have Oi:=V (show w.heap.size <=w1.heap.size from HK.out.size);have MC:=V (show w.heap.size <=w2.heap.size from LK.out.size);clear Od NK h2 KB c1;go_wp2_with (first | (at_builtin;refine eT w2 rfl _ _ 249 rfl _ 24 (by kernel_rfl) Ey rfl (by decide) (by decide) w.heap.size (.slice av acc.length cv) acc rfl Lq.out x _ rfl rfl (Jk x) rfl (by omega) MC.out ?_));intro v3 w3 LD K7 Md;have MW:=V LD;have K8:∀i,eA (.slice av acc.length cv) i ->w.heap.size <=i/\i < w2.heap.size:=fun i hi=>et Lq.out hi;have ML:=V (LI.out.keeps K7 (fun h=>by have:=(K8 _ h).1;have:=MY.out;omega) (fun i hi=>by have:=(K8 i hi).1;have:=LI.out.old.2;have:=MY.out;omega));have OW:=V (LK.out.trans K7 (fun i hi=> .inr (K8 i hi).1));clear LD K7 Md K8;go_wp2_with fail;refine HR.out _ _ ⟨_,acc++[x],n',ei get (some lb),rfl,MW.out,L6.out,?_,?_,ML.out,OW.out,by omega⟩ ?_
   ·intro y hy
    rcases bx.1 hy with h | h
    ·exact KN.out y h
    ·obtain rfl:=aV.1 h
     exact Pl.out
   ·rw [ah]
    exact MI.out
   ·simp [intOf]
theorem Hj (w0:World) (Y:Nat) (get:iU (ja)) (P:ja ->Prop) (hG:iM get) (st:fZ) (w:World) (Kv:Nat) (bs cs:Array Value)
  (hE:∀args w,(callFunc Kv args).run prog w= .ok (.enter Kv args) w) (h:fm w0 w Y st)
  (hp:∀s w1,fm w0 w1 Y s ->dU (fun k=>k=Y) w w1 ->Calls prog Kv (bs++cs) w1 (DC (fun x:ja=> .agg #[.bool x.isVar, .int .i64 x.init.kind, .int .i64 x.init.n]) w0 Y get P s w1)):
  Calls prog 215 #[.pointer (some ⟨Y,0,none⟩), .func (.func Kv) bs cs] w (JL 120 3 sG w0 Y get P st w):=by
 have HP:=V hp;have HH:=V h;have hR:=h.lt;have HG:=V hG;clear hp h hG;go_enter func215,ntmps215;go_wp2_with fail;refine(gZ w0 w Y st HH.out).mono ?_;rintro e w1 ⟨rfl,h1,LN⟩;have Ms:=V (kh get st _ (iF st));have hn:=iG st;have hlen:=h1.len;obtain⟨N,eN⟩:∃N,iN st=N:=⟨_,rfl⟩;rw [eN]at hn Ms⊢;clear eN;go_wp2_with fail;refine eB (fun a' w'=>∃(v:Value) (acc:List (ja)) (n:Nat) (s:fZ),a'=fr (.pointer (some ⟨Y,0,none⟩):: .func (.func Kv) bs cs::gs a' 2 3 (v:: .int .i64 n::gs a' 7 19 []))/\dT 120 3 sG w' w.heap.size v acc/\GC w0 Y get P st w w' acc n s) (fun a' _=>(intOf (a'.tmps.getD 6 undef)).toNat) ?_ ?_
 ·exact⟨_,[],N,ei fU st,rfl,dT.nil _ _,Ms.out,by simp,by simpa using hlen,h1,LN,hn⟩
 ·clear h1 LN hn hlen Ms HH
  rintro R a' w1 ⟨v,acc,n,s,Kw,hJ⟩ HR;dsimp only [fr,gs]at Kw;generalize slot a'=f at Kw;subst Kw;obtain⟨ho,Lx,KU,hlen,Lp,hk,hn⟩:=hJ;have K5:=V Lp;have K0:=V Lx;have KN:=V KU;have MY:=V hR;have Lr:=hk.size;have c1:=Lp.bad;have HO:=V ho;have Lz:∀i,eA v i ->¬ i=Y:=fun i hi=>by have:=(et ho hi).1;omega
  have P1:=V Lz;have HK:=V hk;clear ho Lz Lx KU Lp hk;rcases aZ n with L8 | L8
  ·obtain⟨g1,g2⟩:=gD get K0.out (.inl L8)
   have G1:=V g1;have G2:=V g2;subst L8;clear g1 g2;go_wp2_with fail;go_ret;exact⟨_,acc,rfl,HO.out,KN.out,by omega,G2.out,by rw [G1.out];exact K5.out,HK.out⟩
  have f0:decide ((0:Int) < (n:Int))=true:=aA (by omega);cases s with
  | none=>
   have c1:w1.cell? ⟨Y,1,none⟩=some (.bool true):=c1;obtain⟨g1,g2⟩:=gD get K0.out (.inr rfl);have G1:=V g1;have G2:=V g2;clear g1 g2;go_wp2_with fail;go_ret;exact⟨_,acc,rfl,HO.out,KN.out,by omega,G2.out,by rw [G1.out];exact K5.out,HK.out⟩
  | some lb=>
   have c1:w1.cell? ⟨Y,1,none⟩=some (.bool false):=c1;obtain⟨n',rfl⟩:∃n',n=n'+1:=⟨n - 1,by omega⟩;have KC:=HG.out.len lb;have OP:acc.length <=8001:=by omega
   have MI:=V (show acc.length+1+(ei get (some lb)).len <=8001 by omega);clear KC hlen;go_wp2_with fail;refine(HP.out (some lb) w1 K5.out HK.out).mono ?_;rintro e w2 ⟨x,rfl,Od,NK,h2,KB⟩;have Lq:=V (dT.keeps HO.out KB P1.out);obtain⟨av,cv,ev,_,LC,-⟩:=Lq.out.fy zy;subst ev;unfold maxLen at LC;have LI:=V h2;have Pl:=V Od;have L6:=V (K0.out.trans (ju get n' acc NK));have LK:=V (HK.out.trans KB (fun _ h=> .inl h));have Oi:=V (show w.heap.size <=w1.heap.size from HK.out.size);have MC:=V (show w.heap.size <=w2.heap.size from LK.out.size);clear Od NK h2 KB c1;go_wp2_with (first | (at_builtin;refine eT w2 rfl _ _ 56 rfl _ 24 (by kernel_rfl) Da rfl (by decide) (by decide) w.heap.size (.slice av acc.length cv) acc rfl Lq.out x _ rfl rfl (Jv x) rfl (by omega) MC.out ?_));intro v3 w3 LD K7 Md;have MW:=V LD;have K8:∀i,eA (.slice av acc.length cv) i ->w.heap.size <=i/\i < w2.heap.size:=fun i hi=>et Lq.out hi;have ML:=V (LI.out.keeps K7 (fun h=>by have:=(K8 _ h).1;have:=MY.out;omega) (fun i hi=>by have:=(K8 i hi).1;have:=LI.out.old.2;have:=MY.out;omega));have OW:=V (LK.out.trans K7 (fun i hi=> .inr (K8 i hi).1));clear LD K7 Md K8;go_wp2_with fail;refine HR.out _ _ ⟨_,acc++[x],n',ei get (some lb),rfl,MW.out,L6.out,?_,?_,ML.out,OW.out,by omega⟩ ?_
   ·intro y hy
    rcases bx.1 hy with h | h
    ·exact KN.out y h
    ·obtain rfl:=aV.1 h
     exact Pl.out
   ·rw [ah]
    exact MI.out
   ·simp [intOf]
theorem H9 (w0:World) (Y:Nat) (get:iU (iC)) (P:iC ->Prop) (hG:iM get) (st:fZ) (w:World) (Kv:Nat) (bs cs:Array Value)
  (hE:∀args w,(callFunc Kv args).run prog w= .ok (.enter Kv args) w) (h:fm w0 w Y st)
  (hp:∀s w1,fm w0 w1 Y s ->dU (fun k=>k=Y) w w1 ->Calls prog Kv (bs++cs) w1 (DC (fun x:iC=> .agg #[.string x.name, .int .i64 x.func]) w0 Y get P s w1)):
  Calls prog 217 #[.pointer (some ⟨Y,0,none⟩), .func (.func Kv) bs cs] w (JL 111 2 qK w0 Y get P st w):=by
 have HP:=V hp;have HH:=V h;have hR:=h.lt;have HG:=V hG;clear hp h hG;go_enter func217,ntmps217;go_wp2_with fail;refine(gZ w0 w Y st HH.out).mono ?_;rintro e w1 ⟨rfl,h1,LN⟩;have Ms:=V (kh get st _ (iF st));have hn:=iG st;have hlen:=h1.len;obtain⟨N,eN⟩:∃N,iN st=N:=⟨_,rfl⟩;rw [eN]at hn Ms⊢;clear eN;go_wp2_with fail;refine eB (fun a' w'=>∃(v:Value) (acc:List (iC)) (n:Nat) (s:fZ),a'=fr (.pointer (some ⟨Y,0,none⟩):: .func (.func Kv) bs cs::gs a' 2 3 (v:: .int .i64 n::gs a' 7 19 []))/\dT 111 2 qK w' w.heap.size v acc/\GC w0 Y get P st w w' acc n s) (fun a' _=>(intOf (a'.tmps.getD 6 undef)).toNat) ?_ ?_
 ·exact⟨_,[],N,ei fU st,rfl,dT.nil _ _,Ms.out,by simp,by simpa using hlen,h1,LN,hn⟩
 ·clear h1 LN hn hlen Ms HH
  rintro R a' w1 ⟨v,acc,n,s,Kw,hJ⟩ HR;dsimp only [fr,gs]at Kw;generalize slot a'=f at Kw;subst Kw;obtain⟨ho,Lx,KU,hlen,Lp,hk,hn⟩:=hJ;have K5:=V Lp;have K0:=V Lx;have KN:=V KU;have MY:=V hR;have Lr:=hk.size;have c1:=Lp.bad;have HO:=V ho;have Lz:∀i,eA v i ->¬ i=Y:=fun i hi=>by have:=(et ho hi).1;omega
  have P1:=V Lz;have HK:=V hk;clear ho Lz Lx KU Lp hk;rcases aZ n with L8 | L8
  ·obtain⟨g1,g2⟩:=gD get K0.out (.inl L8)
   have G1:=V g1;have G2:=V g2;subst L8;clear g1 g2;go_wp2_with fail;go_ret;exact⟨_,acc,rfl,HO.out,KN.out,by omega,G2.out,by rw [G1.out];exact K5.out,HK.out⟩
  have f0:decide ((0:Int) < (n:Int))=true:=aA (by omega);cases s with
  | none=>
   have c1:w1.cell? ⟨Y,1,none⟩=some (.bool true):=c1;obtain⟨g1,g2⟩:=gD get K0.out (.inr rfl);have G1:=V g1;have G2:=V g2;clear g1 g2;go_wp2_with fail;go_ret;exact⟨_,acc,rfl,HO.out,KN.out,by omega,G2.out,by rw [G1.out];exact K5.out,HK.out⟩
  | some lb=>
   have c1:w1.cell? ⟨Y,1,none⟩=some (.bool false):=c1;obtain⟨n',rfl⟩:∃n',n=n'+1:=⟨n - 1,by omega⟩;have KC:=HG.out.len lb;have OP:acc.length <=8001:=by omega
   have MI:=V (show acc.length+1+(ei get (some lb)).len <=8001 by omega);clear KC hlen;go_wp2_with fail;refine(HP.out (some lb) w1 K5.out HK.out).mono ?_;rintro e w2 ⟨x,rfl,Od,NK,h2,KB⟩;have Lq:=V (dT.keeps HO.out KB P1.out);obtain⟨av,cv,ev,_,LC,-⟩:=Lq.out.fy zB;subst ev;unfold maxLen at LC;have LI:=V h2;have Pl:=V Od;have L6:=V (K0.out.trans (ju get n' acc NK));have LK:=V (HK.out.trans KB (fun _ h=> .inl h));have Oi:=V (show w.heap.size <=w1.heap.size from HK.out.size);have MC:=V (show w.heap.size <=w2.heap.size from LK.out.size);clear Od NK h2 KB c1;go_wp2_with (first | (at_builtin;refine eT w2 rfl _ _ 57 rfl _ 24 (by kernel_rfl) yW rfl (by decide) (by decide) w.heap.size (.slice av acc.length cv) acc rfl Lq.out x _ rfl rfl (JD x) rfl (by omega) MC.out ?_));intro v3 w3 LD K7 Md;have MW:=V LD;have K8:∀i,eA (.slice av acc.length cv) i ->w.heap.size <=i/\i < w2.heap.size:=fun i hi=>et Lq.out hi;have ML:=V (LI.out.keeps K7 (fun h=>by have:=(K8 _ h).1;have:=MY.out;omega) (fun i hi=>by have:=(K8 i hi).1;have:=LI.out.old.2;have:=MY.out;omega));have OW:=V (LK.out.trans K7 (fun i hi=> .inr (K8 i hi).1));clear LD K7 Md K8;go_wp2_with fail;refine HR.out _ _ ⟨_,acc++[x],n',ei get (some lb),rfl,MW.out,L6.out,?_,?_,ML.out,OW.out,by omega⟩ ?_
   ·intro y hy
    rcases bx.1 hy with h | h
    ·exact KN.out y h
    ·obtain rfl:=aV.1 h
     exact Pl.out
   ·rw [ah]
    exact MI.out
   ·simp [intOf]
theorem dT.stay {α:Type} {t:TypeId} {k:Nat} {enc:α ->List Value} {w w':World} {B:Nat} {v:Value} {l:List α} {S:Nat ->Prop} (h:dT t k enc w B v l) (hk:dU S w w') (hs:∀i,S i ->i < B):dT t k enc w' B v l:=
 h.keeps hk (fun i hi hp=>by have:=(et h hi).1;have:=hs i hp;omega)
theorem dT.lower {α:Type} {t:TypeId} {k:Nat} {enc:α ->List Value} {w:World} {B B':Nat} {v:Value} {l:List α} (h:dT t k enc w B v l) (hB:B' <=B):dT t k enc w B' v l:=
 mD h (fun _ hk=>aW hB (et h hk).1)
theorem BR (st:fZ):iI (nJ st):=by
 rcases(zj st).2 with h;rw [h];split
 ·exact⟨by decide,by decide⟩
 ·split <;>exact⟨by decide,by decide⟩
theorem Dq (w0 w:World) (R:Nat) (s:fZ) (h:fm w0 w R s):Calls prog 270 (#[.pointer (some ⟨R,0,none⟩)]++#[]) w (DC (fun x:Int=> .int .i64 x) w0 R gJ iI s w):=by
 refine(tW w0 w R s h).mono ?_;rintro e w' ⟨rfl,h1,h2⟩;exact⟨nJ s,rfl,BR s,wv s,h1,h2⟩
theorem Al (n:Nat) (h:n < 4294967296):iI n:=⟨by show(-9223372036854775808:Int) <=n;omega,by show(n:Int) <=9223372036854775807;omega⟩
theorem FI (w0 w:World) (R:Nat) (s:fZ) (h:fm w0 w R s):Calls prog 110 (#[.pointer (some ⟨R,0,none⟩)]++#[]) w (DC (fun x:Int=> .int .i64 x) w0 R uV iI s w):=by
 refine(gZ w0 w R s h).mono ?_;rintro e w' ⟨rfl,h1,h2⟩;exact⟨iN s,rfl,Al _ (iG s),by rw [qk];exact fD (iF s),by rw [qk,fu];exact h1,h2⟩
theorem EP (w0 w:World) (R:Nat) (st:fZ) (h:fm w0 w R st):Calls prog 210 (#[.pointer (some ⟨R,0,none⟩)]++#[]) w (Ij (fun(_:gr) (u:Value × Value)=> .agg #[u.1,u.2]) gI w0 R oN (fun _=>True) st w):=by
 have Mm:=h.lt;have OL:=h.old.2;have HH:=V (h.alloc (.cells #[.slice none 0 0, .slice none 0 0] 109));have HX:=V (eG.new w #[.slice none 0 0, .slice none 0 0] 109);have HK:=V ((dU.refl (fun k=>k=R) w).alloc (.cells #[.slice none 0 0, .slice none 0 0] 109));have Lr:(w.alloc (.cells #[.slice none 0 0, .slice none 0 0] 109)).heap.size=w.heap.size+1:=aE _ _;have LR:=df Lr.symm;clear h Lr;go_enter func210,ntmps210;go_wp2_with fail;refine(iZ w0 _ R st HH.out).mono ?_;rintro e w1 ⟨rfl,hh,hk⟩;have LR:=aW LR hk.size;have HH:=V hh;have HX:=V (HX.out.keeps hk (by omega));have HK:=V (HK.out.trans hk (fun _ h=> .inl h));clear hh hk;go_wp2_with fail;refine(nI w0 R gJ iI lz _ w1 270 #[.pointer (some ⟨R,0,none⟩)] #[] (fun _ _=>by rfl) HH.out (fun s w1 h _=>Dq w0 w1 R s h)).mono ?_;rintro e w2 ⟨v1,l1,rfl,NH,hp1,Qk,Ps,hh,hk⟩;obtain⟨a1,c1,rfl,-,-⟩:=NH.slice;have Mz:=aW LR hk.size;have Mq:=V NH;have HP1:=V hp1;have Lo:=V Ps;clear NH hp1 Ps;have HH:=V hh;have HX:=V (HX.out.keeps hk (by omega));have HK:=V (HK.out.trans hk (fun _ h=> .inl h));clear hh hk;go_wp2_with fail;refine(nI w0 R gJ iI lz _ w2 270 #[.pointer (some ⟨R,0,none⟩)] #[] (fun _ _=>by rfl) HH.out (fun s w1 h _=>Dq w0 w1 R s h)).mono ?_;rintro e w3 ⟨v2,l2,rfl,KQ,Pt,hl2,MV,hh,hk⟩;obtain⟨a2,c2,rfl,-,-⟩:=KQ.slice;have Mq:=V (Mq.out.stay hk (fun i hi=>by omega));have Lq:=V KQ;have HP2:=V Pt;have KM:=V MV;clear KQ Pt MV;have HH:=V hh;have HX:=V (HX.out.keeps hk (by omega));have HK:=V (HK.out.trans hk (fun _ h=> .inl h));clear hh hk;obtain⟨x0,x1,z0,z1⟩:=HX.out.two;go_wp2_with fail;have hx:=HX.out.mP (.slice a1 l1.length c1) (.slice a2 l2.length c2);have Kz:=fF w3 w.heap.size (.slice a1 l1.length c1) (.slice a2 l2.length c2);refine aM (ey rfl _ _ rfl hx.kQ) rfl ?_;have o1:=((Mq.out.stay Kz (fun i hi=>by omega)).lower (show w.heap.size <=w1.heap.size by omega));have o2:=((Lq.out.stay Kz (fun i hi=>by omega)).lower (show w.heap.size <=w2.heap.size by omega));refine⟨⟨l1,l2⟩,(.slice a1 l1.length c1, .slice a2 l2.length c2),rfl,⟨⟨jm fw o1,jm fw o2⟩,HP1.out,HP2.out⟩,trivial,?_,?_,HK.out.jc Kz (ag _)⟩
 ·rw [uI]
  exact fD (f:=fun x:UInt8 × List Int × List Int=>gr.mk x.2.1 x.2.2) (ig (mz st) (ig Lo.out KM.out))
 ·rw [uI,fu,gP,gP]
  exact HH.out.keeps Kz (by omega) (fun i hi=>by omega)
theorem qp {w0 w:World} {R:Nat} {st:fZ} (h:fm w0 w R st):(wR st).size <=8000:=by
 have:=yG h;show((nH st).toArray).size <=8000;simpa using this
def jh.fits (x:jh):Prop:=x.mod.size <=8000/\x.name.size <=8000/\iI x.type
def iC.fits (x:iC):Prop:=x.name.size <=8000/\iI x.func
theorem Ah (w0 w:World) (R:Nat) (st:fZ) (h:fm w0 w R st):Calls prog 212 (#[.pointer (some ⟨R,0,none⟩)]++#[]) w (DC (fun x:jh=> .agg #[.string x.mod, .string x.name, .int .i64 x.type]) w0 R tH jh.fits st w):=by
 have Mm:=h.lt;have OL:=h.old.2;have HH:=V (h.alloc (.cells #[.string (bs []), .string (bs []), .int .i64 0] 118));have HX:=V (eG.new w #[.string (bs []), .string (bs []), .int .i64 0] 118);have HK:=V ((dU.refl (fun k=>k=R) w).alloc (.cells #[.string (bs []), .string (bs []), .int .i64 0] 118));have Lr:(w.alloc (.cells #[.string (bs []), .string (bs []), .int .i64 0] 118)).heap.size=w.heap.size+1:=aE _ _;have LR:=df Lr.symm;have HT1:=V (qp h);clear h Lr;go_enter func212,ntmps212;go_wp2_with fail;refine(uo w0 _ R st HH.out).mono ?_;rintro e w1 ⟨rfl,hh,hk⟩;have LR:=aW LR hk.size;have HH:=V hh;have HX:=V (HX.out.keeps hk (by omega));have HK:=V (HK.out.trans hk (fun _ h=> .inl h));clear hh hk;have HT2:=V (qp HH.out);go_wp2_with fail;refine(uo w0 w1 R _ HH.out).mono ?_;rintro e w2 ⟨rfl,hh,hk⟩;have Mz:=aW LR hk.size;have HH:=V hh;have HX:=V (HX.out.keeps hk (by omega));have HK:=V (HK.out.trans hk (fun _ h=> .inl h));clear hh hk;obtain⟨s1,es1⟩:∃s,wR st=s:=⟨_,rfl⟩;obtain⟨s2,es2⟩:∃s,wR (ei jB st)=s:=⟨_,rfl⟩;rw [es1]at HT1;rw [es2]at HT2;rw [es1,es2];have ES1:=V es1;have ES2:=V es2;clear es1 es2;have HY:=V (eG.new w2 #[.string s1, .string s2, .int .i64 0] 118);have HX:=V (HX.out.alloc (.cells #[.string s1, .string s2, .int .i64 0] 118));have HK:=V (HK.out.alloc (.cells #[.string s1, .string s2, .int .i64 0] 118));have HH:=V (HH.out.alloc (.cells #[.string s1, .string s2, .int .i64 0] 118));go_wp2_with fail;refine(iZ w0 _ R _ HH.out).mono ?_;rintro e w3 ⟨rfl,hh,hk⟩;have HH:=V hh;have HX:=V (HX.out.keeps hk (by omega));have HY:=V (HY.out.keeps hk (by omega));have HK:=V (HK.out.trans hk (fun _ h=> .inl h));clear hh hk;go_wp2_with fail;refine(gZ w0 w3 R _ HH.out).mono ?_;rintro e w4 ⟨rfl,hh,hk⟩;have HH:=V hh;have HX:=V (HX.out.keeps hk (by omega));have HY:=V (HY.out.keeps hk (by omega));have HK:=V (HK.out.trans hk (fun _ h=> .inl h));clear hh hk;have hn:=iG (ei eZ (ei jB (ei jB st)));obtain⟨n,en⟩:∃n,iN (ei eZ (ei jB (ei jB st)))=n:=⟨_,rfl⟩;rw [en]at hn⊢;have EN:=V en;clear en;obtain⟨y0,y1,y2,v0,v1,v2⟩:=HY.out.F8;obtain⟨x0,x1,x2,z0,z1,z2⟩:=HX.out.F8;go_wp2_with fail;have MQ:=eu w4 w2.heap.size 2 (.int .i64 n);have hx:=(HX.out.keeps MQ (by omega)).ui (.string s1) (.string s2) (.int .i64 n);have Kz:=ky (w4.setCell ⟨w2.heap.size,2,none⟩ (.int .i64 n)) w.heap.size (.string s1) (.string s2) (.int .i64 n);refine aM (ey rfl _ _ rfl hx.G4) rfl ?_;refine⟨⟨s1,s2,n⟩,rfl,⟨HT1.out,HT2.out,Al n hn⟩,?_,?_,(HK.out.jc MQ (by omega)).jc Kz (ag _)⟩
 ·rw [xq]
  refine fD (f:=fun x:ByteArray × ByteArray × UInt8 × Int=>jh.mk x.1 x.2.1 x.2.2.2) (x:=(s1,s2,_,(n:Int))) (ig ?_ (ig ?_ (ig (mz _) ?_)))
  ·rw [<- ES1.out];exact rB st
  ·rw [<- ES2.out];exact rB _
  ·rw [qk, <- EN.out]
   exact fD (f:=fun n:Nat=>(n:Int)) (iF _)
 ·rw [xq,fu,gP,gP,gP,qk,fu]
  exact(HH.out.keeps MQ (by omega) (fun i hi=>by omega)).keeps Kz (by omega) (fun i hi=>by omega)
theorem A6 (w0 w:World) (R:Nat) (st:fZ) (h:fm w0 w R st):Calls prog 218 (#[.pointer (some ⟨R,0,none⟩)]++#[]) w (DC (fun x:iC=> .agg #[.string x.name, .int .i64 x.func]) w0 R tG iC.fits st w):=by
 have Mm:=h.lt;have OL:=h.old.2;have HH:=V (h.alloc (.cells #[.string (bs []), .int .i64 0] 111));have HX:=V (eG.new w #[.string (bs []), .int .i64 0] 111);have HK:=V ((dU.refl (fun k=>k=R) w).alloc (.cells #[.string (bs []), .int .i64 0] 111));have Lr:(w.alloc (.cells #[.string (bs []), .int .i64 0] 111)).heap.size=w.heap.size+1:=aE _ _;have LR:=df Lr.symm;have HT1:=V (qp h);clear h Lr;go_enter func218,ntmps218;go_wp2_with fail;refine(uo w0 _ R st HH.out).mono ?_;rintro e w2 ⟨rfl,hh,hk⟩;have Mz:=aW LR hk.size;have HH:=V hh;have HX:=V (HX.out.keeps hk (by omega));have HK:=V (HK.out.trans hk (fun _ h=> .inl h));clear hh hk;obtain⟨s1,es1⟩:∃s,wR st=s:=⟨_,rfl⟩;rw [es1]at HT1;rw [es1];have ES1:=V es1;clear es1;have HY:=V (eG.new w2 #[.string s1, .int .i64 0] 111);have HX:=V (HX.out.alloc (.cells #[.string s1, .int .i64 0] 111));have HK:=V (HK.out.alloc (.cells #[.string s1, .int .i64 0] 111));have HH:=V (HH.out.alloc (.cells #[.string s1, .int .i64 0] 111));go_wp2_with fail;refine(iZ w0 _ R _ HH.out).mono ?_;rintro e w3 ⟨rfl,hh,hk⟩;have HH:=V hh;have HX:=V (HX.out.keeps hk (by omega));have HY:=V (HY.out.keeps hk (by omega));have HK:=V (HK.out.trans hk (fun _ h=> .inl h));clear hh hk;go_wp2_with fail;refine(gZ w0 w3 R _ HH.out).mono ?_;rintro e w4 ⟨rfl,hh,hk⟩;have HH:=V hh;have HX:=V (HX.out.keeps hk (by omega));have HY:=V (HY.out.keeps hk (by omega));have HK:=V (HK.out.trans hk (fun _ h=> .inl h));clear hh hk;have hn:=iG (ei eZ (ei jB st));obtain⟨n,en⟩:∃n,iN (ei eZ (ei jB st))=n:=⟨_,rfl⟩;rw [en]at hn⊢;have EN:=V en;clear en;obtain⟨y0,y1,v0,v1⟩:=HY.out.two;obtain⟨x0,x1,z0,z1⟩:=HX.out.two;go_wp2_with fail;have MQ:=eu w4 w2.heap.size 1 (.int .i64 n);have hx:=(HX.out.keeps MQ (by omega)).mP (.string s1) (.int .i64 n);have Kz:=fF (w4.setCell ⟨w2.heap.size,1,none⟩ (.int .i64 n)) w.heap.size (.string s1) (.int .i64 n);refine aM (ey rfl _ _ rfl hx.Gx) rfl ?_;refine⟨⟨s1,n⟩,rfl,⟨HT1.out,Al n hn⟩,?_,?_,(HK.out.jc MQ (by omega)).jc Kz (ag _)⟩
 ·rw [xK]
  refine fD (f:=fun x:ByteArray × UInt8 × Int=>iC.mk x.1 x.2.2) (x:=(s1,_,(n:Int))) (ig ?_ (ig (mz _) ?_))
  ·rw [<- ES1.out];exact rB st
  ·rw [qk, <- EN.out]
   exact fD (f:=fun n:Nat=>(n:Int)) (iF _)
 ·rw [xK,fu,gP,gP,qk,fu]
  exact(HH.out.keeps MQ (by omega) (fun i hi=>by omega)).keeps Kz (by omega) (fun i hi=>by omega)
theorem Aj (w0 w:World) (R:Nat) (st:fZ) (h:fm w0 w R st):Calls prog 216 (#[.pointer (some ⟨R,0,none⟩)]++#[]) w (DC (fun x:ja=> .agg #[.bool x.isVar, .int .i64 x.init.kind, .int .i64 x.init.n]) w0 R o9 (fun x=>x.init.ok) st w):=by
 have Mm:=h.lt;have OL:=h.old.2;have HH:=V (h.alloc (.cells #[.bool false, .int .i64 0, .int .i64 0] 120));have HX:=V (eG.new w #[.bool false, .int .i64 0, .int .i64 0] 120);have HK:=V ((dU.refl (fun k=>k=R) w).alloc (.cells #[.bool false, .int .i64 0, .int .i64 0] 120));clear h;go_enter func216,ntmps216;go_wp2_with fail;refine(tW w0 _ R st HH.out).mono ?_;rintro e w1 ⟨rfl,hh,hk⟩;have HH:=V hh;have HX:=V (HX.out.keeps hk (by omega));have HK:=V (HK.out.trans hk (fun _ h=> .inl h));clear hh hk;go_wp2_with fail;refine(iZ w0 w1 R _ HH.out).mono ?_;rintro e w2 ⟨rfl,hh,hk⟩;have HH:=V hh;have HX:=V (HX.out.keeps hk (by omega));have HK:=V (HK.out.trans hk (fun _ h=> .inl h));clear hh hk;obtain⟨c,ec⟩:∃c,nc (ei gJ st)=c:=⟨_,rfl⟩;rw [ec];have EC:=V ec;clear ec;go_wp2_with fail;refine(vL w0 w2 R _ HH.out).mono ?_;rintro e w3 ⟨v,rfl,KF,hw,hh,hk⟩;have LH:=V KF;have HW:=V hw;clear KF hw;have HH:=V hh;have HX:=V (HX.out.keeps hk (by omega));have HK:=V (HK.out.trans hk (fun _ h=> .inl h));clear hh hk;obtain⟨x0,x1,x2,z0,z1,z2⟩:=HX.out.F8;obtain⟨b,eb⟩:∃b,((c.toNat:Int) !=0)=b:=⟨_,rfl⟩;rw [eb];have EB:Hid ((c !=0)=b):=V (by
  rw [<- eb,dy];simp only [bne_iff_ne,ne_eq];refine not_congr ⟨fun h=>by rw [h];rfl,fun h=>dx.1 (by show c.toNat=0;omega)⟩)
 clear eb;go_wp2_with fail;have hx:=HX.out.ui (.bool b) (.int .i64 v.kind) (.int .i64 v.n);have Kz:=ky w3 w.heap.size (.bool b) (.int .i64 v.kind) (.int .i64 v.n);refine aM (ey rfl _ _ rfl hx.Ea) rfl ?_;refine⟨⟨b,v⟩,rfl,LH.out,?_,?_,HK.out.jc Kz (ag _)⟩
 ·rw [uR, <- EB.out, <- EC.out]
  exact fD (f:=fun x:Int × UInt8 × fa=>ja.mk (x.2.1 !=0) x.2.2) (ig (wv st) (ig (mz _) HW.out))
 ·rw [uR,fu,gP,gP]
  exact HH.out.keeps Kz (by omega) (fun i hi=>by omega)
def Gp (b:Bool):iU fP:=if b=true then kM else gg
theorem CA (b:Bool):iM (Gp b):=by cases b <;>first | exact o8 | exact tR
theorem I6 (w0 w:World) (R Rb Bb:Nat) (before:Bool) (s:fZ) (h:fm w0 w R s) (hr:eG w Rb #[.pointer (some ⟨R,0,none⟩)] 188) (hb:eG w Bb #[.bool before] 4) (n1:R < Rb) (n2:R < Bb):
  Calls prog 273 (#[]++#[.pointer (some ⟨Bb,0,none⟩), .pointer (some ⟨Rb,0,none⟩)]) w (DC (fun x:fP=> .agg #[.bool x.has, .int .i64 x.min, .int .i64 x.max]) w0 R (Gp before) fP.ok s w):=by
 have Mm:=h.lt;have OL:=h.old.2;have l1:=hr.lt;have l2:=hb.lt;have HH:=V (h.alloc (.cells #[.bool false, .int .i64 0, .int .i64 0] 55));have HX:=V (eG.new w #[.bool false, .int .i64 0, .int .i64 0] 55);have HK:=V ((dU.refl (fun k=>k=R) w).alloc (.cells #[.bool false, .int .i64 0, .int .i64 0] 55));have HA:=V (hr.alloc (.cells #[.bool false, .int .i64 0, .int .i64 0] 55));have HC:=V (hb.alloc (.cells #[.bool false, .int .i64 0, .int .i64 0] 55));have a0:=HA.out.cell 0;have c0:=HC.out.cell 0;simp only [aG,aF]at a0 c0;clear h hr hb;cases before with
 | true=>
  go_enter func273,ntmps273;go_wp2_with fail;refine(iZ w0 _ R s HH.out).mono ?_;rintro e w1 ⟨rfl,hh,hk⟩;have HH:=V hh;have HX:=V (HX.out.keeps hk (by omega));have HA:=V (HA.out.keeps hk (by omega));have HC:=V (HC.out.keeps hk (by omega));have HK:=V (HK.out.trans hk (fun _ h=> .inl h));clear hh hk;clear a0 c0;have a0:=HA.out.cell 0;simp only [aG,aF]at a0;go_wp2_with fail;refine(tv w0 w1 R _ HH.out).mono ?_;rintro e w2 ⟨x,rfl,KF,hw,hh,hk⟩;have LH:=V KF;have HW:=V hw;clear KF hw;have HH:=V hh;have HX:=V (HX.out.keeps hk (by omega));have HA:=V (HA.out.keeps hk (by omega));have HC:=V (HC.out.keeps hk (by omega));have HK:=V (HK.out.trans hk (fun _ h=> .inl h));clear hh hk;clear a0;obtain⟨x0,x1,x2,z0,z1,z2⟩:=HX.out.F8;go_wp2_with fail;have hx:=HX.out.ui (.bool x.has) (.int .i64 x.min) (.int .i64 x.max);have Kz:=ky w2 w.heap.size (.bool x.has) (.int .i64 x.min) (.int .i64 x.max);refine aM (ey rfl _ _ rfl hx.pA) rfl ?_;refine⟨x,rfl,LH.out,?_,?_,HK.out.jc Kz (ag _)⟩
  ·show gU kM s x
   rw [rN];exact fD (f:=fun x:UInt8 × fP=>x.2) (ig (mz s) HW.out)
  ·show fm w0 _ R (ei kM s)
   rw [rN,fu,gP];exact HH.out.keeps Kz (by omega) (fun i hi=>by omega)
 | false=>
  go_enter func273,ntmps273;go_wp2_with fail;refine(tv w0 _ R _ HH.out).mono ?_;rintro e w2 ⟨x,rfl,KF,hw,hh,hk⟩;have LH:=V KF;have HW:=V hw;clear KF hw;have HH:=V hh;have HX:=V (HX.out.keeps hk (by omega));have HA:=V (HA.out.keeps hk (by omega));have HC:=V (HC.out.keeps hk (by omega));have HK:=V (HK.out.trans hk (fun _ h=> .inl h));clear hh hk;clear a0 c0;obtain⟨x0,x1,x2,z0,z1,z2⟩:=HX.out.F8;go_wp2_with fail;have hx:=HX.out.ui (.bool x.has) (.int .i64 x.min) (.int .i64 x.max);have Kz:=ky w2 w.heap.size (.bool x.has) (.int .i64 x.min) (.int .i64 x.max);refine aM (ey rfl _ _ rfl hx.pA) rfl ?_;exact⟨x,rfl,LH.out,HW.out,HH.out.keeps Kz (by omega) (fun i hi=>by omega),HK.out.jc Kz (ag _)⟩
def Gg (w0 w:World) (R:Nat) (st:fZ) (get:iU fP) (e:Ending) (w':World):Prop:=
 ∃x:fP,e= .returned (.agg #[.bool x.has, .int .i64 x.min, .int .i64 x.max])/\x.ok/\gU (gR jP (fk get)) st x/\fm w0 w' R (ei (fk get) st)/\dU (fun k=>k=R) w w'
theorem nS:fP.ok ⟨false,0,0⟩:=⟨xN,xN⟩
theorem sn (w0 w:World) (R:Nat) (before:Bool) (st:fZ) (h:fm w0 w R st):Calls prog 214 #[.pointer (some ⟨R,0,none⟩), .bool before] w (Gg w0 w R st (Gp before)):=by
 have Mm:=h.lt;have OL:=h.old.2;have HH:=V (((h.alloc (.cells #[.pointer (some ⟨R,0,none⟩)] 188)).alloc (.cells #[.bool before] 4)).alloc (.cells #[.bool false, .int .i64 0, .int .i64 0] 55));have HA:=V (((eG.new w #[.pointer (some ⟨R,0,none⟩)] 188).alloc (.cells #[.bool before] 4)).alloc (.cells #[.bool false, .int .i64 0, .int .i64 0] 55));have HC:Hid (eG (((w.alloc (.cells #[.pointer (some ⟨R,0,none⟩)] 188)).alloc (.cells #[.bool before] 4)).alloc (.cells #[.bool false, .int .i64 0, .int .i64 0] 55)) (w.heap.size+1) #[.bool before] 4):=V (by
  have:=(eG.new (w.alloc (.cells #[.pointer (some ⟨R,0,none⟩)] 188)) #[.bool before] 4).alloc (.cells #[.bool false, .int .i64 0, .int .i64 0] 55);rw [aE]at this;exact this)
 have HX:Hid (eG (((w.alloc (.cells #[.pointer (some ⟨R,0,none⟩)] 188)).alloc (.cells #[.bool before] 4)).alloc (.cells #[.bool false, .int .i64 0, .int .i64 0] 55)) (w.heap.size+1+1) #[.bool false, .int .i64 0, .int .i64 0] 55):=V (by
  have:=eG.new ((w.alloc (.cells #[.pointer (some ⟨R,0,none⟩)] 188)).alloc (.cells #[.bool before] 4)) #[.bool false, .int .i64 0, .int .i64 0] 55;rw [aE,aE]at this;exact this)
 have HK:=V ((((dU.refl (fun k=>k=R) w).alloc (.cells #[.pointer (some ⟨R,0,none⟩)] 188)).alloc (.cells #[.bool before] 4)).alloc (.cells #[.bool false, .int .i64 0, .int .i64 0] 55));clear h;go_enter func214,ntmps214;go_wp2_with fail;generalize((w.alloc (.cells #[.pointer (some ⟨R,0,none⟩)] 188)).alloc (.cells #[.bool before] 4)).alloc (.cells #[.bool false, .int .i64 0, .int .i64 0] 55)=wa at HH HA HC HX HK⊢;have hz:=HX.out.lt;refine(Hd w0 R (Gp before) fP.ok (CA before) _ wa 273 #[] #[.pointer (some ⟨w.heap.size+1,0,none⟩), .pointer (some ⟨w.heap.size,0,none⟩)] (fun _ _=>by rfl) HH.out (fun s w1 h hk=>I6 w0 w1 R w.heap.size (w.heap.size+1) before s h (HA.out.keeps hk (by omega)) (HC.out.keeps hk (by omega)) (by omega) (by omega))).mono ?_;rintro e w1 ⟨v,l,rfl,ho,hp,hl,hw,hh,hk⟩;have HP:=V hp;have HW:=V hw;have HI:=V (ho.fy yR);clear hw hp;have HH:=V hh;have HX:=V (HX.out.keeps hk (by omega));have HA:=V (HA.out.keeps hk (by omega));have HC:=V (HC.out.keeps hk (by omega));have HK:=V (HK.out.trans hk (fun _ h=> .inl h));clear hh hk;obtain⟨a,cap,rfl,Mj,Lj⟩:=eW HI.out;clear ho;obtain⟨x0,x1,x2,z0,z1,z2⟩:=HX.out.F8;cases l with
 | nil=>
  have f1:((([]:List fP).length:Int)==0)=true:=rfl;go_wp2_with fail;have hx:=HX.out.ui (.bool false) (.int .i64 0) (.int .i64 0);have Kz:=ky w1 (w.heap.size+1+1) (.bool false) (.int .i64 0) (.int .i64 0);refine aM (ey rfl _ _ rfl hx.pA) rfl ?_;exact⟨⟨false,0,0⟩,rfl,nS,fD (f:=jP) HW.out,HH.out.keeps Kz (by omega) (fun i hi=>by omega),HK.out.jc Kz (by omega)⟩
 | cons x l=>
  obtain⟨L,hL⟩:∃L,L=x::l:=⟨_,rfl⟩;obtain⟨_,_,hv,_,_,Kt⟩:=HI.out;injection hv with e1 e2 e3;subst e1;obtain⟨bb,off,rfl,KC,KV⟩:=Kt 0 x rfl;have g0:=KV 0 _ rfl;have g1:=KV 1 _ rfl;have g2:=KV 2 _ rfl;rw [Nat.zero_mul,aL]at g0;rw [Nat.zero_mul,aL]at g1 g2;rw [<- hL]at HI HP HW Mj⊢;have Pj:0 < L.length:=by rw [hL];simp
  have f1:((L.length:Int)==0)=false:=dS (by omega);have f2:(0:Int) < (L.length:Int):=by omega
  have HF:=V (show jP L=x by rw [hL];rfl);have Pl:=V (show x.ok from HP.out x (by rw [hL];simp));clear Kt e2 e3 KV hL;go_wp2_with fail;have hx:=HX.out.ui (.bool x.has) (.int .i64 x.min) (.int .i64 x.max);have Kz:=ky w1 (w.heap.size+1+1) (.bool x.has) (.int .i64 x.min) (.int .i64 x.max);refine aM (ey rfl _ _ rfl hx.pA) rfl ?_;exact⟨x,rfl,Pl.out,by rw [<- HF.out];exact fD (f:=jP) HW.out,HH.out.keeps Kz (by omega) (fun i hi=>by omega),HK.out.jc Kz (by omega)⟩
theorem JC (w0 w:World) (R Rb:Nat) (s:fZ) (h:fm w0 w R s) (hr:eG w Rb #[.pointer (some ⟨R,0,none⟩)] 188) (n1:R < Rb):
  Calls prog 225 (#[]++#[.pointer (some ⟨Rb,0,none⟩)]) w (Ij (fun(x:gp) (u:Value)=> .agg #[.int .i64 x.off,u]) gq w0 R th (fun _=>True) s w):=by
 have Mm:=h.lt;have OL:=h.old.2;have l1:=hr.lt;have HH:=V ((h.alloc (.cells #[.int .i64 0, .slice none 0 0] 99)).drew);have HX:=V ((eG.new w #[.int .i64 0, .slice none 0 0] 99).drew);have HK:=V (((dU.refl (fun k=>k=R) w).alloc (.cells #[.int .i64 0, .slice none 0 0] 99)).drew);have HA:=V ((hr.alloc (.cells #[.int .i64 0, .slice none 0 0] 99)).drew);have a0:=HA.out.cell 0;simp only [aG,aF]at a0;clear h hr;go_enter func225,ntmps225;go_wp2_with fail;refine ef (fun w'=>w'.cell? ⟨Rb,0,none⟩=some (.pointer (some ⟨R,0,none⟩))) [(0,true),(2,true),(1,false),(3,false),(4,true),(5,false)] (by kernel_rfl) (by kernel_rfl) a0 ?_;clear a0;generalize(w.alloc (.cells #[.int .i64 0, .slice none 0 0] 99)).drew=wa at HH HX HK HA⊢;have hz:=HX.out.lt;iterate 2 (first | (apply sk rfl rfl;simp only [pt]) | (apply dV rfl rfl rfl;·(rintro w' t0;go_wp2;exact⟨rfl,rfl,rfl⟩)))
 refine ed rfl rfl ?_;go_wp2_with fail;refine(rT w0 wa R s HH.out).mono ?_;rintro e w1 ⟨n,rfl,hn,hw,hh,hk⟩;have HN:=V hn;have HW:=V hw;have LR:=hk.size;clear hn hw;have HH:=V hh;have HX:=V (HX.out.keeps hk (by omega));have HA:=V (HA.out.keeps hk (by omega));have HK:=V (HK.out.trans hk (fun _ h=> .inl h));clear hh hk;go_wp2_with fail;refine⟨HA.out.cell 0,?_⟩;refine ed rfl rfl ?_;go_wp2_with fail;refine(BX w0 w1 R _ HH.out).mono ?_;rintro e w2 ⟨v,rfl,ho,hh,hk⟩;have HO:=V ho;obtain⟨a,cap,rfl,-,-,-⟩:=ho.fp;clear ho;have HH:=V hh;have HX:=V (HX.out.keeps hk (by omega));have HA:=V (HA.out.keeps hk (by omega));have HK:=V (HK.out.trans hk (fun _ h=> .inl h));clear hh hk;go_wp2_with fail;refine⟨HA.out.cell 0,?_⟩;iterate 1 (first | (apply sk rfl rfl;simp only [pt]) | (apply dV rfl rfl rfl;·(rintro w' t0;go_wp2;exact⟨rfl,rfl,rfl⟩)))
 refine ed rfl rfl ?_;obtain⟨x0,x1,z0,z1⟩:=HX.out.two;go_wp2_with fail;have hx:=HX.out.mP (.int .i64 n) (.slice a (nH (ei jk s)).length cap);have Kz:=fF w2 w.heap.size (.int .i64 n) (.slice a (nH (ei jk s)).length cap);refine⟨(HA.out.keeps Kz (by omega)).cell 0,?_⟩;refine eL ?_;refine aD ?_;go_wp2_with fail;refine aM (ey rfl _ _ rfl hx.Fo) rfl ?_;have o1:=dX.base (dX.keeps HO.out Kz (fun i hi h=>by have:=(et HO.out hi).1;omega)) (show w.heap.size <=w1.heap.size by omega);refine⟨⟨n,nH (ei jk s)⟩, .slice a (nH (ei jk s)).length cap,rfl,⟨xD o1,HN.out⟩,trivial,?_,?_,HK.out.jc Kz (ag _)⟩
 ·rw [xE]
  exact fD (f:=fun x:Int × List UInt8=>gp.mk x.1 x.2) (ig HW.out (zd _))
 ·rw [xE,fu,gP]
  exact HH.out.keeps Kz (by omega) (fun i hi=>by omega)
theorem IM (w0 w:World) (R Rb:Nat) (s:fZ) (h:fm w0 w R s) (hr:eG w Rb #[.pointer (some ⟨R,0,none⟩)] 188) (n1:R < Rb):
  Calls prog 220 (#[]++#[.pointer (some ⟨Rb,0,none⟩)]) w (Ij (fun(x:iS) (u:Value)=> .agg #[.int .i64 x.off,u]) gW w0 R pk (fun _=>True) s w):=by
 have Mm:=h.lt;have OL:=h.old.2;have l1:=hr.lt;have HH:=V ((h.alloc (.cells #[.int .i64 0, .slice none 0 0] 95)).drew);have HX:=V ((eG.new w #[.int .i64 0, .slice none 0 0] 95).drew);have HK:=V (((dU.refl (fun k=>k=R) w).alloc (.cells #[.int .i64 0, .slice none 0 0] 95)).drew);have HA:=V ((hr.alloc (.cells #[.int .i64 0, .slice none 0 0] 95)).drew);have a0:=HA.out.cell 0;simp only [aG,aF]at a0;clear h hr;go_enter func220,ntmps220;go_wp2_with fail;refine lC (fun w'=>w'.cell? ⟨Rb,0,none⟩=some (.pointer (some ⟨R,0,none⟩))) (ord [(0,true),(2,true),(3,true)] (.fork 1 4 (ord [(4,false),(5,false),(6,true),(7,false)] .nil) (ord [(1,false),(5,false),(6,true),(7,false)] .nil))) (by kernel_rfl) (by kernel_rfl) a0 ?_;dsimp only [ord];clear a0;generalize(w.alloc (.cells #[.int .i64 0, .slice none 0 0] 95)).drew=wa at HH HX HK HA⊢;have hz:=HX.out.lt;iterate 3 (first | (apply ord_skip rfl rfl;simp only [Act.put,bj,bD,bF]) | (apply iy rfl rfl rfl;·(rintro w' t0;go_wp2;exact⟨rfl,rfl,rfl⟩)))
 refine po rfl rfl rfl rfl ?_ ?_
 ·go_wp2_with fail
  refine(rT w0 wa R s HH.out).mono ?_;rintro e w1 ⟨n,rfl,hn,hw,hh,hk⟩;have HN:=V hn;have HW:=V hw;have LR:=hk.size;clear hn hw;have HH:=V hh;have HX:=V (HX.out.keeps hk (by omega));have HA:=V (HA.out.keeps hk (by omega));have HK:=V (HK.out.trans hk (fun _ h=> .inl h));clear hh hk;go_wp2_with fail;refine⟨HA.out.cell 0,?_⟩;refine fL rfl rfl ?_;go_wp2_with fail;refine⟨HA.out.cell 0,?_⟩;refine fL rfl rfl ?_;go_wp2_with fail;refine(nI w0 R uV iI nW _ w1 110 #[.pointer (some ⟨R,0,none⟩)] #[] (fun _ _=>by rfl) HH.out (fun s w1 h _=>FI w0 w1 R s h)).mono ?_;rintro e w2 ⟨v,l,rfl,ho,hp,hl,MV,hh,hk⟩;obtain⟨a,cap,rfl,-,-⟩:=ho.slice;have HO:=V ho;have HP:=V hp;have KM:=V MV;clear ho hp MV;have HH:=V hh;have HX:=V (HX.out.keeps hk (by omega));have HA:=V (HA.out.keeps hk (by omega));have HK:=V (HK.out.trans hk (fun _ h=> .inl h));clear hh hk;go_wp2_with fail;refine⟨HA.out.cell 0,?_⟩;iterate 1 (first | (apply ord_skip rfl rfl;simp only [Act.put,bj,bD,bF]) | (apply iy rfl rfl rfl;·(rintro w' t0;go_wp2;exact⟨rfl,rfl,rfl⟩)))
  refine fL rfl rfl ?_;obtain⟨x0,x1,z0,z1⟩:=HX.out.two;go_wp2_with fail;have hx:=HX.out.mP (.int .i64 n) (.slice a l.length cap);have Kz:=fF w2 w.heap.size (.int .i64 n) (.slice a l.length cap);refine⟨(HA.out.keeps Kz (by omega)).cell 0,?_⟩;refine mo ?_;refine aD ?_;go_wp2_with fail;refine aM (ey rfl _ _ rfl hx.zb) rfl ?_;have o1:=(HO.out.stay Kz (fun i hi=>by omega)).lower (show w.heap.size <=w1.heap.size by omega);refine⟨⟨n,l⟩, .slice a l.length cap,rfl,⟨jm fw o1,HN.out,HP.out⟩,trivial,?_,?_,HK.out.jc Kz (ag _)⟩
  ·rw [oZ]
   exact fD (f:=fun x:Int × List Int=>iS.mk x.1 x.2) (ig HW.out KM.out)
  ·rw [oZ,fu,gP]
   exact HH.out.keeps Kz (by omega) (fun i hi=>by omega)
 ·go_wp2_with fail
  refine⟨HA.out.cell 0,?_⟩;refine fL rfl rfl ?_;go_wp2_with fail;refine(rT w0 wa R s HH.out).mono ?_;rintro e w1 ⟨n,rfl,hn,hw,hh,hk⟩;have HN:=V hn;have HW:=V hw;have LR:=hk.size;clear hn hw;have HH:=V hh;have HX:=V (HX.out.keeps hk (by omega));have HA:=V (HA.out.keeps hk (by omega));have HK:=V (HK.out.trans hk (fun _ h=> .inl h));clear hh hk;go_wp2_with fail;refine⟨HA.out.cell 0,?_⟩;refine fL rfl rfl ?_;go_wp2_with fail;refine(nI w0 R uV iI nW _ w1 110 #[.pointer (some ⟨R,0,none⟩)] #[] (fun _ _=>by rfl) HH.out (fun s w1 h _=>FI w0 w1 R s h)).mono ?_;rintro e w2 ⟨v,l,rfl,ho,hp,hl,MV,hh,hk⟩;obtain⟨a,cap,rfl,-,-⟩:=ho.slice;have HO:=V ho;have HP:=V hp;have KM:=V MV;clear ho hp MV;have HH:=V hh;have HX:=V (HX.out.keeps hk (by omega));have HA:=V (HA.out.keeps hk (by omega));have HK:=V (HK.out.trans hk (fun _ h=> .inl h));clear hh hk;go_wp2_with fail;refine⟨HA.out.cell 0,?_⟩;iterate 1 (first | (apply ord_skip rfl rfl;simp only [Act.put,bj,bD,bF]) | (apply iy rfl rfl rfl;·(rintro w' t0;go_wp2;exact⟨rfl,rfl,rfl⟩)))
  refine fL rfl rfl ?_;obtain⟨x0,x1,z0,z1⟩:=HX.out.two;go_wp2_with fail;have hx:=HX.out.mP (.int .i64 n) (.slice a l.length cap);have Kz:=fF w2 w.heap.size (.int .i64 n) (.slice a l.length cap);refine⟨(HA.out.keeps Kz (by omega)).cell 0,?_⟩;refine mo ?_;refine aD ?_;go_wp2_with fail;refine aM (ey rfl _ _ rfl hx.zb) rfl ?_;have o1:=(HO.out.stay Kz (fun i hi=>by omega)).lower (show w.heap.size <=w1.heap.size by omega);refine⟨⟨n,l⟩, .slice a l.length cap,rfl,⟨jm fw o1,HN.out,HP.out⟩,trivial,?_,?_,HK.out.jc Kz (ag _)⟩
  ·rw [oZ]
   exact fD (f:=fun x:Int × List Int=>iS.mk x.1 x.2) (ig HW.out KM.out)
  ·rw [oZ,fu,gP]
   exact HH.out.keeps Kz (by omega) (fun i hi=>by omega)
theorem Ew (a:Nat) (ha:a < 18446744073709551616):bits .and .u64 (a:Int) 4294967295=((a %4294967296:Nat):Int):=by
 have h:=bits_and_u64_nat a 4294967295 ha (by omega);have e:a&&&4294967295=a %4294967296:=Nat.and_two_pow_sub_one_eq_mod a 32;rw [e]at h;exact h
theorem Ke (a:Nat):(a:Int)/4294967296=((a/4294967296:Nat):Int):=by omega
theorem JZ (a b:Nat):(a:Int)*(b:Int)=((a*b:Nat):Int):=(Int.natCast_mul a b).symm
theorem J2 (a b:Nat):(a:Int)+(b:Int)=((a+b:Nat):Int):=(Int.natCast_add a b).symm
theorem sr (a:Nat) (ha:a < 18446744073709551616):IntKind.u64.wrap (a:Int)=(a:Int):=by rw [IntKind.wrap_u64];omega
theorem Jn (a:Nat):IntKind.u64.wrap (a:Int)=((a %18446744073709551616:Nat):Int):=by rw [IntKind.wrap_u64];omega
def EE (x y:Nat) (w:World) (e:Ending) (w':World):Prop:=e= .returned (.tuple #[.int .u64 ((x*y/18446744073709551616:Nat):Int), .int .u64 ((x*y %18446744073709551616:Nat):Int)])/\w'=w
theorem Cj (x y:Nat) (hx:x < 18446744073709551616) (hy:y < 18446744073709551616) (w:World):Calls prog 228 #[.int .u64 x, .int .u64 y] w (EE x y w):=by
 obtain⟨bd,bt,bw,hhi⟩:=Lib.mul64_hi x y hx hy;have ba:=Lib.half_mul_le (a:=x/4294967296) (b:=y/4294967296) (by omega) (by omega);have bb:=Lib.half_mul_le (a:=x/4294967296) (b:=y %4294967296) (by omega) (by omega);have bc:=Lib.half_mul_le (a:=x %4294967296) (b:=y/4294967296) (by omega) (by omega);have ba':x/4294967296*(y/4294967296) < 18446744073709551616:=by omega
 have bb':x/4294967296*(y %4294967296) < 18446744073709551616:=by omega
 have bc':x %4294967296*(y/4294967296) < 18446744073709551616:=by omega
 have bh1:x/4294967296*(y/4294967296)+(x/4294967296*(y %4294967296)+x %4294967296*(y %4294967296)/4294967296)/4294967296 < 18446744073709551616:=by omega
 have bh:x/4294967296*(y/4294967296)+(x/4294967296*(y %4294967296)+x %4294967296*(y %4294967296)/4294967296)/4294967296+((x/4294967296*(y %4294967296)+x %4294967296*(y %4294967296)/4294967296) %4294967296+x %4294967296*(y/4294967296))/4294967296 < 18446744073709551616:=by omega
 go_enter func228,ntmps228;go_wp2;simp only [Ew x hx,Ew y hy,Ke,JZ,J2,sr _ bd,sr _ bb',sr _ bt,Ew _ bt,sr _ bc',sr _ bw,sr _ ba',sr _ bh1,sr _ bh,Jn (x*y)];rw [hhi]
 go_ret2
 exact⟨rfl,rfl⟩
theorem Gm (x y:Nat) (hx:x < 18446744073709551616) (hy:y < 18446744073709551616) (w:World):Calls prog 113 #[.int .u64 x, .int .u64 y] w (EE x y w):=by
 go_enter func113,ntmps113;go_wp2_with fail;refine(Cj x y hx hy w).mono ?_;rintro e w' ⟨rfl,rfl⟩;go_wp2_with fail
 go_ret2
 exact⟨rfl,rfl⟩
theorem nv (a:Option Addr) (len cap k:Nat) (h:k <=cap) (wx:World):
  (Instr.slice 25 (.slice a len cap) none (some (.int .i64 k)) none).run prog wx= .ok (.slice a k cap) wx:=by
 have hu:prog.underlying 25=some (.slice 3):=by kernel_rfl
 obtain⟨i0,hi,M5,LR,Mz⟩:=bX jF;simp [Instr.slice,bp hu,Instr.sliceBounds,Instr.sliceBound,sizeOf,typeInfo,hi,asIntOf,h];cases a <;>simp [Addr.add]
theorem km (g len cap k:Nat) (h:k < len) (h2:len <=cap) (wx:World):
  (Instr.slice 25 (.slice (some ⟨g,0,none⟩) len cap) (some (.int .i64 k)) none none).run prog wx= .ok (.slice (some ⟨g,k,none⟩) (len - k) (cap - k)) wx:=by
 have hu:prog.underlying 25=some (.slice 3):=by kernel_rfl
 obtain⟨i0,hi,M5,LR,Mz⟩:=bX jF;have h3:k <=cap:=by omega
 have h4:¬ cap=k:=by omega
 have h5:k <=len:=by omega
 have h6:¬ k=cap:=by omega
 simp [Instr.slice,bp hu,Instr.sliceBounds,Instr.sliceBound,sizeOf,typeInfo,hi,LR,asIntOf,h4,h5,Addr.add];intro h0;exact h0.symm
theorem CP (K:Nat) (hK:K <=2000) (w:World):(Instr.makeSlice 25 (.int .i64 (K:Int)) (.int .i64 (K:Int))).run prog w=
  .ok (.slice (some ⟨w.heap.size,0,none⟩) K K) (w.alloc (.cells (List.replicate K (.int .i64 0)).toArray 3)):=by
 obtain⟨i,hi,M5,LR,Mz⟩:=bX jF;have h:=run_make (P:=prog) w 25 3 i _ (by kernel_rfl) hi M5 .i64 .i64 (K:Int) (K:Int) (by omega) (Int.le_refl _) (by rw [Mz];omega) (by omega);rw [LR,cG,bo]at h;have e:madeCells (Value.cells (.int .i64 0)) K=(List.replicate K (.int .i64 0)).toArray:=by
  apply Array.ext
  ·simp [madeCells]
  ·intro i h1 h2
   have:i %1=0:=Nat.mod_one i;simp [madeCells,Value.cells,this]
 rw [e]at h;exact h
def kr (k:Int) (n m:Nat):List Value:=List.replicate m (.int .i64 k)++List.replicate (n - m) (.int .i64 0)
theorem pS (k:Int) (n m c:Nat) (hc:m+c <=n):splice (kr k n m) m (List.replicate c (.int .i64 k))=kr k n (m+c):=by
 unfold splice kr;rw [List.take_append_of_le_length (by simp),cE (by simp),aY,List.drop_append,List.drop_of_length_le (by simp),bL,aY,List.drop_replicate, <- aP,List.replicate_append_replicate]
 congr 2
 omega
theorem uG (k:Int) (n m:Nat) (hm:m <=n):(kr k n m).length=n:=by simp [kr];omega
def Ko (k:Int) (n g:Nat) (w w':World) (m:Nat):Prop:=m <=n/\(m=0 ->n=0)/\w'.heap[g]?=some (.cells (kr k n m).toArray 3)/\Below w.heap.size w w'
def ID (k:Int) (n:Nat) (w:World) (e:Ending) (w':World):Prop:=∃g,e= .returned (.slice (some ⟨g,0,none⟩) n n)/\dT 3 1 fb w' w.heap.size (.slice (some ⟨g,0,none⟩) n n) (List.replicate n k)/\Below w.heap.size w w'
theorem Bt (k:Int) (c:Nat):∀v∈List.replicate c (Value.int .i64 k),v.oneCell'=true:=by
 intro v hv;obtain⟨_,rfl⟩:=dg.1 hv;rfl
theorem FT (k:Int) (n:Nat):(List.replicate n k).flatMap fb=List.replicate n (Value.int .i64 k):=by
 induction n with
 | zero=>rfl
 | succ n ih=>rw [List.replicate_succ,bP,ih,List.replicate_succ];rfl
theorem qf (a:Option Addr) (cap:Nat) (k:Int) (n:Nat) (hn:n <=1000) (w:World) (hl:eg 1 fb w (.slice a 1 cap) [k]):Calls prog 70 #[.slice a 1 cap, .int .i64 n] w (ID k n w):=by
 obtain⟨_,_,hv,Mj,Lj,Kt⟩:=hl;obtain⟨b,off,rfl,KC,hc⟩:∃b off,a=some ⟨b,off,none⟩/\b < w.heap.size/\w.cell? ⟨b,off,none⟩=some (.int .i64 k):=by
  injection hv with e1 e2 e3;subst e1;obtain⟨b,off,ha,KC,hc⟩:=Kt 0 k rfl;exact⟨b,off,ha,KC,by have:=hc 0 _ rfl;simpa using this⟩
 have hmk:=fun w=>CP n (by omega) w;have hmul1:(1*n/18446744073709551616:Nat)=0:=by omega
 have hmul2:(1*n %18446744073709551616:Nat)=n:=by omega
 have HLT:=V KC;have HC:=V hc;clear hv Mj Lj Kt hc;go_enter func70,ntmps70;go_wp2_with fail;refine(Gm 1 n (by omega) (by omega) w).mono ?_;rintro e w1 ⟨rfl,rfl⟩;rw [hmul1,hmul2];clear hmul1 hmul2;obtain⟨g,hg⟩:∃g,g=w1.heap.size:=⟨_,rfl⟩;have HG1:=V (df hg);have HG2:=V (df hg.symm);go_wp2_with (first | (refine wpList_copy_splice rfl (.tmp 31) (.tmp 32) 25 25 rfl 3 (by kernel_rfl) (by kernel_rfl) (some ⟨w1.heap.size,0,none⟩) (some ⟨b,off,none⟩) n n 1 cap rfl rfl w1.heap.size 0 (kr k n 0) 3 (by rw [show kr k n 0=List.replicate n (.int .i64 0)by simp [kr]];exact eG.new w1 _ _) (List.replicate (min 1 n) (.int .i64 k)) (by simp) ?_ (by rw [uG _ _ _ (by omega)];simp;omega) (Bt _ _) w1.heap.size w1 ((an _ _).alloc (ag _) _) (ag _) ?_))
 ·intro _ j v hv
  have hj:=(aN.1 hv).1;have LV:=aO hv;obtain⟨_,rfl⟩:=dg.1 LV;simp only [aY]at hj;obtain rfl:j=0:=by omega
  exact HC.out
 intro w2 LS hb;rw [<- hg]at LS;have Qp:=V (show w2.heap[g]?=some (.cells (kr k n (min 1 n)).toArray 3)by
  have h1:=LS.out;rw [pS k n 0 (min 1 n) (by omega)]at h1;simpa using h1)
 have HB:=V hb;have hgg:(some ⟨w1.heap.size,0,none⟩:Option Addr)=some ⟨g,0,none⟩:=by rw [hg]
 rw [hgg];clear LS hb hmk hgg hg;go_wp2_with fail;refine eB (fun a' w'=>∃(m:Nat),a'=fr (gs a' 0 7 (.slice (some ⟨g,0,none⟩) n n:: .int .i64 m::gs a' 9 39 []))/\Ko k n g w1 w' m) (fun a' _=>(n - (intOf (a'.tmps.getD 8 undef)).toNat)) ?_ ?_
 ·exact⟨min 1 n,rfl,by omega,by omega,Qp.out,HB.out⟩
 ·skip
  rintro R a' w1 ⟨m,Kw,hJ⟩ HR;dsimp only [fr,gs]at Kw;generalize slot a'=f at Kw;subst Kw;obtain⟨hm,hz,LS,hb⟩:=hJ;have Qp:=V LS;have HB:=V hb;have HZ:=V hz;by_cases q:m < n;rotate_left
  ·obtain rfl:m=n:=by omega
   clear LS hb hz;go_wp2_with fail;go_ret;refine⟨g,rfl,⟨by rw [jQ fw], .inr ⟨g,m,_,by rw [aY],HG2.out,Qp.out,by simp,by simp only [maxLen];omega,by simp [kr],?_⟩⟩,HB.out⟩;rw [FT];simp [kr]
  have LZ:=fun wx=>km g n n m q (ag _) wx;have KG:=fun wx=>nv (some ⟨g,0,none⟩) n n m (by omega) wx;obtain⟨c,hc⟩:∃c,c=min m (n - m):=⟨_,rfl⟩;have HC:=V hc;clear hb hz hc;go_wp2_with fail;refine ef (fun _=>True) (up 0 7 ((7,false)::(8,true)::(9,true)::[])) (by kernel_rfl) (by kernel_rfl) trivial ?_;iterate 7 (first | (apply sk rfl rfl;simp only [pt]) | (apply dV rfl rfl rfl;·(rintro w' t0;go_wp2;exact⟨rfl,rfl,rfl⟩)))
  refine ed rfl rfl ?_;go_wp2_with (first | (refine wpList_copy_splice rfl (.tmp 41) (.tmp 44) 25 25 rfl 3 (by kernel_rfl) (by kernel_rfl) (some ⟨g,m,none⟩) (some ⟨g,0,none⟩) (n - m) (n - m) m n rfl rfl g m (kr k n m) 3 LS (List.replicate c (.int .i64 k)) (by rw [aY];exact HC.out) ?_ (by rw [uG _ _ _ hm,aY,HC.out];omega) (Bt _ _) g w1 (an g w1).drew (ag _) ?_))
  ·intro _ j v hv
   have hj:=(aN.1 hv).1;have LV:=aO hv;obtain⟨_,rfl⟩:=dg.1 LV;simp only [aY]at hj;have KV:=HC.out;have h3:=cell_of_row w1 g j _ _ _ LS;rw [h3];unfold kr;rw [aG,bu (by rw [aY];omega),dw,aJ (by omega)]
  intro w2 PN Kx;have HROW2:=V (show w2.heap[g]?=some (.cells (kr k n (m+c)).toArray 3)by
   have h1:=PN.out;rw [pS k n m c (by have:=HC.out;omega)]at h1;exact h1)
  have K6:=V (HB.out.trans (Kx.mono HG2.out));clear LS PN Kx;have hcn:c <=n:=by have:=HC.out;omega
  have Mj:1 <=c:=by have:=HC.out;have:=HZ.out;omega
  go_wp2_with fail;refine⟨trivial,?_⟩;iterate 2 (first | (apply sk rfl rfl;simp only [pt]) | (apply dV rfl rfl rfl;·(rintro w' t0;go_wp2;exact⟨rfl,rfl,rfl⟩)))
  refine eL ?_;refine aD ?_;go_wp2_with fail;refine HR.out _ _ ⟨m+c,?_,by have:=HC.out;omega,by omega,HROW2.out,K6.out⟩ ?_
  ·rfl
  ·simp [intOf]
   omega
theorem fm.fail {w0 w:World} {R:Nat} {st:fZ} (h:fm w0 w R st):fm w0 (w.setCell ⟨R,1,none⟩ (.bool true)) R none:=by
 obtain⟨a,l,cap,bad,h1,h2,h3,h4,h5,h6⟩:=h;exact⟨a,l,cap,true,by simpa using h1.set 1 (.bool true),h2,h3,rfl,h5.setCell h6 _,h6⟩
theorem fm.free {w0 w:World} {R:Nat} {st:fZ} (h:fm w0 w R st) (i:Nat):w.frozen? ⟨R,i,none⟩=false:=by
 obtain⟨a,l,cap,bad,h1,_⟩:=h;exact h1.free i
theorem fm.some {w0 w:World} {R:Nat} {l:List UInt8} (h:fm w0 w R (some l)):∃a cap,w.cell? ⟨R,0,none⟩=some (.slice a l.length cap)/\eJ w (.slice a l.length cap) l/\l.length <=8000:=by
 obtain⟨a,l',cap,bad,h1,h2,h3,h4,h5,h6⟩:=h;cases bad with
 | true=>cases h4
 | false=>
  injection h4 with h4;subst h4;exact⟨a,cap,h1.cell 0,h2.below h5,h3⟩
theorem FG {α:Type} {get:iU α} {n:Nat} {acc:List α} {st:fZ} (h:ei get st=none):rh get (n+1) acc st=none:=by
 cases st with
 | none=>rfl
 | some l=>
  have hg:get l=none:=by
   cases hg:get l with
   | none=>rfl
   | some y=>simp [ei,hg]at h
  simp [rh,rV,hg]
theorem FL {α:Type} {get:iU α} {st QK:fZ} {acc:List α} {n:Nat} (h:st.bind (fk get)=rh get (n+1) acc QK) (hb:ei get QK=none):ei (fk get) st=none/\∀x,gU (fk get) st x:=by
 rw [FG hb]at h;refine⟨by unfold ei;rw [h];rfl,fun x y hy=>by rw [h]at hy;cases hy⟩
theorem DM (s:fZ):ei lX s=(if 32 < iN s then none else ei gJ (ei fU s))/\gU lX s (iN s,nJ (ei fU s)):=by
 cases s with
 | none=>exact⟨rfl,mA _ _⟩
 | some l=>
  cases h:fU l with
  | none=>
   have h1:lX l=none:=by simp [lX,h]
   have h2:iN (some l)=0:=by simp [iN,h]
   have h3:ei fU (some l)=none:=by simp [ei,h]
   rw [h2,h3,aC (by decide)];exact⟨by simp [ei,h1],fun y hy=>by simp [h1]at hy⟩
  | some y=>
   have h2:iN (some l)=y.1:=by simp [iN,h]
   have h3:ei fU (some l)=some y.2:=by simp [ei,h]
   rw [h2,h3];cases hk:gJ y.2 with
   | none=>
    have h1:lX l=none:=by simp [lX,h,hk]
    exact⟨by simp [ei,h1,hk],fun z hz=>by simp [h1]at hz⟩
   | some z=>
    by_cases q:32 < y.1
    ·have h1:lX l=none:=by simp [lX,h,hk,q]
     exact⟨by rw [aJ q];simp [ei,h1],fun z hz=>by simp [h1]at hz⟩
    ·have h1:lX l=some ((y.1,z.1),z.2):=by simp [lX,h,hk,q]
     refine⟨by rw [aC q];simp [ei,h1,hk],fun u hu=>?_⟩;simp only [aw,h1,aX]at hu;rw [<- hu];simp [nJ,hk]
theorem oW (acc:List (Nat × Int)) (m:Nat) (k:Int):iQ (acc++[(m,k)])=iQ acc++List.replicate m k:=by simp [iQ]
def IP (w0 w:World) (R:Nat) (st:fZ) (e:Ending) (w':World):Prop:=
 ∃v l,e= .returned v/\dT 3 1 fb w' w.heap.size v l/\(∀x∈l,iI x)/\l.length <=300000/\gU jC st l/\fm w0 w' R (ei jC st)/\dU (fun k=>k=R) w w'
def Kj (w0:World) (R:Nat) (st:fZ) (w w':World) (v:Value) (acc:List (Nat × Int)) (n:Nat) (s:fZ):Prop:=
 st.bind (fk lX)=rh lX n acc s/\dT 3 1 fb w' w.heap.size v (iQ acc)/\(∀x∈iQ acc,iI x)/\(iQ acc).length <=32*acc.length/\acc.length+s.len <=8001/\fm w0 w' R s/\dU (fun k=>k=R) w w'/\n < 4294967296
theorem Bi (w0 w:World) (Y:Nat) (st:fZ) (h:fm w0 w Y st):Calls prog 276 #[.pointer (some ⟨Y,0,none⟩)] w (IP w0 w Y st):=by
 have HH:=V h;have hR:=h.lt;clear h;go_enter func276,ntmps276;go_wp2_with fail;refine(gZ w0 w Y st HH.out).mono ?_;rintro e w1 ⟨rfl,h1,LN⟩;have Ms:=V (kh lX st _ (iF st));have hn:=iG st;have hlen:=h1.len;obtain⟨N,eN⟩:∃N,iN st=N:=⟨_,rfl⟩;rw [eN]at hn Ms⊢;clear eN;go_wp2_with fail;refine eB (fun a' w'=>∃(v:Value) (acc:List (Nat × Int)) (n:Nat) (s:fZ),a'=fr (.pointer (some ⟨Y,0,none⟩)::gs a' 1 2 (v:: .int .i64 n::gs a' 5 31 []))/\Kj w0 Y st w w' v acc n s) (fun a' _=>(intOf (a'.tmps.getD 4 undef)).toNat) ?_ ?_
 ·exact⟨_,[],N,ei fU st,rfl,Ms.out,dT.nil _ _,by simp [iQ],by simp [iQ],by simpa using hlen,h1,LN,hn⟩
 ·clear h1 LN hn hlen Ms HH
  rintro R a' w1 ⟨v,acc,n,s,Kw,hJ⟩ HR;dsimp only [fr,gs]at Kw;generalize slot a'=f at Kw;subst Kw;obtain⟨Lx,ho,Li,Nv,hlen,Lp,hk,hn⟩:=hJ;obtain⟨av,cv,rfl,-,LC⟩:=ho.slice;have K5:=V Lp;have K0:=V Lx;have KO:=V Li;have HK:=V hk;have HO:=V ho;have MY:=V hR;have c1:=Lp.bad;have hub:(iQ acc).length <=300000:=by omega
  clear Lx ho Li Lp hk;rcases aZ n with L8 | L8
  ·obtain⟨g1,g2⟩:=gD lX K0.out (.inl L8)
   have G1:=V g1;have G2:=V g2;subst L8;clear g1 g2 Nv hlen;go_wp2_with fail;go_ret;exact⟨_,iQ acc,rfl,HO.out,KO.out,hub,by rw [ku];exact fD G2.out,by rw [ku,fu,G1.out];exact K5.out,HK.out⟩
  have f0:decide ((0:Int) < (n:Int))=true:=aA (by omega);cases s with
  | none=>
   have c1:w1.cell? ⟨Y,1,none⟩=some (.bool true):=c1;obtain⟨g1,g2⟩:=gD lX K0.out (.inr rfl);have G1:=V g1;have G2:=V g2;clear g1 g2 Nv hlen;go_wp2_with fail;go_ret;exact⟨_,iQ acc,rfl,HO.out,KO.out,hub,by rw [ku];exact fD G2.out,by rw [ku,fu,G1.out];exact K5.out,HK.out⟩
  | some lb=>
   have c1:w1.cell? ⟨Y,1,none⟩=some (.bool false):=c1;obtain⟨n',rfl⟩:∃n',n=n'+1:=⟨n - 1,by omega⟩;have KC:=zU.len lb;have MI:=V (show acc.length+1+(ei lX (some lb)).len <=8001 by omega);have HUL:=V Nv;obtain⟨hrn,hrw⟩:=DM (some lb);have hm:=iG (some lb);clear KC hlen Nv;go_wp2_with fail;refine(gZ w0 w1 Y _ K5.out).mono ?_;rintro e w2 ⟨rfl,h2,KB⟩;have HO:=V (HO.out.stay KB (fun i hi=>by have:=MY.out;omega));have K5:=V h2;have HK:=V (HK.out.trans KB (fun _ h=> .inl h));obtain⟨m,em⟩:∃m,iN (some lb)=m:=⟨_,rfl⟩;obtain⟨kd,ek⟩:∃kd,nJ (ei fU (some lb))=kd:=⟨_,rfl⟩;have HKI:=V (show iI kd by rw [<- ek];exact BR _);rw [em]at hrn hrw hm;rw [ek]at hrw;rw [em];have EK:=V ek;have HRN:=V hrn;have HRW:=V hrw;clear h2 KB c1 hrn hrw em ek;go_wp2_with fail;refine(tW w0 w2 Y _ K5.out).mono ?_;rintro e w3 ⟨rfl,h3,K7⟩;have HO:=V (HO.out.stay K7 (fun i hi=>by have:=MY.out;omega));have K5:=V h3;have HK:=V (HK.out.trans K7 (fun _ h=> .inl h));rw [EK.out];clear h3 K7;by_cases q:32 < m
   ·have f1:decide ((32:Int) < (m:Int))=true:=aA (by omega)
    have f2:decide (32 < m)=true:=aA q;obtain⟨g1,g2⟩:=FL K0.out (by rw [HRN.out,aJ q]);have G1:=V g1;have G2:=V g2;have c1:=K5.out.bad;have z1:=K5.out.free 1;clear g1 g2 q;go_wp2_with fail;go_ret;have Kz:=eu w3 Y 1 (.bool true);exact⟨_,[],rfl,dT.nil _ _,by simp,by simp,by rw [ku];exact fD (f:=iQ) (G2.out []),by rw [ku,fu,G1.out];exact K5.out.fail,HK.out.trans Kz (fun _ h=> .inl h)⟩
   ·have f1:decide ((32:Int) < (m:Int))=false:=az (by omega)
    have f2:decide (32 < m)=false:=az q;have HNX:=V (show ei lX (some lb)=ei gJ (ei fU (some lb))by rw [HRN.out,aC q]);have hm32:m <=32:=by omega
    have QV:=(an w3.heap.size w3).alloc (ag _) (.cells #[.int .i64 kd] 3);have HO:=V (HO.out.below QV);have K5:=V (K5.out.below QV);have HK:=V (HK.out.alloc (.cells #[.int .i64 kd] 3));have HL:=V (lA w3 kd 3);clear q QV;go_wp2_with fail;refine(qf _ 1 kd m (by omega) _ HL.out).mono ?_;rintro e w4 ⟨g,rfl,hog,Mr⟩;have HO:=V (HO.out.below Mr);have K5:=V (K5.out.below Mr);have HK:=V (HK.out.trans (dU.dW (S:=fun _=>False) Mr) (fun _ h=>h.elim));have HM:=V (by have h:=hog.fy fw;exact h);have HSZ:Hid (w.heap.size <=w4.heap.size):=V HK.out.size;clear hog Mr;go_wp2_with (first | (at_builtin;refine kG w4 rfl _ _ 25 rfl _ 8 (by kernel_rfl) jF rfl (by decide) (by decide) w.heap.size (.slice av (iQ acc).length cv) (iQ acc) rfl HO.out fw (List.replicate m kd) ⟨g,0,none⟩ m m rfl HM.out (fun y _=>BF y) (by rw [aY];omega) HSZ.out ?_));intro v5 w5 ho5 NR PH;have hlt5:∀i,eA (.slice av (iQ acc).length cv) i ->w.heap.size <=i/\i < w4.heap.size:=fun i hi=>et HO.out hi;have HRD5:=V (K5.out.keeps NR (fun h=>by have:=(hlt5 _ h).1;have:=MY.out;omega) (fun i hi=>by have:=(hlt5 i hi).1;have:=K5.out.old.2;have:=MY.out;omega));have HK5:=V (HK.out.trans NR (fun i hi=> .inr (hlt5 i hi).1));have HO5:=V ho5;clear ho5 NR PH hlt5;go_wp2_with fail;refine HR.out _ _ ⟨_,acc++[(m,kd)],n',ei lX (some lb),rfl,by rw [K0.out,ju lX n' acc HRW.out],by rw [oW];exact HO5.out,?_,?_,?_,by rw [HNX.out];exact HRD5.out,HK5.out,by omega⟩ ?_
    ·intro x hx
     rw [oW]at hx;rcases bx.1 hx with hx | hx
     ·exact KO.out x hx
     ·rw [(dg.1 hx).2]
      exact HKI.out
    ·rw [oW,ah,ah,aY,aB]
     have:=HUL.out;omega
    ·rw [ah]
     exact MI.out
    ·simp [intOf]
theorem sY {s:fZ} {l1:List Int} {l2:List eK} (h1:gU jC (ei fU s) l1) (h2:gU kO (ei jC (ei fU s)) l2):gU lJ s ⟨l1,l2⟩:=by
 rw [uT];exact fD (f:=fun x:Nat × List Int × List eK=>gF.mk x.2.1 x.2.2) (ig (iF s) (ig h1 h2))
theorem rD (s:fZ):ei lJ s=ei kO (ei jC (ei fU s)):=by rw [uT,fu,gP,gP]
theorem DX (w0 w:World) (R:Nat) (s:fZ) (h:fm w0 w R s):Calls prog 223 (#[.pointer (some ⟨R,0,none⟩)]++#[]) w (Ij (fun(_:gF) (u:Value × Value)=> .agg #[u.1,u.2]) gH w0 R lJ (fun _=>True) s w):=by
 have Mm:=h.lt;have OL:=h.old.2;have HH:=V (h.alloc (.cells #[.slice none 0 0, .slice none 0 0] 69));have HX:=V (eG.new w #[.slice none 0 0, .slice none 0 0] 69);have HK:=V ((dU.refl (fun k=>k=R) w).alloc (.cells #[.slice none 0 0, .slice none 0 0] 69));have Lr:(w.alloc (.cells #[.slice none 0 0, .slice none 0 0] 69)).heap.size=w.heap.size+1:=aE _ _;have LR:=df Lr.symm;clear h Lr;go_enter func223,ntmps223;go_wp2_with fail;refine(gZ w0 _ R s HH.out).mono ?_;rintro e w1 ⟨rfl,hh,hk⟩;have LR:=aW LR hk.size;have HH:=V hh;have HX:=V (HX.out.keeps hk (by omega));have HK:=V (HK.out.trans hk (fun _ h=> .inl h));clear hh hk;go_wp2_with fail;refine(Bi w0 w1 R _ HH.out).mono ?_;rintro e w2 ⟨v1,l1,rfl,NH,hp1,Qk,Ps,hh,hk⟩;obtain⟨a1,c1,rfl,-,-⟩:=NH.slice;have Mz:=hk.size;have HP1:=V hp1;have Lo:=V Ps;have KW:=(an w2.heap.size w2).alloc (ag _) (.cells #[.slice a1 l1.length c1, .slice none 0 0] 69);have Mq:=V (NH.below KW);have HV:=V (show∀i,eA (.slice a1 l1.length c1) i ->i < w2.heap.size from fun i hi=>(et NH hi).2);clear NH hp1 Ps;have HH:=V hh;have HX:=V (HX.out.keeps hk (by omega));have HK:=V (HK.out.trans hk (fun _ h=> .inl h));clear hh hk;have HX:=V (HX.out.below KW HX.out.lt);have HH:=V (HH.out.below KW);have HK:=V (HK.out.alloc (.cells #[.slice a1 l1.length c1, .slice none 0 0] 69));have HY:=V (eG.new w2 #[.slice a1 l1.length c1, .slice none 0 0] 69);clear KW;obtain⟨s3,es3⟩:∃s3,ei jC (ei fU s)=s3:=⟨_,rfl⟩;rw [es3]at HH;have ES3:=V es3;clear es3;have cb:=HH.out.bad;cases s3 with
 | none=>
  have cb:(w2.alloc (.cells #[.slice a1 l1.length c1, .slice none 0 0] 69)).cell? ⟨R,1,none⟩=some (.bool true):=cb;obtain⟨y0,y1,u0,u1⟩:=HY.out.two;obtain⟨x0,x1,z0,z1⟩:=HX.out.two;go_wp2_with fail;have hx:=HX.out.mP (.slice a1 l1.length c1) (.slice none 0 0);have Kz:=fF (w2.alloc (.cells #[.slice a1 l1.length c1, .slice none 0 0] 69)) w.heap.size (.slice a1 l1.length c1) (.slice none 0 0);refine aM (ey rfl _ _ rfl hx.te) rfl ?_;have o1:=(Mq.out.stay Kz (fun i hi=>by omega)).lower (show w.heap.size <=w1.heap.size by omega);refine⟨⟨l1,[]⟩,(.slice a1 l1.length c1, .slice none 0 0),rfl,⟨⟨jm fw o1,ee.nil _⟩,HP1.out⟩,trivial,sY Lo.out (by rw [ES3.out];exact mA _ _),?_,HK.out.jc Kz (ag _)⟩;rw [rD,ES3.out];exact HH.out.keeps Kz (by omega) (fun i hi=>by omega)
 | some L=>
  have cb:(w2.alloc (.cells #[.slice a1 l1.length c1, .slice none 0 0] 69)).cell? ⟨R,1,none⟩=some (.bool false):=cb;obtain⟨a,cap,c0,hb,hlen⟩:=HH.out.some;have LQ:=V hb;obtain⟨_,_,hv,_,My,-⟩:=id hb;clear hb hv My;go_wp2_with fail;refine(xW _ L _ LQ.out (by omega)).mono ?_;rintro e w3 ⟨hb,hc⟩;have Mq:=V (Mq.out.below hb);have HX:=V (HX.out.below hb HX.out.lt);have HY:=V (HY.out.below hb HY.out.lt);have HH:=V (HH.out.below hb);have HK:=V (HK.out.trans (dU.dW (S:=fun _=>False) hb) (fun _ h=>h.elim));have hz3:=hb.size;rw [aE]at hz3 hc;clear hb c0 cb;rcases hc with⟨l2,r,v,Lh,rfl,hd⟩ | ⟨err,Lh,he,-,rfl⟩
  ·obtain⟨av,cv,rfl,-,-⟩:=ee.slice (eR.low kX (fun _ _ _ _ he h=>h.ext he) hd)
   have HD:=V hd;obtain⟨p,hp⟩:=vZ (y:=(l2,r)) Lh;have hsk:ix (L.length - r.length) true (some L)=some r:=by
    have h1:L.length - r.length=p.length:=by rw [hp,ah];simp
    rw [h1,hp];simp [ix]
   have HNX:=V (show ei lJ s=some r by rw [rD,ES3.out];simp [ei,Lh]);have HWS:=V (show gU lJ s ⟨l1,l2⟩from sY Lo.out (by
    rw [ES3.out];intro y hy;have:some (l2,r)=some y:=by rw [<- Lh];exact hy
    injection this with this;rw [<- this]))
   clear hd Lh hp;go_wp2_with fail;refine(kN w0 w3 R _ (L.length - r.length) true (by omega) HH.out).mono ?_;rintro e w4 ⟨rfl,hh,hk⟩;rw [hsk]at hh;have Mq:=V (Mq.out.stay hk (fun i hi=>by omega));have HY:=V (HY.out.keeps hk (by omega));have HD:=V (eR.keeps (fun _ _ _ _ he h=>h.ext he) HD.out hk (fun i hi=> .inl (by omega)));clear hsk;have HH:=V hh;have HX:=V (HX.out.keeps hk (by omega));have HK:=V (HK.out.trans hk (fun _ h=> .inl h));clear hh hk;obtain⟨y0,y1,u0,u1⟩:=HY.out.two;obtain⟨x0,x1,z0,z1⟩:=HX.out.two;go_wp2_with fail;have MQ:=eu w4 w2.heap.size 1 (.slice av l2.length cv);have hx:=(HX.out.keeps MQ (by omega)).mP (.slice a1 l1.length c1) (.slice av l2.length cv);have Kz:=fF (w4.setCell ⟨w2.heap.size,1,none⟩ (.slice av l2.length cv)) w.heap.size (.slice a1 l1.length c1) (.slice av l2.length cv);refine aM (ey rfl _ _ rfl hx.te) rfl ?_;have Mw:dU (fun k=>k < w2.heap.size+1) w4 (((w4.setCell ⟨w2.heap.size,1,none⟩ (.slice av l2.length cv)).setCell ⟨w.heap.size,0,none⟩ (.slice a1 l1.length c1)).setCell ⟨w.heap.size,1,none⟩ (.slice av l2.length cv)):=(MQ.mono (fun i hi=>by omega)).trans Kz (fun i hi=> .inl (by omega));have o1:=((Mq.out.keeps MQ (fun i hi h=>by have:=HV.out i hi;omega)).stay Kz (fun i hi=>by omega)).lower (show w.heap.size <=w1.heap.size by omega);have o2:=eR.low kX (fun _ _ _ _ he h=>h.ext he) (eR.keeps (fun _ _ _ _ he h=>h.ext he) HD.out Mw (fun i hi=> .inl hi));have o3:gd (mask (kH w.heap.size) _) (.slice av l2.length cv) l2:=gd.ext o2 (tV _ (by omega));refine⟨⟨l1,l2⟩,(.slice a1 l1.length c1, .slice av l2.length cv),rfl,⟨⟨jm fw o1,o3⟩,HP1.out⟩,trivial,HWS.out,?_,(HK.out.jc MQ (by omega)).jc Kz (ag _)⟩;rw [HNX.out];exact(HH.out.keeps MQ (by omega) (fun i hi=>by omega)).keeps Kz (by omega) (fun i hi=>by omega)
  ·have f1:=dS he
   have hsk:ix 0 false (some L)=none:=rfl;have HNX:=V (show ei lJ s=none by rw [rD,ES3.out];simp [ei,Lh]);have HWS:=V (show gU lJ s ⟨l1,[]⟩from sY Lo.out (by
    rw [ES3.out];intro y hy;have:none=some y:=by rw [<- Lh];exact hy
    cases this))
   clear Lh he;go_wp2_with fail;refine(kN w0 w3 R _ 0 false (by omega) HH.out).mono ?_;rintro e w4 ⟨rfl,hh,hk⟩;rw [hsk]at hh;have Mq:=V (Mq.out.stay hk (fun i hi=>by omega));have HY:=V (HY.out.keeps hk (by omega));clear hsk;have HH:=V hh;have HX:=V (HX.out.keeps hk (by omega));have HK:=V (HK.out.trans hk (fun _ h=> .inl h));clear hh hk;obtain⟨y0,y1,u0,u1⟩:=HY.out.two;obtain⟨x0,x1,z0,z1⟩:=HX.out.two;go_wp2_with fail;have MQ:=eu w4 w2.heap.size 1 (.slice none 0 0);have hx:=(HX.out.keeps MQ (by omega)).mP (.slice a1 l1.length c1) (.slice none 0 0);have Kz:=fF (w4.setCell ⟨w2.heap.size,1,none⟩ (.slice none 0 0)) w.heap.size (.slice a1 l1.length c1) (.slice none 0 0);refine aM (ey rfl _ _ rfl hx.te) rfl ?_;have Mw:dU (fun k=>k < w2.heap.size+1) w4 (((w4.setCell ⟨w2.heap.size,1,none⟩ (.slice none 0 0)).setCell ⟨w.heap.size,0,none⟩ (.slice a1 l1.length c1)).setCell ⟨w.heap.size,1,none⟩ (.slice none 0 0)):=(MQ.mono (fun i hi=>by omega)).trans Kz (fun i hi=> .inl (by omega));have o1:=((Mq.out.keeps MQ (fun i hi h=>by have:=HV.out i hi;omega)).stay Kz (fun i hi=>by omega)).lower (show w.heap.size <=w1.heap.size by omega);refine⟨⟨l1,[]⟩,(.slice a1 l1.length c1, .slice none 0 0),rfl,⟨⟨jm fw o1,ee.nil _⟩,HP1.out⟩,trivial,HWS.out,?_,(HK.out.jc MQ (by omega)).jc Kz (ag _)⟩;rw [HNX.out];exact(HH.out.keeps MQ (by omega) (fun i hi=>by omega)).keeps Kz (by omega) (fun i hi=>by omega)
theorem He (w0:World) (Y:Nat) (get:iU (gr)) (P:gr ->Prop) (hG:iM get) (st:fZ) (w:World) (Kv:Nat) (bs cs:Array Value)
  (hE:∀args w,(callFunc Kv args).run prog w= .ok (.enter Kv args) w) (h:fm w0 w Y st)
  (hp:∀s w1,fm w0 w1 Y s ->dU (fun k=>k=Y) w w1 ->Calls prog Kv (bs++cs) w1 (Ij (fun(_:gr) (u:Value × Value)=> .agg #[u.1,u.2]) gI w0 Y get P s w1)):
  Calls prog 209 #[.pointer (some ⟨Y,0,none⟩), .func (.func Kv) bs cs] w (JQ 109 2 rP gI w0 Y get P st w):=by
 have HP:=V hp;have HH:=V h;have hR:=h.lt;have HG:=V hG;clear hp h hG;go_enter func209,ntmps209;go_wp2_with fail;refine(gZ w0 w Y st HH.out).mono ?_;rintro e w1 ⟨rfl,h1,LN⟩;have Ms:=V (kh get st _ (iF st));have hn:=iG st;have hlen:=h1.len;obtain⟨N,eN⟩:∃N,iN st=N:=⟨_,rfl⟩;rw [eN]at hn Ms⊢;clear eN;go_wp2_with fail;refine eB (fun a' w'=>∃(v:Value) (acc:List (gr)) (n:Nat) (s:fZ),a'=fr (.pointer (some ⟨Y,0,none⟩):: .func (.func Kv) bs cs::gs a' 2 3 (v:: .int .i64 n::gs a' 7 19 []))/\eR 109 2 rP gI w' w.heap.size v acc/\GC w0 Y get P st w w' acc n s) (fun a' _=>(intOf (a'.tmps.getD 6 undef)).toNat) ?_ ?_
 ·exact⟨_,[],N,ei fU st,rfl,eR.nil _ _,Ms.out,by simp,by simpa using hlen,h1,LN,hn⟩
 ·clear h1 LN hn hlen Ms HH
  rintro R a' w1 ⟨v,acc,n,s,Kw,hJ⟩ HR;dsimp only [fr,gs]at Kw;generalize slot a'=f at Kw;subst Kw;obtain⟨ho,Lx,KU,hlen,Lp,hk,hn⟩:=hJ;have K5:=V Lp;have K0:=V Lx;have KN:=V KU;have MY:=V hR;have Lr:=hk.size;have c1:=Lp.bad;have HO:=V ho;have Lz:∀i,eA v i ->¬ i=Y:=fun i hi=>by have:=(eR.lt ho hi).1;omega
  have P1:=V Lz;have HK:=V hk;clear ho Lz Lx KU Lp hk;rcases aZ n with L8 | L8
  ·obtain⟨g1,g2⟩:=gD get K0.out (.inl L8)
   have G1:=V g1;have G2:=V g2;subst L8;clear g1 g2;go_wp2_with fail;go_ret;exact⟨_,acc,rfl,HO.out,KN.out,by omega,G2.out,by rw [G1.out];exact K5.out,HK.out⟩
  have f0:decide ((0:Int) < (n:Int))=true:=aA (by omega);cases s with
  | none=>
   have c1:w1.cell? ⟨Y,1,none⟩=some (.bool true):=c1;obtain⟨g1,g2⟩:=gD get K0.out (.inr rfl);have G1:=V g1;have G2:=V g2;clear g1 g2;go_wp2_with fail;go_ret;exact⟨_,acc,rfl,HO.out,KN.out,by omega,G2.out,by rw [G1.out];exact K5.out,HK.out⟩
  | some lb=>
   have c1:w1.cell? ⟨Y,1,none⟩=some (.bool false):=c1;obtain⟨n',rfl⟩:∃n',n=n'+1:=⟨n - 1,by omega⟩;have KC:=HG.out.len lb;have OP:acc.length <=8001:=by omega
   have MI:=V (show acc.length+1+(ei get (some lb)).len <=8001 by omega);clear KC hlen;go_wp2_with fail;refine(HP.out (some lb) w1 K5.out HK.out).mono ?_;rintro e w2 ⟨x,u,rfl,Li,Od,NK,h2,KB⟩;obtain⟨ux,uy⟩:=u;obtain⟨⟨⟨a1,KK,Mi,-,-,-⟩,⟨a2,KA,Mu,-,-,-⟩⟩,-⟩:=id Li;simp only at Mi Mu;subst Mi Mu;have KO:=V Li;clear Li;have Lq:=V (eR.keeps (fun _ _ _ _ he h=>h.ext he) HO.out KB (fun i hi=>by subst hi;exact .inl MY.out));obtain⟨us,u1,u2,u3⟩:=Lq.out;have Nv:(acc.zip us).length=acc.length:=by rw [bG,u1,bZ]
   obtain⟨av,cv,ev,_,LC,-⟩:=u2.fy uK;rw [Nv]at ev;subst ev;unfold maxLen at LC;have HV:=V (show∀i,eA (.slice av acc.length cv) i ->i < w1.heap.size from fun i hi=>(eR.lt HO.out hi).2);have U1:=V u1;have U3:=V u3;have U2:=V u2;have LI:=V h2;have Pl:=V Od;have L6:=V (K0.out.trans (ju get n' acc NK));have LK:=V (HK.out.trans KB (fun _ h=> .inl h));have Oi:=V (show w.heap.size <=w1.heap.size from HK.out.size);have MC:=V (show w.heap.size <=w2.heap.size from LK.out.size);clear Od NK h2 KB c1;go_wp2_with (first | (at_builtin;refine eT w2 rfl _ _ 52 rfl _ 48 (by kernel_rfl) Dn rfl (by decide) (by decide) w.heap.size (.slice av acc.length cv) (acc.zip us) rfl U2.out (x,(.slice a1 x.params.length KK, .slice a2 x.results.length KA)) _ rfl rfl (by simp [rP,Value.oneCell']) rfl (by rw [bG,U1.out,bZ];omega) MC.out ?_));intro v3 w3 LD K7 Md;have MW:=V (eR.app (fun _ _ _ _ he h=>h.ext he) (w1:=w1) U1.out U3.out LD K7 Md Oi.out HV.out KO.out);have K8:∀i,eA (.slice av acc.length cv) i ->w.heap.size <=i/\i < w2.heap.size:=fun i hi=>et U2.out hi;have ML:=V (LI.out.keeps K7 (fun h=>by have:=(K8 _ h).1;have:=MY.out;omega) (fun i hi=>by have:=(K8 i hi).1;have:=LI.out.old.2;have:=MY.out;omega));have OW:=V (LK.out.trans K7 (fun i hi=> .inr (K8 i hi).1));clear LD K7 Md K8;go_wp2_with fail;refine HR.out _ _ ⟨_,acc++[x],n',ei get (some lb),rfl,MW.out,L6.out,?_,?_,ML.out,OW.out,by omega⟩ ?_
   ·intro y hy
    rcases bx.1 hy with h | h
    ·exact KN.out y h
    ·obtain rfl:=aV.1 h
     exact Pl.out
   ·rw [ah]
    exact MI.out
   ·simp [intOf]
theorem GJ (w0:World) (Y:Nat) (get:iU (gF)) (P:gF ->Prop) (hG:iM get) (st:fZ) (w:World) (Kv:Nat) (bs cs:Array Value)
  (hE:∀args w,(callFunc Kv args).run prog w= .ok (.enter Kv args) w) (h:fm w0 w Y st)
  (hp:∀s w1,fm w0 w1 Y s ->dU (fun k=>k=Y) w w1 ->Calls prog Kv (bs++cs) w1 (Ij (fun(_:gF) (u:Value × Value)=> .agg #[u.1,u.2]) gH w0 Y get P s w1)):
  Calls prog 222 #[.pointer (some ⟨Y,0,none⟩), .func (.func Kv) bs cs] w (JQ 69 2 rH gH w0 Y get P st w):=by
 have HP:=V hp;have HH:=V h;have hR:=h.lt;have HG:=V hG;clear hp h hG;go_enter func222,ntmps222;go_wp2_with fail;refine(gZ w0 w Y st HH.out).mono ?_;rintro e w1 ⟨rfl,h1,LN⟩;have Ms:=V (kh get st _ (iF st));have hn:=iG st;have hlen:=h1.len;obtain⟨N,eN⟩:∃N,iN st=N:=⟨_,rfl⟩;rw [eN]at hn Ms⊢;clear eN;go_wp2_with fail;refine eB (fun a' w'=>∃(v:Value) (acc:List (gF)) (n:Nat) (s:fZ),a'=fr (.pointer (some ⟨Y,0,none⟩):: .func (.func Kv) bs cs::gs a' 2 3 (v:: .int .i64 n::gs a' 7 19 []))/\eR 69 2 rH gH w' w.heap.size v acc/\GC w0 Y get P st w w' acc n s) (fun a' _=>(intOf (a'.tmps.getD 6 undef)).toNat) ?_ ?_
 ·exact⟨_,[],N,ei fU st,rfl,eR.nil _ _,Ms.out,by simp,by simpa using hlen,h1,LN,hn⟩
 ·clear h1 LN hn hlen Ms HH
  rintro R a' w1 ⟨v,acc,n,s,Kw,hJ⟩ HR;dsimp only [fr,gs]at Kw;generalize slot a'=f at Kw;subst Kw;obtain⟨ho,Lx,KU,hlen,Lp,hk,hn⟩:=hJ;have K5:=V Lp;have K0:=V Lx;have KN:=V KU;have MY:=V hR;have Lr:=hk.size;have c1:=Lp.bad;have HO:=V ho;have Lz:∀i,eA v i ->¬ i=Y:=fun i hi=>by have:=(eR.lt ho hi).1;omega
  have P1:=V Lz;have HK:=V hk;clear ho Lz Lx KU Lp hk;rcases aZ n with L8 | L8
  ·obtain⟨g1,g2⟩:=gD get K0.out (.inl L8)
   have G1:=V g1;have G2:=V g2;subst L8;clear g1 g2;go_wp2_with fail;go_ret;exact⟨_,acc,rfl,HO.out,KN.out,by omega,G2.out,by rw [G1.out];exact K5.out,HK.out⟩
  have f0:decide ((0:Int) < (n:Int))=true:=aA (by omega);cases s with
  | none=>
   have c1:w1.cell? ⟨Y,1,none⟩=some (.bool true):=c1;obtain⟨g1,g2⟩:=gD get K0.out (.inr rfl);have G1:=V g1;have G2:=V g2;clear g1 g2;go_wp2_with fail;go_ret;exact⟨_,acc,rfl,HO.out,KN.out,by omega,G2.out,by rw [G1.out];exact K5.out,HK.out⟩
  | some lb=>
   have c1:w1.cell? ⟨Y,1,none⟩=some (.bool false):=c1;obtain⟨n',rfl⟩:∃n',n=n'+1:=⟨n - 1,by omega⟩;have KC:=HG.out.len lb;have OP:acc.length <=8001:=by omega
   have MI:=V (show acc.length+1+(ei get (some lb)).len <=8001 by omega);clear KC hlen;go_wp2_with fail;refine(HP.out (some lb) w1 K5.out HK.out).mono ?_;rintro e w2 ⟨x,u,rfl,Li,Od,NK,h2,KB⟩;obtain⟨ux,uy⟩:=u;obtain⟨⟨⟨a1,KK,Mi,-,-,-⟩,Lh⟩,-⟩:=id Li;obtain⟨a2,KA,Mu,-,-⟩:=ee.slice Lh;simp only at Mi Mu;subst Mi Mu;clear Lh;have KO:=V Li;clear Li;have Lq:=V (eR.keeps (fun _ _ _ _ he h=>h.ext he) HO.out KB (fun i hi=>by subst hi;exact .inl MY.out));obtain⟨us,u1,u2,u3⟩:=Lq.out;have Nv:(acc.zip us).length=acc.length:=by rw [bG,u1,bZ]
   obtain⟨av,cv,ev,_,LC,-⟩:=u2.fy tL;rw [Nv]at ev;subst ev;unfold maxLen at LC;have HV:=V (show∀i,eA (.slice av acc.length cv) i ->i < w1.heap.size from fun i hi=>(eR.lt HO.out hi).2);have U1:=V u1;have U3:=V u3;have U2:=V u2;have LI:=V h2;have Pl:=V Od;have L6:=V (K0.out.trans (ju get n' acc NK));have LK:=V (HK.out.trans KB (fun _ h=> .inl h));have Oi:=V (show w.heap.size <=w1.heap.size from HK.out.size);have MC:=V (show w.heap.size <=w2.heap.size from LK.out.size);clear Od NK h2 KB c1;go_wp2_with (first | (at_builtin;refine eT w2 rfl _ _ 59 rfl _ 48 (by kernel_rfl) CU rfl (by decide) (by decide) w.heap.size (.slice av acc.length cv) (acc.zip us) rfl U2.out (x,(.slice a1 x.locals.length KK, .slice a2 x.body.length KA)) _ rfl rfl (by simp [rH,Value.oneCell']) rfl (by rw [bG,U1.out,bZ];omega) MC.out ?_));intro v3 w3 LD K7 Md;have MW:=V (eR.app (fun _ _ _ _ he h=>h.ext he) (w1:=w1) U1.out U3.out LD K7 Md Oi.out HV.out KO.out);have K8:∀i,eA (.slice av acc.length cv) i ->w.heap.size <=i/\i < w2.heap.size:=fun i hi=>et U2.out hi;have ML:=V (LI.out.keeps K7 (fun h=>by have:=(K8 _ h).1;have:=MY.out;omega) (fun i hi=>by have:=(K8 i hi).1;have:=LI.out.old.2;have:=MY.out;omega));have OW:=V (LK.out.trans K7 (fun i hi=> .inr (K8 i hi).1));clear LD K7 Md K8;go_wp2_with fail;refine HR.out _ _ ⟨_,acc++[x],n',ei get (some lb),rfl,MW.out,L6.out,?_,?_,ML.out,OW.out,by omega⟩ ?_
   ·intro y hy
    rcases bx.1 hy with h | h
    ·exact KN.out y h
    ·obtain rfl:=aV.1 h
     exact Pl.out
   ·rw [ah]
    exact MI.out
   ·simp [intOf]
theorem Gy (w0:World) (Y:Nat) (get:iU (iS)) (P:iS ->Prop) (hG:iM get) (st:fZ) (w:World) (Kv:Nat) (bs cs:Array Value)
  (hE:∀args w,(callFunc Kv args).run prog w= .ok (.enter Kv args) w) (h:fm w0 w Y st)
  (hp:∀s w1,fm w0 w1 Y s ->dU (fun k=>k=Y) w w1 ->Calls prog Kv (bs++cs) w1 (Ij (fun(x:iS) (u:Value)=> .agg #[.int .i64 x.off,u]) gW w0 Y get P s w1)):
  Calls prog 219 #[.pointer (some ⟨Y,0,none⟩), .func (.func Kv) bs cs] w (JQ 95 2 tF gW w0 Y get P st w):=by
 have HP:=V hp;have HH:=V h;have hR:=h.lt;have HG:=V hG;clear hp h hG;go_enter func219,ntmps219;go_wp2_with fail;refine(gZ w0 w Y st HH.out).mono ?_;rintro e w1 ⟨rfl,h1,LN⟩;have Ms:=V (kh get st _ (iF st));have hn:=iG st;have hlen:=h1.len;obtain⟨N,eN⟩:∃N,iN st=N:=⟨_,rfl⟩;rw [eN]at hn Ms⊢;clear eN;go_wp2_with fail;refine eB (fun a' w'=>∃(v:Value) (acc:List (iS)) (n:Nat) (s:fZ),a'=fr (.pointer (some ⟨Y,0,none⟩):: .func (.func Kv) bs cs::gs a' 2 3 (v:: .int .i64 n::gs a' 7 19 []))/\eR 95 2 tF gW w' w.heap.size v acc/\GC w0 Y get P st w w' acc n s) (fun a' _=>(intOf (a'.tmps.getD 6 undef)).toNat) ?_ ?_
 ·exact⟨_,[],N,ei fU st,rfl,eR.nil _ _,Ms.out,by simp,by simpa using hlen,h1,LN,hn⟩
 ·clear h1 LN hn hlen Ms HH
  rintro R a' w1 ⟨v,acc,n,s,Kw,hJ⟩ HR;dsimp only [fr,gs]at Kw;generalize slot a'=f at Kw;subst Kw;obtain⟨ho,Lx,KU,hlen,Lp,hk,hn⟩:=hJ;have K5:=V Lp;have K0:=V Lx;have KN:=V KU;have MY:=V hR;have Lr:=hk.size;have c1:=Lp.bad;have HO:=V ho;have Lz:∀i,eA v i ->¬ i=Y:=fun i hi=>by have:=(eR.lt ho hi).1;omega
  have P1:=V Lz;have HK:=V hk;clear ho Lz Lx KU Lp hk;rcases aZ n with L8 | L8
  ·obtain⟨g1,g2⟩:=gD get K0.out (.inl L8)
   have G1:=V g1;have G2:=V g2;subst L8;clear g1 g2;go_wp2_with fail;go_ret;exact⟨_,acc,rfl,HO.out,KN.out,by omega,G2.out,by rw [G1.out];exact K5.out,HK.out⟩
  have f0:decide ((0:Int) < (n:Int))=true:=aA (by omega);cases s with
  | none=>
   have c1:w1.cell? ⟨Y,1,none⟩=some (.bool true):=c1;obtain⟨g1,g2⟩:=gD get K0.out (.inr rfl);have G1:=V g1;have G2:=V g2;clear g1 g2;go_wp2_with fail;go_ret;exact⟨_,acc,rfl,HO.out,KN.out,by omega,G2.out,by rw [G1.out];exact K5.out,HK.out⟩
  | some lb=>
   have c1:w1.cell? ⟨Y,1,none⟩=some (.bool false):=c1;obtain⟨n',rfl⟩:∃n',n=n'+1:=⟨n - 1,by omega⟩;have KC:=HG.out.len lb;have OP:acc.length <=8001:=by omega
   have MI:=V (show acc.length+1+(ei get (some lb)).len <=8001 by omega);clear KC hlen;go_wp2_with fail;refine(HP.out (some lb) w1 K5.out HK.out).mono ?_;rintro e w2 ⟨x,u,rfl,Li,Od,NK,h2,KB⟩;obtain⟨⟨a1,KK,rfl,-,-,-⟩,-⟩:=id Li;have KO:=V Li;clear Li;have Lq:=V (eR.keeps (fun _ _ _ _ he h=>h.ext he) HO.out KB (fun i hi=>by subst hi;exact .inl MY.out));obtain⟨us,u1,u2,u3⟩:=Lq.out;have Nv:(acc.zip us).length=acc.length:=by rw [bG,u1,bZ]
   obtain⟨av,cv,ev,_,LC,-⟩:=u2.fy uC;rw [Nv]at ev;subst ev;unfold maxLen at LC;have HV:=V (show∀i,eA (.slice av acc.length cv) i ->i < w1.heap.size from fun i hi=>(eR.lt HO.out hi).2);have U1:=V u1;have U3:=V u3;have U2:=V u2;have LI:=V h2;have Pl:=V Od;have L6:=V (K0.out.trans (ju get n' acc NK));have LK:=V (HK.out.trans KB (fun _ h=> .inl h));have Oi:=V (show w.heap.size <=w1.heap.size from HK.out.size);have MC:=V (show w.heap.size <=w2.heap.size from LK.out.size);clear Od NK h2 KB c1;go_wp2_with (first | (at_builtin;refine eT w2 rfl _ _ 58 rfl _ 32 (by kernel_rfl) Cu rfl (by decide) (by decide) w.heap.size (.slice av acc.length cv) (acc.zip us) rfl U2.out (x, .slice a1 x.funcs.length KK) _ rfl rfl (by simp [tF,Value.oneCell']) rfl (by rw [bG,U1.out,bZ];omega) MC.out ?_));intro v3 w3 LD K7 Md;have MW:=V (eR.app (fun _ _ _ _ he h=>h.ext he) (w1:=w1) U1.out U3.out LD K7 Md Oi.out HV.out KO.out);have K8:∀i,eA (.slice av acc.length cv) i ->w.heap.size <=i/\i < w2.heap.size:=fun i hi=>et U2.out hi;have ML:=V (LI.out.keeps K7 (fun h=>by have:=(K8 _ h).1;have:=MY.out;omega) (fun i hi=>by have:=(K8 i hi).1;have:=LI.out.old.2;have:=MY.out;omega));have OW:=V (LK.out.trans K7 (fun i hi=> .inr (K8 i hi).1));clear LD K7 Md K8;go_wp2_with fail;refine HR.out _ _ ⟨_,acc++[x],n',ei get (some lb),rfl,MW.out,L6.out,?_,?_,ML.out,OW.out,by omega⟩ ?_
   ·intro y hy
    rcases bx.1 hy with h | h
    ·exact KN.out y h
    ·obtain rfl:=aV.1 h
     exact Pl.out
   ·rw [ah]
    exact MI.out
   ·simp [intOf]
theorem GO (w0:World) (Y:Nat) (get:iU (gp)) (P:gp ->Prop) (hG:iM get) (st:fZ) (w:World) (Kv:Nat) (bs cs:Array Value)
  (hE:∀args w,(callFunc Kv args).run prog w= .ok (.enter Kv args) w) (h:fm w0 w Y st)
  (hp:∀s w1,fm w0 w1 Y s ->dU (fun k=>k=Y) w w1 ->Calls prog Kv (bs++cs) w1 (Ij (fun(x:gp) (u:Value)=> .agg #[.int .i64 x.off,u]) gq w0 Y get P s w1)):
  Calls prog 224 #[.pointer (some ⟨Y,0,none⟩), .func (.func Kv) bs cs] w (JQ 99 2 pW gq w0 Y get P st w):=by
 have HP:=V hp;have HH:=V h;have hR:=h.lt;have HG:=V hG;clear hp h hG;go_enter func224,ntmps224;go_wp2_with fail;refine(gZ w0 w Y st HH.out).mono ?_;rintro e w1 ⟨rfl,h1,LN⟩;have Ms:=V (kh get st _ (iF st));have hn:=iG st;have hlen:=h1.len;obtain⟨N,eN⟩:∃N,iN st=N:=⟨_,rfl⟩;rw [eN]at hn Ms⊢;clear eN;go_wp2_with fail;refine eB (fun a' w'=>∃(v:Value) (acc:List (gp)) (n:Nat) (s:fZ),a'=fr (.pointer (some ⟨Y,0,none⟩):: .func (.func Kv) bs cs::gs a' 2 3 (v:: .int .i64 n::gs a' 7 19 []))/\eR 99 2 pW gq w' w.heap.size v acc/\GC w0 Y get P st w w' acc n s) (fun a' _=>(intOf (a'.tmps.getD 6 undef)).toNat) ?_ ?_
 ·exact⟨_,[],N,ei fU st,rfl,eR.nil _ _,Ms.out,by simp,by simpa using hlen,h1,LN,hn⟩
 ·clear h1 LN hn hlen Ms HH
  rintro R a' w1 ⟨v,acc,n,s,Kw,hJ⟩ HR;dsimp only [fr,gs]at Kw;generalize slot a'=f at Kw;subst Kw;obtain⟨ho,Lx,KU,hlen,Lp,hk,hn⟩:=hJ;have K5:=V Lp;have K0:=V Lx;have KN:=V KU;have MY:=V hR;have Lr:=hk.size;have c1:=Lp.bad;have HO:=V ho;have Lz:∀i,eA v i ->¬ i=Y:=fun i hi=>by have:=(eR.lt ho hi).1;omega
  have P1:=V Lz;have HK:=V hk;clear ho Lz Lx KU Lp hk;rcases aZ n with L8 | L8
  ·obtain⟨g1,g2⟩:=gD get K0.out (.inl L8)
   have G1:=V g1;have G2:=V g2;subst L8;clear g1 g2;go_wp2_with fail;go_ret;exact⟨_,acc,rfl,HO.out,KN.out,by omega,G2.out,by rw [G1.out];exact K5.out,HK.out⟩
  have f0:decide ((0:Int) < (n:Int))=true:=aA (by omega);cases s with
  | none=>
   have c1:w1.cell? ⟨Y,1,none⟩=some (.bool true):=c1;obtain⟨g1,g2⟩:=gD get K0.out (.inr rfl);have G1:=V g1;have G2:=V g2;clear g1 g2;go_wp2_with fail;go_ret;exact⟨_,acc,rfl,HO.out,KN.out,by omega,G2.out,by rw [G1.out];exact K5.out,HK.out⟩
  | some lb=>
   have c1:w1.cell? ⟨Y,1,none⟩=some (.bool false):=c1;obtain⟨n',rfl⟩:∃n',n=n'+1:=⟨n - 1,by omega⟩;have KC:=HG.out.len lb;have OP:acc.length <=8001:=by omega
   have MI:=V (show acc.length+1+(ei get (some lb)).len <=8001 by omega);clear KC hlen;go_wp2_with fail;refine(HP.out (some lb) w1 K5.out HK.out).mono ?_;rintro e w2 ⟨x,u,rfl,Li,Od,NK,h2,KB⟩;obtain⟨⟨a1,KK,rfl,-,-,-⟩,-⟩:=id Li;have KO:=V Li;clear Li;have Lq:=V (eR.keeps (fun _ _ _ _ he h=>h.ext he) HO.out KB (fun i hi=>by subst hi;exact .inl MY.out));obtain⟨us,u1,u2,u3⟩:=Lq.out;have Nv:(acc.zip us).length=acc.length:=by rw [bG,u1,bZ]
   obtain⟨av,cv,ev,_,LC,-⟩:=u2.fy rA;rw [Nv]at ev;subst ev;unfold maxLen at LC;have HV:=V (show∀i,eA (.slice av acc.length cv) i ->i < w1.heap.size from fun i hi=>(eR.lt HO.out hi).2);have U1:=V u1;have U3:=V u3;have U2:=V u2;have LI:=V h2;have Pl:=V Od;have L6:=V (K0.out.trans (ju get n' acc NK));have LK:=V (HK.out.trans KB (fun _ h=> .inl h));have Oi:=V (show w.heap.size <=w1.heap.size from HK.out.size);have MC:=V (show w.heap.size <=w2.heap.size from LK.out.size);clear Od NK h2 KB c1;go_wp2_with (first | (at_builtin;refine eT w2 rfl _ _ 60 rfl _ 32 (by kernel_rfl) Df rfl (by decide) (by decide) w.heap.size (.slice av acc.length cv) (acc.zip us) rfl U2.out (x, .slice a1 x.bytes.length KK) _ rfl rfl (by simp [pW,Value.oneCell']) rfl (by rw [bG,U1.out,bZ];omega) MC.out ?_));intro v3 w3 LD K7 Md;have MW:=V (eR.app (fun _ _ _ _ he h=>h.ext he) (w1:=w1) U1.out U3.out LD K7 Md Oi.out HV.out KO.out);have K8:∀i,eA (.slice av acc.length cv) i ->w.heap.size <=i/\i < w2.heap.size:=fun i hi=>et U2.out hi;have ML:=V (LI.out.keeps K7 (fun h=>by have:=(K8 _ h).1;have:=MY.out;omega) (fun i hi=>by have:=(K8 i hi).1;have:=LI.out.old.2;have:=MY.out;omega));have OW:=V (LK.out.trans K7 (fun i hi=> .inr (K8 i hi).1));clear LD K7 Md K8;go_wp2_with fail;refine HR.out _ _ ⟨_,acc++[x],n',ei get (some lb),rfl,MW.out,L6.out,?_,?_,ML.out,OW.out,by omega⟩ ?_
   ·intro y hy
    rcases bx.1 hy with h | h
    ·exact KN.out y h
    ·obtain rfl:=aV.1 h
     exact Pl.out
   ·rw [ah]
    exact MI.out
   ·simp [intOf]
end Go.Proofs.YthbjdhjppbcneaaGreatDoor
