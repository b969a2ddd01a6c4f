import Derived.Test.YthbjdhjppbcneaaGreatDoorBlocksJ8
import Derived.Lib.Mul64
import Derived.Laws.Bits64b
import Derived.Laws.CopyOwn
namespace Go.Proofs.YthbjdhjppbcneaaGreatDoor
set_option maxRecDepth 100000
set_option maxHeartbeats 20000000
open Go.RowKit Tryz
open Lib renaming hid->V
set_option linter.all false
theorem wg (a:Option Addr) (len cap k:Nat) (h:k <=cap) (wx:World):
  (Instr.slice 97 (.slice a len cap) none (some (.int .i64 k)) none).run prog wx= .ok (.slice a k cap) wx:=by
 have hu:prog.underlying 97=some (.slice 5):=by kernel_rfl
 obtain⟨i0,hi,NW,MP,Nu⟩:=bX oW;simp [Instr.slice,bx hu,Instr.sliceBounds,Instr.sliceBound,sizeOf,typeInfo,hi,asIntOf,h];cases a <;>simp [Addr.add]
theorem eg.empty (w:World):eg (w.alloc (.cells #[] 5)) w.heap.size (.slice (some ⟨w.heap.size,0,none⟩) 0 0) []:=
 ⟨by simp, .inr ⟨w.heap.size,0,#[],rfl,ag _,dw w _,ag _,by simp [maxLen],by simp,by simp⟩⟩
theorem eg.base {w:World} {B B':Nat} {v:Value} {l:List UInt8} (h:eg w B v l) (hB:B' <=B):eg w B' v l:=mW h (fun _ hk=>aW hB (eE h hk).1)
def C3 (l:List UInt8) (w:World) (e:Ending) (w':World):Prop:=∃v,e= .returned v/\eg w' w.heap.size v l/\Below w.heap.size w w'
theorem Bu (v:Value) (l:List UInt8) (w:World) (hl:eW w v l) (Pa:l.length <=1000000):Calls prog 278 #[v] w (C3 l w):=by
 obtain⟨a,cap,rfl,h1,h2,h3⟩:=id hl;unfold maxLen at h2;have HI:=V hl;cases a with
 | none=>
  obtain rfl:l=[]:=by
   cases l with
   | nil=>rfl
   | cons x l=>
    obtain⟨_,_,h,_⟩:=h3 0 x rfl;cases h
  clear h3 hl;have e1:=bR (P:=prog) w 97 5 none 0 cap 0 0 (by kernel_rfl);rw [dj]at e1;go_enter func278,ntmps278;go_wp2_with fail;go_ret;exact⟨_,rfl,eg.nil _ _,an _ _⟩
 | some ad=>
  clear h3 hl;have e1:=bR (P:=prog) w 97 5 (some ad) l.length cap 0 0 (by kernel_rfl);rw [di]at e1;have Mg:=(an w.heap.size w).alloc (ag _) (.cells #[] 5);have HBO:=V Mg;go_enter func278,ntmps278;go_wp2_with (first | (at_builtin;refine fZ (w.alloc (.cells #[] 5)) rfl _ _ rfl rfl w.heap.size (.slice (some ⟨w.heap.size,0,none⟩) 0 0) [] rfl (eg.empty w) _ _ rfl (HI.out.below HBO.out) (by simp only [aL];omega) HBO.out.size ?_));intro v w' ho hk hs;have HB:=V (show Below w.heap.size w w' from HBO.out.trans (hk.below HBO.out.size (fun i hi=>by simp [eH,Value.ownBlock]at hi;omega)));have HO:=V ho;clear hk hs Mg ho;go_wp2_with fail;go_ret;exact⟨v,rfl,by simpa using HO.out,HB.out⟩
def nZ (st:gu):List UInt8:=((st.bind mD).map (·.1)).getD []
theorem z5 (st:gu):ie mD st (nZ st):=fun y hy=>by rw [nZ,hy];rfl
theorem yQ (st:gu):ez mD st=iJ (iX st) true (ez gq st):=by
 cases st with
 | none=>rfl
 | some l=>
  simp only [ez,mD,iX,iJ,az];cases h:gq l with
  | none=>rfl
  | some y=>
   simp only [az,bF,cN,true_and];by_cases q:y.1 <=y.2.length
   ·rw [aC (by omega),aJ q];rfl
   ·rw [aJ (by omega),aC q];rfl
theorem zl {st:gu} (h:ez mD st=none):nZ st=[]:=by
 unfold ez at h;unfold nZ;cases hb:st.bind mD with
 | none=>rfl
 | some y=>rw [hb]at h;cases h
theorem zm {st:gu} {l r:List UInt8} (h1:ez gq st=some l) (h:ez mD st=some r):nZ st=l.take (iX st)/\iX st <=l.length:=by
 cases st with
 | none=>cases h1
 | some q=>
  simp only [ez,mD,iX,nZ,az]at*;cases hb:gq q with
  | none=>rw [hb]at h1;cases h1
  | some y=>
   rw [hb]at h1 h;simp only [az,bF,aX]at h1 h;subst h1;by_cases q:y.2.length < y.1
   ·rw [aJ q]at h;cases h
   ·simp only [az,bF,cN]
    rw [aC q];exact⟨rfl,by omega⟩
def JF (w0 w:World) (R:Nat) (st:gu) (e:Ending) (w':World):Prop:=
 ∃v,e= .returned v/\eg w' w.heap.size v (nZ st)/\fD w0 w' R (ez mD st)/\ee (fun k=>k=R) w w'
theorem zI {w0 w:World} {R:Nat} {st:gu} (h:fD w0 w R st):(nZ st).length <=8000:=by
 have hl:=h.len;cases hn:ez mD st with
 | none=>rw [zl hn];simp
 | some r=>
  cases h1:ez gq st with
  | none=>rw [yQ,h1]at hn;cases hn
  | some l=>
   obtain⟨h2,h3⟩:=zm h1 hn;have h4:=(iZ.mr ly).len st;rw [h1]at h4;simp only [gu.len]at h4 hl;rw [h2,aS];omega
theorem CE (w0 w:World) (R:Nat) (st:gu) (h:fD w0 w R st):Calls prog 226 #[.pointer (some ⟨R,0,none⟩)] w (JF w0 w R st):=by
 have HH:=V h;have Ns:=V (zI h);have hn:=iU st;have HNX:=V (yQ st);have HNN:=V (@zl st);have HRS:Hid (∀l r:List UInt8,ez gq st=some l ->ez mD st=some r ->nZ st=l.take (iX st)/\iX st <=l.length):=V (fun l r h1 h2=>zm h1 h2);obtain⟨n,en⟩:∃n,iX st=n:=⟨_,rfl⟩;obtain⟨s1,es⟩:∃s1,ez gq st=s1:=⟨_,rfl⟩;rw [en]at hn;have EN:=V en;have ES:=V es;clear h en es;go_enter func226,ntmps226;go_wp2_with fail;refine(im w0 w R st HH.out).mono ?_;rintro e w1 ⟨rfl,h1,hk⟩;rw [EN.out];rw [ES.out]at h1;have HH1:=V h1;have HK:=V hk;obtain⟨a,l,cap,bad,LK,hl,hlen,LI,LQ,PH⟩:=h1;have c0:w1.cell? ⟨R,0,none⟩=some (.slice a l.length cap):=LK.cell 0;obtain⟨_,_,OW,PD,NC,-⟩:=id hl;injection OW with e1 e2 e3;subst e1 e3;have HL:=V hl;have Ls:=V LI;clear hk LK hl LQ LI NC e2;go_wp2_with fail;refine(lq w0 w1 R s1 n true (by omega) HH1.out).mono ?_;rintro e w2 ⟨rfl,h2,hk⟩;have MN:ez mD st=iJ n true s1:=by rw [HNX.out,EN.out,ES.out]
 rw [<- MN]at h2;have c1:=h2.bad;have HH2:=V h2;have MI:=V (HK.out.trans hk (fun _ h=> .inl h));clear h2 hk c0 MN;cases hq:ez mD st with
 | none=>
  rw [hq]at c1 HH2;have c1:w2.cell? ⟨R,1,none⟩=some (.bool true):=c1;have HV:=V (HNN.out hq);have HQ:=V hq;clear hq;go_wp2_with fail;go_ret;exact⟨_,rfl,by rw [HV.out];exact eg.nil _ _,by rw [HQ.out];exact HH2.out,MI.out⟩
 | some r=>
  rw [hq]at c1 HH2;have c1:w2.cell? ⟨R,1,none⟩=some (.bool false):=c1;have MU:s1=some l:=by
   rw [Ls.out];cases bad with
   | false=>rfl
   | true=>
    exfalso;have h3:=HNX.out;rw [ES.out,Ls.out,hq]at h3;cases h3
  obtain⟨hv,hle⟩:=HRS.out _ _ (by rw [ES.out,MU]) hq;rw [EN.out]at hv hle;have HV:=V hv;have HQ:=V hq;have hln:n <=cap:=by omega
  have LA:=fun wx=>wg a l.length cap n hln wx;have HI:Hid (eW w2 (.slice a (nZ st).length cap) (nZ st)):=V (by
   have:=(HL.out.below HH2.out.old.1).take n hle;rw [<- hv]at this;have hz:(nZ st).length=n:=by rw [hv,aS];omega
   rw [hz];exact this)
  have RP:(nZ st).length=n:=by rw [hv,aS];omega
  have Nn:=V RP;clear hq hv MU RP;go_wp2_with fail;refine(Bu _ (nZ st) w2 (by have:=HI.out;rw [Nn.out]at this;exact this) (aW Ns.out (by omega))).mono ?_;rintro e w3 ⟨v,rfl,ho,hb⟩;have HO:=V (eg.base ho MI.out.size);have HH3:=V (HH2.out.below hb);have PT:=V (MI.out.trans (ee.eh (S:=fun _=>False) hb) (fun _ h=>h.elim));clear ho hb;go_wp2_with fail;go_ret;exact⟨_,rfl,HO.out,by rw [HQ.out];exact HH3.out,PT.out⟩
def wT (st:gu):ByteArray:=bs (nZ st)
theorem sm (st:gu):ie jQ st (wT st):=by rw [uQ];exact fK (z5 st)
theorem DX (st:gu):ez jQ st=ez mD st:=by rw [uQ,fG]
theorem uW (w0 w:World) (R:Nat) (st:gu) (h:fD w0 w R st):Calls prog 271 #[.pointer (some ⟨R,0,none⟩)] w (zu w0 w R (.string (wT st)) (ez jQ st)):=by
 have HH:=V h;have HN:=V (DX st);clear h;go_enter func271,ntmps271;go_wp2_with fail;refine(CE w0 w R st HH.out).mono ?_;rintro e w1 ⟨v,rfl,ho,h1,hk⟩;have LA:=qa (eg.fF ho);have HH1:=V h1;have HK:=V hk;clear ho h1 hk;go_wp2_with fail;go_ret;exact⟨rfl,by rw [HN.out];exact HH1.out,HK.out⟩
def Gd (w0 w:World) (R:Nat) (st:gu) (e:Ending) (w':World):Prop:=
 ∃v:fm,e= .returned (.agg #[.int .i64 v.kind, .int .i64 v.n])/\v.ok/\ie gR st v/\fD w0 w' R (ez gR st)/\ee (fun k=>k=R) w w'
theorem qV {l r:List UInt8} {x:eS} (h:gG l=some (x,r)) (ok:Bool) (Ly:ok=(decide (x.op=65) || decide (x.op=66))) (bad:Bool):
  ez gR (if bad=true then none else some l)=ez fk (iJ (l.length - r.length) ok (if bad=true then none else some l)):=by
 obtain⟨p,rfl⟩:=o7 h;cases bad with
 | true=>rfl
 | false=>
  have hd:(p++r).drop ((p++r).length - r.length)=r:=by
   have:(p++r).length - r.length=p.length:=by rw [ah];omega
   rw [this,df]
  have hs:iJ ((p++r).length - r.length) ok (some (p++r))=if x.op=65\/x.op=66 then some r else none:=by
   subst Ly;simp only [iJ,az,hd];by_cases q:x.op=65\/x.op=66
   ·rw [aJ ⟨by rcases q with q | q <;>simp [q],by omega⟩,aJ q]
   ·have q1:¬ x.op=65:=fun g=>q (.inl g)
    have q2:¬ x.op=66:=fun g=>q (.inr g);rw [aC (by simp [q1,q2]),aC q]
  show ez gR (some (p++r))=ez fk (iJ ((p++r).length - r.length) ok (some (p++r)));rw [hs];simp only [ez,gR,h,az];by_cases q:x.op=65\/x.op=66
  ·rw [aJ q,aJ q]
   simp only [az];cases fk r <;>rfl
  ·rw [aC q,aC q]
   rfl
theorem Dq {l r:List UInt8} {x:eS} (h:gG l=some (x,r)) (bad:Bool):ie gR (if bad=true then none else some l) ⟨if x.op=66 then 2 else 1,x.a⟩:=by
 cases bad with
 | true=>exact mO _ _
 | false=>
  intro y hy;simp only [gR,h,cE,if_false,az]at hy;split at hy
  ·cases hb:fk r with
   | none=>rw [hb]at hy;cases hy
   | some c=>rw [hb]at hy;injection hy with hy;rw [<- hy]
  ·cases hy
theorem BB {l:List UInt8} (h:gG l=none) (n:Nat) (bad:Bool):ez gR (if bad=true then none else some l)=ez fk (iJ n false (if bad=true then none else some l))/\∀v,ie gR (if bad=true then none else some l) v:=by
 cases bad with
 | true=>exact⟨rfl,fun v=>mO _ _⟩
 | false=>
  simp only [ez,gR,iJ,h,cE,if_false,az];refine⟨by simp,fun v y hy=>?_⟩;simp [gR,h]at hy
theorem KH {k n:Int} (hk:k=1\/k=2) (hn:iP n):fm.ok ⟨k,n⟩:=by
 rcases hk with rfl | rfl
 ·exact⟨⟨by show(-9223372036854775808:Int) <=1;decide,by show(1:Int) <=9223372036854775807;decide⟩,hn⟩
 ·exact⟨⟨by show(-9223372036854775808:Int) <=2;decide,by show(2:Int) <=9223372036854775807;decide⟩,hn⟩
theorem xk (w0 w:World) (R:Nat) (st:gu) (h:fD w0 w R st):Calls prog 275 #[.pointer (some ⟨R,0,none⟩)] w (Gd w0 w R st):=by
 have Nf:=h.lt;have PH:=h.old.2;have HH:=V (h.alloc (.cells #[.int .i64 0, .int .i64 0] 42));have LD:=V (eP.new w #[.int .i64 0, .int .i64 0] 42);have HK:=V ((ee.refl (fun k=>k=R) w).alloc (.cells #[.int .i64 0, .int .i64 0] 42));obtain⟨a,l,cap,bad,LK,hl,hlen,LI,LQ,-⟩:=HH.out;have c0:(w.alloc (.cells #[.int .i64 0, .int .i64 0] 42)).cell? ⟨R,0,none⟩=some (.slice a l.length cap):=LK.cell 0;have HL:=V (hl.below LQ);have Ls:=V LI;clear LK hl LQ h LI;go_enter func275,ntmps275;go_wp2_with fail;refine(rr _ l _ HL.out (by omega)).mono ?_;rintro e w1 ⟨hb,⟨x,r,u,hx,rfl,Mh,-⟩ | ⟨err,hx,he,-,rfl⟩⟩
 ·have HA:=V Mh.2.2.1
  have HWS:Hid (ie gR st ⟨if x.op=66 then 2 else 1,x.a⟩):=V (by rw [Ls.out];exact Dq hx bad);obtain⟨⟨au,Lx,rfl,-,-,-⟩,-⟩:=id Mh;obtain⟨op,xa,xb,xl⟩:=x;simp only at HA HWS⊢;have Mi:=V (eP.new w1 #[.int .i64 op, .int .i64 xa, .int .i64 xb, .slice au xl.length Lx] 27);have LD:=V ((LD.out.below hb LD.out.lt).alloc (.cells #[.int .i64 op, .int .i64 xa, .int .i64 xb, .slice au xl.length Lx] 27));have HK:=V ((HK.out.trans (ee.eh (S:=fun k=>k=R) hb) (fun _ h=> .inl h)).alloc (.cells #[.int .i64 op, .int .i64 xa, .int .i64 xb, .slice au xl.length Lx] 27));have HH:=V ((HH.out.below hb).alloc (.cells #[.int .i64 op, .int .i64 xa, .int .i64 xb, .slice au xl.length Lx] 27));have MU:w.heap.size < w1.heap.size:=by have:=hb.size;rw [aE]at this;omega
  have c3:(w1.alloc (.cells #[.int .i64 op, .int .i64 xa, .int .i64 xb, .slice au xl.length Lx] 27)).cell? ⟨w1.heap.size,0,none⟩=some (.int .i64 op):=Mi.out.cell 0;by_cases q1:op=65
  ·have f1:=eQ q1
   have f2:(op==66)=false:=ed (by omega);have HN:=V (show ez gR st=ez fk (iJ (l.length - r.length) true st)by rw [Ls.out];exact qV hx true (by simp [q1]) bad);have HW:=V (show ie gR st ⟨1,xa⟩by have:=HWS.out;rwa [aC (show ¬ op=66 by omega)]at this);clear q1 hb Mh hx c0;go_wp2_with fail;refine(lq w0 _ R _ (l.length - r.length) true (by omega) HH.out).mono ?_;rintro e w2 ⟨rfl,hh,hk⟩;have HH:=V hh;have LD:=V (LD.out.keeps hk (by omega));have Mi:=V (Mi.out.keeps hk (by omega));have HK:=V (HK.out.trans hk (fun _ h=> .inl h));clear hh hk;clear c3;go_wp2_with fail;refine(jl w0 w2 R _ HH.out).mono ?_;rintro e w3 ⟨rfl,hh,hk⟩;have HH:=V hh;have LD:=V (LD.out.keeps hk (by omega));have Mi:=V (Mi.out.keeps hk (by omega));have HK:=V (HK.out.trans hk (fun _ h=> .inl h));clear hh hk;obtain⟨x0,x1,z0,z1⟩:=LD.out.two;have d0:w3.cell? ⟨w1.heap.size,0,none⟩=some (.int .i64 op):=Mi.out.cell 0;have d1:w3.cell? ⟨w1.heap.size,1,none⟩=some (.int .i64 xa):=Mi.out.cell 1;go_wp2_with fail;have hx:=LD.out.nx (.int .i64 1) (.int .i64 xa);have Lt:=fN w3 w.heap.size (.int .i64 1) (.int .i64 xa);refine aN (eG rfl _ _ rfl hx.mN) rfl ?_;exact⟨⟨1,xa⟩,rfl,KH (.inl rfl) HA.out,HW.out,by rw [HN.out];exact HH.out.keeps Lt (by omega) (fun i hi=>by omega),HK.out.jr Lt (ag _)⟩
  ·have f1:=ed q1
   by_cases q2:op=66
   ·have f2:=eQ q2
    have HN:=V (show ez gR st=ez fk (iJ (l.length - r.length) true st)by rw [Ls.out];exact qV hx true (by simp [q2]) bad);have HW:=V (show ie gR st ⟨2,xa⟩by have:=HWS.out;rwa [aJ q2]at this);clear q1 q2 hb Mh hx c0;go_wp2_with fail;refine(lq w0 _ R _ (l.length - r.length) true (by omega) HH.out).mono ?_;rintro e w2 ⟨rfl,hh,hk⟩;have HH:=V hh;have LD:=V (LD.out.keeps hk (by omega));have Mi:=V (Mi.out.keeps hk (by omega));have HK:=V (HK.out.trans hk (fun _ h=> .inl h));clear hh hk;clear c3;go_wp2_with fail;refine(jl w0 w2 R _ HH.out).mono ?_;rintro e w3 ⟨rfl,hh,hk⟩;have HH:=V hh;have LD:=V (LD.out.keeps hk (by omega));have Mi:=V (Mi.out.keeps hk (by omega));have HK:=V (HK.out.trans hk (fun _ h=> .inl h));clear hh hk;obtain⟨x0,x1,z0,z1⟩:=LD.out.two;have d0:w3.cell? ⟨w1.heap.size,0,none⟩=some (.int .i64 op):=Mi.out.cell 0;have d1:w3.cell? ⟨w1.heap.size,1,none⟩=some (.int .i64 xa):=Mi.out.cell 1;go_wp2_with fail;have hx:=LD.out.nx (.int .i64 2) (.int .i64 xa);have Lt:=fN w3 w.heap.size (.int .i64 2) (.int .i64 xa);refine aN (eG rfl _ _ rfl hx.mN) rfl ?_;exact⟨⟨2,xa⟩,rfl,KH (.inr rfl) HA.out,HW.out,by rw [HN.out];exact HH.out.keeps Lt (by omega) (fun i hi=>by omega),HK.out.jr Lt (ag _)⟩
   ·have f2:=ed q2
    have HN:=V (show ez gR st=ez fk (iJ (l.length - r.length) false st)by rw [Ls.out];exact qV hx false (by simp [q1,q2]) bad);have HW:=V (show ie gR st ⟨1,xa⟩by have:=HWS.out;rwa [aC q2]at this);clear q1 q2 hb Mh hx c0;go_wp2_with fail;refine(lq w0 _ R _ (l.length - r.length) false (by omega) HH.out).mono ?_;rintro e w2 ⟨rfl,hh,hk⟩;have HH:=V hh;have LD:=V (LD.out.keeps hk (by omega));have Mi:=V (Mi.out.keeps hk (by omega));have HK:=V (HK.out.trans hk (fun _ h=> .inl h));clear hh hk;clear c3;go_wp2_with fail;refine(jl w0 w2 R _ HH.out).mono ?_;rintro e w3 ⟨rfl,hh,hk⟩;have HH:=V hh;have LD:=V (LD.out.keeps hk (by omega));have Mi:=V (Mi.out.keeps hk (by omega));have HK:=V (HK.out.trans hk (fun _ h=> .inl h));clear hh hk;obtain⟨x0,x1,z0,z1⟩:=LD.out.two;have d0:w3.cell? ⟨w1.heap.size,0,none⟩=some (.int .i64 op):=Mi.out.cell 0;have d1:w3.cell? ⟨w1.heap.size,1,none⟩=some (.int .i64 xa):=Mi.out.cell 1;go_wp2_with fail;have hx:=LD.out.nx (.int .i64 1) (.int .i64 xa);have Lt:=fN w3 w.heap.size (.int .i64 1) (.int .i64 xa);refine aN (eG rfl _ _ rfl hx.mN) rfl ?_;exact⟨⟨1,xa⟩,rfl,KH (.inl rfl) HA.out,HW.out,by rw [HN.out];exact HH.out.keeps Lt (by omega) (fun i hi=>by omega),HK.out.jr Lt (ag _)⟩
 ·have HA:=V yD
  have Mi:=V (eP.new w1 #[.int .i64 0, .int .i64 0, .int .i64 0, .slice none 0 0] 27);have LD:=V ((LD.out.below hb LD.out.lt).alloc (.cells #[.int .i64 0, .int .i64 0, .int .i64 0, .slice none 0 0] 27));have HK:=V ((HK.out.trans (ee.eh (S:=fun k=>k=R) hb) (fun _ h=> .inl h)).alloc (.cells #[.int .i64 0, .int .i64 0, .int .i64 0, .slice none 0 0] 27));have HH:=V ((HH.out.below hb).alloc (.cells #[.int .i64 0, .int .i64 0, .int .i64 0, .slice none 0 0] 27));have MU:w.heap.size < w1.heap.size:=by have:=hb.size;rw [aE]at this;omega
  have c3:(w1.alloc (.cells #[.int .i64 0, .int .i64 0, .int .i64 0, .slice none 0 0] 27)).cell? ⟨w1.heap.size,0,none⟩=some (.int .i64 0):=Mi.out.cell 0;have f1:=ed he;obtain⟨hn,hw⟩:=BB hx 0 bad;rw [<- Ls.out]at hn hw;have HN:=V hn;have HW:=V (hw ⟨1,0⟩);clear hb he hn hw hx c0;go_wp2_with fail;refine(lq w0 _ R _ 0 false (by omega) HH.out).mono ?_;rintro e w2 ⟨rfl,hh,hk⟩;have HH:=V hh;have LD:=V (LD.out.keeps hk (by omega));have Mi:=V (Mi.out.keeps hk (by omega));have HK:=V (HK.out.trans hk (fun _ h=> .inl h));clear hh hk;clear c3;go_wp2_with fail;refine(jl w0 w2 R _ HH.out).mono ?_;rintro e w3 ⟨rfl,hh,hk⟩;have HH:=V hh;have LD:=V (LD.out.keeps hk (by omega));have Mi:=V (Mi.out.keeps hk (by omega));have HK:=V (HK.out.trans hk (fun _ h=> .inl h));clear hh hk;obtain⟨x0,x1,z0,z1⟩:=LD.out.two;have d0:w3.cell? ⟨w1.heap.size,0,none⟩=some (.int .i64 0):=Mi.out.cell 0;have d1:w3.cell? ⟨w1.heap.size,1,none⟩=some (.int .i64 0):=Mi.out.cell 1;go_wp2_with fail;have hx:=LD.out.nx (.int .i64 1) (.int .i64 0);have Lt:=fN w3 w.heap.size (.int .i64 1) (.int .i64 0);refine aN (eG rfl _ _ rfl hx.mN) rfl ?_;exact⟨⟨1,0⟩,rfl,KH (.inl rfl) HA.out,HW.out,by rw [HN.out];exact HH.out.keeps Lt (by omega) (fun i hi=>by omega),HK.out.jr Lt (ag _)⟩
def Gz (w0 w:World) (R:Nat) (st:gu) (e:Ending) (w':World):Prop:=
 ∃n:Int,e= .returned (.int .i64 n)/\iP n/\ie jA st n/\fD w0 w' R (ez jA st)/\ee (fun k=>k=R) w w'
theorem BA (st:gu):ez jA st=ez gR (ez fk st):=by rw [sq,fG,hH]
theorem DF {st:gu} {v:fm} (h:ie gR (ez fk st) v):ie jA st v.n:=by
 rw [sq];exact fK (f:=fun x=>x.2.n) (iz (mP st) h)
theorem rZ (w0 w:World) (R:Nat) (st:gu) (h:fD w0 w R st):Calls prog 221 #[.pointer (some ⟨R,0,none⟩)] w (Gz w0 w R st):=by
 have HH:=V h;clear h;go_enter func221,ntmps221;go_wp2_with fail;refine(jl w0 w R st HH.out).mono ?_;rintro e w1 ⟨rfl,h1,hk⟩;have HH1:=V h1;have HK:=V hk;clear h1 hk;go_wp2_with fail;refine(xk w0 w1 R _ HH1.out).mono ?_;rintro e w2 ⟨v,rfl,Ly,hw,h2,hk⟩;have HH2:=V h2;have MI:=V (HK.out.trans hk (fun _ h=> .inl h));have HW:=V (DF hw);obtain⟨n1,n2⟩:=Ly.2;have hfd:∀wx:World,(Instr.field 42 (.agg #[.int .i64 v.kind, .int .i64 v.n]) 1).run prog wx= .ok (.int .i64 v.n) wx:=fun _=>by kernel_rfl
 clear h2 hk hw;go_wp2_with fail;go_ret;exact⟨v.n,rfl,⟨n1,n2⟩,HW.out,by rw [BA];exact HH2.out,MI.out⟩
def JH (w0 w:World) (R:Nat) (st:gu) (e:Ending) (w':World):Prop:=
 ∃x:gf,e= .returned (.agg #[.bool x.has, .int .i64 x.min, .int .i64 x.max])/\x.ok/\ie gy st x/\fD w0 w' R (ez gy st)/\ee (fun k=>k=R) w w'
theorem zJ {st:gu} (h:nc st=0):ez gy st=ez gq (ez fk st)/\ie gy st ⟨true,iX (ez fk st),-1⟩:=by
 match st,h with
 | none,_=>exact⟨rfl,mO _ _⟩
 | some [],_=>exact⟨rfl,fun y hy=>by simp [gy,fk]at hy⟩
 | some (c::l),h=>
  obtain rfl:c=0:=h;simp only [ez,iX,az,bF,fk,gy,ie];cases hn:gq l with
  | none=>simp
  | some y=>simp
theorem At {st:gu} (h:nc st≠0):ez gy st=ez gq (ez gq (ez fk st))/\ie gy st ⟨true,iX (ez fk st),iX (ez gq (ez fk st))⟩:=by
 match st,h with
 | none,_=>exact⟨rfl,mO _ _⟩
 | some [],_=>exact⟨rfl,fun y hy=>by simp [gy,fk]at hy⟩
 | some (c::l),h=>
  have hc:c≠0:=h;simp only [ez,iX,az,bF,fk,gy,ie,hc,if_false];cases hn:gq l with
  | none=>simp
  | some y=>
   simp only [az,bF];cases hn2:gq y.2 with
   | none=>simp
   | some z=>simp
theorem Jb {n:Nat} {m:Int} (hn:n < 4294967296) (hm: -1 <=m/\m < 4294967296):gf.ok ⟨true,n,m⟩:=⟨⟨by show(-9223372036854775808:Int) <=n;omega,by show(n:Int) <=9223372036854775807;omega⟩,by show(-9223372036854775808:Int) <=m;omega,by show m <=9223372036854775807;omega⟩
theorem uS (w0 w:World) (R:Nat) (st:gu) (h:fD w0 w R st):Calls prog 274 #[.pointer (some ⟨R,0,none⟩)] w (JH w0 w R st):=by
 have Nf:=h.lt;have PH:=h.old.2;have HH:=V ((h.alloc (.cells #[.bool false, .int .i64 0, .int .i64 0] 55)).alloc (.cells #[.bool true, .int .i64 0, .int .i64 (-1)] 55));have LD:=V ((eP.new w #[.bool false, .int .i64 0, .int .i64 0] 55).alloc (.cells #[.bool true, .int .i64 0, .int .i64 (-1)] 55));have Mi:Hid (eP ((w.alloc (.cells #[.bool false, .int .i64 0, .int .i64 0] 55)).alloc (.cells #[.bool true, .int .i64 0, .int .i64 (-1)] 55)) (w.heap.size+1) #[.bool true, .int .i64 0, .int .i64 (-1)] 55):=V (by have:=eP.new (w.alloc (.cells #[.bool false, .int .i64 0, .int .i64 0] 55)) #[.bool true, .int .i64 0, .int .i64 (-1)] 55;rw [aE]at this;exact this);have HK:=V (((ee.refl (fun k=>k=R) w).alloc (.cells #[.bool false, .int .i64 0, .int .i64 0] 55)).alloc (.cells #[.bool true, .int .i64 0, .int .i64 (-1)] 55));have Pf:=iU (ez fk st);have hn2:=iU (ez gq (ez fk st));obtain⟨n,en⟩:∃n,iX (ez fk st)=n:=⟨_,rfl⟩;obtain⟨m,em⟩:∃m,iX (ez gq (ez fk st))=m:=⟨_,rfl⟩;obtain⟨c,ec⟩:∃c,nc st=c:=⟨_,rfl⟩;rw [en]at Pf;rw [em]at hn2;have EN:=V en;have EM:=V em;have EC:=V ec;clear h en em ec;go_enter func274,ntmps274;go_wp2_with fail;refine(jl w0 _ R st HH.out).mono ?_;rintro e w1 ⟨rfl,hh,hk⟩;have HH:=V hh;have LD:=V (LD.out.keeps hk (by omega));have Mi:=V (Mi.out.keeps hk (by omega));have HK:=V (HK.out.trans hk (fun _ h=> .inl h));clear hh hk;rw [EC.out];by_cases q:c=0
 ·have f1:((c.toNat:Int) !=0)=false:=by rw [q];rfl
  have HN:=V ((zJ (EC.out.trans q)).1);have HW:=V (show ie gy st ⟨true,n,-1⟩by rw [<- EN.out];exact(zJ (EC.out.trans q)).2);clear q;go_wp2_with fail;refine(im w0 w1 R _ HH.out).mono ?_;rintro e w2 ⟨rfl,hh,hk⟩;have HH:=V hh;have LD:=V (LD.out.keeps hk (by omega));have Mi:=V (Mi.out.keeps hk (by omega));have HK:=V (HK.out.trans hk (fun _ h=> .inl h));clear hh hk;rw [EN.out];obtain⟨y0,y1,y2,-,u1,u2⟩:=Mi.out.G5;obtain⟨x0,x1,x2,z0,z1,z2⟩:=LD.out.G5;have Mi:=V ((Mi.out.set 1 (.int .i64 n)));have LD:=V (LD.out.other ⟨w.heap.size+1,1,none⟩ (.int .i64 n) (by show w.heap.size≠w.heap.size+1;omega));have HH:=V (HH.out.keeps (eC w2 (w.heap.size+1) 1 (.int .i64 n)) (by omega) (fun i hi=>by omega));have HK:=V (HK.out.jr (eC w2 (w.heap.size+1) 1 (.int .i64 n)) (by omega));go_wp2_with fail;have hx:=LD.out.tH (.bool true) (.int .i64 n) (.int .i64 (-1));have Lt:=kQ (w2.setCell ⟨w.heap.size+1,1,none⟩ (.int .i64 n)) w.heap.size (.bool true) (.int .i64 n) (.int .i64 (-1));refine aN (eG rfl _ _ rfl hx.pP) rfl ?_;exact⟨⟨true,n,(-1)⟩,rfl,Jb Pf (by omega),HW.out,by rw [HN.out];exact HH.out.keeps Lt (by omega) (fun i hi=>by omega),HK.out.jr Lt (ag _)⟩
 ·have f1:((c.toNat:Int) !=0)=true:=fw (fun h=>q (dD.1 (by show c.toNat=0;omega)))
  have HN:=V ((At (fun h=>q (EC.out.symm.trans h))).1);have HW:=V (show ie gy st ⟨true,n,m⟩by rw [<- EN.out, <- EM.out];exact(At (fun h=>q (EC.out.symm.trans h))).2);clear q;go_wp2_with fail;refine(im w0 w1 R _ HH.out).mono ?_;rintro e w2 ⟨rfl,hh,hk⟩;have HH:=V hh;have LD:=V (LD.out.keeps hk (by omega));have Mi:=V (Mi.out.keeps hk (by omega));have HK:=V (HK.out.trans hk (fun _ h=> .inl h));clear hh hk;rw [EN.out];have y1:=Mi.out.cell 1;have u1:=Mi.out.free 1;have Mi:=V ((Mi.out.set 1 (.int .i64 n)));have LD:=V (LD.out.other ⟨w.heap.size+1,1,none⟩ (.int .i64 n) (by show w.heap.size≠w.heap.size+1;omega));have HH:=V (HH.out.keeps (eC w2 (w.heap.size+1) 1 (.int .i64 n)) (by omega) (fun i hi=>by omega));have HK:=V (HK.out.jr (eC w2 (w.heap.size+1) 1 (.int .i64 n)) (by omega));have Mi:=V (show eP (w2.setCell ⟨w.heap.size+1,1,none⟩ (.int .i64 n)) (w.heap.size+1) #[.bool true, .int .i64 n, .int .i64 (-1)] 55 from by simpa using Mi.out);go_wp2_with fail;refine(im w0 _ R _ HH.out).mono ?_;rintro e w3 ⟨rfl,hh,hk⟩;have HH:=V hh;have LD:=V (LD.out.keeps hk (by omega));have Mi:=V (Mi.out.keeps hk (by omega));have HK:=V (HK.out.trans hk (fun _ h=> .inl h));clear hh hk;clear y1 u1;rw [EM.out];obtain⟨y0,y1,y2,-,u1,u2⟩:=Mi.out.G5;obtain⟨x0,x1,x2,z0,z1,z2⟩:=LD.out.G5;have Mi:=V ((Mi.out.set 2 (.int .i64 m)));have LD:=V (LD.out.other ⟨w.heap.size+1,2,none⟩ (.int .i64 m) (by show w.heap.size≠w.heap.size+1;omega));have HH:=V (HH.out.keeps (eC w3 (w.heap.size+1) 2 (.int .i64 m)) (by omega) (fun i hi=>by omega));have HK:=V (HK.out.jr (eC w3 (w.heap.size+1) 2 (.int .i64 m)) (by omega));go_wp2_with fail;have hx:=LD.out.tH (.bool true) (.int .i64 n) (.int .i64 m);have Lt:=kQ (w3.setCell ⟨w.heap.size+1,2,none⟩ (.int .i64 m)) w.heap.size (.bool true) (.int .i64 n) (.int .i64 m);refine aN (eG rfl _ _ rfl hx.pP) rfl ?_;exact⟨⟨true,n,m⟩,rfl,Jb Pf (by omega),HW.out,by rw [HN.out];exact HH.out.keeps Lt (by omega) (fun i hi=>by omega),HK.out.jr Lt (ag _)⟩
theorem H8 (w0:World) (Y:Nat) (get:je (gf)) (P:gf ->Prop) (hG:iZ get) (st:gu) (w:World) (Lq:Nat) (bs cs:Array Value)
  (hE:∀args w,(callFunc Lq args).run prog w= .ok (.enter Lq args) w) (h:fD w0 w Y st)
  (hp:∀s w1,fD w0 w1 Y s ->ee (fun k=>k=Y) w w1 ->Calls prog Lq (bs++cs) w1 (Ez (fun x:gf=> .agg #[.bool x.has, .int .i64 x.min, .int .i64 x.max]) w0 Y get P s w1)):
  Calls prog 272 #[.pointer (some ⟨Y,0,none⟩), .func (.func Lq) bs cs] w (Kl 55 3 yd w0 Y get P st w):=by
 have HP:=V hp;have HH:=V h;have hR:=h.lt;have HG:=V hG;clear hp h hG;go_enter func272,ntmps272;go_wp2_with fail;refine(im w0 w Y st HH.out).mono ?_;rintro e w1 ⟨rfl,h1,MA⟩;have Nn:=V (ky get st _ (iQ st));have hn:=iU st;have hlen:=h1.len;obtain⟨N,eN⟩:∃N,iX st=N:=⟨_,rfl⟩;rw [eN]at hn Nn⊢;clear eN;go_wp2_with fail;refine eJ (fun a' w'=>∃(v:Value) (acc:List (gf)) (n:Nat) (s:gu),a'=fr (.pointer (some ⟨Y,0,none⟩):: .func (.func Lq) bs cs::gs a' 2 3 (v:: .int .i64 n::gs a' 7 19 []))/\ea 55 3 yd w' w.heap.size v acc/\Iw w0 Y get P st w w' acc n s) (fun a' _=>(intOf (a'.tmps.getD 6 undef)).toNat) ?_ ?_
 ·exact⟨_,[],N,ez gq st,rfl,ea.nil _ _,Nn.out,by simp,by simpa using hlen,h1,MA,hn⟩
 ·clear h1 MA hn hlen Nn HH
  rintro R a' w1 ⟨v,acc,n,s,Lp,hJ⟩ HR;dsimp only [fr,gs]at Lp;generalize slot a'=f at Lp;subst Lp;obtain⟨ho,Mv,LM,hlen,Mo,hk,hn⟩:=hJ;have L4:=V Mo;have LX:=V Mv;have LJ:=V LM;have NS:=V hR;have Mr:=hk.size;have c1:=Mo.bad;have HO:=V ho;have Mp:∀i,eH v i ->¬ i=Y:=fun i hi=>by have:=(eE ho hi).1;omega
  have QX:=V Mp;have HK:=V hk;clear ho Mp Mv LM Mo hk;rcases aY n with MZ | MZ
  ·obtain⟨g1,g2⟩:=gO get LX.out (.inl MZ)
   have G1:=V g1;have G2:=V g2;subst MZ;clear g1 g2;go_wp2_with fail;go_ret;exact⟨_,acc,rfl,HO.out,LJ.out,by omega,G2.out,by rw [G1.out];exact L4.out,HK.out⟩
  have f0:decide ((0:Int) < (n:Int))=true:=aA (by omega);cases s with
  | none=>
   have c1:w1.cell? ⟨Y,1,none⟩=some (.bool true):=c1;obtain⟨g1,g2⟩:=gO get LX.out (.inr rfl);have G1:=V g1;have G2:=V g2;clear g1 g2;go_wp2_with fail;go_ret;exact⟨_,acc,rfl,HO.out,LJ.out,by omega,G2.out,by rw [G1.out];exact L4.out,HK.out⟩
  | some lb=>
   have c1:w1.cell? ⟨Y,1,none⟩=some (.bool false):=c1;obtain⟨n',rfl⟩:∃n',n=n'+1:=⟨n - 1,by omega⟩;have Lw:=HG.out.len lb;have PL:acc.length <=8001:=by omega
   have Ns:=V (show acc.length+1+(ez get (some lb)).len <=8001 by omega);clear Lw hlen;go_wp2_with fail;refine(HP.out (some lb) w1 L4.out HK.out).mono ?_;rintro e w2 ⟨x,rfl,O6,O7,h2,Lv⟩;have Mq:=V (ea.keeps HO.out Lv QX.out);obtain⟨av,cv,ev,_,MR,-⟩:=Mq.out.fR Aa;subst ev;unfold maxLen at MR;have MG:=V h2;have Qf:=V O6;have MX:=V (LX.out.trans (jJ get n' acc O7));have MI:=V (HK.out.trans Lv (fun _ h=> .inl h));have Pe:=V (show w.heap.size <=w1.heap.size from HK.out.size);have Nx:=V (show w.heap.size <=w2.heap.size from MI.out.size);clear O6 O7 h2 Lv c1;go_wp2_with (first | (at_builtin;refine fb w2 rfl _ _ 249 rfl _ 24 (by kernel_rfl) Et rfl (by decide) (by decide) w.heap.size (.slice av acc.length cv) acc rfl Mq.out x _ rfl rfl (Ku x) rfl (by omega) Nx.out ?_));intro v3 w3 MB L5 M0;have NP:=V MB;have L7:∀i,eH (.slice av acc.length cv) i ->w.heap.size <=i/\i < w2.heap.size:=fun i hi=>eE Mq.out hi;have ND:=V (MG.out.keeps L5 (fun h=>by have:=(L7 _ h).1;have:=NS.out;omega) (fun i hi=>by have:=(L7 i hi).1;have:=MG.out.old.2;have:=NS.out;omega));have PT:=V (MI.out.trans L5 (fun i hi=> .inr (L7 i hi).1));clear MB L5 M0 L7;go_wp2_with fail;refine HR.out _ _ ⟨_,acc++[x],n',ez get (some lb),rfl,NP.out,MX.out,?_,?_,ND.out,PT.out,by omega⟩ ?_
   ·intro y hy
    rcases aZ.1 hy with h | h
    ·exact LJ.out y h
    ·obtain rfl:=aQ.1 h
     exact Qf.out
   ·rw [ah]
    exact Ns.out
   ·simp [intOf]
theorem Ik (w0:World) (Y:Nat) (get:je (jg)) (P:jg ->Prop) (hG:iZ get) (st:gu) (w:World) (Lq:Nat) (bs cs:Array Value)
  (hE:∀args w,(callFunc Lq args).run prog w= .ok (.enter Lq args) w) (h:fD w0 w Y st)
  (hp:∀s w1,fD w0 w1 Y s ->ee (fun k=>k=Y) w w1 ->Calls prog Lq (bs++cs) w1 (Ez (fun x:jg=> .agg #[.bool x.isVar, .int .i64 x.init.kind, .int .i64 x.init.n]) w0 Y get P s w1)):
  Calls prog 215 #[.pointer (some ⟨Y,0,none⟩), .func (.func Lq) bs cs] w (Kl 120 3 td w0 Y get P st w):=by
 have HP:=V hp;have HH:=V h;have hR:=h.lt;have HG:=V hG;clear hp h hG;go_enter func215,ntmps215;go_wp2_with fail;refine(im w0 w Y st HH.out).mono ?_;rintro e w1 ⟨rfl,h1,MA⟩;have Nn:=V (ky get st _ (iQ st));have hn:=iU st;have hlen:=h1.len;obtain⟨N,eN⟩:∃N,iX st=N:=⟨_,rfl⟩;rw [eN]at hn Nn⊢;clear eN;go_wp2_with fail;refine eJ (fun a' w'=>∃(v:Value) (acc:List (jg)) (n:Nat) (s:gu),a'=fr (.pointer (some ⟨Y,0,none⟩):: .func (.func Lq) bs cs::gs a' 2 3 (v:: .int .i64 n::gs a' 7 19 []))/\ea 120 3 td w' w.heap.size v acc/\Iw w0 Y get P st w w' acc n s) (fun a' _=>(intOf (a'.tmps.getD 6 undef)).toNat) ?_ ?_
 ·exact⟨_,[],N,ez gq st,rfl,ea.nil _ _,Nn.out,by simp,by simpa using hlen,h1,MA,hn⟩
 ·clear h1 MA hn hlen Nn HH
  rintro R a' w1 ⟨v,acc,n,s,Lp,hJ⟩ HR;dsimp only [fr,gs]at Lp;generalize slot a'=f at Lp;subst Lp;obtain⟨ho,Mv,LM,hlen,Mo,hk,hn⟩:=hJ;have L4:=V Mo;have LX:=V Mv;have LJ:=V LM;have NS:=V hR;have Mr:=hk.size;have c1:=Mo.bad;have HO:=V ho;have Mp:∀i,eH v i ->¬ i=Y:=fun i hi=>by have:=(eE ho hi).1;omega
  have QX:=V Mp;have HK:=V hk;clear ho Mp Mv LM Mo hk;rcases aY n with MZ | MZ
  ·obtain⟨g1,g2⟩:=gO get LX.out (.inl MZ)
   have G1:=V g1;have G2:=V g2;subst MZ;clear g1 g2;go_wp2_with fail;go_ret;exact⟨_,acc,rfl,HO.out,LJ.out,by omega,G2.out,by rw [G1.out];exact L4.out,HK.out⟩
  have f0:decide ((0:Int) < (n:Int))=true:=aA (by omega);cases s with
  | none=>
   have c1:w1.cell? ⟨Y,1,none⟩=some (.bool true):=c1;obtain⟨g1,g2⟩:=gO get LX.out (.inr rfl);have G1:=V g1;have G2:=V g2;clear g1 g2;go_wp2_with fail;go_ret;exact⟨_,acc,rfl,HO.out,LJ.out,by omega,G2.out,by rw [G1.out];exact L4.out,HK.out⟩
  | some lb=>
   have c1:w1.cell? ⟨Y,1,none⟩=some (.bool false):=c1;obtain⟨n',rfl⟩:∃n',n=n'+1:=⟨n - 1,by omega⟩;have Lw:=HG.out.len lb;have PL:acc.length <=8001:=by omega
   have Ns:=V (show acc.length+1+(ez get (some lb)).len <=8001 by omega);clear Lw hlen;go_wp2_with fail;refine(HP.out (some lb) w1 L4.out HK.out).mono ?_;rintro e w2 ⟨x,rfl,O6,O7,h2,Lv⟩;have Mq:=V (ea.keeps HO.out Lv QX.out);obtain⟨av,cv,ev,_,MR,-⟩:=Mq.out.fR za;subst ev;unfold maxLen at MR;have MG:=V h2;have Qf:=V O6;have MX:=V (LX.out.trans (jJ get n' acc O7));have MI:=V (HK.out.trans Lv (fun _ h=> .inl h));have Pe:=V (show w.heap.size <=w1.heap.size from HK.out.size);have Nx:=V (show w.heap.size <=w2.heap.size from MI.out.size);clear O6 O7 h2 Lv c1;go_wp2_with (first | (at_builtin;refine fb w2 rfl _ _ 56 rfl _ 24 (by kernel_rfl) Dl rfl (by decide) (by decide) w.heap.size (.slice av acc.length cv) acc rfl Mq.out x _ rfl rfl (KB x) rfl (by omega) Nx.out ?_));intro v3 w3 MB L5 M0;have NP:=V MB;have L7:∀i,eH (.slice av acc.length cv) i ->w.heap.size <=i/\i < w2.heap.size:=fun i hi=>eE Mq.out hi;have ND:=V (MG.out.keeps L5 (fun h=>by have:=(L7 _ h).1;have:=NS.out;omega) (fun i hi=>by have:=(L7 i hi).1;have:=MG.out.old.2;have:=NS.out;omega));have PT:=V (MI.out.trans L5 (fun i hi=> .inr (L7 i hi).1));clear MB L5 M0 L7;go_wp2_with fail;refine HR.out _ _ ⟨_,acc++[x],n',ez get (some lb),rfl,NP.out,MX.out,?_,?_,ND.out,PT.out,by omega⟩ ?_
   ·intro y hy
    rcases aZ.1 hy with h | h
    ·exact LJ.out y h
    ·obtain rfl:=aQ.1 h
     exact Qf.out
   ·rw [ah]
    exact Ns.out
   ·simp [intOf]
theorem IC (w0:World) (Y:Nat) (get:je (iO)) (P:iO ->Prop) (hG:iZ get) (st:gu) (w:World) (Lq:Nat) (bs cs:Array Value)
  (hE:∀args w,(callFunc Lq args).run prog w= .ok (.enter Lq args) w) (h:fD w0 w Y st)
  (hp:∀s w1,fD w0 w1 Y s ->ee (fun k=>k=Y) w w1 ->Calls prog Lq (bs++cs) w1 (Ez (fun x:iO=> .agg #[.string x.name, .int .i64 x.func]) w0 Y get P s w1)):
  Calls prog 217 #[.pointer (some ⟨Y,0,none⟩), .func (.func Lq) bs cs] w (Kl 111 2 rz w0 Y get P st w):=by
 have HP:=V hp;have HH:=V h;have hR:=h.lt;have HG:=V hG;clear hp h hG;go_enter func217,ntmps217;go_wp2_with fail;refine(im w0 w Y st HH.out).mono ?_;rintro e w1 ⟨rfl,h1,MA⟩;have Nn:=V (ky get st _ (iQ st));have hn:=iU st;have hlen:=h1.len;obtain⟨N,eN⟩:∃N,iX st=N:=⟨_,rfl⟩;rw [eN]at hn Nn⊢;clear eN;go_wp2_with fail;refine eJ (fun a' w'=>∃(v:Value) (acc:List (iO)) (n:Nat) (s:gu),a'=fr (.pointer (some ⟨Y,0,none⟩):: .func (.func Lq) bs cs::gs a' 2 3 (v:: .int .i64 n::gs a' 7 19 []))/\ea 111 2 rz w' w.heap.size v acc/\Iw w0 Y get P st w w' acc n s) (fun a' _=>(intOf (a'.tmps.getD 6 undef)).toNat) ?_ ?_
 ·exact⟨_,[],N,ez gq st,rfl,ea.nil _ _,Nn.out,by simp,by simpa using hlen,h1,MA,hn⟩
 ·clear h1 MA hn hlen Nn HH
  rintro R a' w1 ⟨v,acc,n,s,Lp,hJ⟩ HR;dsimp only [fr,gs]at Lp;generalize slot a'=f at Lp;subst Lp;obtain⟨ho,Mv,LM,hlen,Mo,hk,hn⟩:=hJ;have L4:=V Mo;have LX:=V Mv;have LJ:=V LM;have NS:=V hR;have Mr:=hk.size;have c1:=Mo.bad;have HO:=V ho;have Mp:∀i,eH v i ->¬ i=Y:=fun i hi=>by have:=(eE ho hi).1;omega
  have QX:=V Mp;have HK:=V hk;clear ho Mp Mv LM Mo hk;rcases aY n with MZ | MZ
  ·obtain⟨g1,g2⟩:=gO get LX.out (.inl MZ)
   have G1:=V g1;have G2:=V g2;subst MZ;clear g1 g2;go_wp2_with fail;go_ret;exact⟨_,acc,rfl,HO.out,LJ.out,by omega,G2.out,by rw [G1.out];exact L4.out,HK.out⟩
  have f0:decide ((0:Int) < (n:Int))=true:=aA (by omega);cases s with
  | none=>
   have c1:w1.cell? ⟨Y,1,none⟩=some (.bool true):=c1;obtain⟨g1,g2⟩:=gO get LX.out (.inr rfl);have G1:=V g1;have G2:=V g2;clear g1 g2;go_wp2_with fail;go_ret;exact⟨_,acc,rfl,HO.out,LJ.out,by omega,G2.out,by rw [G1.out];exact L4.out,HK.out⟩
  | some lb=>
   have c1:w1.cell? ⟨Y,1,none⟩=some (.bool false):=c1;obtain⟨n',rfl⟩:∃n',n=n'+1:=⟨n - 1,by omega⟩;have Lw:=HG.out.len lb;have PL:acc.length <=8001:=by omega
   have Ns:=V (show acc.length+1+(ez get (some lb)).len <=8001 by omega);clear Lw hlen;go_wp2_with fail;refine(HP.out (some lb) w1 L4.out HK.out).mono ?_;rintro e w2 ⟨x,rfl,O6,O7,h2,Lv⟩;have Mq:=V (ea.keeps HO.out Lv QX.out);obtain⟨av,cv,ev,_,MR,-⟩:=Mq.out.fR zC;subst ev;unfold maxLen at MR;have MG:=V h2;have Qf:=V O6;have MX:=V (LX.out.trans (jJ get n' acc O7));have MI:=V (HK.out.trans Lv (fun _ h=> .inl h));have Pe:=V (show w.heap.size <=w1.heap.size from HK.out.size);have Nx:=V (show w.heap.size <=w2.heap.size from MI.out.size);clear O6 O7 h2 Lv c1;go_wp2_with (first | (at_builtin;refine fb w2 rfl _ _ 57 rfl _ 24 (by kernel_rfl) AA rfl (by decide) (by decide) w.heap.size (.slice av acc.length cv) acc rfl Mq.out x _ rfl rfl (JU x) rfl (by omega) Nx.out ?_));intro v3 w3 MB L5 M0;have NP:=V MB;have L7:∀i,eH (.slice av acc.length cv) i ->w.heap.size <=i/\i < w2.heap.size:=fun i hi=>eE Mq.out hi;have ND:=V (MG.out.keeps L5 (fun h=>by have:=(L7 _ h).1;have:=NS.out;omega) (fun i hi=>by have:=(L7 i hi).1;have:=MG.out.old.2;have:=NS.out;omega));have PT:=V (MI.out.trans L5 (fun i hi=> .inr (L7 i hi).1));clear MB L5 M0 L7;go_wp2_with fail;refine HR.out _ _ ⟨_,acc++[x],n',ez get (some lb),rfl,NP.out,MX.out,?_,?_,ND.out,PT.out,by omega⟩ ?_
   ·intro y hy
    rcases aZ.1 hy with h | h
    ·exact LJ.out y h
    ·obtain rfl:=aQ.1 h
     exact Qf.out
   ·rw [ah]
    exact Ns.out
   ·simp [intOf]
theorem ea.stay {α:Type} {t:TypeId} {k:Nat} {enc:α ->List Value} {w w':World} {B:Nat} {v:Value} {l:List α} {S:Nat ->Prop} (h:ea t k enc w B v l) (hk:ee S w w') (hs:∀i,S i ->i < B):ea t k enc w' B v l:=
 h.keeps hk (fun i hi hp=>by have:=(eE h hi).1;have:=hs i hp;omega)
theorem ea.lower {α:Type} {t:TypeId} {k:Nat} {enc:α ->List Value} {w:World} {B B':Nat} {v:Value} {l:List α} (h:ea t k enc w B v l) (hB:B' <=B):ea t k enc w B' v l:=
 mW h (fun _ hk=>aW hB (eE h hk).1)
theorem Cz (st:gu):iP (nW st):=by
 rcases(Am st).2 with h;rw [h];split
 ·exact⟨by decide,by decide⟩
 ·split <;>exact⟨by decide,by decide⟩
theorem EU (w0 w:World) (R:Nat) (s:gu) (h:fD w0 w R s):Calls prog 270 (#[.pointer (some ⟨R,0,none⟩)]++#[]) w (Ez (fun x:Int=> .int .i64 x) w0 R gT iP s w):=by
 refine(uX w0 w R s h).mono ?_;rintro e w' ⟨rfl,h1,h2⟩;exact⟨nW s,rfl,Cz s,wH s,h1,h2⟩
theorem BH (n:Nat) (h:n < 4294967296):iP n:=⟨by show(-9223372036854775808:Int) <=n;omega,by show(n:Int) <=9223372036854775807;omega⟩
theorem FH (w0 w:World) (R:Nat) (s:gu) (h:fD w0 w R s):Calls prog 110 (#[.pointer (some ⟨R,0,none⟩)]++#[]) w (Ez (fun x:Int=> .int .i64 x) w0 R vN iP s w):=by
 refine(im w0 w R s h).mono ?_;rintro e w' ⟨rfl,h1,h2⟩;exact⟨iX s,rfl,BH _ (iU s),by rw [qI];exact fK (iQ s),by rw [qI,fG];exact h1,h2⟩
theorem F8 (w0 w:World) (R:Nat) (st:gu) (h:fD w0 w R st):Calls prog 210 (#[.pointer (some ⟨R,0,none⟩)]++#[]) w (Jf (fun(_:gN) (u:Value × Value)=> .agg #[u.1,u.2]) gW w0 R pg (fun _=>True) st w):=by
 have Nf:=h.lt;have PH:=h.old.2;have HH:=V (h.alloc (.cells #[.slice none 0 0, .slice none 0 0] 109));have HX:=V (eP.new w #[.slice none 0 0, .slice none 0 0] 109);have HK:=V ((ee.refl (fun k=>k=R) w).alloc (.cells #[.slice none 0 0, .slice none 0 0] 109));have Mr:(w.alloc (.cells #[.slice none 0 0, .slice none 0 0] 109)).heap.size=w.heap.size+1:=aE _ _;have MP:=dA Mr.symm;clear h Mr;go_enter func210,ntmps210;go_wp2_with fail;refine(jl w0 _ R st HH.out).mono ?_;rintro e w1 ⟨rfl,hh,hk⟩;have MP:=aW MP hk.size;have HH:=V hh;have HX:=V (HX.out.keeps hk (by omega));have HK:=V (HK.out.trans hk (fun _ h=> .inl h));clear hh hk;go_wp2_with fail;refine(oq w0 R gT iP lO _ w1 270 #[.pointer (some ⟨R,0,none⟩)] #[] (fun _ _=>by rfl) HH.out (fun s w1 h _=>EU w0 w1 R s h)).mono ?_;rintro e w2 ⟨v1,l1,rfl,OE,hp1,Ro,Qn,hh,hk⟩;obtain⟨a1,c1,rfl,-,-⟩:=OE.slice;have Nu:=aW MP hk.size;have Nj:=V OE;have HP1:=V hp1;have Mn:=V Qn;clear OE hp1 Qn;have HH:=V hh;have HX:=V (HX.out.keeps hk (by omega));have HK:=V (HK.out.trans hk (fun _ h=> .inl h));clear hh hk;go_wp2_with fail;refine(oq w0 R gT iP lO _ w2 270 #[.pointer (some ⟨R,0,none⟩)] #[] (fun _ _=>by rfl) HH.out (fun s w1 h _=>EU w0 w1 R s h)).mono ?_;rintro e w3 ⟨v2,l2,rfl,LL,Qc,hl2,N8,hh,hk⟩;obtain⟨a2,c2,rfl,-,-⟩:=LL.slice;have Nj:=V (Nj.out.stay hk (fun i hi=>by omega));have Mq:=V LL;have HP2:=V Qc;have LH:=V N8;clear LL Qc N8;have HH:=V hh;have HX:=V (HX.out.keeps hk (by omega));have HK:=V (HK.out.trans hk (fun _ h=> .inl h));clear hh hk;obtain⟨x0,x1,z0,z1⟩:=HX.out.two;go_wp2_with fail;have hx:=HX.out.nx (.slice a1 l1.length c1) (.slice a2 l2.length c2);have Lt:=fN w3 w.heap.size (.slice a1 l1.length c1) (.slice a2 l2.length c2);refine aN (eG rfl _ _ rfl hx.ln) rfl ?_;have o1:=((Nj.out.stay Lt (fun i hi=>by omega)).lower (show w.heap.size <=w1.heap.size by omega));have o2:=((Mq.out.stay Lt (fun i hi=>by omega)).lower (show w.heap.size <=w2.heap.size by omega));refine⟨⟨l1,l2⟩,(.slice a1 l1.length c1, .slice a2 l2.length c2),rfl,⟨⟨jx fH o1,jx fH o2⟩,HP1.out,HP2.out⟩,trivial,?_,?_,HK.out.jr Lt (ag _)⟩
 ·rw [tV]
  exact fK (f:=fun x:UInt8 × List Int × List Int=>gN.mk x.2.1 x.2.2) (iz (mP st) (iz Mn.out LH.out))
 ·rw [tV,fG,hH,hH]
  exact HH.out.keeps Lt (by omega) (fun i hi=>by omega)
theorem qC {w0 w:World} {R:Nat} {st:gu} (h:fD w0 w R st):(wT st).size <=8000:=by
 have:=zI h;show((nZ st).toArray).size <=8000;simpa using this
def jt.fits (x:jt):Prop:=x.mod.size <=8000/\x.name.size <=8000/\iP x.type
def iO.fits (x:iO):Prop:=x.name.size <=8000/\iP x.func
theorem Bq (w0 w:World) (R:Nat) (st:gu) (h:fD w0 w R st):Calls prog 212 (#[.pointer (some ⟨R,0,none⟩)]++#[]) w (Ez (fun x:jt=> .agg #[.string x.mod, .string x.name, .int .i64 x.type]) w0 R uZ jt.fits st w):=by
 have Nf:=h.lt;have PH:=h.old.2;have HH:=V (h.alloc (.cells #[.string (bs []), .string (bs []), .int .i64 0] 118));have HX:=V (eP.new w #[.string (bs []), .string (bs []), .int .i64 0] 118);have HK:=V ((ee.refl (fun k=>k=R) w).alloc (.cells #[.string (bs []), .string (bs []), .int .i64 0] 118));have Mr:(w.alloc (.cells #[.string (bs []), .string (bs []), .int .i64 0] 118)).heap.size=w.heap.size+1:=aE _ _;have MP:=dA Mr.symm;have HT1:=V (qC h);clear h Mr;go_enter func212,ntmps212;go_wp2_with fail;refine(uW w0 _ R st HH.out).mono ?_;rintro e w1 ⟨rfl,hh,hk⟩;have MP:=aW MP hk.size;have HH:=V hh;have HX:=V (HX.out.keeps hk (by omega));have HK:=V (HK.out.trans hk (fun _ h=> .inl h));clear hh hk;have Sd:=V (qC HH.out);go_wp2_with fail;refine(uW w0 w1 R _ HH.out).mono ?_;rintro e w2 ⟨rfl,hh,hk⟩;have Nu:=aW MP hk.size;have HH:=V hh;have HX:=V (HX.out.keeps hk (by omega));have HK:=V (HK.out.trans hk (fun _ h=> .inl h));clear hh hk;obtain⟨s1,es1⟩:∃s,wT st=s:=⟨_,rfl⟩;obtain⟨s2,es2⟩:∃s,wT (ez jQ st)=s:=⟨_,rfl⟩;rw [es1]at HT1;rw [es2]at Sd;rw [es1,es2];have ES1:=V es1;have ES2:=V es2;clear es1 es2;have HY:=V (eP.new w2 #[.string s1, .string s2, .int .i64 0] 118);have HX:=V (HX.out.alloc (.cells #[.string s1, .string s2, .int .i64 0] 118));have HK:=V (HK.out.alloc (.cells #[.string s1, .string s2, .int .i64 0] 118));have HH:=V (HH.out.alloc (.cells #[.string s1, .string s2, .int .i64 0] 118));go_wp2_with fail;refine(jl w0 _ R _ HH.out).mono ?_;rintro e w3 ⟨rfl,hh,hk⟩;have HH:=V hh;have HX:=V (HX.out.keeps hk (by omega));have HY:=V (HY.out.keeps hk (by omega));have HK:=V (HK.out.trans hk (fun _ h=> .inl h));clear hh hk;go_wp2_with fail;refine(im w0 w3 R _ HH.out).mono ?_;rintro e w4 ⟨rfl,hh,hk⟩;have HH:=V hh;have HX:=V (HX.out.keeps hk (by omega));have HY:=V (HY.out.keeps hk (by omega));have HK:=V (HK.out.trans hk (fun _ h=> .inl h));clear hh hk;have hn:=iU (ez fk (ez jQ (ez jQ st)));obtain⟨n,en⟩:∃n,iX (ez fk (ez jQ (ez jQ st)))=n:=⟨_,rfl⟩;rw [en]at hn⊢;have EN:=V en;clear en;obtain⟨y0,y1,y2,v0,v1,v2⟩:=HY.out.G5;obtain⟨x0,x1,x2,z0,z1,z2⟩:=HX.out.G5;go_wp2_with fail;have NI:=eC w4 w2.heap.size 2 (.int .i64 n);have hx:=(HX.out.keeps NI (by omega)).tH (.string s1) (.string s2) (.int .i64 n);have Lt:=kQ (w4.setCell ⟨w2.heap.size,2,none⟩ (.int .i64 n)) w.heap.size (.string s1) (.string s2) (.int .i64 n);refine aN (eG rfl _ _ rfl hx.Hx) rfl ?_;refine⟨⟨s1,s2,n⟩,rfl,⟨HT1.out,Sd.out,BH n hn⟩,?_,?_,(HK.out.jr NI (by omega)).jr Lt (ag _)⟩
 ·rw [yj]
  refine fK (f:=fun x:ByteArray × ByteArray × UInt8 × Int=>jt.mk x.1 x.2.1 x.2.2.2) (x:=(s1,s2,_,(n:Int))) (iz ?_ (iz ?_ (iz (mP _) ?_)))
  ·rw [<- ES1.out];exact sm st
  ·rw [<- ES2.out];exact sm _
  ·rw [qI, <- EN.out]
   exact fK (f:=fun n:Nat=>(n:Int)) (iQ _)
 ·rw [yj,fG,hH,hH,hH,qI,fG]
  exact(HH.out.keeps NI (by omega) (fun i hi=>by omega)).keeps Lt (by omega) (fun i hi=>by omega)
theorem Bf (w0 w:World) (R:Nat) (st:gu) (h:fD w0 w R st):Calls prog 218 (#[.pointer (some ⟨R,0,none⟩)]++#[]) w (Ez (fun x:iO=> .agg #[.string x.name, .int .i64 x.func]) w0 R um iO.fits st w):=by
 have Nf:=h.lt;have PH:=h.old.2;have HH:=V (h.alloc (.cells #[.string (bs []), .int .i64 0] 111));have HX:=V (eP.new w #[.string (bs []), .int .i64 0] 111);have HK:=V ((ee.refl (fun k=>k=R) w).alloc (.cells #[.string (bs []), .int .i64 0] 111));have Mr:(w.alloc (.cells #[.string (bs []), .int .i64 0] 111)).heap.size=w.heap.size+1:=aE _ _;have MP:=dA Mr.symm;have HT1:=V (qC h);clear h Mr;go_enter func218,ntmps218;go_wp2_with fail;refine(uW w0 _ R st HH.out).mono ?_;rintro e w2 ⟨rfl,hh,hk⟩;have Nu:=aW MP hk.size;have HH:=V hh;have HX:=V (HX.out.keeps hk (by omega));have HK:=V (HK.out.trans hk (fun _ h=> .inl h));clear hh hk;obtain⟨s1,es1⟩:∃s,wT st=s:=⟨_,rfl⟩;rw [es1]at HT1;rw [es1];have ES1:=V es1;clear es1;have HY:=V (eP.new w2 #[.string s1, .int .i64 0] 111);have HX:=V (HX.out.alloc (.cells #[.string s1, .int .i64 0] 111));have HK:=V (HK.out.alloc (.cells #[.string s1, .int .i64 0] 111));have HH:=V (HH.out.alloc (.cells #[.string s1, .int .i64 0] 111));go_wp2_with fail;refine(jl w0 _ R _ HH.out).mono ?_;rintro e w3 ⟨rfl,hh,hk⟩;have HH:=V hh;have HX:=V (HX.out.keeps hk (by omega));have HY:=V (HY.out.keeps hk (by omega));have HK:=V (HK.out.trans hk (fun _ h=> .inl h));clear hh hk;go_wp2_with fail;refine(im w0 w3 R _ HH.out).mono ?_;rintro e w4 ⟨rfl,hh,hk⟩;have HH:=V hh;have HX:=V (HX.out.keeps hk (by omega));have HY:=V (HY.out.keeps hk (by omega));have HK:=V (HK.out.trans hk (fun _ h=> .inl h));clear hh hk;have hn:=iU (ez fk (ez jQ st));obtain⟨n,en⟩:∃n,iX (ez fk (ez jQ st))=n:=⟨_,rfl⟩;rw [en]at hn⊢;have EN:=V en;clear en;obtain⟨y0,y1,v0,v1⟩:=HY.out.two;obtain⟨x0,x1,z0,z1⟩:=HX.out.two;go_wp2_with fail;have NI:=eC w4 w2.heap.size 1 (.int .i64 n);have hx:=(HX.out.keeps NI (by omega)).nx (.string s1) (.int .i64 n);have Lt:=fN (w4.setCell ⟨w2.heap.size,1,none⟩ (.int .i64 n)) w.heap.size (.string s1) (.int .i64 n);refine aN (eG rfl _ _ rfl hx.Hf) rfl ?_;refine⟨⟨s1,n⟩,rfl,⟨HT1.out,BH n hn⟩,?_,?_,(HK.out.jr NI (by omega)).jr Lt (ag _)⟩
 ·rw [yn]
  refine fK (f:=fun x:ByteArray × UInt8 × Int=>iO.mk x.1 x.2.2) (x:=(s1,_,(n:Int))) (iz ?_ (iz (mP _) ?_))
  ·rw [<- ES1.out];exact sm st
  ·rw [qI, <- EN.out]
   exact fK (f:=fun n:Nat=>(n:Int)) (iQ _)
 ·rw [yn,fG,hH,hH,qI,fG]
  exact(HH.out.keeps NI (by omega) (fun i hi=>by omega)).keeps Lt (by omega) (fun i hi=>by omega)
theorem Bi (w0 w:World) (R:Nat) (st:gu) (h:fD w0 w R st):Calls prog 216 (#[.pointer (some ⟨R,0,none⟩)]++#[]) w (Ez (fun x:jg=> .agg #[.bool x.isVar, .int .i64 x.init.kind, .int .i64 x.init.n]) w0 R pM (fun x=>x.init.ok) st w):=by
 have Nf:=h.lt;have PH:=h.old.2;have HH:=V (h.alloc (.cells #[.bool false, .int .i64 0, .int .i64 0] 120));have HX:=V (eP.new w #[.bool false, .int .i64 0, .int .i64 0] 120);have HK:=V ((ee.refl (fun k=>k=R) w).alloc (.cells #[.bool false, .int .i64 0, .int .i64 0] 120));clear h;go_enter func216,ntmps216;go_wp2_with fail;refine(uX w0 _ R st HH.out).mono ?_;rintro e w1 ⟨rfl,hh,hk⟩;have HH:=V hh;have HX:=V (HX.out.keeps hk (by omega));have HK:=V (HK.out.trans hk (fun _ h=> .inl h));clear hh hk;go_wp2_with fail;refine(jl w0 w1 R _ HH.out).mono ?_;rintro e w2 ⟨rfl,hh,hk⟩;have HH:=V hh;have HX:=V (HX.out.keeps hk (by omega));have HK:=V (HK.out.trans hk (fun _ h=> .inl h));clear hh hk;obtain⟨c,ec⟩:∃c,nc (ez gT st)=c:=⟨_,rfl⟩;rw [ec];have EC:=V ec;clear ec;go_wp2_with fail;refine(xk w0 w2 R _ HH.out).mono ?_;rintro e w3 ⟨v,rfl,Ly,hw,hh,hk⟩;have ME:=V Ly;have HW:=V hw;clear Ly hw;have HH:=V hh;have HX:=V (HX.out.keeps hk (by omega));have HK:=V (HK.out.trans hk (fun _ h=> .inl h));clear hh hk;obtain⟨x0,x1,x2,z0,z1,z2⟩:=HX.out.G5;obtain⟨b,eb⟩:∃b,((c.toNat:Int) !=0)=b:=⟨_,rfl⟩;rw [eb];have EB:Hid ((c !=0)=b):=V (by
  rw [<- eb,dE];simp only [bne_iff_ne,ne_eq];refine not_congr ⟨fun h=>by rw [h];rfl,fun h=>dD.1 (by show c.toNat=0;omega)⟩)
 clear eb;go_wp2_with fail;have hx:=HX.out.tH (.bool b) (.int .i64 v.kind) (.int .i64 v.n);have Lt:=kQ w3 w.heap.size (.bool b) (.int .i64 v.kind) (.int .i64 v.n);refine aN (eG rfl _ _ rfl hx.FA) rfl ?_;refine⟨⟨b,v⟩,rfl,ME.out,?_,?_,HK.out.jr Lt (ag _)⟩
 ·rw [tX, <- EB.out, <- EC.out]
  exact fK (f:=fun x:Int × UInt8 × fm=>jg.mk (x.2.1 !=0) x.2.2) (iz (wH st) (iz (mP _) HW.out))
 ·rw [tX,fG,hH,hH]
  exact HH.out.keeps Lt (by omega) (fun i hi=>by omega)
def IE (b:Bool):je gf:=if b=true then lx else gy
theorem Du (b:Bool):iZ (IE b):=by cases b <;>first | exact pe | exact vq
theorem J7 (w0 w:World) (R Rb Bb:Nat) (before:Bool) (s:gu) (h:fD w0 w R s) (hr:eP w Rb #[.pointer (some ⟨R,0,none⟩)] 188) (hb:eP w Bb #[.bool before] 4) (n1:R < Rb) (n2:R < Bb):
  Calls prog 273 (#[]++#[.pointer (some ⟨Bb,0,none⟩), .pointer (some ⟨Rb,0,none⟩)]) w (Ez (fun x:gf=> .agg #[.bool x.has, .int .i64 x.min, .int .i64 x.max]) w0 R (IE before) gf.ok s w):=by
 have Nf:=h.lt;have PH:=h.old.2;have l1:=hr.lt;have l2:=hb.lt;have HH:=V (h.alloc (.cells #[.bool false, .int .i64 0, .int .i64 0] 55));have HX:=V (eP.new w #[.bool false, .int .i64 0, .int .i64 0] 55);have HK:=V ((ee.refl (fun k=>k=R) w).alloc (.cells #[.bool false, .int .i64 0, .int .i64 0] 55));have HA:=V (hr.alloc (.cells #[.bool false, .int .i64 0, .int .i64 0] 55));have HC:=V (hb.alloc (.cells #[.bool false, .int .i64 0, .int .i64 0] 55));have a0:=HA.out.cell 0;have c0:=HC.out.cell 0;simp only [aI,aG]at a0 c0;clear h hr hb;cases before with
 | true=>
  go_enter func273,ntmps273;go_wp2_with fail;refine(jl w0 _ R s HH.out).mono ?_;rintro e w1 ⟨rfl,hh,hk⟩;have HH:=V hh;have HX:=V (HX.out.keeps hk (by omega));have HA:=V (HA.out.keeps hk (by omega));have HC:=V (HC.out.keeps hk (by omega));have HK:=V (HK.out.trans hk (fun _ h=> .inl h));clear hh hk;clear a0 c0;have a0:=HA.out.cell 0;simp only [aI,aG]at a0;go_wp2_with fail;refine(uS w0 w1 R _ HH.out).mono ?_;rintro e w2 ⟨x,rfl,Ly,hw,hh,hk⟩;have ME:=V Ly;have HW:=V hw;clear Ly hw;have HH:=V hh;have HX:=V (HX.out.keeps hk (by omega));have HA:=V (HA.out.keeps hk (by omega));have HC:=V (HC.out.keeps hk (by omega));have HK:=V (HK.out.trans hk (fun _ h=> .inl h));clear hh hk;clear a0;obtain⟨x0,x1,x2,z0,z1,z2⟩:=HX.out.G5;go_wp2_with fail;have hx:=HX.out.tH (.bool x.has) (.int .i64 x.min) (.int .i64 x.max);have Lt:=kQ w2 w.heap.size (.bool x.has) (.int .i64 x.min) (.int .i64 x.max);refine aN (eG rfl _ _ rfl hx.pP) rfl ?_;refine⟨x,rfl,ME.out,?_,?_,HK.out.jr Lt (ag _)⟩
  ·show ie lx s x
   rw [sd];exact fK (f:=fun x:UInt8 × gf=>x.2) (iz (mP s) HW.out)
  ·show fD w0 _ R (ez lx s)
   rw [sd,fG,hH];exact HH.out.keeps Lt (by omega) (fun i hi=>by omega)
 | false=>
  go_enter func273,ntmps273;go_wp2_with fail;refine(uS w0 _ R _ HH.out).mono ?_;rintro e w2 ⟨x,rfl,Ly,hw,hh,hk⟩;have ME:=V Ly;have HW:=V hw;clear Ly hw;have HH:=V hh;have HX:=V (HX.out.keeps hk (by omega));have HA:=V (HA.out.keeps hk (by omega));have HC:=V (HC.out.keeps hk (by omega));have HK:=V (HK.out.trans hk (fun _ h=> .inl h));clear hh hk;clear a0 c0;obtain⟨x0,x1,x2,z0,z1,z2⟩:=HX.out.G5;go_wp2_with fail;have hx:=HX.out.tH (.bool x.has) (.int .i64 x.min) (.int .i64 x.max);have Lt:=kQ w2 w.heap.size (.bool x.has) (.int .i64 x.min) (.int .i64 x.max);refine aN (eG rfl _ _ rfl hx.pP) rfl ?_;exact⟨x,rfl,ME.out,HW.out,HH.out.keeps Lt (by omega) (fun i hi=>by omega),HK.out.jr Lt (ag _)⟩
def Iq (w0 w:World) (R:Nat) (st:gu) (get:je gf) (e:Ending) (w':World):Prop:=
 ∃x:gf,e= .returned (.agg #[.bool x.has, .int .i64 x.min, .int .i64 x.max])/\x.ok/\ie (hU kg (fC get)) st x/\fD w0 w' R (ez (fC get) st)/\ee (fun k=>k=R) w w'
theorem nV:gf.ok ⟨false,0,0⟩:=⟨yD,yD⟩
theorem sW (w0 w:World) (R:Nat) (before:Bool) (st:gu) (h:fD w0 w R st):Calls prog 214 #[.pointer (some ⟨R,0,none⟩), .bool before] w (Iq w0 w R st (IE before)):=by
 have Nf:=h.lt;have PH:=h.old.2;have HH:=V (((h.alloc (.cells #[.pointer (some ⟨R,0,none⟩)] 188)).alloc (.cells #[.bool before] 4)).alloc (.cells #[.bool false, .int .i64 0, .int .i64 0] 55));have HA:=V (((eP.new w #[.pointer (some ⟨R,0,none⟩)] 188).alloc (.cells #[.bool before] 4)).alloc (.cells #[.bool false, .int .i64 0, .int .i64 0] 55));have HC:Hid (eP (((w.alloc (.cells #[.pointer (some ⟨R,0,none⟩)] 188)).alloc (.cells #[.bool before] 4)).alloc (.cells #[.bool false, .int .i64 0, .int .i64 0] 55)) (w.heap.size+1) #[.bool before] 4):=V (by
  have:=(eP.new (w.alloc (.cells #[.pointer (some ⟨R,0,none⟩)] 188)) #[.bool before] 4).alloc (.cells #[.bool false, .int .i64 0, .int .i64 0] 55);rw [aE]at this;exact this)
 have HX:Hid (eP (((w.alloc (.cells #[.pointer (some ⟨R,0,none⟩)] 188)).alloc (.cells #[.bool before] 4)).alloc (.cells #[.bool false, .int .i64 0, .int .i64 0] 55)) (w.heap.size+1+1) #[.bool false, .int .i64 0, .int .i64 0] 55):=V (by
  have:=eP.new ((w.alloc (.cells #[.pointer (some ⟨R,0,none⟩)] 188)).alloc (.cells #[.bool before] 4)) #[.bool false, .int .i64 0, .int .i64 0] 55;rw [aE,aE]at this;exact this)
 have HK:=V ((((ee.refl (fun k=>k=R) w).alloc (.cells #[.pointer (some ⟨R,0,none⟩)] 188)).alloc (.cells #[.bool before] 4)).alloc (.cells #[.bool false, .int .i64 0, .int .i64 0] 55));clear h;go_enter func214,ntmps214;go_wp2_with fail;generalize((w.alloc (.cells #[.pointer (some ⟨R,0,none⟩)] 188)).alloc (.cells #[.bool before] 4)).alloc (.cells #[.bool false, .int .i64 0, .int .i64 0] 55)=wa at HH HA HC HX HK⊢;have hz:=HX.out.lt;refine(H8 w0 R (IE before) gf.ok (Du before) _ wa 273 #[] #[.pointer (some ⟨w.heap.size+1,0,none⟩), .pointer (some ⟨w.heap.size,0,none⟩)] (fun _ _=>by rfl) HH.out (fun s w1 h hk=>J7 w0 w1 R w.heap.size (w.heap.size+1) before s h (HA.out.keeps hk (by omega)) (HC.out.keeps hk (by omega)) (by omega) (by omega))).mono ?_;rintro e w1 ⟨v,l,rfl,ho,hp,hl,hw,hh,hk⟩;have HP:=V hp;have HW:=V hw;have HI:=V (ho.fR Aa);clear hw hp;have HH:=V hh;have HX:=V (HX.out.keeps hk (by omega));have HA:=V (HA.out.keeps hk (by omega));have HC:=V (HC.out.keeps hk (by omega));have HK:=V (HK.out.trans hk (fun _ h=> .inl h));clear hh hk;obtain⟨a,cap,rfl,M9,Mj⟩:=fg HI.out;clear ho;obtain⟨x0,x1,x2,z0,z1,z2⟩:=HX.out.G5;cases l with
 | nil=>
  have f1:((([]:List gf).length:Int)==0)=true:=rfl;go_wp2_with fail;have hx:=HX.out.tH (.bool false) (.int .i64 0) (.int .i64 0);have Lt:=kQ w1 (w.heap.size+1+1) (.bool false) (.int .i64 0) (.int .i64 0);refine aN (eG rfl _ _ rfl hx.pP) rfl ?_;exact⟨⟨false,0,0⟩,rfl,nV,fK (f:=kg) HW.out,HH.out.keeps Lt (by omega) (fun i hi=>by omega),HK.out.jr Lt (by omega)⟩
 | cons x l=>
  obtain⟨L,hL⟩:∃L,L=x::l:=⟨_,rfl⟩;obtain⟨_,_,hv,_,_,Ln⟩:=HI.out;injection hv with e1 e2 e3;subst e1;obtain⟨bb,off,rfl,Lw,LN⟩:=Ln 0 x rfl;have g0:=LN 0 _ rfl;have g1:=LN 1 _ rfl;have g2:=LN 2 _ rfl;rw [Nat.zero_mul,aK]at g0;rw [Nat.zero_mul,aK]at g1 g2;rw [<- hL]at HI HP HW M9⊢;have Pd:0 < L.length:=by rw [hL];simp
  have f1:((L.length:Int)==0)=false:=ed (by omega);have f2:(0:Int) < (L.length:Int):=by omega
  have HF:=V (show kg L=x by rw [hL];rfl);have Qf:=V (show x.ok from HP.out x (by rw [hL];simp));clear Ln e2 e3 LN hL;go_wp2_with fail;have hx:=HX.out.tH (.bool x.has) (.int .i64 x.min) (.int .i64 x.max);have Lt:=kQ w1 (w.heap.size+1+1) (.bool x.has) (.int .i64 x.min) (.int .i64 x.max);refine aN (eG rfl _ _ rfl hx.pP) rfl ?_;exact⟨x,rfl,Qf.out,by rw [<- HF.out];exact fK (f:=kg) HW.out,HH.out.keeps Lt (by omega) (fun i hi=>by omega),HK.out.jr Lt (by omega)⟩
theorem Kx (w0 w:World) (R Rb:Nat) (s:gu) (h:fD w0 w R s) (hr:eP w Rb #[.pointer (some ⟨R,0,none⟩)] 188) (n1:R < Rb):
  Calls prog 225 (#[]++#[.pointer (some ⟨Rb,0,none⟩)]) w (Jf (fun(x:gD) (u:Value)=> .agg #[.int .i64 x.off,u]) gE w0 R uz (fun _=>True) s w):=by
 have Nf:=h.lt;have PH:=h.old.2;have l1:=hr.lt;have HH:=V ((h.alloc (.cells #[.int .i64 0, .slice none 0 0] 99)).drew);have HX:=V ((eP.new w #[.int .i64 0, .slice none 0 0] 99).drew);have HK:=V (((ee.refl (fun k=>k=R) w).alloc (.cells #[.int .i64 0, .slice none 0 0] 99)).drew);have HA:=V ((hr.alloc (.cells #[.int .i64 0, .slice none 0 0] 99)).drew);have a0:=HA.out.cell 0;simp only [aI,aG]at a0;clear h hr;go_enter func225,ntmps225;go_wp2_with fail;refine eu (fun w'=>w'.cell? ⟨Rb,0,none⟩=some (.pointer (some ⟨R,0,none⟩))) [(0,true),(2,true),(1,false),(3,false),(4,true),(5,false)] (by kernel_rfl) (by kernel_rfl) a0 ?_;clear a0;generalize(w.alloc (.cells #[.int .i64 0, .slice none 0 0] 99)).drew=wa at HH HX HK HA⊢;have hz:=HX.out.lt;iterate 2 (first | (apply sk rfl rfl;simp only [pt]) | (apply ef rfl rfl rfl;·(rintro w' t0;go_wp2;exact⟨rfl,rfl,rfl⟩)))
 refine eo rfl rfl ?_;go_wp2_with fail;refine(rZ w0 wa R s HH.out).mono ?_;rintro e w1 ⟨n,rfl,hn,hw,hh,hk⟩;have HN:=V hn;have HW:=V hw;have MP:=hk.size;clear hn hw;have HH:=V hh;have HX:=V (HX.out.keeps hk (by omega));have HA:=V (HA.out.keeps hk (by omega));have HK:=V (HK.out.trans hk (fun _ h=> .inl h));clear hh hk;go_wp2_with fail;refine⟨HA.out.cell 0,?_⟩;refine eo rfl rfl ?_;go_wp2_with fail;refine(CE w0 w1 R _ HH.out).mono ?_;rintro e w2 ⟨v,rfl,ho,hh,hk⟩;have HO:=V ho;obtain⟨a,cap,rfl,-,-,-⟩:=ho.fF;clear ho;have HH:=V hh;have HX:=V (HX.out.keeps hk (by omega));have HA:=V (HA.out.keeps hk (by omega));have HK:=V (HK.out.trans hk (fun _ h=> .inl h));clear hh hk;go_wp2_with fail;refine⟨HA.out.cell 0,?_⟩;iterate 1 (first | (apply sk rfl rfl;simp only [pt]) | (apply ef rfl rfl rfl;·(rintro w' t0;go_wp2;exact⟨rfl,rfl,rfl⟩)))
 refine eo rfl rfl ?_;obtain⟨x0,x1,z0,z1⟩:=HX.out.two;go_wp2_with fail;have hx:=HX.out.nx (.int .i64 n) (.slice a (nZ (ez jA s)).length cap);have Lt:=fN w2 w.heap.size (.int .i64 n) (.slice a (nZ (ez jA s)).length cap);refine⟨(HA.out.keeps Lt (by omega)).cell 0,?_⟩;refine eV ?_;refine aD ?_;go_wp2_with fail;refine aN (eG rfl _ _ rfl hx.E4) rfl ?_;have o1:=eg.base (eg.keeps HO.out Lt (fun i hi h=>by have:=(eE HO.out hi).1;omega)) (show w.heap.size <=w1.heap.size by omega);refine⟨⟨n,nZ (ez jA s)⟩, .slice a (nZ (ez jA s)).length cap,rfl,⟨xZ o1,HN.out⟩,trivial,?_,?_,HK.out.jr Lt (ag _)⟩
 ·rw [xJ]
  exact fK (f:=fun x:Int × List UInt8=>gD.mk x.1 x.2) (iz HW.out (z5 _))
 ·rw [xJ,fG,hH]
  exact HH.out.keeps Lt (by omega) (fun i hi=>by omega)
theorem Jt (w0 w:World) (R Rb:Nat) (s:gu) (h:fD w0 w R s) (hr:eP w Rb #[.pointer (some ⟨R,0,none⟩)] 188) (n1:R < Rb):
  Calls prog 220 (#[]++#[.pointer (some ⟨Rb,0,none⟩)]) w (Jf (fun(x:jb) (u:Value)=> .agg #[.int .i64 x.off,u]) ig w0 R pk (fun _=>True) s w):=by
 have Nf:=h.lt;have PH:=h.old.2;have l1:=hr.lt;have HH:=V ((h.alloc (.cells #[.int .i64 0, .slice none 0 0] 95)).drew);have HX:=V ((eP.new w #[.int .i64 0, .slice none 0 0] 95).drew);have HK:=V (((ee.refl (fun k=>k=R) w).alloc (.cells #[.int .i64 0, .slice none 0 0] 95)).drew);have HA:=V ((hr.alloc (.cells #[.int .i64 0, .slice none 0 0] 95)).drew);have a0:=HA.out.cell 0;simp only [aI,aG]at a0;clear h hr;go_enter func220,ntmps220;go_wp2_with fail;refine lY (fun w'=>w'.cell? ⟨Rb,0,none⟩=some (.pointer (some ⟨R,0,none⟩))) (ord [(0,true),(2,true),(3,true)] (.fork 1 4 (ord [(4,false),(5,false),(6,true),(7,false)] .nil) (ord [(1,false),(5,false),(6,true),(7,false)] .nil))) (by kernel_rfl) (by kernel_rfl) a0 ?_;dsimp only [ord];clear a0;generalize(w.alloc (.cells #[.int .i64 0, .slice none 0 0] 95)).drew=wa at HH HX HK HA⊢;have hz:=HX.out.lt;iterate 3 (first | (apply ord_skip rfl rfl;simp only [Act.put,bj,bE,bH]) | (apply iI rfl rfl rfl;·(rintro w' t0;go_wp2;exact⟨rfl,rfl,rfl⟩)))
 refine pG rfl rfl rfl rfl ?_ ?_
 ·go_wp2_with fail
  refine(rZ w0 wa R s HH.out).mono ?_;rintro e w1 ⟨n,rfl,hn,hw,hh,hk⟩;have HN:=V hn;have HW:=V hw;have MP:=hk.size;clear hn hw;have HH:=V hh;have HX:=V (HX.out.keeps hk (by omega));have HA:=V (HA.out.keeps hk (by omega));have HK:=V (HK.out.trans hk (fun _ h=> .inl h));clear hh hk;go_wp2_with fail;refine⟨HA.out.cell 0,?_⟩;refine fX rfl rfl ?_;go_wp2_with fail;refine⟨HA.out.cell 0,?_⟩;refine fX rfl rfl ?_;go_wp2_with fail;refine(oq w0 R vN iP oP _ w1 110 #[.pointer (some ⟨R,0,none⟩)] #[] (fun _ _=>by rfl) HH.out (fun s w1 h _=>FH w0 w1 R s h)).mono ?_;rintro e w2 ⟨v,l,rfl,ho,hp,hl,N8,hh,hk⟩;obtain⟨a,cap,rfl,-,-⟩:=ho.slice;have HO:=V ho;have HP:=V hp;have LH:=V N8;clear ho hp N8;have HH:=V hh;have HX:=V (HX.out.keeps hk (by omega));have HA:=V (HA.out.keeps hk (by omega));have HK:=V (HK.out.trans hk (fun _ h=> .inl h));clear hh hk;go_wp2_with fail;refine⟨HA.out.cell 0,?_⟩;iterate 1 (first | (apply ord_skip rfl rfl;simp only [Act.put,bj,bE,bH]) | (apply iI rfl rfl rfl;·(rintro w' t0;go_wp2;exact⟨rfl,rfl,rfl⟩)))
  refine fX rfl rfl ?_;obtain⟨x0,x1,z0,z1⟩:=HX.out.two;go_wp2_with fail;have hx:=HX.out.nx (.int .i64 n) (.slice a l.length cap);have Lt:=fN w2 w.heap.size (.int .i64 n) (.slice a l.length cap);refine⟨(HA.out.keeps Lt (by omega)).cell 0,?_⟩;refine mG ?_;refine aD ?_;go_wp2_with fail;refine aN (eG rfl _ _ rfl hx.zW) rfl ?_;have o1:=(HO.out.stay Lt (fun i hi=>by omega)).lower (show w.heap.size <=w1.heap.size by omega);refine⟨⟨n,l⟩, .slice a l.length cap,rfl,⟨jx fH o1,HN.out,HP.out⟩,trivial,?_,?_,HK.out.jr Lt (ag _)⟩
  ·rw [pE]
   exact fK (f:=fun x:Int × List Int=>jb.mk x.1 x.2) (iz HW.out LH.out)
  ·rw [pE,fG,hH]
   exact HH.out.keeps Lt (by omega) (fun i hi=>by omega)
 ·go_wp2_with fail
  refine⟨HA.out.cell 0,?_⟩;refine fX rfl rfl ?_;go_wp2_with fail;refine(rZ w0 wa R s HH.out).mono ?_;rintro e w1 ⟨n,rfl,hn,hw,hh,hk⟩;have HN:=V hn;have HW:=V hw;have MP:=hk.size;clear hn hw;have HH:=V hh;have HX:=V (HX.out.keeps hk (by omega));have HA:=V (HA.out.keeps hk (by omega));have HK:=V (HK.out.trans hk (fun _ h=> .inl h));clear hh hk;go_wp2_with fail;refine⟨HA.out.cell 0,?_⟩;refine fX rfl rfl ?_;go_wp2_with fail;refine(oq w0 R vN iP oP _ w1 110 #[.pointer (some ⟨R,0,none⟩)] #[] (fun _ _=>by rfl) HH.out (fun s w1 h _=>FH w0 w1 R s h)).mono ?_;rintro e w2 ⟨v,l,rfl,ho,hp,hl,N8,hh,hk⟩;obtain⟨a,cap,rfl,-,-⟩:=ho.slice;have HO:=V ho;have HP:=V hp;have LH:=V N8;clear ho hp N8;have HH:=V hh;have HX:=V (HX.out.keeps hk (by omega));have HA:=V (HA.out.keeps hk (by omega));have HK:=V (HK.out.trans hk (fun _ h=> .inl h));clear hh hk;go_wp2_with fail;refine⟨HA.out.cell 0,?_⟩;iterate 1 (first | (apply ord_skip rfl rfl;simp only [Act.put,bj,bE,bH]) | (apply iI rfl rfl rfl;·(rintro w' t0;go_wp2;exact⟨rfl,rfl,rfl⟩)))
  refine fX rfl rfl ?_;obtain⟨x0,x1,z0,z1⟩:=HX.out.two;go_wp2_with fail;have hx:=HX.out.nx (.int .i64 n) (.slice a l.length cap);have Lt:=fN w2 w.heap.size (.int .i64 n) (.slice a l.length cap);refine⟨(HA.out.keeps Lt (by omega)).cell 0,?_⟩;refine mG ?_;refine aD ?_;go_wp2_with fail;refine aN (eG rfl _ _ rfl hx.zW) rfl ?_;have o1:=(HO.out.stay Lt (fun i hi=>by omega)).lower (show w.heap.size <=w1.heap.size by omega);refine⟨⟨n,l⟩, .slice a l.length cap,rfl,⟨jx fH o1,HN.out,HP.out⟩,trivial,?_,?_,HK.out.jr Lt (ag _)⟩
  ·rw [pE]
   exact fK (f:=fun x:Int × List Int=>jb.mk x.1 x.2) (iz HW.out LH.out)
  ·rw [pE,fG,hH]
   exact HH.out.keeps Lt (by omega) (fun i hi=>by omega)
theorem Fl (a:Nat) (ha:a < 18446744073709551616):bits .and .u64 (a:Int) 4294967295=((a %4294967296:Nat):Int):=by
 have h:=bits_and_u64_nat a 4294967295 ha (by omega);have e:a&&&4294967295=a %4294967296:=Nat.and_two_pow_sub_one_eq_mod a 32;rw [e]at h;exact h
theorem KO (a:Nat):(a:Int)/4294967296=((a/4294967296:Nat):Int):=by omega
theorem K5 (a b:Nat):(a:Int)*(b:Int)=((a*b:Nat):Int):=(dr a b).symm
theorem KZ (a b:Nat):(a:Int)+(b:Int)=((a+b:Nat):Int):=(Int.natCast_add a b).symm
theorem sK (a:Nat) (ha:a < 18446744073709551616):IntKind.u64.wrap (a:Int)=(a:Int):=by rw [IntKind.wrap_u64];omega
theorem KG (a:Nat):IntKind.u64.wrap (a:Int)=((a %18446744073709551616:Nat):Int):=by rw [IntKind.wrap_u64];omega
def Ew (x y:Nat) (w:World) (e:Ending) (w':World):Prop:=e= .returned (.tuple #[.int .u64 ((x*y/18446744073709551616:Nat):Int), .int .u64 ((x*y %18446744073709551616:Nat):Int)])/\w'=w
theorem DY (x y:Nat) (hx:x < 18446744073709551616) (hy:y < 18446744073709551616) (w:World):Calls prog 228 #[.int .u64 x, .int .u64 y] w (Ew x y w):=by
 obtain⟨bd,bt,bw,hhi⟩:=Lib.mul64_hi x y hx hy;have ba:=Lib.half_mul_le (a:=x/4294967296) (b:=y/4294967296) (by omega) (by omega);have bb:=Lib.half_mul_le (a:=x/4294967296) (b:=y %4294967296) (by omega) (by omega);have bc:=Lib.half_mul_le (a:=x %4294967296) (b:=y/4294967296) (by omega) (by omega);have ba':x/4294967296*(y/4294967296) < 18446744073709551616:=by omega
 have bb':x/4294967296*(y %4294967296) < 18446744073709551616:=by omega
 have bc':x %4294967296*(y/4294967296) < 18446744073709551616:=by omega
 have bh1:x/4294967296*(y/4294967296)+(x/4294967296*(y %4294967296)+x %4294967296*(y %4294967296)/4294967296)/4294967296 < 18446744073709551616:=by omega
 have bh:x/4294967296*(y/4294967296)+(x/4294967296*(y %4294967296)+x %4294967296*(y %4294967296)/4294967296)/4294967296+((x/4294967296*(y %4294967296)+x %4294967296*(y %4294967296)/4294967296) %4294967296+x %4294967296*(y/4294967296))/4294967296 < 18446744073709551616:=by omega
 go_enter func228,ntmps228;go_wp2;simp only [Fl x hx,Fl y hy,KO,K5,KZ,sK _ bd,sK _ bb',sK _ bt,Fl _ bt,sK _ bc',sK _ bw,sK _ ba',sK _ bh1,sK _ bh,KG (x*y)];rw [hhi]
 go_ret2
 exact⟨rfl,rfl⟩
theorem IT (x y:Nat) (hx:x < 18446744073709551616) (hy:y < 18446744073709551616) (w:World):Calls prog 113 #[.int .u64 x, .int .u64 y] w (Ew x y w):=by
 go_enter func113,ntmps113;go_wp2_with fail;refine(DY x y hx hy w).mono ?_;rintro e w' ⟨rfl,rfl⟩;go_wp2_with fail
 go_ret2
 exact⟨rfl,rfl⟩
theorem nT (a:Option Addr) (len cap k:Nat) (h:k <=cap) (wx:World):
  (Instr.slice 25 (.slice a len cap) none (some (.int .i64 k)) none).run prog wx= .ok (.slice a k cap) wx:=by
 have hu:prog.underlying 25=some (.slice 3):=by kernel_rfl
 obtain⟨i0,hi,NW,MP,Nu⟩:=bX jT;simp [Instr.slice,bx hu,Instr.sliceBounds,Instr.sliceBound,sizeOf,typeInfo,hi,asIntOf,h];cases a <;>simp [Addr.add]
theorem kE (g len cap k:Nat) (h:k < len) (h2:len <=cap) (wx:World):
  (Instr.slice 25 (.slice (some ⟨g,0,none⟩) len cap) (some (.int .i64 k)) none none).run prog wx= .ok (.slice (some ⟨g,k,none⟩) (len - k) (cap - k)) wx:=by
 have hu:prog.underlying 25=some (.slice 3):=by kernel_rfl
 obtain⟨i0,hi,NW,MP,Nu⟩:=bX jT;have h3:k <=cap:=by omega
 have h4:¬ cap=k:=by omega
 have h5:k <=len:=by omega
 have h6:¬ k=cap:=by omega
 simp [Instr.slice,bx hu,Instr.sliceBounds,Instr.sliceBound,sizeOf,typeInfo,hi,MP,asIntOf,h4,h5,Addr.add];intro h0;exact h0.symm
theorem D2 (K:Nat) (hK:K <=2000) (w:World):(Instr.makeSlice 25 (.int .i64 (K:Int)) (.int .i64 (K:Int))).run prog w=
  .ok (.slice (some ⟨w.heap.size,0,none⟩) K K) (w.alloc (.cells (List.replicate K (.int .i64 0)).toArray 3)):=by
 obtain⟨i,hi,NW,MP,Nu⟩:=bX jT;have h:=run_make (P:=prog) w 25 3 i _ (by kernel_rfl) hi NW .i64 .i64 (K:Int) (K:Int) (by omega) (Int.le_refl _) (by rw [Nu];omega) (by omega);rw [MP,cI,bq]at h;have e:madeCells (Value.cells (.int .i64 0)) K=(List.replicate K (.int .i64 0)).toArray:=by
  apply Array.ext
  ·simp [madeCells]
  ·intro i h1 h2
   have:i %1=0:=Nat.mod_one i;simp [madeCells,Value.cells,this]
 rw [e]at h;exact h
def kL (k:Int) (n m:Nat):List Value:=List.replicate m (.int .i64 k)++List.replicate (n - m) (.int .i64 0)
theorem qh (k:Int) (n m c:Nat) (hc:m+c <=n):splice (kL k n m) m (List.replicate c (.int .i64 k))=kL k n (m+c):=by
 unfold splice kL;rw [List.take_append_of_le_length (by simp),cW (by simp),bo,List.drop_append,List.drop_of_length_le (by simp),bL,bo,List.drop_replicate, <- aP,List.replicate_append_replicate]
 congr 2
 omega
theorem uO (k:Int) (n m:Nat) (hm:m <=n):(kL k n m).length=n:=by simp [kL];omega
def K4 (k:Int) (n g:Nat) (w w':World) (m:Nat):Prop:=m <=n/\(m=0 ->n=0)/\w'.heap[g]?=some (.cells (kL k n m).toArray 3)/\Below w.heap.size w w'
def JQ (k:Int) (n:Nat) (w:World) (e:Ending) (w':World):Prop:=∃g,e= .returned (.slice (some ⟨g,0,none⟩) n n)/\ea 3 1 fp w' w.heap.size (.slice (some ⟨g,0,none⟩) n n) (List.replicate n k)/\Below w.heap.size w w'
theorem CO (k:Int) (c:Nat):∀v∈List.replicate c (Value.int .i64 k),v.oneCell'=true:=by
 intro v hv;obtain⟨_,rfl⟩:=dm.1 hv;rfl
theorem GB (k:Int) (n:Nat):(List.replicate n k).flatMap fp=List.replicate n (Value.int .i64 k):=by
 induction n with
 | zero=>rfl
 | succ n ih=>rw [List.replicate_succ,bS,ih,List.replicate_succ];rfl
theorem qA (a:Option Addr) (cap:Nat) (k:Int) (n:Nat) (hn:n <=1000) (w:World) (hl:ew 1 fp w (.slice a 1 cap) [k]):Calls prog 70 #[.slice a 1 cap, .int .i64 n] w (JQ k n w):=by
 obtain⟨_,_,hv,M9,Mj,Ln⟩:=hl;obtain⟨b,off,rfl,Lw,hc⟩:∃b off,a=some ⟨b,off,none⟩/\b < w.heap.size/\w.cell? ⟨b,off,none⟩=some (.int .i64 k):=by
  injection hv with e1 e2 e3;subst e1;obtain⟨b,off,ha,Lw,hc⟩:=Ln 0 k rfl;exact⟨b,off,ha,Lw,by have:=hc 0 _ rfl;simpa using this⟩
 have hmk:=fun w=>D2 n (by omega) w;have hmul1:(1*n/18446744073709551616:Nat)=0:=by omega
 have hmul2:(1*n %18446744073709551616:Nat)=n:=by omega
 have HLT:=V Lw;have HC:=V hc;clear hv M9 Mj Ln hc;go_enter func70,ntmps70;go_wp2_with fail;refine(IT 1 n (by omega) (by omega) w).mono ?_;rintro e w1 ⟨rfl,rfl⟩;rw [hmul1,hmul2];clear hmul1 hmul2;obtain⟨g,hg⟩:∃g,g=w1.heap.size:=⟨_,rfl⟩;have HG1:=V (dA hg);have HG2:=V (dA hg.symm);go_wp2_with (first | (refine wpList_copy_splice rfl (.tmp 31) (.tmp 32) 25 25 rfl 3 (by kernel_rfl) (by kernel_rfl) (some ⟨w1.heap.size,0,none⟩) (some ⟨b,off,none⟩) n n 1 cap rfl rfl w1.heap.size 0 (kL k n 0) 3 (by rw [show kL k n 0=List.replicate n (.int .i64 0)by simp [kL]];exact eP.new w1 _ _) (List.replicate (min 1 n) (.int .i64 k)) (by simp) ?_ (by rw [uO _ _ _ (by omega)];simp;omega) (CO _ _) w1.heap.size w1 ((an _ _).alloc (ag _) _) (ag _) ?_))
 ·intro _ j v hv
  have hj:=(aM.1 hv).1;have Mx:=aO hv;obtain⟨_,rfl⟩:=dm.1 Mx;simp only [bo]at hj;obtain rfl:j=0:=by omega
  exact HC.out
 intro w2 MN hb;rw [<- hg]at MN;have Rt:=V (show w2.heap[g]?=some (.cells (kL k n (min 1 n)).toArray 3)by
  have h1:=MN.out;rw [qh k n 0 (min 1 n) (by omega)]at h1;simpa using h1)
 have HB:=V hb;have hgg:(some ⟨w1.heap.size,0,none⟩:Option Addr)=some ⟨g,0,none⟩:=by rw [hg]
 rw [hgg];clear MN hb hmk hgg hg;go_wp2_with fail;refine eJ (fun a' w'=>∃(m:Nat),a'=fr (gs a' 0 7 (.slice (some ⟨g,0,none⟩) n n:: .int .i64 m::gs a' 9 39 []))/\K4 k n g w1 w' m) (fun a' _=>(n - (intOf (a'.tmps.getD 8 undef)).toNat)) ?_ ?_
 ·exact⟨min 1 n,rfl,by omega,by omega,Rt.out,HB.out⟩
 ·skip
  rintro R a' w1 ⟨m,Lp,hJ⟩ HR;dsimp only [fr,gs]at Lp;generalize slot a'=f at Lp;subst Lp;obtain⟨hm,hz,MN,hb⟩:=hJ;have Rt:=V MN;have HB:=V hb;have HZ:=V hz;by_cases q:m < n;rotate_left
  ·obtain rfl:m=n:=by omega
   clear MN hb hz;go_wp2_with fail;go_ret;refine⟨g,rfl,⟨by rw [kf fH], .inr ⟨g,m,_,by rw [bo],HG2.out,Rt.out,by simp,by simp only [maxLen];omega,by simp [kL],?_⟩⟩,HB.out⟩;rw [GB];simp [kL]
  have MU:=fun wx=>kE g n n m q (ag _) wx;have LB:=fun wx=>nT (some ⟨g,0,none⟩) n n m (by omega) wx;obtain⟨c,hc⟩:∃c,c=min m (n - m):=⟨_,rfl⟩;have HC:=V hc;clear hb hz hc;go_wp2_with fail;refine eu (fun _=>True) (up 0 7 ((7,false)::(8,true)::(9,true)::[])) (by kernel_rfl) (by kernel_rfl) trivial ?_;iterate 7 (first | (apply sk rfl rfl;simp only [pt]) | (apply ef rfl rfl rfl;·(rintro w' t0;go_wp2;exact⟨rfl,rfl,rfl⟩)))
  refine eo rfl rfl ?_;go_wp2_with (first | (refine wpList_copy_splice rfl (.tmp 41) (.tmp 44) 25 25 rfl 3 (by kernel_rfl) (by kernel_rfl) (some ⟨g,m,none⟩) (some ⟨g,0,none⟩) (n - m) (n - m) m n rfl rfl g m (kL k n m) 3 MN (List.replicate c (.int .i64 k)) (by rw [bo];exact HC.out) ?_ (by rw [uO _ _ _ hm,bo,HC.out];omega) (CO _ _) g w1 (an g w1).drew (ag _) ?_))
  ·intro _ j v hv
   have hj:=(aM.1 hv).1;have Mx:=aO hv;obtain⟨_,rfl⟩:=dm.1 Mx;simp only [bo]at hj;have LN:=HC.out;have h3:=cell_of_row w1 g j _ _ _ MN;rw [h3];unfold kL;rw [aI,bm (by rw [bo];omega),List.getElem?_replicate,aJ (by omega)]
  intro w2 QL Lr;have HROW2:=V (show w2.heap[g]?=some (.cells (kL k n (m+c)).toArray 3)by
   have h1:=QL.out;rw [qh k n m c (by have:=HC.out;omega)]at h1;exact h1)
  have LS:=V (HB.out.trans (Lr.mono HG2.out));clear MN QL Lr;have hcn:c <=n:=by have:=HC.out;omega
  have M9:1 <=c:=by have:=HC.out;have:=HZ.out;omega
  go_wp2_with fail;refine⟨trivial,?_⟩;iterate 2 (first | (apply sk rfl rfl;simp only [pt]) | (apply ef rfl rfl rfl;·(rintro w' t0;go_wp2;exact⟨rfl,rfl,rfl⟩)))
  refine eV ?_;refine aD ?_;go_wp2_with fail;refine HR.out _ _ ⟨m+c,?_,by have:=HC.out;omega,by omega,HROW2.out,LS.out⟩ ?_
  ·rfl
  ·simp [intOf]
   omega
theorem fD.fail {w0 w:World} {R:Nat} {st:gu} (h:fD w0 w R st):fD w0 (w.setCell ⟨R,1,none⟩ (.bool true)) R none:=by
 obtain⟨a,l,cap,bad,h1,h2,h3,h4,h5,h6⟩:=h;exact⟨a,l,cap,true,by simpa using h1.set 1 (.bool true),h2,h3,rfl,h5.setCell h6 _,h6⟩
theorem fD.free {w0 w:World} {R:Nat} {st:gu} (h:fD w0 w R st) (i:Nat):w.frozen? ⟨R,i,none⟩=false:=by
 obtain⟨a,l,cap,bad,h1,_⟩:=h;exact h1.free i
theorem fD.some {w0 w:World} {R:Nat} {l:List UInt8} (h:fD w0 w R (some l)):∃a cap,w.cell? ⟨R,0,none⟩=some (.slice a l.length cap)/\eW w (.slice a l.length cap) l/\l.length <=8000:=by
 obtain⟨a,l',cap,bad,h1,h2,h3,h4,h5,h6⟩:=h;cases bad with
 | true=>cases h4
 | false=>
  injection h4 with h4;subst h4;exact⟨a,cap,h1.cell 0,h2.below h5,h3⟩
theorem FT {α:Type} {get:je α} {n:Nat} {acc:List α} {st:gu} (h:ez get st=none):rn get (n+1) acc st=none:=by
 cases st with
 | none=>rfl
 | some l=>
  have hg:get l=none:=by
   cases hg:get l with
   | none=>rfl
   | some y=>simp [ez,hg]at h
  simp [rn,sh,hg]
theorem FN {α:Type} {get:je α} {st RQ:gu} {acc:List α} {n:Nat} (h:st.bind (fC get)=rn get (n+1) acc RQ) (hb:ez get RQ=none):ez (fC get) st=none/\∀x,ie (fC get) st x:=by
 rw [FT hb]at h;refine⟨by unfold ez;rw [h];rfl,fun x y hy=>by rw [h]at hy;cases hy⟩
theorem Er (s:gu):ez my s=(if 32 < iX s then none else ez gT (ez gq s))/\ie my s (iX s,nW (ez gq s)):=by
 cases s with
 | none=>exact⟨rfl,mO _ _⟩
 | some l=>
  cases h:gq l with
  | none=>
   have h1:my l=none:=by simp [my,h]
   have h2:iX (some l)=0:=by simp [iX,h]
   have h3:ez gq (some l)=none:=by simp [ez,h]
   rw [h2,h3,aC (by decide)];exact⟨by simp [ez,h1],fun y hy=>by simp [h1]at hy⟩
  | some y=>
   have h2:iX (some l)=y.1:=by simp [iX,h]
   have h3:ez gq (some l)=some y.2:=by simp [ez,h]
   rw [h2,h3];cases hk:gT y.2 with
   | none=>
    have h1:my l=none:=by simp [my,h,hk]
    exact⟨by simp [ez,h1,hk],fun z hz=>by simp [h1]at hz⟩
   | some z=>
    by_cases q:32 < y.1
    ·have h1:my l=none:=by simp [my,h,hk,q]
     exact⟨by rw [aJ q];simp [ez,h1],fun z hz=>by simp [h1]at hz⟩
    ·have h1:my l=some ((y.1,z.1),z.2):=by simp [my,h,hk,q]
     refine⟨by rw [aC q];simp [ez,h1,hk],fun u hu=>?_⟩;simp only [az,h1,aX]at hu;rw [<- hu];simp [nW,hk]
theorem pB (acc:List (Nat × Int)) (m:Nat) (k:Int):jc (acc++[(m,k)])=jc acc++List.replicate m k:=by simp [jc]
def Jv (w0 w:World) (R:Nat) (st:gu) (e:Ending) (w':World):Prop:=
 ∃v l,e= .returned v/\ea 3 1 fp w' w.heap.size v l/\(∀x∈l,iP x)/\l.length <=300000/\ie jR st l/\fD w0 w' R (ez jR st)/\ee (fun k=>k=R) w w'
def K9 (w0:World) (R:Nat) (st:gu) (w w':World) (v:Value) (acc:List (Nat × Int)) (n:Nat) (s:gu):Prop:=
 st.bind (fC my)=rn my n acc s/\ea 3 1 fp w' w.heap.size v (jc acc)/\(∀x∈jc acc,iP x)/\(jc acc).length <=32*acc.length/\acc.length+s.len <=8001/\fD w0 w' R s/\ee (fun k=>k=R) w w'/\n < 4294967296
theorem Cb (w0 w:World) (Y:Nat) (st:gu) (h:fD w0 w Y st):Calls prog 276 #[.pointer (some ⟨Y,0,none⟩)] w (Jv w0 w Y st):=by
 have HH:=V h;have hR:=h.lt;clear h;go_enter func276,ntmps276;go_wp2_with fail;refine(im w0 w Y st HH.out).mono ?_;rintro e w1 ⟨rfl,h1,MA⟩;have Nn:=V (ky my st _ (iQ st));have hn:=iU st;have hlen:=h1.len;obtain⟨N,eN⟩:∃N,iX st=N:=⟨_,rfl⟩;rw [eN]at hn Nn⊢;clear eN;go_wp2_with fail;refine eJ (fun a' w'=>∃(v:Value) (acc:List (Nat × Int)) (n:Nat) (s:gu),a'=fr (.pointer (some ⟨Y,0,none⟩)::gs a' 1 2 (v:: .int .i64 n::gs a' 5 31 []))/\K9 w0 Y st w w' v acc n s) (fun a' _=>(intOf (a'.tmps.getD 4 undef)).toNat) ?_ ?_
 ·exact⟨_,[],N,ez gq st,rfl,Nn.out,ea.nil _ _,by simp [jc],by simp [jc],by simpa using hlen,h1,MA,hn⟩
 ·clear h1 MA hn hlen Nn HH
  rintro R a' w1 ⟨v,acc,n,s,Lp,hJ⟩ HR;dsimp only [fr,gs]at Lp;generalize slot a'=f at Lp;subst Lp;obtain⟨Mv,ho,Mh,N2,hlen,Mo,hk,hn⟩:=hJ;obtain⟨av,cv,rfl,-,MR⟩:=ho.slice;have L4:=V Mo;have LX:=V Mv;have LW:=V Mh;have HK:=V hk;have HO:=V ho;have NS:=V hR;have c1:=Mo.bad;have hub:(jc acc).length <=300000:=by omega
  clear Mv ho Mh Mo hk;rcases aY n with MZ | MZ
  ·obtain⟨g1,g2⟩:=gO my LX.out (.inl MZ)
   have G1:=V g1;have G2:=V g2;subst MZ;clear g1 g2 N2 hlen;go_wp2_with fail;go_ret;exact⟨_,jc acc,rfl,HO.out,LW.out,hub,by rw [kG];exact fK G2.out,by rw [kG,fG,G1.out];exact L4.out,HK.out⟩
  have f0:decide ((0:Int) < (n:Int))=true:=aA (by omega);cases s with
  | none=>
   have c1:w1.cell? ⟨Y,1,none⟩=some (.bool true):=c1;obtain⟨g1,g2⟩:=gO my LX.out (.inr rfl);have G1:=V g1;have G2:=V g2;clear g1 g2 N2 hlen;go_wp2_with fail;go_ret;exact⟨_,jc acc,rfl,HO.out,LW.out,hub,by rw [kG];exact fK G2.out,by rw [kG,fG,G1.out];exact L4.out,HK.out⟩
  | some lb=>
   have c1:w1.cell? ⟨Y,1,none⟩=some (.bool false):=c1;obtain⟨n',rfl⟩:∃n',n=n'+1:=⟨n - 1,by omega⟩;have Lw:=z9.len lb;have Ns:=V (show acc.length+1+(ez my (some lb)).len <=8001 by omega);have HUL:=V N2;obtain⟨hrn,hrw⟩:=Er (some lb);have hm:=iU (some lb);clear Lw hlen N2;go_wp2_with fail;refine(im w0 w1 Y _ L4.out).mono ?_;rintro e w2 ⟨rfl,h2,Lv⟩;have HO:=V (HO.out.stay Lv (fun i hi=>by have:=NS.out;omega));have L4:=V h2;have HK:=V (HK.out.trans Lv (fun _ h=> .inl h));obtain⟨m,em⟩:∃m,iX (some lb)=m:=⟨_,rfl⟩;obtain⟨kd,ek⟩:∃kd,nW (ez gq (some lb))=kd:=⟨_,rfl⟩;have HKI:=V (show iP kd by rw [<- ek];exact Cz _);rw [em]at hrn hrw hm;rw [ek]at hrw;rw [em];have EK:=V ek;have HRN:=V hrn;have HRW:=V hrw;clear h2 Lv c1 hrn hrw em ek;go_wp2_with fail;refine(uX w0 w2 Y _ L4.out).mono ?_;rintro e w3 ⟨rfl,h3,L5⟩;have HO:=V (HO.out.stay L5 (fun i hi=>by have:=NS.out;omega));have L4:=V h3;have HK:=V (HK.out.trans L5 (fun _ h=> .inl h));rw [EK.out];clear h3 L5;by_cases q:32 < m
   ·have f1:decide ((32:Int) < (m:Int))=true:=aA (by omega)
    have f2:decide (32 < m)=true:=aA q;obtain⟨g1,g2⟩:=FN LX.out (by rw [HRN.out,aJ q]);have G1:=V g1;have G2:=V g2;have c1:=L4.out.bad;have z1:=L4.out.free 1;clear g1 g2 q;go_wp2_with fail;go_ret;have Lt:=eC w3 Y 1 (.bool true);exact⟨_,[],rfl,ea.nil _ _,by simp,by simp,by rw [kG];exact fK (f:=jc) (G2.out []),by rw [kG,fG,G1.out];exact L4.out.fail,HK.out.trans Lt (fun _ h=> .inl h)⟩
   ·have f1:decide ((32:Int) < (m:Int))=false:=aq (by omega)
    have f2:decide (32 < m)=false:=aq q;have HNX:=V (show ez my (some lb)=ez gT (ez gq (some lb))by rw [HRN.out,aC q]);have hm32:m <=32:=by omega
    have Q7:=(an w3.heap.size w3).alloc (ag _) (.cells #[.int .i64 kd] 3);have HO:=V (HO.out.below Q7);have L4:=V (L4.out.below Q7);have HK:=V (HK.out.alloc (.cells #[.int .i64 kd] 3));have HL:=V (lP w3 kd 3);clear q Q7;go_wp2_with fail;refine(qA _ 1 kd m (by omega) _ HL.out).mono ?_;rintro e w4 ⟨g,rfl,hog,Nl⟩;have HO:=V (HO.out.below Nl);have L4:=V (L4.out.below Nl);have HK:=V (HK.out.trans (ee.eh (S:=fun _=>False) Nl) (fun _ h=>h.elim));have HM:=V (by have h:=hog.fR fH;exact h);have HSZ:Hid (w.heap.size <=w4.heap.size):=V HK.out.size;clear hog Nl;go_wp2_with (first | (at_builtin;refine kU w4 rfl _ _ 25 rfl _ 8 (by kernel_rfl) jT rfl (by decide) (by decide) w.heap.size (.slice av (jc acc).length cv) (jc acc) rfl HO.out fH (List.replicate m kd) ⟨g,0,none⟩ m m rfl HM.out (fun y _=>CV y) (by rw [bo];omega) HSZ.out ?_));intro v5 w5 ho5 OM QG;have hlt5:∀i,eH (.slice av (jc acc).length cv) i ->w.heap.size <=i/\i < w4.heap.size:=fun i hi=>eE HO.out hi;have HRD5:=V (L4.out.keeps OM (fun h=>by have:=(hlt5 _ h).1;have:=NS.out;omega) (fun i hi=>by have:=(hlt5 i hi).1;have:=L4.out.old.2;have:=NS.out;omega));have HK5:=V (HK.out.trans OM (fun i hi=> .inr (hlt5 i hi).1));have HO5:=V ho5;clear ho5 OM QG hlt5;go_wp2_with fail;refine HR.out _ _ ⟨_,acc++[(m,kd)],n',ez my (some lb),rfl,by rw [LX.out,jJ my n' acc HRW.out],by rw [pB];exact HO5.out,?_,?_,?_,by rw [HNX.out];exact HRD5.out,HK5.out,by omega⟩ ?_
    ·intro x hx
     rw [pB]at hx;rcases aZ.1 hx with hx | hx
     ·exact LW.out x hx
     ·rw [(dm.1 hx).2]
      exact HKI.out
    ·rw [pB,ah,ah,bo,aB]
     have:=HUL.out;omega
    ·rw [ah]
     exact Ns.out
    ·simp [intOf]
theorem ud {s:gu} {l1:List Int} {l2:List eS} (h1:ie jR (ez gq s) l1) (h2:ie lE (ez jR (ez gq s)) l2):ie mq s ⟨l1,l2⟩:=by
 rw [vL];exact fK (f:=fun x:Nat × List Int × List eS=>gS.mk x.2.1 x.2.2) (iz (iQ s) (iz h1 h2))
theorem se (s:gu):ez mq s=ez lE (ez jR (ez gq s)):=by rw [vL,fG,hH,hH]
theorem Ff (w0 w:World) (R:Nat) (s:gu) (h:fD w0 w R s):Calls prog 223 (#[.pointer (some ⟨R,0,none⟩)]++#[]) w (Jf (fun(_:gS) (u:Value × Value)=> .agg #[u.1,u.2]) gU w0 R mq (fun _=>True) s w):=by
 have Nf:=h.lt;have PH:=h.old.2;have HH:=V (h.alloc (.cells #[.slice none 0 0, .slice none 0 0] 69));have HX:=V (eP.new w #[.slice none 0 0, .slice none 0 0] 69);have HK:=V ((ee.refl (fun k=>k=R) w).alloc (.cells #[.slice none 0 0, .slice none 0 0] 69));have Mr:(w.alloc (.cells #[.slice none 0 0, .slice none 0 0] 69)).heap.size=w.heap.size+1:=aE _ _;have MP:=dA Mr.symm;clear h Mr;go_enter func223,ntmps223;go_wp2_with fail;refine(im w0 _ R s HH.out).mono ?_;rintro e w1 ⟨rfl,hh,hk⟩;have MP:=aW MP hk.size;have HH:=V hh;have HX:=V (HX.out.keeps hk (by omega));have HK:=V (HK.out.trans hk (fun _ h=> .inl h));clear hh hk;go_wp2_with fail;refine(Cb w0 w1 R _ HH.out).mono ?_;rintro e w2 ⟨v1,l1,rfl,OE,hp1,Ro,Qn,hh,hk⟩;obtain⟨a1,c1,rfl,-,-⟩:=OE.slice;have Nu:=hk.size;have HP1:=V hp1;have Mn:=V Qn;have LQ:=(an w2.heap.size w2).alloc (ag _) (.cells #[.slice a1 l1.length c1, .slice none 0 0] 69);have Nj:=V (OE.below LQ);have HV:=V (show∀i,eH (.slice a1 l1.length c1) i ->i < w2.heap.size from fun i hi=>(eE OE hi).2);clear OE hp1 Qn;have HH:=V hh;have HX:=V (HX.out.keeps hk (by omega));have HK:=V (HK.out.trans hk (fun _ h=> .inl h));clear hh hk;have HX:=V (HX.out.below LQ HX.out.lt);have HH:=V (HH.out.below LQ);have HK:=V (HK.out.alloc (.cells #[.slice a1 l1.length c1, .slice none 0 0] 69));have HY:=V (eP.new w2 #[.slice a1 l1.length c1, .slice none 0 0] 69);clear LQ;obtain⟨s3,es3⟩:∃s3,ez jR (ez gq s)=s3:=⟨_,rfl⟩;rw [es3]at HH;have ES3:=V es3;clear es3;have cb:=HH.out.bad;cases s3 with
 | none=>
  have cb:(w2.alloc (.cells #[.slice a1 l1.length c1, .slice none 0 0] 69)).cell? ⟨R,1,none⟩=some (.bool true):=cb;obtain⟨y0,y1,u0,u1⟩:=HY.out.two;obtain⟨x0,x1,z0,z1⟩:=HX.out.two;go_wp2_with fail;have hx:=HX.out.nx (.slice a1 l1.length c1) (.slice none 0 0);have Lt:=fN (w2.alloc (.cells #[.slice a1 l1.length c1, .slice none 0 0] 69)) w.heap.size (.slice a1 l1.length c1) (.slice none 0 0);refine aN (eG rfl _ _ rfl hx.uj) rfl ?_;have o1:=(Nj.out.stay Lt (fun i hi=>by omega)).lower (show w.heap.size <=w1.heap.size by omega);refine⟨⟨l1,[]⟩,(.slice a1 l1.length c1, .slice none 0 0),rfl,⟨⟨jx fH o1,et.nil _⟩,HP1.out⟩,trivial,ud Mn.out (by rw [ES3.out];exact mO _ _),?_,HK.out.jr Lt (ag _)⟩;rw [se,ES3.out];exact HH.out.keeps Lt (by omega) (fun i hi=>by omega)
 | some L=>
  have cb:(w2.alloc (.cells #[.slice a1 l1.length c1, .slice none 0 0] 69)).cell? ⟨R,1,none⟩=some (.bool false):=cb;obtain⟨a,cap,c0,hb,hlen⟩:=HH.out.some;have MM:=V hb;obtain⟨_,_,hv,_,NC,-⟩:=id hb;clear hb hv NC;go_wp2_with fail;refine(z7 _ L _ MM.out (by omega)).mono ?_;rintro e w3 ⟨hb,hc⟩;have Nj:=V (Nj.out.below hb);have HX:=V (HX.out.below hb HX.out.lt);have HY:=V (HY.out.below hb HY.out.lt);have HH:=V (HH.out.below hb);have HK:=V (HK.out.trans (ee.eh (S:=fun _=>False) hb) (fun _ h=>h.elim));have hz3:=hb.size;rw [aE]at hz3 hc;clear hb c0 cb;rcases hc with⟨l2,r,v,Mg,rfl,hd⟩ | ⟨err,Mg,he,-,rfl⟩
  ·obtain⟨av,cv,rfl,-,-⟩:=et.slice (eZ.low lD (fun _ _ _ _ he h=>h.ext he) hd)
   have HD:=V hd;obtain⟨p,hp⟩:=wC (y:=(l2,r)) Mg;have hsk:iJ (L.length - r.length) true (some L)=some r:=by
    have h1:L.length - r.length=p.length:=by rw [hp,ah];simp
    rw [h1,hp];simp [iJ]
   have HNX:=V (show ez mq s=some r by rw [se,ES3.out];simp [ez,Mg]);have HWS:=V (show ie mq s ⟨l1,l2⟩from ud Mn.out (by
    rw [ES3.out];intro y hy;have:some (l2,r)=some y:=by rw [<- Mg];exact hy
    injection this with this;rw [<- this]))
   clear hd Mg hp;go_wp2_with fail;refine(lq w0 w3 R _ (L.length - r.length) true (by omega) HH.out).mono ?_;rintro e w4 ⟨rfl,hh,hk⟩;rw [hsk]at hh;have Nj:=V (Nj.out.stay hk (fun i hi=>by omega));have HY:=V (HY.out.keeps hk (by omega));have HD:=V (eZ.keeps (fun _ _ _ _ he h=>h.ext he) HD.out hk (fun i hi=> .inl (by omega)));clear hsk;have HH:=V hh;have HX:=V (HX.out.keeps hk (by omega));have HK:=V (HK.out.trans hk (fun _ h=> .inl h));clear hh hk;obtain⟨y0,y1,u0,u1⟩:=HY.out.two;obtain⟨x0,x1,z0,z1⟩:=HX.out.two;go_wp2_with fail;have NI:=eC w4 w2.heap.size 1 (.slice av l2.length cv);have hx:=(HX.out.keeps NI (by omega)).nx (.slice a1 l1.length c1) (.slice av l2.length cv);have Lt:=fN (w4.setCell ⟨w2.heap.size,1,none⟩ (.slice av l2.length cv)) w.heap.size (.slice a1 l1.length c1) (.slice av l2.length cv);refine aN (eG rfl _ _ rfl hx.uj) rfl ?_;have Np:ee (fun k=>k < w2.heap.size+1) w4 (((w4.setCell ⟨w2.heap.size,1,none⟩ (.slice av l2.length cv)).setCell ⟨w.heap.size,0,none⟩ (.slice a1 l1.length c1)).setCell ⟨w.heap.size,1,none⟩ (.slice av l2.length cv)):=(NI.mono (fun i hi=>by omega)).trans Lt (fun i hi=> .inl (by omega));have o1:=((Nj.out.keeps NI (fun i hi h=>by have:=HV.out i hi;omega)).stay Lt (fun i hi=>by omega)).lower (show w.heap.size <=w1.heap.size by omega);have o2:=eZ.low lD (fun _ _ _ _ he h=>h.ext he) (eZ.keeps (fun _ _ _ _ he h=>h.ext he) HD.out Np (fun i hi=> .inl hi));have o3:gx (mask (kX w.heap.size) _) (.slice av l2.length cv) l2:=gx.ext o2 (uw _ (by omega));refine⟨⟨l1,l2⟩,(.slice a1 l1.length c1, .slice av l2.length cv),rfl,⟨⟨jx fH o1,o3⟩,HP1.out⟩,trivial,HWS.out,?_,(HK.out.jr NI (by omega)).jr Lt (ag _)⟩;rw [HNX.out];exact(HH.out.keeps NI (by omega) (fun i hi=>by omega)).keeps Lt (by omega) (fun i hi=>by omega)
  ·have f1:=ed he
   have hsk:iJ 0 false (some L)=none:=rfl;have HNX:=V (show ez mq s=none by rw [se,ES3.out];simp [ez,Mg]);have HWS:=V (show ie mq s ⟨l1,[]⟩from ud Mn.out (by
    rw [ES3.out];intro y hy;have:none=some y:=by rw [<- Mg];exact hy
    cases this))
   clear Mg he;go_wp2_with fail;refine(lq w0 w3 R _ 0 false (by omega) HH.out).mono ?_;rintro e w4 ⟨rfl,hh,hk⟩;rw [hsk]at hh;have Nj:=V (Nj.out.stay hk (fun i hi=>by omega));have HY:=V (HY.out.keeps hk (by omega));clear hsk;have HH:=V hh;have HX:=V (HX.out.keeps hk (by omega));have HK:=V (HK.out.trans hk (fun _ h=> .inl h));clear hh hk;obtain⟨y0,y1,u0,u1⟩:=HY.out.two;obtain⟨x0,x1,z0,z1⟩:=HX.out.two;go_wp2_with fail;have NI:=eC w4 w2.heap.size 1 (.slice none 0 0);have hx:=(HX.out.keeps NI (by omega)).nx (.slice a1 l1.length c1) (.slice none 0 0);have Lt:=fN (w4.setCell ⟨w2.heap.size,1,none⟩ (.slice none 0 0)) w.heap.size (.slice a1 l1.length c1) (.slice none 0 0);refine aN (eG rfl _ _ rfl hx.uj) rfl ?_;have Np:ee (fun k=>k < w2.heap.size+1) w4 (((w4.setCell ⟨w2.heap.size,1,none⟩ (.slice none 0 0)).setCell ⟨w.heap.size,0,none⟩ (.slice a1 l1.length c1)).setCell ⟨w.heap.size,1,none⟩ (.slice none 0 0)):=(NI.mono (fun i hi=>by omega)).trans Lt (fun i hi=> .inl (by omega));have o1:=((Nj.out.keeps NI (fun i hi h=>by have:=HV.out i hi;omega)).stay Lt (fun i hi=>by omega)).lower (show w.heap.size <=w1.heap.size by omega);refine⟨⟨l1,[]⟩,(.slice a1 l1.length c1, .slice none 0 0),rfl,⟨⟨jx fH o1,et.nil _⟩,HP1.out⟩,trivial,HWS.out,?_,(HK.out.jr NI (by omega)).jr Lt (ag _)⟩;rw [HNX.out];exact(HH.out.keeps NI (by omega) (fun i hi=>by omega)).keeps Lt (by omega) (fun i hi=>by omega)
theorem Hz (w0:World) (Y:Nat) (get:je (gN)) (P:gN ->Prop) (hG:iZ get) (st:gu) (w:World) (Lq:Nat) (bs cs:Array Value)
  (hE:∀args w,(callFunc Lq args).run prog w= .ok (.enter Lq args) w) (h:fD w0 w Y st)
  (hp:∀s w1,fD w0 w1 Y s ->ee (fun k=>k=Y) w w1 ->Calls prog Lq (bs++cs) w1 (Jf (fun(_:gN) (u:Value × Value)=> .agg #[u.1,u.2]) gW w0 Y get P s w1)):
  Calls prog 209 #[.pointer (some ⟨Y,0,none⟩), .func (.func Lq) bs cs] w (KI 109 2 r9 gW w0 Y get P st w):=by
 have HP:=V hp;have HH:=V h;have hR:=h.lt;have HG:=V hG;clear hp h hG;go_enter func209,ntmps209;go_wp2_with fail;refine(im w0 w Y st HH.out).mono ?_;rintro e w1 ⟨rfl,h1,MA⟩;have Nn:=V (ky get st _ (iQ st));have hn:=iU st;have hlen:=h1.len;obtain⟨N,eN⟩:∃N,iX st=N:=⟨_,rfl⟩;rw [eN]at hn Nn⊢;clear eN;go_wp2_with fail;refine eJ (fun a' w'=>∃(v:Value) (acc:List (gN)) (n:Nat) (s:gu),a'=fr (.pointer (some ⟨Y,0,none⟩):: .func (.func Lq) bs cs::gs a' 2 3 (v:: .int .i64 n::gs a' 7 19 []))/\eZ 109 2 r9 gW w' w.heap.size v acc/\Iw w0 Y get P st w w' acc n s) (fun a' _=>(intOf (a'.tmps.getD 6 undef)).toNat) ?_ ?_
 ·exact⟨_,[],N,ez gq st,rfl,eZ.nil _ _,Nn.out,by simp,by simpa using hlen,h1,MA,hn⟩
 ·clear h1 MA hn hlen Nn HH
  rintro R a' w1 ⟨v,acc,n,s,Lp,hJ⟩ HR;dsimp only [fr,gs]at Lp;generalize slot a'=f at Lp;subst Lp;obtain⟨ho,Mv,LM,hlen,Mo,hk,hn⟩:=hJ;have L4:=V Mo;have LX:=V Mv;have LJ:=V LM;have NS:=V hR;have Mr:=hk.size;have c1:=Mo.bad;have HO:=V ho;have Mp:∀i,eH v i ->¬ i=Y:=fun i hi=>by have:=(eZ.lt ho hi).1;omega
  have QX:=V Mp;have HK:=V hk;clear ho Mp Mv LM Mo hk;rcases aY n with MZ | MZ
  ·obtain⟨g1,g2⟩:=gO get LX.out (.inl MZ)
   have G1:=V g1;have G2:=V g2;subst MZ;clear g1 g2;go_wp2_with fail;go_ret;exact⟨_,acc,rfl,HO.out,LJ.out,by omega,G2.out,by rw [G1.out];exact L4.out,HK.out⟩
  have f0:decide ((0:Int) < (n:Int))=true:=aA (by omega);cases s with
  | none=>
   have c1:w1.cell? ⟨Y,1,none⟩=some (.bool true):=c1;obtain⟨g1,g2⟩:=gO get LX.out (.inr rfl);have G1:=V g1;have G2:=V g2;clear g1 g2;go_wp2_with fail;go_ret;exact⟨_,acc,rfl,HO.out,LJ.out,by omega,G2.out,by rw [G1.out];exact L4.out,HK.out⟩
  | some lb=>
   have c1:w1.cell? ⟨Y,1,none⟩=some (.bool false):=c1;obtain⟨n',rfl⟩:∃n',n=n'+1:=⟨n - 1,by omega⟩;have Lw:=HG.out.len lb;have PL:acc.length <=8001:=by omega
   have Ns:=V (show acc.length+1+(ez get (some lb)).len <=8001 by omega);clear Lw hlen;go_wp2_with fail;refine(HP.out (some lb) w1 L4.out HK.out).mono ?_;rintro e w2 ⟨x,u,rfl,Mh,O6,O7,h2,Lv⟩;obtain⟨ux,uy⟩:=u;obtain⟨⟨⟨a1,LF,Nk,-,-,-⟩,⟨a2,Lu,Nw,-,-,-⟩⟩,-⟩:=id Mh;simp only at Nk Nw;subst Nk Nw;have LW:=V Mh;clear Mh;have Mq:=V (eZ.keeps (fun _ _ _ _ he h=>h.ext he) HO.out Lv (fun i hi=>by subst hi;exact .inl NS.out));obtain⟨us,u1,u2,u3⟩:=Mq.out;have N2:(acc.zip us).length=acc.length:=by rw [bJ,u1,cd]
   obtain⟨av,cv,ev,_,MR,-⟩:=u2.fR vw;rw [N2]at ev;subst ev;unfold maxLen at MR;have HV:=V (show∀i,eH (.slice av acc.length cv) i ->i < w1.heap.size from fun i hi=>(eZ.lt HO.out hi).2);have U1:=V u1;have U3:=V u3;have U2:=V u2;have MG:=V h2;have Qf:=V O6;have MX:=V (LX.out.trans (jJ get n' acc O7));have MI:=V (HK.out.trans Lv (fun _ h=> .inl h));have Pe:=V (show w.heap.size <=w1.heap.size from HK.out.size);have Nx:=V (show w.heap.size <=w2.heap.size from MI.out.size);clear O6 O7 h2 Lv c1;go_wp2_with (first | (at_builtin;refine fb w2 rfl _ _ 52 rfl _ 48 (by kernel_rfl) Dg rfl (by decide) (by decide) w.heap.size (.slice av acc.length cv) (acc.zip us) rfl U2.out (x,(.slice a1 x.params.length LF, .slice a2 x.results.length Lu)) _ rfl rfl (by simp [r9,Value.oneCell']) rfl (by rw [bJ,U1.out,cd];omega) Nx.out ?_));intro v3 w3 MB L5 M0;have NP:=V (eZ.app (fun _ _ _ _ he h=>h.ext he) (w1:=w1) U1.out U3.out MB L5 M0 Pe.out HV.out LW.out);have L7:∀i,eH (.slice av acc.length cv) i ->w.heap.size <=i/\i < w2.heap.size:=fun i hi=>eE U2.out hi;have ND:=V (MG.out.keeps L5 (fun h=>by have:=(L7 _ h).1;have:=NS.out;omega) (fun i hi=>by have:=(L7 i hi).1;have:=MG.out.old.2;have:=NS.out;omega));have PT:=V (MI.out.trans L5 (fun i hi=> .inr (L7 i hi).1));clear MB L5 M0 L7;go_wp2_with fail;refine HR.out _ _ ⟨_,acc++[x],n',ez get (some lb),rfl,NP.out,MX.out,?_,?_,ND.out,PT.out,by omega⟩ ?_
   ·intro y hy
    rcases aZ.1 hy with h | h
    ·exact LJ.out y h
    ·obtain rfl:=aQ.1 h
     exact Qf.out
   ·rw [ah]
    exact Ns.out
   ·simp [intOf]
theorem Hq (w0:World) (Y:Nat) (get:je (gS)) (P:gS ->Prop) (hG:iZ get) (st:gu) (w:World) (Lq:Nat) (bs cs:Array Value)
  (hE:∀args w,(callFunc Lq args).run prog w= .ok (.enter Lq args) w) (h:fD w0 w Y st)
  (hp:∀s w1,fD w0 w1 Y s ->ee (fun k=>k=Y) w w1 ->Calls prog Lq (bs++cs) w1 (Jf (fun(_:gS) (u:Value × Value)=> .agg #[u.1,u.2]) gU w0 Y get P s w1)):
  Calls prog 222 #[.pointer (some ⟨Y,0,none⟩), .func (.func Lq) bs cs] w (KI 69 2 su gU w0 Y get P st w):=by
 have HP:=V hp;have HH:=V h;have hR:=h.lt;have HG:=V hG;clear hp h hG;go_enter func222,ntmps222;go_wp2_with fail;refine(im w0 w Y st HH.out).mono ?_;rintro e w1 ⟨rfl,h1,MA⟩;have Nn:=V (ky get st _ (iQ st));have hn:=iU st;have hlen:=h1.len;obtain⟨N,eN⟩:∃N,iX st=N:=⟨_,rfl⟩;rw [eN]at hn Nn⊢;clear eN;go_wp2_with fail;refine eJ (fun a' w'=>∃(v:Value) (acc:List (gS)) (n:Nat) (s:gu),a'=fr (.pointer (some ⟨Y,0,none⟩):: .func (.func Lq) bs cs::gs a' 2 3 (v:: .int .i64 n::gs a' 7 19 []))/\eZ 69 2 su gU w' w.heap.size v acc/\Iw w0 Y get P st w w' acc n s) (fun a' _=>(intOf (a'.tmps.getD 6 undef)).toNat) ?_ ?_
 ·exact⟨_,[],N,ez gq st,rfl,eZ.nil _ _,Nn.out,by simp,by simpa using hlen,h1,MA,hn⟩
 ·clear h1 MA hn hlen Nn HH
  rintro R a' w1 ⟨v,acc,n,s,Lp,hJ⟩ HR;dsimp only [fr,gs]at Lp;generalize slot a'=f at Lp;subst Lp;obtain⟨ho,Mv,LM,hlen,Mo,hk,hn⟩:=hJ;have L4:=V Mo;have LX:=V Mv;have LJ:=V LM;have NS:=V hR;have Mr:=hk.size;have c1:=Mo.bad;have HO:=V ho;have Mp:∀i,eH v i ->¬ i=Y:=fun i hi=>by have:=(eZ.lt ho hi).1;omega
  have QX:=V Mp;have HK:=V hk;clear ho Mp Mv LM Mo hk;rcases aY n with MZ | MZ
  ·obtain⟨g1,g2⟩:=gO get LX.out (.inl MZ)
   have G1:=V g1;have G2:=V g2;subst MZ;clear g1 g2;go_wp2_with fail;go_ret;exact⟨_,acc,rfl,HO.out,LJ.out,by omega,G2.out,by rw [G1.out];exact L4.out,HK.out⟩
  have f0:decide ((0:Int) < (n:Int))=true:=aA (by omega);cases s with
  | none=>
   have c1:w1.cell? ⟨Y,1,none⟩=some (.bool true):=c1;obtain⟨g1,g2⟩:=gO get LX.out (.inr rfl);have G1:=V g1;have G2:=V g2;clear g1 g2;go_wp2_with fail;go_ret;exact⟨_,acc,rfl,HO.out,LJ.out,by omega,G2.out,by rw [G1.out];exact L4.out,HK.out⟩
  | some lb=>
   have c1:w1.cell? ⟨Y,1,none⟩=some (.bool false):=c1;obtain⟨n',rfl⟩:∃n',n=n'+1:=⟨n - 1,by omega⟩;have Lw:=HG.out.len lb;have PL:acc.length <=8001:=by omega
   have Ns:=V (show acc.length+1+(ez get (some lb)).len <=8001 by omega);clear Lw hlen;go_wp2_with fail;refine(HP.out (some lb) w1 L4.out HK.out).mono ?_;rintro e w2 ⟨x,u,rfl,Mh,O6,O7,h2,Lv⟩;obtain⟨ux,uy⟩:=u;obtain⟨⟨⟨a1,LF,Nk,-,-,-⟩,Mg⟩,-⟩:=id Mh;obtain⟨a2,Lu,Nw,-,-⟩:=et.slice Mg;simp only at Nk Nw;subst Nk Nw;clear Mg;have LW:=V Mh;clear Mh;have Mq:=V (eZ.keeps (fun _ _ _ _ he h=>h.ext he) HO.out Lv (fun i hi=>by subst hi;exact .inl NS.out));obtain⟨us,u1,u2,u3⟩:=Mq.out;have N2:(acc.zip us).length=acc.length:=by rw [bJ,u1,cd]
   obtain⟨av,cv,ev,_,MR,-⟩:=u2.fR vx;rw [N2]at ev;subst ev;unfold maxLen at MR;have HV:=V (show∀i,eH (.slice av acc.length cv) i ->i < w1.heap.size from fun i hi=>(eZ.lt HO.out hi).2);have U1:=V u1;have U3:=V u3;have U2:=V u2;have MG:=V h2;have Qf:=V O6;have MX:=V (LX.out.trans (jJ get n' acc O7));have MI:=V (HK.out.trans Lv (fun _ h=> .inl h));have Pe:=V (show w.heap.size <=w1.heap.size from HK.out.size);have Nx:=V (show w.heap.size <=w2.heap.size from MI.out.size);clear O6 O7 h2 Lv c1;go_wp2_with (first | (at_builtin;refine fb w2 rfl _ _ 59 rfl _ 48 (by kernel_rfl) D8 rfl (by decide) (by decide) w.heap.size (.slice av acc.length cv) (acc.zip us) rfl U2.out (x,(.slice a1 x.locals.length LF, .slice a2 x.body.length Lu)) _ rfl rfl (by simp [su,Value.oneCell']) rfl (by rw [bJ,U1.out,cd];omega) Nx.out ?_));intro v3 w3 MB L5 M0;have NP:=V (eZ.app (fun _ _ _ _ he h=>h.ext he) (w1:=w1) U1.out U3.out MB L5 M0 Pe.out HV.out LW.out);have L7:∀i,eH (.slice av acc.length cv) i ->w.heap.size <=i/\i < w2.heap.size:=fun i hi=>eE U2.out hi;have ND:=V (MG.out.keeps L5 (fun h=>by have:=(L7 _ h).1;have:=NS.out;omega) (fun i hi=>by have:=(L7 i hi).1;have:=MG.out.old.2;have:=NS.out;omega));have PT:=V (MI.out.trans L5 (fun i hi=> .inr (L7 i hi).1));clear MB L5 M0 L7;go_wp2_with fail;refine HR.out _ _ ⟨_,acc++[x],n',ez get (some lb),rfl,NP.out,MX.out,?_,?_,ND.out,PT.out,by omega⟩ ?_
   ·intro y hy
    rcases aZ.1 hy with h | h
    ·exact LJ.out y h
    ·obtain rfl:=aQ.1 h
     exact Qf.out
   ·rw [ah]
    exact Ns.out
   ·simp [intOf]
theorem Ie (w0:World) (Y:Nat) (get:je (jb)) (P:jb ->Prop) (hG:iZ get) (st:gu) (w:World) (Lq:Nat) (bs cs:Array Value)
  (hE:∀args w,(callFunc Lq args).run prog w= .ok (.enter Lq args) w) (h:fD w0 w Y st)
  (hp:∀s w1,fD w0 w1 Y s ->ee (fun k=>k=Y) w w1 ->Calls prog Lq (bs++cs) w1 (Jf (fun(x:jb) (u:Value)=> .agg #[.int .i64 x.off,u]) ig w0 Y get P s w1)):
  Calls prog 219 #[.pointer (some ⟨Y,0,none⟩), .func (.func Lq) bs cs] w (KI 95 2 uM ig w0 Y get P st w):=by
 have HP:=V hp;have HH:=V h;have hR:=h.lt;have HG:=V hG;clear hp h hG;go_enter func219,ntmps219;go_wp2_with fail;refine(im w0 w Y st HH.out).mono ?_;rintro e w1 ⟨rfl,h1,MA⟩;have Nn:=V (ky get st _ (iQ st));have hn:=iU st;have hlen:=h1.len;obtain⟨N,eN⟩:∃N,iX st=N:=⟨_,rfl⟩;rw [eN]at hn Nn⊢;clear eN;go_wp2_with fail;refine eJ (fun a' w'=>∃(v:Value) (acc:List (jb)) (n:Nat) (s:gu),a'=fr (.pointer (some ⟨Y,0,none⟩):: .func (.func Lq) bs cs::gs a' 2 3 (v:: .int .i64 n::gs a' 7 19 []))/\eZ 95 2 uM ig w' w.heap.size v acc/\Iw w0 Y get P st w w' acc n s) (fun a' _=>(intOf (a'.tmps.getD 6 undef)).toNat) ?_ ?_
 ·exact⟨_,[],N,ez gq st,rfl,eZ.nil _ _,Nn.out,by simp,by simpa using hlen,h1,MA,hn⟩
 ·clear h1 MA hn hlen Nn HH
  rintro R a' w1 ⟨v,acc,n,s,Lp,hJ⟩ HR;dsimp only [fr,gs]at Lp;generalize slot a'=f at Lp;subst Lp;obtain⟨ho,Mv,LM,hlen,Mo,hk,hn⟩:=hJ;have L4:=V Mo;have LX:=V Mv;have LJ:=V LM;have NS:=V hR;have Mr:=hk.size;have c1:=Mo.bad;have HO:=V ho;have Mp:∀i,eH v i ->¬ i=Y:=fun i hi=>by have:=(eZ.lt ho hi).1;omega
  have QX:=V Mp;have HK:=V hk;clear ho Mp Mv LM Mo hk;rcases aY n with MZ | MZ
  ·obtain⟨g1,g2⟩:=gO get LX.out (.inl MZ)
   have G1:=V g1;have G2:=V g2;subst MZ;clear g1 g2;go_wp2_with fail;go_ret;exact⟨_,acc,rfl,HO.out,LJ.out,by omega,G2.out,by rw [G1.out];exact L4.out,HK.out⟩
  have f0:decide ((0:Int) < (n:Int))=true:=aA (by omega);cases s with
  | none=>
   have c1:w1.cell? ⟨Y,1,none⟩=some (.bool true):=c1;obtain⟨g1,g2⟩:=gO get LX.out (.inr rfl);have G1:=V g1;have G2:=V g2;clear g1 g2;go_wp2_with fail;go_ret;exact⟨_,acc,rfl,HO.out,LJ.out,by omega,G2.out,by rw [G1.out];exact L4.out,HK.out⟩
  | some lb=>
   have c1:w1.cell? ⟨Y,1,none⟩=some (.bool false):=c1;obtain⟨n',rfl⟩:∃n',n=n'+1:=⟨n - 1,by omega⟩;have Lw:=HG.out.len lb;have PL:acc.length <=8001:=by omega
   have Ns:=V (show acc.length+1+(ez get (some lb)).len <=8001 by omega);clear Lw hlen;go_wp2_with fail;refine(HP.out (some lb) w1 L4.out HK.out).mono ?_;rintro e w2 ⟨x,u,rfl,Mh,O6,O7,h2,Lv⟩;obtain⟨⟨a1,LF,rfl,-,-,-⟩,-⟩:=id Mh;have LW:=V Mh;clear Mh;have Mq:=V (eZ.keeps (fun _ _ _ _ he h=>h.ext he) HO.out Lv (fun i hi=>by subst hi;exact .inl NS.out));obtain⟨us,u1,u2,u3⟩:=Mq.out;have N2:(acc.zip us).length=acc.length:=by rw [bJ,u1,cd]
   obtain⟨av,cv,ev,_,MR,-⟩:=u2.fR uU;rw [N2]at ev;subst ev;unfold maxLen at MR;have HV:=V (show∀i,eH (.slice av acc.length cv) i ->i < w1.heap.size from fun i hi=>(eZ.lt HO.out hi).2);have U1:=V u1;have U3:=V u3;have U2:=V u2;have MG:=V h2;have Qf:=V O6;have MX:=V (LX.out.trans (jJ get n' acc O7));have MI:=V (HK.out.trans Lv (fun _ h=> .inl h));have Pe:=V (show w.heap.size <=w1.heap.size from HK.out.size);have Nx:=V (show w.heap.size <=w2.heap.size from MI.out.size);clear O6 O7 h2 Lv c1;go_wp2_with (first | (at_builtin;refine fb w2 rfl _ _ 58 rfl _ 32 (by kernel_rfl) Dh rfl (by decide) (by decide) w.heap.size (.slice av acc.length cv) (acc.zip us) rfl U2.out (x, .slice a1 x.funcs.length LF) _ rfl rfl (by simp [uM,Value.oneCell']) rfl (by rw [bJ,U1.out,cd];omega) Nx.out ?_));intro v3 w3 MB L5 M0;have NP:=V (eZ.app (fun _ _ _ _ he h=>h.ext he) (w1:=w1) U1.out U3.out MB L5 M0 Pe.out HV.out LW.out);have L7:∀i,eH (.slice av acc.length cv) i ->w.heap.size <=i/\i < w2.heap.size:=fun i hi=>eE U2.out hi;have ND:=V (MG.out.keeps L5 (fun h=>by have:=(L7 _ h).1;have:=NS.out;omega) (fun i hi=>by have:=(L7 i hi).1;have:=MG.out.old.2;have:=NS.out;omega));have PT:=V (MI.out.trans L5 (fun i hi=> .inr (L7 i hi).1));clear MB L5 M0 L7;go_wp2_with fail;refine HR.out _ _ ⟨_,acc++[x],n',ez get (some lb),rfl,NP.out,MX.out,?_,?_,ND.out,PT.out,by omega⟩ ?_
   ·intro y hy
    rcases aZ.1 hy with h | h
    ·exact LJ.out y h
    ·obtain rfl:=aQ.1 h
     exact Qf.out
   ·rw [ah]
    exact Ns.out
   ·simp [intOf]
theorem Hr (w0:World) (Y:Nat) (get:je (gD)) (P:gD ->Prop) (hG:iZ get) (st:gu) (w:World) (Lq:Nat) (bs cs:Array Value)
  (hE:∀args w,(callFunc Lq args).run prog w= .ok (.enter Lq args) w) (h:fD w0 w Y st)
  (hp:∀s w1,fD w0 w1 Y s ->ee (fun k=>k=Y) w w1 ->Calls prog Lq (bs++cs) w1 (Jf (fun(x:gD) (u:Value)=> .agg #[.int .i64 x.off,u]) gE w0 Y get P s w1)):
  Calls prog 224 #[.pointer (some ⟨Y,0,none⟩), .func (.func Lq) bs cs] w (KI 99 2 qs gE w0 Y get P st w):=by
 have HP:=V hp;have HH:=V h;have hR:=h.lt;have HG:=V hG;clear hp h hG;go_enter func224,ntmps224;go_wp2_with fail;refine(im w0 w Y st HH.out).mono ?_;rintro e w1 ⟨rfl,h1,MA⟩;have Nn:=V (ky get st _ (iQ st));have hn:=iU st;have hlen:=h1.len;obtain⟨N,eN⟩:∃N,iX st=N:=⟨_,rfl⟩;rw [eN]at hn Nn⊢;clear eN;go_wp2_with fail;refine eJ (fun a' w'=>∃(v:Value) (acc:List (gD)) (n:Nat) (s:gu),a'=fr (.pointer (some ⟨Y,0,none⟩):: .func (.func Lq) bs cs::gs a' 2 3 (v:: .int .i64 n::gs a' 7 19 []))/\eZ 99 2 qs gE w' w.heap.size v acc/\Iw w0 Y get P st w w' acc n s) (fun a' _=>(intOf (a'.tmps.getD 6 undef)).toNat) ?_ ?_
 ·exact⟨_,[],N,ez gq st,rfl,eZ.nil _ _,Nn.out,by simp,by simpa using hlen,h1,MA,hn⟩
 ·clear h1 MA hn hlen Nn HH
  rintro R a' w1 ⟨v,acc,n,s,Lp,hJ⟩ HR;dsimp only [fr,gs]at Lp;generalize slot a'=f at Lp;subst Lp;obtain⟨ho,Mv,LM,hlen,Mo,hk,hn⟩:=hJ;have L4:=V Mo;have LX:=V Mv;have LJ:=V LM;have NS:=V hR;have Mr:=hk.size;have c1:=Mo.bad;have HO:=V ho;have Mp:∀i,eH v i ->¬ i=Y:=fun i hi=>by have:=(eZ.lt ho hi).1;omega
  have QX:=V Mp;have HK:=V hk;clear ho Mp Mv LM Mo hk;rcases aY n with MZ | MZ
  ·obtain⟨g1,g2⟩:=gO get LX.out (.inl MZ)
   have G1:=V g1;have G2:=V g2;subst MZ;clear g1 g2;go_wp2_with fail;go_ret;exact⟨_,acc,rfl,HO.out,LJ.out,by omega,G2.out,by rw [G1.out];exact L4.out,HK.out⟩
  have f0:decide ((0:Int) < (n:Int))=true:=aA (by omega);cases s with
  | none=>
   have c1:w1.cell? ⟨Y,1,none⟩=some (.bool true):=c1;obtain⟨g1,g2⟩:=gO get LX.out (.inr rfl);have G1:=V g1;have G2:=V g2;clear g1 g2;go_wp2_with fail;go_ret;exact⟨_,acc,rfl,HO.out,LJ.out,by omega,G2.out,by rw [G1.out];exact L4.out,HK.out⟩
  | some lb=>
   have c1:w1.cell? ⟨Y,1,none⟩=some (.bool false):=c1;obtain⟨n',rfl⟩:∃n',n=n'+1:=⟨n - 1,by omega⟩;have Lw:=HG.out.len lb;have PL:acc.length <=8001:=by omega
   have Ns:=V (show acc.length+1+(ez get (some lb)).len <=8001 by omega);clear Lw hlen;go_wp2_with fail;refine(HP.out (some lb) w1 L4.out HK.out).mono ?_;rintro e w2 ⟨x,u,rfl,Mh,O6,O7,h2,Lv⟩;obtain⟨⟨a1,LF,rfl,-,-,-⟩,-⟩:=id Mh;have LW:=V Mh;clear Mh;have Mq:=V (eZ.keeps (fun _ _ _ _ he h=>h.ext he) HO.out Lv (fun i hi=>by subst hi;exact .inl NS.out));obtain⟨us,u1,u2,u3⟩:=Mq.out;have N2:(acc.zip us).length=acc.length:=by rw [bJ,u1,cd]
   obtain⟨av,cv,ev,_,MR,-⟩:=u2.fR rR;rw [N2]at ev;subst ev;unfold maxLen at MR;have HV:=V (show∀i,eH (.slice av acc.length cv) i ->i < w1.heap.size from fun i hi=>(eZ.lt HO.out hi).2);have U1:=V u1;have U3:=V u3;have U2:=V u2;have MG:=V h2;have Qf:=V O6;have MX:=V (LX.out.trans (jJ get n' acc O7));have MI:=V (HK.out.trans Lv (fun _ h=> .inl h));have Pe:=V (show w.heap.size <=w1.heap.size from HK.out.size);have Nx:=V (show w.heap.size <=w2.heap.size from MI.out.size);clear O6 O7 h2 Lv c1;go_wp2_with (first | (at_builtin;refine fb w2 rfl _ _ 60 rfl _ 32 (by kernel_rfl) DJ rfl (by decide) (by decide) w.heap.size (.slice av acc.length cv) (acc.zip us) rfl U2.out (x, .slice a1 x.bytes.length LF) _ rfl rfl (by simp [qs,Value.oneCell']) rfl (by rw [bJ,U1.out,cd];omega) Nx.out ?_));intro v3 w3 MB L5 M0;have NP:=V (eZ.app (fun _ _ _ _ he h=>h.ext he) (w1:=w1) U1.out U3.out MB L5 M0 Pe.out HV.out LW.out);have L7:∀i,eH (.slice av acc.length cv) i ->w.heap.size <=i/\i < w2.heap.size:=fun i hi=>eE U2.out hi;have ND:=V (MG.out.keeps L5 (fun h=>by have:=(L7 _ h).1;have:=NS.out;omega) (fun i hi=>by have:=(L7 i hi).1;have:=MG.out.old.2;have:=NS.out;omega));have PT:=V (MI.out.trans L5 (fun i hi=> .inr (L7 i hi).1));clear MB L5 M0 L7;go_wp2_with fail;refine HR.out _ _ ⟨_,acc++[x],n',ez get (some lb),rfl,NP.out,MX.out,?_,?_,ND.out,PT.out,by omega⟩ ?_
   ·intro y hy
    rcases aZ.1 hy with h | h
    ·exact LJ.out y h
    ·obtain rfl:=aQ.1 h
     exact Qf.out
   ·rw [ah]
    exact Ns.out
   ·simp [intOf]
end Go.Proofs.YthbjdhjppbcneaaGreatDoor
