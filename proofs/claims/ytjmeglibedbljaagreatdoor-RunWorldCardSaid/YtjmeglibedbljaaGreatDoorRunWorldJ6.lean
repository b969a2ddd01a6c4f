import Derived.Test.YtjmeglibedbljaaGreatDoorRunWorldJ5
import Derived.Lib.SlBytesConst
import Derived.Lib.ConvBytes
namespace Go.Proofs.YtjmeglibedbljaaGreatDoor
set_option maxRecDepth 100000
set_option maxHeartbeats 20000000
open Go.RowKit Tryz
open Lib renaming hid->V
set_option linter.all false
def LK (w0:World) (L:List UInt8) (l:List Int) (B:Nat) (b:Value) (X:Nat) (cs:Array Value) (t:TypeId) (w w':World) (v:Value) (k:Nat):Prop:=
 k <=l.length/\Wr w b B w' v (L++((l.take k).map fun n=>ff n.toNat).flatten)/\Aside w' v X cs t/\Src w0 w' B
theorem oP:∀l:List Int,(∀n∈l,gh n) ->(((l.map fun n=>ff n.toNat).flatten).length <=10*l.length)
 | [],_=>by simp
 | n::l,h=>by
  have h1:=(eU n.toNat).2;have h2:=oP l (fun x hx=>h x (by simp [hx]));simp only [bF,bO,ah,aD];omega
theorem pd (w0:World) (b:Value) (xs:List UInt8) (x:fa) (u:Value) (B:Nat) (w:World) (Nl:eC w B b xs) (hn:xs.length <=900000000) (hB:B <=w.heap.size)
  (hx:gY w0 x u) (h0:Src w0 w B) (hm:x.may):
  Calls prog 273 #[b, .agg #[.int .i64 x.op, .int .i64 x.a, .int .i64 x.b,u]] w (iw xs (iH x) B b w):=by
 obtain⟨op,a,bb,l⟩:=x;have HM:=V hm;have HX:=V hx;have RF:=V Nl;obtain⟨au,Ns,rfl,PV,Ow,-⟩:=id hx.1;unfold maxLen at Ow;obtain⟨m1,m2,m3⟩:=id hm;simp only at m1 m2 m3 PV Ow;have hf:fU op≠0:=by
  rcases m3 with h | h | h | h | h | h | h | h | h <;>first | (rw [h.1];decide) | (rw [h];decide)
 obtain⟨o1,o2⟩:=xI hf;have TC:=oO op;obtain⟨n,rfl⟩:∃n:Nat,op=n:=⟨op.toNat,by omega⟩;obtain⟨f,hfe⟩:∃f,fU (n:Int)=f:=⟨_,rfl⟩;rw [hfe]at m1 m2 m3 hf TC;have HB:Hid (iH ⟨n,a,bb,l⟩=b8 n::gy ⟨n,a,bb,l⟩):=V (by
  have:((n:Int).toNat %256)=n:=by omega
  rw [iH,this])
 have HF:=V hfe;have M3:=V m3;have M1:=V m1;have M2:=V m2;clear hm hx hfe m1 m2 m3;go_enter func273,ntmps273;have Sm:Wr w b B (w.alloc (.cells #[.int .i64 n, .int .i64 a, .int .i64 bb, .slice au l.length Ns] 39)) b xs:=(Wr.refl Nl).alloc _;have ha1:=Aside.new Nl #[.int .i64 n, .int .i64 a, .int .i64 bb, .slice au l.length Ns] 39;have OC:=h0.alloc (.cells #[.int .i64 n, .int .i64 a, .int .i64 bb, .slice au l.length Ns] 39);go_wp2_with (first | (at_builtin;refine fm (w.alloc (.cells #[.int .i64 n, .int .i64 a, .int .i64 bb, .slice au l.length Ns] 39)) rfl _ _ rfl rfl B b xs rfl Sm.1 (b8 n) _ ?_ ?_ ?_ ?_ ?_))
 ·rw [gZ (by omega)]
 ·omega
 ·omega
 intro v w2 ho hk hs;have PE:=Sm.step ⟨ho,hk,hs⟩;have ha2:=ha1.next ⟨ho,hk,hs⟩;have NC:=OC.next Sm.1 ⟨ho,hk,hs⟩;have c0:=ha2.cell 0;have HW:=V PE;have HA:=V ha2;have HS:=V NC;clear Sm ha1 OC ho hk hs PE ha2 NC Nl h0;go_wp2_with fail;refine(uQ n _).mono ?_;rintro e w3 ⟨rfl,NP⟩;rw [HF.out];have HW:=V (HW.out.below NP);have HA:=V (HA.out.below NP);have HS:=V (HS.out.below NP);have hBw:=HW.out.base hB;have c1:=HA.out.cell 1;have c2:=HA.out.cell 2;have c3:=HA.out.cell 3;clear NP c0 hf TC;rcases M3.out with⟨rfl,ra⟩ | ⟨rfl,ra1,ra2⟩ | ⟨rfl,ra1,ra2⟩ | ⟨rfl,⟨ra1,ra2⟩,rl,rs⟩ | ⟨rfl,ra1,ra2⟩ | ⟨rfl,⟨ra1,ra2⟩,rb1,rb2⟩ | ⟨rfl,ra⟩ | ⟨rfl,ra1,ra2⟩ | rfl
 ·clear ra M3
  go_wp2;go_ret;exact⟨_,rfl,by show Wr _ _ _ _ _ _;rw [HB.out];simpa [gy,HF.out] using HW.out⟩
 ·clear M3
  have key:∃c:UInt8,(a=0/\c=64)\/(a=1/\c=127)\/(a=2/\c=126):=by
   rcases(show a=0\/a=1\/a=2 by omega)with h | h | h
   ·exact⟨64, .inl ⟨h,rfl⟩⟩
   ·exact⟨127, .inr (.inl ⟨h,rfl⟩)⟩
   ·exact⟨126, .inr (.inr ⟨h,rfl⟩)⟩
  obtain⟨c,⟨rfl,rfl⟩ | ⟨rfl,rfl⟩ | ⟨rfl,rfl⟩⟩:=key
  ·clear ra1 ra2
   have hix:∀wx,(Instr.index 357 (.agg #[.int .u8 64, .int .u8 127, .int .u8 126]) (.int .i64 0)).run prog wx= .ok (.int .u8 64) wx:=fun wx=>by kernel_rfl
   go_wp2_with (first | (at_builtin;refine fm w3 rfl _ _ rfl rfl B v _ rfl HW.out.1 64 _ (by decide) rfl (by simp only [ah,aB];omega) hBw ?_));intro v4 w4 ho hk hs;have PA:=V (HW.out.step ⟨ho,hk,hs⟩);clear ho hk hs;go_wp2;go_ret;exact⟨_,rfl,by show Wr _ _ _ _ _ _;rw [HB.out];simpa [gy,HF.out] using PA.out⟩
  ·clear ra1 ra2
   have hix:∀wx,(Instr.index 357 (.agg #[.int .u8 64, .int .u8 127, .int .u8 126]) (.int .i64 1)).run prog wx= .ok (.int .u8 127) wx:=fun wx=>by kernel_rfl
   go_wp2_with (first | (at_builtin;refine fm w3 rfl _ _ rfl rfl B v _ rfl HW.out.1 127 _ (by decide) rfl (by simp only [ah,aB];omega) hBw ?_));intro v4 w4 ho hk hs;have PA:=V (HW.out.step ⟨ho,hk,hs⟩);clear ho hk hs;go_wp2;go_ret;exact⟨_,rfl,by show Wr _ _ _ _ _ _;rw [HB.out];simpa [gy,HF.out] using PA.out⟩
  ·clear ra1 ra2
   have hix:∀wx,(Instr.index 357 (.agg #[.int .u8 64, .int .u8 127, .int .u8 126]) (.int .i64 2)).run prog wx= .ok (.int .u8 126) wx:=fun wx=>by kernel_rfl
   go_wp2_with (first | (at_builtin;refine fm w3 rfl _ _ rfl rfl B v _ rfl HW.out.1 126 _ (by decide) rfl (by simp only [ah,aB];omega) hBw ?_));intro v4 w4 ho hk hs;have PA:=V (HW.out.step ⟨ho,hk,hs⟩);clear ho hk hs;go_wp2;go_ret;exact⟨_,rfl,by show Wr _ _ _ _ _ _;rw [HB.out];simpa [gy,HF.out] using PA.out⟩
 ·clear M3
  obtain⟨k,rfl⟩:∃k:Nat,a=k:=⟨a.toNat,by omega⟩;go_wp2_with fail;refine(jj v _ k (by omega) B _ HW.out.1 (by simp only [ah,aB];omega) (by omega)).mono ?_;rintro e w4 ⟨v4,rfl,ho,hk,hs⟩;have PA:=V (HW.out.step ⟨ho,hk,hs⟩);clear ho hk hs;go_wp2;go_ret;exact⟨_,rfl,by show Wr _ _ _ _ _ _;rw [HB.out];simpa [gy,HF.out] using PA.out⟩
 ·clear M3
  obtain⟨p,rfl⟩:∃p:Nat,a=p:=⟨a.toNat,by omega⟩;have RS:=V rs;have hls:=oP l rs;clear rs;go_wp2_with fail;refine(jj v _ l.length (by omega) B _ HW.out.1 (by simp only [ah,aB];omega) (by omega)).mono ?_;rintro e w4 ⟨v4,rfl,ho,hk,hs⟩;have hw4:Wr w b B w4 v4 _:=HW.out.step ⟨ho,hk,hs⟩;have HA4:=V (HA.out.next ⟨ho,hk,hs⟩);have QZ:=V (HS.out.next HW.out.1 ⟨ho,hk,hs⟩);have hl4:=(eU l.length).2;obtain⟨L,hL⟩:∃L,xs++[b8 n]++ff l.length=L:=⟨_,rfl⟩;rw [hL]at hw4;have hlen:L.length <=xs.length+11:=by rw [<- hL];simp only [ah,aB];omega
  have PA:=V hw4;have HL:=V hL;have c3':=HA4.out.cell 3;clear ho hk hs hL hw4 c1 c2 c3;go_wp2_with fail;refine eR (fun a' w'=>∃(v:Value) (k:Nat),a'=fr (v::gs a' 1 2 (.pointer (some ⟨w.heap.size,0,none⟩):: .slice none 0 0::gs a' 5 45 (.slice au l.length Ns:: .int .i64 l.length:: .int .i64 k::gs a' 53 37 [])))/\LK w0 L l B b w.heap.size #[.int .i64 n, .int .i64 p, .int .i64 bb, .slice au l.length Ns] 39 w w' v k) (fun a' _=>(l.length - (intOf (a'.tmps.getD 52 undef)).toNat)) ?_ ?_
  ·exact⟨v4,0,rfl,by omega,by simpa using PA.out,HA4.out,QZ.out⟩
  ·clear c3' HA4 QZ
   rintro R a' w1 ⟨v,k,Nm,hJ⟩ HR;dsimp only [fr,gs]at Nm;generalize slot a'=f at Nm;subst Nm;obtain⟨N8,hw,ha,hs⟩:=hJ;have hBw4:=hw.base hB;have c1:=ha.cell 1;have hlk:(L++((l.take k).map fun n=>ff n.toNat).flatten).length <=900001000:=by
    have g2:=oP (l.take k) (fun x hx=>RS.out x (cF hx));have g3:(l.take k).length <=50:=by rw [aP];omega
    simp only [ah];omega
   have HWK:=V hw;have HAK:=V ha;have HSK:=V hs;by_cases Nu:k < l.length
   ·obtain⟨e,he⟩:∃e,l[k]?=some e:=⟨_,aq Nu⟩
    obtain⟨a',NK,hv,_,_,Nk⟩:=HX.out.1.below hs.1;injection hv with e1 e2 e3;subst e1 e3;obtain⟨bb',off,rfl,O3,hc⟩:=Nk k e he;have c0:=hc 0 _ rfl;rw [aJ,aW]at c0;obtain⟨q1,q2⟩:=RS.out e (aN he);obtain⟨q,rfl⟩:∃q:Nat,e=q:=⟨e.toNat,by omega⟩;have HE:=V he;clear Nk e2 he hc hw ha hs;go_wp2_with fail;refine(jj v _ q (by omega) B _ HWK.out.1 (by omega) (by omega)).mono ?_;rintro x w5 ⟨v5,rfl,ho,hk,hs⟩;have S3:=V (HWK.out.step ⟨ho,hk,hs⟩);have HA5:=V (HAK.out.next ⟨ho,hk,hs⟩);have HS5:=V (HSK.out.next HWK.out.1 ⟨ho,hk,hs⟩);clear ho hk hs;go_wp2;refine HR.out _ _ ⟨v5,k+1,rfl,by omega,?_,HA5.out,HS5.out⟩ ?_
    ·have e1:L++((l.take (k+1)).map fun n=>ff n.toNat).flatten=L++((l.take k).map fun n=>ff n.toNat).flatten++ff q:=by
      rw [aR,HE.out];simp
     rw [e1];exact S3.out
    ·simp [intOf]
     omega
   ·obtain rfl:k=l.length:=by omega
    rw [aU]at hlk HWK;clear hw ha hs;go_wp2_with fail;refine(jj v _ p (by omega) B _ HWK.out.1 (by omega) (by omega)).mono ?_;rintro x w5 ⟨v5,rfl,ho,hk,hs⟩;have S3:=V (HWK.out.step ⟨ho,hk,hs⟩);clear ho hk hs;go_wp2;go_ret;refine⟨_,rfl,?_⟩;show Wr _ _ _ _ _ _;have:=S3.out;rw [<- HL.out]at this;rw [HB.out];simpa [gy,HF.out] using this
 ·clear M3
  obtain⟨k,rfl⟩:∃k:Nat,a=k:=⟨a.toNat,by omega⟩;go_wp2_with fail;refine(jj v _ k (by omega) B _ HW.out.1 (by simp only [ah,aB];omega) (by omega)).mono ?_;rintro e w4 ⟨v4,rfl,ho,hk,hs⟩;have PA:=V (HW.out.step ⟨ho,hk,hs⟩);have hBw4:=PA.out.base hB;have hl4:=(eU k).2;clear ho hk hs hBw c1 c2 c3;go_wp2_with (first | (at_builtin;refine fm w4 rfl _ _ rfl rfl B v4 _ rfl PA.out.1 0 _ (by decide) rfl (by simp only [ah,aB];omega) hBw4 ?_));intro v5 w5 ho hk hs;have S3:=V (PA.out.step ⟨ho,hk,hs⟩);clear ho hk hs;go_wp2;go_ret;exact⟨_,rfl,by show Wr _ _ _ _ _ _;rw [HB.out];simpa [gy,HF.out] using S3.out⟩
 ·clear M3
  obtain⟨k,rfl⟩:∃k:Nat,a=k:=⟨a.toNat,by omega⟩;obtain⟨m,rfl⟩:∃m:Nat,bb=m:=⟨bb.toNat,by omega⟩;go_wp2_with fail;refine eB (fun w'=>w'.cell? ⟨w.heap.size,1,none⟩=some (.int .i64 k)/\w'.cell? ⟨w.heap.size,2,none⟩=some (.int .i64 m)) (up 0 4 (up 5 3 ((4,false)::(8,false)::(9,true)::[]))) (by kernel_rfl) (by kernel_rfl) ⟨c1,c2⟩ ?_;iterate 7 (first | (apply sk rfl rfl;simp only [pt]) | (apply eo rfl rfl rfl;·(rintro w' ⟨t0,t1⟩;go_wp2;exact⟨rfl,rfl,rfl⟩)))
  refine ew rfl rfl ?_;go_wp2_with fail;refine(jj v _ k (by omega) B w3.drew HW.out.drew.1 (by simp only [ah,aB];omega) (by simpa using hBw)).mono ?_;rintro e w4 ⟨v4,rfl,ho,hk,hs⟩;have PA:=V (HW.out.drew.step ⟨ho,hk,hs⟩);have HA4:=V (HA.out.drew.next ⟨ho,hk,hs⟩);have hBw4:=PA.out.base hB;have hl4:=(eU k).2;clear ho hk hs hBw c1 c2 c3;go_wp2_with fail;refine⟨⟨HA4.out.cell 1,HA4.out.cell 2⟩,?_⟩;refine ew rfl rfl ?_;go_wp2_with fail;refine(jj v4 _ m (by omega) B w4 PA.out.1 (by simp only [ah,aB];omega) hBw4).mono ?_;rintro e w5 ⟨v5,rfl,ho,hk,hs⟩;have S3:=V (PA.out.step ⟨ho,hk,hs⟩);have HA5:=V (HA4.out.next ⟨ho,hk,hs⟩);clear ho hk hs;go_wp2_with fail;refine⟨⟨HA5.out.cell 1,HA5.out.cell 2⟩,?_⟩;iterate 1 (first | (apply sk rfl rfl;simp only [pt]) | (apply eo rfl rfl rfl;·(rintro w' ⟨t0,t1⟩;go_wp2;exact⟨rfl,rfl,rfl⟩)))
  refine eW ?_;refine aA ?_;go_wp2;go_ret;exact⟨_,rfl,by show Wr _ _ _ _ _ _;rw [HB.out];simpa [gy,HF.out] using S3.out⟩
 ·clear ra M3
  go_wp2_with (first | (at_builtin;refine fm w3 rfl _ _ rfl rfl B v _ rfl HW.out.1 0 _ (by decide) rfl (by simp only [ah,aB];omega) hBw ?_));intro v4 w4 ho hk hs;have PA:=V (HW.out.step ⟨ho,hk,hs⟩);clear ho hk hs;go_wp2;go_ret;exact⟨_,rfl,by show Wr _ _ _ _ _ _;rw [HB.out];simpa [gy,HF.out] using PA.out⟩
 ·clear M3 ra1 ra2
  obtain⟨⟨-,-⟩,⟨g1,g2⟩,-⟩:=HX.out.2;simp only at g1 g2;go_wp2_with fail;refine(nG v _ a g1 g2 B w3 HW.out.1 (by simp only [ah,aB];omega) hBw).mono ?_;rintro e w4 ⟨v4,rfl,ho,hk,hs⟩;have PA:=V (HW.out.step ⟨ho,hk,hs⟩);clear ho hk hs;go_wp2;go_ret;exact⟨_,rfl,by show Wr _ _ _ _ _ _;rw [HB.out];simpa [gy,HF.out] using PA.out⟩
 ·clear M3
  obtain⟨⟨-,-⟩,⟨g1,g2⟩,-⟩:=HX.out.2;simp only at g1 g2;go_wp2_with fail;refine(nG v _ a g1 g2 B w3 HW.out.1 (by simp only [ah,aB];omega) hBw).mono ?_;rintro e w4 ⟨v4,rfl,ho,hk,hs⟩;have PA:=V (HW.out.step ⟨ho,hk,hs⟩);clear ho hk hs;go_wp2;go_ret;exact⟨_,rfl,by show Wr _ _ _ _ _ _;rw [HB.out];simpa [gy,HF.out] using PA.out⟩
section
def Ext (w w':World):Prop:=(∀a v,w.cell? a=some v ->w'.cell? a=some v)/\w.heap.size <=w'.heap.size
theorem Ext.trans {a b c:World} (h:Ext a b) (k:Ext b c):Ext a c:=⟨fun x v e=>k.1 x v (h.1 x v e),aQ h.2 k.2⟩
theorem Ext.et {w w':World} (h:Below w.heap.size w w'):Ext w w':=⟨fun a v e=>by rw [h.cell (aO w a e)];exact e,h.size⟩
theorem iY {P:Nat ->Prop} {S S':Nat ->Bool} {w w':World} (h:ep P w w') (hP:∀k,k < w.heap.size ->P k ->S k=true) (hS:∀k,k < w.heap.size ->S' k=true ->S k=true):Ext (mask S w) (mask S' w'):=by
 refine⟨fun a v e=>?_,by rw [iz,iz];exact h.size⟩;have Nu:a.block < w.heap.size:=by
  have:=aO (mask S w) a e
  rwa [iz]at this
 have hb:S a.block=false:=by
  cases hs:S a.block with
  | false=>rfl
  | true=>
   exfalso;unfold World.cell? at e;rw [qk w hs]at e;cases hg:w.heap[a.block]? with
   | none=>rw [hg]at e;simp at e
   | some o=>rw [hg]at e;simp at e
 have NJ:S' a.block=false:=by
  cases hs:S' a.block with
  | false=>rfl
  | true=>rw [hS _ Nu hs]at hb;cases hb
 have h1:(mask S w).cell? a=w.cell? a:=aY (jA w hb);have h2:(mask S' w').cell? a=w'.cell? a:=aY (jA w' NJ);have h3:w'.cell? a=w.cell? a:=aY (h.block _ Nu (fun g=>by rw [hP _ Nu g]at hb;cases hb));rw [h1]at e;rw [h2,h3];exact e
theorem sQ {P:Nat ->Prop} {S:Nat ->Bool} {w w':World} (h:ep P w w') (hP:∀k,k < w.heap.size ->P k ->S k=true):Ext (mask S w) w':=by
 refine⟨fun a v e=>?_,by rw [iz];exact h.size⟩;have Nu:a.block < w.heap.size:=by
  have:=aO (mask S w) a e
  rwa [iz]at this
 have hb:S a.block=false:=by
  cases hs:S a.block with
  | false=>rfl
  | true=>
   exfalso;unfold World.cell? at e;rw [qk w hs]at e;cases hg:w.heap[a.block]? with
   | none=>rw [hg]at e;simp at e
   | some o=>rw [hg]at e;simp at e
 have h1:(mask S w).cell? a=w.cell? a:=aY (jA w hb);have h3:w'.cell? a=w.cell? a:=aY (h.block _ Nu (fun g=>by rw [hP _ Nu g]at hb;cases hb));rw [h1]at e;rw [h3];exact e
theorem eA.ext {α:Type} {k:Nat} {enc:α ->List Value} {w w':World} {v:Value} {l:List α} (h:eA k enc w v l) (he:Ext w w'):eA k enc w' v l:=by
 obtain⟨a,cap,hv,h1,h2,h3⟩:=h;refine⟨a,cap,hv,h1,h2,fun i x hx=>?_⟩;obtain⟨b,off,ha,Nu,hc⟩:=h3 i x hx;exact⟨b,off,ha,bp Nu he.2,fun j u hu=>he.1 _ _ (hc j u hu)⟩
theorem eZ.ext {w w':World} {v:Value} {l:List UInt8} (h:eZ w v l) (he:Ext w w'):eZ w' v l:=by
 obtain⟨a,cap,hv,h1,h2,h3⟩:=h;refine⟨a,cap,hv,h1,h2,fun i x hx=>?_⟩;obtain⟨b,off,ha,hc⟩:=h3 i x hx;exact⟨b,off,ha,he.1 _ _ hc⟩
theorem eD.ext {α β:Type} {k:Nat} {enc:α × β ->List Value} {inner:World ->α ->β ->Prop} {w w':World} {v:Value} {l:List α} (h:eD k enc inner w v l) (he:Ext w w') (hi:∀x u,inner w x u ->inner w' x u):eD k enc inner w' v l:=by
 obtain⟨us,h1,h2,h3⟩:=h;exact⟨us,h1,h2.ext he,fun i x u hx hu=>hi x u (h3 i x u hx hu)⟩
theorem gY.ext {w w':World} {x:fa} {u:Value} (h:gY w x u) (he:Ext w w'):gY w' x u:=⟨h.1.ext he,h.2⟩
theorem gN.ext {w w':World} {v:Value} {l:List fa} (h:gN w v l) (he:Ext w w'):gN w' v l:=eD.ext h he (fun _ _ h=>h.ext he)
theorem hI.ext {w w':World} {x:gC} {u:Value × Value} (h:hI w x u) (he:Ext w w'):hI w' x u:=⟨⟨h.1.1.ext he,h.1.2.ext he⟩,h.2⟩
theorem il.ext {w w':World} {x:jI} {u:Value} (h:il w x u) (he:Ext w w'):il w' x u:=⟨h.1.ext he,h.2⟩
theorem gW.ext {w w':World} {x:ij} {u:Value × Value} (h:gW w x u) (he:Ext w w'):gW w' x u:=⟨⟨h.1.1.ext he,h.1.2.ext he⟩,h.2⟩
theorem gG.ext {w w':World} {x:iq} {u:Value} (h:gG w x u) (he:Ext w w'):gG w' x u:=⟨h.1.ext he,h.2⟩
theorem eG.ext {w w':World} {u:eT} {m:eI} (h:eG w u m) (he:Ext w w'):eG w' u m:=by
 obtain⟨h1,h2,h3,h4,h5,h6,h7,h8,h9⟩:=h;exact⟨eD.ext h1 he (fun _ _ h=>h.ext he),h2.ext he,h3.ext he,h4.ext he,h5.ext he,eD.ext h6 he (fun _ _ h=>h.ext he),eD.ext h7 he (fun _ _ h=>h.ext he),eD.ext h8 he (fun _ _ h=>h.ext he),h9⟩
def kD (B:Nat):Nat ->Bool:=fun k=>decide (k < B)
def E8 (B:Nat) (v:Value):Nat ->Bool:=fun k=>decide (k < B) || decide (v.ownBlock=some k)
theorem mz {B k:Nat}:kD B k=true↔k < B:=by simp [kD]
theorem nx {B k:Nat} {v:Value}:E8 B v k=true↔k < B\/eO v k:=by simp [E8,eO]
theorem nV {P:Nat ->Prop} {B B':Nat} {w w':World} (h:ep P w w') (hP:∀k,P k ->k < B\/w.heap.size <=k) (hB:B' <=B\/w.heap.size <=B):Ext (mask (kD B) w) (mask (kD B') w'):=
 iY h (fun k hk hp=>mz.2 ((hP k hp).elim id (fun g=>by omega))) (fun k hk hp=>mz.2 (by have:=mz.1 hp;omega))
theorem Kx {B:Nat} {w w':World} (h:ep (fun k=>k < B) w w'):Ext (mask (kD B) w) w':=sQ h (fun _ _ hp=>mz.2 hp)
theorem Gn (B:Nat) (w:World):Ext (mask (kD B) w) w:=Kx (ep.refl _ _)
theorem vA {B B':Nat} (w:World) (h:B' <=B):Ext (mask (kD B) w) (mask (kD B') w):=nV (P:=fun _=>False) (ep.refl _ _) (fun _ h=>h.elim) (.inl h)
theorem jv {α:Type} {t:TypeId} {k:Nat} {enc:α ->List Value} {w:World} {B:Nat} {v:Value} {l:List α} (hk:∀x,(enc x).length=k) (h:ei t k enc w B v l):eA k enc (mask (kD B) w) v l:=
 (h.mask (S:=kD B) (fun b hb=>by simp [kD];exact hb)).fT hk
theorem yW {w:World} {B:Nat} {v:Value} {l:List UInt8} (h:eC w B v l):eZ (mask (kD B) w) v l:=
 (h.mask (S:=kD B) (fun b hb=>by simp [kD];exact hb)).gK
section
variable {α β:Type} {t:TypeId} {k:Nat} {enc:α × β ->List Value} {inner:World ->α ->β ->Prop}
def fA (t:TypeId) (k:Nat) (enc:α × β ->List Value) (inner:World ->α ->β ->Prop) (w:World) (B:Nat) (v:Value) (l:List α):Prop:=
 ∃us:List β,us.length=l.length/\ei t k enc w B v (l.zip us)/\∀(i:Nat) (x:α) (u:β),l[i]?=some x ->us[i]?=some u ->inner (mask (E8 B v) w) x u
theorem fA.nil (w:World) (B:Nat):fA t k enc inner w B (.slice none 0 0) []:=⟨[],rfl,ei.nil _ _,by simp⟩
theorem fA.lt {w:World} {B:Nat} {v:Value} {l:List α} (h:fA t k enc inner w B v l) {i:Nat} (hi:eO v i):B <=i/\i < w.heap.size:=by
 obtain⟨us,_,h,_⟩:=h;exact eM h hi
theorem fA.low (hk:∀x,(enc x).length=k) (hx:∀w w' x u,Ext w w' ->inner w x u ->inner w' x u) {w:World} {B:Nat} {v:Value} {l:List α} (h:fA t k enc inner w B v l):eD k enc inner (mask (kD B) w) v l:=by
 obtain⟨us,h1,h2,h3⟩:=h;refine⟨us,h1,jv hk h2,fun i x u a b=>hx _ _ x u (iY (P:=fun _=>False) (ep.refl _ _) (fun _ _ h=>h.elim) (fun k _ h=>?_)) (h3 i x u a b)⟩;exact nx.2 (.inl (mz.1 h))
theorem fA.keeps (hx:∀w w' x u,Ext w w' ->inner w x u ->inner w' x u) {w w':World} {B:Nat} {v:Value} {l:List α} {P:Nat ->Prop} (h:fA t k enc inner w B v l) (hk:ep P w w') (hP:∀i,P i ->i < B\/w.heap.size <=i):fA t k enc inner w' B v l:=by
 obtain⟨us,h1,h2,h3⟩:=h;refine⟨us,h1,h2.keeps hk (fun i hi hp=>?_),fun i x u a b=>hx _ _ x u (iY hk (fun k Nu hp=>?_) (fun k _ h=>h)) (h3 i x u a b)⟩
 ·have:=eM h2 hi
  rcases hP i hp with g | g <;>omega
 ·rcases hP k hp with g | g
  ·exact nx.2 (.inl g)
  ·omega
theorem fA.app (hx:∀w w' x u,Ext w w' ->inner w x u ->inner w' x u) {w1 w w':World} {B:Nat} {v v':Value} {l:List α} {us:List β} {x:α} {u:β} (h1:us.length=l.length)
  (h3:∀(i:Nat) (x:α) (u:β),l[i]?=some x ->us[i]?=some u ->inner (mask (E8 B v) w) x u) (Ou:ei t k enc w' B v' (l.zip us++[(x,u)])) (hk:ep (eO v) w w') (hs:eQ w v v')
  (hB:B <=w1.heap.size) (hv:∀i,eO v i ->i < w1.heap.size) (hu:inner (mask (kD w1.heap.size) w) x u):fA t k enc inner w' B v' (l++[x]):=by
 have hS:∀k,k < w.heap.size ->E8 B v' k=true ->E8 B v k=true:=fun k Nu h=>by
  rcases nx.1 h with g | g
  ·exact nx.2 (.inl g)
  ·rcases hs k g with g | g
   ·exact nx.2 (.inr g)
   ·omega
 refine⟨us++[u],by simp [h1],?_,fun i y z hy hz=>?_⟩
 ·rw [dq h1.symm]
  exact Ou
 ·rcases Nat.lt_trichotomy i l.length with g | g | g
  ·rw [bD g]at hy
   rw [bD (by omega)]at hz;exact hx _ _ y z (iY hk (fun k _ hp=>nx.2 (.inr hp)) hS) (h3 i y z hy hz)
  ·subst g
   rw [bo (ag _)]at hy;rw [bo (by omega)]at hz;simp [h1]at hy hz;subst hy hz;refine hx _ _ _ _ (iY hk (fun k _ hp=>mz.2 (hv k hp)) (fun k Nu hp=>mz.2 ?_)) hu;rcases nx.1 hp with g | g
   ·omega
   ·rcases hs k g with g | g
    ·exact hv k g
    ·omega
  ·rw [da (by simp;omega)]at hy
   cases hy
end
end
theorem CP {x:fa} (h:x.may) (ho:x.ok):(iH x).length <=530:=by
 obtain⟨m1,m2,m3⟩:=h;obtain⟨o1,o2,o3,o4⟩:=ho;have a:=(eU x.a.toNat).2;have b:=(eU x.b.toNat).2;have l:=(eU x.l.length).2;have s:=(uL o2.1 o2.2).2;unfold iH gy;rw [aD];split
 ·simp
 ·omega
 ·have hs:∀n∈x.l,gh n:=by
   rename_i hf;rw [hf]at m3;rcases m3 with h | h | h | h | h | h | h | h | h <;>first | (exact h.2.2.2) | (exact absurd h.1 (by decide)) | (exact absurd h (by decide))
  have h50:x.l.length <=50:=by
   rename_i hf;rw [hf]at m3;rcases m3 with h | h | h | h | h | h | h | h | h <;>first | (exact h.2.2.1) | (exact absurd h.1 (by decide)) | (exact absurd h (by decide))
  have:=oP x.l hs;simp only [ah];omega
 ·simp;omega
 ·simp only [ah];omega
 ·simp
 ·omega
 ·omega
 ·simp
theorem sW {l:List fa} (hm:∀x∈l,x.may) (ho:∀x∈l,x.ok):((l.map iH).flatten).length <=530*l.length:=by
 induction l with
 | nil=>simp
 | cons x l ih=>
  have h1:=CP (hm x (by simp)) (ho x (by simp));have h2:=ih (fun y hy=>hm y (by simp [hy])) (fun y hy=>ho y (by simp [hy]));simp only [bF,bO,ah,aD];omega
theorem gN.LX {w:World} {v:Value} {l:List fa} (h:gN w v l):∀x∈l,x.ok:=by
 intro x hx;obtain⟨i,hi⟩:=List.getElem?_of_mem hx;obtain⟨a,cap,rfl,-,-⟩:=eD.slice h;obtain⟨b,off,u,-,-,-,hu⟩:=eD.get h hi;exact hu.2
theorem oX {L:List UInt8} {x:fa} {r:List UInt8} (h:gH L=some (x,r)):∃p,L=p++r:=by
 cases L with
 | nil=>cases h
 | cons c l=>
  have hf:fU c.toNat≠0:=by
   intro hz;unfold gH at h;dsimp only at h;rw [hz]at h;cases h
  have h1:=(IR.s8 c l hf).1;rw [h]at h1;unfold IR.rest at h1;split at h1
  ·simp only [bA,aS]at h1
   exact⟨_,by rw [<- h1];exact(cE _ _).symm⟩
  ·cases h1
theorem Dw {w:World} {B:Nat} {x:fa} {u:Value} (h:gY w x u) (hf:Ec B w u):gY (mask (kD B) w) x u:=by
 obtain⟨⟨a,cap,hv,h1,h2,h3⟩,ho⟩:=h;refine⟨⟨a,cap,hv,h1,h2,fun i y hy=>?_⟩,ho⟩;obtain⟨b,off,ha,Nu,hc⟩:=h3 i y hy;subst ha;have hB:=(hf _ _ _ hv).1;refine⟨b,off,rfl,by rw [iz];exact Nu,fun j v hj=>?_⟩;have:=hc j v hj;have hb:kD B b=false:=by
  cases hs:kD B b with
  | false=>rfl
  | true=>have:=mz.1 hs;simp only at hB;omega
 rw [aY (jA w hb)];exact this
def LL (w0:World) (xs:List UInt8) (l:List fa) (B:Nat) (b:Value) (w w':World) (v:Value) (k:Nat):Prop:=
 k <=l.length/\Wr w b B w' v (xs++((l.take k).map iH).flatten)/\Src w0 w' B
theorem AL (w0:World) (b v:Value) (xs:List UInt8) (l:List fa) (B:Nat) (w:World) (Nl:eC w B b xs) (hn:xs.length <=500000000) (hB:B <=w.heap.size)
  (hl:gN w0 v l) (h0:Src w0 w B) (hlen:l.length <=300) (hm:∀x∈l,x.may):
  Calls prog 279 #[b,v] w (iw xs (nz l) B b w):=by
 obtain⟨a,cap,rfl,h1,h2⟩:=eD.slice hl;have Oj:=V hl.LX;have HL:=V hl;have HM:=V hm;have HO:=V Nl;have H0:=V h0;clear hl hm Nl h0;go_enter func279,ntmps279;go_wp2_with fail;refine eR (fun a' w'=>∃(vb:Value) (k:Nat),a'=fr (vb::gs a' 1 6 (.slice a l.length cap:: .int .i64 l.length:: .int .i64 k::gs a' 10 10 []))/\LL w0 xs l B b w w' vb k) (fun a' _=>(l.length - (intOf (a'.tmps.getD 9 undef)).toNat)) ?_ ?_
 ·exact⟨_,0,rfl,by omega,by simpa using Wr.refl HO.out,H0.out⟩
 ·skip
  rintro R a' w1 ⟨vb,k,Nm,hJ⟩ HR;dsimp only [fr,gs]at Nm;generalize slot a'=f at Nm;subst Nm;obtain⟨hk,hwr,hsr⟩:=hJ;have HW:=V hwr;have HS:=V hsr;have hB1:=hwr.base hB;clear hwr hsr;have hlen1:(((l.take k).map iH).flatten).length <=530*300:=by
   have:=sW (l:=l.take k) (fun x hx=>HM.out x (cF hx)) (fun x hx=>Oj.out x (cF hx));rw [aP]at this;have:530*min k l.length <=530*300:=dN _ (by omega);omega
  by_cases q:k < l.length;rotate_left
  ·obtain rfl:k=l.length:=by omega
   rw [aU]at hlen1;have HW:=V (show Wr w b B w1 vb (xs++(l.map iH).flatten)by have:=HW.out;rwa [aU]at this);go_wp2_with (first | (at_builtin;refine fm w1 rfl _ _ rfl rfl B vb _ rfl HW.out.1 (11:UInt8) _ rfl rfl (by simp only [ah];omega) hB1 ?_));intro v2 w2 NU Nw NC;have Ov:Hid (Wr w b B w2 v2 (xs++nz l)):=V (HW.out.step ⟨by simpa [nz] using NU,Nw,NC⟩);clear NU Nw NC;go_wp2;go_ret;exact⟨_,rfl,Ov.out⟩
  obtain⟨x,hx⟩:∃x,l[k]?=some x:=⟨_,aq q⟩;have SI:gN w1 (.slice a l.length cap) l:=HL.out.below HS.out.1;obtain⟨bb,off,u,rfl,Nu,hc,hu⟩:=eD.get SI hx;obtain⟨b0,off0,u0,QU,-,OL,hu0⟩:=eD.get HL.out hx;injection QU with QU;injection QU with e1 e2;subst e1 e2;have hlt0:bb < w0.heap.size:=by
   have:=aO w0 _ (OL 0 _ rfl);exact this
  have c0:=(HS.out.1.cell hlt0).trans (OL 0 _ rfl);have c1:=(HS.out.1.cell hlt0).trans (OL 1 _ rfl);have c2:=(HS.out.1.cell hlt0).trans (OL 2 _ rfl);have c3:=(HS.out.1.cell hlt0).trans (OL 3 _ rfl);rw [aJ]at c0;have HX:=V hx;have HU:=V hu0;have HXM:=V (HM.out x (aN hx));obtain⟨⟨au,Ns,rfl,-,-,-⟩,-⟩:=id hu0;clear hc OL hu hx hu0 SI;go_wp2_with fail;have RM:=V (HW.out.alloc (.cells #[.int .i64 x.op, .int .i64 x.a, .int .i64 x.b, .slice au x.l.length Ns] 39));have HS1:=V (HS.out.alloc (.cells #[.int .i64 x.op, .int .i64 x.a, .int .i64 x.b, .slice au x.l.length Ns] 39));refine(pd w0 _ _ x _ B _ RM.out.1 (by simp only [ah];omega) (RM.out.base hB) HU.out HS1.out HXM.out).mono ?_;rintro e w2 ⟨v2,rfl,NU,Nw,NC⟩;have Ov:=V (RM.out.step ⟨NU,Nw,NC⟩);have OF:=V (HS1.out.next RM.out.1 ⟨NU,Nw,NC⟩);clear NU Nw NC c0 c1 c2 c3;go_wp2;refine HR.out _ _ ⟨_,k+1,rfl,by omega,?_,OF.out⟩ ?_
  ·have:=Ov.out
   rw [aR,HX.out];simpa using this
  ·simp [intOf]
   omega
theorem FZ {x:ij} (hm:x.may) (ho:∀y∈x.body,y.ok):(iK x).length <=160000:=by
 have h1:=wq hm.2.1.1;have h2:=sW hm.2.2.2 ho;have h3:530*x.body.length <=530*300:=dN _ hm.2.2.1;have h4:=(eU (mM x).length).2;simp only [iK,mM,nz,ah,aB]at*;omega
theorem qF (x:gl):(oneOf x).length <=1:=by
 unfold oneOf;split <;>simp
structure eI.Fits (m:eI):Prop where
 v1:(ix ld m.types).length <=2000
 v2:(ix od m.imports).length <=2000
 v3:(ix tk m.funcs).length <=2000
 v4:(ix jy (oneOf m.table)).length <=2000
 v5:(ix gR (oneOf m.mem)).length <=2000
 v6:(ix kS m.globals).length <=2000
 v7:(ix oz m.ey).length <=2000
 v9:(ix ll m.elems).length <=10000
 v10:(ix iK m.eF).length <=3000000
 v11:(ix oy m.eP).length <=20000
 s1:(gA (b8 1) ld m.types).length <=2100
 s2:(gA (b8 2) od m.imports).length <=2100
 s3:(gA (b8 3) tk m.funcs).length <=2100
 s4:(gA (b8 4) jy (oneOf m.table)).length <=2100
 s5:(gA (b8 5) gR (oneOf m.mem)).length <=2100
 s6:(gA (b8 6) kS m.globals).length <=2100
 s7:(gA (b8 7) oz m.ey).length <=2100
 s9:(gA (b8 9) ll m.elems).length <=11000
 Jf:(gA (b8 10) iK m.eF).length <=3010000
 Je:(gA (b8 11) oy m.eP).length <=21000
theorem eI.xw.fits {m:eI} (h:m.xw) (hg:∀x∈m.globals,x.init.ok) (ho:∀x∈m.eF,∀y∈x.body,y.ok):m.Fits:=by
 obtain⟨⟨_,n10,Sl⟩,⟨⟨⟨n1,h1⟩,⟨n2,h2⟩,n3,h3⟩,⟨n6,h6⟩,⟨n7,h7⟩,⟨n9,h9⟩,n11,h11⟩,h4,h5⟩:=h;have n3:m.funcs.length <=16:=by omega
 have t1:=fun x hx=>IJ (h1 x hx);have t2:=fun x hx=>JM (h2 x hx);have t6:=fun x hx=>IV (hg x hx);have t7:=fun x hx=>JB (h7 x hx);have t9:=fun x hx=>GC (h9 x hx);have t10:=fun x hx=>FZ (Sl x hx) (ho x hx);have t11:=fun x hx=>Ki (h11 x hx);have a1:=jK ld 100 16 m.types t1 n1;have a2:=jK od 100 16 m.imports t2 n2;have a3:=jK tk 10 16 m.funcs (fun x _=>sN x) n3;have a4:=jK jy 31 1 (oneOf m.table) (fun x _=>yj x) (qF _);have a5:=jK gR 30 1 (oneOf m.mem) (fun x _=>rQ x) (qF _);have a6:=jK kS 14 16 m.globals t6 n6;have a7:=jK oz 100 16 m.ey t7 n7;have a9:=jK ll 600 16 m.elems t9 n9;have a10:=jK iK 160000 16 m.eF t10 n10;have a11:=jK oy 1100 16 m.eP t11 n11;have b1:=n8 (b8 1) ld 100 16 m.types t1 n1;have b2:=n8 (b8 2) od 100 16 m.imports t2 n2;have b3:=n8 (b8 3) tk 10 16 m.funcs (fun x _=>sN x) n3;have b4:=n8 (b8 4) jy 31 1 (oneOf m.table) (fun x _=>yj x) (qF _);have b5:=n8 (b8 5) gR 30 1 (oneOf m.mem) (fun x _=>rQ x) (qF _);have b6:=n8 (b8 6) kS 14 16 m.globals t6 n6;have b7:=n8 (b8 7) oz 100 16 m.ey t7 n7;have b9:=n8 (b8 9) ll 600 16 m.elems t9 n9;have b10:=n8 (b8 10) iK 160000 16 m.eF t10 n10;have b11:=n8 (b8 11) oy 1100 16 m.eP t11 n11
 constructor <;>omega
theorem Da (m:eI):fL m=((((((((((fN++gA (b8 1) ld m.types)++gA (b8 2) od m.imports)++gA (b8 3) tk m.funcs)++gA (b8 4) jy (oneOf m.table))++gA (b8 5) gR (oneOf m.mem))++gA (b8 6) kS m.globals)++gA (b8 7) oz m.ey)++gA (b8 9) ll m.elems)++gA (b8 10) iK m.eF)++gA (b8 11) oy m.eP):=by
 have e1:b8 1=1:=rfl;have e2:b8 2=2:=rfl;have e3:b8 3=3:=rfl;have e4:b8 4=4:=rfl;have e5:b8 5=5:=rfl;have e6:b8 6=6:=rfl;have e7:b8 7=7:=rfl;have e9:b8 9=9:=rfl;have e10:b8 10=10:=rfl;have e11:b8 11=11:=rfl;rw [e1,e2,e3,e4,e5,e6,e7,e9,e10,e11];simp only [fL,qf,aL]
theorem nZ (l:List UInt8) (w:World):(Builtin.firstCells 1 l.length (.string (bs l))).run prog w= .ok (l.map bv).toArray w:=by
 have h:((bs l).extract 0 l.length).data.map (fun b:UInt8=>Value.int IntKind.u8 (b.toNat:Int))=(l.map bv).toArray:=by
  have e:(bs l).extract 0 l.length=bs l:=by
   apply ByteArray.ext;simp [bs]
  rw [e];simp [bs]
 simp only [Builtin.firstCells,bX,h]
theorem zQ (w:World) (B:Nat) (ty:TypeId) (v:Value) (l m:List UInt8) (Nl:eC w B v l) (QK:l.length+m.length <=140737488355327) (NN:B <=w.heap.size):
  ∃v' w',(Builtin.append_ #[104,9] ty #[v, .string (bs m)]).run prog w= .ok v' w'/\eC w' B v' (l++m)/\ep (eO v) w w'/\eQ w v v':=by
 obtain⟨i0,hi,Po,Oi,O1⟩:=bS pn;have ht:prog.underlying 104=some (.slice 5):=by kernel_rfl
 have hu:prog.underlying 9=some .string:=by kernel_rfl
 have hs:(bs m).size=m.length:=DK m;have grown:∀(old:Nat),old < l.length+m.length ->
   eC (w.drew.alloc (.cells ((l.map bv).toArray++(m.map bv).toArray++Builtin.zeroCells #[.int .u8 0] (grownCap w (l.length+m.length) old 5 - (l.length+m.length))) 5)) B
    (.slice (some ⟨w.heap.size,0,none⟩) (l.length+m.length) (grownCap w (l.length+m.length) old 5)) (l++m)/\
   ep (eO v) w (w.drew.alloc (.cells ((l.map bv).toArray++(m.map bv).toArray++Builtin.zeroCells #[.int .u8 0] (grownCap w (l.length+m.length) old 5 - (l.length+m.length))) 5))/\
   eQ w v (.slice (some ⟨w.heap.size,0,none⟩) (l.length+m.length) (grownCap w (l.length+m.length) old 5)):=by
  intro old ho;have hge:=grownCap_ge w (l.length+m.length) old 5;have OS:grownCap w (l.length+m.length) old 5 <=maxLen:=dT w (l.length+m.length) old 5 (by simp only [maxLen];omega);refine⟨⟨by simp, .inr ⟨w.heap.size,_,_,?_,NN,dz w.drew _,?_,OS,?_,?_⟩⟩,(ep.refl _ _).drew.alloc _,fun k hk=> .inr ?_⟩
  ·rw [ah]
  ·rw [ah];exact hge
  ·simp [size_zeroCells]
   omega
  ·simp only [Array.toList_append,aL]
   rw [<- aL,ct,aW,show(l++m).length=(l.map bv++m.map bv).length from by simp];exact cN
  ·simp [eO,Value.ownBlock]at hk
   omega
 rcases Nl.2 with⟨rfl,h0⟩ | ⟨g,cap,cur,rfl,hbg,hg,hnc,OS,Ro,Ts⟩
 ·obtain rfl:l=[]:=aI h0
  by_cases hm:m.length=0
  ·obtain rfl:m=[]:=aI hm
   refine⟨.slice none 0 0,w,?_,eC.nil _ _,ep.refl _ _,eQ.refl _ _⟩;have hf:=nZ [] w;simp only [aH]at hf;simp [Builtin.append_,aZ ht,aZ hu,sizeOf,typeInfo,hi,Oi,Builtin.lenOf,hs,hf]
  ·have hr:=run_append_nil_string (P:=prog) w 104 9 ty 5 i0 (.int .u8 0) ht hu hi Po (bs m) (by omega) (by omega) (by rw [O1];omega)
   have RD:=grown 0 (by simp;omega);have e1:(bs m).data.map (fun b:UInt8=>Value.int IntKind.u8 (b.toNat:Int))=(m.map bv).toArray:=by simp [bs]
   rw [hs,e1]at hr;simp only [aH,bT,cL,bY,Array.empty_append]at RD;exact⟨_,_,hr,RD.1,RD.2.1,RD.2.2⟩
 ·simp only [aW]at Ro Ts
  by_cases QR:l.length+m.length <=cap
  ·have hf:=nZ m w
   have NH:=run_storeCells_at prog g l.length 5 (m.map bv) 0 cur w hg (by simp;omega) (CH m);simp only [aJ]at NH;refine⟨.slice (some ⟨g,0,none⟩) (l.length+m.length) cap,w.setRow g (cur.toList.take l.length++m.map bv++cur.toList.drop (l.length+(m.map bv).length)).toArray,?_,⟨by simp, .inr ⟨g,cap,_,by rw [ah],hbg,setRow_heap w g cur _ _ _ hg,by rw [ah];exact QR,OS,?_,?_⟩⟩,⟨rfl,rfl,rfl,by simp,fun k _ hk=>setRow_other w g k _ (fun e=>hk (by simp [eO,Value.ownBlock,e]))⟩,fun k hk=> .inl hk⟩
   ·simp [Builtin.append_,aZ ht,aZ hu,sizeOf,typeInfo,hi,Oi,Builtin.lenOf,hs,QR,hf,Addr.add_lit,NH]
   ·simp only [dF,ah,aP,bu,Array.length_toList,bJ]
    omega
   ·rw [Ts,ct,aW,show(l++m).length=(l.map bv++m.map bv).length from by simp]
    exact cN
  ·have holds:∀j u,(l.map bv)[j]?=some u ->w.cell? ((⟨g,0,none⟩:Addr).add j)=some u:=Nl.cells (g:=g) rfl
   have hn:¬ (l.length+m.length <=cap):=QR;have h63':¬ (9223372036854775807 < ((l.length:Int)+(m.length:Int))):=by omega
   have h48':¬ (281474976710656 < Builtin.nextslicecap (l.length+m.length) cap*i0.bytes):=by
    have:=growslice_fits (need:=l.length+m.length) (old:=cap) (bytes:=1) (by omega) (by omega);rw [O1];omega
   have hf:=nZ m w.drew;have hfo:=run_firstCells_some (P:=prog) w.drew 1 l.length ⟨g,0,none⟩ l.length cap (l.map bv) (by simp) (by simpa using holds);have RD:=grown cap (by omega);refine⟨_,_,?_,RD.1,RD.2.1,RD.2.2⟩;rw [O1,aW]at h48';simp [Builtin.append_,aZ ht,aZ hu,sizeOf,typeInfo,zeroValue,hi,Po,Oi,O1,Builtin.lenOf,hs,hn,h63',h48',Question.forced,hf,hfo,newRow,grownCap]
   congr 2
   apply Array.ext';simp [aL];rfl
theorem Dm {P:Program} (w:World) {ops:Array Oper} {rest:List Oper} {o:Oper} {a:Act} {Q:Exit ->Act ->World ->Prop} (P0:o.guard=none) (s x:Operand)
  (hP:P=prog) (ho:o.op= .call {callee:= .builtin .append,args:=#[s,x],argTypes:=#[104,9]})
  (B:Nat) (v:Value) (l m:List UInt8) (hs:a.eval s=v) (Nl:eC w B v l) (hx:a.eval x= .string (bs m))
  (QK:l.length+m.length <=140737488355327) (NN:B <=w.heap.size)
  (h:∀v' w',eC w' B v' (l++m) ->ep (eO v) w w' ->eQ w v v' ->wpList P ops Q rest (a.put o.dst v') w'):wpList P ops Q (o::rest) a w:=by
 subst hP;refine dU P0 fun _ hK=>?_;obtain⟨v',w',hr,h2,h3,h4⟩:=zQ w B o.type v l m Nl QK NN;unfold Oper.wp execOp;simp only [ho,resolve,invoke,builtin,cK,bX,cB,dA,bF,cL,hs,hx,hr];exact hK _ _ (h v' w' h2 h3 h4)
theorem jC (b:Value) (xs:List UInt8) (u:Nat) (h1:u <=9223372036854775807) (B:Nat) (w:World) (Nl:eC w B b xs) (hn:xs.length <=1000000000) (hB:B <=w.heap.size):
  Calls prog 171 #[b, .int .i64 u] w (iw xs (ff u) B b w):=by
 go_enter func171,ntmps171;go_wp2_with fail;refine(jj b xs u (by omega) B w Nl hn hB).mono ?_;rintro x w2 ⟨v,rfl,h2,h3,h4⟩;go_wp2;go_ret;exact⟨v,rfl,h2,h3,h4⟩
theorem nS (b:Value) (xs:List UInt8) (k:Int) (B:Nat) (w:World) (Nl:eC w B b xs) (hn:xs.length <=900000000) (hB:B <=w.heap.size):
  Calls prog 168 #[b, .int .i64 k] w (iw xs (jo k) B b w):=by
 have HW:=V (Wr.refl Nl);by_cases q:k=1
 ·have f1:=eV q
  have HB:Hid (jo k=[127]):=V (by simp [jo,q]);clear q Nl;go_enter func168,ntmps168;go_wp2_with (first | (at_builtin;refine fm w rfl _ _ rfl rfl B b _ rfl HW.out.1 (127:UInt8) _ rfl rfl (by first | omega | (simp only [ah];omega) | (simp only [ah,aB];omega) | (simp only [ah,aD,aH];omega)) (HW.out.base hB) ?_));intro v2 w2 ho hk hs;have Ov:=V (HW.out.step ⟨ho,hk,hs⟩);clear ho hk hs;go_wp2;go_ret;exact⟨_,rfl,by rw [HB.out];exact Ov.out⟩
 ·have f1:=eh q
  have HB:Hid (jo k=[126]):=V (by simp [jo,q]);clear q Nl;go_enter func168,ntmps168;go_wp2_with (first | (at_builtin;refine fm w rfl _ _ rfl rfl B b _ rfl HW.out.1 (126:UInt8) _ rfl rfl (by first | omega | (simp only [ah];omega) | (simp only [ah,aB];omega) | (simp only [ah,aD,aH];omega)) (HW.out.base hB) ?_));intro v2 w2 ho hk hs;have Ov:=V (HW.out.step ⟨ho,hk,hs⟩);clear ho hk hs;go_wp2;go_ret;exact⟨_,rfl,by rw [HB.out];exact Ov.out⟩
theorem ny (b:Value) (xs:List UInt8) (s:ByteArray) (B:Nat) (w:World) (Nl:eC w B b xs) (hn:xs.length <=900000000) (hs:s.data.toList.length <=1000000) (hB:B <=w.heap.size):
  Calls prog 172 #[b, .string s] w (iw xs (pF s) B b w):=by
 have HW:=V (Wr.refl Nl);obtain⟨n,hn2⟩:∃n,s.data.toList.length=n:=⟨_,rfl⟩;have HN:=V hn2;have hp:=(eU n).2;rw [hn2]at hs;have Oc:s.size=n:=hn2;have HB:Hid (pF s=ff n++s.data.toList):=V (by rw [pF,hn2]);clear Nl hn2;go_enter func172,ntmps172;go_wp2_with fail;refine(jC b _ n (by omega) B _ HW.out.1 (by first | omega | (simp only [ah];omega) | (simp only [ah,aB];omega) | (simp only [ah,aD,aH];omega)) (HW.out.base hB)).mono ?_;rintro e w2 ⟨v2,rfl,ho,hk,hs⟩;have Ov:=V (HW.out.step ⟨ho,hk,hs⟩);clear ho hk hs;go_wp2_with (first | (at_builtin;refine Dm w2 rfl _ _ rfl rfl B v2 _ s.data.toList rfl Ov.out.1 rfl (by rw [HN.out];simp only [ah];omega) (Ov.out.base hB) ?_));intro v3 w3 ho hk hs;have R9:=V (Ov.out.step ⟨ho,hk,hs⟩);clear ho hk hs;go_wp2;go_ret;exact⟨_,rfl,by rw [HB.out];exact R9.out⟩
theorem FT (w:World) (op n:Int) (h1:iV op) (h2:iV n):gY w ⟨op,n,0,[]⟩ (.slice none 0 0):=⟨eA.nil w,h1,h2,zJ,by simp⟩
theorem MV:iV 65:=⟨by decide,by decide⟩
theorem MI:iV 66:=⟨by decide,by decide⟩
def tq (w:World):World:={w with heap:=#[]}
theorem wS (w:World) (B:Nat):Src (tq w) w B:=⟨⟨rfl,rfl,rfl,by simp [tq],fun k hk=>by simp [tq]at hk⟩,by simp [tq]⟩
theorem pa (b:Value) (xs:List UInt8) (v:fi) (B:Nat) (w:World) (Nl:eC w B b xs) (hn:xs.length <=800000000) (hB:B <=w.heap.size) (hm:v.may) (ho:v.ok):
  Calls prog 180 #[b, .agg #[.int .i64 v.kind, .int .i64 v.n]] w (iw xs (mI v) B b w):=by
 obtain⟨k,n⟩:=v;have hl:=tp ho;have HW:=V ((Wr.refl Nl).alloc (.cells #[.int .i64 k, .int .i64 n] 52));have c0:(w.alloc (.cells #[.int .i64 k, .int .i64 n] 52)).cell? ⟨w.heap.size,0,none⟩=some (.int .i64 k):=(eS.new w _ _).cell 0;have c1:(w.alloc (.cells #[.int .i64 k, .int .i64 n] 52)).cell? ⟨w.heap.size,1,none⟩=some (.int .i64 n):=(eS.new w _ _).cell 1;have HO:=V ho;have HM:=V hm;clear Nl ho hm;by_cases q:k=2
 ·skip
  have f1:=eV q;have HB:Hid (mI ⟨k,n⟩=iH ⟨66,n,0,[]⟩++[11]):=V (by simp [mI,q]);rw [HB.out]at hl;simp only [ah,aB]at hl;clear q;go_enter func180,ntmps180;go_wp2_with fail;refine(pd (tq w) b xs ⟨66,n,0,[]⟩ (.slice none 0 0) B _ HW.out.1 (by omega) (HW.out.base hB) (FT _ _ _ MI HO.out.2) ((wS w B).alloc _) (KT n)).mono ?_;rintro e w2 ⟨v2,rfl,ho,hk,hs⟩;have Ov:=V (HW.out.step ⟨ho,hk,hs⟩);clear ho hk hs;go_wp2_with (first | (at_builtin;refine fm w2 rfl _ _ rfl rfl B v2 _ rfl Ov.out.1 (11:UInt8) _ rfl rfl (by first | omega | (simp only [ah];omega) | (simp only [ah,aB];omega) | (simp only [ah,aD,aH];omega)) (Ov.out.base hB) ?_));intro v3 w3 ho hk hs;have R9:=V (Ov.out.step ⟨ho,hk,hs⟩);clear ho hk hs;go_wp2;go_ret;exact⟨_,rfl,by rw [HB.out];exact R9.out⟩
 ·have hM:fa.may ⟨65,n,0,[]⟩:=by
   rcases HM.out with h | ⟨_,h1,h2⟩
   ·exact absurd h q
   ·exact I6 h1 h2
  have N1:=V hM;clear hM;have f1:=eh q;have HB:Hid (mI ⟨k,n⟩=iH ⟨65,n,0,[]⟩++[11]):=V (by simp [mI,q]);rw [HB.out]at hl;simp only [ah,aB]at hl;clear q;go_enter func180,ntmps180;go_wp2_with fail;refine(pd (tq w) b xs ⟨65,n,0,[]⟩ (.slice none 0 0) B _ HW.out.1 (by omega) (HW.out.base hB) (FT _ _ _ MV HO.out.2) ((wS w B).alloc _) N1.out).mono ?_;rintro e w2 ⟨v2,rfl,ho,hk,hs⟩;have Ov:=V (HW.out.step ⟨ho,hk,hs⟩);clear ho hk hs;go_wp2_with (first | (at_builtin;refine fm w2 rfl _ _ rfl rfl B v2 _ rfl Ov.out.1 (11:UInt8) _ rfl rfl (by first | omega | (simp only [ah];omega) | (simp only [ah,aB];omega) | (simp only [ah,aD,aH];omega)) (Ov.out.base hB) ?_));intro v3 w3 ho hk hs;have R9:=V (Ov.out.step ⟨ho,hk,hs⟩);clear ho hk hs;go_wp2;go_ret;exact⟨_,rfl,by rw [HB.out];exact R9.out⟩
theorem yD (b:Value) (xs:List UInt8) (n:Int) (B:Nat) (w:World) (Nl:eC w B b xs) (hn:xs.length <=700000000) (hB:B <=w.heap.size) (hm:mN n):
  Calls prog 185 #[b, .int .i64 n] w (iw xs (nY n) B b w):=by
 have HW:=V (Wr.refl Nl);have HM:=V hm;obtain⟨m1,m2⟩:=id hm;clear Nl hm;go_enter func185,ntmps185;go_wp2_with (first | (at_builtin;refine fm w rfl _ _ rfl rfl B b _ rfl HW.out.1 (0:UInt8) _ rfl rfl (by first | omega | (simp only [ah];omega) | (simp only [ah,aB];omega) | (simp only [ah,aD,aH];omega)) (HW.out.base hB) ?_));intro v2 w2 ho hk hs;have Ov:=V (HW.out.step ⟨ho,hk,hs⟩);clear ho hk hs;go_wp2_with fail;refine(pa v2 _ ⟨1,n⟩ B w2 Ov.out.1 (by simp only [ah,aB];omega) (Ov.out.base hB) (.inr ⟨rfl,m1,m2⟩) ⟨⟨by show(-9223372036854775808:Int) <=1;decide,by show(1:Int) <=9223372036854775807;decide⟩,by show(-9223372036854775808:Int) <=n;omega,by show n <=(9223372036854775807:Int);omega⟩).mono ?_;rintro e w3 ⟨v3,rfl,ho,hk,hs⟩;have R9:=V (Ov.out.step ⟨ho,hk,hs⟩);clear ho hk hs;go_wp2;go_ret;exact⟨_,rfl,by rw [nY,List.append_cons];exact R9.out⟩
theorem qU (b:Value) (xs:List UInt8) (x:gl) (B:Nat) (w:World) (Nl:eC w B b xs) (hn:xs.length <=700000000) (hB:B <=w.heap.size) (h0:0 <=x.min) (hm: -1 <=x.max) (ho:x.ok):
  Calls prog 177 #[b, .agg #[.bool x.has, .int .i64 x.min, .int .i64 x.max]] w (iw xs (gR x) B b w):=by
 obtain⟨o1,o2⟩:=ho;obtain⟨has,mn,mx⟩:=x;simp only at h0 hm o1 o2;unfold iV at o1 o2;obtain⟨n,rfl⟩:∃n:Nat,mn=n:=⟨mn.toNat,by omega⟩;have hp:=(eU n).2;by_cases q:mx < 0
 ·have f1:decide (mx < 0)=true:=ay q
  have HB:Hid (gR ⟨has,n,mx⟩=0::ff n):=V (by simp only [gR];rw [aE q];rfl);clear q;have HW:=V ((Wr.refl Nl).alloc (.cells #[.bool has, .int .i64 n, .int .i64 mx] 28));have HA:=V (Aside.new Nl #[.bool has, .int .i64 n, .int .i64 mx] 28);clear Nl;have c2:(w.alloc (.cells #[.bool has, .int .i64 n, .int .i64 mx] 28)).cell? ⟨w.heap.size,2,none⟩=some (.int .i64 mx):=HA.out.cell 2;go_enter func177,ntmps177;go_wp2_with fail;refine eB (fun w'=>w'.cell? ⟨w.heap.size,1,none⟩=some (.int .i64 n)) [(0,true),(3,true),(4,true),(1,false),(2,false),(5,false),(6,true)] (by kernel_rfl) (by kernel_rfl) (HA.out.cell 1) ?_;clear c2;have HW:=V HW.out.drew;have HA:=V HA.out.drew;obtain⟨X,hX⟩:∃X,X=w.heap.size:=⟨_,rfl⟩;rw [<- hX]at HA⊢;clear hX;generalize(w.alloc (.cells #[.bool has, .int .i64 n, .int .i64 mx] 28)).drew=wa at HW HA⊢;iterate 3 (first | (apply sk rfl rfl;simp only [pt]) | (apply eo rfl rfl rfl;·(rintro w' t1;go_wp2;exact⟨rfl,rfl,rfl⟩)))
  refine ew rfl rfl ?_;go_wp2_with fail;refine⟨(HA.out.alloc _).cell 1,?_⟩;refine ew rfl rfl ?_;go_wp2_with (first | (at_builtin;refine fm wa rfl _ _ rfl rfl B b _ rfl HW.out.1 (0:UInt8) _ rfl rfl (by first | omega | (simp only [ah];omega) | (simp only [ah,aB];omega) | (simp only [ah,aD,aH];omega)) (HW.out.base hB) ?_));intro v1 w1 ho hk hs;have HA:=V (HA.out.next ⟨ho,hk,hs⟩);have HW:=V (HW.out.step ⟨ho,hk,hs⟩);clear ho hk hs;go_wp2_with fail;refine⟨HA.out.cell 1,?_⟩;refine ew rfl rfl ?_;go_wp2_with fail;refine(jC v1 _ n (by omega) B w1 HW.out.1 (by simp only [ah,aD,aH];omega) (HW.out.base hB)).mono ?_;rintro e w2 ⟨v2,rfl,ho,hk,hs⟩;have HA:=V (HA.out.next ⟨ho,hk,hs⟩);have HW:=V (HW.out.step ⟨ho,hk,hs⟩);clear ho hk hs;go_wp2_with fail;refine⟨HA.out.cell 1,?_⟩;iterate 1 (first | (apply sk rfl rfl;simp only [pt]) | (apply eo rfl rfl rfl;·(rintro w' t1;go_wp2;exact⟨rfl,rfl,rfl⟩)))
  refine eW ?_;refine aA ?_;go_wp2;go_ret;exact⟨_,rfl,by rw [HB.out];have h:=HW.out;simp only [aL,bH,bY]at h;exact h⟩
 ·have f1:decide (mx < 0)=false:=aw q
  obtain⟨m,rfl⟩:∃m:Nat,mx=m:=⟨mx.toNat,by omega⟩;have Sn:=(eU m).2;have HB:Hid (gR ⟨has,n,m⟩=1::(ff n++ff m)):=V (by simp only [gR];rw [az q];rfl);clear q;have HW:=V ((Wr.refl Nl).alloc (.cells #[.bool has, .int .i64 n, .int .i64 m] 28));have HA:=V (Aside.new Nl #[.bool has, .int .i64 n, .int .i64 m] 28);clear Nl;have c2:(w.alloc (.cells #[.bool has, .int .i64 n, .int .i64 m] 28)).cell? ⟨w.heap.size,2,none⟩=some (.int .i64 m):=HA.out.cell 2;go_enter func177,ntmps177;go_wp2_with fail;refine eB (fun w'=>w'.cell? ⟨w.heap.size,1,none⟩=some (.int .i64 n)/\w'.cell? ⟨w.heap.size,2,none⟩=some (.int .i64 m)) [(0,true),(3,true),(4,true),(6,true),(7,true),(1,false),(2,false),(5,false),(8,false),(9,true)] (by kernel_rfl) (by kernel_rfl) ⟨HA.out.cell 1,HA.out.cell 2⟩ ?_;clear c2;have HW:=V HW.out.drew;have HA:=V HA.out.drew;obtain⟨X,hX⟩:∃X,X=w.heap.size:=⟨_,rfl⟩;rw [<- hX]at HA⊢;clear hX;generalize(w.alloc (.cells #[.bool has, .int .i64 n, .int .i64 m] 28)).drew=wa at HW HA⊢;iterate 5 (first | (apply sk rfl rfl;simp only [pt]) | (apply eo rfl rfl rfl;·(rintro w' ⟨t1,t2⟩;go_wp2;exact⟨rfl,rfl,rfl⟩)))
  refine ew rfl rfl ?_;go_wp2_with fail;refine⟨⟨(HA.out.alloc _).cell 1,(HA.out.alloc _).cell 2⟩,?_⟩;refine ew rfl rfl ?_;go_wp2_with (first | (at_builtin;refine fm wa rfl _ _ rfl rfl B b _ rfl HW.out.1 (1:UInt8) _ rfl rfl (by first | omega | (simp only [ah];omega) | (simp only [ah,aB];omega) | (simp only [ah,aD,aH];omega)) (HW.out.base hB) ?_));intro v1 w1 ho hk hs;have HA:=V (HA.out.next ⟨ho,hk,hs⟩);have HW:=V (HW.out.step ⟨ho,hk,hs⟩);clear ho hk hs;go_wp2_with fail;refine⟨⟨HA.out.cell 1,HA.out.cell 2⟩,?_⟩;refine ew rfl rfl ?_;go_wp2_with fail;refine(jC v1 _ n (by omega) B w1 HW.out.1 (by simp only [ah,aD,aH];omega) (HW.out.base hB)).mono ?_;rintro e w2 ⟨v2,rfl,ho,hk,hs⟩;have HA:=V (HA.out.next ⟨ho,hk,hs⟩);have HW:=V (HW.out.step ⟨ho,hk,hs⟩);clear ho hk hs;go_wp2_with fail;refine⟨⟨HA.out.cell 1,HA.out.cell 2⟩,?_⟩;refine ew rfl rfl ?_;go_wp2_with fail;refine(jC v2 _ m (by omega) B w2 HW.out.1 (by simp only [ah,aD,aH];omega) (HW.out.base hB)).mono ?_;rintro e w3 ⟨v3,rfl,ho,hk,hs⟩;have HA:=V (HA.out.next ⟨ho,hk,hs⟩);have HW:=V (HW.out.step ⟨ho,hk,hs⟩);clear ho hk hs;go_wp2_with fail;refine⟨⟨HA.out.cell 1,HA.out.cell 2⟩,?_⟩;iterate 1 (first | (apply sk rfl rfl;simp only [pt]) | (apply eo rfl rfl rfl;·(rintro w' ⟨t1,t2⟩;go_wp2;exact⟨rfl,rfl,rfl⟩)))
  refine eW ?_;refine aA ?_;go_wp2;go_ret;exact⟨_,rfl,by rw [HB.out];have h:=HW.out;simp only [aL,bH,bY]at h;exact h⟩
theorem D0 (x:gl) (w:World):Calls prog 175 #[.agg #[.bool x.has, .int .i64 x.min, .int .i64 x.max]] w (fun e w'=>∃v,e= .returned v/\eA 3 (fun x:gl=>[.bool x.has, .int .i64 x.min, .int .i64 x.max]) w' v (oneOf x)/\Below w.heap.size w w'):=by
 obtain⟨has,mn,mx⟩:=x;cases has with
 | false=>
  go_enter func175,ntmps175;go_wp2;go_ret;exact⟨_,rfl,eA.nil _,(an _ _).alloc (ag _) _⟩
 | true=>
  go_enter func175,ntmps175;go_wp2;go_ret;have hx:eS (((w.alloc (.cells #[.bool true, .int .i64 mn, .int .i64 mx] 28)).alloc (.cells #[.bool true, .int .i64 mn, .int .i64 mx] 28))) (w.heap.size+1) #[.bool true, .int .i64 mn, .int .i64 mx] 28:=by have:=eS.new (w.alloc (.cells #[.bool true, .int .i64 mn, .int .i64 mx] 28)) #[.bool true, .int .i64 mn, .int .i64 mx] 28;rw [aC]at this;exact this
  refine⟨_,rfl,⟨some ⟨w.heap.size+1,0,none⟩,1,rfl,ag _,by simp [maxLen],fun i x hi=>⟨w.heap.size+1,0,rfl,hx.lt,fun j u hu=>?_⟩⟩,((an _ _).alloc (ag _) _).alloc (by rw [aC];omega) _⟩;obtain rfl:i=0:=by
   have:=(aG.1 hi).1;simp [oneOf]at this;omega
  simp only [oneOf,cT,aK,aS]at hi;subst hi;rw [dX,bT];have:=hx.cell j;rw [this];simpa using hu
def Row (w:World) (B:Nat) (b:Value) (xs:List UInt8):Prop:=
 eC w B b xs\/∃g,b= .slice (some ⟨g,0,none⟩) xs.length xs.length/\eZ w b xs/\B <=g/\g < w.heap.size
theorem Row.lt {w:World} {B:Nat} {b:Value} {xs:List UInt8} (h:Row w B b xs) {i:Nat} (hi:eO b i):B <=i/\i < w.heap.size:=by
 rcases h with h | ⟨g,rfl,_,h1,h2⟩
 ·exact eM h hi
 ·simp [eO,Value.ownBlock]at hi
  subst hi;exact⟨h1,h2⟩
theorem Row.below {w w':World} {B:Nat} {b:Value} {xs:List UInt8} (h:Row w B b xs) (hb:Below w.heap.size w w'):Row w' B b xs:=by
 rcases h with h | ⟨g,rfl,h0,h1,h2⟩
 ·exact .inl (eC.below h hb)
 ·exact .inr ⟨g,rfl,h0.below hb,h1,by have:=hb.size;omega⟩
theorem Row.gK {w:World} {B:Nat} {b:Value} {xs:List UInt8} (h:Row w B b xs):eZ w b xs:=by
 rcases h with h | ⟨g,_,h0,_⟩
 ·exact eC.gK h
 ·exact h0
def zo (w:World) (b:Value) (B:Nat) (w':World) (v:Value) (L:List UInt8):Prop:=Row w' B v L/\ep (eO b) w w'/\eQ w b v
theorem zo.refl {w:World} {b:Value} {B:Nat} {L:List UInt8} (h:Row w B b L):zo w b B w b L:=⟨h,ep.refl _ _,eQ.refl _ _⟩
theorem zo.below {w w1 w2:World} {b v:Value} {B:Nat} {L:List UInt8} (h:zo w b B w1 v L) (hb:Below w1.heap.size w1 w2):zo w b B w2 v L:=
 ⟨h.1.below hb,h.2.1.trans (ep.et (S:=fun _=>False) hb) (fun _ hi=>hi.elim),h.2.2⟩
theorem zo.base {w w1:World} {b v:Value} {B:Nat} {L:List UInt8} (h:zo w b B w1 v L) (hB:B <=w.heap.size):B <=w1.heap.size:=aQ hB h.2.1.size
theorem zo.own {w w1 w2:World} {b v1 v2:Value} {B:Nat} {L1 L2:List UInt8} (h:zo w b B w1 v1 L1) (k:eC w2 B v2 L2/\ep (eO v1) w1 w2/\eQ w1 v1 v2):Wr w b B w2 v2 L2:=
 ⟨k.1,h.2.1.trans k.2.1 (fun i hi=>h.2.2 i hi),h.2.2.trans k.2.2 h.2.1.size⟩
theorem zo.step {w w1 w2:World} {b v1 v2:Value} {B:Nat} {L1 L2:List UInt8} (h:zo w b B w1 v1 L1) (k:zo w1 v1 B w2 v2 L2):zo w b B w2 v2 L2:=
 ⟨k.1,h.2.1.trans k.2.1 (fun i hi=>h.2.2 i hi),h.2.2.trans k.2.2 h.2.1.size⟩
theorem Wr.row {w w1:World} {b v:Value} {B:Nat} {L:List UInt8} (h:Wr w b B w1 v L):zo w b B w1 v L:=⟨.inl h.1,h.2⟩
def D9 (xs ys:List UInt8) (B:Nat) (b:Value) (w:World) (e:Ending) (w':World):Prop:=∃v',e= .returned v'/\zo w b B w' v' (xs++ys)
theorem sh {P:Program} (w:World) {ops:Array Oper} {rest:List Oper} {o:Oper} {a:Act} {Q:Exit ->Act ->World ->Prop} (P0:o.guard=none) (s x:Operand)
  (hP:P=prog) (ho:o.op= .call {callee:= .builtin .append,args:=#[s,x],argTypes:=#[104,104]})
  (B:Nat) (v:Value) (l:List UInt8) (hs:a.eval s=v) (Nl:Row w B v l)
  (y:UInt8) (m:Int) (hm:m=y.toNat) (hx:a.eval x= .slice (some ⟨w.heap.size,0,none⟩) 1 1)
  (QK:l.length <=1000000000) (NN:B <=w.heap.size)
  (h:∀v' w',eC w' B v' (l++[y]) ->ep (eO v) w w' ->eQ w v v' ->wpList P ops Q rest (a.put o.dst v') w'):wpList P ops Q (o::rest) a (w.alloc (.cells #[.int .u8 m] 5)):=by
 rcases Nl with Nl | ⟨g,rfl,hi,h1,h2⟩
 ·exact fm w P0 s x hP ho B v l hs Nl y m hm hx (by omega) NN h
 ·subst hP
  subst hm;refine dU P0 fun _ hK=>?_;obtain⟨i0,Qm,Po,Oi,O1⟩:=bS pn;obtain⟨a0,cap0,he,_,_,hc⟩:=hi;injection he with e1 e2 e3;subst e1;have holds:∀j u,(l.map bv)[j]?=some u ->(w.alloc (.cells #[.int .u8 (y.toNat:Int)] 5)).cell? ((⟨g,0,none⟩:Addr).add j)=some u:=by
   intro j u hj;rw [cC,bC]at hj;obtain⟨z,hz,rfl⟩:=hj;obtain⟨b,off,hb,hcz⟩:=hc j z hz;injection hb with hb;injection hb with e4 e5;subst e4 e5;have QS:(⟨g,0,none⟩:Addr).add j=⟨g,j,none⟩:=by unfold Addr.add;split <;>simp_all
   rw [QS];rw [bT]at hcz;rw [((an w.heap.size w).alloc (ag _) _).cell (by exact h2)];exact hcz
  have QQ:∀j u,[bv y][j]?=some u ->(w.alloc (.cells #[.int .u8 (y.toNat:Int)] 5)).cell? ((⟨w.heap.size,0,none⟩:Addr).add j)=some u:=by
   intro j u hu;have QS:(⟨w.heap.size,0,none⟩:Addr).add j=⟨w.heap.size,j,none⟩:=by unfold Addr.add;split <;>simp_all
   rw [QS,bL];simpa using hu
  have hr:=run_append_grow (P:=prog) (w.alloc (.cells #[.int .u8 (y.toNat:Int)] 5)) 104 o.type 5 i0 (.int .u8 0) (by kernel_rfl) Qm Po ⟨g,0,none⟩ l.length l.length (l.map bv) (by rw [bJ,Oi,aW]) holds
   ⟨w.heap.size,0,none⟩ 1 1 [bv y] (by rw [Oi];rfl) QQ (by omega) (by omega) (growslice_fits (by omega) (by rw [O1];omega))
  unfold Oper.wp execOp;simp only [ho,resolve,invoke,builtin,cK,bX,cB,dA,bF,cL,hs,hx,hr];have hge:=grownCap_ge (w.alloc (.cells #[.int .u8 (y.toNat:Int)] 5)) (l.length+1) l.length 5;have OS:=dT (w.alloc (.cells #[.int .u8 (y.toNat:Int)] 5)) (l.length+1) l.length 5 (by simp only [maxLen];omega);refine hK _ _ (h _ _ ?_ ?_ ?_)
  ·refine⟨by simp, .inr ⟨_,_,_,by rw [ah];rfl,by simp;omega,dz _ _,by rw [ah];exact hge,OS,?_,?_⟩⟩
   ·have hz:(Value.int IntKind.u8 0).cells.size=1:=rfl
    simp only [Array.size_append,dF,size_zeroCells,hz,bJ,aB];omega
   ·have hl:(l.map bv++[bv y]).length=(l++[y]).length*1:=by simp
    simp only [Array.toList_append,ct,bF,cL];rw [<- hl];exact cN
  ·exact(((ep.refl _ _).alloc _).drew).alloc _
  ·intro k hk
   simp [eO,Value.ownBlock]at hk;exact .inr (by omega)
theorem Fq (w:World) (s:ByteArray):(convert 9 104 (.string s)).run prog w= .ok (.slice (some ⟨w.heap.size,0,none⟩) s.size (grownCap w s.size 0 5)) (Lib.bytesWorld w 5 s):=
 Lib.run_convert_string_bytes (u:= .string) w _ _ _ s (by kernel_rfl) (by kernel_rfl) (by kernel_rfl)
theorem uM (w:World) (s:ByteArray):Below w.heap.size w (Lib.bytesWorld w 5 s):=⟨rfl,rfl,rfl,by rw [Lib.bytesWorld_size];omega,fun k hk=>Lib.bytesWorld_at_old w _ s k hk⟩
theorem Kc (w:World) (s:ByteArray) (h:s.size <=1000000000000):eZ (Lib.bytesWorld w 5 s) (.slice (some ⟨w.heap.size,0,none⟩) s.size (grownCap w s.size 0 5)) s.data.toList:=by
 have Oc:s.data.toList.length=s.size:=rfl;refine⟨_,_,by rw [Oc],by rw [Oc];exact grownCap_ge _ _ _ _,dT _ _ _ _ (by simp only [maxLen];omega),fun i x hx=>⟨_,0,rfl,?_⟩⟩;have hi:i < s.size:=by rw [<- Oc];exact(aG.1 hx).1
 rw [bT,Lib.bytesWorld_cell w _ s i hi,List.getD_eq_getElem?_getD,hx];rfl
def Mc {α:Type} (w0:World) (put:α ->List UInt8) (xs:List UInt8) (l:List α) (B:Nat) (b:Value) (w w':World) (v:Value) (k:Nat):Prop:=
 k <=l.length/\Wr w b B w' v (xs++(ff l.length++((l.take k).map put).flatten))/\Src w0 w' B
theorem yI {α:Type} (put:α ->List UInt8) (l:List α) (k:Nat):(((l.take k).map put).flatten).length <=((l.map put).flatten).length:=by
 conv=>rhs;rw [<- cE k l]
 simp only [ct,List.flatten_append,ah];omega
def uk (x:gl):List Value:=[.bool x.has, .int .i64 x.min, .int .i64 x.max]
def rT {α:Type} (fv k:Nat) (enc:α ->List Value) (val:α ->Value):Prop:=∀(w0:World) (put:α ->List UInt8) (C:Nat) (b:Value) (xs:List UInt8) (v:Value) (l:List α) (B:Nat) (w:World) (Nq:Nat),(∀args w,(callFunc Nq args).run prog w= .ok (.enter Nq args) w) ->eA k enc w0 v l ->eC w B b xs ->B <=w.heap.size ->Src w0 w B ->xs.length+(ix put l).length <=C ->C <=900000000 ->
 (∀e∈l,∀b xs w,eC w B b xs ->xs.length <=C ->B <=w.heap.size ->Src w0 w B ->Calls prog Nq #[b,val e] w (iw xs (put e) B b w)) ->Calls prog fv #[b,v, .func (.func Nq) #[] #[]] w (iw xs (ix put l) B b w)
def xt {α:Type} (fv k:Nat) (enc:α ->List Value) (val:α ->Value):Prop:=∀(w0:World) (put:α ->List UInt8) (no:Nat) (_:no < 256) (b:Value) (xs:List UInt8) (v:Value) (l:List α) (B:Nat) (w:World) (Nq:Nat),(∀args w,(callFunc Nq args).run prog w= .ok (.enter Nq args) w) ->eA k enc w0 v l ->Row w B b xs ->B <=w.heap.size ->Below w0.heap.size w0 w ->xs.length+(ix put l).length <=100000000 ->
 (∀e∈l,∀b xs w B,eC w B b xs ->xs.length <=100000000 ->B <=w.heap.size ->Src w0 w B ->Calls prog Nq #[b,val e] w (iw xs (put e) B b w)) ->Calls prog fv #[b, .int .i64 no,v, .func (.func Nq) #[] #[]] w (D9 xs (gA (b8 no) put l) B b w)
theorem qg:rT 167 1 fk (fun e=> .int .i64 e)/\rT 269 3 rR (fun e=> .agg #[.string e.mod, .string e.name, .int .i64 e.type])/\rT 271 3 uk (fun e=> .agg #[.bool e.has, .int .i64 e.min, .int .i64 e.max])/\rT 272 3 rL (fun e=> .agg #[.bool e.isVar, .int .i64 e.init.kind, .int .i64 e.init.n])/\rT 274 2 pS (fun e=> .agg #[.string e.name, .int .i64 e.func]):=by
 refine⟨?_,?_,?_,?_,?_⟩
 all_goals
  intro w0 put C b xs v l B w Nq hE hl Nl hB h0 hC Qx hp;have HP:=V hp;have HL:=V hl;have H0:=V h0;have HC:=V hC;have HW:=V (Wr.refl Nl);have hxs:xs.length <=900000000:=by omega
  obtain⟨a,cap,rfl,PV,Ow⟩:=fH hl;clear hp hl h0 hC Nl Qx
  first | go_enter func167,ntmps167 | go_enter func269,ntmps269 | go_enter func271,ntmps271 | go_enter func272,ntmps272 | go_enter func274,ntmps274
  go_wp2_with fail;refine(jC b xs l.length (by omega) B w HW.out.1 (by omega) hB).mono ?_;rintro e w2 ⟨v2,rfl,ho,hk,hs⟩;have Ov:=V (HW.out.step ⟨ho,hk,hs⟩);have OF:=V (H0.out.next HW.out.1 ⟨ho,hk,hs⟩);clear ho hk hs;go_wp2_with fail;refine eR (fun a' w'=>∃(vb:Value) (k:Nat),a'=fr (vb::gs a' 1 1 (.func (.func Nq) #[] #[]::gs a' 3 10 (.slice a l.length cap:: .int .i64 l.length:: .int .i64 k::gs a' 16 9 [])))/\Mc w0 put xs l B b w w' vb k) (fun a' _=>(l.length - (intOf (a'.tmps.getD 15 undef)).toNat)) ?_ ?_
  ·exact⟨_,0,rfl,by omega,by simpa using Ov.out,OF.out⟩
  ·skip
   clear HW Ov OF H0 v2;rintro R a' w1 ⟨vb,k,Nm,hJ⟩ HR;dsimp only [fr,gs]at Nm;generalize slot a'=f at Nm;subst Nm;obtain⟨hk,hwr,hsr⟩:=hJ;have HW:=V hwr;have HS:=V hsr;have HC1:=V (show(xs++(ff l.length++((l.take k).map put).flatten)).length <=C by
    have h1:=HC.out;have h2:=yI put l k;simp only [ix,ah]at*;omega)
   clear hwr hsr;by_cases q:k < l.length;rotate_left
   ·obtain rfl:k=l.length:=by omega
    have HW:=V (show Wr w b B w1 vb (xs++ix put l)by have:=HW.out;rwa [aU]at this);go_wp2;go_ret;exact⟨_,rfl,HW.out⟩
   obtain⟨x,hx⟩:∃x,l[k]?=some x:=⟨_,aq q⟩;obtain⟨a',NK,hv,_,_,Nk⟩:=HL.out;injection hv with e1 e2 e3;subst e1 e3;obtain⟨bb,off,rfl,Nu,Rq⟩:=Nk k x hx;clear Nk e2;have c0:=(HS.out.1.cell Nu).trans (Rq 0 _ rfl)
   try have c1:=(HS.out.1.cell Nu).trans (Rq 1 _ rfl)
   try have c2:=(HS.out.1.cell Nu).trans (Rq 2 _ rfl)
   rw [aJ]at c0
   try rw [aW]at c0
   have HX:=V hx;clear Rq hx;go_wp2_with fail;refine(HP.out x (aN HX.out) _ _ _ (by first | exact HW.out.1 | exact(HW.out.alloc _).1) HC1.out (by first | exact HW.out.base hB | exact(HW.out.alloc _).base hB) (by first | exact HS.out | exact HS.out.alloc _)).mono ?_;rintro e w2 ⟨v2,rfl,NU,Nw,NC⟩;have Ov:=V (Wr.step (by first | exact HW.out | exact HW.out.alloc _) ⟨NU,Nw,NC⟩);have OF:=V (Src.next (by first | exact HS.out | exact HS.out.alloc _) (by first | exact HW.out.1 | exact(HW.out.alloc _).1) ⟨NU,Nw,NC⟩);clear NU Nw NC c0
   try clear c1
   try clear c2
   go_wp2;refine HR.out _ _ ⟨_,k+1,rfl,by omega,?_,OF.out⟩ ?_
   ·have:=Ov.out
    rw [aR,HX.out];simpa using this
   ·simp [intOf]
    omega
theorem pg:rT 167 1 fk (fun e=> .int .i64 e):=qg.1
theorem GR:rT 269 3 rR (fun e=> .agg #[.string e.mod, .string e.name, .int .i64 e.type]):=qg.2.1
theorem Ja:rT 271 3 uk (fun e=> .agg #[.bool e.has, .int .i64 e.min, .int .i64 e.max]):=qg.2.2.1
theorem Ir:rT 272 3 rL (fun e=> .agg #[.bool e.isVar, .int .i64 e.init.kind, .int .i64 e.init.n]):=qg.2.2.2.1
theorem Gd:rT 274 2 pS (fun e=> .agg #[.string e.name, .int .i64 e.func]):=qg.2.2.2.2
theorem qb:(rT 167 1 fk (fun e=> .int .i64 e) ->xt 173 1 fk (fun e=> .int .i64 e))/\(rT 269 3 rR (fun e=> .agg #[.string e.mod, .string e.name, .int .i64 e.type]) ->xt 169 3 rR (fun e=> .agg #[.string e.mod, .string e.name, .int .i64 e.type]))/\(rT 271 3 uk (fun e=> .agg #[.bool e.has, .int .i64 e.min, .int .i64 e.max]) ->xt 174 3 uk (fun e=> .agg #[.bool e.has, .int .i64 e.min, .int .i64 e.max]))/\(rT 272 3 rL (fun e=> .agg #[.bool e.isVar, .int .i64 e.init.kind, .int .i64 e.init.n]) ->xt 178 3 rL (fun e=> .agg #[.bool e.isVar, .int .i64 e.init.kind, .int .i64 e.init.n]))/\(rT 274 2 pS (fun e=> .agg #[.string e.name, .int .i64 e.func]) ->xt 181 2 pS (fun e=> .agg #[.string e.name, .int .i64 e.func])):=by
 refine⟨?_,?_,?_,?_,?_⟩
 all_goals
  intro HV w0 put no OD b xs v l B w Nq hE hl Nl hB h0 hC hp;have HP:=V hp;have HL:=V hl;have H0:=V h0;have HW:=V (zo.refl Nl);obtain⟨a,cap,rfl,PV,Ow⟩:=fH hl;clear hp hl h0 Nl;by_cases q:l.length=0
  ·have f1:=eV (show(l.length:Int)=0 by omega)
   have HN:=V (show l=[]from aI q);clear q
   first | go_enter func173,ntmps173 | go_enter func169,ntmps169 | go_enter func174,ntmps174 | go_enter func178,ntmps178 | go_enter func181,ntmps181
   go_wp2;go_ret;exact⟨_,rfl,by rw [HN.out];simpa [gA] using HW.out⟩
  ·have f1:=eh (show ¬ (l.length:Int)=0 by omega)
   have HN:Hid (gA (b8 no) put l=b8 no::(ff (ix put l).length++ix put l)):=V (by
    cases l with
    | nil=>exact absurd rfl q
    | cons x l=>rfl)
   clear q
   first | go_enter func173,ntmps173 | go_enter func169,ntmps169 | go_enter func174,ntmps174 | go_enter func178,ntmps178 | go_enter func181,ntmps181
   go_wp2_with fail;refine(HV w0 put 100000000 (.slice none 0 0) [] _ l w.heap.size w Nq hE HL.out (eC.nil _ _) (ag _) ⟨H0.out,H0.out.size⟩ (by simp only [aH];omega) (by decide) (fun e he b xs w ho hx hB h0=>HP.out e he b xs w _ ho hx hB h0)).mono ?_;rintro e w2 ⟨v2,rfl,ho,hk,hs⟩;rw [bY]at ho;have No:=sV hk rfl;have HO:=V ho;have Ov:=V (HW.out.below No);obtain⟨a2,Nr,ev2,-,-,-⟩:=ho.gK;subst ev2;have hdis:∀i,eO (.slice a2 (ix put l).length Nr) i ->¬ eO b i:=fun i h1 h2=>by
    have:=(eM HO.out h1).1;have:=(HW.out.1.lt h2).2;omega
   have HD:=V hdis;clear ho hk hs hE hdis;go_wp2_with (first | (at_builtin;refine sh w2 rfl _ _ rfl rfl B b _ rfl Ov.out.1 (b8 no) _ ?_ ?_ ?_ ?_ ?_))
   ·rw [gZ OD]
   ·rfl
   ·omega
   ·exact Ov.out.base hB
   intro v3 w3 ho hk hs;have R9:=V (Ov.out.own ⟨ho,hk,hs⟩);have HO3:=V (HO.out.keeps hk HD.out);have HD3:=V (show∀i,eO (.slice a2 (ix put l).length Nr) i ->¬ eO v3 i from fun i h1 h2=>(hs i h2).elim (HD.out i h1) (fun g=>by have:=(eM HO.out h1).2;omega));clear ho hk hs;go_wp2_with fail;refine(jC v3 _ (ix put l).length (by omega) B w3 R9.out.1 (by simp only [ah,aB];omega) (R9.out.base hB)).mono ?_;rintro e w4 ⟨v4,rfl,ho,hk,hs⟩;have PA:=V (R9.out.step ⟨ho,hk,hs⟩);have Q7:=V (HO3.out.keeps hk HD3.out);have hp4:=(eU (ix put l).length).2;clear ho hk hs;go_wp2_with (first | (at_builtin;refine ja w4 rfl _ _ rfl rfl B v4 _ rfl PA.out.1 _ _ rfl Q7.out.gK (by simp only [ah,aB];omega) (PA.out.base hB) ?_));intro v5 w5 ho hk hs;have S3:=V (PA.out.step ⟨ho,hk,hs⟩);clear ho hk hs;go_wp2;go_ret;exact⟨_,rfl,by rw [HN.out];exact S3.out.row⟩
theorem CV:xt 173 1 fk (fun e=> .int .i64 e):=qb.1 pg
theorem IE:xt 169 3 rR (fun e=> .agg #[.string e.mod, .string e.name, .int .i64 e.type]):=qb.2.1 GR
theorem AE:xt 174 3 uk (fun e=> .agg #[.bool e.has, .int .i64 e.min, .int .i64 e.max]):=qb.2.2.1 Ja
theorem GM:xt 178 3 rL (fun e=> .agg #[.bool e.isVar, .int .i64 e.init.kind, .int .i64 e.init.n]):=qb.2.2.2.1 Ir
theorem G0:xt 181 2 pS (fun e=> .agg #[.string e.name, .int .i64 e.func]):=qb.2.2.2.2 Gd
theorem nJ (n:Int) (h:gh n) (b:Value) (xs:List UInt8) (B:Nat) (w:World) (Nl:eC w B b xs) (hn:xs.length <=900000000) (hB:B <=w.heap.size):
  Calls prog 171 #[b, .int .i64 n] w (iw xs (tk n) B b w):=by
 obtain⟨m,rfl⟩:∃m:Nat,n=m:=⟨n.toNat,by have:=h.1;omega⟩;exact jC b xs m (by have:=h.2;omega) B w Nl (by omega) hB
theorem KB (w0:World) (e:gC) (u:Value × Value) (hu:hI w0 e u) (hm:e.may) (b:Value) (xs:List UInt8) (w:World) (B:Nat) (Nl:eC w B b xs) (hn:xs.length <=100000000) (hB:B <=w.heap.size) (h0:Src w0 w B):
  Calls prog 166 #[b, .agg #[u.1,u.2]] w (iw xs (ld e) B b w):=by
 have HU:=V hu;obtain⟨u1,u2⟩:=u;obtain⟨⟨⟨a1,NI,OW,-,-,-⟩,⟨a2,Nr,OZ,-,-,-⟩⟩,-⟩:=id hu;simp only at OW OZ;subst OW OZ;clear hu;have l1:=jK jo 1 32 e.params (fun x _=>by simp [jo]) hm.1.1;have l2:=jK jo 1 1 e.results (fun x _=>by simp [jo]) hm.2.1;clear hm;have HW:=V ((Wr.refl Nl).alloc (.cells #[.slice a1 e.params.length NI, .slice a2 e.results.length Nr] 69));have HA:=V (Aside.new Nl #[.slice a1 e.params.length NI, .slice a2 e.results.length Nr] 69);have HS:=V (h0.alloc (.cells #[.slice a1 e.params.length NI, .slice a2 e.results.length Nr] 69));clear Nl h0;go_enter func166,ntmps166;go_wp2_with fail;refine eB (fun w'=>w'.cell? ⟨w.heap.size,0,none⟩=some (.slice a1 e.params.length NI)/\w'.cell? ⟨w.heap.size,1,none⟩=some (.slice a2 e.results.length Nr)) [(0,true),(3,true),(4,true),(6,true),(7,true),(1,false),(2,false),(5,false),(8,false),(9,true)] (by kernel_rfl) (by kernel_rfl) ⟨HA.out.cell 0,HA.out.cell 1⟩ ?_;have HW:=V HW.out.drew;have HA:=V HA.out.drew;have HS:=V HS.out.drew;obtain⟨X,hX⟩:∃X,X=w.heap.size:=⟨_,rfl⟩;rw [<- hX]at HA⊢;clear hX;generalize(w.alloc (.cells #[.slice a1 e.params.length NI, .slice a2 e.results.length Nr] 69)).drew=wa at HW HA HS⊢;iterate 5 (first | (apply sk rfl rfl;simp only [pt]) | (apply eo rfl rfl rfl;·(rintro w' ⟨t0,t1⟩;go_wp2;exact⟨rfl,rfl,rfl⟩)))
 refine ew rfl rfl ?_;go_wp2_with fail;refine⟨⟨(HA.out.alloc _).cell 0,(HA.out.alloc _).cell 1⟩,?_⟩;refine ew rfl rfl ?_;go_wp2_with (first | (at_builtin;refine fm wa rfl _ _ rfl rfl B b _ rfl HW.out.1 (96:UInt8) _ rfl rfl (by first | omega | (simp only [ah];omega) | (simp only [ah,aB];omega) | (simp only [ah,aD,aH];omega)) (HW.out.base hB) ?_));intro v1 w1 ho hk hs;have HA:=V (HA.out.next ⟨ho,hk,hs⟩);have HS:=V (HS.out.next HW.out.1 ⟨ho,hk,hs⟩);have HW:=V (HW.out.step ⟨ho,hk,hs⟩);clear ho hk hs;go_wp2_with fail;refine⟨⟨HA.out.cell 0,HA.out.cell 1⟩,?_⟩;refine ew rfl rfl ?_;go_wp2_with fail;refine(pg w0 jo 900000000 v1 _ _ e.params B w1 168 (fun args w=>by rfl) HU.out.1.1 HW.out.1 (HW.out.base hB) HS.out (by simp only [ah,aB];omega) (by omega) (fun x _ b xs w ho hx hB _=>nS b xs x B w ho hx hB)).mono ?_;rintro e w2 ⟨v2,rfl,ho,hk,hs⟩;have HA:=V (HA.out.next ⟨ho,hk,hs⟩);have HS:=V (HS.out.next HW.out.1 ⟨ho,hk,hs⟩);have HW:=V (HW.out.step ⟨ho,hk,hs⟩);clear ho hk hs;go_wp2_with fail;refine⟨⟨HA.out.cell 0,HA.out.cell 1⟩,?_⟩;refine ew rfl rfl ?_;go_wp2_with fail;refine(pg w0 jo 900000000 v2 _ _ e.results B w2 168 (fun args w=>by rfl) HU.out.1.2 HW.out.1 (HW.out.base hB) HS.out (by simp only [ah,aB];omega) (by omega) (fun x _ b xs w ho hx hB _=>nS b xs x B w ho hx hB)).mono ?_;rintro e w3 ⟨v3,rfl,ho,hk,hs⟩;have HA:=V (HA.out.next ⟨ho,hk,hs⟩);have HS:=V (HS.out.next HW.out.1 ⟨ho,hk,hs⟩);have HW:=V (HW.out.step ⟨ho,hk,hs⟩);clear ho hk hs;go_wp2_with fail;refine⟨⟨HA.out.cell 0,HA.out.cell 1⟩,?_⟩;iterate 1 (first | (apply sk rfl rfl;simp only [pt]) | (apply eo rfl rfl rfl;·(rintro w' ⟨t0,t1⟩;go_wp2;exact⟨rfl,rfl,rfl⟩)))
 refine eW ?_;refine aA ?_;go_wp2;go_ret;exact⟨_,rfl,by show Wr _ _ _ _ _ _;simpa [ld] using HW.out⟩
theorem Ke (w0:World) (e:jI) (u:Value) (hu:il w0 e u) (hm:e.may) (b:Value) (xs:List UInt8) (w:World) (B:Nat) (Nl:eC w B b xs) (hn:xs.length <=100000000) (hB:B <=w.heap.size) (h0:Src w0 w B):
  Calls prog 184 #[b, .agg #[.int .i64 e.off,u]] w (iw xs (ll e) B b w):=by
 have HU:=V hu;obtain⟨⟨a1,NI,rfl,-,-,-⟩,-⟩:=id hu;clear hu;have l1:=qE hm.1;have l2:=jK tk 10 50 e.funcs (fun y _=>sN y) hm.2.1;have HM:=V hm;clear hm;have HW:=V ((Wr.refl Nl).alloc (.cells #[.int .i64 e.off, .slice a1 e.funcs.length NI] 77));have HA:=V (Aside.new Nl #[.int .i64 e.off, .slice a1 e.funcs.length NI] 77);have HS:=V (h0.alloc (.cells #[.int .i64 e.off, .slice a1 e.funcs.length NI] 77));clear Nl h0;go_enter func184,ntmps184;go_wp2_with fail;refine eB (fun w'=>w'.cell? ⟨w.heap.size,0,none⟩=some (.int .i64 e.off)/\w'.cell? ⟨w.heap.size,1,none⟩=some (.slice a1 e.funcs.length NI)) (up 0 3 ((4,true)::(5,true)::(3,false)::(6,false)::(7,true)::[])) (by kernel_rfl) (by kernel_rfl) ⟨HA.out.cell 0,HA.out.cell 1⟩ ?_;have HW:=V HW.out.drew;have HA:=V HA.out.drew;have HS:=V HS.out.drew;obtain⟨X,hX⟩:∃X,X=w.heap.size:=⟨_,rfl⟩;rw [<- hX]at HA⊢;clear hX;generalize(w.alloc (.cells #[.int .i64 e.off, .slice a1 e.funcs.length NI] 77)).drew=wa at HW HA HS⊢;iterate 5 (first | (apply sk rfl rfl;simp only [pt]) | (apply eo rfl rfl rfl;·(rintro w' ⟨t0,t1⟩;go_wp2;exact⟨rfl,rfl,rfl⟩)))
 refine ew rfl rfl ?_;go_wp2_with fail;refine(yD b _ e.off B wa HW.out.1 (by omega) (HW.out.base hB) HM.out.1).mono ?_;rintro e w1 ⟨v1,rfl,ho,hk,hs⟩;have HA:=V (HA.out.next ⟨ho,hk,hs⟩);have HS:=V (HS.out.next HW.out.1 ⟨ho,hk,hs⟩);have HW:=V (HW.out.step ⟨ho,hk,hs⟩);clear ho hk hs;go_wp2_with fail;refine⟨⟨HA.out.cell 0,HA.out.cell 1⟩,?_⟩;refine ew rfl rfl ?_;go_wp2_with fail;refine(pg w0 tk 900000000 v1 _ _ e.funcs B w1 171 (fun args w=>by rfl) HU.out.1 HW.out.1 (HW.out.base hB) HS.out (by simp only [ah];omega) (by omega) (fun x hx b xs w ho hl hB _=>nJ x (HM.out.2.2 x hx) b xs B w ho hl hB)).mono ?_;rintro e w2 ⟨v2,rfl,ho,hk,hs⟩;have HA:=V (HA.out.next ⟨ho,hk,hs⟩);have HS:=V (HS.out.next HW.out.1 ⟨ho,hk,hs⟩);have HW:=V (HW.out.step ⟨ho,hk,hs⟩);clear ho hk hs;go_wp2_with fail;refine⟨⟨HA.out.cell 0,HA.out.cell 1⟩,?_⟩;iterate 1 (first | (apply sk rfl rfl;simp only [pt]) | (apply eo rfl rfl rfl;·(rintro w' ⟨t0,t1⟩;go_wp2;exact⟨rfl,rfl,rfl⟩)))
 refine eW ?_;refine aA ?_;go_wp2;go_ret;exact⟨_,rfl,by show Wr _ _ _ _ _ _;simpa [ll] using HW.out⟩
theorem J9 (w0:World) (e:iq) (u:Value) (hu:gG w0 e u) (hm:e.may) (b:Value) (xs:List UInt8) (w:World) (B:Nat) (Nl:eC w B b xs) (hn:xs.length <=100000000) (hB:B <=w.heap.size) (h0:Src w0 w B):
  Calls prog 189 #[b, .agg #[.int .i64 e.off,u]] w (iw xs (oy e) B b w):=by
 have HU:=V hu;obtain⟨⟨a1,NI,rfl,-,-,-⟩,-⟩:=id hu;clear hu;have l1:=qE hm.1;have l2:=hm.2;have l3:=(eU e.bytes.length).2;have HM:=V hm;clear hm;have HW:=V ((Wr.refl Nl).alloc (.cells #[.int .i64 e.off, .slice a1 e.bytes.length NI] 106));have HA:=V (Aside.new Nl #[.int .i64 e.off, .slice a1 e.bytes.length NI] 106);have HS:=V (h0.alloc (.cells #[.int .i64 e.off, .slice a1 e.bytes.length NI] 106));clear Nl h0;go_enter func189,ntmps189;go_wp2_with fail;refine eB (fun w'=>w'.cell? ⟨w.heap.size,0,none⟩=some (.int .i64 e.off)/\w'.cell? ⟨w.heap.size,1,none⟩=some (.slice a1 e.bytes.length NI)) (up 0 3 (up 4 3 ((8,true)::(9,true)::(3,false)::(7,false)::(10,false)::(11,true)::[]))) (by kernel_rfl) (by kernel_rfl) ⟨HA.out.cell 0,HA.out.cell 1⟩ ?_;have HW:=V HW.out.drew;have HA:=V HA.out.drew;have HS:=V HS.out.drew;obtain⟨X,hX⟩:∃X,X=w.heap.size:=⟨_,rfl⟩;rw [<- hX]at HA⊢;clear hX;generalize(w.alloc (.cells #[.int .i64 e.off, .slice a1 e.bytes.length NI] 106)).drew=wa at HW HA HS⊢;iterate 8 (first | (apply sk rfl rfl;simp only [pt]) | (apply eo rfl rfl rfl;·(rintro w' ⟨t0,t1⟩;go_wp2;exact⟨rfl,rfl,rfl⟩)))
 refine ew rfl rfl ?_;go_wp2_with fail;refine(yD b _ e.off B wa HW.out.1 (by omega) (HW.out.base hB) HM.out.1).mono ?_;rintro e w1 ⟨v1,rfl,ho,hk,hs⟩;have HA:=V (HA.out.next ⟨ho,hk,hs⟩);have HS:=V (HS.out.next HW.out.1 ⟨ho,hk,hs⟩);have HW:=V (HW.out.step ⟨ho,hk,hs⟩);clear ho hk hs;go_wp2_with fail;refine⟨⟨HA.out.cell 0,HA.out.cell 1⟩,?_⟩;refine ew rfl rfl ?_;go_wp2_with fail;refine(jC v1 _ e.bytes.length (by omega) B w1 HW.out.1 (by simp only [ah];omega) (HW.out.base hB)).mono ?_;rintro e w2 ⟨v2,rfl,ho,hk,hs⟩;have HA:=V (HA.out.next ⟨ho,hk,hs⟩);have HS:=V (HS.out.next HW.out.1 ⟨ho,hk,hs⟩);have HW:=V (HW.out.step ⟨ho,hk,hs⟩);clear ho hk hs;go_wp2_with fail;refine⟨⟨HA.out.cell 0,HA.out.cell 1⟩,?_⟩;refine ew rfl rfl ?_;go_wp2_with (first | (at_builtin;refine ja w2 rfl _ _ rfl rfl B v2 _ rfl HW.out.1 _ _ rfl (HU.out.1.below HS.out.1) (by simp only [ah];omega) (HW.out.base hB) ?_));intro v3 w3 ho hk hs;have HA:=V (HA.out.next ⟨ho,hk,hs⟩);have HS:=V (HS.out.next HW.out.1 ⟨ho,hk,hs⟩);have HW:=V (HW.out.step ⟨ho,hk,hs⟩);clear ho hk hs;go_wp2_with fail;refine⟨⟨HA.out.cell 0,HA.out.cell 1⟩,?_⟩;iterate 1 (first | (apply sk rfl rfl;simp only [pt]) | (apply eo rfl rfl rfl;·(rintro w' ⟨t0,t1⟩;go_wp2;exact⟨rfl,rfl,rfl⟩)))
 refine eW ?_;refine aA ?_;go_wp2;go_ret;exact⟨_,rfl,by show Wr _ _ _ _ _ _;simpa [oy] using HW.out⟩
theorem JD (e:gl) (b:Value) (xs:List UInt8) (w:World) (B:Nat) (Nl:eC w B b xs) (hn:xs.length <=100000000) (hB:B <=w.heap.size) (hm0:0 <=e.min) (hm1: -1 <=e.max) (Nt:e.ok):
  Calls prog 176 #[b, .agg #[.bool e.has, .int .i64 e.min, .int .i64 e.max]] w (iw xs (jy e) B b w):=by
 have h0:=wS w B;have HW:=V ((Wr.refl Nl).alloc (.cells #[.bool e.has, .int .i64 e.min, .int .i64 e.max] 28));have HA:=V (Aside.new Nl #[.bool e.has, .int .i64 e.min, .int .i64 e.max] 28);have HS:=V (h0.alloc (.cells #[.bool e.has, .int .i64 e.min, .int .i64 e.max] 28));clear Nl h0;go_enter func176,ntmps176;go_wp2_with fail;refine eB (fun w'=>w'.cell? ⟨w.heap.size,0,none⟩=some (.bool e.has)/\w'.cell? ⟨w.heap.size,1,none⟩=some (.int .i64 e.min)/\w'.cell? ⟨w.heap.size,2,none⟩=some (.int .i64 e.max)) [(0,true),(3,true),(1,false),(2,false),(4,false),(5,true)] (by kernel_rfl) (by kernel_rfl) ⟨HA.out.cell 0,HA.out.cell 1,HA.out.cell 2⟩ ?_;have HW:=V HW.out.drew;have HA:=V HA.out.drew;have HS:=V HS.out.drew;obtain⟨X,hX⟩:∃X,X=w.heap.size:=⟨_,rfl⟩;rw [<- hX]at HA⊢;clear hX;generalize(w.alloc (.cells #[.bool e.has, .int .i64 e.min, .int .i64 e.max] 28)).drew=wa at HW HA HS⊢;iterate 2 (first | (apply sk rfl rfl;simp only [pt]) | (apply eo rfl rfl rfl;·(rintro w' ⟨t0,t1,t2⟩;go_wp2;exact⟨rfl,rfl,rfl⟩)))
 refine ew rfl rfl ?_;go_wp2_with fail;refine⟨⟨(HA.out.alloc _).cell 0,(HA.out.alloc _).cell 1,(HA.out.alloc _).cell 2⟩,?_⟩;refine ew rfl rfl ?_;go_wp2_with (first | (at_builtin;refine fm wa rfl _ _ rfl rfl B b _ rfl HW.out.1 (112:UInt8) _ rfl rfl (by first | omega | (simp only [ah];omega) | (simp only [ah,aB];omega) | (simp only [ah,aD,aH];omega)) (HW.out.base hB) ?_));intro v1 w1 ho hk hs;have HA:=V (HA.out.next ⟨ho,hk,hs⟩);have HS:=V (HS.out.next HW.out.1 ⟨ho,hk,hs⟩);have HW:=V (HW.out.step ⟨ho,hk,hs⟩);clear ho hk hs;go_wp2_with fail;refine⟨⟨HA.out.cell 0,HA.out.cell 1,HA.out.cell 2⟩,?_⟩;refine ew rfl rfl ?_;go_wp2_with fail;refine(qU v1 _ e B w1 HW.out.1 (by simp only [ah,aB];omega) (HW.out.base hB) hm0 hm1 Nt).mono ?_;rintro e w2 ⟨v2,rfl,ho,hk,hs⟩;have HA:=V (HA.out.next ⟨ho,hk,hs⟩);have HS:=V (HS.out.next HW.out.1 ⟨ho,hk,hs⟩);have HW:=V (HW.out.step ⟨ho,hk,hs⟩);clear ho hk hs;go_wp2_with fail;refine⟨⟨HA.out.cell 0,HA.out.cell 1,HA.out.cell 2⟩,?_⟩;iterate 1 (first | (apply sk rfl rfl;simp only [pt]) | (apply eo rfl rfl rfl;·(rintro w' ⟨t0,t1,t2⟩;go_wp2;exact⟨rfl,rfl,rfl⟩)))
 refine eW ?_;refine aA ?_;go_wp2;go_ret;exact⟨_,rfl,by show Wr _ _ _ _ _ _;simpa [jy] using HW.out⟩
def pD (x:Int) (rs:List (Nat × Int)):List (Nat × Int):=match rs with
 | []=>[(1,x)]
 | (n,k)::t=>if x=k then(n+1,k)::t else(1,x)::(n,k)::t
theorem pK (x:Int) (l:List Int):gO (x::l)=pD x (gO l):=rfl
def lI:List (Nat × Int) ->Int ->List (Nat × Int)
 | [],k=>[(1,k)]
 | [x],k=>if x.2=k then [(x.1+1,k)]else [x,(1,k)]
 | x::y::t,k=>x::lI (y::t) k
theorem Dr (x k:Int):∀rs:List (Nat × Int),pD x (lI rs k)=lI (pD x rs) k
 | []=>by
  simp only [lI,pD]
 | [(n,k')]=>by
  by_cases h1:k'=k
  ·by_cases h2:x=k'
   ·subst h1 h2
    simp [lI,pD]
   ·subst h1
    simp [lI,pD,h2]
  ·by_cases h2:x=k'
   ·subst h2
    simp [lI,pD,h1]
   ·simp [lI,pD,h1,h2]
 | (n,k')::y::t=>by
  by_cases h2:x=k'
  ·simp [lI,pD,h2]
  ·simp [lI,pD,h2]
theorem nO (k:Int):∀l:List Int,gO (l++[k])=lI (gO l) k
 | []=>rfl
 | x::l=>by rw [bH,pK,nO k l,Dr,pK]
theorem rC (n:Nat) (k' k:Int):∀rs:List (Nat × Int),lI (rs++[(n,k')]) k=rs++(if k'=k then [(n+1,k)]else [(n,k'),(1,k)])
 | []=>by simp [lI]
 | [x]=>by
  show x::lI [(n,k')] k=_;rw [lI];rfl
 | x::y::t=>by
  have h:=rC n k' k (y::t);show x::lI (y::t++[(n,k')]) k=_;rw [h];rfl
theorem yC:∀l:List Int,l≠[] ->∃rs n k,gO l=rs++[(n,k)]/\l.getLast?=some k/\1 <=n
 | [],h=>absurd rfl h
 | [x],_=>⟨[],1,x,rfl,rfl,ag _⟩
 | x::y::l,_=>by
  obtain⟨rs,n,k,h1,h2,h3⟩:=yC (y::l) (by simp);rw [pK,h1];cases rs with
  | nil=>
   simp only [bY,pD];split
   ·exact⟨[],n+1,k,rfl,by rw [dd];exact h2,by omega⟩
   ·exact⟨[(1,x)],n,k,rfl,by rw [dd];exact h2,h3⟩
  | cons a t=>
   obtain⟨m,z⟩:=a;simp only [bH,pD];split
   ·exact⟨(m+1,z)::t,n,k,rfl,by rw [dd];exact h2,h3⟩
   ·exact⟨(1,x)::(m,z)::t,n,k,rfl,by rw [dd];exact h2,h3⟩
def KA (x:(Nat × Int) × Value):List Value:=[x.2]
def sx (u:Value):List Value:=[u]
def nk (w:World) (x:Nat × Int) (u:Value):Prop:=eA 1 fk w u (List.replicate x.1 x.2)/\1 <=x.1
theorem nk.ext {w w':World} {x:Nat × Int} {u:Value} (h:nk w x u) (he:Ext w w'):nk w' x u:=⟨h.1.ext he,h.2⟩
theorem se (u:Value):(sx u).length=1:=rfl
theorem ym (u:Int):(fk u).length=1:=rfl
theorem Bn {α:Type} {t:TypeId} {k:Nat} {enc:α ->List Value} {w:World} {B:Nat} {v:Value} {l:List α} {S:Nat ->Bool} (hk:∀x,(enc x).length=k) (h:ei t k enc w B v l) (hs:∀i,eO v i ->S i=false):eA k enc (mask S w) v l:=by
 suffices h:ei t k enc (mask S w) B v l from h.fT hk
 obtain⟨hl,hv | ⟨g,cap,cur,hv,hb,hg,rest⟩⟩:=h
 ·exact⟨hl, .inl hv⟩
 ·exact⟨hl, .inr ⟨g,cap,cur,hv,hb,by rw [jA w (hs g (by rw [hv];rfl))];exact hg,rest⟩⟩
def B7 (B:Nat) (v ul:Value):Nat ->Bool:=fun k=>decide (k < B) || decide (v.ownBlock=some k) || decide (ul.ownBlock=some k)
theorem mB {B k:Nat} {v ul:Value}:B7 B v ul k=true↔(k < B\/eO v k)\/eO ul k:=by simp [B7,eO]
def iS (w:World) (B:Nat) (v:Value) (rs:List (Nat × Int)):Prop:=
 (rs=[]/\v= .slice none 0 0)\/∃(Qu:List (Nat × Int)) (Oy:List Value) (ul:Value) (n:Nat) (k:Int),rs=Qu++[(n,k)]/\Oy.length=Qu.length/\ei 26 1 sx w B v (Oy++[ul])/\
  ei 3 1 fk w B ul (List.replicate n k)/\1 <=n/\∀(i:Nat) (x:Nat × Int) (u:Value),Qu[i]?=some x ->Oy[i]?=some u ->nk (mask (B7 B v ul) w) x u
theorem iS.deep {w:World} {B:Nat} {v:Value} {rs:List (Nat × Int)} (h:iS w B v rs):eD 1 KA nk w v rs:=by
 rcases h with⟨rfl,rfl⟩ | ⟨Qu,Oy,ul,n,k,rfl,h2,h3,h4,h5,h6⟩
 ·exact eD.nil w
 ·refine⟨Oy++[ul],by simp [h2],?_,fun i x u hx hu=>?_⟩
  ·obtain⟨a,cap,hv,c1,c2,c3⟩:=h3.fT se
   have hl:((Qu++[(n,k)]).zip (Oy++[ul])).length=(Oy++[ul]).length:=by simp [bV,h2]
   refine⟨a,cap,by rw [hl];exact hv,by rw [hl];exact c1,c2,fun i x hx=>?_⟩;obtain⟨x1,x2⟩:=x;have Qs:(Oy++[ul])[i]?=some x2:=(cI.1 hx).2;exact c3 i x2 Qs
  ·rcases Nat.lt_trichotomy i Qu.length with g | g | g
   ·rw [bD g]at hx
    rw [bD (by omega)]at hu;have:=h6 i x u hx hu;exact⟨this.1.gf,this.2⟩
   ·subst g
    rw [bo (ag _)]at hx;rw [bo (by omega)]at hu;simp [h2]at hx hu;subst hx hu;exact⟨h4.fT ym,h5⟩
   ·rw [da (by simp;omega)]at hx
    cases hx
theorem iS.grow {w1 wa w2:World} {B g cap:Nat} {Qu:List (Nat × Int)} {Oy:List Value} {ul v':Value} {n:Nat} {k:Int} (h2:Oy.length=Qu.length)
  (h3:ei 26 1 sx w1 B (.slice (some ⟨g,0,none⟩) (Oy.length+1) cap) (Oy++[ul])) (h4:ei 3 1 fk w1 B ul (List.replicate n k))
  (h6:∀(i:Nat) (x:Nat × Int) (u:Value),Qu[i]?=some x ->Oy[i]?=some u ->nk (mask (B7 B (.slice (some ⟨g,0,none⟩) (Oy.length+1) cap) ul) w1) x u)
  (ho:ei 3 1 fk w2 B v' (List.replicate n k++[k])) (hk:ep (eO ul) w1 w2) (hs:eQ w1 ul v') (hwa:wa=w2.setCell ⟨g,Oy.length,none⟩ v'):
  iS wa B (.slice (some ⟨g,0,none⟩) (Oy.length+1) cap) (Qu++[(n+1,k)]):=by
 subst hwa;have hd:∀i,eO (.slice (some ⟨g,0,none⟩) (Oy.length+1) cap) i ->¬ eO ul i:=fun i hi=>ei.ne h3 h4 (by decide) i hi;have h3':=ei.keeps h3 hk hd;have hgo:eO (.slice (some ⟨g,0,none⟩) (Oy.length+1) cap) g:=rfl;have Ti:∀i,eO v' i ->¬ i=g:=fun i hi he=>ei.ne h3' ho (by decide) g hgo (by rw [<- he];exact hi);have Q8:ep (fun i=>i=g) w2 (w2.setCell ⟨g,Oy.length,none⟩ v'):=⟨rfl,rfl,rfl,by simp,fun j _ hj=>cM w2 ⟨g,Oy.length,none⟩ v' j hj⟩;refine .inr ⟨Qu,Oy,v',n+1,k,rfl,h2,?_,?_,by omega,fun i x u hx hu=>(h6 i x u hx hu).ext ?_⟩
 ·have:=ei.set se h3' (i:=Oy.length) (j:=0) (x:=ul) (y:=v') (u:=v') (by simp) (by omega) rfl
  rw [aW,aJ]at this;simpa using this
 ·rw [List.replicate_succ']
  exact ho.keeps Q8 Ti
 ·refine iY (P:=fun i=>eO ul i\/i=g) ((hk.mono (fun i hi=> .inl hi)).trans Q8 (fun i hi=> .inl (.inr hi))) (fun i _ hi=>mB.2 ?_) (fun i Nu hi=>mB.2 ?_)
  ·rcases hi with hi | rfl
   ·exact .inr hi
   ·exact .inl (.inr rfl)
  ·rcases mB.1 hi with hi | hi
   ·exact .inl hi
   ·rcases hs i hi with h | h
    ·exact .inr h
    ·omega
theorem iS.new {w1 w2:World} {B:Nat} {v v':Value} {rs:List (Nat × Int)} {us:List Value} {k:Int} (h:iS w1 B v rs) (hu:ei 26 1 sx w1 B v us)
  (hus:us.length=rs.length) (ho:ei 26 1 sx w2 B v' (us++[.slice (some ⟨w1.heap.size,0,none⟩) 1 1]))
  (hk:ep (eO v) (w1.alloc (.cells #[.int .i64 k] 3)) w2) (hs:eQ w1 v v') (hB:B <=w1.heap.size)
  (heq:∀Qu Oy ul n k',rs=Qu++[(n,k')] ->Oy.length=Qu.length ->ei 26 1 sx w1 B v (Oy++[ul]) ->us=Oy++[ul]):
  iS w2 B v' (rs++[(1,k)]):=by
 have NG:Below w1.heap.size w1 (w1.alloc (.cells #[.int .i64 k] 3)):=(an _ _).alloc (ag _) _;have Te:∀i,eO v i ->i < w1.heap.size:=fun i hi=>(eM hu hi).2;have hnew:eS w2 w1.heap.size #[.int .i64 k] 3:=(eS.new w1 #[.int .i64 k] 3).keeps hk (fun hi=>by have:=Te _ hi;omega);have Oc:w1.heap.size < w2.heap.size:=hnew.lt;have honew:ei 3 1 fk w2 B (.slice (some ⟨w1.heap.size,0,none⟩) 1 1) (List.replicate 1 k):=
  ⟨by simp [fk], .inr ⟨w1.heap.size,1,#[.int .i64 k],rfl,hB,hnew,ag _,by simp [maxLen],by simp,by simp [fk]⟩⟩
 have OT:ep (eO v) w1 w2:=(ep.et NG).trans hk (fun i hi=> .inl hi);have hS:∀ul:Value,∀i,i < w1.heap.size ->B7 B v' (.slice (some ⟨w1.heap.size,0,none⟩) 1 1) i=true ->B7 B v ul i=true:=fun ul i Nu hi=>by
  rcases mB.1 hi with(hi | hi) | hi
  ·exact mB.2 (.inl (.inl hi))
  ·rcases hs i hi with h | h
   ·exact mB.2 (.inl (.inr h))
   ·omega
  ·simp [eO,Value.ownBlock]at hi
   omega
 rcases h with⟨rfl,rfl⟩ | ⟨Qu,Oy,ul,n,k',rfl,h2,h3,h4,h5,h6⟩
 ·have he:us=[]:=aI hus
  subst he;exact .inr ⟨[],[],_,1,k,rfl,rfl,ho,honew,ag _,fun i x u hx=>by simp at hx⟩
 ·obtain rfl:=heq Qu Oy ul n k' rfl h2 h3
  have h4k:ei 3 1 fk w2 B ul (List.replicate n k'):=h4.keeps OT (fun i hi hv=>ei.ne h4 h3 (by decide) i hi hv);refine .inr ⟨Qu++[(n,k')],Oy++[ul],_,1,k,rfl,by simp [h2],ho,honew,ag _,fun i x u hx hu=>?_⟩;rcases Nat.lt_trichotomy i Qu.length with g | g | g
  ·rw [bD g]at hx
   rw [bD (by omega)]at hu;exact(h6 i x u hx hu).ext (iY OT (fun i _ hi=>mB.2 (.inl (.inr hi))) (fun i Nu hi=>hS ul i Nu hi))
  ·subst g
   rw [bo (ag _)]at hx;rw [bo (by omega)]at hu;simp [h2]at hx hu;subst hx hu;refine⟨Bn ym h4k (fun i hi=>?_),h5⟩;cases hb:B7 B v' (.slice (some ⟨w1.heap.size,0,none⟩) 1 1) i with
   | false=>rfl
   | true=>
    exfalso;have h7:=eM h4 hi;rcases mB.1 hb with(h | h) | h
    ·omega
    ·exact ei.ne h4k ho (by decide) i hi h
    ·simp [eO,Value.ownBlock]at h
     omega
  ·rw [da (by simp;omega)]at hx
   cases hx
def so {α β:Type} (fv k:Nat) (enc:α × β ->List Value) (inner:World ->α ->β ->Prop) (val:α ->β ->Value):Prop:=∀(w0:World) (put:α ->List UInt8) (C:Nat) (b:Value) (xs:List UInt8) (v:Value) (l:List α) (B:Nat) (w:World) (Nq:Nat),(∀args w,(callFunc Nq args).run prog w= .ok (.enter Nq args) w) ->eD k enc inner w0 v l ->eC w B b xs ->B <=w.heap.size ->Src w0 w B ->xs.length+(ix put l).length <=C ->C <=900000000 ->
 (∀e∈l,∀u,inner w0 e u ->∀b xs w,eC w B b xs ->xs.length <=C ->B <=w.heap.size ->Src w0 w B ->Calls prog Nq #[b,val e u] w (iw xs (put e) B b w)) ->Calls prog fv #[b,v, .func (.func Nq) #[] #[]] w (iw xs (ix put l) B b w)
def AJ {α β:Type} (fv k:Nat) (enc:α × β ->List Value) (inner:World ->α ->β ->Prop) (val:α ->β ->Value):Prop:=∀(w0:World) (put:α ->List UInt8) (no:Nat) (_:no < 256) (b:Value) (xs:List UInt8) (v:Value) (l:List α) (B:Nat) (w:World) (Nq:Nat),(∀args w,(callFunc Nq args).run prog w= .ok (.enter Nq args) w) ->eD k enc inner w0 v l ->Row w B b xs ->B <=w.heap.size ->Below w0.heap.size w0 w ->xs.length+(ix put l).length <=100000000 ->
 (∀e∈l,∀u,inner w0 e u ->∀b xs w B,eC w B b xs ->xs.length <=100000000 ->B <=w.heap.size ->Src w0 w B ->Calls prog Nq #[b,val e u] w (iw xs (put e) B b w)) ->Calls prog fv #[b, .int .i64 no,v, .func (.func Nq) #[] #[]] w (D9 xs (gA (b8 no) put l) B b w)
theorem pN:so 268 2 pU hI (fun _ u=> .agg #[u.1,u.2])/\so 276 2 pV gW (fun _ u=> .agg #[u.1,u.2])/\so 275 2 sq il (fun e u=> .agg #[.int .i64 e.off,u])/\so 280 2 ou gG (fun e u=> .agg #[.int .i64 e.off,u])/\so 277 1 KA nk (fun _ u=>u):=by
 refine⟨?_,?_,?_,?_,?_⟩
 all_goals
  intro w0 put C b xs v l B w Nq hE hl Nl hB h0 hC Qx hp;have HP:=V hp;have HL:=V hl;have H0:=V h0;have HC:=V hC;have HW:=V (Wr.refl Nl);have hxs:xs.length <=900000000:=by omega
  obtain⟨a,cap,rfl,PV,Ow⟩:=eD.slice hl;clear hp hl h0 hC Nl Qx
  first | go_enter func268,ntmps268 | go_enter func276,ntmps276 | go_enter func275,ntmps275 | go_enter func280,ntmps280 | go_enter func277,ntmps277
  go_wp2_with fail;refine(jC b xs l.length (by omega) B w HW.out.1 (by omega) hB).mono ?_;rintro e w2 ⟨v2,rfl,ho,hk,hs⟩;have Ov:=V (HW.out.step ⟨ho,hk,hs⟩);have OF:=V (H0.out.next HW.out.1 ⟨ho,hk,hs⟩);clear ho hk hs;go_wp2_with fail;refine eR (fun a' w'=>∃(vb:Value) (k:Nat),a'=fr (vb::gs a' 1 1 (.func (.func Nq) #[] #[]::gs a' 3 10 (.slice a l.length cap:: .int .i64 l.length:: .int .i64 k::gs a' 16 9 [])))/\Mc w0 put xs l B b w w' vb k) (fun a' _=>(l.length - (intOf (a'.tmps.getD 15 undef)).toNat)) ?_ ?_
  ·exact⟨_,0,rfl,by omega,by simpa using Ov.out,OF.out⟩
  ·skip
   clear HW Ov OF H0 v2;rintro R a' w1 ⟨vb,k,Nm,hJ⟩ HR;dsimp only [fr,gs]at Nm;generalize slot a'=f at Nm;subst Nm;obtain⟨hk,hwr,hsr⟩:=hJ;have HW:=V hwr;have HS:=V hsr;have HC1:=V (show(xs++(ff l.length++((l.take k).map put).flatten)).length <=C by
    have h1:=HC.out;have h2:=yI put l k;simp only [ix,ah]at*;omega)
   clear hwr hsr;by_cases q:k < l.length;rotate_left
   ·obtain rfl:k=l.length:=by omega
    have HW:=V (show Wr w b B w1 vb (xs++ix put l)by have:=HW.out;rwa [aU]at this);go_wp2;go_ret;exact⟨_,rfl,HW.out⟩
   obtain⟨x,hx⟩:∃x,l[k]?=some x:=⟨_,aq q⟩;obtain⟨bb,off,u,rfl,Nu,Rq,hu⟩:=eD.get HL.out hx;have HU:=V hu;have c0:=(HS.out.1.cell Nu).trans (Rq 0 _ rfl)
   try have c1:=(HS.out.1.cell Nu).trans (Rq 1 _ rfl)
   try have c2:=(HS.out.1.cell Nu).trans (Rq 2 _ rfl)
   rw [aJ]at c0
   try rw [aW]at c0
   first
    | (obtain⟨⟨a1,NI,OW,-,-,-⟩,-⟩:=id hu;rw [bB]at OW;subst OW)
    | (obtain⟨⟨a1,NI,rfl,-,-,-⟩,-⟩:=id hu)
    | (obtain⟨u1,u2⟩:=u;obtain⟨⟨⟨a1,NI,OW,-,-,-⟩,⟨a2,Nr,OZ,-,-,-⟩⟩,-⟩:=id hu;simp only at OW OZ;subst OW OZ)
    | (obtain⟨u1,u2⟩:=u;obtain⟨⟨⟨a1,NI,OW,-,-,-⟩,N3⟩,-⟩:=id hu;obtain⟨a2,Nr,OZ,-,-⟩:=eD.slice N3;simp only at OW OZ;subst OW OZ;clear N3)
   have HX:=V hx;clear Rq hx hu;go_wp2_with fail;refine(HP.out x (aN HX.out) _ HU.out _ _ _ (by first | exact HW.out.1 | exact(HW.out.alloc _).1) HC1.out (by first | exact HW.out.base hB | exact(HW.out.alloc _).base hB) (by first | exact HS.out | exact HS.out.alloc _)).mono ?_;rintro e w2 ⟨v2,rfl,NU,Nw,NC⟩;have Ov:=V (Wr.step (by first | exact HW.out | exact HW.out.alloc _) ⟨NU,Nw,NC⟩);have OF:=V (Src.next (by first | exact HS.out | exact HS.out.alloc _) (by first | exact HW.out.1 | exact(HW.out.alloc _).1) ⟨NU,Nw,NC⟩);clear NU Nw NC c0
   try clear c1
   try clear c2
   go_wp2;refine HR.out _ _ ⟨_,k+1,rfl,by omega,?_,OF.out⟩ ?_
   ·have:=Ov.out
    rw [aR,HX.out];simpa using this
   ·simp [intOf]
    omega
theorem I8:so 268 2 pU hI (fun _ u=> .agg #[u.1,u.2]):=pN.1
theorem Gb:so 276 2 pV gW (fun _ u=> .agg #[u.1,u.2]):=pN.2.1
theorem Gm:so 275 2 sq il (fun e u=> .agg #[.int .i64 e.off,u]):=pN.2.2.1
theorem Hm:so 280 2 ou gG (fun e u=> .agg #[.int .i64 e.off,u]):=pN.2.2.2.1
theorem GB:so 277 1 KA nk (fun _ u=>u):=pN.2.2.2.2
theorem sg:(so 268 2 pU hI (fun _ u=> .agg #[u.1,u.2]) ->AJ 165 2 pU hI (fun _ u=> .agg #[u.1,u.2]))/\(so 276 2 pV gW (fun _ u=> .agg #[u.1,u.2]) ->AJ 186 2 pV gW (fun _ u=> .agg #[u.1,u.2]))/\(so 275 2 sq il (fun e u=> .agg #[.int .i64 e.off,u]) ->AJ 183 2 sq il (fun e u=> .agg #[.int .i64 e.off,u]))/\(so 280 2 ou gG (fun e u=> .agg #[.int .i64 e.off,u]) ->AJ 188 2 ou gG (fun e u=> .agg #[.int .i64 e.off,u])):=by
 refine⟨?_,?_,?_,?_⟩
 all_goals
  intro HV w0 put no OD b xs v l B w Nq hE hl Nl hB h0 hC hp;have HP:=V hp;have HL:=V hl;have H0:=V h0;have HW:=V (zo.refl Nl);obtain⟨a,cap,rfl,PV,Ow⟩:=eD.slice hl;clear hp hl h0 Nl;by_cases q:l.length=0
  ·have f1:=eV (show(l.length:Int)=0 by omega)
   have HN:=V (show l=[]from aI q);clear q
   first | go_enter func165,ntmps165 | go_enter func186,ntmps186 | go_enter func183,ntmps183 | go_enter func188,ntmps188
   go_wp2;go_ret;exact⟨_,rfl,by rw [HN.out];simpa [gA] using HW.out⟩
  ·have f1:=eh (show ¬ (l.length:Int)=0 by omega)
   have HN:Hid (gA (b8 no) put l=b8 no::(ff (ix put l).length++ix put l)):=V (by
    cases l with
    | nil=>exact absurd rfl q
    | cons x l=>rfl)
   clear q
   first | go_enter func165,ntmps165 | go_enter func186,ntmps186 | go_enter func183,ntmps183 | go_enter func188,ntmps188
   go_wp2_with fail;refine(HV w0 put 100000000 (.slice none 0 0) [] _ l w.heap.size w Nq hE HL.out (eC.nil _ _) (ag _) ⟨H0.out,H0.out.size⟩ (by simp only [aH];omega) (by decide) (fun e he u hu b xs w ho hx hB h0=>HP.out e he u hu b xs w _ ho hx hB h0)).mono ?_;rintro e w2 ⟨v2,rfl,ho,hk,hs⟩;rw [bY]at ho;have No:=sV hk rfl;have HO:=V ho;have Ov:=V (HW.out.below No);obtain⟨a2,Nr,ev2,-,-,-⟩:=ho.gK;subst ev2;have hdis:∀i,eO (.slice a2 (ix put l).length Nr) i ->¬ eO b i:=fun i h1 h2=>by
    have:=(eM HO.out h1).1;have:=(HW.out.1.lt h2).2;omega
   have HD:=V hdis;clear ho hk hs hE hdis;go_wp2_with (first | (at_builtin;refine sh w2 rfl _ _ rfl rfl B b _ rfl Ov.out.1 (b8 no) _ ?_ ?_ ?_ ?_ ?_))
   ·rw [gZ OD]
   ·rfl
   ·omega
   ·exact Ov.out.base hB
   intro v3 w3 ho hk hs;have R9:=V (Ov.out.own ⟨ho,hk,hs⟩);have HO3:=V (HO.out.keeps hk HD.out);have HD3:=V (show∀i,eO (.slice a2 (ix put l).length Nr) i ->¬ eO v3 i from fun i h1 h2=>(hs i h2).elim (HD.out i h1) (fun g=>by have:=(eM HO.out h1).2;omega));clear ho hk hs;go_wp2_with fail;refine(jC v3 _ (ix put l).length (by omega) B w3 R9.out.1 (by simp only [ah,aB];omega) (R9.out.base hB)).mono ?_;rintro e w4 ⟨v4,rfl,ho,hk,hs⟩;have PA:=V (R9.out.step ⟨ho,hk,hs⟩);have Q7:=V (HO3.out.keeps hk HD3.out);have hp4:=(eU (ix put l).length).2;clear ho hk hs;go_wp2_with (first | (at_builtin;refine ja w4 rfl _ _ rfl rfl B v4 _ rfl PA.out.1 _ _ rfl Q7.out.gK (by simp only [ah,aB];omega) (PA.out.base hB) ?_));intro v5 w5 ho hk hs;have S3:=V (PA.out.step ⟨ho,hk,hs⟩);clear ho hk hs;go_wp2;go_ret;exact⟨_,rfl,by rw [HN.out];exact S3.out.row⟩
theorem Jb:AJ 165 2 pU hI (fun _ u=> .agg #[u.1,u.2]):=sg.1 I8
theorem G3:AJ 186 2 pV gW (fun _ u=> .agg #[u.1,u.2]):=sg.2.1 Gb
theorem Hg:AJ 183 2 sq il (fun e u=> .agg #[.int .i64 e.off,u]):=sg.2.2.1 Gm
theorem Ga:AJ 188 2 ou gG (fun e u=> .agg #[.int .i64 e.off,u]):=sg.2.2.2 Hm
theorem KE (w0:World) (e:Nat × Int) (u:Value) (hu:nk w0 e u) (b:Value) (xs:List UInt8) (w:World) (B:Nat) (Nl:eC w B b xs) (hn:xs.length <=800000000) (hB:B <=w.heap.size) (h0:Src w0 w B) (hm:e.1 <=1000000):
  Calls prog 278 #[b,u] w (iw xs (zC e) B b w):=by
 obtain⟨n,k⟩:=e;have hn1:1 <=n:=hu.2;have Q9:n <=1000000:=hm;have hp:=(eU n).2;obtain⟨a,cap,rfl,PV,Ow,hc3⟩:=hu.1;obtain⟨X,off,rfl,Nu,NA⟩:=hc3 0 k (by rw [List.getElem?_replicate];simp;omega);have RE:=NA 0 _ rfl;rw [dX,aJ]at RE;simp only [bB]at PV⊢;have HC:=V RE;have HLT:=V Nu;have HW:=V (Wr.refl Nl);have HS:=V h0;have c0:=(HS.out.1.cell HLT.out).trans HC.out;clear NA hc3 RE Nu hu Nl h0 hm;go_enter func278,ntmps278;go_wp2_with fail;refine eB (fun w'=>w'.cell? ⟨X,off,none⟩=some (.int .i64 k)) (up 0 3 (up 4 3 ((3,false)::(7,false)::(8,true)::[]))) (by kernel_rfl) (by kernel_rfl) c0 ?_;have HW:=V HW.out.drew;have HS:=V HS.out.drew;generalize w.drew=wa at HW HS⊢;iterate 6 (first | (apply sk rfl rfl;simp only [pt]) | (apply eo rfl rfl rfl;·(rintro w' t0;go_wp2;exact⟨rfl,rfl,rfl⟩)))
 refine ew rfl rfl ?_;go_wp2_with fail;refine(jC b xs n (by omega) B wa HW.out.1 (by omega) (HW.out.base hB)).mono ?_;rintro e w1 ⟨v1,rfl,ho,hk,hs⟩;have HS:=V (HS.out.next HW.out.1 ⟨ho,hk,hs⟩);have HW:=V (HW.out.step ⟨ho,hk,hs⟩);clear ho hk hs;have c0:=(HS.out.1.cell HLT.out).trans HC.out;go_wp2_with fail;refine⟨c0,?_⟩;refine ew rfl rfl ?_;go_wp2_with fail;refine(nS v1 _ k B w1 HW.out.1 (by simp only [ah];omega) (HW.out.base hB)).mono ?_;rintro e w2 ⟨v2,rfl,ho,hk,hs⟩;have HS:=V (HS.out.next HW.out.1 ⟨ho,hk,hs⟩);have HW:=V (HW.out.step ⟨ho,hk,hs⟩);clear ho hk hs;have c0:=(HS.out.1.cell HLT.out).trans HC.out;go_wp2_with fail;refine⟨c0,?_⟩;iterate 1 (first | (apply sk rfl rfl;simp only [pt]) | (apply eo rfl rfl rfl;·(rintro w' t0;go_wp2;exact⟨rfl,rfl,rfl⟩)))
 refine eW ?_;refine aA ?_;go_wp2;go_ret;exact⟨_,rfl,by show Wr _ _ _ _ _ _;simpa [zC] using HW.out⟩
section
def zc (x:nt):List Value:=[.int .i64 x.op, .int .i64 x.kind, .int .i64 x.fb, .bool x.dead]
theorem jW (x:nt):(zc x).length=4:=rfl
theorem Io (x:nt):∀u∈zc x,u.oneCell'=true:=by
 intro u hu;simp only [zc,bx,bI,cH]at hu;rcases hu with rfl | rfl | rfl | rfl <;>rfl
theorem xQ:(prog.info? 191).map (fun i=>(i.zero,i.size,i.bytes))=some (some (.agg #[.int .i64 0, .int .i64 0, .int .i64 0, .bool false]),4,32):=by kernel_rfl
section
variable {α:Type} {k:Nat} {enc:α ->List Value} {t:TypeId}
theorem vT (hk:∀x,(enc x).length=k):∀(l:List α) (n:Nat),(l.take n).flatMap enc=(l.flatMap enc).take (n*k)
 | [],n=>by simp
 | x::l,0=>by simp
 | x::l,n+1=>by
  rw [List.take_succ_cons,bK,bK,vT hk l n,List.take_append,cW (l:=enc x) (i:=(n+1)*k) (by rw [hk,cU];omega)]
  congr 2
  rw [hk,cU];omega
theorem ei.take {w:World} {B:Nat} {a:Option Addr} {n cap:Nat} {l:List α} (hk:∀x,(enc x).length=k) (h:ei t k enc w B (.slice a n cap) l) (m:Nat) (hm:m <=l.length):ei t k enc w B (.slice a m cap) (l.take m):=by
 obtain⟨hl,hv | ⟨g,NK,cur,hv,hb,hg,hn,hx,hs,ht⟩⟩:=h
 ·obtain⟨hv,h0⟩:=hv
  injection hv with e1 e2 e3;subst e1 e2 e3;obtain rfl:=aI h0;obtain rfl:m=0:=by simpa using hm
  exact ei.nil _ _
 ·injection hv with e1 e2 e3
  subst e1 e2 e3;have hlen:(l.take m).length=m:=by rw [aP];omega
  refine⟨by rw [kf hk], .inr ⟨g,cap,cur,by rw [hlen],hb,hg,by rw [hlen];omega,hx,hs,?_⟩⟩;rw [hlen,vT hk, <- ht,List.take_take]
  congr 1
  have:m*k <=l.length*k:=cO k hm;omega
theorem ei.slice {w:World} {B:Nat} {v:Value} {l:List α} (h:ei t k enc w B v l):∃a cap,v= .slice a l.length cap/\l.length <=cap/\cap <=9223372036854775807:=by
 obtain⟨_,hv | ⟨g,cap,cur,hv,hb,hg,hn,hm,hs,ht⟩⟩:=h
 ·exact⟨none,0,by rw [hv.1,hv.2],by rw [hv.2];exact ag _,by omega⟩
 ·exact⟨_,cap,hv,hn,by simpa [maxLen] using hm⟩
theorem ei.same {a:Option Addr} {n n' cap:Nat}:∀i,eO (.slice a n cap) i↔eO (.slice a n' cap) i:=fun i=>by
 cases a <;>simp [eO,Value.ownBlock]
end
end
def fZ (w0 w:World) (R:Nat) (st:gV):Prop:=
 ∃a l cap bad,eS w R #[.slice a (List.length l) cap, .bool bad] 196/\eZ w0 (.slice a l.length cap) l/\l.length <=8000/\st=(if bad=true then none else some l)/\Below w0.heap.size w0 w/\w0.heap.size <=R
theorem fZ.keeps {w0 w w':World} {R:Nat} {st:gV} {S:Nat ->Prop} (h:fZ w0 w R st) (hk:ep S w w') (hR:¬ S R) (hS:∀i,S i ->w0.heap.size <=i):fZ w0 w' R st:=by
 obtain⟨a,l,cap,bad,h1,h2,h3,h4,h5,h6⟩:=h;exact⟨a,l,cap,bad,h1.keeps hk hR,h2,h3,h4,h5.trans (hk.below h5.size hS),h6⟩
theorem fZ.below {w0 w w':World} {R:Nat} {st:gV} (h:fZ w0 w R st) (hk:Below w.heap.size w w'):fZ w0 w' R st:=by
 obtain⟨a,l,cap,bad,h1,h2,h3,h4,h5,h6⟩:=h;exact⟨a,l,cap,bad,h1.below hk h1.lt,h2,h3,h4,h5.trans (hk.mono h5.size),h6⟩
theorem fZ.drew {w0 w:World} {R:Nat} {st:gV} (h:fZ w0 w R st):fZ w0 w.drew R st:=by
 obtain⟨a,l,cap,bad,h1,h2,h3,h4,h5,h6⟩:=h;exact⟨a,l,cap,bad,h1.drew,h2,h3,h4,h5.drew,h6⟩
theorem fZ.alloc {w0 w:World} {R:Nat} {st:gV} (h:fZ w0 w R st) (o:Obj):fZ w0 (w.alloc o) R st:=h.below ((an _ _).alloc (ag _) o)
theorem fZ.bad {w0 w:World} {R:Nat} {st:gV} (h:fZ w0 w R st):w.cell? ⟨R,1,none⟩=some (.bool st.isNone):=by
 obtain⟨a,l,cap,bad,h1,h2,h3,h4,h5,h6⟩:=h;rw [show w.cell? ⟨R,1,none⟩=some (.bool bad)from h1.cell 1,h4];cases bad <;>rfl
theorem fZ.lt {w0 w:World} {R:Nat} {st:gV} (h:fZ w0 w R st):R < w.heap.size:=by
 obtain⟨a,l,cap,bad,h1,h2,h3,h4,h5,h6⟩:=h;exact h1.lt
theorem fZ.old {w0 w:World} {R:Nat} {st:gV} (h:fZ w0 w R st):Below w0.heap.size w0 w/\w0.heap.size <=R:=by
 obtain⟨a,l,cap,bad,h1,h2,h3,h4,h5,h6⟩:=h;exact⟨h5,h6⟩
theorem fZ.len {w0 w:World} {R:Nat} {st:gV} (h:fZ w0 w R st):st.len <=8001:=by
 obtain⟨a,l,cap,bad,h1,h2,h3,h4,h5,h6⟩:=h;subst h4;cases bad
 ·show l.length+1 <=8001
  omega
 ·show 0 <=8001
  omega
def Bc (w0 w:World) (R:Nat) (v:Value) (st:gV) (e:Ending) (w':World):Prop:=e= .returned v/\fZ w0 w' R st/\ep (fun k=>k=R) w w'
theorem wO {L:List UInt8} (n:Nat) (hn:n <=L.length) (a:Option Addr) (cap:Nat):∃a2 Nr,
  (∀wx,(Instr.slice 104 (.slice a L.length cap) (some (.int .i64 n)) none none).run prog wx= .ok (.slice a2 (L.drop n).length Nr) wx)/\
  (∀wy,eZ wy (.slice a L.length cap) L ->eZ wy (.slice a2 (L.drop n).length Nr) (L.drop n)):=by
 have h:=oY (cE n L).symm a cap;rw [aP,cq hn]at h;obtain⟨a2,Nr,h1,h2,_⟩:=h;exact⟨a2,Nr,h1,h2⟩
def iO (n:Nat) (ok:Bool) (st:gV):gV:=st.bind fun l=>if ok=true/\n <=l.length then some (l.drop n)else none
theorem lp (w0 w:World) (R:Nat) (st:gV) (n:Nat) (ok:Bool) (hn:n <=9223372036854775807) (h:fZ w0 w R st):
  Calls prog 120 #[.pointer (some ⟨R,0,none⟩), .int .i64 n, .bool ok] w (Bc w0 w R (.tuple #[]) (iO n ok st)):=by
 obtain⟨a,l,cap,bad,ND,hl,hlen,NH,NG,Rr⟩:=h;have Oq:=V ND;have HL:=V hl;have RF:=V NG;have Rw:=V Rr;have c0:w.cell? ⟨R,0,none⟩=some (.slice a l.length cap):=ND.cell 0;have c1:w.cell? ⟨R,1,none⟩=some (.bool bad):=ND.cell 1;have z0:=ND.free 0;have z1:=ND.free 1;clear ND hl NG Rr;subst NH;cases bad with
 | true=>
  have HS:Hid (iO n ok (if true=true then none else some l)=(if true=true then none else some l)):=V rfl;go_enter func120,ntmps120;go_wp2
  go_end0
  exact⟨rfl,⟨a,l,cap,true,by simpa using Oq.out.set 1 (.bool true),HL.out,hlen,HS.out,RF.out.setCell Rw.out _,Rw.out⟩,fC _ R 1 _⟩
 | false=>
  cases ok with
  | false=>
   have HS:Hid (iO n false (if false=true then none else some l)=(if true=true then none else some l)):=V rfl;go_enter func120,ntmps120;go_wp2
   go_end0
   exact⟨rfl,⟨a,l,cap,true,by simpa using Oq.out.set 1 (.bool true),HL.out,hlen,HS.out,RF.out.setCell Rw.out _,Rw.out⟩,fC _ R 1 _⟩
  | true=>
   by_cases q:n <=l.length
   ·have f1:decide (l.length < n)=false:=aw (by omega)
    have HS:Hid (iO n true (if false=true then none else some l)=(if false=true then none else some (l.drop n))):=V (by simp [iO,q]);have HD:Hid ((l.drop n).length <=8000):=V (by rw [bu];omega);obtain⟨a2,Nr,Nz,hi⟩:=wO n q a cap;have HI:=V hi;clear q hi;go_enter func120,ntmps120;go_wp2
    go_end0
    exact⟨rfl,⟨a2,l.drop n,Nr,false,by simpa using (Oq.out.set 1 (.bool false)).set 0 (.slice a2 (l.drop n).length Nr),HI.out _ HL.out,HD.out,HS.out,(RF.out.setCell Rw.out _).setCell Rw.out _,Rw.out⟩,(fC _ R 1 _).trans (fC _ R 0 _) (fun _ h=> .inl h)⟩
   ·have f1:decide (l.length < n)=true:=ay (by omega)
    have HS:Hid (iO n true (if false=true then none else some l)=(if true=true then none else some l)):=V (by simp [iO,q]);clear q;go_enter func120,ntmps120;go_wp2
    go_end0
    exact⟨rfl,⟨a,l,cap,true,by simpa using Oq.out.set 1 (.bool true),HL.out,hlen,HS.out,RF.out.setCell Rw.out _,Rw.out⟩,fC _ R 1 _⟩
def jJ (st:gV):Nat:=((st.bind gD).map (·.1)).getD 0
theorem nM (st:gV):ie gD st (jJ st):=fun y hy=>by rw [jJ,hy];rfl
theorem xR (l:List UInt8):(iB 32 l).1 < 4294967296:=by
 unfold iB;split
 ·simp
 ·split
  ·rename_i h
   have:(2:Nat)^(32:Int).toNat=4294967296:=by decide
   omega
  ·simp
theorem mi (st:gV):jJ st < 4294967296:=by
 unfold jJ;cases st with
 | none=>simp
 | some l=>
  simp only [ao];unfold gD;split
  ·exact xR l
  ·simp
theorem kg (w0 w:World) (R:Nat) (st:gV) (h:fZ w0 w R st):Calls prog 122 #[.pointer (some ⟨R,0,none⟩)] w (Bc w0 w R (.int .i64 (jJ st)) (eK gD st)):=by
 have HH:=V h;obtain⟨a,l,cap,bad,ND,hl,hlen,NH,NG,Rr⟩:=h;have c0:w.cell? ⟨R,0,none⟩=some (.slice a l.length cap):=ND.cell 0;have HL:=V (hl.below NG);obtain⟨x,k,err,hr⟩:∃x k err,iB 32 l=(x,k,err):=⟨_,_,_,rfl⟩;have hx:=xR l;have hk:=yR 32 l;rw [hr]at hx hk;simp only at hx hk;have HN:Hid (eK gD st=iO k (err==0) st):=V (by
  rw [NH];cases bad with
  | true=>rfl
  | false=>
   simp only [eK,gD,iO,hr,bM,dB,ao];by_cases q:err=0
   ·rw [aE q,aE ⟨by simp [q],hk⟩]
    rfl
   ·rw [az q,az (by simp [q])]
    rfl)
 have HV:Hid (jJ st=if(iO k (err==0) st).isNone=true then 0 else x):=V (by
  rw [<- HN.out,NH];cases bad with
  | true=>rfl
  | false=>
   simp only [eK,gD,jJ,hr,bM,dB,ao];by_cases q:err=0
   ·rw [aE q];rfl
   ·rw [az q];rfl)
 clear ND hl NH NG Rr;go_enter func122,ntmps122;go_wp2_with fail;refine(wW _ l 32 _ HL.out (by omega) (by omega)).mono ?_;rintro e w1 ⟨rfl,hb⟩;rw [hr];have HB:=V (ep.et (S:=fun k=>k=R) hb);have HH1:=V (HH.out.below hb);clear hr hb c0;go_wp2_with fail;refine(lp w0 w1 R _ k (err==0) (by omega) HH1.out).mono ?_;rintro e w2 ⟨rfl,h2,Nw⟩;have c1:=h2.bad;rw [<- HN.out]at h2;have HH2:=V h2;have HK:=V (HB.out.trans Nw (fun _ h=> .inl h));clear h2 Nw HB;cases hq:(iO k (err==0) st).isNone
 ·rw [hq]at c1
  have HV:=V (show jJ st=x by have:=HV.out;rw [hq]at this;exact this);clear hq;go_wp2;go_ret;exact⟨by rw [HV.out];rfl,HH2.out,HK.out⟩
 ·rw [hq]at c1
  have HV:=V (show jJ st=0 by have:=HV.out;rw [hq]at this;exact this);clear hq;go_wp2;go_ret;exact⟨by rw [HV.out];rfl,HH2.out,HK.out⟩
def nn (st:gV):UInt8:=((st.bind fp).map (·.1)).getD 0
theorem ni (st:gV):ie fp st (nn st):=fun y hy=>by rw [nn,hy];rfl
theorem jn (w0 w:World) (R:Nat) (st:gV) (h:fZ w0 w R st):Calls prog 121 #[.pointer (some ⟨R,0,none⟩)] w (Bc w0 w R (bv (nn st)) (eK fp st)):=by
 obtain⟨a,l,cap,bad,ND,hl,hlen,NH,NG,Rr⟩:=h;have Oq:=V ND;have HL:=V hl;have RF:=V NG;have Rw:=V Rr;have c0:w.cell? ⟨R,0,none⟩=some (.slice a l.length cap):=ND.cell 0;have c1:w.cell? ⟨R,1,none⟩=some (.bool bad):=ND.cell 1;have z0:=ND.free 0;have z1:=ND.free 1;clear ND hl NG Rr;subst NH;cases bad with
 | true=>
  go_enter func121,ntmps121;go_wp2;go_ret;exact⟨rfl,⟨a,l,cap,true,by simpa using Oq.out.set 1 (.bool true),HL.out,hlen,rfl,RF.out.setCell Rw.out _,Rw.out⟩,fC _ R 1 _⟩
 | false=>
  cases l with
  | nil=>
   have f1:((([]:List UInt8).length:Int)==0)=true:=rfl;go_enter func121,ntmps121;go_wp2;go_ret;exact⟨rfl,⟨a,[],cap,true,by simpa using Oq.out.set 1 (.bool true),HL.out,hlen,rfl,RF.out.setCell Rw.out _,Rw.out⟩,fC _ R 1 _⟩
  | cons c r=>
   obtain⟨L,hL⟩:∃L,L=c::r:=⟨_,rfl⟩;rw [<- hL]at c0 Oq HL hlen⊢;have R0:0 < L.length:=by rw [hL];simp
   have f1:((L.length:Int)==0)=false:=eh (by omega);have HV:Hid (nn (some L)=c):=V (by rw [hL];rfl);have HS:Hid (eK fp (some L)=(if false=true then none else some (L.drop 1))):=V (by rw [hL];rfl);have HD:Hid ((L.drop 1).length <=8000):=V (by rw [bu];omega);obtain⟨a2,Nr,Nz,hi⟩:=wO (L:=L) 1 (by omega) a cap;obtain⟨_,_,Qr,-,-,Nk⟩:=id (HL.out.below RF.out);injection Qr with e1 e2 e3;subst e1 e3;obtain⟨g,off,rfl,hg⟩:=Nk 0 c (by rw [hL];rfl);rw [aJ]at hg;have HI:=V hi;have hrun1:∀wx,(Instr.slice 104 (.slice (some ⟨g,off,none⟩) L.length cap) (some (.int .i64 1)) none none).run prog wx= .ok (.slice a2 (L.drop 1).length Nr) wx:=fun wx=>Nz wx;clear hi Nk e2 hL Nz;go_enter func121,ntmps121;go_wp2;go_ret;exact⟨by rw [HV.out];rfl,⟨a2,L.drop 1,Nr,false,by simpa using Oq.out.set 0 (.slice a2 (L.drop 1).length Nr),HI.out _ HL.out,HD.out,HS.out,RF.out.setCell Rw.out _,Rw.out⟩,fC _ R 0 _⟩
def oJ (st:gV):Int:=((st.bind gT).map (·.1)).getD 0
theorem yB (st:gV):ie gT st (oJ st):=fun y hy=>by rw [oJ,hy];rfl
theorem Bi (st:gV):eK gT st=(if(nn st).toNat=127\/(nn st).toNat=126 then eK fp st else none)/\oJ st=(if(nn st).toNat=127 then 1 else if(nn st).toNat=126 then 2 else 0):=by
 match st with
 | none=>exact⟨rfl,rfl⟩
 | some []=>exact⟨rfl,rfl⟩
 | some (c::l)=>
  have hb:nn (some (c::l))=c:=rfl;rw [hb];by_cases q1:c.toNat=127
  ·obtain rfl:c=127:=dC.1 q1
   exact⟨rfl,rfl⟩
  ·by_cases q2:c.toNat=126
   ·obtain rfl:c=126:=dC.1 q2
    exact⟨rfl,rfl⟩
   ·have hn:gT (c::l)=none:=by
     unfold gT;split
     ·rename_i h;injection h with h;subst h;exact absurd rfl q1
     ·rename_i h;injection h with h;subst h;exact absurd rfl q2
     ·rfl
    simp only [eK,oJ,ao,hn,q1,q2,or_self,dB];exact⟨rfl,rfl⟩
theorem vq (w0 w:World) (R:Nat) (st:gV) (h:fZ w0 w R st):Calls prog 283 #[.pointer (some ⟨R,0,none⟩)] w (Bc w0 w R (.int .i64 (oJ st)) (eK gT st)):=by
 have HH:=V h;obtain⟨hn,hv⟩:=Bi st;have HN:=V hn;have HV:=V hv;obtain⟨c,hc⟩:∃c,nn st=c:=⟨_,rfl⟩;have HC:=V hc;have hc8:=c.toNat_lt;clear h hn hv hc;go_enter func283,ntmps283;go_wp2_with fail;refine(jn w0 w R st HH.out).mono ?_;rintro e w1 ⟨rfl,h1,hk⟩;rw [HC.out];have HH1:=V h1;have HK:=V hk;by_cases q1:c.toNat=127
 ·have f1:((c.toNat:Int)==127)=true:=eV (by omega)
  have HN:=V (show eK gT st=eK fp st by rw [HN.out,HC.out,aE (.inl q1)]);have HV:=V (show oJ st=1 by rw [HV.out,HC.out,aE q1]);clear q1 h1 hk;go_wp2;go_ret;exact⟨by rw [HV.out];rfl,by rw [HN.out];exact HH1.out,HK.out⟩
 ·have f1:((c.toNat:Int)==127)=false:=eh (by omega)
  by_cases q2:c.toNat=126
  ·have f2:((c.toNat:Int)==126)=true:=eV (by omega)
   have HN:=V (show eK gT st=eK fp st by rw [HN.out,HC.out,aE (.inr q2)]);have HV:=V (show oJ st=2 by rw [HV.out,HC.out,az q1,aE q2]);clear q1 q2 h1 hk;go_wp2;go_ret;exact⟨by rw [HV.out];rfl,by rw [HN.out];exact HH1.out,HK.out⟩
  ·have f2:((c.toNat:Int)==126)=false:=eh (by omega)
   have HN:=V (show eK gT st=none by rw [HN.out,HC.out,az (by omega)]);have HV:=V (show oJ st=0 by rw [HV.out,HC.out,az q1,az q2]);obtain⟨a,l,cap,bad,ND,hl,hlen,-,NG,Rr⟩:=h1;have z1:=ND.free 1;have Oq:=V ND;have HL:=V hl;have RF:=V NG;have c1:w1.cell? ⟨R,1,none⟩=some (.bool bad):=ND.cell 1;clear q1 q2 hk ND hl NG;go_wp2;go_ret;exact⟨by rw [HV.out];rfl,by rw [HN.out];exact⟨a,l,cap,true,by simpa using Oq.out.set 1 (.bool true),HL.out,hlen,rfl,RF.out.setCell Rr _,Rr⟩,HK.out.trans (fC _ R 1 _) (fun _ h=> .inl h)⟩
end Go.Proofs.YtjmeglibedbljaaGreatDoor
