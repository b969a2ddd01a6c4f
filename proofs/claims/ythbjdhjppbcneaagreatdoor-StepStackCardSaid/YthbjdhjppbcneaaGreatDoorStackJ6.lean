import Derived.Test.YthbjdhjppbcneaaGreatDoorStackJ5
import Derived.Lib.SlBytesConst
import Derived.Lib.ConvBytes
namespace Go.Proofs.YthbjdhjppbcneaaGreatDoor
set_option maxRecDepth 100000
set_option maxHeartbeats 20000000
open Go.RowKit Tryz
open Lib renaming hid->V
set_option linter.all false
def IT (w0:World) (L:List UInt8) (l:List Int) (B:Nat) (b:Value) (X:Nat) (cs:Array Value) (t:TypeId) (w w':World) (v:Value) (k:Nat):Prop:=
 k <=l.length/\Wr w b B w' v (L++((l.take k).map fun n=>eL n.toNat).flatten)/\Aside w' v X cs t/\Src w0 w' B
theorem nT:∀l:List Int,(∀n∈l,fR n) ->(((l.map fun n=>eL n.toNat).flatten).length <=10*l.length)
 | [],_=>by simp
 | n::l,h=>by
  have h1:=(eD n.toNat).2;have h2:=nT l (fun x hx=>h x (by simp [hx]));simp only [bC,bS,ah,aI];omega
theorem nW (w0:World) (b:Value) (xs:List UInt8) (x:eK) (u:Value) (B:Nat) (w:World) (Ki:dU w B b xs) (hn:xs.length <=900000000) (hB:B <=w.heap.size)
  (hx:gJ w0 x u) (h0:Src w0 w B) (hm:x.may):
  Calls prog 260 #[b, .agg #[.int .i64 x.op, .int .i64 x.a, .int .i64 x.b,u]] w (fk xs (ij x) B b w):=by
 obtain⟨op,a,bb,l⟩:=x;have HM:=V hm;have HX:=V hx;have OL:=V Ki;obtain⟨au,Kr,rfl,Me,La,-⟩:=id hx.1;unfold maxLen at La;obtain⟨m1,m2,m3⟩:=id hm;simp only at m1 m2 m3 Me La;have hf:fG op≠0:=by
  rcases m3 with h | h | h | h | h | h | h | h | h <;>first | (rw [h.1];decide) | (rw [h];decide)
 obtain⟨o1,o2⟩:=vQ hf;have Qx:=nM op;obtain⟨n,rfl⟩:∃n:Nat,op=n:=⟨op.toNat,by omega⟩;obtain⟨f,hfe⟩:∃f,fG (n:Int)=f:=⟨_,rfl⟩;rw [hfe]at m1 m2 m3 hf Qx;have HB:Hid (ij ⟨n,a,bb,l⟩=b8 n::fY ⟨n,a,bb,l⟩):=V (by
  have:((n:Int).toNat %256)=n:=by omega
  rw [ij,this])
 have HF:=V hfe;have M3:=V m3;have M1:=V m1;have M2:=V m2;clear hm hx hfe m1 m2 m3;go_enter func260,ntmps260;have O9:Wr w b B (w.alloc (.cells #[.int .i64 n, .int .i64 a, .int .i64 bb, .slice au l.length Kr] 27)) b xs:=(Wr.refl Ki).alloc _;have ha1:=Aside.new Ki #[.int .i64 n, .int .i64 a, .int .i64 bb, .slice au l.length Kr] 27;have LV:=h0.alloc (.cells #[.int .i64 n, .int .i64 a, .int .i64 bb, .slice au l.length Kr] 27);go_wp2_with (first | (at_builtin;refine eV (w.alloc (.cells #[.int .i64 n, .int .i64 a, .int .i64 bb, .slice au l.length Kr] 27)) rfl _ _ rfl rfl B b xs rfl O9.1 (b8 n) _ ?_ ?_ ?_ ?_ ?_))
 ·rw [fJ (by omega)]
 ·omega
 ·omega
 intro v w2 ho hk hs;have ME:=O9.step ⟨ho,hk,hs⟩;have ha2:=ha1.next ⟨ho,hk,hs⟩;have Ku:=LV.next O9.1 ⟨ho,hk,hs⟩;have c0:=ha2.cell 0;have HW:=V ME;have HA:=V ha2;have HS:=V Ku;clear O9 ha1 LV ho hk hs ME ha2 Ku Ki h0;go_wp2_with fail;refine(tc n _).mono ?_;rintro e w3 ⟨rfl,K4⟩;rw [HF.out];have HW:=V (HW.out.below K4);have HA:=V (HA.out.below K4);have HS:=V (HS.out.below K4);have Pw:=HW.out.base hB;have c1:=HA.out.cell 1;have c2:=HA.out.cell 2;have c3:=HA.out.cell 3;clear K4 c0 hf Qx;rcases M3.out with⟨rfl,ra⟩ | ⟨rfl,ra1,ra2⟩ | ⟨rfl,ra1,ra2⟩ | ⟨rfl,⟨ra1,ra2⟩,rl,rs⟩ | ⟨rfl,ra1,ra2⟩ | ⟨rfl,⟨ra1,ra2⟩,rb1,rb2⟩ | ⟨rfl,ra⟩ | ⟨rfl,ra1,ra2⟩ | rfl
 ·clear ra M3
  go_wp2_with fail;go_ret;exact⟨_,rfl,by show Wr _ _ _ _ _ _;rw [HB.out];simpa [fY,HF.out] using HW.out⟩
 ·clear M3
  have key:∃c:UInt8,(a=0/\c=64)\/(a=1/\c=127)\/(a=2/\c=126):=by
   rcases(show a=0\/a=1\/a=2 by omega)with h | h | h
   ·exact⟨64, .inl ⟨h,rfl⟩⟩
   ·exact⟨127, .inr (.inl ⟨h,rfl⟩)⟩
   ·exact⟨126, .inr (.inr ⟨h,rfl⟩)⟩
  obtain⟨c,⟨rfl,rfl⟩ | ⟨rfl,rfl⟩ | ⟨rfl,rfl⟩⟩:=key
  ·clear ra1 ra2
   have hix:∀wx,(Instr.index 341 (.agg #[.int .u8 64, .int .u8 127, .int .u8 126]) (.int .i64 0)).run prog wx= .ok (.int .u8 64) wx:=fun wx=>by kernel_rfl
   go_wp2_with (first | (at_builtin;refine eV w3 rfl _ _ rfl rfl B v _ rfl HW.out.1 64 _ (by decide) rfl (by simp only [ah,aB];omega) Pw ?_));intro v4 w4 ho hk hs;have Lo:=V (HW.out.step ⟨ho,hk,hs⟩);clear ho hk hs;go_wp2_with fail;go_ret;exact⟨_,rfl,by show Wr _ _ _ _ _ _;rw [HB.out];simpa [fY,HF.out] using Lo.out⟩
  ·clear ra1 ra2
   have hix:∀wx,(Instr.index 341 (.agg #[.int .u8 64, .int .u8 127, .int .u8 126]) (.int .i64 1)).run prog wx= .ok (.int .u8 127) wx:=fun wx=>by kernel_rfl
   go_wp2_with (first | (at_builtin;refine eV w3 rfl _ _ rfl rfl B v _ rfl HW.out.1 127 _ (by decide) rfl (by simp only [ah,aB];omega) Pw ?_));intro v4 w4 ho hk hs;have Lo:=V (HW.out.step ⟨ho,hk,hs⟩);clear ho hk hs;go_wp2_with fail;go_ret;exact⟨_,rfl,by show Wr _ _ _ _ _ _;rw [HB.out];simpa [fY,HF.out] using Lo.out⟩
  ·clear ra1 ra2
   have hix:∀wx,(Instr.index 341 (.agg #[.int .u8 64, .int .u8 127, .int .u8 126]) (.int .i64 2)).run prog wx= .ok (.int .u8 126) wx:=fun wx=>by kernel_rfl
   go_wp2_with (first | (at_builtin;refine eV w3 rfl _ _ rfl rfl B v _ rfl HW.out.1 126 _ (by decide) rfl (by simp only [ah,aB];omega) Pw ?_));intro v4 w4 ho hk hs;have Lo:=V (HW.out.step ⟨ho,hk,hs⟩);clear ho hk hs;go_wp2_with fail;go_ret;exact⟨_,rfl,by show Wr _ _ _ _ _ _;rw [HB.out];simpa [fY,HF.out] using Lo.out⟩
 ·clear M3
  obtain⟨k,rfl⟩:∃k:Nat,a=k:=⟨a.toNat,by omega⟩;go_wp2_with fail;refine(iT v _ k (by omega) B _ HW.out.1 (by simp only [ah,aB];omega) (by omega)).mono ?_;rintro e w4 ⟨v4,rfl,ho,hk,hs⟩;have Lo:=V (HW.out.step ⟨ho,hk,hs⟩);clear ho hk hs;go_wp2_with fail;go_ret;exact⟨_,rfl,by show Wr _ _ _ _ _ _;rw [HB.out];simpa [fY,HF.out] using Lo.out⟩
 ·clear M3
  obtain⟨p,rfl⟩:∃p:Nat,a=p:=⟨a.toNat,by omega⟩;have RS:=V rs;have hls:=nT l rs;clear rs;go_wp2_with fail;refine(iT v _ l.length (by omega) B _ HW.out.1 (by simp only [ah,aB];omega) (by omega)).mono ?_;rintro e w4 ⟨v4,rfl,ho,hk,hs⟩;have hw4:Wr w b B w4 v4 _:=HW.out.step ⟨ho,hk,hs⟩;have HA4:=V (HA.out.next ⟨ho,hk,hs⟩);have OO:=V (HS.out.next HW.out.1 ⟨ho,hk,hs⟩);have hl4:=(eD l.length).2;obtain⟨L,hL⟩:∃L,xs++[b8 n]++eL l.length=L:=⟨_,rfl⟩;rw [hL]at hw4;have hlen:L.length <=xs.length+11:=by rw [<- hL];simp only [ah,aB];omega
  have Lo:=V hw4;have HL:=V hL;have c3':=HA4.out.cell 3;clear ho hk hs hL hw4 c1 c2 c3;go_wp2_with fail;refine ez (fun a' w'=>∃(v:Value) (k:Nat),a'=fr (v::gs a' 1 2 (.pointer (some ⟨w.heap.size,0,none⟩):: .slice none 0 0::gs a' 5 45 (.slice au l.length Kr:: .int .i64 l.length:: .int .i64 k::gs a' 53 37 [])))/\IT w0 L l B b w.heap.size #[.int .i64 n, .int .i64 p, .int .i64 bb, .slice au l.length Kr] 27 w w' v k) (fun a' _=>(l.length - (intOf (a'.tmps.getD 52 undef)).toNat)) ?_ ?_
  ·exact⟨v4,0,rfl,by omega,by simpa using Lo.out,HA4.out,OO.out⟩
  ·clear c3' HA4 OO
   rintro R a' w1 ⟨v,k,Kk,hJ⟩ HR;dsimp only [fr,gs]at Kk;generalize slot a'=f at Kk;subst Kk;obtain⟨Lg,hw,ha,hs⟩:=hJ;have hBw4:=hw.base hB;have c1:=ha.cell 1;have hlk:(L++((l.take k).map fun n=>eL n.toNat).flatten).length <=900001000:=by
    have g2:=nT (l.take k) (fun x hx=>RS.out x (cz hx));have g3:(l.take k).length <=50:=by rw [aR];omega
    simp only [ah];omega
   have HWK:=V hw;have HAK:=V ha;have HSK:=V hs;by_cases Kq:k < l.length
   ·obtain⟨e,he⟩:∃e,l[k]?=some e:=⟨_,aq Kq⟩
    obtain⟨a',KE,hv,_,_,Kh⟩:=HX.out.1.below hs.1;injection hv with e1 e2 e3;subst e1 e3;obtain⟨bb',off,rfl,L4,hc⟩:=Kh k e he;have c0:=hc 0 _ rfl;rw [aK,bj]at c0;obtain⟨q1,q2⟩:=RS.out e (aO he);obtain⟨q,rfl⟩:∃q:Nat,e=q:=⟨e.toNat,by omega⟩;have HE:=V he;clear Kh e2 he hc hw ha hs;go_wp2_with fail;refine(iT v _ q (by omega) B _ HWK.out.1 (by omega) (by omega)).mono ?_;rintro x w5 ⟨v5,rfl,ho,hk,hs⟩;have NR:=V (HWK.out.step ⟨ho,hk,hs⟩);have HA5:=V (HAK.out.next ⟨ho,hk,hs⟩);have HS5:=V (HSK.out.next HWK.out.1 ⟨ho,hk,hs⟩);clear ho hk hs;go_wp2_with fail;refine HR.out _ _ ⟨v5,k+1,rfl,by omega,?_,HA5.out,HS5.out⟩ ?_
    ·have e1:L++((l.take (k+1)).map fun n=>eL n.toNat).flatten=L++((l.take k).map fun n=>eL n.toNat).flatten++eL q:=by
      rw [aQ,HE.out];simp
     rw [e1];exact NR.out
    ·simp [intOf]
     omega
   ·obtain rfl:k=l.length:=by omega
    rw [aU]at hlk HWK;clear hw ha hs;go_wp2_with fail;refine(iT v _ p (by omega) B _ HWK.out.1 (by omega) (by omega)).mono ?_;rintro x w5 ⟨v5,rfl,ho,hk,hs⟩;have NR:=V (HWK.out.step ⟨ho,hk,hs⟩);clear ho hk hs;go_wp2_with fail;go_ret;refine⟨_,rfl,?_⟩;show Wr _ _ _ _ _ _;have:=NR.out;rw [<- HL.out]at this;rw [HB.out];simpa [fY,HF.out] using this
 ·clear M3
  obtain⟨k,rfl⟩:∃k:Nat,a=k:=⟨a.toNat,by omega⟩;go_wp2_with fail;refine(iT v _ k (by omega) B _ HW.out.1 (by simp only [ah,aB];omega) (by omega)).mono ?_;rintro e w4 ⟨v4,rfl,ho,hk,hs⟩;have Lo:=V (HW.out.step ⟨ho,hk,hs⟩);have hBw4:=Lo.out.base hB;have hl4:=(eD k).2;clear ho hk hs Pw c1 c2 c3;go_wp2_with (first | (at_builtin;refine eV w4 rfl _ _ rfl rfl B v4 _ rfl Lo.out.1 0 _ (by decide) rfl (by simp only [ah,aB];omega) hBw4 ?_));intro v5 w5 ho hk hs;have NR:=V (Lo.out.step ⟨ho,hk,hs⟩);clear ho hk hs;go_wp2_with fail;go_ret;exact⟨_,rfl,by show Wr _ _ _ _ _ _;rw [HB.out];simpa [fY,HF.out] using NR.out⟩
 ·clear M3
  obtain⟨k,rfl⟩:∃k:Nat,a=k:=⟨a.toNat,by omega⟩;obtain⟨m,rfl⟩:∃m:Nat,bb=m:=⟨bb.toNat,by omega⟩;go_wp2_with fail;refine ed (fun w'=>w'.cell? ⟨w.heap.size,1,none⟩=some (.int .i64 k)/\w'.cell? ⟨w.heap.size,2,none⟩=some (.int .i64 m)) (up 0 4 (up 5 3 ((4,false)::(8,false)::(9,true)::[]))) (by kernel_rfl) (by kernel_rfl) ⟨c1,c2⟩ ?_;iterate 7 (first | (apply sk rfl rfl;simp only [pt]) | (apply dT rfl rfl rfl;·(rintro w' ⟨t0,t1⟩;go_wp2;exact⟨rfl,rfl,rfl⟩)))
  refine dZ rfl rfl ?_;go_wp2_with fail;refine(iT v _ k (by omega) B w3.drew HW.out.drew.1 (by simp only [ah,aB];omega) (by simpa using Pw)).mono ?_;rintro e w4 ⟨v4,rfl,ho,hk,hs⟩;have Lo:=V (HW.out.drew.step ⟨ho,hk,hs⟩);have HA4:=V (HA.out.drew.next ⟨ho,hk,hs⟩);have hBw4:=Lo.out.base hB;have hl4:=(eD k).2;clear ho hk hs Pw c1 c2 c3;go_wp2_with fail;refine⟨⟨HA4.out.cell 1,HA4.out.cell 2⟩,?_⟩;refine dZ rfl rfl ?_;go_wp2_with fail;refine(iT v4 _ m (by omega) B w4 Lo.out.1 (by simp only [ah,aB];omega) hBw4).mono ?_;rintro e w5 ⟨v5,rfl,ho,hk,hs⟩;have NR:=V (Lo.out.step ⟨ho,hk,hs⟩);have HA5:=V (HA4.out.next ⟨ho,hk,hs⟩);clear ho hk hs;go_wp2_with fail;refine⟨⟨HA5.out.cell 1,HA5.out.cell 2⟩,?_⟩;iterate 1 (first | (apply sk rfl rfl;simp only [pt]) | (apply dT rfl rfl rfl;·(rintro w' ⟨t0,t1⟩;go_wp2;exact⟨rfl,rfl,rfl⟩)))
  refine eH ?_;refine aD ?_;go_wp2_with fail;go_ret;exact⟨_,rfl,by show Wr _ _ _ _ _ _;rw [HB.out];simpa [fY,HF.out] using NR.out⟩
 ·clear ra M3
  go_wp2_with (first | (at_builtin;refine eV w3 rfl _ _ rfl rfl B v _ rfl HW.out.1 0 _ (by decide) rfl (by simp only [ah,aB];omega) Pw ?_));intro v4 w4 ho hk hs;have Lo:=V (HW.out.step ⟨ho,hk,hs⟩);clear ho hk hs;go_wp2_with fail;go_ret;exact⟨_,rfl,by show Wr _ _ _ _ _ _;rw [HB.out];simpa [fY,HF.out] using Lo.out⟩
 ·clear M3 ra1 ra2
  obtain⟨⟨-,-⟩,⟨g1,g2⟩,-⟩:=HX.out.2;simp only at g1 g2;go_wp2_with fail;refine(mE v _ a g1 g2 B w3 HW.out.1 (by simp only [ah,aB];omega) Pw).mono ?_;rintro e w4 ⟨v4,rfl,ho,hk,hs⟩;have Lo:=V (HW.out.step ⟨ho,hk,hs⟩);clear ho hk hs;go_wp2_with fail;go_ret;exact⟨_,rfl,by show Wr _ _ _ _ _ _;rw [HB.out];simpa [fY,HF.out] using Lo.out⟩
 ·clear M3
  obtain⟨⟨-,-⟩,⟨g1,g2⟩,-⟩:=HX.out.2;simp only at g1 g2;go_wp2_with fail;refine(mE v _ a g1 g2 B w3 HW.out.1 (by simp only [ah,aB];omega) Pw).mono ?_;rintro e w4 ⟨v4,rfl,ho,hk,hs⟩;have Lo:=V (HW.out.step ⟨ho,hk,hs⟩);clear ho hk hs;go_wp2_with fail;go_ret;exact⟨_,rfl,by show Wr _ _ _ _ _ _;rw [HB.out];simpa [fY,HF.out] using Lo.out⟩
section
def Ext (w w':World):Prop:=(∀a v,w.cell? a=some v ->w'.cell? a=some v)/\w.heap.size <=w'.heap.size
theorem Ext.trans {a b c:World} (h:Ext a b) (k:Ext b c):Ext a c:=⟨fun x v e=>k.1 x v (h.1 x v e),aW h.2 k.2⟩
theorem Ext.dV {w w':World} (h:Below w.heap.size w w'):Ext w w':=⟨fun a v e=>by rw [h.cell (aS w a e)];exact e,h.size⟩
theorem iG {P:Nat ->Prop} {S S':Nat ->Bool} {w w':World} (h:dS P w w') (hP:∀k,k < w.heap.size ->P k ->S k=true) (hS:∀k,k < w.heap.size ->S' k=true ->S k=true):Ext (mask S w) (mask S' w'):=by
 refine⟨fun a v e=>?_,by rw [gX,gX];exact h.size⟩;have Kq:a.block < w.heap.size:=by
  have:=aS (mask S w) a e
  rwa [gX]at this
 have hb:S a.block=false:=by
  cases hs:S a.block with
  | false=>rfl
  | true=>
   exfalso;unfold World.cell? at e;rw [oY w hs]at e;cases hg:w.heap[a.block]? with
   | none=>rw [hg]at e;simp at e
   | some o=>rw [hg]at e;simp at e
 have KF:S' a.block=false:=by
  cases hs:S' a.block with
  | false=>rfl
  | true=>rw [hS _ Kq hs]at hb;cases hb
 have h1:(mask S w).cell? a=w.cell? a:=bg (jn w hb);have h2:(mask S' w').cell? a=w'.cell? a:=bg (jn w' KF);have h3:w'.cell? a=w.cell? a:=bg (h.block _ Kq (fun g=>by rw [hP _ Kq g]at hb;cases hb));rw [h1]at e;rw [h2,h3];exact e
theorem rM {P:Nat ->Prop} {S:Nat ->Bool} {w w':World} (h:dS P w w') (hP:∀k,k < w.heap.size ->P k ->S k=true):Ext (mask S w) w':=by
 refine⟨fun a v e=>?_,by rw [gX];exact h.size⟩;have Kq:a.block < w.heap.size:=by
  have:=aS (mask S w) a e
  rwa [gX]at this
 have hb:S a.block=false:=by
  cases hs:S a.block with
  | false=>rfl
  | true=>
   exfalso;unfold World.cell? at e;rw [oY w hs]at e;cases hg:w.heap[a.block]? with
   | none=>rw [hg]at e;simp at e
   | some o=>rw [hg]at e;simp at e
 have h1:(mask S w).cell? a=w.cell? a:=bg (jn w hb);have h3:w'.cell? a=w.cell? a:=bg (h.block _ Kq (fun g=>by rw [hP _ Kq g]at hb;cases hb));rw [h1]at e;rw [h3];exact e
theorem ee.ext {α:Type} {k:Nat} {enc:α ->List Value} {w w':World} {v:Value} {l:List α} (h:ee k enc w v l) (he:Ext w w'):ee k enc w' v l:=by
 obtain⟨a,cap,hv,h1,h2,h3⟩:=h;refine⟨a,cap,hv,h1,h2,fun i x hx=>?_⟩;obtain⟨b,off,ha,Kq,hc⟩:=h3 i x hx;exact⟨b,off,ha,bK Kq he.2,fun j u hu=>he.1 _ _ (hc j u hu)⟩
theorem eI.ext {w w':World} {v:Value} {l:List UInt8} (h:eI w v l) (he:Ext w w'):eI w' v l:=by
 obtain⟨a,cap,hv,h1,h2,h3⟩:=h;refine⟨a,cap,hv,h1,h2,fun i x hx=>?_⟩;obtain⟨b,off,ha,hc⟩:=h3 i x hx;exact⟨b,off,ha,he.1 _ _ hc⟩
theorem ea.ext {α β:Type} {k:Nat} {enc:α × β ->List Value} {inner:World ->α ->β ->Prop} {w w':World} {v:Value} {l:List α} (h:ea k enc inner w v l) (he:Ext w w') (hi:∀x u,inner w x u ->inner w' x u):ea k enc inner w' v l:=by
 obtain⟨us,h1,h2,h3⟩:=h;exact⟨us,h1,h2.ext he,fun i x u hx hu=>hi x u (h3 i x u hx hu)⟩
theorem gJ.ext {w w':World} {x:eK} {u:Value} (h:gJ w x u) (he:Ext w w'):gJ w' x u:=⟨h.1.ext he,h.2⟩
theorem gd.ext {w w':World} {v:Value} {l:List eK} (h:gd w v l) (he:Ext w w'):gd w' v l:=ea.ext h he (fun _ _ h=>h.ext he)
theorem gG.ext {w w':World} {x:gy} {u:Value × Value} (h:gG w x u) (he:Ext w w'):gG w' x u:=⟨⟨h.1.1.ext he,h.1.2.ext he⟩,h.2⟩
theorem gS.ext {w w':World} {x:iO} {u:Value} (h:gS w x u) (he:Ext w w'):gS w' x u:=⟨h.1.ext he,h.2⟩
theorem gD.ext {w w':World} {x:gN} {u:Value × Value} (h:gD w x u) (he:Ext w w'):gD w' x u:=⟨⟨h.1.1.ext he,h.1.2.ext he⟩,h.2⟩
theorem gm.ext {w w':World} {x:gl} {u:Value} (h:gm w x u) (he:Ext w w'):gm w' x u:=⟨h.1.ext he,h.2⟩
theorem ej.ext {w w':World} {u:eB} {m:ew} (h:ej w u m) (he:Ext w w'):ej w' u m:=by
 obtain⟨h1,h2,h3,h4,h5,h6,h7,h8,h9⟩:=h;exact⟨ea.ext h1 he (fun _ _ h=>h.ext he),h2.ext he,h3.ext he,h4.ext he,h5.ext he,ea.ext h6 he (fun _ _ h=>h.ext he),ea.ext h7 he (fun _ _ h=>h.ext he),ea.ext h8 he (fun _ _ h=>h.ext he),h9⟩
def kD (B:Nat):Nat ->Bool:=fun k=>decide (k < B)
def Cq (B:Nat) (v:Value):Nat ->Bool:=fun k=>decide (k < B) || decide (v.ownBlock=some k)
theorem lP {B k:Nat}:kD B k=true↔k < B:=by simp [kD]
theorem mH {B k:Nat} {v:Value}:Cq B v k=true↔k < B\/ey v k:=by simp [Cq,ey]
theorem ny {P:Nat ->Prop} {B B':Nat} {w w':World} (h:dS P w w') (hP:∀k,P k ->k < B\/w.heap.size <=k) (hB:B' <=B\/w.heap.size <=B):Ext (mask (kD B) w) (mask (kD B') w'):=
 iG h (fun k hk hp=>lP.2 ((hP k hp).elim id (fun g=>by omega))) (fun k hk hp=>lP.2 (by have:=lP.1 hp;omega))
theorem Gv {B:Nat} {w w':World} (h:dS (fun k=>k < B) w w'):Ext (mask (kD B) w) w':=rM h (fun _ _ hp=>lP.2 hp)
theorem Ez (B:Nat) (w:World):Ext (mask (kD B) w) w:=Gv (dS.refl _ _)
theorem uj {B B':Nat} (w:World) (h:B' <=B):Ext (mask (kD B) w) (mask (kD B') w):=ny (P:=fun _=>False) (dS.refl _ _) (fun _ h=>h.elim) (.inl h)
theorem jh {α:Type} {t:TypeId} {k:Nat} {enc:α ->List Value} {w:World} {B:Nat} {v:Value} {l:List α} (hk:∀x,(enc x).length=k) (h:dR t k enc w B v l):ee k enc (mask (kD B) w) v l:=
 (h.mask (S:=kD B) (fun b hb=>by simp [kD];exact hb)).fD hk
theorem xA {w:World} {B:Nat} {v:Value} {l:List UInt8} (h:dU w B v l):eI (mask (kD B) w) v l:=
 (h.mask (S:=kD B) (fun b hb=>by simp [kD];exact hb)).fm
section
variable {α β:Type} {t:TypeId} {k:Nat} {enc:α × β ->List Value} {inner:World ->α ->β ->Prop}
def eM (t:TypeId) (k:Nat) (enc:α × β ->List Value) (inner:World ->α ->β ->Prop) (w:World) (B:Nat) (v:Value) (l:List α):Prop:=
 ∃us:List β,us.length=l.length/\dR t k enc w B v (l.zip us)/\∀(i:Nat) (x:α) (u:β),l[i]?=some x ->us[i]?=some u ->inner (mask (Cq B v) w) x u
theorem eM.nil (w:World) (B:Nat):eM t k enc inner w B (.slice none 0 0) []:=⟨[],rfl,dR.nil _ _,by simp⟩
theorem eM.lt {w:World} {B:Nat} {v:Value} {l:List α} (h:eM t k enc inner w B v l) {i:Nat} (hi:ey v i):B <=i/\i < w.heap.size:=by
 obtain⟨us,_,h,_⟩:=h;exact eo h hi
theorem eM.low (hk:∀x,(enc x).length=k) (hx:∀w w' x u,Ext w w' ->inner w x u ->inner w' x u) {w:World} {B:Nat} {v:Value} {l:List α} (h:eM t k enc inner w B v l):ea k enc inner (mask (kD B) w) v l:=by
 obtain⟨us,h1,h2,h3⟩:=h;refine⟨us,h1,jh hk h2,fun i x u a b=>hx _ _ x u (iG (P:=fun _=>False) (dS.refl _ _) (fun _ _ h=>h.elim) (fun k _ h=>?_)) (h3 i x u a b)⟩;exact mH.2 (.inl (lP.1 h))
theorem eM.keeps (hx:∀w w' x u,Ext w w' ->inner w x u ->inner w' x u) {w w':World} {B:Nat} {v:Value} {l:List α} {P:Nat ->Prop} (h:eM t k enc inner w B v l) (hk:dS P w w') (hP:∀i,P i ->i < B\/w.heap.size <=i):eM t k enc inner w' B v l:=by
 obtain⟨us,h1,h2,h3⟩:=h;refine⟨us,h1,h2.keeps hk (fun i hi hp=>?_),fun i x u a b=>hx _ _ x u (iG hk (fun k Kq hp=>?_) (fun k _ h=>h)) (h3 i x u a b)⟩
 ·have:=eo h2 hi
  rcases hP i hp with g | g <;>omega
 ·rcases hP k hp with g | g
  ·exact mH.2 (.inl g)
  ·omega
theorem eM.app (hx:∀w w' x u,Ext w w' ->inner w x u ->inner w' x u) {w1 w w':World} {B:Nat} {v v':Value} {l:List α} {us:List β} {x:α} {u:β} (h1:us.length=l.length)
  (h3:∀(i:Nat) (x:α) (u:β),l[i]?=some x ->us[i]?=some u ->inner (mask (Cq B v) w) x u) (LD:dR t k enc w' B v' (l.zip us++[(x,u)])) (hk:dS (ey v) w w') (hs:eC w v v')
  (hB:B <=w1.heap.size) (hv:∀i,ey v i ->i < w1.heap.size) (hu:inner (mask (kD w1.heap.size) w) x u):eM t k enc inner w' B v' (l++[x]):=by
 have hS:∀k,k < w.heap.size ->Cq B v' k=true ->Cq B v k=true:=fun k Kq h=>by
  rcases mH.1 h with g | g
  ·exact mH.2 (.inl g)
  ·rcases hs k g with g | g
   ·exact mH.2 (.inr g)
   ·omega
 refine⟨us++[u],by simp [h1],?_,fun i y z hy hz=>?_⟩
 ·rw [dh h1.symm]
  exact LD
 ·rcases Nat.lt_trichotomy i l.length with g | g | g
  ·rw [bD g]at hy
   rw [bD (by omega)]at hz;exact hx _ _ y z (iG hk (fun k _ hp=>mH.2 (.inr hp)) hS) (h3 i y z hy hz)
  ·subst g
   rw [bp (ag _)]at hy;rw [bp (by omega)]at hz;simp [h1]at hy hz;subst hy hz;refine hx _ _ _ _ (iG hk (fun k _ hp=>lP.2 (hv k hp)) (fun k Kq hp=>lP.2 ?_)) hu;rcases mH.1 hp with g | g
   ·omega
   ·rcases hs k g with g | g
    ·exact hv k g
    ·omega
  ·rw [cT (by simp;omega)]at hy
   cases hy
end
end
theorem AU {x:eK} (h:x.may) (ho:x.ok):(ij x).length <=530:=by
 obtain⟨m1,m2,m3⟩:=h;obtain⟨o1,o2,o3,o4⟩:=ho;have a:=(eD x.a.toNat).2;have b:=(eD x.b.toNat).2;have l:=(eD x.l.length).2;have s:=(sX o2.1 o2.2).2;unfold ij fY;rw [aI];split
 ·simp
 ·omega
 ·have hs:∀n∈x.l,fR n:=by
   rename_i hf;rw [hf]at m3;rcases m3 with h | h | h | h | h | h | h | h | h <;>first | (exact h.2.2.2) | (exact absurd h.1 (by decide)) | (exact absurd h (by decide))
  have h50:x.l.length <=50:=by
   rename_i hf;rw [hf]at m3;rcases m3 with h | h | h | h | h | h | h | h | h <;>first | (exact h.2.2.1) | (exact absurd h.1 (by decide)) | (exact absurd h (by decide))
  have:=nT x.l hs;simp only [ah];omega
 ·simp;omega
 ·simp only [ah];omega
 ·simp
 ·omega
 ·omega
 ·simp
theorem rH {l:List eK} (hm:∀x∈l,x.may) (ho:∀x∈l,x.ok):((l.map ij).flatten).length <=530*l.length:=by
 induction l with
 | nil=>simp
 | cons x l ih=>
  have h1:=AU (hm x (by simp)) (ho x (by simp));have h2:=ih (fun y hy=>hm y (by simp [hy])) (fun y hy=>ho y (by simp [hy]));simp only [bC,bS,ah,aI];omega
theorem gd.Js {w:World} {v:Value} {l:List eK} (h:gd w v l):∀x∈l,x.ok:=by
 intro x hx;obtain⟨i,hi⟩:=List.getElem?_of_mem hx;obtain⟨a,cap,rfl,-,-⟩:=ea.slice h;obtain⟨b,off,u,-,-,-,hu⟩:=ea.get h hi;exact hu.2
theorem oE {L:List UInt8} {x:eK} {r:List UInt8} (h:gp L=some (x,r)):∃p,L=p++r:=by
 cases L with
 | nil=>cases h
 | cons c l=>
  have hf:fG c.toNat≠0:=by
   intro hz;unfold gp at h;dsimp only at h;rw [hz]at h;cases h
  have h1:=(IR.rA c l hf).1;rw [h]at h1;unfold IR.rest at h1;split at h1
  ·simp only [bF,aX]at h1
   exact⟨_,by rw [<- h1];exact(cF _ _).symm⟩
  ·cases h1
theorem AS {w:World} {B:Nat} {x:eK} {u:Value} (h:gJ w x u) (hf:Bs B w u):gJ (mask (kD B) w) x u:=by
 obtain⟨⟨a,cap,hv,h1,h2,h3⟩,ho⟩:=h;refine⟨⟨a,cap,hv,h1,h2,fun i y hy=>?_⟩,ho⟩;obtain⟨b,off,ha,Kq,hc⟩:=h3 i y hy;subst ha;have hB:=(hf _ _ _ hv).1;refine⟨b,off,rfl,by rw [gX];exact Kq,fun j v hj=>?_⟩;have:=hc j v hj;have hb:kD B b=false:=by
  cases hs:kD B b with
  | false=>rfl
  | true=>have:=lP.1 hs;simp only at hB;omega
 rw [bg (jn w hb)];exact this
def Je (w0:World) (xs:List UInt8) (l:List eK) (B:Nat) (b:Value) (w w':World) (v:Value) (k:Nat):Prop:=
 k <=l.length/\Wr w b B w' v (xs++((l.take k).map ij).flatten)/\Src w0 w' B
theorem zK (w0:World) (b v:Value) (xs:List UInt8) (l:List eK) (B:Nat) (w:World) (Ki:dU w B b xs) (hn:xs.length <=500000000) (hB:B <=w.heap.size)
  (hl:gd w0 v l) (h0:Src w0 w B) (hlen:l.length <=300) (hm:∀x∈l,x.may):
  Calls prog 266 #[b,v] w (fk xs (mV l) B b w):=by
 obtain⟨a,cap,rfl,h1,h2⟩:=ea.slice hl;have Lu:=V hl.Js;have HL:=V hl;have HM:=V hm;have HO:=V Ki;have H0:=V h0;clear hl hm Ki h0;go_enter func266,ntmps266;go_wp2_with fail;refine ez (fun a' w'=>∃(vb:Value) (k:Nat),a'=fr (vb::gs a' 1 6 (.slice a l.length cap:: .int .i64 l.length:: .int .i64 k::gs a' 10 10 []))/\Je w0 xs l B b w w' vb k) (fun a' _=>(l.length - (intOf (a'.tmps.getD 9 undef)).toNat)) ?_ ?_
 ·exact⟨_,0,rfl,by omega,by simpa using Wr.refl HO.out,H0.out⟩
 ·skip
  rintro R a' w1 ⟨vb,k,Kk,hJ⟩ HR;dsimp only [fr,gs]at Kk;generalize slot a'=f at Kk;subst Kk;obtain⟨hk,M4,MS⟩:=hJ;have HW:=V M4;have HS:=V MS;have hB1:=M4.base hB;clear M4 MS;have hlen1:(((l.take k).map ij).flatten).length <=530*300:=by
   have:=rH (l:=l.take k) (fun x hx=>HM.out x (cz hx)) (fun x hx=>Lu.out x (cz hx));rw [aR]at this;have:530*min k l.length <=530*300:=dF _ (by omega);omega
  by_cases q:k < l.length;rotate_left
  ·obtain rfl:k=l.length:=by omega
   rw [aU]at hlen1;have HW:=V (show Wr w b B w1 vb (xs++(l.map ij).flatten)by have:=HW.out;rwa [aU]at this);go_wp2_with (first | (at_builtin;refine eV w1 rfl _ _ rfl rfl B vb _ rfl HW.out.1 (11:UInt8) _ rfl rfl (by simp only [ah];omega) hB1 ?_));intro v2 w2 KB Kp Ku;have KA:Hid (Wr w b B w2 v2 (xs++mV l)):=V (HW.out.step ⟨by simpa [mV] using KB,Kp,Ku⟩);clear KB Kp Ku;go_wp2_with fail;go_ret;exact⟨_,rfl,KA.out⟩
  obtain⟨x,hx⟩:∃x,l[k]?=some x:=⟨_,aq q⟩;have Px:gd w1 (.slice a l.length cap) l:=HL.out.below HS.out.1;obtain⟨bb,off,u,rfl,Kq,hc,hu⟩:=ea.get Px hx;obtain⟨b0,off0,u0,Pn,-,LY,hu0⟩:=ea.get HL.out hx;injection Pn with Pn;injection Pn with e1 e2;subst e1 e2;have hlt0:bb < w0.heap.size:=by
   have:=aS w0 _ (LY 0 _ rfl);exact this
  have c0:=(HS.out.1.cell hlt0).trans (LY 0 _ rfl);have c1:=(HS.out.1.cell hlt0).trans (LY 1 _ rfl);have c2:=(HS.out.1.cell hlt0).trans (LY 2 _ rfl);have c3:=(HS.out.1.cell hlt0).trans (LY 3 _ rfl);rw [aK]at c0;have HX:=V hx;have HU:=V hu0;have HXM:=V (HM.out x (aO hx));obtain⟨⟨au,Kr,rfl,-,-,-⟩,-⟩:=id hu0;clear hc LY hu hx hu0 Px;go_wp2_with fail;have Lc:=V (HW.out.alloc (.cells #[.int .i64 x.op, .int .i64 x.a, .int .i64 x.b, .slice au x.l.length Kr] 27));have Ms:=V (HS.out.alloc (.cells #[.int .i64 x.op, .int .i64 x.a, .int .i64 x.b, .slice au x.l.length Kr] 27));refine(nW w0 _ _ x _ B _ Lc.out.1 (by simp only [ah];omega) (Lc.out.base hB) HU.out Ms.out HXM.out).mono ?_;rintro e w2 ⟨v2,rfl,KB,Kp,Ku⟩;have KA:=V (Lc.out.step ⟨KB,Kp,Ku⟩);have KP:=V (Ms.out.next Lc.out.1 ⟨KB,Kp,Ku⟩);clear KB Kp Ku c0 c1 c2 c3;go_wp2_with fail;refine HR.out _ _ ⟨_,k+1,rfl,by omega,?_,KP.out⟩ ?_
  ·have:=KA.out
   rw [aQ,HX.out];simpa using this
  ·simp [intOf]
   omega
theorem Fo {x:gN} (hm:x.may) (ho:∀y∈x.body,y.ok):(im x).length <=160000:=by
 have h1:=tE hm.2.1.1;have h2:=rH hm.2.2.2 ho;have h3:530*x.body.length <=530*300:=dF _ hm.2.2.1;have h4:=(eD (lT x).length).2;simp only [im,lT,mV,ah,aB]at*;omega
theorem py (x:fL):(oneOf x).length <=1:=by
 unfold oneOf;split <;>simp
structure ew.Fits (m:ew):Prop where
 v1:(eS kW m.types).length <=2000
 v2:(eS nq m.imports).length <=2000
 v3:(eS rD m.funcs).length <=2000
 v4:(eS jf (oneOf m.table)).length <=2000
 v5:(eS gC (oneOf m.mem)).length <=2000
 v6:(eS kB m.globals).length <=2000
 v7:(eS nE m.dY).length <=2000
 v9:(eS kI m.elems).length <=10000
 v10:(eS im m.eh).length <=3000000
 v11:(eS nD m.eA).length <=20000
 s1:(fB (b8 1) kW m.types).length <=2100
 s2:(fB (b8 2) nq m.imports).length <=2100
 s3:(fB (b8 3) rD m.funcs).length <=2100
 s4:(fB (b8 4) jf (oneOf m.table)).length <=2100
 s5:(fB (b8 5) gC (oneOf m.mem)).length <=2100
 s6:(fB (b8 6) kB m.globals).length <=2100
 s7:(fB (b8 7) nE m.dY).length <=2100
 s9:(fB (b8 9) kI m.elems).length <=11000
 F2:(fB (b8 10) im m.eh).length <=3010000
 F0:(fB (b8 11) nD m.eA).length <=21000
theorem ew.vz.fits {m:ew} (h:m.vz) (hg:∀x∈m.globals,x.init.ok) (ho:∀x∈m.eh,∀y∈x.body,y.ok):m.Fits:=by
 obtain⟨⟨_,n10,h10⟩,⟨⟨⟨n1,h1⟩,⟨n2,h2⟩,n3,h3⟩,⟨n6,h6⟩,⟨n7,h7⟩,⟨n9,h9⟩,n11,h11⟩,h4,h5⟩:=h;have n3:m.funcs.length <=16:=by omega
 have t1:=fun x hx=>DK (h1 x hx);have t2:=fun x hx=>GK (h2 x hx);have t6:=fun x hx=>E7 (hg x hx);have t7:=fun x hx=>GO (h7 x hx);have t9:=fun x hx=>EX (h9 x hx);have t10:=fun x hx=>Fo (h10 x hx) (ho x hx);have t11:=fun x hx=>Hr (h11 x hx);have a1:=jx kW 100 16 m.types t1 n1;have a2:=jx nq 100 16 m.imports t2 n2;have a3:=jx rD 10 16 m.funcs (fun x _=>rL x) n3;have a4:=jx jf 31 1 (oneOf m.table) (fun x _=>vC x) (py _);have a5:=jx gC 30 1 (oneOf m.mem) (fun x _=>qu x) (py _);have a6:=jx kB 14 16 m.globals t6 n6;have a7:=jx nE 100 16 m.dY t7 n7;have a9:=jx kI 600 16 m.elems t9 n9;have a10:=jx im 160000 16 m.eh t10 n10;have a11:=jx nD 1100 16 m.eA t11 n11;have b1:=nz (b8 1) kW 100 16 m.types t1 n1;have b2:=nz (b8 2) nq 100 16 m.imports t2 n2;have b3:=nz (b8 3) rD 10 16 m.funcs (fun x _=>rL x) n3;have b4:=nz (b8 4) jf 31 1 (oneOf m.table) (fun x _=>vC x) (py _);have b5:=nz (b8 5) gC 30 1 (oneOf m.mem) (fun x _=>qu x) (py _);have b6:=nz (b8 6) kB 14 16 m.globals t6 n6;have b7:=nz (b8 7) nE 100 16 m.dY t7 n7;have b9:=nz (b8 9) kI 600 16 m.elems t9 n9;have b10:=nz (b8 10) im 160000 16 m.eh t10 n10;have b11:=nz (b8 11) nD 1100 16 m.eA t11 n11
 constructor <;>omega
theorem Bi (m:ew):fy m=((((((((((fw++fB (b8 1) kW m.types)++fB (b8 2) nq m.imports)++fB (b8 3) rD m.funcs)++fB (b8 4) jf (oneOf m.table))++fB (b8 5) gC (oneOf m.mem))++fB (b8 6) kB m.globals)++fB (b8 7) nE m.dY)++fB (b8 9) kI m.elems)++fB (b8 10) im m.eh)++fB (b8 11) nD m.eA):=by
 have e1:b8 1=1:=rfl;have e2:b8 2=2:=rfl;have e3:b8 3=3:=rfl;have e4:b8 4=4:=rfl;have e5:b8 5=5:=rfl;have e6:b8 6=6:=rfl;have e7:b8 7=7:=rfl;have e9:b8 9=9:=rfl;have e10:b8 10=10:=rfl;have e11:b8 11=11:=rfl;rw [e1,e2,e3,e4,e5,e6,e7,e9,e10,e11];simp only [fy,oN,aP]
theorem nu (l:List UInt8) (w:World):(Builtin.firstCells 1 l.length (.string (bs l))).run prog w= .ok (l.map bv).toArray w:=by
 have h:((bs l).extract 0 l.length).data.map (fun b:UInt8=>Value.int IntKind.u8 (b.toNat:Int))=(l.map bv).toArray:=by
  have e:(bs l).extract 0 l.length=bs l:=by
   apply ByteArray.ext;simp [bs]
  rw [e];simp [bs]
 simp only [Builtin.firstCells,cm,h]
theorem yz (w:World) (B:Nat) (ty:TypeId) (v:Value) (l m:List UInt8) (Ki:dU w B v l) (Ou:l.length+m.length <=140737488355327) (KO:B <=w.heap.size):
  ∃v' w',(Builtin.append_ #[97,9] ty #[v, .string (bs m)]).run prog w= .ok v' w'/\dU w' B v' (l++m)/\dS (ey v) w w'/\eC w v v':=by
 obtain⟨i0,hi,MY,LG,Mm⟩:=cd oC;have ht:prog.underlying 97=some (.slice 5):=by kernel_rfl
 have hu:prog.underlying 9=some .string:=by kernel_rfl
 have hs:(bs m).size=m.length:=Ca m;have grown:∀(old:Nat),old < l.length+m.length ->
   dU (w.drew.alloc (.cells ((l.map bv).toArray++(m.map bv).toArray++Builtin.zeroCells #[.int .u8 0] (grownCap w (l.length+m.length) old 5 - (l.length+m.length))) 5)) B
    (.slice (some ⟨w.heap.size,0,none⟩) (l.length+m.length) (grownCap w (l.length+m.length) old 5)) (l++m)/\
   dS (ey v) w (w.drew.alloc (.cells ((l.map bv).toArray++(m.map bv).toArray++Builtin.zeroCells #[.int .u8 0] (grownCap w (l.length+m.length) old 5 - (l.length+m.length))) 5))/\
   eC w v (.slice (some ⟨w.heap.size,0,none⟩) (l.length+m.length) (grownCap w (l.length+m.length) old 5)):=by
  intro old ho;have hge:=grownCap_ge w (l.length+m.length) old 5;have Mr:grownCap w (l.length+m.length) old 5 <=maxLen:=dJ w (l.length+m.length) old 5 (by simp only [maxLen];omega);refine⟨⟨by simp, .inr ⟨w.heap.size,_,_,?_,KO,dq w.drew _,?_,Mr,?_,?_⟩⟩,(dS.refl _ _).drew.alloc _,fun k hk=> .inr ?_⟩
  ·rw [ah]
  ·rw [ah];exact hge
  ·simp [size_zeroCells]
   omega
  ·simp only [Array.toList_append,aP]
   rw [<- aP,cg,bj,show(l++m).length=(l.map bv++m.map bv).length from by simp];exact cP
  ·simp [ey,Value.ownBlock]at hk
   omega
 rcases Ki.2 with⟨rfl,h0⟩ | ⟨g,cap,cur,rfl,hbg,hg,hnc,Mr,Qm,Qn⟩
 ·obtain rfl:l=[]:=aH h0
  by_cases hm:m.length=0
  ·obtain rfl:m=[]:=aH hm
   refine⟨.slice none 0 0,w,?_,dU.nil _ _,dS.refl _ _,eC.refl _ _⟩;have hf:=nu [] w;simp only [aM]at hf;simp [Builtin.append_,bo ht,bo hu,sizeOf,typeInfo,hi,LG,Builtin.lenOf,hs,hf]
  ·have hr:=run_append_nil_string (P:=prog) w 97 9 ty 5 i0 (.int .u8 0) ht hu hi MY (bs m) (by omega) (by omega) (by rw [Mm];omega)
   have OK:=grown 0 (by simp;omega);have e1:(bs m).data.map (fun b:UInt8=>Value.int IntKind.u8 (b.toNat:Int))=(m.map bv).toArray:=by simp [bs]
   rw [hs,e1]at hr;simp only [aM,bX,cR,bM,Array.empty_append]at OK;exact⟨_,_,hr,OK.1,OK.2.1,OK.2.2⟩
 ·simp only [bj]at Qm Qn
  by_cases Oa:l.length+m.length <=cap
  ·have hf:=nu m w
   have KI:=run_storeCells_at prog g l.length 5 (m.map bv) 0 cur w hg (by simp;omega) (z6 m);simp only [aK]at KI;refine⟨.slice (some ⟨g,0,none⟩) (l.length+m.length) cap,w.setRow g (cur.toList.take l.length++m.map bv++cur.toList.drop (l.length+(m.map bv).length)).toArray,?_,⟨by simp, .inr ⟨g,cap,_,by rw [ah],hbg,setRow_heap w g cur _ _ _ hg,by rw [ah];exact Oa,Mr,?_,?_⟩⟩,⟨rfl,rfl,rfl,by simp,fun k _ hk=>setRow_other w g k _ (fun e=>hk (by simp [ey,Value.ownBlock,e]))⟩,fun k hk=> .inl hk⟩
   ·simp [Builtin.append_,bo ht,bo hu,sizeOf,typeInfo,hi,LG,Builtin.lenOf,hs,Oa,hf,Addr.add_lit,KI]
   ·simp only [dy,ah,aR,bm,Array.length_toList,bz]
    omega
   ·rw [Qn,cg,bj,show(l++m).length=(l.map bv++m.map bv).length from by simp]
    exact cP
  ·have holds:∀j u,(l.map bv)[j]?=some u ->w.cell? ((⟨g,0,none⟩:Addr).add j)=some u:=Ki.cells (g:=g) rfl
   have hn:¬ (l.length+m.length <=cap):=Oa;have h63':¬ (9223372036854775807 < ((l.length:Int)+(m.length:Int))):=by omega
   have h48':¬ (281474976710656 < Builtin.nextslicecap (l.length+m.length) cap*i0.bytes):=by
    have:=growslice_fits (need:=l.length+m.length) (old:=cap) (bytes:=1) (by omega) (by omega);rw [Mm];omega
   have hf:=nu m w.drew;have hfo:=run_firstCells_some (P:=prog) w.drew 1 l.length ⟨g,0,none⟩ l.length cap (l.map bv) (by simp) (by simpa using holds);have OK:=grown cap (by omega);refine⟨_,_,?_,OK.1,OK.2.1,OK.2.2⟩;rw [Mm,bj]at h48';simp [Builtin.append_,bo ht,bo hu,sizeOf,typeInfo,zeroValue,hi,MY,LG,Mm,Builtin.lenOf,hs,hn,h63',h48',Question.forced,hf,hfo,newRow,grownCap]
   congr 2
   apply Array.ext';simp [aP];rfl
theorem A5 {P:Program} (w:World) {ops:Array Oper} {rest:List Oper} {o:Oper} {a:Act} {Q:Exit ->Act ->World ->Prop} (Ob:o.guard=none) (s x:Operand)
  (hP:P=prog) (ho:o.op= .call {callee:= .builtin .append,args:=#[s,x],argTypes:=#[97,9]})
  (B:Nat) (v:Value) (l m:List UInt8) (hs:a.eval s=v) (Ki:dU w B v l) (hx:a.eval x= .string (bs m))
  (Ou:l.length+m.length <=140737488355327) (KO:B <=w.heap.size)
  (h:∀v' w',dU w' B v' (l++m) ->dS (ey v) w w' ->eC w v v' ->wpList P ops Q rest (a.put o.dst v') w'):wpList P ops Q (o::rest) a w:=by
 subst hP;refine dK Ob fun _ hK=>?_;obtain⟨v',w',hr,h2,h3,h4⟩:=yz w B o.type v l m Ki Ou KO;unfold Oper.wp execOp;simp only [ho,resolve,invoke,builtin,cM,cm,cC,dr,bC,cR,hs,hx,hr];exact hK _ _ (h v' w' h2 h3 h4)
theorem fF (b:Value) (xs:List UInt8) (u:Nat) (h1:u <=9223372036854775807) (B:Nat) (w:World) (Ki:dU w B b xs) (hn:xs.length <=1000000000) (hB:B <=w.heap.size):
  Calls prog 175 #[b, .int .i64 u] w (fk xs (eL u) B b w):=by
 go_enter func175,ntmps175;go_wp2_with fail;refine(iT b xs u (by omega) B w Ki hn hB).mono ?_;rintro x w2 ⟨v,rfl,h2,h3,h4⟩;go_wp2_with fail;go_ret;exact⟨v,rfl,h2,h3,h4⟩
theorem ng (b:Value) (xs:List UInt8) (k:Int) (B:Nat) (w:World) (Ki:dU w B b xs) (hn:xs.length <=900000000) (hB:B <=w.heap.size):
  Calls prog 172 #[b, .int .i64 k] w (fk xs (je k) B b w):=by
 have HW:=V (Wr.refl Ki);by_cases q:k=1
 ·have f1:=eF q
  have HB:Hid (je k=[127]):=V (by simp [je,q]);clear q Ki;go_enter func172,ntmps172;go_wp2_with (first | (at_builtin;refine eV w rfl _ _ rfl rfl B b _ rfl HW.out.1 (127:UInt8) _ rfl rfl (by first | omega | (simp only [ah];omega) | (simp only [ah,aB];omega) | (simp only [ah,aI,aM];omega)) (HW.out.base hB) ?_));intro v2 w2 ho hk hs;have KA:=V (HW.out.step ⟨ho,hk,hs⟩);clear ho hk hs;go_wp2_with fail;go_ret;exact⟨_,rfl,by rw [HB.out];exact KA.out⟩
 ·have f1:=dQ q
  have HB:Hid (je k=[126]):=V (by simp [je,q]);clear q Ki;go_enter func172,ntmps172;go_wp2_with (first | (at_builtin;refine eV w rfl _ _ rfl rfl B b _ rfl HW.out.1 (126:UInt8) _ rfl rfl (by first | omega | (simp only [ah];omega) | (simp only [ah,aB];omega) | (simp only [ah,aI,aM];omega)) (HW.out.base hB) ?_));intro v2 w2 ho hk hs;have KA:=V (HW.out.step ⟨ho,hk,hs⟩);clear ho hk hs;go_wp2_with fail;go_ret;exact⟨_,rfl,by rw [HB.out];exact KA.out⟩
theorem mW (b:Value) (xs:List UInt8) (s:ByteArray) (B:Nat) (w:World) (Ki:dU w B b xs) (hn:xs.length <=900000000) (hs:s.data.toList.length <=1000000) (hB:B <=w.heap.size):
  Calls prog 176 #[b, .string s] w (fk xs (oL s) B b w):=by
 have HW:=V (Wr.refl Ki);obtain⟨n,hn2⟩:∃n,s.data.toList.length=n:=⟨_,rfl⟩;have HN:=V hn2;have hp:=(eD n).2;rw [hn2]at hs;have Lf:s.size=n:=hn2;have HB:Hid (oL s=eL n++s.data.toList):=V (by rw [oL,hn2]);clear Ki hn2;go_enter func176,ntmps176;go_wp2_with fail;refine(fF b _ n (by omega) B _ HW.out.1 (by first | omega | (simp only [ah];omega) | (simp only [ah,aB];omega) | (simp only [ah,aI,aM];omega)) (HW.out.base hB)).mono ?_;rintro e w2 ⟨v2,rfl,ho,hk,hs⟩;have KA:=V (HW.out.step ⟨ho,hk,hs⟩);clear ho hk hs;go_wp2_with (first | (at_builtin;refine A5 w2 rfl _ _ rfl rfl B v2 _ s.data.toList rfl KA.out.1 rfl (by rw [HN.out];simp only [ah];omega) (KA.out.base hB) ?_));intro v3 w3 ho hk hs;have Ma:=V (KA.out.step ⟨ho,hk,hs⟩);clear ho hk hs;go_wp2_with fail;go_ret;exact⟨_,rfl,by rw [HB.out];exact Ma.out⟩
theorem FA (w:World) (op n:Int) (h1:iQ op) (h2:iQ n):gJ w ⟨op,n,0,[]⟩ (.slice none 0 0):=⟨ee.nil w,h1,h2,xJ,by simp⟩
theorem Kb:iQ 65:=⟨by decide,by decide⟩
theorem JL:iQ 66:=⟨by decide,by decide⟩
def rp (w:World):World:={w with heap:=#[]}
theorem tC (w:World) (B:Nat):Src (rp w) w B:=⟨⟨rfl,rfl,rfl,by simp [rp],fun k hk=>by simp [rp]at hk⟩,by simp [rp]⟩
theorem nU (b:Value) (xs:List UInt8) (v:fb) (B:Nat) (w:World) (Ki:dU w B b xs) (hn:xs.length <=800000000) (hB:B <=w.heap.size) (hm:v.may) (ho:v.ok):
  Calls prog 184 #[b, .agg #[.int .i64 v.kind, .int .i64 v.n]] w (fk xs (lQ v) B b w):=by
 obtain⟨k,n⟩:=v;have hl:=rT ho;have HW:=V ((Wr.refl Ki).alloc (.cells #[.int .i64 k, .int .i64 n] 42));have c0:(w.alloc (.cells #[.int .i64 k, .int .i64 n] 42)).cell? ⟨w.heap.size,0,none⟩=some (.int .i64 k):=(eE.new w _ _).cell 0;have c1:(w.alloc (.cells #[.int .i64 k, .int .i64 n] 42)).cell? ⟨w.heap.size,1,none⟩=some (.int .i64 n):=(eE.new w _ _).cell 1;have HO:=V ho;have HM:=V hm;clear Ki ho hm;by_cases q:k=2
 ·skip
  have f1:=eF q;have HB:Hid (lQ ⟨k,n⟩=ij ⟨66,n,0,[]⟩++[11]):=V (by simp [lQ,q]);rw [HB.out]at hl;simp only [ah,aB]at hl;clear q;go_enter func184,ntmps184;go_wp2_with fail;refine(nW (rp w) b xs ⟨66,n,0,[]⟩ (.slice none 0 0) B _ HW.out.1 (by omega) (HW.out.base hB) (FA _ _ _ JL HO.out.2) ((tC w B).alloc _) (Ht n)).mono ?_;rintro e w2 ⟨v2,rfl,ho,hk,hs⟩;have KA:=V (HW.out.step ⟨ho,hk,hs⟩);clear ho hk hs;go_wp2_with (first | (at_builtin;refine eV w2 rfl _ _ rfl rfl B v2 _ rfl KA.out.1 (11:UInt8) _ rfl rfl (by first | omega | (simp only [ah];omega) | (simp only [ah,aB];omega) | (simp only [ah,aI,aM];omega)) (KA.out.base hB) ?_));intro v3 w3 ho hk hs;have Ma:=V (KA.out.step ⟨ho,hk,hs⟩);clear ho hk hs;go_wp2_with fail;go_ret;exact⟨_,rfl,by rw [HB.out];exact Ma.out⟩
 ·have hM:eK.may ⟨65,n,0,[]⟩:=by
   rcases HM.out with h | ⟨_,h1,h2⟩
   ·exact absurd h q
   ·exact Ej h1 h2
  have Lj:=V hM;clear hM;have f1:=dQ q;have HB:Hid (lQ ⟨k,n⟩=ij ⟨65,n,0,[]⟩++[11]):=V (by simp [lQ,q]);rw [HB.out]at hl;simp only [ah,aB]at hl;clear q;go_enter func184,ntmps184;go_wp2_with fail;refine(nW (rp w) b xs ⟨65,n,0,[]⟩ (.slice none 0 0) B _ HW.out.1 (by omega) (HW.out.base hB) (FA _ _ _ Kb HO.out.2) ((tC w B).alloc _) Lj.out).mono ?_;rintro e w2 ⟨v2,rfl,ho,hk,hs⟩;have KA:=V (HW.out.step ⟨ho,hk,hs⟩);clear ho hk hs;go_wp2_with (first | (at_builtin;refine eV w2 rfl _ _ rfl rfl B v2 _ rfl KA.out.1 (11:UInt8) _ rfl rfl (by first | omega | (simp only [ah];omega) | (simp only [ah,aB];omega) | (simp only [ah,aI,aM];omega)) (KA.out.base hB) ?_));intro v3 w3 ho hk hs;have Ma:=V (KA.out.step ⟨ho,hk,hs⟩);clear ho hk hs;go_wp2_with fail;go_ret;exact⟨_,rfl,by rw [HB.out];exact Ma.out⟩
theorem vF (b:Value) (xs:List UInt8) (n:Int) (B:Nat) (w:World) (Ki:dU w B b xs) (hn:xs.length <=700000000) (hB:B <=w.heap.size) (hm:lV n):
  Calls prog 189 #[b, .int .i64 n] w (fk xs (nx n) B b w):=by
 have HW:=V (Wr.refl Ki);have HM:=V hm;obtain⟨m1,m2⟩:=id hm;clear Ki hm;go_enter func189,ntmps189;go_wp2_with (first | (at_builtin;refine eV w rfl _ _ rfl rfl B b _ rfl HW.out.1 (0:UInt8) _ rfl rfl (by first | omega | (simp only [ah];omega) | (simp only [ah,aB];omega) | (simp only [ah,aI,aM];omega)) (HW.out.base hB) ?_));intro v2 w2 ho hk hs;have KA:=V (HW.out.step ⟨ho,hk,hs⟩);clear ho hk hs;go_wp2_with fail;refine(nU v2 _ ⟨1,n⟩ B w2 KA.out.1 (by simp only [ah,aB];omega) (KA.out.base hB) (.inr ⟨rfl,m1,m2⟩) ⟨⟨by show(-9223372036854775808:Int) <=1;decide,by show(1:Int) <=9223372036854775807;decide⟩,by show(-9223372036854775808:Int) <=n;omega,by show n <=(9223372036854775807:Int);omega⟩).mono ?_;rintro e w3 ⟨v3,rfl,ho,hk,hs⟩;have Ma:=V (KA.out.step ⟨ho,hk,hs⟩);clear ho hk hs;go_wp2_with fail;go_ret;exact⟨_,rfl,by rw [nx,List.append_cons];exact Ma.out⟩
theorem pQ (b:Value) (xs:List UInt8) (x:fL) (B:Nat) (w:World) (Ki:dU w B b xs) (hn:xs.length <=700000000) (hB:B <=w.heap.size) (h0:0 <=x.min) (hm: -1 <=x.max) (ho:x.ok):
  Calls prog 181 #[b, .agg #[.bool x.has, .int .i64 x.min, .int .i64 x.max]] w (fk xs (gC x) B b w):=by
 obtain⟨o1,o2⟩:=ho;obtain⟨has,mn,mx⟩:=x;simp only at h0 hm o1 o2;unfold iQ at o1 o2;obtain⟨n,rfl⟩:∃n:Nat,mn=n:=⟨mn.toNat,by omega⟩;have hp:=(eD n).2;by_cases q:mx < 0
 ·have f1:decide (mx < 0)=true:=az q
  have HB:Hid (gC ⟨has,n,mx⟩=0::eL n):=V (by simp only [gC];rw [aJ q];rfl);clear q;have HW:=V ((Wr.refl Ki).alloc (.cells #[.bool has, .int .i64 n, .int .i64 mx] 55));have HA:=V (Aside.new Ki #[.bool has, .int .i64 n, .int .i64 mx] 55);clear Ki;have c2:(w.alloc (.cells #[.bool has, .int .i64 n, .int .i64 mx] 55)).cell? ⟨w.heap.size,2,none⟩=some (.int .i64 mx):=HA.out.cell 2;go_enter func181,ntmps181;go_wp2_with fail;refine ed (fun w'=>w'.cell? ⟨w.heap.size,1,none⟩=some (.int .i64 n)) [(0,true),(3,true),(4,true),(1,false),(2,false),(5,false),(6,true)] (by kernel_rfl) (by kernel_rfl) (HA.out.cell 1) ?_;clear c2;have HW:=V HW.out.drew;have HA:=V HA.out.drew;obtain⟨X,hX⟩:∃X,X=w.heap.size:=⟨_,rfl⟩;rw [<- hX]at HA⊢;clear hX;generalize(w.alloc (.cells #[.bool has, .int .i64 n, .int .i64 mx] 55)).drew=wa at HW HA⊢;iterate 3 (first | (apply sk rfl rfl;simp only [pt]) | (apply dT rfl rfl rfl;·(rintro w' t1;go_wp2;exact⟨rfl,rfl,rfl⟩)))
  refine dZ rfl rfl ?_;go_wp2_with fail;refine⟨(HA.out.alloc _).cell 1,?_⟩;refine dZ rfl rfl ?_;go_wp2_with (first | (at_builtin;refine eV wa rfl _ _ rfl rfl B b _ rfl HW.out.1 (0:UInt8) _ rfl rfl (by first | omega | (simp only [ah];omega) | (simp only [ah,aB];omega) | (simp only [ah,aI,aM];omega)) (HW.out.base hB) ?_));intro v1 w1 ho hk hs;have HA:=V (HA.out.next ⟨ho,hk,hs⟩);have HW:=V (HW.out.step ⟨ho,hk,hs⟩);clear ho hk hs;go_wp2_with fail;refine⟨HA.out.cell 1,?_⟩;refine dZ rfl rfl ?_;go_wp2_with fail;refine(fF v1 _ n (by omega) B w1 HW.out.1 (by simp only [ah,aI,aM];omega) (HW.out.base hB)).mono ?_;rintro e w2 ⟨v2,rfl,ho,hk,hs⟩;have HA:=V (HA.out.next ⟨ho,hk,hs⟩);have HW:=V (HW.out.step ⟨ho,hk,hs⟩);clear ho hk hs;go_wp2_with fail;refine⟨HA.out.cell 1,?_⟩;iterate 1 (first | (apply sk rfl rfl;simp only [pt]) | (apply dT rfl rfl rfl;·(rintro w' t1;go_wp2;exact⟨rfl,rfl,rfl⟩)))
  refine eH ?_;refine aD ?_;go_wp2_with fail;go_ret;exact⟨_,rfl,by rw [HB.out];have h:=HW.out;simp only [aP,bL,bM]at h;exact h⟩
 ·have f1:decide (mx < 0)=false:=aA q
  obtain⟨m,rfl⟩:∃m:Nat,mx=m:=⟨mx.toNat,by omega⟩;have Pa:=(eD m).2;have HB:Hid (gC ⟨has,n,m⟩=1::(eL n++eL m)):=V (by simp only [gC];rw [aC q];rfl);clear q;have HW:=V ((Wr.refl Ki).alloc (.cells #[.bool has, .int .i64 n, .int .i64 m] 55));have HA:=V (Aside.new Ki #[.bool has, .int .i64 n, .int .i64 m] 55);clear Ki;have c2:(w.alloc (.cells #[.bool has, .int .i64 n, .int .i64 m] 55)).cell? ⟨w.heap.size,2,none⟩=some (.int .i64 m):=HA.out.cell 2;go_enter func181,ntmps181;go_wp2_with fail;refine ed (fun w'=>w'.cell? ⟨w.heap.size,1,none⟩=some (.int .i64 n)/\w'.cell? ⟨w.heap.size,2,none⟩=some (.int .i64 m)) [(0,true),(3,true),(4,true),(6,true),(7,true),(1,false),(2,false),(5,false),(8,false),(9,true)] (by kernel_rfl) (by kernel_rfl) ⟨HA.out.cell 1,HA.out.cell 2⟩ ?_;clear c2;have HW:=V HW.out.drew;have HA:=V HA.out.drew;obtain⟨X,hX⟩:∃X,X=w.heap.size:=⟨_,rfl⟩;rw [<- hX]at HA⊢;clear hX;generalize(w.alloc (.cells #[.bool has, .int .i64 n, .int .i64 m] 55)).drew=wa at HW HA⊢;iterate 5 (first | (apply sk rfl rfl;simp only [pt]) | (apply dT rfl rfl rfl;·(rintro w' ⟨t1,t2⟩;go_wp2;exact⟨rfl,rfl,rfl⟩)))
  refine dZ rfl rfl ?_;go_wp2_with fail;refine⟨⟨(HA.out.alloc _).cell 1,(HA.out.alloc _).cell 2⟩,?_⟩;refine dZ rfl rfl ?_;go_wp2_with (first | (at_builtin;refine eV wa rfl _ _ rfl rfl B b _ rfl HW.out.1 (1:UInt8) _ rfl rfl (by first | omega | (simp only [ah];omega) | (simp only [ah,aB];omega) | (simp only [ah,aI,aM];omega)) (HW.out.base hB) ?_));intro v1 w1 ho hk hs;have HA:=V (HA.out.next ⟨ho,hk,hs⟩);have HW:=V (HW.out.step ⟨ho,hk,hs⟩);clear ho hk hs;go_wp2_with fail;refine⟨⟨HA.out.cell 1,HA.out.cell 2⟩,?_⟩;refine dZ rfl rfl ?_;go_wp2_with fail;refine(fF v1 _ n (by omega) B w1 HW.out.1 (by simp only [ah,aI,aM];omega) (HW.out.base hB)).mono ?_;rintro e w2 ⟨v2,rfl,ho,hk,hs⟩;have HA:=V (HA.out.next ⟨ho,hk,hs⟩);have HW:=V (HW.out.step ⟨ho,hk,hs⟩);clear ho hk hs;go_wp2_with fail;refine⟨⟨HA.out.cell 1,HA.out.cell 2⟩,?_⟩;refine dZ rfl rfl ?_;go_wp2_with fail;refine(fF v2 _ m (by omega) B w2 HW.out.1 (by simp only [ah,aI,aM];omega) (HW.out.base hB)).mono ?_;rintro e w3 ⟨v3,rfl,ho,hk,hs⟩;have HA:=V (HA.out.next ⟨ho,hk,hs⟩);have HW:=V (HW.out.step ⟨ho,hk,hs⟩);clear ho hk hs;go_wp2_with fail;refine⟨⟨HA.out.cell 1,HA.out.cell 2⟩,?_⟩;iterate 1 (first | (apply sk rfl rfl;simp only [pt]) | (apply dT rfl rfl rfl;·(rintro w' ⟨t1,t2⟩;go_wp2;exact⟨rfl,rfl,rfl⟩)))
  refine eH ?_;refine aD ?_;go_wp2_with fail;go_ret;exact⟨_,rfl,by rw [HB.out];have h:=HW.out;simp only [aP,bL,bM]at h;exact h⟩
theorem Bw (x:fL) (w:World):Calls prog 179 #[.agg #[.bool x.has, .int .i64 x.min, .int .i64 x.max]] w (fun e w'=>∃v,e= .returned v/\ee 3 (fun x:fL=>[.bool x.has, .int .i64 x.min, .int .i64 x.max]) w' v (oneOf x)/\Below w.heap.size w w'):=by
 obtain⟨has,mn,mx⟩:=x;cases has with
 | false=>
  go_enter func179,ntmps179;go_wp2_with fail;go_ret;exact⟨_,rfl,ee.nil _,(an _ _).alloc (ag _) _⟩
 | true=>
  go_enter func179,ntmps179;go_wp2_with fail;go_ret;have hx:eE (((w.alloc (.cells #[.bool true, .int .i64 mn, .int .i64 mx] 55)).alloc (.cells #[.bool true, .int .i64 mn, .int .i64 mx] 55))) (w.heap.size+1) #[.bool true, .int .i64 mn, .int .i64 mx] 55:=by have:=eE.new (w.alloc (.cells #[.bool true, .int .i64 mn, .int .i64 mx] 55)) #[.bool true, .int .i64 mn, .int .i64 mx] 55;rw [aE]at this;exact this
  refine⟨_,rfl,⟨some ⟨w.heap.size+1,0,none⟩,1,rfl,ag _,by simp [maxLen],fun i x hi=>⟨w.heap.size+1,0,rfl,hx.lt,fun j u hu=>?_⟩⟩,((an _ _).alloc (ag _) _).alloc (by rw [aE];omega) _⟩;obtain rfl:i=0:=by
   have:=(aL.1 hi).1;simp [oneOf]at this;omega
  simp only [oneOf,cY,aF,aX]at hi;subst hi;rw [Nat.zero_mul,bX];have:=hx.cell j;rw [this];simpa using hu
def Row (w:World) (B:Nat) (b:Value) (xs:List UInt8):Prop:=
 dU w B b xs\/∃g,b= .slice (some ⟨g,0,none⟩) xs.length xs.length/\eI w b xs/\B <=g/\g < w.heap.size
theorem Row.lt {w:World} {B:Nat} {b:Value} {xs:List UInt8} (h:Row w B b xs) {i:Nat} (hi:ey b i):B <=i/\i < w.heap.size:=by
 rcases h with h | ⟨g,rfl,_,h1,h2⟩
 ·exact eo h hi
 ·simp [ey,Value.ownBlock]at hi
  subst hi;exact⟨h1,h2⟩
theorem Row.below {w w':World} {B:Nat} {b:Value} {xs:List UInt8} (h:Row w B b xs) (hb:Below w.heap.size w w'):Row w' B b xs:=by
 rcases h with h | ⟨g,rfl,h0,h1,h2⟩
 ·exact .inl (dU.below h hb)
 ·exact .inr ⟨g,rfl,h0.below hb,h1,by have:=hb.size;omega⟩
theorem Row.fm {w:World} {B:Nat} {b:Value} {xs:List UInt8} (h:Row w B b xs):eI w b xs:=by
 rcases h with h | ⟨g,_,h0,_⟩
 ·exact dU.fm h
 ·exact h0
def sv (w:World) (b:Value) (B:Nat) (w':World) (v:Value) (L:List UInt8):Prop:=Row w' B v L/\dS (ey b) w w'/\eC w b v
theorem sv.refl {w:World} {b:Value} {B:Nat} {L:List UInt8} (h:Row w B b L):sv w b B w b L:=⟨h,dS.refl _ _,eC.refl _ _⟩
theorem sv.below {w w1 w2:World} {b v:Value} {B:Nat} {L:List UInt8} (h:sv w b B w1 v L) (hb:Below w1.heap.size w1 w2):sv w b B w2 v L:=
 ⟨h.1.below hb,h.2.1.trans (dS.dV (S:=fun _=>False) hb) (fun _ hi=>hi.elim),h.2.2⟩
theorem sv.base {w w1:World} {b v:Value} {B:Nat} {L:List UInt8} (h:sv w b B w1 v L) (hB:B <=w.heap.size):B <=w1.heap.size:=aW hB h.2.1.size
theorem sv.own {w w1 w2:World} {b v1 v2:Value} {B:Nat} {L1 L2:List UInt8} (h:sv w b B w1 v1 L1) (k:dU w2 B v2 L2/\dS (ey v1) w1 w2/\eC w1 v1 v2):Wr w b B w2 v2 L2:=
 ⟨k.1,h.2.1.trans k.2.1 (fun i hi=>h.2.2 i hi),h.2.2.trans k.2.2 h.2.1.size⟩
theorem sv.step {w w1 w2:World} {b v1 v2:Value} {B:Nat} {L1 L2:List UInt8} (h:sv w b B w1 v1 L1) (k:sv w1 v1 B w2 v2 L2):sv w b B w2 v2 L2:=
 ⟨k.1,h.2.1.trans k.2.1 (fun i hi=>h.2.2 i hi),h.2.2.trans k.2.2 h.2.1.size⟩
theorem Wr.row {w w1:World} {b v:Value} {B:Nat} {L:List UInt8} (h:Wr w b B w1 v L):sv w b B w1 v L:=⟨.inl h.1,h.2⟩
def mc (xs ys:List UInt8) (B:Nat) (b:Value) (w:World) (e:Ending) (w':World):Prop:=∃v',e= .returned v'/\sv w b B w' v' (xs++ys)
theorem ik {P:Program} (w:World) {ops:Array Oper} {rest:List Oper} {o:Oper} {a:Act} {Q:Exit ->Act ->World ->Prop} (Ob:o.guard=none) (s x:Operand)
  (hP:P=prog) (ho:o.op= .call {callee:= .builtin .append,args:=#[s,x],argTypes:=#[97,97]})
  (B:Nat) (v:Value) (l:List UInt8) (hs:a.eval s=v) (Ki:Row w B v l)
  (y:UInt8) (m:Int) (hm:m=y.toNat) (hx:a.eval x= .slice (some ⟨w.heap.size,0,none⟩) 1 1)
  (Ou:l.length <=1000000000) (KO:B <=w.heap.size)
  (h:∀v' w',dU w' B v' (l++[y]) ->dS (ey v) w w' ->eC w v v' ->wpList P ops Q rest (a.put o.dst v') w'):wpList P ops Q (o::rest) a (w.alloc (.cells #[.int .u8 m] 5)):=by
 rcases Ki with Ki | ⟨g,rfl,hi,h1,h2⟩
 ·exact eV w Ob s x hP ho B v l hs Ki y m hm hx (by omega) KO h
 ·subst hP
  subst hm;refine dK Ob fun _ hK=>?_;obtain⟨i0,No,MY,LG,Mm⟩:=cd oC;obtain⟨a0,cap0,he,_,_,hc⟩:=hi;injection he with e1 e2 e3;subst e1;have holds:∀j u,(l.map bv)[j]?=some u ->(w.alloc (.cells #[.int .u8 (y.toNat:Int)] 5)).cell? ((⟨g,0,none⟩:Addr).add j)=some u:=by
   intro j u hj;rw [cn,bB]at hj;obtain⟨z,hz,rfl⟩:=hj;obtain⟨b,off,hb,hcz⟩:=hc j z hz;injection hb with hb;injection hb with e4 e5;subst e4 e5;have Oc:(⟨g,0,none⟩:Addr).add j=⟨g,j,none⟩:=by unfold Addr.add;split <;>simp_all
   rw [Oc];rw [bX]at hcz;rw [((an w.heap.size w).alloc (ag _) _).cell (by exact h2)];exact hcz
  have N9:∀j u,[bv y][j]?=some u ->(w.alloc (.cells #[.int .u8 (y.toNat:Int)] 5)).cell? ((⟨w.heap.size,0,none⟩:Addr).add j)=some u:=by
   intro j u hu;have Oc:(⟨w.heap.size,0,none⟩:Addr).add j=⟨w.heap.size,j,none⟩:=by unfold Addr.add;split <;>simp_all
   rw [Oc,bP];simpa using hu
  have hr:=run_append_grow (P:=prog) (w.alloc (.cells #[.int .u8 (y.toNat:Int)] 5)) 97 o.type 5 i0 (.int .u8 0) (by kernel_rfl) No MY ⟨g,0,none⟩ l.length l.length (l.map bv) (by rw [bz,LG,bj]) holds
   ⟨w.heap.size,0,none⟩ 1 1 [bv y] (by rw [LG];rfl) N9 (by omega) (by omega) (growslice_fits (by omega) (by rw [Mm];omega))
  unfold Oper.wp execOp;simp only [ho,resolve,invoke,builtin,cM,cm,cC,dr,bC,cR,hs,hx,hr];have hge:=grownCap_ge (w.alloc (.cells #[.int .u8 (y.toNat:Int)] 5)) (l.length+1) l.length 5;have Mr:=dJ (w.alloc (.cells #[.int .u8 (y.toNat:Int)] 5)) (l.length+1) l.length 5 (by simp only [maxLen];omega);refine hK _ _ (h _ _ ?_ ?_ ?_)
  ·refine⟨by simp, .inr ⟨_,_,_,by rw [ah];rfl,by simp;omega,dq _ _,by rw [ah];exact hge,Mr,?_,?_⟩⟩
   ·have hz:(Value.int IntKind.u8 0).cells.size=1:=rfl
    simp only [Array.size_append,dy,size_zeroCells,hz,bz,aB];omega
   ·have hl:(l.map bv++[bv y]).length=(l++[y]).length*1:=by simp
    simp only [Array.toList_append,cg,bC,cR];rw [<- hl];exact cP
  ·exact(((dS.refl _ _).alloc _).drew).alloc _
  ·intro k hk
   simp [ey,Value.ownBlock]at hk;exact .inr (by omega)
theorem CA (w:World) (s:ByteArray):(convert 9 97 (.string s)).run prog w= .ok (.slice (some ⟨w.heap.size,0,none⟩) s.size (grownCap w s.size 0 5)) (Lib.bytesWorld w 5 s):=
 Lib.run_convert_string_bytes (u:= .string) w _ _ _ s (by kernel_rfl) (by kernel_rfl) (by kernel_rfl)
theorem sV (w:World) (s:ByteArray):Below w.heap.size w (Lib.bytesWorld w 5 s):=⟨rfl,rfl,rfl,by rw [Lib.bytesWorld_size];omega,fun k hk=>Lib.bytesWorld_at_old w _ s k hk⟩
theorem GU (w:World) (s:ByteArray) (h:s.size <=1000000000000):eI (Lib.bytesWorld w 5 s) (.slice (some ⟨w.heap.size,0,none⟩) s.size (grownCap w s.size 0 5)) s.data.toList:=by
 have Lf:s.data.toList.length=s.size:=rfl;refine⟨_,_,by rw [Lf],by rw [Lf];exact grownCap_ge _ _ _ _,dJ _ _ _ _ (by simp only [maxLen];omega),fun i x hx=>⟨_,0,rfl,?_⟩⟩;have hi:i < s.size:=by rw [<- Lf];exact(aL.1 hx).1
 rw [bX,Lib.bytesWorld_cell w _ s i hi,List.getD_eq_getElem?_getD,hx];rfl
def uY {α:Type} (w0:World) (put:α ->List UInt8) (xs:List UInt8) (l:List α) (B:Nat) (b:Value) (w w':World) (v:Value) (k:Nat):Prop:=
 k <=l.length/\Wr w b B w' v (xs++(eL l.length++((l.take k).map put).flatten))/\Src w0 w' B
theorem jw {α:Type} (put:α ->List UInt8) (l:List α) (k:Nat):(((l.take k).map put).flatten).length <=((l.map put).flatten).length:=by
 conv=>rhs;rw [<- cF k l]
 simp only [cg,List.flatten_append,ah];omega
def xh (x:fL):List Value:=[.bool x.has, .int .i64 x.min, .int .i64 x.max]
theorem oz (w0:World) (put:Int ->List UInt8) (C:Nat) (b:Value) (xs:List UInt8) (v:Value) (l:List Int) (B:Nat) (w:World) (Kj:Nat)
  (hE:∀args w,(callFunc Kj args).run prog w= .ok (.enter Kj args) w) (hl:ee 1 eZ w0 v l) (Ki:dU w B b xs) (hB:B <=w.heap.size) (h0:Src w0 w B)
  (hC:xs.length+(eS put l).length <=C) (Mk:C <=900000000)
  (hp:∀e∈l,∀b xs w,dU w B b xs ->xs.length <=C ->B <=w.heap.size ->Src w0 w B ->Calls prog Kj #[b, .int .i64 e] w (fk xs (put e) B b w)):
  Calls prog 171 #[b,v, .func (.func Kj) #[] #[]] w (fk xs (eS put l) B b w):=by
 have HP:=V hp;have HL:=V hl;have H0:=V h0;have HC:=V hC;have HW:=V (Wr.refl Ki);have PZ:xs.length <=900000000:=by omega
 obtain⟨a,cap,rfl,Me,La⟩:=eT hl;clear hp hl h0 hC Ki Mk;go_enter func171,ntmps171;go_wp2_with fail;refine(fF b xs l.length (by omega) B w HW.out.1 (by omega) hB).mono ?_;rintro e w2 ⟨v2,rfl,ho,hk,hs⟩;have KA:=V (HW.out.step ⟨ho,hk,hs⟩);have KP:=V (H0.out.next HW.out.1 ⟨ho,hk,hs⟩);clear ho hk hs;go_wp2_with fail;refine ez (fun a' w'=>∃(vb:Value) (k:Nat),a'=fr (vb::gs a' 1 1 (.func (.func Kj) #[] #[]::gs a' 3 10 (.slice a l.length cap:: .int .i64 l.length:: .int .i64 k::gs a' 16 9 [])))/\uY w0 put xs l B b w w' vb k) (fun a' _=>(l.length - (intOf (a'.tmps.getD 15 undef)).toNat)) ?_ ?_
 ·exact⟨_,0,rfl,by omega,by simpa using KA.out,KP.out⟩
 ·skip
  clear HW KA KP H0 v2;rintro R a' w1 ⟨vb,k,Kk,hJ⟩ HR;dsimp only [fr,gs]at Kk;generalize slot a'=f at Kk;subst Kk;obtain⟨hk,M4,MS⟩:=hJ;have HW:=V M4;have HS:=V MS;have O2:=V (show(xs++(eL l.length++((l.take k).map put).flatten)).length <=C by
   have h1:=HC.out;have h2:=jw put l k;simp only [eS,ah]at*;omega)
  clear M4 MS;by_cases q:k < l.length;rotate_left
  ·obtain rfl:k=l.length:=by omega
   have HW:=V (show Wr w b B w1 vb (xs++eS put l)by have:=HW.out;rwa [aU]at this);go_wp2_with fail;go_ret;exact⟨_,rfl,HW.out⟩
  obtain⟨x,hx⟩:∃x,l[k]?=some x:=⟨_,aq q⟩;obtain⟨a',KE,hv,_,_,Kh⟩:=HL.out;injection hv with e1 e2 e3;subst e1 e3;obtain⟨bb,off,rfl,Kq,LL⟩:=Kh k x hx;clear Kh e2;have c0:=(HS.out.1.cell Kq).trans (LL 0 _ rfl);rw [aK,bj]at c0;have HX:=V hx;clear LL hx;go_wp2_with fail;have Lc:=HW;have Ms:=HS;refine(HP.out x (aO HX.out) _ _ _ Lc.out.1 O2.out (Lc.out.base hB) Ms.out).mono ?_;rintro e w2 ⟨v2,rfl,KB,Kp,Ku⟩;have KA:=V (Lc.out.step ⟨KB,Kp,Ku⟩);have KP:=V (Ms.out.next Lc.out.1 ⟨KB,Kp,Ku⟩);clear KB Kp Ku c0;go_wp2_with fail;refine HR.out _ _ ⟨_,k+1,rfl,by omega,?_,KP.out⟩ ?_
  ·have:=KA.out
   rw [aQ,HX.out];simpa using this
  ·simp [intOf]
   omega
theorem Ay (w0:World) (put:Int ->List UInt8) (no:Nat) (NI:no < 256) (b:Value) (xs:List UInt8) (v:Value) (l:List Int) (B:Nat) (w:World) (Kj:Nat)
  (hE:∀args w,(callFunc Kj args).run prog w= .ok (.enter Kj args) w) (hl:ee 1 eZ w0 v l) (Ki:Row w B b xs) (hB:B <=w.heap.size) (h0:Below w0.heap.size w0 w)
  (hC:xs.length+(eS put l).length <=100000000)
  (hp:∀e∈l,∀b xs w B,dU w B b xs ->xs.length <=100000000 ->B <=w.heap.size ->Src w0 w B ->Calls prog Kj #[b, .int .i64 e] w (fk xs (put e) B b w)):
  Calls prog 177 #[b, .int .i64 no,v, .func (.func Kj) #[] #[]] w (mc xs (fB (b8 no) put l) B b w):=by
 have HP:=V hp;have HL:=V hl;have H0:=V h0;have HW:=V (sv.refl Ki);obtain⟨a,cap,rfl,Me,La⟩:=eT hl;clear hp hl h0 Ki;by_cases q:l.length=0
 ·have f1:=eF (show(l.length:Int)=0 by omega)
  have HN:=V (show l=[]from aH q);clear q;go_enter func177,ntmps177;go_wp2_with fail;go_ret;exact⟨_,rfl,by rw [HN.out];simpa [fB] using HW.out⟩
 ·have f1:=dQ (show ¬ (l.length:Int)=0 by omega)
  have HN:Hid (fB (b8 no) put l=b8 no::(eL (eS put l).length++eS put l)):=V (by
   cases l with
   | nil=>exact absurd rfl q
   | cons x l=>rfl)
  clear q;go_enter func177,ntmps177;go_wp2_with fail;refine(oz w0 put 100000000 (.slice none 0 0) [] _ l w.heap.size w Kj hE HL.out (dU.nil _ _) (ag _) ⟨H0.out,H0.out.size⟩ (by simp only [aM];omega) (by decide) (fun e he b xs w ho hx hB h0=>HP.out e he b xs w _ ho hx hB h0)).mono ?_;rintro e w2 ⟨v2,rfl,ho,hk,hs⟩;rw [bM]at ho;have Kl:=ju hk rfl;have HO:=V ho;have KA:=V (HW.out.below Kl);obtain⟨a2,Kn,Py,-,-,-⟩:=ho.fm;subst Py;have LM:∀i,ey (.slice a2 (eS put l).length Kn) i ->¬ ey b i:=fun i h1 h2=>by
   have:=(eo HO.out h1).1;have:=(HW.out.1.lt h2).2;omega
  have HD:=V LM;clear ho hk hs hE LM;go_wp2_with (first | (at_builtin;refine ik w2 rfl _ _ rfl rfl B b _ rfl KA.out.1 (b8 no) _ ?_ ?_ ?_ ?_ ?_))
  ·rw [fJ NI]
  ·rfl
  ·omega
  ·exact KA.out.base hB
  intro v3 w3 ho hk hs;have Ma:=V (KA.out.own ⟨ho,hk,hs⟩);have MF:=V (HO.out.keeps hk HD.out);have Pz:=V (show∀i,ey (.slice a2 (eS put l).length Kn) i ->¬ ey v3 i from fun i h1 h2=>(hs i h2).elim (HD.out i h1) (fun g=>by have:=(eo HO.out h1).2;omega));clear ho hk hs;go_wp2_with fail;refine(fF v3 _ (eS put l).length (by omega) B w3 Ma.out.1 (by simp only [ah,aB];omega) (Ma.out.base hB)).mono ?_;rintro e w4 ⟨v4,rfl,ho,hk,hs⟩;have Lo:=V (Ma.out.step ⟨ho,hk,hs⟩);have MI:=V (MF.out.keeps hk Pz.out);have hp4:=(eD (eS put l).length).2;clear ho hk hs;go_wp2_with (first | (at_builtin;refine fK w4 rfl _ _ rfl rfl B v4 _ rfl Lo.out.1 _ _ rfl MI.out.fm (by simp only [ah,aB];omega) (Lo.out.base hB) ?_));intro v5 w5 ho hk hs;have NR:=V (Lo.out.step ⟨ho,hk,hs⟩);clear ho hk hs;go_wp2_with fail;go_ret;exact⟨_,rfl,by rw [HN.out];exact NR.out.row⟩
theorem EO (w0:World) (put:jd ->List UInt8) (C:Nat) (b:Value) (xs:List UInt8) (v:Value) (l:List jd) (B:Nat) (w:World) (Kj:Nat)
  (hE:∀args w,(callFunc Kj args).run prog w= .ok (.enter Kj args) w) (hl:ee 3 sz w0 v l) (Ki:dU w B b xs) (hB:B <=w.heap.size) (h0:Src w0 w B)
  (hC:xs.length+(eS put l).length <=C) (Mk:C <=900000000)
  (hp:∀e∈l,∀b xs w,dU w B b xs ->xs.length <=C ->B <=w.heap.size ->Src w0 w B ->Calls prog Kj #[b, .agg #[.string e.mod, .string e.name, .int .i64 e.type]] w (fk xs (put e) B b w)):
  Calls prog 257 #[b,v, .func (.func Kj) #[] #[]] w (fk xs (eS put l) B b w):=by
 have HP:=V hp;have HL:=V hl;have H0:=V h0;have HC:=V hC;have HW:=V (Wr.refl Ki);have PZ:xs.length <=900000000:=by omega
 obtain⟨a,cap,rfl,Me,La⟩:=eT hl;clear hp hl h0 hC Ki Mk;go_enter func257,ntmps257;go_wp2_with fail;refine(fF b xs l.length (by omega) B w HW.out.1 (by omega) hB).mono ?_;rintro e w2 ⟨v2,rfl,ho,hk,hs⟩;have KA:=V (HW.out.step ⟨ho,hk,hs⟩);have KP:=V (H0.out.next HW.out.1 ⟨ho,hk,hs⟩);clear ho hk hs;go_wp2_with fail;refine ez (fun a' w'=>∃(vb:Value) (k:Nat),a'=fr (vb::gs a' 1 1 (.func (.func Kj) #[] #[]::gs a' 3 10 (.slice a l.length cap:: .int .i64 l.length:: .int .i64 k::gs a' 16 9 [])))/\uY w0 put xs l B b w w' vb k) (fun a' _=>(l.length - (intOf (a'.tmps.getD 15 undef)).toNat)) ?_ ?_
 ·exact⟨_,0,rfl,by omega,by simpa using KA.out,KP.out⟩
 ·skip
  clear HW KA KP H0 v2;rintro R a' w1 ⟨vb,k,Kk,hJ⟩ HR;dsimp only [fr,gs]at Kk;generalize slot a'=f at Kk;subst Kk;obtain⟨hk,M4,MS⟩:=hJ;have HW:=V M4;have HS:=V MS;have O2:=V (show(xs++(eL l.length++((l.take k).map put).flatten)).length <=C by
   have h1:=HC.out;have h2:=jw put l k;simp only [eS,ah]at*;omega)
  clear M4 MS;by_cases q:k < l.length;rotate_left
  ·obtain rfl:k=l.length:=by omega
   have HW:=V (show Wr w b B w1 vb (xs++eS put l)by have:=HW.out;rwa [aU]at this);go_wp2_with fail;go_ret;exact⟨_,rfl,HW.out⟩
  obtain⟨x,hx⟩:∃x,l[k]?=some x:=⟨_,aq q⟩;obtain⟨a',KE,hv,_,_,Kh⟩:=HL.out;injection hv with e1 e2 e3;subst e1 e3;obtain⟨bb,off,rfl,Kq,LL⟩:=Kh k x hx;clear Kh e2;have c0:=(HS.out.1.cell Kq).trans (LL 0 _ rfl);have c1:=(HS.out.1.cell Kq).trans (LL 1 _ rfl);have c2:=(HS.out.1.cell Kq).trans (LL 2 _ rfl);rw [aK]at c0;have HX:=V hx;clear LL hx;go_wp2_with fail;have Lc:=V (HW.out.alloc (.cells #[.string x.mod, .string x.name, .int .i64 x.type] 118));have Ms:=V (HS.out.alloc (.cells #[.string x.mod, .string x.name, .int .i64 x.type] 118));refine(HP.out x (aO HX.out) _ _ _ Lc.out.1 O2.out (Lc.out.base hB) Ms.out).mono ?_;rintro e w2 ⟨v2,rfl,KB,Kp,Ku⟩;have KA:=V (Lc.out.step ⟨KB,Kp,Ku⟩);have KP:=V (Ms.out.next Lc.out.1 ⟨KB,Kp,Ku⟩);clear KB Kp Ku c0 c1 c2;go_wp2_with fail;refine HR.out _ _ ⟨_,k+1,rfl,by omega,?_,KP.out⟩ ?_
  ·have:=KA.out
   rw [aQ,HX.out];simpa using this
  ·simp [intOf]
   omega
theorem FC (w0:World) (put:jd ->List UInt8) (no:Nat) (NI:no < 256) (b:Value) (xs:List UInt8) (v:Value) (l:List jd) (B:Nat) (w:World) (Kj:Nat)
  (hE:∀args w,(callFunc Kj args).run prog w= .ok (.enter Kj args) w) (hl:ee 3 sz w0 v l) (Ki:Row w B b xs) (hB:B <=w.heap.size) (h0:Below w0.heap.size w0 w)
  (hC:xs.length+(eS put l).length <=100000000)
  (hp:∀e∈l,∀b xs w B,dU w B b xs ->xs.length <=100000000 ->B <=w.heap.size ->Src w0 w B ->Calls prog Kj #[b, .agg #[.string e.mod, .string e.name, .int .i64 e.type]] w (fk xs (put e) B b w)):
  Calls prog 173 #[b, .int .i64 no,v, .func (.func Kj) #[] #[]] w (mc xs (fB (b8 no) put l) B b w):=by
 have HP:=V hp;have HL:=V hl;have H0:=V h0;have HW:=V (sv.refl Ki);obtain⟨a,cap,rfl,Me,La⟩:=eT hl;clear hp hl h0 Ki;by_cases q:l.length=0
 ·have f1:=eF (show(l.length:Int)=0 by omega)
  have HN:=V (show l=[]from aH q);clear q;go_enter func173,ntmps173;go_wp2_with fail;go_ret;exact⟨_,rfl,by rw [HN.out];simpa [fB] using HW.out⟩
 ·have f1:=dQ (show ¬ (l.length:Int)=0 by omega)
  have HN:Hid (fB (b8 no) put l=b8 no::(eL (eS put l).length++eS put l)):=V (by
   cases l with
   | nil=>exact absurd rfl q
   | cons x l=>rfl)
  clear q;go_enter func173,ntmps173;go_wp2_with fail;refine(EO w0 put 100000000 (.slice none 0 0) [] _ l w.heap.size w Kj hE HL.out (dU.nil _ _) (ag _) ⟨H0.out,H0.out.size⟩ (by simp only [aM];omega) (by decide) (fun e he b xs w ho hx hB h0=>HP.out e he b xs w _ ho hx hB h0)).mono ?_;rintro e w2 ⟨v2,rfl,ho,hk,hs⟩;rw [bM]at ho;have Kl:=ju hk rfl;have HO:=V ho;have KA:=V (HW.out.below Kl);obtain⟨a2,Kn,Py,-,-,-⟩:=ho.fm;subst Py;have LM:∀i,ey (.slice a2 (eS put l).length Kn) i ->¬ ey b i:=fun i h1 h2=>by
   have:=(eo HO.out h1).1;have:=(HW.out.1.lt h2).2;omega
  have HD:=V LM;clear ho hk hs hE LM;go_wp2_with (first | (at_builtin;refine ik w2 rfl _ _ rfl rfl B b _ rfl KA.out.1 (b8 no) _ ?_ ?_ ?_ ?_ ?_))
  ·rw [fJ NI]
  ·rfl
  ·omega
  ·exact KA.out.base hB
  intro v3 w3 ho hk hs;have Ma:=V (KA.out.own ⟨ho,hk,hs⟩);have MF:=V (HO.out.keeps hk HD.out);have Pz:=V (show∀i,ey (.slice a2 (eS put l).length Kn) i ->¬ ey v3 i from fun i h1 h2=>(hs i h2).elim (HD.out i h1) (fun g=>by have:=(eo HO.out h1).2;omega));clear ho hk hs;go_wp2_with fail;refine(fF v3 _ (eS put l).length (by omega) B w3 Ma.out.1 (by simp only [ah,aB];omega) (Ma.out.base hB)).mono ?_;rintro e w4 ⟨v4,rfl,ho,hk,hs⟩;have Lo:=V (Ma.out.step ⟨ho,hk,hs⟩);have MI:=V (MF.out.keeps hk Pz.out);have hp4:=(eD (eS put l).length).2;clear ho hk hs;go_wp2_with (first | (at_builtin;refine fK w4 rfl _ _ rfl rfl B v4 _ rfl Lo.out.1 _ _ rfl MI.out.fm (by simp only [ah,aB];omega) (Lo.out.base hB) ?_));intro v5 w5 ho hk hs;have NR:=V (Lo.out.step ⟨ho,hk,hs⟩);clear ho hk hs;go_wp2_with fail;go_ret;exact⟨_,rfl,by rw [HN.out];exact NR.out.row⟩
theorem D6 (w0:World) (put:fL ->List UInt8) (C:Nat) (b:Value) (xs:List UInt8) (v:Value) (l:List fL) (B:Nat) (w:World) (Kj:Nat)
  (hE:∀args w,(callFunc Kj args).run prog w= .ok (.enter Kj args) w) (hl:ee 3 xh w0 v l) (Ki:dU w B b xs) (hB:B <=w.heap.size) (h0:Src w0 w B)
  (hC:xs.length+(eS put l).length <=C) (Mk:C <=900000000)
  (hp:∀e∈l,∀b xs w,dU w B b xs ->xs.length <=C ->B <=w.heap.size ->Src w0 w B ->Calls prog Kj #[b, .agg #[.bool e.has, .int .i64 e.min, .int .i64 e.max]] w (fk xs (put e) B b w)):
  Calls prog 258 #[b,v, .func (.func Kj) #[] #[]] w (fk xs (eS put l) B b w):=by
 have HP:=V hp;have HL:=V hl;have H0:=V h0;have HC:=V hC;have HW:=V (Wr.refl Ki);have PZ:xs.length <=900000000:=by omega
 obtain⟨a,cap,rfl,Me,La⟩:=eT hl;clear hp hl h0 hC Ki Mk;go_enter func258,ntmps258;go_wp2_with fail;refine(fF b xs l.length (by omega) B w HW.out.1 (by omega) hB).mono ?_;rintro e w2 ⟨v2,rfl,ho,hk,hs⟩;have KA:=V (HW.out.step ⟨ho,hk,hs⟩);have KP:=V (H0.out.next HW.out.1 ⟨ho,hk,hs⟩);clear ho hk hs;go_wp2_with fail;refine ez (fun a' w'=>∃(vb:Value) (k:Nat),a'=fr (vb::gs a' 1 1 (.func (.func Kj) #[] #[]::gs a' 3 10 (.slice a l.length cap:: .int .i64 l.length:: .int .i64 k::gs a' 16 9 [])))/\uY w0 put xs l B b w w' vb k) (fun a' _=>(l.length - (intOf (a'.tmps.getD 15 undef)).toNat)) ?_ ?_
 ·exact⟨_,0,rfl,by omega,by simpa using KA.out,KP.out⟩
 ·skip
  clear HW KA KP H0 v2;rintro R a' w1 ⟨vb,k,Kk,hJ⟩ HR;dsimp only [fr,gs]at Kk;generalize slot a'=f at Kk;subst Kk;obtain⟨hk,M4,MS⟩:=hJ;have HW:=V M4;have HS:=V MS;have O2:=V (show(xs++(eL l.length++((l.take k).map put).flatten)).length <=C by
   have h1:=HC.out;have h2:=jw put l k;simp only [eS,ah]at*;omega)
  clear M4 MS;by_cases q:k < l.length;rotate_left
  ·obtain rfl:k=l.length:=by omega
   have HW:=V (show Wr w b B w1 vb (xs++eS put l)by have:=HW.out;rwa [aU]at this);go_wp2_with fail;go_ret;exact⟨_,rfl,HW.out⟩
  obtain⟨x,hx⟩:∃x,l[k]?=some x:=⟨_,aq q⟩;obtain⟨a',KE,hv,_,_,Kh⟩:=HL.out;injection hv with e1 e2 e3;subst e1 e3;obtain⟨bb,off,rfl,Kq,LL⟩:=Kh k x hx;clear Kh e2;have c0:=(HS.out.1.cell Kq).trans (LL 0 _ rfl);have c1:=(HS.out.1.cell Kq).trans (LL 1 _ rfl);have c2:=(HS.out.1.cell Kq).trans (LL 2 _ rfl);rw [aK]at c0;have HX:=V hx;clear LL hx;go_wp2_with fail;have Lc:=V (HW.out.alloc (.cells #[.bool x.has, .int .i64 x.min, .int .i64 x.max] 55));have Ms:=V (HS.out.alloc (.cells #[.bool x.has, .int .i64 x.min, .int .i64 x.max] 55));refine(HP.out x (aO HX.out) _ _ _ Lc.out.1 O2.out (Lc.out.base hB) Ms.out).mono ?_;rintro e w2 ⟨v2,rfl,KB,Kp,Ku⟩;have KA:=V (Lc.out.step ⟨KB,Kp,Ku⟩);have KP:=V (Ms.out.next Lc.out.1 ⟨KB,Kp,Ku⟩);clear KB Kp Ku c0 c1 c2;go_wp2_with fail;refine HR.out _ _ ⟨_,k+1,rfl,by omega,?_,KP.out⟩ ?_
  ·have:=KA.out
   rw [aQ,HX.out];simpa using this
  ·simp [intOf]
   omega
theorem zD (w0:World) (put:fL ->List UInt8) (no:Nat) (NI:no < 256) (b:Value) (xs:List UInt8) (v:Value) (l:List fL) (B:Nat) (w:World) (Kj:Nat)
  (hE:∀args w,(callFunc Kj args).run prog w= .ok (.enter Kj args) w) (hl:ee 3 xh w0 v l) (Ki:Row w B b xs) (hB:B <=w.heap.size) (h0:Below w0.heap.size w0 w)
  (hC:xs.length+(eS put l).length <=100000000)
  (hp:∀e∈l,∀b xs w B,dU w B b xs ->xs.length <=100000000 ->B <=w.heap.size ->Src w0 w B ->Calls prog Kj #[b, .agg #[.bool e.has, .int .i64 e.min, .int .i64 e.max]] w (fk xs (put e) B b w)):
  Calls prog 178 #[b, .int .i64 no,v, .func (.func Kj) #[] #[]] w (mc xs (fB (b8 no) put l) B b w):=by
 have HP:=V hp;have HL:=V hl;have H0:=V h0;have HW:=V (sv.refl Ki);obtain⟨a,cap,rfl,Me,La⟩:=eT hl;clear hp hl h0 Ki;by_cases q:l.length=0
 ·have f1:=eF (show(l.length:Int)=0 by omega)
  have HN:=V (show l=[]from aH q);clear q;go_enter func178,ntmps178;go_wp2_with fail;go_ret;exact⟨_,rfl,by rw [HN.out];simpa [fB] using HW.out⟩
 ·have f1:=dQ (show ¬ (l.length:Int)=0 by omega)
  have HN:Hid (fB (b8 no) put l=b8 no::(eL (eS put l).length++eS put l)):=V (by
   cases l with
   | nil=>exact absurd rfl q
   | cons x l=>rfl)
  clear q;go_enter func178,ntmps178;go_wp2_with fail;refine(D6 w0 put 100000000 (.slice none 0 0) [] _ l w.heap.size w Kj hE HL.out (dU.nil _ _) (ag _) ⟨H0.out,H0.out.size⟩ (by simp only [aM];omega) (by decide) (fun e he b xs w ho hx hB h0=>HP.out e he b xs w _ ho hx hB h0)).mono ?_;rintro e w2 ⟨v2,rfl,ho,hk,hs⟩;rw [bM]at ho;have Kl:=ju hk rfl;have HO:=V ho;have KA:=V (HW.out.below Kl);obtain⟨a2,Kn,Py,-,-,-⟩:=ho.fm;subst Py;have LM:∀i,ey (.slice a2 (eS put l).length Kn) i ->¬ ey b i:=fun i h1 h2=>by
   have:=(eo HO.out h1).1;have:=(HW.out.1.lt h2).2;omega
  have HD:=V LM;clear ho hk hs hE LM;go_wp2_with (first | (at_builtin;refine ik w2 rfl _ _ rfl rfl B b _ rfl KA.out.1 (b8 no) _ ?_ ?_ ?_ ?_ ?_))
  ·rw [fJ NI]
  ·rfl
  ·omega
  ·exact KA.out.base hB
  intro v3 w3 ho hk hs;have Ma:=V (KA.out.own ⟨ho,hk,hs⟩);have MF:=V (HO.out.keeps hk HD.out);have Pz:=V (show∀i,ey (.slice a2 (eS put l).length Kn) i ->¬ ey v3 i from fun i h1 h2=>(hs i h2).elim (HD.out i h1) (fun g=>by have:=(eo HO.out h1).2;omega));clear ho hk hs;go_wp2_with fail;refine(fF v3 _ (eS put l).length (by omega) B w3 Ma.out.1 (by simp only [ah,aB];omega) (Ma.out.base hB)).mono ?_;rintro e w4 ⟨v4,rfl,ho,hk,hs⟩;have Lo:=V (Ma.out.step ⟨ho,hk,hs⟩);have MI:=V (MF.out.keeps hk Pz.out);have hp4:=(eD (eS put l).length).2;clear ho hk hs;go_wp2_with (first | (at_builtin;refine fK w4 rfl _ _ rfl rfl B v4 _ rfl Lo.out.1 _ _ rfl MI.out.fm (by simp only [ah,aB];omega) (Lo.out.base hB) ?_));intro v5 w5 ho hk hs;have NR:=V (Lo.out.step ⟨ho,hk,hs⟩);clear ho hk hs;go_wp2_with fail;go_ret;exact⟨_,rfl,by rw [HN.out];exact NR.out.row⟩
theorem mz (n:Int) (h:fR n) (b:Value) (xs:List UInt8) (B:Nat) (w:World) (Ki:dU w B b xs) (hn:xs.length <=900000000) (hB:B <=w.heap.size):
  Calls prog 175 #[b, .int .i64 n] w (fk xs (rD n) B b w):=by
 obtain⟨m,rfl⟩:∃m:Nat,n=m:=⟨n.toNat,by have:=h.1;omega⟩;exact fF b xs m (by have:=h.2;omega) B w Ki (by omega) hB
theorem GD (w0:World) (e:gy) (u:Value × Value) (hu:gG w0 e u) (hm:e.may) (b:Value) (xs:List UInt8) (w:World) (B:Nat) (Ki:dU w B b xs) (hn:xs.length <=100000000) (hB:B <=w.heap.size) (h0:Src w0 w B):
  Calls prog 170 #[b, .agg #[u.1,u.2]] w (fk xs (kW e) B b w):=by
 have HU:=V hu;obtain⟨u1,u2⟩:=u;obtain⟨⟨⟨a1,Ky,Mc,-,-,-⟩,⟨a2,Kn,Ml,-,-,-⟩⟩,-⟩:=id hu;simp only at Mc Ml;subst Mc Ml;clear hu;have l1:=jx je 1 32 e.params (fun x _=>by simp [je]) hm.1.1;have l2:=jx je 1 1 e.results (fun x _=>by simp [je]) hm.2.1;clear hm;have HW:=V ((Wr.refl Ki).alloc (.cells #[.slice a1 e.params.length Ky, .slice a2 e.results.length Kn] 109));have HA:=V (Aside.new Ki #[.slice a1 e.params.length Ky, .slice a2 e.results.length Kn] 109);have HS:=V (h0.alloc (.cells #[.slice a1 e.params.length Ky, .slice a2 e.results.length Kn] 109));clear Ki h0;go_enter func170,ntmps170;go_wp2_with fail;refine ed (fun w'=>w'.cell? ⟨w.heap.size,0,none⟩=some (.slice a1 e.params.length Ky)/\w'.cell? ⟨w.heap.size,1,none⟩=some (.slice a2 e.results.length Kn)) [(0,true),(3,true),(4,true),(6,true),(7,true),(1,false),(2,false),(5,false),(8,false),(9,true)] (by kernel_rfl) (by kernel_rfl) ⟨HA.out.cell 0,HA.out.cell 1⟩ ?_;have HW:=V HW.out.drew;have HA:=V HA.out.drew;have HS:=V HS.out.drew;obtain⟨X,hX⟩:∃X,X=w.heap.size:=⟨_,rfl⟩;rw [<- hX]at HA⊢;clear hX;generalize(w.alloc (.cells #[.slice a1 e.params.length Ky, .slice a2 e.results.length Kn] 109)).drew=wa at HW HA HS⊢;iterate 5 (first | (apply sk rfl rfl;simp only [pt]) | (apply dT rfl rfl rfl;·(rintro w' ⟨t0,t1⟩;go_wp2;exact⟨rfl,rfl,rfl⟩)))
 refine dZ rfl rfl ?_;go_wp2_with fail;refine⟨⟨(HA.out.alloc _).cell 0,(HA.out.alloc _).cell 1⟩,?_⟩;refine dZ rfl rfl ?_;go_wp2_with (first | (at_builtin;refine eV wa rfl _ _ rfl rfl B b _ rfl HW.out.1 (96:UInt8) _ rfl rfl (by first | omega | (simp only [ah];omega) | (simp only [ah,aB];omega) | (simp only [ah,aI,aM];omega)) (HW.out.base hB) ?_));intro v1 w1 ho hk hs;have HA:=V (HA.out.next ⟨ho,hk,hs⟩);have HS:=V (HS.out.next HW.out.1 ⟨ho,hk,hs⟩);have HW:=V (HW.out.step ⟨ho,hk,hs⟩);clear ho hk hs;go_wp2_with fail;refine⟨⟨HA.out.cell 0,HA.out.cell 1⟩,?_⟩;refine dZ rfl rfl ?_;go_wp2_with fail;refine(oz w0 je 900000000 v1 _ _ e.params B w1 172 (fun args w=>by rfl) HU.out.1.1 HW.out.1 (HW.out.base hB) HS.out (by simp only [ah,aB];omega) (by omega) (fun x _ b xs w ho hx hB _=>ng b xs x B w ho hx hB)).mono ?_;rintro e w2 ⟨v2,rfl,ho,hk,hs⟩;have HA:=V (HA.out.next ⟨ho,hk,hs⟩);have HS:=V (HS.out.next HW.out.1 ⟨ho,hk,hs⟩);have HW:=V (HW.out.step ⟨ho,hk,hs⟩);clear ho hk hs;go_wp2_with fail;refine⟨⟨HA.out.cell 0,HA.out.cell 1⟩,?_⟩;refine dZ rfl rfl ?_;go_wp2_with fail;refine(oz w0 je 900000000 v2 _ _ e.results B w2 172 (fun args w=>by rfl) HU.out.1.2 HW.out.1 (HW.out.base hB) HS.out (by simp only [ah,aB];omega) (by omega) (fun x _ b xs w ho hx hB _=>ng b xs x B w ho hx hB)).mono ?_;rintro e w3 ⟨v3,rfl,ho,hk,hs⟩;have HA:=V (HA.out.next ⟨ho,hk,hs⟩);have HS:=V (HS.out.next HW.out.1 ⟨ho,hk,hs⟩);have HW:=V (HW.out.step ⟨ho,hk,hs⟩);clear ho hk hs;go_wp2_with fail;refine⟨⟨HA.out.cell 0,HA.out.cell 1⟩,?_⟩;iterate 1 (first | (apply sk rfl rfl;simp only [pt]) | (apply dT rfl rfl rfl;·(rintro w' ⟨t0,t1⟩;go_wp2;exact⟨rfl,rfl,rfl⟩)))
 refine eH ?_;refine aD ?_;go_wp2_with fail;go_ret;exact⟨_,rfl,by show Wr _ _ _ _ _ _;simpa [kW] using HW.out⟩
theorem GR (w0:World) (e:iO) (u:Value) (hu:gS w0 e u) (hm:e.may) (b:Value) (xs:List UInt8) (w:World) (B:Nat) (Ki:dU w B b xs) (hn:xs.length <=100000000) (hB:B <=w.heap.size) (h0:Src w0 w B):
  Calls prog 188 #[b, .agg #[.int .i64 e.off,u]] w (fk xs (kI e) B b w):=by
 have HU:=V hu;obtain⟨⟨a1,Ky,rfl,-,-,-⟩,-⟩:=id hu;clear hu;have l1:=pG hm.1;have l2:=jx rD 10 50 e.funcs (fun y _=>rL y) hm.2.1;have HM:=V hm;clear hm;have HW:=V ((Wr.refl Ki).alloc (.cells #[.int .i64 e.off, .slice a1 e.funcs.length Ky] 95));have HA:=V (Aside.new Ki #[.int .i64 e.off, .slice a1 e.funcs.length Ky] 95);have HS:=V (h0.alloc (.cells #[.int .i64 e.off, .slice a1 e.funcs.length Ky] 95));clear Ki h0;go_enter func188,ntmps188;go_wp2_with fail;refine ed (fun w'=>w'.cell? ⟨w.heap.size,0,none⟩=some (.int .i64 e.off)/\w'.cell? ⟨w.heap.size,1,none⟩=some (.slice a1 e.funcs.length Ky)) (up 0 3 ((4,true)::(5,true)::(3,false)::(6,false)::(7,true)::[])) (by kernel_rfl) (by kernel_rfl) ⟨HA.out.cell 0,HA.out.cell 1⟩ ?_;have HW:=V HW.out.drew;have HA:=V HA.out.drew;have HS:=V HS.out.drew;obtain⟨X,hX⟩:∃X,X=w.heap.size:=⟨_,rfl⟩;rw [<- hX]at HA⊢;clear hX;generalize(w.alloc (.cells #[.int .i64 e.off, .slice a1 e.funcs.length Ky] 95)).drew=wa at HW HA HS⊢;iterate 5 (first | (apply sk rfl rfl;simp only [pt]) | (apply dT rfl rfl rfl;·(rintro w' ⟨t0,t1⟩;go_wp2;exact⟨rfl,rfl,rfl⟩)))
 refine dZ rfl rfl ?_;go_wp2_with fail;refine(vF b _ e.off B wa HW.out.1 (by omega) (HW.out.base hB) HM.out.1).mono ?_;rintro e w1 ⟨v1,rfl,ho,hk,hs⟩;have HA:=V (HA.out.next ⟨ho,hk,hs⟩);have HS:=V (HS.out.next HW.out.1 ⟨ho,hk,hs⟩);have HW:=V (HW.out.step ⟨ho,hk,hs⟩);clear ho hk hs;go_wp2_with fail;refine⟨⟨HA.out.cell 0,HA.out.cell 1⟩,?_⟩;refine dZ rfl rfl ?_;go_wp2_with fail;refine(oz w0 rD 900000000 v1 _ _ e.funcs B w1 175 (fun args w=>by rfl) HU.out.1 HW.out.1 (HW.out.base hB) HS.out (by simp only [ah];omega) (by omega) (fun x hx b xs w ho hl hB _=>mz x (HM.out.2.2 x hx) b xs B w ho hl hB)).mono ?_;rintro e w2 ⟨v2,rfl,ho,hk,hs⟩;have HA:=V (HA.out.next ⟨ho,hk,hs⟩);have HS:=V (HS.out.next HW.out.1 ⟨ho,hk,hs⟩);have HW:=V (HW.out.step ⟨ho,hk,hs⟩);clear ho hk hs;go_wp2_with fail;refine⟨⟨HA.out.cell 0,HA.out.cell 1⟩,?_⟩;iterate 1 (first | (apply sk rfl rfl;simp only [pt]) | (apply dT rfl rfl rfl;·(rintro w' ⟨t0,t1⟩;go_wp2;exact⟨rfl,rfl,rfl⟩)))
 refine eH ?_;refine aD ?_;go_wp2_with fail;go_ret;exact⟨_,rfl,by show Wr _ _ _ _ _ _;simpa [kI] using HW.out⟩
theorem Gw (w0:World) (e:gl) (u:Value) (hu:gm w0 e u) (hm:e.may) (b:Value) (xs:List UInt8) (w:World) (B:Nat) (Ki:dU w B b xs) (hn:xs.length <=100000000) (hB:B <=w.heap.size) (h0:Src w0 w B):
  Calls prog 193 #[b, .agg #[.int .i64 e.off,u]] w (fk xs (nD e) B b w):=by
 have HU:=V hu;obtain⟨⟨a1,Ky,rfl,-,-,-⟩,-⟩:=id hu;clear hu;have l1:=pG hm.1;have l2:=hm.2;have l3:=(eD e.bytes.length).2;have HM:=V hm;clear hm;have HW:=V ((Wr.refl Ki).alloc (.cells #[.int .i64 e.off, .slice a1 e.bytes.length Ky] 99));have HA:=V (Aside.new Ki #[.int .i64 e.off, .slice a1 e.bytes.length Ky] 99);have HS:=V (h0.alloc (.cells #[.int .i64 e.off, .slice a1 e.bytes.length Ky] 99));clear Ki h0;go_enter func193,ntmps193;go_wp2_with fail;refine ed (fun w'=>w'.cell? ⟨w.heap.size,0,none⟩=some (.int .i64 e.off)/\w'.cell? ⟨w.heap.size,1,none⟩=some (.slice a1 e.bytes.length Ky)) (up 0 3 (up 4 3 ((8,true)::(9,true)::(3,false)::(7,false)::(10,false)::(11,true)::[]))) (by kernel_rfl) (by kernel_rfl) ⟨HA.out.cell 0,HA.out.cell 1⟩ ?_;have HW:=V HW.out.drew;have HA:=V HA.out.drew;have HS:=V HS.out.drew;obtain⟨X,hX⟩:∃X,X=w.heap.size:=⟨_,rfl⟩;rw [<- hX]at HA⊢;clear hX;generalize(w.alloc (.cells #[.int .i64 e.off, .slice a1 e.bytes.length Ky] 99)).drew=wa at HW HA HS⊢;iterate 8 (first | (apply sk rfl rfl;simp only [pt]) | (apply dT rfl rfl rfl;·(rintro w' ⟨t0,t1⟩;go_wp2;exact⟨rfl,rfl,rfl⟩)))
 refine dZ rfl rfl ?_;go_wp2_with fail;refine(vF b _ e.off B wa HW.out.1 (by omega) (HW.out.base hB) HM.out.1).mono ?_;rintro e w1 ⟨v1,rfl,ho,hk,hs⟩;have HA:=V (HA.out.next ⟨ho,hk,hs⟩);have HS:=V (HS.out.next HW.out.1 ⟨ho,hk,hs⟩);have HW:=V (HW.out.step ⟨ho,hk,hs⟩);clear ho hk hs;go_wp2_with fail;refine⟨⟨HA.out.cell 0,HA.out.cell 1⟩,?_⟩;refine dZ rfl rfl ?_;go_wp2_with fail;refine(fF v1 _ e.bytes.length (by omega) B w1 HW.out.1 (by simp only [ah];omega) (HW.out.base hB)).mono ?_;rintro e w2 ⟨v2,rfl,ho,hk,hs⟩;have HA:=V (HA.out.next ⟨ho,hk,hs⟩);have HS:=V (HS.out.next HW.out.1 ⟨ho,hk,hs⟩);have HW:=V (HW.out.step ⟨ho,hk,hs⟩);clear ho hk hs;go_wp2_with fail;refine⟨⟨HA.out.cell 0,HA.out.cell 1⟩,?_⟩;refine dZ rfl rfl ?_;go_wp2_with (first | (at_builtin;refine fK w2 rfl _ _ rfl rfl B v2 _ rfl HW.out.1 _ _ rfl (HU.out.1.below HS.out.1) (by simp only [ah];omega) (HW.out.base hB) ?_));intro v3 w3 ho hk hs;have HA:=V (HA.out.next ⟨ho,hk,hs⟩);have HS:=V (HS.out.next HW.out.1 ⟨ho,hk,hs⟩);have HW:=V (HW.out.step ⟨ho,hk,hs⟩);clear ho hk hs;go_wp2_with fail;refine⟨⟨HA.out.cell 0,HA.out.cell 1⟩,?_⟩;iterate 1 (first | (apply sk rfl rfl;simp only [pt]) | (apply dT rfl rfl rfl;·(rintro w' ⟨t0,t1⟩;go_wp2;exact⟨rfl,rfl,rfl⟩)))
 refine eH ?_;refine aD ?_;go_wp2_with fail;go_ret;exact⟨_,rfl,by show Wr _ _ _ _ _ _;simpa [nD] using HW.out⟩
theorem Gf (e:fL) (b:Value) (xs:List UInt8) (w:World) (B:Nat) (Ki:dU w B b xs) (hn:xs.length <=100000000) (hB:B <=w.heap.size) (hm0:0 <=e.min) (hm1: -1 <=e.max) (Kt:e.ok):
  Calls prog 180 #[b, .agg #[.bool e.has, .int .i64 e.min, .int .i64 e.max]] w (fk xs (jf e) B b w):=by
 have h0:=tC w B;have HW:=V ((Wr.refl Ki).alloc (.cells #[.bool e.has, .int .i64 e.min, .int .i64 e.max] 55));have HA:=V (Aside.new Ki #[.bool e.has, .int .i64 e.min, .int .i64 e.max] 55);have HS:=V (h0.alloc (.cells #[.bool e.has, .int .i64 e.min, .int .i64 e.max] 55));clear Ki h0;go_enter func180,ntmps180;go_wp2_with fail;refine ed (fun w'=>w'.cell? ⟨w.heap.size,0,none⟩=some (.bool e.has)/\w'.cell? ⟨w.heap.size,1,none⟩=some (.int .i64 e.min)/\w'.cell? ⟨w.heap.size,2,none⟩=some (.int .i64 e.max)) [(0,true),(3,true),(1,false),(2,false),(4,false),(5,true)] (by kernel_rfl) (by kernel_rfl) ⟨HA.out.cell 0,HA.out.cell 1,HA.out.cell 2⟩ ?_;have HW:=V HW.out.drew;have HA:=V HA.out.drew;have HS:=V HS.out.drew;obtain⟨X,hX⟩:∃X,X=w.heap.size:=⟨_,rfl⟩;rw [<- hX]at HA⊢;clear hX;generalize(w.alloc (.cells #[.bool e.has, .int .i64 e.min, .int .i64 e.max] 55)).drew=wa at HW HA HS⊢;iterate 2 (first | (apply sk rfl rfl;simp only [pt]) | (apply dT rfl rfl rfl;·(rintro w' ⟨t0,t1,t2⟩;go_wp2;exact⟨rfl,rfl,rfl⟩)))
 refine dZ rfl rfl ?_;go_wp2_with fail;refine⟨⟨(HA.out.alloc _).cell 0,(HA.out.alloc _).cell 1,(HA.out.alloc _).cell 2⟩,?_⟩;refine dZ rfl rfl ?_;go_wp2_with (first | (at_builtin;refine eV wa rfl _ _ rfl rfl B b _ rfl HW.out.1 (112:UInt8) _ rfl rfl (by first | omega | (simp only [ah];omega) | (simp only [ah,aB];omega) | (simp only [ah,aI,aM];omega)) (HW.out.base hB) ?_));intro v1 w1 ho hk hs;have HA:=V (HA.out.next ⟨ho,hk,hs⟩);have HS:=V (HS.out.next HW.out.1 ⟨ho,hk,hs⟩);have HW:=V (HW.out.step ⟨ho,hk,hs⟩);clear ho hk hs;go_wp2_with fail;refine⟨⟨HA.out.cell 0,HA.out.cell 1,HA.out.cell 2⟩,?_⟩;refine dZ rfl rfl ?_;go_wp2_with fail;refine(pQ v1 _ e B w1 HW.out.1 (by simp only [ah,aB];omega) (HW.out.base hB) hm0 hm1 Kt).mono ?_;rintro e w2 ⟨v2,rfl,ho,hk,hs⟩;have HA:=V (HA.out.next ⟨ho,hk,hs⟩);have HS:=V (HS.out.next HW.out.1 ⟨ho,hk,hs⟩);have HW:=V (HW.out.step ⟨ho,hk,hs⟩);clear ho hk hs;go_wp2_with fail;refine⟨⟨HA.out.cell 0,HA.out.cell 1,HA.out.cell 2⟩,?_⟩;iterate 1 (first | (apply sk rfl rfl;simp only [pt]) | (apply dT rfl rfl rfl;·(rintro w' ⟨t0,t1,t2⟩;go_wp2;exact⟨rfl,rfl,rfl⟩)))
 refine eH ?_;refine aD ?_;go_wp2_with fail;go_ret;exact⟨_,rfl,by show Wr _ _ _ _ _ _;simpa [jf] using HW.out⟩
def oI (x:Int) (rs:List (Nat × Int)):List (Nat × Int):=match rs with
 | []=>[(1,x)]
 | (n,k)::t=>if x=k then(n+1,k)::t else(1,x)::(n,k)::t
theorem o7 (x:Int) (l:List Int):gx (x::l)=oI x (gx l):=rfl
def kG:List (Nat × Int) ->Int ->List (Nat × Int)
 | [],k=>[(1,k)]
 | [x],k=>if x.2=k then [(x.1+1,k)]else [x,(1,k)]
 | x::y::t,k=>x::kG (y::t) k
theorem AV (x k:Int):∀rs:List (Nat × Int),oI x (kG rs k)=kG (oI x rs) k
 | []=>by
  simp only [kG,oI]
 | [(n,k')]=>by
  by_cases h1:k'=k
  ·by_cases h2:x=k'
   ·subst h1 h2
    simp [kG,oI]
   ·subst h1
    simp [kG,oI,h2]
  ·by_cases h2:x=k'
   ·subst h2
    simp [kG,oI,h1]
   ·simp [kG,oI,h1,h2]
 | (n,k')::y::t=>by
  by_cases h2:x=k'
  ·simp [kG,oI,h2]
  ·simp [kG,oI,h2]
theorem nd (k:Int):∀l:List Int,gx (l++[k])=kG (gx l) k
 | []=>rfl
 | x::l=>by rw [bL,o7,nd k l,AV,o7]
theorem qg (n:Nat) (k' k:Int):∀rs:List (Nat × Int),kG (rs++[(n,k')]) k=rs++(if k'=k then [(n+1,k)]else [(n,k'),(1,k)])
 | []=>by simp [kG]
 | [x]=>by
  show x::kG [(n,k')] k=_;rw [kG];rfl
 | x::y::t=>by
  have h:=qg n k' k (y::t);show x::kG (y::t++[(n,k')]) k=_;rw [h];rfl
theorem vH:∀l:List Int,l≠[] ->∃rs n k,gx l=rs++[(n,k)]/\l.getLast?=some k/\1 <=n
 | [],h=>absurd rfl h
 | [x],_=>⟨[],1,x,rfl,rfl,ag _⟩
 | x::y::l,_=>by
  obtain⟨rs,n,k,h1,h2,h3⟩:=vH (y::l) (by simp);rw [o7,h1];cases rs with
  | nil=>
   simp only [bM,oI];split
   ·exact⟨[],n+1,k,rfl,by rw [c9];exact h2,by omega⟩
   ·exact⟨[(1,x)],n,k,rfl,by rw [c9];exact h2,h3⟩
  | cons a t=>
   obtain⟨m,z⟩:=a;simp only [bL,oI];split
   ·exact⟨(m+1,z)::t,n,k,rfl,by rw [c9];exact h2,h3⟩
   ·exact⟨(1,x)::(m,z)::t,n,k,rfl,by rw [c9];exact h2,h3⟩
def Ib (x:(Nat × Int) × Value):List Value:=[x.2]
def qB (u:Value):List Value:=[u]
def mB (w:World) (x:Nat × Int) (u:Value):Prop:=ee 1 eZ w u (List.replicate x.1 x.2)/\1 <=x.1
theorem mB.ext {w w':World} {x:Nat × Int} {u:Value} (h:mB w x u) (he:Ext w w'):mB w' x u:=⟨h.1.ext he,h.2⟩
theorem qY (u:Value):(qB u).length=1:=rfl
theorem wg (u:Int):(eZ u).length=1:=rfl
theorem xR {α:Type} {t:TypeId} {k:Nat} {enc:α ->List Value} {w:World} {B:Nat} {v:Value} {l:List α} {S:Nat ->Bool} (hk:∀x,(enc x).length=k) (h:dR t k enc w B v l) (hs:∀i,ey v i ->S i=false):ee k enc (mask S w) v l:=by
 suffices h:dR t k enc (mask S w) B v l from h.fD hk
 obtain⟨hl,hv | ⟨g,cap,cur,hv,hb,hg,rest⟩⟩:=h
 ·exact⟨hl, .inl hv⟩
 ·exact⟨hl, .inr ⟨g,cap,cur,hv,hb,by rw [jn w (hs g (by rw [hv];rfl))];exact hg,rest⟩⟩
def xV (B:Nat) (v ul:Value):Nat ->Bool:=fun k=>decide (k < B) || decide (v.ownBlock=some k) || decide (ul.ownBlock=some k)
theorem lJ {B k:Nat} {v ul:Value}:xV B v ul k=true↔(k < B\/ey v k)\/ey ul k:=by simp [xV,ey]
def iy (w:World) (B:Nat) (v:Value) (rs:List (Nat × Int)):Prop:=
 (rs=[]/\v= .slice none 0 0)\/∃(NS:List (Nat × Int)) (LJ:List Value) (ul:Value) (n:Nat) (k:Int),rs=NS++[(n,k)]/\LJ.length=NS.length/\dR 25 1 qB w B v (LJ++[ul])/\
  dR 3 1 eZ w B ul (List.replicate n k)/\1 <=n/\∀(i:Nat) (x:Nat × Int) (u:Value),NS[i]?=some x ->LJ[i]?=some u ->mB (mask (xV B v ul) w) x u
theorem iy.deep {w:World} {B:Nat} {v:Value} {rs:List (Nat × Int)} (h:iy w B v rs):ea 1 Ib mB w v rs:=by
 rcases h with⟨rfl,rfl⟩ | ⟨NS,LJ,ul,n,k,rfl,h2,h3,h4,h5,h6⟩
 ·exact ea.nil w
 ·refine⟨LJ++[ul],by simp [h2],?_,fun i x u hx hu=>?_⟩
  ·obtain⟨a,cap,hv,c1,c2,c3⟩:=h3.fD qY
   have hl:((NS++[(n,k)]).zip (LJ++[ul])).length=(LJ++[ul]).length:=by simp [bI,h2]
   refine⟨a,cap,by rw [hl];exact hv,by rw [hl];exact c1,c2,fun i x hx=>?_⟩;obtain⟨x1,x2⟩:=x;have NP:(LJ++[ul])[i]?=some x2:=(cK.1 hx).2;exact c3 i x2 NP
  ·rcases Nat.lt_trichotomy i NS.length with g | g | g
   ·rw [bD g]at hx
    rw [bD (by omega)]at hu;have:=h6 i x u hx hu;exact⟨this.1.fP,this.2⟩
   ·subst g
    rw [bp (ag _)]at hx;rw [bp (by omega)]at hu;simp [h2]at hx hu;subst hx hu;exact⟨h4.fD wg,h5⟩
   ·rw [cT (by simp;omega)]at hx
    cases hx
theorem iy.grow {w1 wa w2:World} {B g cap:Nat} {NS:List (Nat × Int)} {LJ:List Value} {ul v':Value} {n:Nat} {k:Int} (h2:LJ.length=NS.length)
  (h3:dR 25 1 qB w1 B (.slice (some ⟨g,0,none⟩) (LJ.length+1) cap) (LJ++[ul])) (h4:dR 3 1 eZ w1 B ul (List.replicate n k))
  (h6:∀(i:Nat) (x:Nat × Int) (u:Value),NS[i]?=some x ->LJ[i]?=some u ->mB (mask (xV B (.slice (some ⟨g,0,none⟩) (LJ.length+1) cap) ul) w1) x u)
  (ho:dR 3 1 eZ w2 B v' (List.replicate n k++[k])) (hk:dS (ey ul) w1 w2) (hs:eC w1 ul v') (hwa:wa=w2.setCell ⟨g,LJ.length,none⟩ v'):
  iy wa B (.slice (some ⟨g,0,none⟩) (LJ.length+1) cap) (NS++[(n+1,k)]):=by
 subst hwa;have hd:∀i,ey (.slice (some ⟨g,0,none⟩) (LJ.length+1) cap) i ->¬ ey ul i:=fun i hi=>dR.ne h3 h4 (by decide) i hi;have h3':=dR.keeps h3 hk hd;have hgo:ey (.slice (some ⟨g,0,none⟩) (LJ.length+1) cap) g:=rfl;have P8:∀i,ey v' i ->¬ i=g:=fun i hi he=>dR.ne h3' ho (by decide) g hgo (by rw [<- he];exact hi);have Og:dS (fun i=>i=g) w2 (w2.setCell ⟨g,LJ.length,none⟩ v'):=⟨rfl,rfl,rfl,by simp,fun j _ hj=>cN w2 ⟨g,LJ.length,none⟩ v' j hj⟩;refine .inr ⟨NS,LJ,v',n+1,k,rfl,h2,?_,?_,by omega,fun i x u hx hu=>(h6 i x u hx hu).ext ?_⟩
 ·have:=dR.set qY h3' (i:=LJ.length) (j:=0) (x:=ul) (y:=v') (u:=v') (by simp) (by omega) rfl
  rw [bj,aK]at this;simpa using this
 ·rw [List.replicate_succ']
  exact ho.keeps Og P8
 ·refine iG (P:=fun i=>ey ul i\/i=g) ((hk.mono (fun i hi=> .inl hi)).trans Og (fun i hi=> .inl (.inr hi))) (fun i _ hi=>lJ.2 ?_) (fun i Kq hi=>lJ.2 ?_)
  ·rcases hi with hi | rfl
   ·exact .inr hi
   ·exact .inl (.inr rfl)
  ·rcases lJ.1 hi with hi | hi
   ·exact .inl hi
   ·rcases hs i hi with h | h
    ·exact .inr h
    ·omega
theorem iy.new {w1 w2:World} {B:Nat} {v v':Value} {rs:List (Nat × Int)} {us:List Value} {k:Int} (h:iy w1 B v rs) (hu:dR 25 1 qB w1 B v us)
  (hus:us.length=rs.length) (ho:dR 25 1 qB w2 B v' (us++[.slice (some ⟨w1.heap.size,0,none⟩) 1 1]))
  (hk:dS (ey v) (w1.alloc (.cells #[.int .i64 k] 3)) w2) (hs:eC w1 v v') (hB:B <=w1.heap.size)
  (heq:∀NS LJ ul n k',rs=NS++[(n,k')] ->LJ.length=NS.length ->dR 25 1 qB w1 B v (LJ++[ul]) ->us=LJ++[ul]):
  iy w2 B v' (rs++[(1,k)]):=by
 have KK:Below w1.heap.size w1 (w1.alloc (.cells #[.int .i64 k] 3)):=(an _ _).alloc (ag _) _;have P3:∀i,ey v i ->i < w1.heap.size:=fun i hi=>(eo hu hi).2;have hnew:eE w2 w1.heap.size #[.int .i64 k] 3:=(eE.new w1 #[.int .i64 k] 3).keeps hk (fun hi=>by have:=P3 _ hi;omega);have Lf:w1.heap.size < w2.heap.size:=hnew.lt;have honew:dR 3 1 eZ w2 B (.slice (some ⟨w1.heap.size,0,none⟩) 1 1) (List.replicate 1 k):=
  ⟨by simp [eZ], .inr ⟨w1.heap.size,1,#[.int .i64 k],rfl,hB,hnew,ag _,by simp [maxLen],by simp,by simp [eZ]⟩⟩
 have Mt:dS (ey v) w1 w2:=(dS.dV KK).trans hk (fun i hi=> .inl hi);have hS:∀ul:Value,∀i,i < w1.heap.size ->xV B v' (.slice (some ⟨w1.heap.size,0,none⟩) 1 1) i=true ->xV B v ul i=true:=fun ul i Kq hi=>by
  rcases lJ.1 hi with(hi | hi) | hi
  ·exact lJ.2 (.inl (.inl hi))
  ·rcases hs i hi with h | h
   ·exact lJ.2 (.inl (.inr h))
   ·omega
  ·simp [ey,Value.ownBlock]at hi
   omega
 rcases h with⟨rfl,rfl⟩ | ⟨NS,LJ,ul,n,k',rfl,h2,h3,h4,h5,h6⟩
 ·have he:us=[]:=aH hus
  subst he;exact .inr ⟨[],[],_,1,k,rfl,rfl,ho,honew,ag _,fun i x u hx=>by simp at hx⟩
 ·obtain rfl:=heq NS LJ ul n k' rfl h2 h3
  have h4k:dR 3 1 eZ w2 B ul (List.replicate n k'):=h4.keeps Mt (fun i hi hv=>dR.ne h4 h3 (by decide) i hi hv);refine .inr ⟨NS++[(n,k')],LJ++[ul],_,1,k,rfl,by simp [h2],ho,honew,ag _,fun i x u hx hu=>?_⟩;rcases Nat.lt_trichotomy i NS.length with g | g | g
  ·rw [bD g]at hx
   rw [bD (by omega)]at hu;exact(h6 i x u hx hu).ext (iG Mt (fun i _ hi=>lJ.2 (.inl (.inr hi))) (fun i Kq hi=>hS ul i Kq hi))
  ·subst g
   rw [bp (ag _)]at hx;rw [bp (by omega)]at hu;simp [h2]at hx hu;subst hx hu;refine⟨xR wg h4k (fun i hi=>?_),h5⟩;cases hb:xV B v' (.slice (some ⟨w1.heap.size,0,none⟩) 1 1) i with
   | false=>rfl
   | true=>
    exfalso;have h7:=eo h4 hi;rcases lJ.1 hb with(h | h) | h
    ·omega
    ·exact dR.ne h4k ho (by decide) i hi h
    ·simp [ey,Value.ownBlock]at h
     omega
  ·rw [cT (by simp;omega)]at hx
   cases hx
theorem Dw (w0:World) (put:(Nat × Int) ->List UInt8) (C:Nat) (b:Value) (xs:List UInt8) (v:Value) (l:List (Nat × Int)) (B:Nat) (w:World) (Kj:Nat)
  (hE:∀args w,(callFunc Kj args).run prog w= .ok (.enter Kj args) w) (hl:ea 1 Ib mB w0 v l) (Ki:dU w B b xs) (hB:B <=w.heap.size) (h0:Src w0 w B)
  (hC:xs.length+(eS put l).length <=C) (Mk:C <=900000000)
  (hp:∀e∈l,∀u,mB w0 e u ->∀b xs w,dU w B b xs ->xs.length <=C ->B <=w.heap.size ->Src w0 w B ->Calls prog Kj #[b,u] w (fk xs (put e) B b w)):
  Calls prog 264 #[b,v, .func (.func Kj) #[] #[]] w (fk xs (eS put l) B b w):=by
 have HP:=V hp;have HL:=V hl;have H0:=V h0;have HC:=V hC;have HW:=V (Wr.refl Ki);have PZ:xs.length <=900000000:=by omega
 obtain⟨a,cap,rfl,Me,La⟩:=ea.slice hl;clear hp hl h0 hC Ki Mk;go_enter func264,ntmps264;go_wp2_with fail;refine(fF b xs l.length (by omega) B w HW.out.1 (by omega) hB).mono ?_;rintro e w2 ⟨v2,rfl,ho,hk,hs⟩;have KA:=V (HW.out.step ⟨ho,hk,hs⟩);have KP:=V (H0.out.next HW.out.1 ⟨ho,hk,hs⟩);clear ho hk hs;go_wp2_with fail;refine ez (fun a' w'=>∃(vb:Value) (k:Nat),a'=fr (vb::gs a' 1 1 (.func (.func Kj) #[] #[]::gs a' 3 10 (.slice a l.length cap:: .int .i64 l.length:: .int .i64 k::gs a' 16 9 [])))/\uY w0 put xs l B b w w' vb k) (fun a' _=>(l.length - (intOf (a'.tmps.getD 15 undef)).toNat)) ?_ ?_
 ·exact⟨_,0,rfl,by omega,by simpa using KA.out,KP.out⟩
 ·skip
  clear HW KA KP H0 v2;rintro R a' w1 ⟨vb,k,Kk,hJ⟩ HR;dsimp only [fr,gs]at Kk;generalize slot a'=f at Kk;subst Kk;obtain⟨hk,M4,MS⟩:=hJ;have HW:=V M4;have HS:=V MS;have O2:=V (show(xs++(eL l.length++((l.take k).map put).flatten)).length <=C by
   have h1:=HC.out;have h2:=jw put l k;simp only [eS,ah]at*;omega)
  clear M4 MS;by_cases q:k < l.length;rotate_left
  ·obtain rfl:k=l.length:=by omega
   have HW:=V (show Wr w b B w1 vb (xs++eS put l)by have:=HW.out;rwa [aU]at this);go_wp2_with fail;go_ret;exact⟨_,rfl,HW.out⟩
  obtain⟨x,hx⟩:∃x,l[k]?=some x:=⟨_,aq q⟩;obtain⟨bb,off,u,rfl,Kq,LL,hu⟩:=ea.get HL.out hx;have c0:=(HS.out.1.cell Kq).trans (LL 0 _ rfl);rw [aK,bj]at c0;have HU:=V hu;obtain⟨⟨a1,Ky,Mc,-,-,-⟩,-⟩:=id hu;rw [bu]at Mc;subst Mc;have HX:=V hx;clear LL hx hu;go_wp2_with fail;have Lc:=HW;have Ms:=HS;refine(HP.out x (aO HX.out) _ HU.out _ _ _ Lc.out.1 O2.out (Lc.out.base hB) Ms.out).mono ?_;rintro e w2 ⟨v2,rfl,KB,Kp,Ku⟩;have KA:=V (Lc.out.step ⟨KB,Kp,Ku⟩);have KP:=V (Ms.out.next Lc.out.1 ⟨KB,Kp,Ku⟩);clear KB Kp Ku c0;go_wp2_with fail;refine HR.out _ _ ⟨_,k+1,rfl,by omega,?_,KP.out⟩ ?_
  ·have:=KA.out
   rw [aQ,HX.out];simpa using this
  ·simp [intOf]
   omega
theorem Gk (w0:World) (e:Nat × Int) (u:Value) (hu:mB w0 e u) (b:Value) (xs:List UInt8) (w:World) (B:Nat) (Ki:dU w B b xs) (hn:xs.length <=800000000) (hB:B <=w.heap.size) (h0:Src w0 w B) (hm:e.1 <=1000000):
  Calls prog 265 #[b,u] w (fk xs (xq e) B b w):=by
 obtain⟨n,k⟩:=e;have hn1:1 <=n:=hu.2;have N5:n <=1000000:=hm;have hp:=(eD n).2;obtain⟨a,cap,rfl,Me,La,hc3⟩:=hu.1;obtain⟨X,off,rfl,Kq,KH⟩:=hc3 0 k (by rw [List.getElem?_replicate];simp;omega);have OR:=KH 0 _ rfl;rw [Nat.zero_mul,aK]at OR;simp only [bu]at Me⊢;have HC:=V OR;have HLT:=V Kq;have HW:=V (Wr.refl Ki);have HS:=V h0;have c0:=(HS.out.1.cell HLT.out).trans HC.out;clear KH hc3 OR Kq hu Ki h0 hm;go_enter func265,ntmps265;go_wp2_with fail;refine ed (fun w'=>w'.cell? ⟨X,off,none⟩=some (.int .i64 k)) (up 0 3 (up 4 3 ((3,false)::(7,false)::(8,true)::[]))) (by kernel_rfl) (by kernel_rfl) c0 ?_;have HW:=V HW.out.drew;have HS:=V HS.out.drew;generalize w.drew=wa at HW HS⊢;iterate 6 (first | (apply sk rfl rfl;simp only [pt]) | (apply dT rfl rfl rfl;·(rintro w' t0;go_wp2;exact⟨rfl,rfl,rfl⟩)))
 refine dZ rfl rfl ?_;go_wp2_with fail;refine(fF b xs n (by omega) B wa HW.out.1 (by omega) (HW.out.base hB)).mono ?_;rintro e w1 ⟨v1,rfl,ho,hk,hs⟩;have HS:=V (HS.out.next HW.out.1 ⟨ho,hk,hs⟩);have HW:=V (HW.out.step ⟨ho,hk,hs⟩);clear ho hk hs;have c0:=(HS.out.1.cell HLT.out).trans HC.out;go_wp2_with fail;refine⟨c0,?_⟩;refine dZ rfl rfl ?_;go_wp2_with fail;refine(ng v1 _ k B w1 HW.out.1 (by simp only [ah];omega) (HW.out.base hB)).mono ?_;rintro e w2 ⟨v2,rfl,ho,hk,hs⟩;have HS:=V (HS.out.next HW.out.1 ⟨ho,hk,hs⟩);have HW:=V (HW.out.step ⟨ho,hk,hs⟩);clear ho hk hs;have c0:=(HS.out.1.cell HLT.out).trans HC.out;go_wp2_with fail;refine⟨c0,?_⟩;iterate 1 (first | (apply sk rfl rfl;simp only [pt]) | (apply dT rfl rfl rfl;·(rintro w' t0;go_wp2;exact⟨rfl,rfl,rfl⟩)))
 refine eH ?_;refine aD ?_;go_wp2_with fail;go_ret;exact⟨_,rfl,by show Wr _ _ _ _ _ _;simpa [xq] using HW.out⟩
section
def xI (x:mI):List Value:=[.int .i64 x.op, .int .i64 x.kind, .int .i64 x.eJ, .bool x.dead]
theorem jC (x:mI):(xI x).length=4:=rfl
theorem D9 (x:mI):∀u∈xI x,u.oneCell'=true:=by
 intro u hu;simp only [xI,bJ,bO,cS]at hu;rcases hu with rfl | rfl | rfl | rfl <;>rfl
theorem wq:(prog.info? 186).map (fun i=>(i.zero,i.size,i.bytes))=some (some (.agg #[.int .i64 0, .int .i64 0, .int .i64 0, .bool false]),4,32):=by kernel_rfl
section
variable {α:Type} {k:Nat} {enc:α ->List Value} {t:TypeId}
theorem uz (hk:∀x,(enc x).length=k):∀(l:List α) (n:Nat),(l.take n).flatMap enc=(l.flatMap enc).take (n*k)
 | [],n=>by simp
 | x::l,0=>by simp
 | x::l,n+1=>by
  rw [List.take_succ_cons,bR,bR,uz hk l n,List.take_append,dd (l:=enc x) (i:=(n+1)*k) (by rw [hk,cV];omega)]
  congr 2
  rw [hk,cV];omega
theorem dR.take {w:World} {B:Nat} {a:Option Addr} {n cap:Nat} {l:List α} (hk:∀x,(enc x).length=k) (h:dR t k enc w B (.slice a n cap) l) (m:Nat) (hm:m <=l.length):dR t k enc w B (.slice a m cap) (l.take m):=by
 obtain⟨hl,hv | ⟨g,KE,cur,hv,hb,hg,hn,hx,hs,ht⟩⟩:=h
 ·obtain⟨hv,h0⟩:=hv
  injection hv with e1 e2 e3;subst e1 e2 e3;obtain rfl:=aH h0;obtain rfl:m=0:=by simpa using hm
  exact dR.nil _ _
 ·injection hv with e1 e2 e3
  subst e1 e2 e3;have hlen:(l.take m).length=m:=by rw [aR];omega
  refine⟨by rw [jL hk], .inr ⟨g,cap,cur,by rw [hlen],hb,hg,by rw [hlen];omega,hx,hs,?_⟩⟩;rw [hlen,uz hk, <- ht,List.take_take]
  congr 1
  have:m*k <=l.length*k:=dk k hm;omega
theorem dR.slice {w:World} {B:Nat} {v:Value} {l:List α} (h:dR t k enc w B v l):∃a cap,v= .slice a l.length cap/\l.length <=cap/\cap <=9223372036854775807:=by
 obtain⟨_,hv | ⟨g,cap,cur,hv,hb,hg,hn,hm,hs,ht⟩⟩:=h
 ·exact⟨none,0,by rw [hv.1,hv.2],by rw [hv.2];exact ag _,by omega⟩
 ·exact⟨_,cap,hv,hn,by simpa [maxLen] using hm⟩
theorem dR.same {a:Option Addr} {n n' cap:Nat}:∀i,ey (.slice a n cap) i↔ey (.slice a n' cap) i:=fun i=>by
 cases a <;>simp [ey,Value.ownBlock]
end
end
def fi (w0 w:World) (R:Nat) (st:fW):Prop:=
 ∃a l cap bad,eE w R #[.slice a (List.length l) cap, .bool bad] 191/\eI w0 (.slice a l.length cap) l/\l.length <=8000/\st=(if bad=true then none else some l)/\Below w0.heap.size w0 w/\w0.heap.size <=R
theorem fi.keeps {w0 w w':World} {R:Nat} {st:fW} {S:Nat ->Prop} (h:fi w0 w R st) (hk:dS S w w') (hR:¬ S R) (hS:∀i,S i ->w0.heap.size <=i):fi w0 w' R st:=by
 obtain⟨a,l,cap,bad,h1,h2,h3,h4,h5,h6⟩:=h;exact⟨a,l,cap,bad,h1.keeps hk hR,h2,h3,h4,h5.trans (hk.below h5.size hS),h6⟩
theorem fi.below {w0 w w':World} {R:Nat} {st:fW} (h:fi w0 w R st) (hk:Below w.heap.size w w'):fi w0 w' R st:=by
 obtain⟨a,l,cap,bad,h1,h2,h3,h4,h5,h6⟩:=h;exact⟨a,l,cap,bad,h1.below hk h1.lt,h2,h3,h4,h5.trans (hk.mono h5.size),h6⟩
theorem fi.drew {w0 w:World} {R:Nat} {st:fW} (h:fi w0 w R st):fi w0 w.drew R st:=by
 obtain⟨a,l,cap,bad,h1,h2,h3,h4,h5,h6⟩:=h;exact⟨a,l,cap,bad,h1.drew,h2,h3,h4,h5.drew,h6⟩
theorem fi.alloc {w0 w:World} {R:Nat} {st:fW} (h:fi w0 w R st) (o:Obj):fi w0 (w.alloc o) R st:=h.below ((an _ _).alloc (ag _) o)
theorem fi.bad {w0 w:World} {R:Nat} {st:fW} (h:fi w0 w R st):w.cell? ⟨R,1,none⟩=some (.bool st.isNone):=by
 obtain⟨a,l,cap,bad,h1,h2,h3,h4,h5,h6⟩:=h;rw [show w.cell? ⟨R,1,none⟩=some (.bool bad)from h1.cell 1,h4];cases bad <;>rfl
theorem fi.lt {w0 w:World} {R:Nat} {st:fW} (h:fi w0 w R st):R < w.heap.size:=by
 obtain⟨a,l,cap,bad,h1,h2,h3,h4,h5,h6⟩:=h;exact h1.lt
theorem fi.old {w0 w:World} {R:Nat} {st:fW} (h:fi w0 w R st):Below w0.heap.size w0 w/\w0.heap.size <=R:=by
 obtain⟨a,l,cap,bad,h1,h2,h3,h4,h5,h6⟩:=h;exact⟨h5,h6⟩
theorem fi.len {w0 w:World} {R:Nat} {st:fW} (h:fi w0 w R st):st.len <=8001:=by
 obtain⟨a,l,cap,bad,h1,h2,h3,h4,h5,h6⟩:=h;subst h4;cases bad
 ·show l.length+1 <=8001
  omega
 ·show 0 <=8001
  omega
def zY (w0 w:World) (R:Nat) (v:Value) (st:fW) (e:Ending) (w':World):Prop:=e= .returned v/\fi w0 w' R st/\dS (fun k=>k=R) w w'
theorem tU {L:List UInt8} (n:Nat) (hn:n <=L.length) (a:Option Addr) (cap:Nat):∃a2 Kn,
  (∀wx,(Instr.slice 97 (.slice a L.length cap) (some (.int .i64 n)) none none).run prog wx= .ok (.slice a2 (L.drop n).length Kn) wx)/\
  (∀wy,eI wy (.slice a L.length cap) L ->eI wy (.slice a2 (L.drop n).length Kn) (L.drop n)):=by
 have h:=ow (cF n L).symm a cap;rw [aR,cJ hn]at h;obtain⟨a2,Kn,h1,h2,_⟩:=h;exact⟨a2,Kn,h1,h2⟩
def ir (n:Nat) (ok:Bool) (st:fW):fW:=st.bind fun l=>if ok=true/\n <=l.length then some (l.drop n)else none
theorem kM (w0 w:World) (R:Nat) (st:fW) (n:Nat) (ok:Bool) (hn:n <=9223372036854775807) (h:fi w0 w R st):
  Calls prog 108 #[.pointer (some ⟨R,0,none⟩), .int .i64 n, .bool ok] w (zY w0 w R (.tuple #[]) (ir n ok st)):=by
 obtain⟨a,l,cap,bad,KD,hl,hlen,KI,KK,Ox⟩:=h;have LA:=V KD;have HL:=V hl;have OL:=V KK;have OE:=V Ox;have c0:w.cell? ⟨R,0,none⟩=some (.slice a l.length cap):=KD.cell 0;have c1:w.cell? ⟨R,1,none⟩=some (.bool bad):=KD.cell 1;have z0:=KD.free 0;have z1:=KD.free 1;clear KD hl KK Ox;subst KI;cases bad with
 | true=>
  have HS:Hid (ir n ok (if true=true then none else some l)=(if true=true then none else some l)):=V rfl;go_enter func108,ntmps108;go_wp2_with fail
  go_end0
  exact⟨rfl,⟨a,l,cap,true,by simpa using LA.out.set 1 (.bool true),HL.out,hlen,HS.out,OL.out.setCell OE.out _,OE.out⟩,ff _ R 1 _⟩
 | false=>
  cases ok with
  | false=>
   have HS:Hid (ir n false (if false=true then none else some l)=(if true=true then none else some l)):=V rfl;go_enter func108,ntmps108;go_wp2_with fail
   go_end0
   exact⟨rfl,⟨a,l,cap,true,by simpa using LA.out.set 1 (.bool true),HL.out,hlen,HS.out,OL.out.setCell OE.out _,OE.out⟩,ff _ R 1 _⟩
  | true=>
   by_cases q:n <=l.length
   ·have f1:decide (l.length < n)=false:=aA (by omega)
    have HS:Hid (ir n true (if false=true then none else some l)=(if false=true then none else some (l.drop n))):=V (by simp [ir,q]);have HD:Hid ((l.drop n).length <=8000):=V (by rw [bm];omega);obtain⟨a2,Kn,Kx,hi⟩:=tU n q a cap;have HI:=V hi;clear q hi;go_enter func108,ntmps108;go_wp2_with fail
    go_end0
    exact⟨rfl,⟨a2,l.drop n,Kn,false,by simpa using (LA.out.set 1 (.bool false)).set 0 (.slice a2 (l.drop n).length Kn),HI.out _ HL.out,HD.out,HS.out,(OL.out.setCell OE.out _).setCell OE.out _,OE.out⟩,(ff _ R 1 _).trans (ff _ R 0 _) (fun _ h=> .inl h)⟩
   ·have f1:decide (l.length < n)=true:=az (by omega)
    have HS:Hid (ir n true (if false=true then none else some l)=(if true=true then none else some l)):=V (by simp [ir,q]);clear q;go_enter func108,ntmps108;go_wp2_with fail
    go_end0
    exact⟨rfl,⟨a,l,cap,true,by simpa using LA.out.set 1 (.bool true),HL.out,hlen,HS.out,OL.out.setCell OE.out _,OE.out⟩,ff _ R 1 _⟩
def iC (st:fW):Nat:=((st.bind fQ).map (·.1)).getD 0
theorem iF (st:fW):gU fQ st (iC st):=fun y hy=>by rw [iC,hy];rfl
theorem wN (l:List UInt8):(ia 32 l).1 < 4294967296:=by
 unfold ia;split
 ·simp
 ·split
  ·rename_i h
   have:(2:Nat)^(32:Int).toNat=4294967296:=by decide
   omega
  ·simp
theorem iI (st:fW):iC st < 4294967296:=by
 unfold iC;cases st with
 | none=>simp
 | some l=>
  simp only [aw];unfold fQ;split
  ·exact wN l
  ·simp
theorem gZ (w0 w:World) (R:Nat) (st:fW) (h:fi w0 w R st):Calls prog 110 #[.pointer (some ⟨R,0,none⟩)] w (zY w0 w R (.int .i64 (iC st)) (eg fQ st)):=by
 have HH:=V h;obtain⟨a,l,cap,bad,KD,hl,hlen,KI,KK,Ox⟩:=h;have c0:w.cell? ⟨R,0,none⟩=some (.slice a l.length cap):=KD.cell 0;have HL:=V (hl.below KK);obtain⟨x,k,err,hr⟩:∃x k err,ia 32 l=(x,k,err):=⟨_,_,_,rfl⟩;have hx:=wN l;have hk:=wZ 32 l;rw [hr]at hx hk;simp only at hx hk;have HN:Hid (eg fQ st=ir k (err==0) st):=V (by
  rw [KI];cases bad with
  | true=>rfl
  | false=>
   simp only [eg,fQ,ir,hr,cH,if_false,aw];by_cases q:err=0
   ·rw [aJ q,aJ ⟨by simp [q],hk⟩]
    rfl
   ·rw [aC q,aC (by simp [q])]
    rfl)
 have HV:Hid (iC st=if(ir k (err==0) st).isNone=true then 0 else x):=V (by
  rw [<- HN.out,KI];cases bad with
  | true=>rfl
  | false=>
   simp only [eg,fQ,iC,hr,cH,if_false,aw];by_cases q:err=0
   ·rw [aJ q];rfl
   ·rw [aC q];rfl)
 clear KD hl KI KK Ox;go_enter func110,ntmps110;go_wp2_with fail;refine(uJ _ l 32 _ HL.out (by omega) (by omega)).mono ?_;rintro e w1 ⟨rfl,hb⟩;rw [hr];have HB:=V (dS.dV (S:=fun k=>k=R) hb);have HH1:=V (HH.out.below hb);clear hr hb c0;go_wp2_with fail;refine(kM w0 w1 R _ k (err==0) (by omega) HH1.out).mono ?_;rintro e w2 ⟨rfl,h2,Kp⟩;have c1:=h2.bad;rw [<- HN.out]at h2;have HH2:=V h2;have HK:=V (HB.out.trans Kp (fun _ h=> .inl h));clear h2 Kp HB;cases hq:(ir k (err==0) st).isNone
 ·rw [hq]at c1
  have HV:=V (show iC st=x by have:=HV.out;rw [hq]at this;exact this);clear hq;go_wp2_with fail;go_ret;exact⟨by rw [HV.out];rfl,HH2.out,HK.out⟩
 ·rw [hq]at c1
  have HV:=V (show iC st=0 by have:=HV.out;rw [hq]at this;exact this);clear hq;go_wp2_with fail;go_ret;exact⟨by rw [HV.out];rfl,HH2.out,HK.out⟩
def mK (st:fW):UInt8:=((st.bind eX).map (·.1)).getD 0
theorem mr (st:fW):gU eX st (mK st):=fun y hy=>by rw [mK,hy];rfl
theorem iU (w0 w:World) (R:Nat) (st:fW) (h:fi w0 w R st):Calls prog 109 #[.pointer (some ⟨R,0,none⟩)] w (zY w0 w R (bv (mK st)) (eg eX st)):=by
 obtain⟨a,l,cap,bad,KD,hl,hlen,KI,KK,Ox⟩:=h;have LA:=V KD;have HL:=V hl;have OL:=V KK;have OE:=V Ox;have c0:w.cell? ⟨R,0,none⟩=some (.slice a l.length cap):=KD.cell 0;have c1:w.cell? ⟨R,1,none⟩=some (.bool bad):=KD.cell 1;have z0:=KD.free 0;have z1:=KD.free 1;clear KD hl KK Ox;subst KI;cases bad with
 | true=>
  go_enter func109,ntmps109;go_wp2_with fail;go_ret;exact⟨rfl,⟨a,l,cap,true,by simpa using LA.out.set 1 (.bool true),HL.out,hlen,rfl,OL.out.setCell OE.out _,OE.out⟩,ff _ R 1 _⟩
 | false=>
  cases l with
  | nil=>
   have f1:((([]:List UInt8).length:Int)==0)=true:=rfl;go_enter func109,ntmps109;go_wp2_with fail;go_ret;exact⟨rfl,⟨a,[],cap,true,by simpa using LA.out.set 1 (.bool true),HL.out,hlen,rfl,OL.out.setCell OE.out _,OE.out⟩,ff _ R 1 _⟩
  | cons c r=>
   obtain⟨L,hL⟩:∃L,L=c::r:=⟨_,rfl⟩;rw [<- hL]at c0 LA HL hlen⊢;have O0:0 < L.length:=by rw [hL];simp
   have f1:((L.length:Int)==0)=false:=dQ (by omega);have HV:Hid (mK (some L)=c):=V (by rw [hL];rfl);have HS:Hid (eg eX (some L)=(if false=true then none else some (L.drop 1))):=V (by rw [hL];rfl);have HD:Hid ((L.drop 1).length <=8000):=V (by rw [bm];omega);obtain⟨a2,Kn,Kx,hi⟩:=tU (L:=L) 1 (by omega) a cap;obtain⟨_,_,NO,-,-,Kh⟩:=id (HL.out.below OL.out);injection NO with e1 e2 e3;subst e1 e3;obtain⟨g,off,rfl,hg⟩:=Kh 0 c (by rw [hL];rfl);rw [aK]at hg;have HI:=V hi;have hrun1:∀wx,(Instr.slice 97 (.slice (some ⟨g,off,none⟩) L.length cap) (some (.int .i64 1)) none none).run prog wx= .ok (.slice a2 (L.drop 1).length Kn) wx:=fun wx=>Kx wx;clear hi Kh e2 hL Kx;go_enter func109,ntmps109;go_wp2_with fail;go_ret;exact⟨by rw [HV.out];rfl,⟨a2,L.drop 1,Kn,false,by simpa using LA.out.set 0 (.slice a2 (L.drop 1).length Kn),HI.out _ HL.out,HD.out,HS.out,OL.out.setCell OE.out _,OE.out⟩,ff _ R 0 _⟩
def nB (st:fW):Int:=((st.bind gH).map (·.1)).getD 0
theorem vB (st:fW):gU gH st (nB st):=fun y hy=>by rw [nB,hy];rfl
theorem yV (st:fW):eg gH st=(if(mK st).toNat=127\/(mK st).toNat=126 then eg eX st else none)/\nB st=(if(mK st).toNat=127 then 1 else if(mK st).toNat=126 then 2 else 0):=by
 match st with
 | none=>exact⟨rfl,rfl⟩
 | some []=>exact⟨rfl,rfl⟩
 | some (c::l)=>
  have hb:mK (some (c::l))=c:=rfl;rw [hb];by_cases q1:c.toNat=127
  ·obtain rfl:c=127:=dv.1 q1
   exact⟨rfl,rfl⟩
  ·by_cases q2:c.toNat=126
   ·obtain rfl:c=126:=dv.1 q2
    exact⟨rfl,rfl⟩
   ·have hn:gH (c::l)=none:=by
     unfold gH;split
     ·rename_i h;injection h with h;subst h;exact absurd rfl q1
     ·rename_i h;injection h with h;subst h;exact absurd rfl q2
     ·rfl
    simp only [eg,nB,aw,hn,q1,q2,or_self,if_false];exact⟨rfl,rfl⟩
theorem uu (w0 w:World) (R:Nat) (st:fW) (h:fi w0 w R st):Calls prog 270 #[.pointer (some ⟨R,0,none⟩)] w (zY w0 w R (.int .i64 (nB st)) (eg gH st)):=by
 have HH:=V h;obtain⟨hn,hv⟩:=yV st;have HN:=V hn;have HV:=V hv;obtain⟨c,hc⟩:∃c,mK st=c:=⟨_,rfl⟩;have HC:=V hc;have hc8:=c.toNat_lt;clear h hn hv hc;go_enter func270,ntmps270;go_wp2_with fail;refine(iU w0 w R st HH.out).mono ?_;rintro e w1 ⟨rfl,h1,hk⟩;rw [HC.out];have HH1:=V h1;have HK:=V hk;by_cases q1:c.toNat=127
 ·have f1:((c.toNat:Int)==127)=true:=eF (by omega)
  have HN:=V (show eg gH st=eg eX st by rw [HN.out,HC.out,aJ (.inl q1)]);have HV:=V (show nB st=1 by rw [HV.out,HC.out,aJ q1]);clear q1 h1 hk;go_wp2_with fail;go_ret;exact⟨by rw [HV.out];rfl,by rw [HN.out];exact HH1.out,HK.out⟩
 ·have f1:((c.toNat:Int)==127)=false:=dQ (by omega)
  by_cases q2:c.toNat=126
  ·have f2:((c.toNat:Int)==126)=true:=eF (by omega)
   have HN:=V (show eg gH st=eg eX st by rw [HN.out,HC.out,aJ (.inr q2)]);have HV:=V (show nB st=2 by rw [HV.out,HC.out,aC q1,aJ q2]);clear q1 q2 h1 hk;go_wp2_with fail;go_ret;exact⟨by rw [HV.out];rfl,by rw [HN.out];exact HH1.out,HK.out⟩
  ·have f2:((c.toNat:Int)==126)=false:=dQ (by omega)
   have HN:=V (show eg gH st=none by rw [HN.out,HC.out,aC (by omega)]);have HV:=V (show nB st=0 by rw [HV.out,HC.out,aC q1,aC q2]);obtain⟨a,l,cap,bad,KD,hl,hlen,-,KK,Ox⟩:=h1;have z1:=KD.free 1;have LA:=V KD;have HL:=V hl;have OL:=V KK;have c1:w1.cell? ⟨R,1,none⟩=some (.bool bad):=KD.cell 1;clear q1 q2 hk KD hl KK;go_wp2_with fail;go_ret;exact⟨by rw [HV.out];rfl,by rw [HN.out];exact⟨a,l,cap,true,by simpa using LA.out.set 1 (.bool true),HL.out,hlen,rfl,OL.out.setCell Ox _,Ox⟩,HK.out.trans (ff _ R 1 _) (fun _ h=> .inl h)⟩
end Go.Proofs.YthbjdhjppbcneaaGreatDoor
