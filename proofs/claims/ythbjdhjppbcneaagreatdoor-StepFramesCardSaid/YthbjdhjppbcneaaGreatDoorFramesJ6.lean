import Derived.Test.YthbjdhjppbcneaaGreatDoorFramesJ5
import Derived.Lib.SlBytesConst
import Derived.Lib.ConvBytes
namespace Go.Proofs.YthbjdhjppbcneaaGreatDoor
set_option maxRecDepth 100000
set_option maxHeartbeats 20000000
open Go.RowKit Tryz
open Lib renaming hid->V
set_option linter.all false
def IZ (w0:World) (L:List UInt8) (l:List Int) (B:Nat) (b:Value) (X:Nat) (cs:Array Value) (t:TypeId) (w w':World) (v:Value) (k:Nat):Prop:=
 k <=l.length/\Wr w b B w' v (L++((l.take k).map fun n=>eP n.toNat).flatten)/\Aside w' v X cs t/\Src w0 w' B
theorem oa:∀l:List Int,(∀n∈l,fV n) ->(((l.map fun n=>eP n.toNat).flatten).length <=10*l.length)
 | [],_=>by simp
 | n::l,h=>by
  have h1:=(eF n.toNat).2;have h2:=oa l (fun x hx=>h x (by simp [hx]));simp only [bA,bS,ah,aI];omega
theorem n5 (w0:World) (b:Value) (xs:List UInt8) (x:eK) (u:Value) (B:Nat) (w:World) (Ku:dX w B b xs) (hn:xs.length <=900000000) (hB:B <=w.heap.size)
  (hx:gN w0 x u) (h0:Src w0 w B) (hm:x.may):
  Calls prog 260 #[b, .agg #[.int .i64 x.op, .int .i64 x.a, .int .i64 x.b,u]] w (fo xs (ik x) B b w):=by
 obtain⟨op,a,bb,l⟩:=x;have HM:=V hm;have HX:=V hx;have O3:=V Ku;obtain⟨au,KD,rfl,Mj,Lj,-⟩:=id hx.1;unfold maxLen at Lj;obtain⟨m1,m2,m3⟩:=id hm;simp only at m1 m2 m3 Mj Lj;have hf:fJ op≠0:=by
  rcases m3 with h | h | h | h | h | h | h | h | h <;>first | (rw [h.1];decide) | (rw [h];decide)
 obtain⟨o1,o2⟩:=wK hf;have QL:=nT op;obtain⟨n,rfl⟩:∃n:Nat,op=n:=⟨op.toNat,by omega⟩;obtain⟨f,hfe⟩:∃f,fJ (n:Int)=f:=⟨_,rfl⟩;rw [hfe]at m1 m2 m3 hf QL;have HB:Hid (ik ⟨n,a,bb,l⟩=b8 n::gh ⟨n,a,bb,l⟩):=V (by
  have:((n:Int).toNat %256)=n:=by omega
  rw [ik,this])
 have HF:=V hfe;have M3:=V m3;have M1:=V m1;have M2:=V m2;clear hm hx hfe m1 m2 m3;go_enter func260,ntmps260;have Ps:Wr w b B (w.alloc (.cells #[.int .i64 n, .int .i64 a, .int .i64 bb, .slice au l.length KD] 27)) b xs:=(Wr.refl Ku).alloc _;have ha1:=Aside.new Ku #[.int .i64 n, .int .i64 a, .int .i64 bb, .slice au l.length KD] 27;have LZ:=h0.alloc (.cells #[.int .i64 n, .int .i64 a, .int .i64 bb, .slice au l.length KD] 27);go_wp2_with (first | (at_builtin;refine eY (w.alloc (.cells #[.int .i64 n, .int .i64 a, .int .i64 bb, .slice au l.length KD] 27)) rfl _ _ rfl rfl B b xs rfl Ps.1 (b8 n) _ ?_ ?_ ?_ ?_ ?_))
 ·rw [fM (by omega)]
 ·omega
 ·omega
 intro v w2 ho hk hs;have MV:=Ps.step ⟨ho,hk,hs⟩;have ha2:=ha1.next ⟨ho,hk,hs⟩;have KG:=LZ.next Ps.1 ⟨ho,hk,hs⟩;have c0:=ha2.cell 0;have HW:=V MV;have HA:=V ha2;have HS:=V KG;clear Ps ha1 LZ ho hk hs MV ha2 KG Ku h0;go_wp2_with fail;refine(tO n _).mono ?_;rintro e w3 ⟨rfl,K9⟩;rw [HF.out];have HW:=V (HW.out.below K9);have HA:=V (HA.out.below K9);have HS:=V (HS.out.below K9);have PJ:=HW.out.base hB;have c1:=HA.out.cell 1;have c2:=HA.out.cell 2;have c3:=HA.out.cell 3;clear K9 c0 hf QL;rcases M3.out with⟨rfl,ra⟩ | ⟨rfl,ra1,ra2⟩ | ⟨rfl,ra1,ra2⟩ | ⟨rfl,⟨ra1,ra2⟩,rl,rs⟩ | ⟨rfl,ra1,ra2⟩ | ⟨rfl,⟨ra1,ra2⟩,rb1,rb2⟩ | ⟨rfl,ra⟩ | ⟨rfl,ra1,ra2⟩ | rfl
 ·clear ra M3
  go_wp2_with fail;go_ret;exact⟨_,rfl,by show Wr _ _ _ _ _ _;rw [HB.out];simpa [gh,HF.out] using HW.out⟩
 ·clear M3
  have key:∃c:UInt8,(a=0/\c=64)\/(a=1/\c=127)\/(a=2/\c=126):=by
   rcases(show a=0\/a=1\/a=2 by omega)with h | h | h
   ·exact⟨64, .inl ⟨h,rfl⟩⟩
   ·exact⟨127, .inr (.inl ⟨h,rfl⟩)⟩
   ·exact⟨126, .inr (.inr ⟨h,rfl⟩)⟩
  obtain⟨c,⟨rfl,rfl⟩ | ⟨rfl,rfl⟩ | ⟨rfl,rfl⟩⟩:=key
  ·clear ra1 ra2
   have hix:∀wx,(Instr.index 341 (.agg #[.int .u8 64, .int .u8 127, .int .u8 126]) (.int .i64 0)).run prog wx= .ok (.int .u8 64) wx:=fun wx=>by kernel_rfl
   go_wp2_with (first | (at_builtin;refine eY w3 rfl _ _ rfl rfl B v _ rfl HW.out.1 64 _ (by decide) rfl (by simp only [ah,aB];omega) PJ ?_));intro v4 w4 ho hk hs;have LA:=V (HW.out.step ⟨ho,hk,hs⟩);clear ho hk hs;go_wp2_with fail;go_ret;exact⟨_,rfl,by show Wr _ _ _ _ _ _;rw [HB.out];simpa [gh,HF.out] using LA.out⟩
  ·clear ra1 ra2
   have hix:∀wx,(Instr.index 341 (.agg #[.int .u8 64, .int .u8 127, .int .u8 126]) (.int .i64 1)).run prog wx= .ok (.int .u8 127) wx:=fun wx=>by kernel_rfl
   go_wp2_with (first | (at_builtin;refine eY w3 rfl _ _ rfl rfl B v _ rfl HW.out.1 127 _ (by decide) rfl (by simp only [ah,aB];omega) PJ ?_));intro v4 w4 ho hk hs;have LA:=V (HW.out.step ⟨ho,hk,hs⟩);clear ho hk hs;go_wp2_with fail;go_ret;exact⟨_,rfl,by show Wr _ _ _ _ _ _;rw [HB.out];simpa [gh,HF.out] using LA.out⟩
  ·clear ra1 ra2
   have hix:∀wx,(Instr.index 341 (.agg #[.int .u8 64, .int .u8 127, .int .u8 126]) (.int .i64 2)).run prog wx= .ok (.int .u8 126) wx:=fun wx=>by kernel_rfl
   go_wp2_with (first | (at_builtin;refine eY w3 rfl _ _ rfl rfl B v _ rfl HW.out.1 126 _ (by decide) rfl (by simp only [ah,aB];omega) PJ ?_));intro v4 w4 ho hk hs;have LA:=V (HW.out.step ⟨ho,hk,hs⟩);clear ho hk hs;go_wp2_with fail;go_ret;exact⟨_,rfl,by show Wr _ _ _ _ _ _;rw [HB.out];simpa [gh,HF.out] using LA.out⟩
 ·clear M3
  obtain⟨k,rfl⟩:∃k:Nat,a=k:=⟨a.toNat,by omega⟩;go_wp2_with fail;refine(je v _ k (by omega) B _ HW.out.1 (by simp only [ah,aB];omega) (by omega)).mono ?_;rintro e w4 ⟨v4,rfl,ho,hk,hs⟩;have LA:=V (HW.out.step ⟨ho,hk,hs⟩);clear ho hk hs;go_wp2_with fail;go_ret;exact⟨_,rfl,by show Wr _ _ _ _ _ _;rw [HB.out];simpa [gh,HF.out] using LA.out⟩
 ·clear M3
  obtain⟨p,rfl⟩:∃p:Nat,a=p:=⟨a.toNat,by omega⟩;have RS:=V rs;have hls:=oa l rs;clear rs;go_wp2_with fail;refine(je v _ l.length (by omega) B _ HW.out.1 (by simp only [ah,aB];omega) (by omega)).mono ?_;rintro e w4 ⟨v4,rfl,ho,hk,hs⟩;have hw4:Wr w b B w4 v4 _:=HW.out.step ⟨ho,hk,hs⟩;have HA4:=V (HA.out.next ⟨ho,hk,hs⟩);have Oh:=V (HS.out.next HW.out.1 ⟨ho,hk,hs⟩);have hl4:=(eF l.length).2;obtain⟨L,hL⟩:∃L,xs++[b8 n]++eP l.length=L:=⟨_,rfl⟩;rw [hL]at hw4;have hlen:L.length <=xs.length+11:=by rw [<- hL];simp only [ah,aB];omega
  have LA:=V hw4;have HL:=V hL;have c3':=HA4.out.cell 3;clear ho hk hs hL hw4 c1 c2 c3;go_wp2_with fail;refine eB (fun a' w'=>∃(v:Value) (k:Nat),a'=fr (v::gs a' 1 2 (.pointer (some ⟨w.heap.size,0,none⟩):: .slice none 0 0::gs a' 5 45 (.slice au l.length KD:: .int .i64 l.length:: .int .i64 k::gs a' 53 37 [])))/\IZ w0 L l B b w.heap.size #[.int .i64 n, .int .i64 p, .int .i64 bb, .slice au l.length KD] 27 w w' v k) (fun a' _=>(l.length - (intOf (a'.tmps.getD 52 undef)).toNat)) ?_ ?_
  ·exact⟨v4,0,rfl,by omega,by simpa using LA.out,HA4.out,Oh.out⟩
  ·clear c3' HA4 Oh
   rintro R a' w1 ⟨v,k,Kw,hJ⟩ HR;dsimp only [fr,gs]at Kw;generalize slot a'=f at Kw;subst Kw;obtain⟨Ls,hw,ha,hs⟩:=hJ;have hBw4:=hw.base hB;have c1:=ha.cell 1;have hlk:(L++((l.take k).map fun n=>eP n.toNat).flatten).length <=900001000:=by
    have g2:=oa (l.take k) (fun x hx=>RS.out x (cD hx));have g3:(l.take k).length <=50:=by rw [aS];omega
    simp only [ah];omega
   have HWK:=V hw;have HAK:=V ha;have HSK:=V hs;by_cases KC:k < l.length
   ·obtain⟨e,he⟩:∃e,l[k]?=some e:=⟨_,aq KC⟩
    obtain⟨a',KR,hv,_,_,Kt⟩:=HX.out.1.below hs.1;injection hv with e1 e2 e3;subst e1 e3;obtain⟨bb',off,rfl,Mk,hc⟩:=Kt k e he;have c0:=hc 0 _ rfl;rw [aL,bo]at c0;obtain⟨q1,q2⟩:=RS.out e (aO he);obtain⟨q,rfl⟩:∃q:Nat,e=q:=⟨e.toNat,by omega⟩;have HE:=V he;clear Kt e2 he hc hw ha hs;go_wp2_with fail;refine(je v _ q (by omega) B _ HWK.out.1 (by omega) (by omega)).mono ?_;rintro x w5 ⟨v5,rfl,ho,hk,hs⟩;have N6:=V (HWK.out.step ⟨ho,hk,hs⟩);have HA5:=V (HAK.out.next ⟨ho,hk,hs⟩);have HS5:=V (HSK.out.next HWK.out.1 ⟨ho,hk,hs⟩);clear ho hk hs;go_wp2_with fail;refine HR.out _ _ ⟨v5,k+1,rfl,by omega,?_,HA5.out,HS5.out⟩ ?_
    ·have e1:L++((l.take (k+1)).map fun n=>eP n.toNat).flatten=L++((l.take k).map fun n=>eP n.toNat).flatten++eP q:=by
      rw [aQ,HE.out];simp
     rw [e1];exact N6.out
    ·simp [intOf]
     omega
   ·obtain rfl:k=l.length:=by omega
    rw [aU]at hlk HWK;clear hw ha hs;go_wp2_with fail;refine(je v _ p (by omega) B _ HWK.out.1 (by omega) (by omega)).mono ?_;rintro x w5 ⟨v5,rfl,ho,hk,hs⟩;have N6:=V (HWK.out.step ⟨ho,hk,hs⟩);clear ho hk hs;go_wp2_with fail;go_ret;refine⟨_,rfl,?_⟩;show Wr _ _ _ _ _ _;have:=N6.out;rw [<- HL.out]at this;rw [HB.out];simpa [gh,HF.out] using this
 ·clear M3
  obtain⟨k,rfl⟩:∃k:Nat,a=k:=⟨a.toNat,by omega⟩;go_wp2_with fail;refine(je v _ k (by omega) B _ HW.out.1 (by simp only [ah,aB];omega) (by omega)).mono ?_;rintro e w4 ⟨v4,rfl,ho,hk,hs⟩;have LA:=V (HW.out.step ⟨ho,hk,hs⟩);have hBw4:=LA.out.base hB;have hl4:=(eF k).2;clear ho hk hs PJ c1 c2 c3;go_wp2_with (first | (at_builtin;refine eY w4 rfl _ _ rfl rfl B v4 _ rfl LA.out.1 0 _ (by decide) rfl (by simp only [ah,aB];omega) hBw4 ?_));intro v5 w5 ho hk hs;have N6:=V (LA.out.step ⟨ho,hk,hs⟩);clear ho hk hs;go_wp2_with fail;go_ret;exact⟨_,rfl,by show Wr _ _ _ _ _ _;rw [HB.out];simpa [gh,HF.out] using N6.out⟩
 ·clear M3
  obtain⟨k,rfl⟩:∃k:Nat,a=k:=⟨a.toNat,by omega⟩;obtain⟨m,rfl⟩:∃m:Nat,bb=m:=⟨bb.toNat,by omega⟩;go_wp2_with fail;refine ef (fun w'=>w'.cell? ⟨w.heap.size,1,none⟩=some (.int .i64 k)/\w'.cell? ⟨w.heap.size,2,none⟩=some (.int .i64 m)) (up 0 4 (up 5 3 ((4,false)::(8,false)::(9,true)::[]))) (by kernel_rfl) (by kernel_rfl) ⟨c1,c2⟩ ?_;iterate 7 (first | (apply sk rfl rfl;simp only [pt]) | (apply dV rfl rfl rfl;·(rintro w' ⟨t0,t1⟩;go_wp2;exact⟨rfl,rfl,rfl⟩)))
  refine ed rfl rfl ?_;go_wp2_with fail;refine(je v _ k (by omega) B w3.drew HW.out.drew.1 (by simp only [ah,aB];omega) (by simpa using PJ)).mono ?_;rintro e w4 ⟨v4,rfl,ho,hk,hs⟩;have LA:=V (HW.out.drew.step ⟨ho,hk,hs⟩);have HA4:=V (HA.out.drew.next ⟨ho,hk,hs⟩);have hBw4:=LA.out.base hB;have hl4:=(eF k).2;clear ho hk hs PJ c1 c2 c3;go_wp2_with fail;refine⟨⟨HA4.out.cell 1,HA4.out.cell 2⟩,?_⟩;refine ed rfl rfl ?_;go_wp2_with fail;refine(je v4 _ m (by omega) B w4 LA.out.1 (by simp only [ah,aB];omega) hBw4).mono ?_;rintro e w5 ⟨v5,rfl,ho,hk,hs⟩;have N6:=V (LA.out.step ⟨ho,hk,hs⟩);have HA5:=V (HA4.out.next ⟨ho,hk,hs⟩);clear ho hk hs;go_wp2_with fail;refine⟨⟨HA5.out.cell 1,HA5.out.cell 2⟩,?_⟩;iterate 1 (first | (apply sk rfl rfl;simp only [pt]) | (apply dV rfl rfl rfl;·(rintro w' ⟨t0,t1⟩;go_wp2;exact⟨rfl,rfl,rfl⟩)))
  refine eL ?_;refine aD ?_;go_wp2_with fail;go_ret;exact⟨_,rfl,by show Wr _ _ _ _ _ _;rw [HB.out];simpa [gh,HF.out] using N6.out⟩
 ·clear ra M3
  go_wp2_with (first | (at_builtin;refine eY w3 rfl _ _ rfl rfl B v _ rfl HW.out.1 0 _ (by decide) rfl (by simp only [ah,aB];omega) PJ ?_));intro v4 w4 ho hk hs;have LA:=V (HW.out.step ⟨ho,hk,hs⟩);clear ho hk hs;go_wp2_with fail;go_ret;exact⟨_,rfl,by show Wr _ _ _ _ _ _;rw [HB.out];simpa [gh,HF.out] using LA.out⟩
 ·clear M3 ra1 ra2
  obtain⟨⟨-,-⟩,⟨g1,g2⟩,-⟩:=HX.out.2;simp only at g1 g2;go_wp2_with fail;refine(mQ v _ a g1 g2 B w3 HW.out.1 (by simp only [ah,aB];omega) PJ).mono ?_;rintro e w4 ⟨v4,rfl,ho,hk,hs⟩;have LA:=V (HW.out.step ⟨ho,hk,hs⟩);clear ho hk hs;go_wp2_with fail;go_ret;exact⟨_,rfl,by show Wr _ _ _ _ _ _;rw [HB.out];simpa [gh,HF.out] using LA.out⟩
 ·clear M3
  obtain⟨⟨-,-⟩,⟨g1,g2⟩,-⟩:=HX.out.2;simp only at g1 g2;go_wp2_with fail;refine(mQ v _ a g1 g2 B w3 HW.out.1 (by simp only [ah,aB];omega) PJ).mono ?_;rintro e w4 ⟨v4,rfl,ho,hk,hs⟩;have LA:=V (HW.out.step ⟨ho,hk,hs⟩);clear ho hk hs;go_wp2_with fail;go_ret;exact⟨_,rfl,by show Wr _ _ _ _ _ _;rw [HB.out];simpa [gh,HF.out] using LA.out⟩
section
def Ext (w w':World):Prop:=(∀a v,w.cell? a=some v ->w'.cell? a=some v)/\w.heap.size <=w'.heap.size
theorem Ext.trans {a b c:World} (h:Ext a b) (k:Ext b c):Ext a c:=⟨fun x v e=>k.1 x v (h.1 x v e),aW h.2 k.2⟩
theorem Ext.dW {w w':World} (h:Below w.heap.size w w'):Ext w w':=⟨fun a v e=>by rw [h.cell (aT w a e)];exact e,h.size⟩
theorem iE {P:Nat ->Prop} {S S':Nat ->Bool} {w w':World} (h:dU P w w') (hP:∀k,k < w.heap.size ->P k ->S k=true) (hS:∀k,k < w.heap.size ->S' k=true ->S k=true):Ext (mask S w) (mask S' w'):=by
 refine⟨fun a v e=>?_,by rw [gY,gY];exact h.size⟩;have KC:a.block < w.heap.size:=by
  have:=aT (mask S w) a e
  rwa [gY]at this
 have hb:S a.block=false:=by
  cases hs:S a.block with
  | false=>rfl
  | true=>
   exfalso;unfold World.cell? at e;rw [pd w hs]at e;cases hg:w.heap[a.block]? with
   | none=>rw [hg]at e;simp at e
   | some o=>rw [hg]at e;simp at e
 have KT:S' a.block=false:=by
  cases hs:S' a.block with
  | false=>rfl
  | true=>rw [hS _ KC hs]at hb;cases hb
 have h1:(mask S w).cell? a=w.cell? a:=bm (jt w hb);have h2:(mask S' w').cell? a=w'.cell? a:=bm (jt w' KT);have h3:w'.cell? a=w.cell? a:=bm (h.block _ KC (fun g=>by rw [hP _ KC g]at hb;cases hb));rw [h1]at e;rw [h2,h3];exact e
theorem rM {P:Nat ->Prop} {S:Nat ->Bool} {w w':World} (h:dU P w w') (hP:∀k,k < w.heap.size ->P k ->S k=true):Ext (mask S w) w':=by
 refine⟨fun a v e=>?_,by rw [gY];exact h.size⟩;have KC:a.block < w.heap.size:=by
  have:=aT (mask S w) a e
  rwa [gY]at this
 have hb:S a.block=false:=by
  cases hs:S a.block with
  | false=>rfl
  | true=>
   exfalso;unfold World.cell? at e;rw [pd w hs]at e;cases hg:w.heap[a.block]? with
   | none=>rw [hg]at e;simp at e
   | some o=>rw [hg]at e;simp at e
 have h1:(mask S w).cell? a=w.cell? a:=bm (jt w hb);have h3:w'.cell? a=w.cell? a:=bm (h.block _ KC (fun g=>by rw [hP _ KC g]at hb;cases hb));rw [h1]at e;rw [h3];exact e
theorem eg.ext {α:Type} {k:Nat} {enc:α ->List Value} {w w':World} {v:Value} {l:List α} (h:eg k enc w v l) (he:Ext w w'):eg k enc w' v l:=by
 obtain⟨a,cap,hv,h1,h2,h3⟩:=h;refine⟨a,cap,hv,h1,h2,fun i x hx=>?_⟩;obtain⟨b,off,ha,KC,hc⟩:=h3 i x hx;exact⟨b,off,ha,bH KC he.2,fun j u hu=>he.1 _ _ (hc j u hu)⟩
theorem eJ.ext {w w':World} {v:Value} {l:List UInt8} (h:eJ w v l) (he:Ext w w'):eJ w' v l:=by
 obtain⟨a,cap,hv,h1,h2,h3⟩:=h;refine⟨a,cap,hv,h1,h2,fun i x hx=>?_⟩;obtain⟨b,off,ha,hc⟩:=h3 i x hx;exact⟨b,off,ha,he.1 _ _ hc⟩
theorem ee.ext {α β:Type} {k:Nat} {enc:α × β ->List Value} {inner:World ->α ->β ->Prop} {w w':World} {v:Value} {l:List α} (h:ee k enc inner w v l) (he:Ext w w') (hi:∀x u,inner w x u ->inner w' x u):ee k enc inner w' v l:=by
 obtain⟨us,h1,h2,h3⟩:=h;exact⟨us,h1,h2.ext he,fun i x u hx hu=>hi x u (h3 i x u hx hu)⟩
theorem gN.ext {w w':World} {x:eK} {u:Value} (h:gN w x u) (he:Ext w w'):gN w' x u:=⟨h.1.ext he,h.2⟩
theorem gd.ext {w w':World} {v:Value} {l:List eK} (h:gd w v l) (he:Ext w w'):gd w' v l:=ee.ext h he (fun _ _ h=>h.ext he)
theorem gI.ext {w w':World} {x:gr} {u:Value × Value} (h:gI w x u) (he:Ext w w'):gI w' x u:=⟨⟨h.1.1.ext he,h.1.2.ext he⟩,h.2⟩
theorem gW.ext {w w':World} {x:iS} {u:Value} (h:gW w x u) (he:Ext w w'):gW w' x u:=⟨h.1.ext he,h.2⟩
theorem gH.ext {w w':World} {x:gF} {u:Value × Value} (h:gH w x u) (he:Ext w w'):gH w' x u:=⟨⟨h.1.1.ext he,h.1.2.ext he⟩,h.2⟩
theorem gq.ext {w w':World} {x:gp} {u:Value} (h:gq w x u) (he:Ext w w'):gq w' x u:=⟨h.1.ext he,h.2⟩
theorem ep.ext {w w':World} {u:eD} {m:ez} (h:ep w u m) (he:Ext w w'):ep w' u m:=by
 obtain⟨h1,h2,h3,h4,h5,h6,h7,h8,h9⟩:=h;exact⟨ee.ext h1 he (fun _ _ h=>h.ext he),h2.ext he,h3.ext he,h4.ext he,h5.ext he,ee.ext h6 he (fun _ _ h=>h.ext he),ee.ext h7 he (fun _ _ h=>h.ext he),ee.ext h8 he (fun _ _ h=>h.ext he),h9⟩
def kH (B:Nat):Nat ->Bool:=fun k=>decide (k < B)
def Ci (B:Nat) (v:Value):Nat ->Bool:=fun k=>decide (k < B) || decide (v.ownBlock=some k)
theorem lR {B k:Nat}:kH B k=true↔k < B:=by simp [kH]
theorem mW {B k:Nat} {v:Value}:Ci B v k=true↔k < B\/eA v k:=by simp [Ci,eA]
theorem nx {P:Nat ->Prop} {B B':Nat} {w w':World} (h:dU P w w') (hP:∀k,P k ->k < B\/w.heap.size <=k) (hB:B' <=B\/w.heap.size <=B):Ext (mask (kH B) w) (mask (kH B') w'):=
 iE h (fun k hk hp=>lR.2 ((hP k hp).elim id (fun g=>by omega))) (fun k hk hp=>lR.2 (by have:=lR.1 hp;omega))
theorem GD {B:Nat} {w w':World} (h:dU (fun k=>k < B) w w'):Ext (mask (kH B) w) w':=rM h (fun _ _ hp=>lR.2 hp)
theorem D5 (B:Nat) (w:World):Ext (mask (kH B) w) w:=GD (dU.refl _ _)
theorem tV {B B':Nat} (w:World) (h:B' <=B):Ext (mask (kH B) w) (mask (kH B') w):=nx (P:=fun _=>False) (dU.refl _ _) (fun _ h=>h.elim) (.inl h)
theorem jm {α:Type} {t:TypeId} {k:Nat} {enc:α ->List Value} {w:World} {B:Nat} {v:Value} {l:List α} (hk:∀x,(enc x).length=k) (h:dT t k enc w B v l):eg k enc (mask (kH B) w) v l:=
 (h.mask (S:=kH B) (fun b hb=>by simp [kH];exact hb)).fy hk
theorem xD {w:World} {B:Nat} {v:Value} {l:List UInt8} (h:dX w B v l):eJ (mask (kH B) w) v l:=
 (h.mask (S:=kH B) (fun b hb=>by simp [kH];exact hb)).fp
section
variable {α β:Type} {t:TypeId} {k:Nat} {enc:α × β ->List Value} {inner:World ->α ->β ->Prop}
def eR (t:TypeId) (k:Nat) (enc:α × β ->List Value) (inner:World ->α ->β ->Prop) (w:World) (B:Nat) (v:Value) (l:List α):Prop:=
 ∃us:List β,us.length=l.length/\dT t k enc w B v (l.zip us)/\∀(i:Nat) (x:α) (u:β),l[i]?=some x ->us[i]?=some u ->inner (mask (Ci B v) w) x u
theorem eR.nil (w:World) (B:Nat):eR t k enc inner w B (.slice none 0 0) []:=⟨[],rfl,dT.nil _ _,by simp⟩
theorem eR.lt {w:World} {B:Nat} {v:Value} {l:List α} (h:eR t k enc inner w B v l) {i:Nat} (hi:eA v i):B <=i/\i < w.heap.size:=by
 obtain⟨us,_,h,_⟩:=h;exact et h hi
theorem eR.low (hk:∀x,(enc x).length=k) (hx:∀w w' x u,Ext w w' ->inner w x u ->inner w' x u) {w:World} {B:Nat} {v:Value} {l:List α} (h:eR t k enc inner w B v l):ee k enc inner (mask (kH B) w) v l:=by
 obtain⟨us,h1,h2,h3⟩:=h;refine⟨us,h1,jm hk h2,fun i x u a b=>hx _ _ x u (iE (P:=fun _=>False) (dU.refl _ _) (fun _ _ h=>h.elim) (fun k _ h=>?_)) (h3 i x u a b)⟩;exact mW.2 (.inl (lR.1 h))
theorem eR.keeps (hx:∀w w' x u,Ext w w' ->inner w x u ->inner w' x u) {w w':World} {B:Nat} {v:Value} {l:List α} {P:Nat ->Prop} (h:eR t k enc inner w B v l) (hk:dU P w w') (hP:∀i,P i ->i < B\/w.heap.size <=i):eR t k enc inner w' B v l:=by
 obtain⟨us,h1,h2,h3⟩:=h;refine⟨us,h1,h2.keeps hk (fun i hi hp=>?_),fun i x u a b=>hx _ _ x u (iE hk (fun k KC hp=>?_) (fun k _ h=>h)) (h3 i x u a b)⟩
 ·have:=et h2 hi
  rcases hP i hp with g | g <;>omega
 ·rcases hP k hp with g | g
  ·exact mW.2 (.inl g)
  ·omega
theorem eR.app (hx:∀w w' x u,Ext w w' ->inner w x u ->inner w' x u) {w1 w w':World} {B:Nat} {v v':Value} {l:List α} {us:List β} {x:α} {u:β} (h1:us.length=l.length)
  (h3:∀(i:Nat) (x:α) (u:β),l[i]?=some x ->us[i]?=some u ->inner (mask (Ci B v) w) x u) (LS:dT t k enc w' B v' (l.zip us++[(x,u)])) (hk:dU (eA v) w w') (hs:eE w v v')
  (hB:B <=w1.heap.size) (hv:∀i,eA v i ->i < w1.heap.size) (hu:inner (mask (kH w1.heap.size) w) x u):eR t k enc inner w' B v' (l++[x]):=by
 have hS:∀k,k < w.heap.size ->Ci B v' k=true ->Ci B v k=true:=fun k KC h=>by
  rcases mW.1 h with g | g
  ·exact mW.2 (.inl g)
  ·rcases hs k g with g | g
   ·exact mW.2 (.inr g)
   ·omega
 refine⟨us++[u],by simp [h1],?_,fun i y z hy hz=>?_⟩
 ·rw [di h1.symm]
  exact LS
 ·rcases Nat.lt_trichotomy i l.length with g | g | g
  ·rw [bu g]at hy
   rw [bu (by omega)]at hz;exact hx _ _ y z (iE hk (fun k _ hp=>mW.2 (.inr hp)) hS) (h3 i y z hy hz)
  ·subst g
   rw [bg (ag _)]at hy;rw [bg (by omega)]at hz;simp [h1]at hy hz;subst hy hz;refine hx _ _ _ _ (iE hk (fun k _ hp=>lR.2 (hv k hp)) (fun k KC hp=>lR.2 ?_)) hu;rcases mW.1 hp with g | g
   ·omega
   ·rcases hs k g with g | g
    ·exact hv k g
    ·omega
  ·rw [dh (by simp;omega)]at hy
   cases hy
end
end
theorem AZ {x:eK} (h:x.may) (ho:x.ok):(ik x).length <=530:=by
 obtain⟨m1,m2,m3⟩:=h;obtain⟨o1,o2,o3,o4⟩:=ho;have a:=(eF x.a.toNat).2;have b:=(eF x.b.toNat).2;have l:=(eF x.l.length).2;have s:=(tE o2.1 o2.2).2;unfold ik gh;rw [aI];split
 ·simp
 ·omega
 ·have hs:∀n∈x.l,fV n:=by
   rename_i hf;rw [hf]at m3;rcases m3 with h | h | h | h | h | h | h | h | h <;>first | (exact h.2.2.2) | (exact absurd h.1 (by decide)) | (exact absurd h (by decide))
  have h50:x.l.length <=50:=by
   rename_i hf;rw [hf]at m3;rcases m3 with h | h | h | h | h | h | h | h | h <;>first | (exact h.2.2.1) | (exact absurd h.1 (by decide)) | (exact absurd h (by decide))
  have:=oa x.l hs;simp only [ah];omega
 ·simp;omega
 ·simp only [ah];omega
 ·simp
 ·omega
 ·omega
 ·simp
theorem rE {l:List eK} (hm:∀x∈l,x.may) (ho:∀x∈l,x.ok):((l.map ik).flatten).length <=530*l.length:=by
 induction l with
 | nil=>simp
 | cons x l ih=>
  have h1:=AZ (hm x (by simp)) (ho x (by simp));have h2:=ih (fun y hy=>hm y (by simp [hy])) (fun y hy=>ho y (by simp [hy]));simp only [bA,bS,ah,aI];omega
theorem gd.JN {w:World} {v:Value} {l:List eK} (h:gd w v l):∀x∈l,x.ok:=by
 intro x hx;obtain⟨i,hi⟩:=List.getElem?_of_mem hx;obtain⟨a,cap,rfl,-,-⟩:=ee.slice h;obtain⟨b,off,u,-,-,-,hu⟩:=ee.get h hi;exact hu.2
theorem oF {L:List UInt8} {x:eK} {r:List UInt8} (h:gu L=some (x,r)):∃p,L=p++r:=by
 cases L with
 | nil=>cases h
 | cons c l=>
  have hf:fJ c.toNat≠0:=by
   intro hz;unfold gu at h;dsimp only at h;rw [hz]at h;cases h
  have h1:=(IR.rL c l hf).1;rw [h]at h1;unfold IR.rest at h1;split at h1
  ·simp only [bE,aX]at h1
   exact⟨_,by rw [<- h1];exact(cB _ _).symm⟩
  ·cases h1
theorem A2 {w:World} {B:Nat} {x:eK} {u:Value} (h:gN w x u) (hf:Bz B w u):gN (mask (kH B) w) x u:=by
 obtain⟨⟨a,cap,hv,h1,h2,h3⟩,ho⟩:=h;refine⟨⟨a,cap,hv,h1,h2,fun i y hy=>?_⟩,ho⟩;obtain⟨b,off,ha,KC,hc⟩:=h3 i y hy;subst ha;have hB:=(hf _ _ _ hv).1;refine⟨b,off,rfl,by rw [gY];exact KC,fun j v hj=>?_⟩;have:=hc j v hj;have hb:kH B b=false:=by
  cases hs:kH B b with
  | false=>rfl
  | true=>have:=lR.1 hs;simp only at hB;omega
 rw [bm (jt w hb)];exact this
def Jo (w0:World) (xs:List UInt8) (l:List eK) (B:Nat) (b:Value) (w w':World) (v:Value) (k:Nat):Prop:=
 k <=l.length/\Wr w b B w' v (xs++((l.take k).map ik).flatten)/\Src w0 w' B
theorem yY (w0:World) (b v:Value) (xs:List UInt8) (l:List eK) (B:Nat) (w:World) (Ku:dX w B b xs) (hn:xs.length <=500000000) (hB:B <=w.heap.size)
  (hl:gd w0 v l) (h0:Src w0 w B) (hlen:l.length <=300) (hm:∀x∈l,x.may):
  Calls prog 266 #[b,v] w (fo xs (mI l) B b w):=by
 obtain⟨a,cap,rfl,h1,h2⟩:=ee.slice hl;have LH:=V hl.JN;have HL:=V hl;have HM:=V hm;have HO:=V Ku;have H0:=V h0;clear hl hm Ku h0;go_enter func266,ntmps266;go_wp2_with fail;refine eB (fun a' w'=>∃(vb:Value) (k:Nat),a'=fr (vb::gs a' 1 6 (.slice a l.length cap:: .int .i64 l.length:: .int .i64 k::gs a' 10 10 []))/\Jo w0 xs l B b w w' vb k) (fun a' _=>(l.length - (intOf (a'.tmps.getD 9 undef)).toNat)) ?_ ?_
 ·exact⟨_,0,rfl,by omega,by simpa using Wr.refl HO.out,H0.out⟩
 ·skip
  rintro R a' w1 ⟨vb,k,Kw,hJ⟩ HR;dsimp only [fr,gs]at Kw;generalize slot a'=f at Kw;subst Kw;obtain⟨hk,Ni,M9⟩:=hJ;have HW:=V Ni;have HS:=V M9;have hB1:=Ni.base hB;clear Ni M9;have hlen1:(((l.take k).map ik).flatten).length <=530*300:=by
   have:=rE (l:=l.take k) (fun x hx=>HM.out x (cD hx)) (fun x hx=>LH.out x (cD hx));rw [aS]at this;have:530*min k l.length <=530*300:=dH _ (by omega);omega
  by_cases q:k < l.length;rotate_left
  ·obtain rfl:k=l.length:=by omega
   rw [aU]at hlen1;have HW:=V (show Wr w b B w1 vb (xs++(l.map ik).flatten)by have:=HW.out;rwa [aU]at this);go_wp2_with (first | (at_builtin;refine eY w1 rfl _ _ rfl rfl B vb _ rfl HW.out.1 (11:UInt8) _ rfl rfl (by simp only [ah];omega) hB1 ?_));intro v2 w2 KQ KB KG;have KM:Hid (Wr w b B w2 v2 (xs++mI l)):=V (HW.out.step ⟨by simpa [mI] using KQ,KB,KG⟩);clear KQ KB KG;go_wp2_with fail;go_ret;exact⟨_,rfl,KM.out⟩
  obtain⟨x,hx⟩:∃x,l[k]?=some x:=⟨_,aq q⟩;have PK:gd w1 (.slice a l.length cap) l:=HL.out.below HS.out.1;obtain⟨bb,off,u,rfl,KC,hc,hu⟩:=ee.get PK hx;obtain⟨b0,off0,u0,PB,-,Mh,hu0⟩:=ee.get HL.out hx;injection PB with PB;injection PB with e1 e2;subst e1 e2;have hlt0:bb < w0.heap.size:=by
   have:=aT w0 _ (Mh 0 _ rfl);exact this
  have c0:=(HS.out.1.cell hlt0).trans (Mh 0 _ rfl);have c1:=(HS.out.1.cell hlt0).trans (Mh 1 _ rfl);have c2:=(HS.out.1.cell hlt0).trans (Mh 2 _ rfl);have c3:=(HS.out.1.cell hlt0).trans (Mh 3 _ rfl);rw [aL]at c0;have HX:=V hx;have HU:=V hu0;have HXM:=V (HM.out x (aO hx));obtain⟨⟨au,KD,rfl,-,-,-⟩,-⟩:=id hu0;clear hc Mh hu hx hu0 PK;go_wp2_with fail;have Lo:=V (HW.out.alloc (.cells #[.int .i64 x.op, .int .i64 x.a, .int .i64 x.b, .slice au x.l.length KD] 27));have MJ:=V (HS.out.alloc (.cells #[.int .i64 x.op, .int .i64 x.a, .int .i64 x.b, .slice au x.l.length KD] 27));refine(n5 w0 _ _ x _ B _ Lo.out.1 (by simp only [ah];omega) (Lo.out.base hB) HU.out MJ.out HXM.out).mono ?_;rintro e w2 ⟨v2,rfl,KQ,KB,KG⟩;have KM:=V (Lo.out.step ⟨KQ,KB,KG⟩);have K4:=V (MJ.out.next Lo.out.1 ⟨KQ,KB,KG⟩);clear KQ KB KG c0 c1 c2 c3;go_wp2_with fail;refine HR.out _ _ ⟨_,k+1,rfl,by omega,?_,K4.out⟩ ?_
  ·have:=KM.out
   rw [aQ,HX.out];simpa using this
  ·simp [intOf]
   omega
theorem FV {x:gF} (hm:x.may) (ho:∀y∈x.body,y.ok):(ir x).length <=160000:=by
 have h1:=uO hm.2.1.1;have h2:=rE hm.2.2.2 ho;have h3:530*x.body.length <=530*300:=dH _ hm.2.2.1;have h4:=(eF (lY x).length).2;simp only [ir,lY,mI,ah,aB]at*;omega
theorem pq (x:fP):(oneOf x).length <=1:=by
 unfold oneOf;split <;>simp
structure ez.Fits (m:ez):Prop where
 v1:(eU kI m.types).length <=2000
 v2:(eU nA m.imports).length <=2000
 v3:(eU rS m.funcs).length <=2000
 v4:(eU jj (oneOf m.table)).length <=2000
 v5:(eU gE (oneOf m.mem)).length <=2000
 v6:(eU kE m.globals).length <=2000
 v7:(eU nR m.ea).length <=2000
 v9:(eU kT m.elems).length <=10000
 v10:(eU ir m.ej).length <=3000000
 v11:(eU nP m.eC).length <=20000
 s1:(fE (b8 1) kI m.types).length <=2100
 s2:(fE (b8 2) nA m.imports).length <=2100
 s3:(fE (b8 3) rS m.funcs).length <=2100
 s4:(fE (b8 4) jj (oneOf m.table)).length <=2100
 s5:(fE (b8 5) gE (oneOf m.mem)).length <=2100
 s6:(fE (b8 6) kE m.globals).length <=2100
 s7:(fE (b8 7) nR m.ea).length <=2100
 s9:(fE (b8 9) kT m.elems).length <=11000
 F7:(fE (b8 10) ir m.ej).length <=3010000
 F6:(fE (b8 11) nP m.eC).length <=21000
theorem ez.vg.fits {m:ez} (h:m.vg) (hg:∀x∈m.globals,x.init.ok) (ho:∀x∈m.ej,∀y∈x.body,y.ok):m.Fits:=by
 obtain⟨⟨_,n10,h10⟩,⟨⟨⟨n1,h1⟩,⟨n2,h2⟩,n3,h3⟩,⟨n6,h6⟩,⟨n7,h7⟩,⟨n9,h9⟩,n11,h11⟩,h4,h5⟩:=h;have n3:m.funcs.length <=16:=by omega
 have t1:=fun x hx=>EL (h1 x hx);have t2:=fun x hx=>Hw (h2 x hx);have t6:=fun x hx=>EA (hg x hx);have t7:=fun x hx=>Gb (h7 x hx);have t9:=fun x hx=>Dy (h9 x hx);have t10:=fun x hx=>FV (h10 x hx) (ho x hx);have t11:=fun x hx=>Gs (h11 x hx);have a1:=jz kI 100 16 m.types t1 n1;have a2:=jz nA 100 16 m.imports t2 n2;have a3:=jz rS 10 16 m.funcs (fun x _=>rG x) n3;have a4:=jz jj 31 1 (oneOf m.table) (fun x _=>wD x) (pq _);have a5:=jz gE 30 1 (oneOf m.mem) (fun x _=>qy x) (pq _);have a6:=jz kE 14 16 m.globals t6 n6;have a7:=jz nR 100 16 m.ea t7 n7;have a9:=jz kT 600 16 m.elems t9 n9;have a10:=jz ir 160000 16 m.ej t10 n10;have a11:=jz nP 1100 16 m.eC t11 n11;have b1:=nE (b8 1) kI 100 16 m.types t1 n1;have b2:=nE (b8 2) nA 100 16 m.imports t2 n2;have b3:=nE (b8 3) rS 10 16 m.funcs (fun x _=>rG x) n3;have b4:=nE (b8 4) jj 31 1 (oneOf m.table) (fun x _=>wD x) (pq _);have b5:=nE (b8 5) gE 30 1 (oneOf m.mem) (fun x _=>qy x) (pq _);have b6:=nE (b8 6) kE 14 16 m.globals t6 n6;have b7:=nE (b8 7) nR 100 16 m.ea t7 n7;have b9:=nE (b8 9) kT 600 16 m.elems t9 n9;have b10:=nE (b8 10) ir 160000 16 m.ej t10 n10;have b11:=nE (b8 11) nP 1100 16 m.eC t11 n11
 constructor <;>omega
theorem Bf (m:ez):fB m=((((((((((fA++fE (b8 1) kI m.types)++fE (b8 2) nA m.imports)++fE (b8 3) rS m.funcs)++fE (b8 4) jj (oneOf m.table))++fE (b8 5) gE (oneOf m.mem))++fE (b8 6) kE m.globals)++fE (b8 7) nR m.ea)++fE (b8 9) kT m.elems)++fE (b8 10) ir m.ej)++fE (b8 11) nP m.eC):=by
 have e1:b8 1=1:=rfl;have e2:b8 2=2:=rfl;have e3:b8 3=3:=rfl;have e4:b8 4=4:=rfl;have e5:b8 5=5:=rfl;have e6:b8 6=6:=rfl;have e7:b8 7=7:=rfl;have e9:b8 9=9:=rfl;have e10:b8 10=10:=rfl;have e11:b8 11=11:=rfl;rw [e1,e2,e3,e4,e5,e6,e7,e9,e10,e11];simp only [fB,ph,aP]
theorem nD (l:List UInt8) (w:World):(Builtin.firstCells 1 l.length (.string (bs l))).run prog w= .ok (l.map bv).toArray w:=by
 have h:((bs l).extract 0 l.length).data.map (fun b:UInt8=>Value.int IntKind.u8 (b.toNat:Int))=(l.map bv).toArray:=by
  have e:(bs l).extract 0 l.length=bs l:=by
   apply ByteArray.ext;simp [bs]
  rw [e];simp [bs]
 simp only [Builtin.firstCells,cd,h]
theorem zo (w:World) (B:Nat) (ty:TypeId) (v:Value) (l m:List UInt8) (Ku:dX w B v l) (OI:l.length+m.length <=140737488355327) (K3:B <=w.heap.size):
  ∃v' w',(Builtin.append_ #[97,9] ty #[v, .string (bs m)]).run prog w= .ok v' w'/\dX w' B v' (l++m)/\dU (eA v) w w'/\eE w v v':=by
 obtain⟨i0,hi,M5,LR,Mz⟩:=bX od;have ht:prog.underlying 97=some (.slice 5):=by kernel_rfl
 have hu:prog.underlying 9=some .string:=by kernel_rfl
 have hs:(bs m).size=m.length:=BV m;have grown:∀(old:Nat),old < l.length+m.length ->
   dX (w.drew.alloc (.cells ((l.map bv).toArray++(m.map bv).toArray++Builtin.zeroCells #[.int .u8 0] (grownCap w (l.length+m.length) old 5 - (l.length+m.length))) 5)) B
    (.slice (some ⟨w.heap.size,0,none⟩) (l.length+m.length) (grownCap w (l.length+m.length) old 5)) (l++m)/\
   dU (eA v) w (w.drew.alloc (.cells ((l.map bv).toArray++(m.map bv).toArray++Builtin.zeroCells #[.int .u8 0] (grownCap w (l.length+m.length) old 5 - (l.length+m.length))) 5))/\
   eE w v (.slice (some ⟨w.heap.size,0,none⟩) (l.length+m.length) (grownCap w (l.length+m.length) old 5)):=by
  intro old ho;have hge:=grownCap_ge w (l.length+m.length) old 5;have My:grownCap w (l.length+m.length) old 5 <=maxLen:=dM w (l.length+m.length) old 5 (by simp only [maxLen];omega);refine⟨⟨by simp, .inr ⟨w.heap.size,_,_,?_,K3,dt w.drew _,?_,My,?_,?_⟩⟩,(dU.refl _ _).drew.alloc _,fun k hk=> .inr ?_⟩
  ·rw [ah]
  ·rw [ah];exact hge
  ·simp [size_zeroCells]
   omega
  ·simp only [Array.toList_append,aP]
   rw [<- aP,cn,bo,show(l++m).length=(l.map bv++m.map bv).length from by simp];exact cO
  ·simp [eA,Value.ownBlock]at hk
   omega
 rcases Ku.2 with⟨rfl,h0⟩ | ⟨g,cap,cur,rfl,hbg,hg,hnc,My,QA,QB⟩
 ·obtain rfl:l=[]:=aH h0
  by_cases hm:m.length=0
  ·obtain rfl:m=[]:=aH hm
   refine⟨.slice none 0 0,w,?_,dX.nil _ _,dU.refl _ _,eE.refl _ _⟩;have hf:=nD [] w;simp only [aK]at hf;simp [Builtin.append_,bp ht,bp hu,sizeOf,typeInfo,hi,LR,Builtin.lenOf,hs,hf]
  ·have hr:=run_append_nil_string (P:=prog) w 97 9 ty 5 i0 (.int .u8 0) ht hu hi M5 (bs m) (by omega) (by omega) (by rw [Mz];omega)
   have O2:=grown 0 (by simp;omega);have e1:(bs m).data.map (fun b:UInt8=>Value.int IntKind.u8 (b.toNat:Int))=(m.map bv).toArray:=by simp [bs]
   rw [hs,e1]at hr;simp only [aK,bW,cS,bL,Array.empty_append]at O2;exact⟨_,_,hr,O2.1,O2.2.1,O2.2.2⟩
 ·simp only [bo]at QA QB
  by_cases Oo:l.length+m.length <=cap
  ·have hf:=nD m w
   have KS:=run_storeCells_at prog g l.length 5 (m.map bv) 0 cur w hg (by simp;omega) (Aw m);simp only [aL]at KS;refine⟨.slice (some ⟨g,0,none⟩) (l.length+m.length) cap,w.setRow g (cur.toList.take l.length++m.map bv++cur.toList.drop (l.length+(m.map bv).length)).toArray,?_,⟨by simp, .inr ⟨g,cap,_,by rw [ah],hbg,setRow_heap w g cur _ _ _ hg,by rw [ah];exact Oo,My,?_,?_⟩⟩,⟨rfl,rfl,rfl,by simp,fun k _ hk=>setRow_other w g k _ (fun e=>hk (by simp [eA,Value.ownBlock,e]))⟩,fun k hk=> .inl hk⟩
   ·simp [Builtin.append_,bp ht,bp hu,sizeOf,typeInfo,hi,LR,Builtin.lenOf,hs,Oo,hf,Addr.add_lit,KS]
   ·simp only [dA,ah,aS,bq,Array.length_toList,bN]
    omega
   ·rw [QB,cn,bo,show(l++m).length=(l.map bv++m.map bv).length from by simp]
    exact cO
  ·have holds:∀j u,(l.map bv)[j]?=some u ->w.cell? ((⟨g,0,none⟩:Addr).add j)=some u:=Ku.cells (g:=g) rfl
   have hn:¬ (l.length+m.length <=cap):=Oo;have h63':¬ (9223372036854775807 < ((l.length:Int)+(m.length:Int))):=by omega
   have h48':¬ (281474976710656 < Builtin.nextslicecap (l.length+m.length) cap*i0.bytes):=by
    have:=growslice_fits (need:=l.length+m.length) (old:=cap) (bytes:=1) (by omega) (by omega);rw [Mz];omega
   have hf:=nD m w.drew;have hfo:=run_firstCells_some (P:=prog) w.drew 1 l.length ⟨g,0,none⟩ l.length cap (l.map bv) (by simp) (by simpa using holds);have O2:=grown cap (by omega);refine⟨_,_,?_,O2.1,O2.2.1,O2.2.2⟩;rw [Mz,bo]at h48';simp [Builtin.append_,bp ht,bp hu,sizeOf,typeInfo,zeroValue,hi,M5,LR,Mz,Builtin.lenOf,hs,hn,h63',h48',Question.forced,hf,hfo,newRow,grownCap]
   congr 2
   apply Array.ext';simp [aP];rfl
theorem Bc {P:Program} (w:World) {ops:Array Oper} {rest:List Oper} {o:Oper} {a:Act} {Q:Exit ->Act ->World ->Prop} (N0:o.guard=none) (s x:Operand)
  (hP:P=prog) (ho:o.op= .call {callee:= .builtin .append,args:=#[s,x],argTypes:=#[97,9]})
  (B:Nat) (v:Value) (l m:List UInt8) (hs:a.eval s=v) (Ku:dX w B v l) (hx:a.eval x= .string (bs m))
  (OI:l.length+m.length <=140737488355327) (K3:B <=w.heap.size)
  (h:∀v' w',dX w' B v' (l++m) ->dU (eA v) w w' ->eE w v v' ->wpList P ops Q rest (a.put o.dst v') w'):wpList P ops Q (o::rest) a w:=by
 subst hP;refine dN N0 fun _ hK=>?_;obtain⟨v',w',hr,h2,h3,h4⟩:=zo w B o.type v l m Ku OI K3;unfold Oper.wp execOp;simp only [ho,resolve,invoke,builtin,cK,cd,cz,du,bA,cS,hs,hx,hr];exact hK _ _ (h v' w' h2 h3 h4)
theorem fI (b:Value) (xs:List UInt8) (u:Nat) (h1:u <=9223372036854775807) (B:Nat) (w:World) (Ku:dX w B b xs) (hn:xs.length <=1000000000) (hB:B <=w.heap.size):
  Calls prog 175 #[b, .int .i64 u] w (fo xs (eP u) B b w):=by
 go_enter func175,ntmps175;go_wp2_with fail;refine(je b xs u (by omega) B w Ku hn hB).mono ?_;rintro x w2 ⟨v,rfl,h2,h3,h4⟩;go_wp2_with fail;go_ret;exact⟨v,rfl,h2,h3,h4⟩
theorem nu (b:Value) (xs:List UInt8) (k:Int) (B:Nat) (w:World) (Ku:dX w B b xs) (hn:xs.length <=900000000) (hB:B <=w.heap.size):
  Calls prog 172 #[b, .int .i64 k] w (fo xs (ji k) B b w):=by
 have HW:=V (Wr.refl Ku);by_cases q:k=1
 ·have f1:=eH q
  have HB:Hid (ji k=[127]):=V (by simp [ji,q]);clear q Ku;go_enter func172,ntmps172;go_wp2_with (first | (at_builtin;refine eY w rfl _ _ rfl rfl B b _ rfl HW.out.1 (127:UInt8) _ rfl rfl (by first | omega | (simp only [ah];omega) | (simp only [ah,aB];omega) | (simp only [ah,aI,aK];omega)) (HW.out.base hB) ?_));intro v2 w2 ho hk hs;have KM:=V (HW.out.step ⟨ho,hk,hs⟩);clear ho hk hs;go_wp2_with fail;go_ret;exact⟨_,rfl,by rw [HB.out];exact KM.out⟩
 ·have f1:=dS q
  have HB:Hid (ji k=[126]):=V (by simp [ji,q]);clear q Ku;go_enter func172,ntmps172;go_wp2_with (first | (at_builtin;refine eY w rfl _ _ rfl rfl B b _ rfl HW.out.1 (126:UInt8) _ rfl rfl (by first | omega | (simp only [ah];omega) | (simp only [ah,aB];omega) | (simp only [ah,aI,aK];omega)) (HW.out.base hB) ?_));intro v2 w2 ho hk hs;have KM:=V (HW.out.step ⟨ho,hk,hs⟩);clear ho hk hs;go_wp2_with fail;go_ret;exact⟨_,rfl,by rw [HB.out];exact KM.out⟩
theorem mM (b:Value) (xs:List UInt8) (s:ByteArray) (B:Nat) (w:World) (Ku:dX w B b xs) (hn:xs.length <=900000000) (hs:s.data.toList.length <=1000000) (hB:B <=w.heap.size):
  Calls prog 176 #[b, .string s] w (fo xs (oK s) B b w):=by
 have HW:=V (Wr.refl Ku);obtain⟨n,hn2⟩:∃n,s.data.toList.length=n:=⟨_,rfl⟩;have HN:=V hn2;have hp:=(eF n).2;rw [hn2]at hs;have Lr:s.size=n:=hn2;have HB:Hid (oK s=eP n++s.data.toList):=V (by rw [oK,hn2]);clear Ku hn2;go_enter func176,ntmps176;go_wp2_with fail;refine(fI b _ n (by omega) B _ HW.out.1 (by first | omega | (simp only [ah];omega) | (simp only [ah,aB];omega) | (simp only [ah,aI,aK];omega)) (HW.out.base hB)).mono ?_;rintro e w2 ⟨v2,rfl,ho,hk,hs⟩;have KM:=V (HW.out.step ⟨ho,hk,hs⟩);clear ho hk hs;go_wp2_with (first | (at_builtin;refine Bc w2 rfl _ _ rfl rfl B v2 _ s.data.toList rfl KM.out.1 rfl (by rw [HN.out];simp only [ah];omega) (KM.out.base hB) ?_));intro v3 w3 ho hk hs;have Mp:=V (KM.out.step ⟨ho,hk,hs⟩);clear ho hk hs;go_wp2_with fail;go_ret;exact⟨_,rfl,by rw [HB.out];exact Mp.out⟩
theorem FR (w:World) (op n:Int) (h1:iI op) (h2:iI n):gN w ⟨op,n,0,[]⟩ (.slice none 0 0):=⟨eg.nil w,h1,h2,xN,by simp⟩
theorem Kf:iI 65:=⟨by decide,by decide⟩
theorem Km:iI 66:=⟨by decide,by decide⟩
def rK (w:World):World:={w with heap:=#[]}
theorem tN (w:World) (B:Nat):Src (rK w) w B:=⟨⟨rfl,rfl,rfl,by simp [rK],fun k hk=>by simp [rK]at hk⟩,by simp [rK]⟩
theorem oh (b:Value) (xs:List UInt8) (v:fa) (B:Nat) (w:World) (Ku:dX w B b xs) (hn:xs.length <=800000000) (hB:B <=w.heap.size) (hm:v.may) (ho:v.ok):
  Calls prog 184 #[b, .agg #[.int .i64 v.kind, .int .i64 v.n]] w (fo xs (ma v) B b w):=by
 obtain⟨k,n⟩:=v;have hl:=rO ho;have HW:=V ((Wr.refl Ku).alloc (.cells #[.int .i64 k, .int .i64 n] 42));have c0:(w.alloc (.cells #[.int .i64 k, .int .i64 n] 42)).cell? ⟨w.heap.size,0,none⟩=some (.int .i64 k):=(eG.new w _ _).cell 0;have c1:(w.alloc (.cells #[.int .i64 k, .int .i64 n] 42)).cell? ⟨w.heap.size,1,none⟩=some (.int .i64 n):=(eG.new w _ _).cell 1;have HO:=V ho;have HM:=V hm;clear Ku ho hm;by_cases q:k=2
 ·skip
  have f1:=eH q;have HB:Hid (ma ⟨k,n⟩=ik ⟨66,n,0,[]⟩++[11]):=V (by simp [ma,q]);rw [HB.out]at hl;simp only [ah,aB]at hl;clear q;go_enter func184,ntmps184;go_wp2_with fail;refine(n5 (rK w) b xs ⟨66,n,0,[]⟩ (.slice none 0 0) B _ HW.out.1 (by omega) (HW.out.base hB) (FR _ _ _ Km HO.out.2) ((tN w B).alloc _) (Ik n)).mono ?_;rintro e w2 ⟨v2,rfl,ho,hk,hs⟩;have KM:=V (HW.out.step ⟨ho,hk,hs⟩);clear ho hk hs;go_wp2_with (first | (at_builtin;refine eY w2 rfl _ _ rfl rfl B v2 _ rfl KM.out.1 (11:UInt8) _ rfl rfl (by first | omega | (simp only [ah];omega) | (simp only [ah,aB];omega) | (simp only [ah,aI,aK];omega)) (KM.out.base hB) ?_));intro v3 w3 ho hk hs;have Mp:=V (KM.out.step ⟨ho,hk,hs⟩);clear ho hk hs;go_wp2_with fail;go_ret;exact⟨_,rfl,by rw [HB.out];exact Mp.out⟩
 ·have hM:eK.may ⟨65,n,0,[]⟩:=by
   rcases HM.out with h | ⟨_,h1,h2⟩
   ·exact absurd h q
   ·exact Im h1 h2
  have Lv:=V hM;clear hM;have f1:=dS q;have HB:Hid (ma ⟨k,n⟩=ik ⟨65,n,0,[]⟩++[11]):=V (by simp [ma,q]);rw [HB.out]at hl;simp only [ah,aB]at hl;clear q;go_enter func184,ntmps184;go_wp2_with fail;refine(n5 (rK w) b xs ⟨65,n,0,[]⟩ (.slice none 0 0) B _ HW.out.1 (by omega) (HW.out.base hB) (FR _ _ _ Kf HO.out.2) ((tN w B).alloc _) Lv.out).mono ?_;rintro e w2 ⟨v2,rfl,ho,hk,hs⟩;have KM:=V (HW.out.step ⟨ho,hk,hs⟩);clear ho hk hs;go_wp2_with (first | (at_builtin;refine eY w2 rfl _ _ rfl rfl B v2 _ rfl KM.out.1 (11:UInt8) _ rfl rfl (by first | omega | (simp only [ah];omega) | (simp only [ah,aB];omega) | (simp only [ah,aI,aK];omega)) (KM.out.base hB) ?_));intro v3 w3 ho hk hs;have Mp:=V (KM.out.step ⟨ho,hk,hs⟩);clear ho hk hs;go_wp2_with fail;go_ret;exact⟨_,rfl,by rw [HB.out];exact Mp.out⟩
theorem vX (b:Value) (xs:List UInt8) (n:Int) (B:Nat) (w:World) (Ku:dX w B b xs) (hn:xs.length <=700000000) (hB:B <=w.heap.size) (hm:mb n):
  Calls prog 189 #[b, .int .i64 n] w (fo xs (nw n) B b w):=by
 have HW:=V (Wr.refl Ku);have HM:=V hm;obtain⟨m1,m2⟩:=id hm;clear Ku hm;go_enter func189,ntmps189;go_wp2_with (first | (at_builtin;refine eY w rfl _ _ rfl rfl B b _ rfl HW.out.1 (0:UInt8) _ rfl rfl (by first | omega | (simp only [ah];omega) | (simp only [ah,aB];omega) | (simp only [ah,aI,aK];omega)) (HW.out.base hB) ?_));intro v2 w2 ho hk hs;have KM:=V (HW.out.step ⟨ho,hk,hs⟩);clear ho hk hs;go_wp2_with fail;refine(oh v2 _ ⟨1,n⟩ B w2 KM.out.1 (by simp only [ah,aB];omega) (KM.out.base hB) (.inr ⟨rfl,m1,m2⟩) ⟨⟨by show(-9223372036854775808:Int) <=1;decide,by show(1:Int) <=9223372036854775807;decide⟩,by show(-9223372036854775808:Int) <=n;omega,by show n <=(9223372036854775807:Int);omega⟩).mono ?_;rintro e w3 ⟨v3,rfl,ho,hk,hs⟩;have Mp:=V (KM.out.step ⟨ho,hk,hs⟩);clear ho hk hs;go_wp2_with fail;go_ret;exact⟨_,rfl,by rw [nw,List.append_cons];exact Mp.out⟩
theorem pL (b:Value) (xs:List UInt8) (x:fP) (B:Nat) (w:World) (Ku:dX w B b xs) (hn:xs.length <=700000000) (hB:B <=w.heap.size) (h0:0 <=x.min) (hm: -1 <=x.max) (ho:x.ok):
  Calls prog 181 #[b, .agg #[.bool x.has, .int .i64 x.min, .int .i64 x.max]] w (fo xs (gE x) B b w):=by
 obtain⟨o1,o2⟩:=ho;obtain⟨has,mn,mx⟩:=x;simp only at h0 hm o1 o2;unfold iI at o1 o2;obtain⟨n,rfl⟩:∃n:Nat,mn=n:=⟨mn.toNat,by omega⟩;have hp:=(eF n).2;by_cases q:mx < 0
 ·have f1:decide (mx < 0)=true:=aA q
  have HB:Hid (gE ⟨has,n,mx⟩=0::eP n):=V (by simp only [gE];rw [aJ q];rfl);clear q;have HW:=V ((Wr.refl Ku).alloc (.cells #[.bool has, .int .i64 n, .int .i64 mx] 55));have HA:=V (Aside.new Ku #[.bool has, .int .i64 n, .int .i64 mx] 55);clear Ku;have c2:(w.alloc (.cells #[.bool has, .int .i64 n, .int .i64 mx] 55)).cell? ⟨w.heap.size,2,none⟩=some (.int .i64 mx):=HA.out.cell 2;go_enter func181,ntmps181;go_wp2_with fail;refine ef (fun w'=>w'.cell? ⟨w.heap.size,1,none⟩=some (.int .i64 n)) [(0,true),(3,true),(4,true),(1,false),(2,false),(5,false),(6,true)] (by kernel_rfl) (by kernel_rfl) (HA.out.cell 1) ?_;clear c2;have HW:=V HW.out.drew;have HA:=V HA.out.drew;obtain⟨X,hX⟩:∃X,X=w.heap.size:=⟨_,rfl⟩;rw [<- hX]at HA⊢;clear hX;generalize(w.alloc (.cells #[.bool has, .int .i64 n, .int .i64 mx] 55)).drew=wa at HW HA⊢;iterate 3 (first | (apply sk rfl rfl;simp only [pt]) | (apply dV rfl rfl rfl;·(rintro w' t1;go_wp2;exact⟨rfl,rfl,rfl⟩)))
  refine ed rfl rfl ?_;go_wp2_with fail;refine⟨(HA.out.alloc _).cell 1,?_⟩;refine ed rfl rfl ?_;go_wp2_with (first | (at_builtin;refine eY wa rfl _ _ rfl rfl B b _ rfl HW.out.1 (0:UInt8) _ rfl rfl (by first | omega | (simp only [ah];omega) | (simp only [ah,aB];omega) | (simp only [ah,aI,aK];omega)) (HW.out.base hB) ?_));intro v1 w1 ho hk hs;have HA:=V (HA.out.next ⟨ho,hk,hs⟩);have HW:=V (HW.out.step ⟨ho,hk,hs⟩);clear ho hk hs;go_wp2_with fail;refine⟨HA.out.cell 1,?_⟩;refine ed rfl rfl ?_;go_wp2_with fail;refine(fI v1 _ n (by omega) B w1 HW.out.1 (by simp only [ah,aI,aK];omega) (HW.out.base hB)).mono ?_;rintro e w2 ⟨v2,rfl,ho,hk,hs⟩;have HA:=V (HA.out.next ⟨ho,hk,hs⟩);have HW:=V (HW.out.step ⟨ho,hk,hs⟩);clear ho hk hs;go_wp2_with fail;refine⟨HA.out.cell 1,?_⟩;iterate 1 (first | (apply sk rfl rfl;simp only [pt]) | (apply dV rfl rfl rfl;·(rintro w' t1;go_wp2;exact⟨rfl,rfl,rfl⟩)))
  refine eL ?_;refine aD ?_;go_wp2_with fail;go_ret;exact⟨_,rfl,by rw [HB.out];have h:=HW.out;simp only [aP,bI,bL]at h;exact h⟩
 ·have f1:decide (mx < 0)=false:=az q
  obtain⟨m,rfl⟩:∃m:Nat,mx=m:=⟨mx.toNat,by omega⟩;have Pt:=(eF m).2;have HB:Hid (gE ⟨has,n,m⟩=1::(eP n++eP m)):=V (by simp only [gE];rw [aC q];rfl);clear q;have HW:=V ((Wr.refl Ku).alloc (.cells #[.bool has, .int .i64 n, .int .i64 m] 55));have HA:=V (Aside.new Ku #[.bool has, .int .i64 n, .int .i64 m] 55);clear Ku;have c2:(w.alloc (.cells #[.bool has, .int .i64 n, .int .i64 m] 55)).cell? ⟨w.heap.size,2,none⟩=some (.int .i64 m):=HA.out.cell 2;go_enter func181,ntmps181;go_wp2_with fail;refine ef (fun w'=>w'.cell? ⟨w.heap.size,1,none⟩=some (.int .i64 n)/\w'.cell? ⟨w.heap.size,2,none⟩=some (.int .i64 m)) [(0,true),(3,true),(4,true),(6,true),(7,true),(1,false),(2,false),(5,false),(8,false),(9,true)] (by kernel_rfl) (by kernel_rfl) ⟨HA.out.cell 1,HA.out.cell 2⟩ ?_;clear c2;have HW:=V HW.out.drew;have HA:=V HA.out.drew;obtain⟨X,hX⟩:∃X,X=w.heap.size:=⟨_,rfl⟩;rw [<- hX]at HA⊢;clear hX;generalize(w.alloc (.cells #[.bool has, .int .i64 n, .int .i64 m] 55)).drew=wa at HW HA⊢;iterate 5 (first | (apply sk rfl rfl;simp only [pt]) | (apply dV rfl rfl rfl;·(rintro w' ⟨t1,t2⟩;go_wp2;exact⟨rfl,rfl,rfl⟩)))
  refine ed rfl rfl ?_;go_wp2_with fail;refine⟨⟨(HA.out.alloc _).cell 1,(HA.out.alloc _).cell 2⟩,?_⟩;refine ed rfl rfl ?_;go_wp2_with (first | (at_builtin;refine eY wa rfl _ _ rfl rfl B b _ rfl HW.out.1 (1:UInt8) _ rfl rfl (by first | omega | (simp only [ah];omega) | (simp only [ah,aB];omega) | (simp only [ah,aI,aK];omega)) (HW.out.base hB) ?_));intro v1 w1 ho hk hs;have HA:=V (HA.out.next ⟨ho,hk,hs⟩);have HW:=V (HW.out.step ⟨ho,hk,hs⟩);clear ho hk hs;go_wp2_with fail;refine⟨⟨HA.out.cell 1,HA.out.cell 2⟩,?_⟩;refine ed rfl rfl ?_;go_wp2_with fail;refine(fI v1 _ n (by omega) B w1 HW.out.1 (by simp only [ah,aI,aK];omega) (HW.out.base hB)).mono ?_;rintro e w2 ⟨v2,rfl,ho,hk,hs⟩;have HA:=V (HA.out.next ⟨ho,hk,hs⟩);have HW:=V (HW.out.step ⟨ho,hk,hs⟩);clear ho hk hs;go_wp2_with fail;refine⟨⟨HA.out.cell 1,HA.out.cell 2⟩,?_⟩;refine ed rfl rfl ?_;go_wp2_with fail;refine(fI v2 _ m (by omega) B w2 HW.out.1 (by simp only [ah,aI,aK];omega) (HW.out.base hB)).mono ?_;rintro e w3 ⟨v3,rfl,ho,hk,hs⟩;have HA:=V (HA.out.next ⟨ho,hk,hs⟩);have HW:=V (HW.out.step ⟨ho,hk,hs⟩);clear ho hk hs;go_wp2_with fail;refine⟨⟨HA.out.cell 1,HA.out.cell 2⟩,?_⟩;iterate 1 (first | (apply sk rfl rfl;simp only [pt]) | (apply dV rfl rfl rfl;·(rintro w' ⟨t1,t2⟩;go_wp2;exact⟨rfl,rfl,rfl⟩)))
  refine eL ?_;refine aD ?_;go_wp2_with fail;go_ret;exact⟨_,rfl,by rw [HB.out];have h:=HW.out;simp only [aP,bI,bL]at h;exact h⟩
theorem BL (x:fP) (w:World):Calls prog 179 #[.agg #[.bool x.has, .int .i64 x.min, .int .i64 x.max]] w (fun e w'=>∃v,e= .returned v/\eg 3 (fun x:fP=>[.bool x.has, .int .i64 x.min, .int .i64 x.max]) w' v (oneOf x)/\Below w.heap.size w w'):=by
 obtain⟨has,mn,mx⟩:=x;cases has with
 | false=>
  go_enter func179,ntmps179;go_wp2_with fail;go_ret;exact⟨_,rfl,eg.nil _,(an _ _).alloc (ag _) _⟩
 | true=>
  go_enter func179,ntmps179;go_wp2_with fail;go_ret;have hx:eG (((w.alloc (.cells #[.bool true, .int .i64 mn, .int .i64 mx] 55)).alloc (.cells #[.bool true, .int .i64 mn, .int .i64 mx] 55))) (w.heap.size+1) #[.bool true, .int .i64 mn, .int .i64 mx] 55:=by have:=eG.new (w.alloc (.cells #[.bool true, .int .i64 mn, .int .i64 mx] 55)) #[.bool true, .int .i64 mn, .int .i64 mx] 55;rw [aE]at this;exact this
  refine⟨_,rfl,⟨some ⟨w.heap.size+1,0,none⟩,1,rfl,ag _,by simp [maxLen],fun i x hi=>⟨w.heap.size+1,0,rfl,hx.lt,fun j u hu=>?_⟩⟩,((an _ _).alloc (ag _) _).alloc (by rw [aE];omega) _⟩;obtain rfl:i=0:=by
   have:=(aN.1 hi).1;simp [oneOf]at this;omega
  simp only [oneOf,cX,aF,aX]at hi;subst hi;rw [Nat.zero_mul,bW];have:=hx.cell j;rw [this];simpa using hu
def Row (w:World) (B:Nat) (b:Value) (xs:List UInt8):Prop:=
 dX w B b xs\/∃g,b= .slice (some ⟨g,0,none⟩) xs.length xs.length/\eJ w b xs/\B <=g/\g < w.heap.size
theorem Row.lt {w:World} {B:Nat} {b:Value} {xs:List UInt8} (h:Row w B b xs) {i:Nat} (hi:eA b i):B <=i/\i < w.heap.size:=by
 rcases h with h | ⟨g,rfl,_,h1,h2⟩
 ·exact et h hi
 ·simp [eA,Value.ownBlock]at hi
  subst hi;exact⟨h1,h2⟩
theorem Row.below {w w':World} {B:Nat} {b:Value} {xs:List UInt8} (h:Row w B b xs) (hb:Below w.heap.size w w'):Row w' B b xs:=by
 rcases h with h | ⟨g,rfl,h0,h1,h2⟩
 ·exact .inl (dX.below h hb)
 ·exact .inr ⟨g,rfl,h0.below hb,h1,by have:=hb.size;omega⟩
theorem Row.fp {w:World} {B:Nat} {b:Value} {xs:List UInt8} (h:Row w B b xs):eJ w b xs:=by
 rcases h with h | ⟨g,_,h0,_⟩
 ·exact dX.fp h
 ·exact h0
def sw (w:World) (b:Value) (B:Nat) (w':World) (v:Value) (L:List UInt8):Prop:=Row w' B v L/\dU (eA b) w w'/\eE w b v
theorem sw.refl {w:World} {b:Value} {B:Nat} {L:List UInt8} (h:Row w B b L):sw w b B w b L:=⟨h,dU.refl _ _,eE.refl _ _⟩
theorem sw.below {w w1 w2:World} {b v:Value} {B:Nat} {L:List UInt8} (h:sw w b B w1 v L) (hb:Below w1.heap.size w1 w2):sw w b B w2 v L:=
 ⟨h.1.below hb,h.2.1.trans (dU.dW (S:=fun _=>False) hb) (fun _ hi=>hi.elim),h.2.2⟩
theorem sw.base {w w1:World} {b v:Value} {B:Nat} {L:List UInt8} (h:sw w b B w1 v L) (hB:B <=w.heap.size):B <=w1.heap.size:=aW hB h.2.1.size
theorem sw.own {w w1 w2:World} {b v1 v2:Value} {B:Nat} {L1 L2:List UInt8} (h:sw w b B w1 v1 L1) (k:dX w2 B v2 L2/\dU (eA v1) w1 w2/\eE w1 v1 v2):Wr w b B w2 v2 L2:=
 ⟨k.1,h.2.1.trans k.2.1 (fun i hi=>h.2.2 i hi),h.2.2.trans k.2.2 h.2.1.size⟩
theorem sw.step {w w1 w2:World} {b v1 v2:Value} {B:Nat} {L1 L2:List UInt8} (h:sw w b B w1 v1 L1) (k:sw w1 v1 B w2 v2 L2):sw w b B w2 v2 L2:=
 ⟨k.1,h.2.1.trans k.2.1 (fun i hi=>h.2.2 i hi),h.2.2.trans k.2.2 h.2.1.size⟩
theorem Wr.row {w w1:World} {b v:Value} {B:Nat} {L:List UInt8} (h:Wr w b B w1 v L):sw w b B w1 v L:=⟨.inl h.1,h.2⟩
def mj (xs ys:List UInt8) (B:Nat) (b:Value) (w:World) (e:Ending) (w':World):Prop:=∃v',e= .returned v'/\sw w b B w' v' (xs++ys)
theorem il {P:Program} (w:World) {ops:Array Oper} {rest:List Oper} {o:Oper} {a:Act} {Q:Exit ->Act ->World ->Prop} (N0:o.guard=none) (s x:Operand)
  (hP:P=prog) (ho:o.op= .call {callee:= .builtin .append,args:=#[s,x],argTypes:=#[97,97]})
  (B:Nat) (v:Value) (l:List UInt8) (hs:a.eval s=v) (Ku:Row w B v l)
  (y:UInt8) (m:Int) (hm:m=y.toNat) (hx:a.eval x= .slice (some ⟨w.heap.size,0,none⟩) 1 1)
  (OI:l.length <=1000000000) (K3:B <=w.heap.size)
  (h:∀v' w',dX w' B v' (l++[y]) ->dU (eA v) w w' ->eE w v v' ->wpList P ops Q rest (a.put o.dst v') w'):wpList P ops Q (o::rest) a (w.alloc (.cells #[.int .u8 m] 5)):=by
 rcases Ku with Ku | ⟨g,rfl,hi,h1,h2⟩
 ·exact eY w N0 s x hP ho B v l hs Ku y m hm hx (by omega) K3 h
 ·subst hP
  subst hm;refine dN N0 fun _ hK=>?_;obtain⟨i0,NC,M5,LR,Mz⟩:=bX od;obtain⟨a0,cap0,he,_,_,hc⟩:=hi;injection he with e1 e2 e3;subst e1;have holds:∀j u,(l.map bv)[j]?=some u ->(w.alloc (.cells #[.int .u8 (y.toNat:Int)] 5)).cell? ((⟨g,0,none⟩:Addr).add j)=some u:=by
   intro j u hj;rw [cQ,bz]at hj;obtain⟨z,hz,rfl⟩:=hj;obtain⟨b,off,hb,hcz⟩:=hc j z hz;injection hb with hb;injection hb with e4 e5;subst e4 e5;have Oq:(⟨g,0,none⟩:Addr).add j=⟨g,j,none⟩:=by unfold Addr.add;split <;>simp_all
   rw [Oq];rw [bW]at hcz;rw [((an w.heap.size w).alloc (ag _) _).cell (by exact h2)];exact hcz
  have On:∀j u,[bv y][j]?=some u ->(w.alloc (.cells #[.int .u8 (y.toNat:Int)] 5)).cell? ((⟨w.heap.size,0,none⟩:Addr).add j)=some u:=by
   intro j u hu;have Oq:(⟨w.heap.size,0,none⟩:Addr).add j=⟨w.heap.size,j,none⟩:=by unfold Addr.add;split <;>simp_all
   rw [Oq,bQ];simpa using hu
  have hr:=run_append_grow (P:=prog) (w.alloc (.cells #[.int .u8 (y.toNat:Int)] 5)) 97 o.type 5 i0 (.int .u8 0) (by kernel_rfl) NC M5 ⟨g,0,none⟩ l.length l.length (l.map bv) (by rw [bN,LR,bo]) holds
   ⟨w.heap.size,0,none⟩ 1 1 [bv y] (by rw [LR];rfl) On (by omega) (by omega) (growslice_fits (by omega) (by rw [Mz];omega))
  unfold Oper.wp execOp;simp only [ho,resolve,invoke,builtin,cK,cd,cz,du,bA,cS,hs,hx,hr];have hge:=grownCap_ge (w.alloc (.cells #[.int .u8 (y.toNat:Int)] 5)) (l.length+1) l.length 5;have My:=dM (w.alloc (.cells #[.int .u8 (y.toNat:Int)] 5)) (l.length+1) l.length 5 (by simp only [maxLen];omega);refine hK _ _ (h _ _ ?_ ?_ ?_)
  ·refine⟨by simp, .inr ⟨_,_,_,by rw [ah];rfl,by simp;omega,dt _ _,by rw [ah];exact hge,My,?_,?_⟩⟩
   ·have hz:(Value.int IntKind.u8 0).cells.size=1:=rfl
    simp only [Array.size_append,dA,size_zeroCells,hz,bN,aB];omega
   ·have hl:(l.map bv++[bv y]).length=(l++[y]).length*1:=by simp
    simp only [Array.toList_append,cn,bA,cS];rw [<- hl];exact cO
  ·exact(((dU.refl _ _).alloc _).drew).alloc _
  ·intro k hk
   simp [eA,Value.ownBlock]at hk;exact .inr (by omega)
theorem Dd (w:World) (s:ByteArray):(convert 9 97 (.string s)).run prog w= .ok (.slice (some ⟨w.heap.size,0,none⟩) s.size (grownCap w s.size 0 5)) (Lib.bytesWorld w 5 s):=
 Lib.run_convert_string_bytes (u:= .string) w _ _ _ s (by kernel_rfl) (by kernel_rfl) (by kernel_rfl)
theorem tc (w:World) (s:ByteArray):Below w.heap.size w (Lib.bytesWorld w 5 s):=⟨rfl,rfl,rfl,by rw [Lib.bytesWorld_size];omega,fun k hk=>Lib.bytesWorld_at_old w _ s k hk⟩
theorem GI (w:World) (s:ByteArray) (h:s.size <=1000000000000):eJ (Lib.bytesWorld w 5 s) (.slice (some ⟨w.heap.size,0,none⟩) s.size (grownCap w s.size 0 5)) s.data.toList:=by
 have Lr:s.data.toList.length=s.size:=rfl;refine⟨_,_,by rw [Lr],by rw [Lr];exact grownCap_ge _ _ _ _,dM _ _ _ _ (by simp only [maxLen];omega),fun i x hx=>⟨_,0,rfl,?_⟩⟩;have hi:i < s.size:=by rw [<- Lr];exact(aN.1 hx).1
 rw [bW,Lib.bytesWorld_cell w _ s i hi,List.getD_eq_getElem?_getD,hx];rfl
def vn {α:Type} (w0:World) (put:α ->List UInt8) (xs:List UInt8) (l:List α) (B:Nat) (b:Value) (w w':World) (v:Value) (k:Nat):Prop:=
 k <=l.length/\Wr w b B w' v (xs++(eP l.length++((l.take k).map put).flatten))/\Src w0 w' B
theorem jx {α:Type} (put:α ->List UInt8) (l:List α) (k:Nat):(((l.take k).map put).flatten).length <=((l.map put).flatten).length:=by
 conv=>rhs;rw [<- cB k l]
 simp only [cn,List.flatten_append,ah];omega
def xJ (x:fP):List Value:=[.bool x.has, .int .i64 x.min, .int .i64 x.max]
theorem oy (w0:World) (put:Int ->List UInt8) (C:Nat) (b:Value) (xs:List UInt8) (v:Value) (l:List Int) (B:Nat) (w:World) (Kv:Nat)
  (hE:∀args w,(callFunc Kv args).run prog w= .ok (.enter Kv args) w) (hl:eg 1 fb w0 v l) (Ku:dX w B b xs) (hB:B <=w.heap.size) (h0:Src w0 w B)
  (hC:xs.length+(eU put l).length <=C) (MA:C <=900000000)
  (hp:∀e∈l,∀b xs w,dX w B b xs ->xs.length <=C ->B <=w.heap.size ->Src w0 w B ->Calls prog Kv #[b, .int .i64 e] w (fo xs (put e) B b w)):
  Calls prog 171 #[b,v, .func (.func Kv) #[] #[]] w (fo xs (eU put l) B b w):=by
 have HP:=V hp;have HL:=V hl;have H0:=V h0;have HC:=V hC;have HW:=V (Wr.refl Ku);have Qe:xs.length <=900000000:=by omega
 obtain⟨a,cap,rfl,Mj,Lj⟩:=eW hl;clear hp hl h0 hC Ku MA;go_enter func171,ntmps171;go_wp2_with fail;refine(fI b xs l.length (by omega) B w HW.out.1 (by omega) hB).mono ?_;rintro e w2 ⟨v2,rfl,ho,hk,hs⟩;have KM:=V (HW.out.step ⟨ho,hk,hs⟩);have K4:=V (H0.out.next HW.out.1 ⟨ho,hk,hs⟩);clear ho hk hs;go_wp2_with fail;refine eB (fun a' w'=>∃(vb:Value) (k:Nat),a'=fr (vb::gs a' 1 1 (.func (.func Kv) #[] #[]::gs a' 3 10 (.slice a l.length cap:: .int .i64 l.length:: .int .i64 k::gs a' 16 9 [])))/\vn w0 put xs l B b w w' vb k) (fun a' _=>(l.length - (intOf (a'.tmps.getD 15 undef)).toNat)) ?_ ?_
 ·exact⟨_,0,rfl,by omega,by simpa using KM.out,K4.out⟩
 ·skip
  clear HW KM K4 H0 v2;rintro R a' w1 ⟨vb,k,Kw,hJ⟩ HR;dsimp only [fr,gs]at Kw;generalize slot a'=f at Kw;subst Kw;obtain⟨hk,Ni,M9⟩:=hJ;have HW:=V Ni;have HS:=V M9;have Pk:=V (show(xs++(eP l.length++((l.take k).map put).flatten)).length <=C by
   have h1:=HC.out;have h2:=jx put l k;simp only [eU,ah]at*;omega)
  clear Ni M9;by_cases q:k < l.length;rotate_left
  ·obtain rfl:k=l.length:=by omega
   have HW:=V (show Wr w b B w1 vb (xs++eU put l)by have:=HW.out;rwa [aU]at this);go_wp2_with fail;go_ret;exact⟨_,rfl,HW.out⟩
  obtain⟨x,hx⟩:∃x,l[k]?=some x:=⟨_,aq q⟩;obtain⟨a',KR,hv,_,_,Kt⟩:=HL.out;injection hv with e1 e2 e3;subst e1 e3;obtain⟨bb,off,rfl,KC,L4⟩:=Kt k x hx;clear Kt e2;have c0:=(HS.out.1.cell KC).trans (L4 0 _ rfl);rw [aL,bo]at c0;have HX:=V hx;clear L4 hx;go_wp2_with fail;have Lo:=HW;have MJ:=HS;refine(HP.out x (aO HX.out) _ _ _ Lo.out.1 Pk.out (Lo.out.base hB) MJ.out).mono ?_;rintro e w2 ⟨v2,rfl,KQ,KB,KG⟩;have KM:=V (Lo.out.step ⟨KQ,KB,KG⟩);have K4:=V (MJ.out.next Lo.out.1 ⟨KQ,KB,KG⟩);clear KQ KB KG c0;go_wp2_with fail;refine HR.out _ _ ⟨_,k+1,rfl,by omega,?_,K4.out⟩ ?_
  ·have:=KM.out
   rw [aQ,HX.out];simpa using this
  ·simp [intOf]
   omega
theorem Ak (w0:World) (put:Int ->List UInt8) (no:Nat) (NW:no < 256) (b:Value) (xs:List UInt8) (v:Value) (l:List Int) (B:Nat) (w:World) (Kv:Nat)
  (hE:∀args w,(callFunc Kv args).run prog w= .ok (.enter Kv args) w) (hl:eg 1 fb w0 v l) (Ku:Row w B b xs) (hB:B <=w.heap.size) (h0:Below w0.heap.size w0 w)
  (hC:xs.length+(eU put l).length <=100000000)
  (hp:∀e∈l,∀b xs w B,dX w B b xs ->xs.length <=100000000 ->B <=w.heap.size ->Src w0 w B ->Calls prog Kv #[b, .int .i64 e] w (fo xs (put e) B b w)):
  Calls prog 177 #[b, .int .i64 no,v, .func (.func Kv) #[] #[]] w (mj xs (fE (b8 no) put l) B b w):=by
 have HP:=V hp;have HL:=V hl;have H0:=V h0;have HW:=V (sw.refl Ku);obtain⟨a,cap,rfl,Mj,Lj⟩:=eW hl;clear hp hl h0 Ku;by_cases q:l.length=0
 ·have f1:=eH (show(l.length:Int)=0 by omega)
  have HN:=V (show l=[]from aH q);clear q;go_enter func177,ntmps177;go_wp2_with fail;go_ret;exact⟨_,rfl,by rw [HN.out];simpa [fE] using HW.out⟩
 ·have f1:=dS (show ¬ (l.length:Int)=0 by omega)
  have HN:Hid (fE (b8 no) put l=b8 no::(eP (eU put l).length++eU put l)):=V (by
   cases l with
   | nil=>exact absurd rfl q
   | cons x l=>rfl)
  clear q;go_enter func177,ntmps177;go_wp2_with fail;refine(oy w0 put 100000000 (.slice none 0 0) [] _ l w.heap.size w Kv hE HL.out (dX.nil _ _) (ag _) ⟨H0.out,H0.out.size⟩ (by simp only [aK];omega) (by decide) (fun e he b xs w ho hx hB h0=>HP.out e he b xs w _ ho hx hB h0)).mono ?_;rintro e w2 ⟨v2,rfl,ho,hk,hs⟩;rw [bL]at ho;have Kx:=jy hk rfl;have HO:=V ho;have KM:=V (HW.out.below Kx);obtain⟨a2,KA,PL,-,-,-⟩:=ho.fp;subst PL;have L5:∀i,eA (.slice a2 (eU put l).length KA) i ->¬ eA b i:=fun i h1 h2=>by
   have:=(et HO.out h1).1;have:=(HW.out.1.lt h2).2;omega
  have HD:=V L5;clear ho hk hs hE L5;go_wp2_with (first | (at_builtin;refine il w2 rfl _ _ rfl rfl B b _ rfl KM.out.1 (b8 no) _ ?_ ?_ ?_ ?_ ?_))
  ·rw [fM NW]
  ·rfl
  ·omega
  ·exact KM.out.base hB
  intro v3 w3 ho hk hs;have Mp:=V (KM.out.own ⟨ho,hk,hs⟩);have MW:=V (HO.out.keeps hk HD.out);have PM:=V (show∀i,eA (.slice a2 (eU put l).length KA) i ->¬ eA v3 i from fun i h1 h2=>(hs i h2).elim (HD.out i h1) (fun g=>by have:=(et HO.out h1).2;omega));clear ho hk hs;go_wp2_with fail;refine(fI v3 _ (eU put l).length (by omega) B w3 Mp.out.1 (by simp only [ah,aB];omega) (Mp.out.base hB)).mono ?_;rintro e w4 ⟨v4,rfl,ho,hk,hs⟩;have LA:=V (Mp.out.step ⟨ho,hk,hs⟩);have MB:=V (MW.out.keeps hk PM.out);have hp4:=(eF (eU put l).length).2;clear ho hk hs;go_wp2_with (first | (at_builtin;refine fO w4 rfl _ _ rfl rfl B v4 _ rfl LA.out.1 _ _ rfl MB.out.fp (by simp only [ah,aB];omega) (LA.out.base hB) ?_));intro v5 w5 ho hk hs;have N6:=V (LA.out.step ⟨ho,hk,hs⟩);clear ho hk hs;go_wp2_with fail;go_ret;exact⟨_,rfl,by rw [HN.out];exact N6.out.row⟩
theorem E8 (w0:World) (put:jh ->List UInt8) (C:Nat) (b:Value) (xs:List UInt8) (v:Value) (l:List jh) (B:Nat) (w:World) (Kv:Nat)
  (hE:∀args w,(callFunc Kv args).run prog w= .ok (.enter Kv args) w) (hl:eg 3 sF w0 v l) (Ku:dX w B b xs) (hB:B <=w.heap.size) (h0:Src w0 w B)
  (hC:xs.length+(eU put l).length <=C) (MA:C <=900000000)
  (hp:∀e∈l,∀b xs w,dX w B b xs ->xs.length <=C ->B <=w.heap.size ->Src w0 w B ->Calls prog Kv #[b, .agg #[.string e.mod, .string e.name, .int .i64 e.type]] w (fo xs (put e) B b w)):
  Calls prog 257 #[b,v, .func (.func Kv) #[] #[]] w (fo xs (eU put l) B b w):=by
 have HP:=V hp;have HL:=V hl;have H0:=V h0;have HC:=V hC;have HW:=V (Wr.refl Ku);have Qe:xs.length <=900000000:=by omega
 obtain⟨a,cap,rfl,Mj,Lj⟩:=eW hl;clear hp hl h0 hC Ku MA;go_enter func257,ntmps257;go_wp2_with fail;refine(fI b xs l.length (by omega) B w HW.out.1 (by omega) hB).mono ?_;rintro e w2 ⟨v2,rfl,ho,hk,hs⟩;have KM:=V (HW.out.step ⟨ho,hk,hs⟩);have K4:=V (H0.out.next HW.out.1 ⟨ho,hk,hs⟩);clear ho hk hs;go_wp2_with fail;refine eB (fun a' w'=>∃(vb:Value) (k:Nat),a'=fr (vb::gs a' 1 1 (.func (.func Kv) #[] #[]::gs a' 3 10 (.slice a l.length cap:: .int .i64 l.length:: .int .i64 k::gs a' 16 9 [])))/\vn w0 put xs l B b w w' vb k) (fun a' _=>(l.length - (intOf (a'.tmps.getD 15 undef)).toNat)) ?_ ?_
 ·exact⟨_,0,rfl,by omega,by simpa using KM.out,K4.out⟩
 ·skip
  clear HW KM K4 H0 v2;rintro R a' w1 ⟨vb,k,Kw,hJ⟩ HR;dsimp only [fr,gs]at Kw;generalize slot a'=f at Kw;subst Kw;obtain⟨hk,Ni,M9⟩:=hJ;have HW:=V Ni;have HS:=V M9;have Pk:=V (show(xs++(eP l.length++((l.take k).map put).flatten)).length <=C by
   have h1:=HC.out;have h2:=jx put l k;simp only [eU,ah]at*;omega)
  clear Ni M9;by_cases q:k < l.length;rotate_left
  ·obtain rfl:k=l.length:=by omega
   have HW:=V (show Wr w b B w1 vb (xs++eU put l)by have:=HW.out;rwa [aU]at this);go_wp2_with fail;go_ret;exact⟨_,rfl,HW.out⟩
  obtain⟨x,hx⟩:∃x,l[k]?=some x:=⟨_,aq q⟩;obtain⟨a',KR,hv,_,_,Kt⟩:=HL.out;injection hv with e1 e2 e3;subst e1 e3;obtain⟨bb,off,rfl,KC,L4⟩:=Kt k x hx;clear Kt e2;have c0:=(HS.out.1.cell KC).trans (L4 0 _ rfl);have c1:=(HS.out.1.cell KC).trans (L4 1 _ rfl);have c2:=(HS.out.1.cell KC).trans (L4 2 _ rfl);rw [aL]at c0;have HX:=V hx;clear L4 hx;go_wp2_with fail;have Lo:=V (HW.out.alloc (.cells #[.string x.mod, .string x.name, .int .i64 x.type] 118));have MJ:=V (HS.out.alloc (.cells #[.string x.mod, .string x.name, .int .i64 x.type] 118));refine(HP.out x (aO HX.out) _ _ _ Lo.out.1 Pk.out (Lo.out.base hB) MJ.out).mono ?_;rintro e w2 ⟨v2,rfl,KQ,KB,KG⟩;have KM:=V (Lo.out.step ⟨KQ,KB,KG⟩);have K4:=V (MJ.out.next Lo.out.1 ⟨KQ,KB,KG⟩);clear KQ KB KG c0 c1 c2;go_wp2_with fail;refine HR.out _ _ ⟨_,k+1,rfl,by omega,?_,K4.out⟩ ?_
  ·have:=KM.out
   rw [aQ,HX.out];simpa using this
  ·simp [intOf]
   omega
theorem Dx (w0:World) (put:jh ->List UInt8) (no:Nat) (NW:no < 256) (b:Value) (xs:List UInt8) (v:Value) (l:List jh) (B:Nat) (w:World) (Kv:Nat)
  (hE:∀args w,(callFunc Kv args).run prog w= .ok (.enter Kv args) w) (hl:eg 3 sF w0 v l) (Ku:Row w B b xs) (hB:B <=w.heap.size) (h0:Below w0.heap.size w0 w)
  (hC:xs.length+(eU put l).length <=100000000)
  (hp:∀e∈l,∀b xs w B,dX w B b xs ->xs.length <=100000000 ->B <=w.heap.size ->Src w0 w B ->Calls prog Kv #[b, .agg #[.string e.mod, .string e.name, .int .i64 e.type]] w (fo xs (put e) B b w)):
  Calls prog 173 #[b, .int .i64 no,v, .func (.func Kv) #[] #[]] w (mj xs (fE (b8 no) put l) B b w):=by
 have HP:=V hp;have HL:=V hl;have H0:=V h0;have HW:=V (sw.refl Ku);obtain⟨a,cap,rfl,Mj,Lj⟩:=eW hl;clear hp hl h0 Ku;by_cases q:l.length=0
 ·have f1:=eH (show(l.length:Int)=0 by omega)
  have HN:=V (show l=[]from aH q);clear q;go_enter func173,ntmps173;go_wp2_with fail;go_ret;exact⟨_,rfl,by rw [HN.out];simpa [fE] using HW.out⟩
 ·have f1:=dS (show ¬ (l.length:Int)=0 by omega)
  have HN:Hid (fE (b8 no) put l=b8 no::(eP (eU put l).length++eU put l)):=V (by
   cases l with
   | nil=>exact absurd rfl q
   | cons x l=>rfl)
  clear q;go_enter func173,ntmps173;go_wp2_with fail;refine(E8 w0 put 100000000 (.slice none 0 0) [] _ l w.heap.size w Kv hE HL.out (dX.nil _ _) (ag _) ⟨H0.out,H0.out.size⟩ (by simp only [aK];omega) (by decide) (fun e he b xs w ho hx hB h0=>HP.out e he b xs w _ ho hx hB h0)).mono ?_;rintro e w2 ⟨v2,rfl,ho,hk,hs⟩;rw [bL]at ho;have Kx:=jy hk rfl;have HO:=V ho;have KM:=V (HW.out.below Kx);obtain⟨a2,KA,PL,-,-,-⟩:=ho.fp;subst PL;have L5:∀i,eA (.slice a2 (eU put l).length KA) i ->¬ eA b i:=fun i h1 h2=>by
   have:=(et HO.out h1).1;have:=(HW.out.1.lt h2).2;omega
  have HD:=V L5;clear ho hk hs hE L5;go_wp2_with (first | (at_builtin;refine il w2 rfl _ _ rfl rfl B b _ rfl KM.out.1 (b8 no) _ ?_ ?_ ?_ ?_ ?_))
  ·rw [fM NW]
  ·rfl
  ·omega
  ·exact KM.out.base hB
  intro v3 w3 ho hk hs;have Mp:=V (KM.out.own ⟨ho,hk,hs⟩);have MW:=V (HO.out.keeps hk HD.out);have PM:=V (show∀i,eA (.slice a2 (eU put l).length KA) i ->¬ eA v3 i from fun i h1 h2=>(hs i h2).elim (HD.out i h1) (fun g=>by have:=(et HO.out h1).2;omega));clear ho hk hs;go_wp2_with fail;refine(fI v3 _ (eU put l).length (by omega) B w3 Mp.out.1 (by simp only [ah,aB];omega) (Mp.out.base hB)).mono ?_;rintro e w4 ⟨v4,rfl,ho,hk,hs⟩;have LA:=V (Mp.out.step ⟨ho,hk,hs⟩);have MB:=V (MW.out.keeps hk PM.out);have hp4:=(eF (eU put l).length).2;clear ho hk hs;go_wp2_with (first | (at_builtin;refine fO w4 rfl _ _ rfl rfl B v4 _ rfl LA.out.1 _ _ rfl MB.out.fp (by simp only [ah,aB];omega) (LA.out.base hB) ?_));intro v5 w5 ho hk hs;have N6:=V (LA.out.step ⟨ho,hk,hs⟩);clear ho hk hs;go_wp2_with fail;go_ret;exact⟨_,rfl,by rw [HN.out];exact N6.out.row⟩
theorem E9 (w0:World) (put:fP ->List UInt8) (C:Nat) (b:Value) (xs:List UInt8) (v:Value) (l:List fP) (B:Nat) (w:World) (Kv:Nat)
  (hE:∀args w,(callFunc Kv args).run prog w= .ok (.enter Kv args) w) (hl:eg 3 xJ w0 v l) (Ku:dX w B b xs) (hB:B <=w.heap.size) (h0:Src w0 w B)
  (hC:xs.length+(eU put l).length <=C) (MA:C <=900000000)
  (hp:∀e∈l,∀b xs w,dX w B b xs ->xs.length <=C ->B <=w.heap.size ->Src w0 w B ->Calls prog Kv #[b, .agg #[.bool e.has, .int .i64 e.min, .int .i64 e.max]] w (fo xs (put e) B b w)):
  Calls prog 258 #[b,v, .func (.func Kv) #[] #[]] w (fo xs (eU put l) B b w):=by
 have HP:=V hp;have HL:=V hl;have H0:=V h0;have HC:=V hC;have HW:=V (Wr.refl Ku);have Qe:xs.length <=900000000:=by omega
 obtain⟨a,cap,rfl,Mj,Lj⟩:=eW hl;clear hp hl h0 hC Ku MA;go_enter func258,ntmps258;go_wp2_with fail;refine(fI b xs l.length (by omega) B w HW.out.1 (by omega) hB).mono ?_;rintro e w2 ⟨v2,rfl,ho,hk,hs⟩;have KM:=V (HW.out.step ⟨ho,hk,hs⟩);have K4:=V (H0.out.next HW.out.1 ⟨ho,hk,hs⟩);clear ho hk hs;go_wp2_with fail;refine eB (fun a' w'=>∃(vb:Value) (k:Nat),a'=fr (vb::gs a' 1 1 (.func (.func Kv) #[] #[]::gs a' 3 10 (.slice a l.length cap:: .int .i64 l.length:: .int .i64 k::gs a' 16 9 [])))/\vn w0 put xs l B b w w' vb k) (fun a' _=>(l.length - (intOf (a'.tmps.getD 15 undef)).toNat)) ?_ ?_
 ·exact⟨_,0,rfl,by omega,by simpa using KM.out,K4.out⟩
 ·skip
  clear HW KM K4 H0 v2;rintro R a' w1 ⟨vb,k,Kw,hJ⟩ HR;dsimp only [fr,gs]at Kw;generalize slot a'=f at Kw;subst Kw;obtain⟨hk,Ni,M9⟩:=hJ;have HW:=V Ni;have HS:=V M9;have Pk:=V (show(xs++(eP l.length++((l.take k).map put).flatten)).length <=C by
   have h1:=HC.out;have h2:=jx put l k;simp only [eU,ah]at*;omega)
  clear Ni M9;by_cases q:k < l.length;rotate_left
  ·obtain rfl:k=l.length:=by omega
   have HW:=V (show Wr w b B w1 vb (xs++eU put l)by have:=HW.out;rwa [aU]at this);go_wp2_with fail;go_ret;exact⟨_,rfl,HW.out⟩
  obtain⟨x,hx⟩:∃x,l[k]?=some x:=⟨_,aq q⟩;obtain⟨a',KR,hv,_,_,Kt⟩:=HL.out;injection hv with e1 e2 e3;subst e1 e3;obtain⟨bb,off,rfl,KC,L4⟩:=Kt k x hx;clear Kt e2;have c0:=(HS.out.1.cell KC).trans (L4 0 _ rfl);have c1:=(HS.out.1.cell KC).trans (L4 1 _ rfl);have c2:=(HS.out.1.cell KC).trans (L4 2 _ rfl);rw [aL]at c0;have HX:=V hx;clear L4 hx;go_wp2_with fail;have Lo:=V (HW.out.alloc (.cells #[.bool x.has, .int .i64 x.min, .int .i64 x.max] 55));have MJ:=V (HS.out.alloc (.cells #[.bool x.has, .int .i64 x.min, .int .i64 x.max] 55));refine(HP.out x (aO HX.out) _ _ _ Lo.out.1 Pk.out (Lo.out.base hB) MJ.out).mono ?_;rintro e w2 ⟨v2,rfl,KQ,KB,KG⟩;have KM:=V (Lo.out.step ⟨KQ,KB,KG⟩);have K4:=V (MJ.out.next Lo.out.1 ⟨KQ,KB,KG⟩);clear KQ KB KG c0 c1 c2;go_wp2_with fail;refine HR.out _ _ ⟨_,k+1,rfl,by omega,?_,K4.out⟩ ?_
  ·have:=KM.out
   rw [aQ,HX.out];simpa using this
  ·simp [intOf]
   omega
theorem zn (w0:World) (put:fP ->List UInt8) (no:Nat) (NW:no < 256) (b:Value) (xs:List UInt8) (v:Value) (l:List fP) (B:Nat) (w:World) (Kv:Nat)
  (hE:∀args w,(callFunc Kv args).run prog w= .ok (.enter Kv args) w) (hl:eg 3 xJ w0 v l) (Ku:Row w B b xs) (hB:B <=w.heap.size) (h0:Below w0.heap.size w0 w)
  (hC:xs.length+(eU put l).length <=100000000)
  (hp:∀e∈l,∀b xs w B,dX w B b xs ->xs.length <=100000000 ->B <=w.heap.size ->Src w0 w B ->Calls prog Kv #[b, .agg #[.bool e.has, .int .i64 e.min, .int .i64 e.max]] w (fo xs (put e) B b w)):
  Calls prog 178 #[b, .int .i64 no,v, .func (.func Kv) #[] #[]] w (mj xs (fE (b8 no) put l) B b w):=by
 have HP:=V hp;have HL:=V hl;have H0:=V h0;have HW:=V (sw.refl Ku);obtain⟨a,cap,rfl,Mj,Lj⟩:=eW hl;clear hp hl h0 Ku;by_cases q:l.length=0
 ·have f1:=eH (show(l.length:Int)=0 by omega)
  have HN:=V (show l=[]from aH q);clear q;go_enter func178,ntmps178;go_wp2_with fail;go_ret;exact⟨_,rfl,by rw [HN.out];simpa [fE] using HW.out⟩
 ·have f1:=dS (show ¬ (l.length:Int)=0 by omega)
  have HN:Hid (fE (b8 no) put l=b8 no::(eP (eU put l).length++eU put l)):=V (by
   cases l with
   | nil=>exact absurd rfl q
   | cons x l=>rfl)
  clear q;go_enter func178,ntmps178;go_wp2_with fail;refine(E9 w0 put 100000000 (.slice none 0 0) [] _ l w.heap.size w Kv hE HL.out (dX.nil _ _) (ag _) ⟨H0.out,H0.out.size⟩ (by simp only [aK];omega) (by decide) (fun e he b xs w ho hx hB h0=>HP.out e he b xs w _ ho hx hB h0)).mono ?_;rintro e w2 ⟨v2,rfl,ho,hk,hs⟩;rw [bL]at ho;have Kx:=jy hk rfl;have HO:=V ho;have KM:=V (HW.out.below Kx);obtain⟨a2,KA,PL,-,-,-⟩:=ho.fp;subst PL;have L5:∀i,eA (.slice a2 (eU put l).length KA) i ->¬ eA b i:=fun i h1 h2=>by
   have:=(et HO.out h1).1;have:=(HW.out.1.lt h2).2;omega
  have HD:=V L5;clear ho hk hs hE L5;go_wp2_with (first | (at_builtin;refine il w2 rfl _ _ rfl rfl B b _ rfl KM.out.1 (b8 no) _ ?_ ?_ ?_ ?_ ?_))
  ·rw [fM NW]
  ·rfl
  ·omega
  ·exact KM.out.base hB
  intro v3 w3 ho hk hs;have Mp:=V (KM.out.own ⟨ho,hk,hs⟩);have MW:=V (HO.out.keeps hk HD.out);have PM:=V (show∀i,eA (.slice a2 (eU put l).length KA) i ->¬ eA v3 i from fun i h1 h2=>(hs i h2).elim (HD.out i h1) (fun g=>by have:=(et HO.out h1).2;omega));clear ho hk hs;go_wp2_with fail;refine(fI v3 _ (eU put l).length (by omega) B w3 Mp.out.1 (by simp only [ah,aB];omega) (Mp.out.base hB)).mono ?_;rintro e w4 ⟨v4,rfl,ho,hk,hs⟩;have LA:=V (Mp.out.step ⟨ho,hk,hs⟩);have MB:=V (MW.out.keeps hk PM.out);have hp4:=(eF (eU put l).length).2;clear ho hk hs;go_wp2_with (first | (at_builtin;refine fO w4 rfl _ _ rfl rfl B v4 _ rfl LA.out.1 _ _ rfl MB.out.fp (by simp only [ah,aB];omega) (LA.out.base hB) ?_));intro v5 w5 ho hk hs;have N6:=V (LA.out.step ⟨ho,hk,hs⟩);clear ho hk hs;go_wp2_with fail;go_ret;exact⟨_,rfl,by rw [HN.out];exact N6.out.row⟩
theorem mE (n:Int) (h:fV n) (b:Value) (xs:List UInt8) (B:Nat) (w:World) (Ku:dX w B b xs) (hn:xs.length <=900000000) (hB:B <=w.heap.size):
  Calls prog 175 #[b, .int .i64 n] w (fo xs (rS n) B b w):=by
 obtain⟨m,rfl⟩:∃m:Nat,n=m:=⟨n.toNat,by have:=h.1;omega⟩;exact fI b xs m (by have:=h.2;omega) B w Ku (by omega) hB
theorem Ga (w0:World) (e:gr) (u:Value × Value) (hu:gI w0 e u) (hm:e.may) (b:Value) (xs:List UInt8) (w:World) (B:Nat) (Ku:dX w B b xs) (hn:xs.length <=100000000) (hB:B <=w.heap.size) (h0:Src w0 w B):
  Calls prog 170 #[b, .agg #[u.1,u.2]] w (fo xs (kI e) B b w):=by
 have HU:=V hu;obtain⟨u1,u2⟩:=u;obtain⟨⟨⟨a1,KK,Mi,-,-,-⟩,⟨a2,KA,Mu,-,-,-⟩⟩,-⟩:=id hu;simp only at Mi Mu;subst Mi Mu;clear hu;have l1:=jz ji 1 32 e.params (fun x _=>by simp [ji]) hm.1.1;have l2:=jz ji 1 1 e.results (fun x _=>by simp [ji]) hm.2.1;clear hm;have HW:=V ((Wr.refl Ku).alloc (.cells #[.slice a1 e.params.length KK, .slice a2 e.results.length KA] 109));have HA:=V (Aside.new Ku #[.slice a1 e.params.length KK, .slice a2 e.results.length KA] 109);have HS:=V (h0.alloc (.cells #[.slice a1 e.params.length KK, .slice a2 e.results.length KA] 109));clear Ku h0;go_enter func170,ntmps170;go_wp2_with fail;refine ef (fun w'=>w'.cell? ⟨w.heap.size,0,none⟩=some (.slice a1 e.params.length KK)/\w'.cell? ⟨w.heap.size,1,none⟩=some (.slice a2 e.results.length KA)) [(0,true),(3,true),(4,true),(6,true),(7,true),(1,false),(2,false),(5,false),(8,false),(9,true)] (by kernel_rfl) (by kernel_rfl) ⟨HA.out.cell 0,HA.out.cell 1⟩ ?_;have HW:=V HW.out.drew;have HA:=V HA.out.drew;have HS:=V HS.out.drew;obtain⟨X,hX⟩:∃X,X=w.heap.size:=⟨_,rfl⟩;rw [<- hX]at HA⊢;clear hX;generalize(w.alloc (.cells #[.slice a1 e.params.length KK, .slice a2 e.results.length KA] 109)).drew=wa at HW HA HS⊢;iterate 5 (first | (apply sk rfl rfl;simp only [pt]) | (apply dV rfl rfl rfl;·(rintro w' ⟨t0,t1⟩;go_wp2;exact⟨rfl,rfl,rfl⟩)))
 refine ed rfl rfl ?_;go_wp2_with fail;refine⟨⟨(HA.out.alloc _).cell 0,(HA.out.alloc _).cell 1⟩,?_⟩;refine ed rfl rfl ?_;go_wp2_with (first | (at_builtin;refine eY wa rfl _ _ rfl rfl B b _ rfl HW.out.1 (96:UInt8) _ rfl rfl (by first | omega | (simp only [ah];omega) | (simp only [ah,aB];omega) | (simp only [ah,aI,aK];omega)) (HW.out.base hB) ?_));intro v1 w1 ho hk hs;have HA:=V (HA.out.next ⟨ho,hk,hs⟩);have HS:=V (HS.out.next HW.out.1 ⟨ho,hk,hs⟩);have HW:=V (HW.out.step ⟨ho,hk,hs⟩);clear ho hk hs;go_wp2_with fail;refine⟨⟨HA.out.cell 0,HA.out.cell 1⟩,?_⟩;refine ed rfl rfl ?_;go_wp2_with fail;refine(oy w0 ji 900000000 v1 _ _ e.params B w1 172 (fun args w=>by rfl) HU.out.1.1 HW.out.1 (HW.out.base hB) HS.out (by simp only [ah,aB];omega) (by omega) (fun x _ b xs w ho hx hB _=>nu b xs x B w ho hx hB)).mono ?_;rintro e w2 ⟨v2,rfl,ho,hk,hs⟩;have HA:=V (HA.out.next ⟨ho,hk,hs⟩);have HS:=V (HS.out.next HW.out.1 ⟨ho,hk,hs⟩);have HW:=V (HW.out.step ⟨ho,hk,hs⟩);clear ho hk hs;go_wp2_with fail;refine⟨⟨HA.out.cell 0,HA.out.cell 1⟩,?_⟩;refine ed rfl rfl ?_;go_wp2_with fail;refine(oy w0 ji 900000000 v2 _ _ e.results B w2 172 (fun args w=>by rfl) HU.out.1.2 HW.out.1 (HW.out.base hB) HS.out (by simp only [ah,aB];omega) (by omega) (fun x _ b xs w ho hx hB _=>nu b xs x B w ho hx hB)).mono ?_;rintro e w3 ⟨v3,rfl,ho,hk,hs⟩;have HA:=V (HA.out.next ⟨ho,hk,hs⟩);have HS:=V (HS.out.next HW.out.1 ⟨ho,hk,hs⟩);have HW:=V (HW.out.step ⟨ho,hk,hs⟩);clear ho hk hs;go_wp2_with fail;refine⟨⟨HA.out.cell 0,HA.out.cell 1⟩,?_⟩;iterate 1 (first | (apply sk rfl rfl;simp only [pt]) | (apply dV rfl rfl rfl;·(rintro w' ⟨t0,t1⟩;go_wp2;exact⟨rfl,rfl,rfl⟩)))
 refine eL ?_;refine aD ?_;go_wp2_with fail;go_ret;exact⟨_,rfl,by show Wr _ _ _ _ _ _;simpa [kI] using HW.out⟩
theorem Gt (w0:World) (e:iS) (u:Value) (hu:gW w0 e u) (hm:e.may) (b:Value) (xs:List UInt8) (w:World) (B:Nat) (Ku:dX w B b xs) (hn:xs.length <=100000000) (hB:B <=w.heap.size) (h0:Src w0 w B):
  Calls prog 188 #[b, .agg #[.int .i64 e.off,u]] w (fo xs (kT e) B b w):=by
 have HU:=V hu;obtain⟨⟨a1,KK,rfl,-,-,-⟩,-⟩:=id hu;clear hu;have l1:=px hm.1;have l2:=jz rS 10 50 e.funcs (fun y _=>rG y) hm.2.1;have HM:=V hm;clear hm;have HW:=V ((Wr.refl Ku).alloc (.cells #[.int .i64 e.off, .slice a1 e.funcs.length KK] 95));have HA:=V (Aside.new Ku #[.int .i64 e.off, .slice a1 e.funcs.length KK] 95);have HS:=V (h0.alloc (.cells #[.int .i64 e.off, .slice a1 e.funcs.length KK] 95));clear Ku h0;go_enter func188,ntmps188;go_wp2_with fail;refine ef (fun w'=>w'.cell? ⟨w.heap.size,0,none⟩=some (.int .i64 e.off)/\w'.cell? ⟨w.heap.size,1,none⟩=some (.slice a1 e.funcs.length KK)) (up 0 3 ((4,true)::(5,true)::(3,false)::(6,false)::(7,true)::[])) (by kernel_rfl) (by kernel_rfl) ⟨HA.out.cell 0,HA.out.cell 1⟩ ?_;have HW:=V HW.out.drew;have HA:=V HA.out.drew;have HS:=V HS.out.drew;obtain⟨X,hX⟩:∃X,X=w.heap.size:=⟨_,rfl⟩;rw [<- hX]at HA⊢;clear hX;generalize(w.alloc (.cells #[.int .i64 e.off, .slice a1 e.funcs.length KK] 95)).drew=wa at HW HA HS⊢;iterate 5 (first | (apply sk rfl rfl;simp only [pt]) | (apply dV rfl rfl rfl;·(rintro w' ⟨t0,t1⟩;go_wp2;exact⟨rfl,rfl,rfl⟩)))
 refine ed rfl rfl ?_;go_wp2_with fail;refine(vX b _ e.off B wa HW.out.1 (by omega) (HW.out.base hB) HM.out.1).mono ?_;rintro e w1 ⟨v1,rfl,ho,hk,hs⟩;have HA:=V (HA.out.next ⟨ho,hk,hs⟩);have HS:=V (HS.out.next HW.out.1 ⟨ho,hk,hs⟩);have HW:=V (HW.out.step ⟨ho,hk,hs⟩);clear ho hk hs;go_wp2_with fail;refine⟨⟨HA.out.cell 0,HA.out.cell 1⟩,?_⟩;refine ed rfl rfl ?_;go_wp2_with fail;refine(oy w0 rS 900000000 v1 _ _ e.funcs B w1 175 (fun args w=>by rfl) HU.out.1 HW.out.1 (HW.out.base hB) HS.out (by simp only [ah];omega) (by omega) (fun x hx b xs w ho hl hB _=>mE x (HM.out.2.2 x hx) b xs B w ho hl hB)).mono ?_;rintro e w2 ⟨v2,rfl,ho,hk,hs⟩;have HA:=V (HA.out.next ⟨ho,hk,hs⟩);have HS:=V (HS.out.next HW.out.1 ⟨ho,hk,hs⟩);have HW:=V (HW.out.step ⟨ho,hk,hs⟩);clear ho hk hs;go_wp2_with fail;refine⟨⟨HA.out.cell 0,HA.out.cell 1⟩,?_⟩;iterate 1 (first | (apply sk rfl rfl;simp only [pt]) | (apply dV rfl rfl rfl;·(rintro w' ⟨t0,t1⟩;go_wp2;exact⟨rfl,rfl,rfl⟩)))
 refine eL ?_;refine aD ?_;go_wp2_with fail;go_ret;exact⟨_,rfl,by show Wr _ _ _ _ _ _;simpa [kT] using HW.out⟩
theorem Gw (w0:World) (e:gp) (u:Value) (hu:gq w0 e u) (hm:e.may) (b:Value) (xs:List UInt8) (w:World) (B:Nat) (Ku:dX w B b xs) (hn:xs.length <=100000000) (hB:B <=w.heap.size) (h0:Src w0 w B):
  Calls prog 193 #[b, .agg #[.int .i64 e.off,u]] w (fo xs (nP e) B b w):=by
 have HU:=V hu;obtain⟨⟨a1,KK,rfl,-,-,-⟩,-⟩:=id hu;clear hu;have l1:=px hm.1;have l2:=hm.2;have l3:=(eF e.bytes.length).2;have HM:=V hm;clear hm;have HW:=V ((Wr.refl Ku).alloc (.cells #[.int .i64 e.off, .slice a1 e.bytes.length KK] 99));have HA:=V (Aside.new Ku #[.int .i64 e.off, .slice a1 e.bytes.length KK] 99);have HS:=V (h0.alloc (.cells #[.int .i64 e.off, .slice a1 e.bytes.length KK] 99));clear Ku h0;go_enter func193,ntmps193;go_wp2_with fail;refine ef (fun w'=>w'.cell? ⟨w.heap.size,0,none⟩=some (.int .i64 e.off)/\w'.cell? ⟨w.heap.size,1,none⟩=some (.slice a1 e.bytes.length KK)) (up 0 3 (up 4 3 ((8,true)::(9,true)::(3,false)::(7,false)::(10,false)::(11,true)::[]))) (by kernel_rfl) (by kernel_rfl) ⟨HA.out.cell 0,HA.out.cell 1⟩ ?_;have HW:=V HW.out.drew;have HA:=V HA.out.drew;have HS:=V HS.out.drew;obtain⟨X,hX⟩:∃X,X=w.heap.size:=⟨_,rfl⟩;rw [<- hX]at HA⊢;clear hX;generalize(w.alloc (.cells #[.int .i64 e.off, .slice a1 e.bytes.length KK] 99)).drew=wa at HW HA HS⊢;iterate 8 (first | (apply sk rfl rfl;simp only [pt]) | (apply dV rfl rfl rfl;·(rintro w' ⟨t0,t1⟩;go_wp2;exact⟨rfl,rfl,rfl⟩)))
 refine ed rfl rfl ?_;go_wp2_with fail;refine(vX b _ e.off B wa HW.out.1 (by omega) (HW.out.base hB) HM.out.1).mono ?_;rintro e w1 ⟨v1,rfl,ho,hk,hs⟩;have HA:=V (HA.out.next ⟨ho,hk,hs⟩);have HS:=V (HS.out.next HW.out.1 ⟨ho,hk,hs⟩);have HW:=V (HW.out.step ⟨ho,hk,hs⟩);clear ho hk hs;go_wp2_with fail;refine⟨⟨HA.out.cell 0,HA.out.cell 1⟩,?_⟩;refine ed rfl rfl ?_;go_wp2_with fail;refine(fI v1 _ e.bytes.length (by omega) B w1 HW.out.1 (by simp only [ah];omega) (HW.out.base hB)).mono ?_;rintro e w2 ⟨v2,rfl,ho,hk,hs⟩;have HA:=V (HA.out.next ⟨ho,hk,hs⟩);have HS:=V (HS.out.next HW.out.1 ⟨ho,hk,hs⟩);have HW:=V (HW.out.step ⟨ho,hk,hs⟩);clear ho hk hs;go_wp2_with fail;refine⟨⟨HA.out.cell 0,HA.out.cell 1⟩,?_⟩;refine ed rfl rfl ?_;go_wp2_with (first | (at_builtin;refine fO w2 rfl _ _ rfl rfl B v2 _ rfl HW.out.1 _ _ rfl (HU.out.1.below HS.out.1) (by simp only [ah];omega) (HW.out.base hB) ?_));intro v3 w3 ho hk hs;have HA:=V (HA.out.next ⟨ho,hk,hs⟩);have HS:=V (HS.out.next HW.out.1 ⟨ho,hk,hs⟩);have HW:=V (HW.out.step ⟨ho,hk,hs⟩);clear ho hk hs;go_wp2_with fail;refine⟨⟨HA.out.cell 0,HA.out.cell 1⟩,?_⟩;iterate 1 (first | (apply sk rfl rfl;simp only [pt]) | (apply dV rfl rfl rfl;·(rintro w' ⟨t0,t1⟩;go_wp2;exact⟨rfl,rfl,rfl⟩)))
 refine eL ?_;refine aD ?_;go_wp2_with fail;go_ret;exact⟨_,rfl,by show Wr _ _ _ _ _ _;simpa [nP] using HW.out⟩
theorem GL (e:fP) (b:Value) (xs:List UInt8) (w:World) (B:Nat) (Ku:dX w B b xs) (hn:xs.length <=100000000) (hB:B <=w.heap.size) (hm0:0 <=e.min) (hm1: -1 <=e.max) (KF:e.ok):
  Calls prog 180 #[b, .agg #[.bool e.has, .int .i64 e.min, .int .i64 e.max]] w (fo xs (jj e) B b w):=by
 have h0:=tN w B;have HW:=V ((Wr.refl Ku).alloc (.cells #[.bool e.has, .int .i64 e.min, .int .i64 e.max] 55));have HA:=V (Aside.new Ku #[.bool e.has, .int .i64 e.min, .int .i64 e.max] 55);have HS:=V (h0.alloc (.cells #[.bool e.has, .int .i64 e.min, .int .i64 e.max] 55));clear Ku h0;go_enter func180,ntmps180;go_wp2_with fail;refine ef (fun w'=>w'.cell? ⟨w.heap.size,0,none⟩=some (.bool e.has)/\w'.cell? ⟨w.heap.size,1,none⟩=some (.int .i64 e.min)/\w'.cell? ⟨w.heap.size,2,none⟩=some (.int .i64 e.max)) [(0,true),(3,true),(1,false),(2,false),(4,false),(5,true)] (by kernel_rfl) (by kernel_rfl) ⟨HA.out.cell 0,HA.out.cell 1,HA.out.cell 2⟩ ?_;have HW:=V HW.out.drew;have HA:=V HA.out.drew;have HS:=V HS.out.drew;obtain⟨X,hX⟩:∃X,X=w.heap.size:=⟨_,rfl⟩;rw [<- hX]at HA⊢;clear hX;generalize(w.alloc (.cells #[.bool e.has, .int .i64 e.min, .int .i64 e.max] 55)).drew=wa at HW HA HS⊢;iterate 2 (first | (apply sk rfl rfl;simp only [pt]) | (apply dV rfl rfl rfl;·(rintro w' ⟨t0,t1,t2⟩;go_wp2;exact⟨rfl,rfl,rfl⟩)))
 refine ed rfl rfl ?_;go_wp2_with fail;refine⟨⟨(HA.out.alloc _).cell 0,(HA.out.alloc _).cell 1,(HA.out.alloc _).cell 2⟩,?_⟩;refine ed rfl rfl ?_;go_wp2_with (first | (at_builtin;refine eY wa rfl _ _ rfl rfl B b _ rfl HW.out.1 (112:UInt8) _ rfl rfl (by first | omega | (simp only [ah];omega) | (simp only [ah,aB];omega) | (simp only [ah,aI,aK];omega)) (HW.out.base hB) ?_));intro v1 w1 ho hk hs;have HA:=V (HA.out.next ⟨ho,hk,hs⟩);have HS:=V (HS.out.next HW.out.1 ⟨ho,hk,hs⟩);have HW:=V (HW.out.step ⟨ho,hk,hs⟩);clear ho hk hs;go_wp2_with fail;refine⟨⟨HA.out.cell 0,HA.out.cell 1,HA.out.cell 2⟩,?_⟩;refine ed rfl rfl ?_;go_wp2_with fail;refine(pL v1 _ e B w1 HW.out.1 (by simp only [ah,aB];omega) (HW.out.base hB) hm0 hm1 KF).mono ?_;rintro e w2 ⟨v2,rfl,ho,hk,hs⟩;have HA:=V (HA.out.next ⟨ho,hk,hs⟩);have HS:=V (HS.out.next HW.out.1 ⟨ho,hk,hs⟩);have HW:=V (HW.out.step ⟨ho,hk,hs⟩);clear ho hk hs;go_wp2_with fail;refine⟨⟨HA.out.cell 0,HA.out.cell 1,HA.out.cell 2⟩,?_⟩;iterate 1 (first | (apply sk rfl rfl;simp only [pt]) | (apply dV rfl rfl rfl;·(rintro w' ⟨t0,t1,t2⟩;go_wp2;exact⟨rfl,rfl,rfl⟩)))
 refine eL ?_;refine aD ?_;go_wp2_with fail;go_ret;exact⟨_,rfl,by show Wr _ _ _ _ _ _;simpa [jj] using HW.out⟩
def oI (x:Int) (rs:List (Nat × Int)):List (Nat × Int):=match rs with
 | []=>[(1,x)]
 | (n,k)::t=>if x=k then(n+1,k)::t else(1,x)::(n,k)::t
theorem oM (x:Int) (l:List Int):gz (x::l)=oI x (gz l):=rfl
def kY:List (Nat × Int) ->Int ->List (Nat × Int)
 | [],k=>[(1,k)]
 | [x],k=>if x.2=k then [(x.1+1,k)]else [x,(1,k)]
 | x::y::t,k=>x::kY (y::t) k
theorem Bg (x k:Int):∀rs:List (Nat × Int),oI x (kY rs k)=kY (oI x rs) k
 | []=>by
  simp only [kY,oI]
 | [(n,k')]=>by
  by_cases h1:k'=k
  ·by_cases h2:x=k'
   ·subst h1 h2
    simp [kY,oI]
   ·subst h1
    simp [kY,oI,h2]
  ·by_cases h2:x=k'
   ·subst h2
    simp [kY,oI,h1]
   ·simp [kY,oI,h1,h2]
 | (n,k')::y::t=>by
  by_cases h2:x=k'
  ·simp [kY,oI,h2]
  ·simp [kY,oI,h2]
theorem nt (k:Int):∀l:List Int,gz (l++[k])=kY (gz l) k
 | []=>rfl
 | x::l=>by rw [bI,oM,nt k l,Bg,oM]
theorem qi (n:Nat) (k' k:Int):∀rs:List (Nat × Int),kY (rs++[(n,k')]) k=rs++(if k'=k then [(n+1,k)]else [(n,k'),(1,k)])
 | []=>by simp [kY]
 | [x]=>by
  show x::kY [(n,k')] k=_;rw [kY];rfl
 | x::y::t=>by
  have h:=qi n k' k (y::t);show x::kY (y::t++[(n,k')]) k=_;rw [h];rfl
theorem vM:∀l:List Int,l≠[] ->∃rs n k,gz l=rs++[(n,k)]/\l.getLast?=some k/\1 <=n
 | [],h=>absurd rfl h
 | [x],_=>⟨[],1,x,rfl,rfl,ag _⟩
 | x::y::l,_=>by
  obtain⟨rs,n,k,h1,h2,h3⟩:=vM (y::l) (by simp);rw [oM,h1];cases rs with
  | nil=>
   simp only [bL,oI];split
   ·exact⟨[],n+1,k,rfl,by rw [cZ];exact h2,by omega⟩
   ·exact⟨[(1,x)],n,k,rfl,by rw [cZ];exact h2,h3⟩
  | cons a t=>
   obtain⟨m,z⟩:=a;simp only [bI,oI];split
   ·exact⟨(m+1,z)::t,n,k,rfl,by rw [cZ];exact h2,h3⟩
   ·exact⟨(1,x)::(m,z)::t,n,k,rfl,by rw [cZ];exact h2,h3⟩
def Is (x:(Nat × Int) × Value):List Value:=[x.2]
def qR (u:Value):List Value:=[u]
def mK (w:World) (x:Nat × Int) (u:Value):Prop:=eg 1 fb w u (List.replicate x.1 x.2)/\1 <=x.1
theorem mK.ext {w w':World} {x:Nat × Int} {u:Value} (h:mK w x u) (he:Ext w w'):mK w' x u:=⟨h.1.ext he,h.2⟩
theorem rp (u:Value):(qR u).length=1:=rfl
theorem wX (u:Int):(fb u).length=1:=rfl
theorem zL {α:Type} {t:TypeId} {k:Nat} {enc:α ->List Value} {w:World} {B:Nat} {v:Value} {l:List α} {S:Nat ->Bool} (hk:∀x,(enc x).length=k) (h:dT t k enc w B v l) (hs:∀i,eA v i ->S i=false):eg k enc (mask S w) v l:=by
 suffices h:dT t k enc (mask S w) B v l from h.fy hk
 obtain⟨hl,hv | ⟨g,cap,cur,hv,hb,hg,rest⟩⟩:=h
 ·exact⟨hl, .inl hv⟩
 ·exact⟨hl, .inr ⟨g,cap,cur,hv,hb,by rw [jt w (hs g (by rw [hv];rfl))];exact hg,rest⟩⟩
def zT (B:Nat) (v ul:Value):Nat ->Bool:=fun k=>decide (k < B) || decide (v.ownBlock=some k) || decide (ul.ownBlock=some k)
theorem lQ {B k:Nat} {v ul:Value}:zT B v ul k=true↔(k < B\/eA v k)\/eA ul k:=by simp [zT,eA]
def iz (w:World) (B:Nat) (v:Value) (rs:List (Nat × Int)):Prop:=
 (rs=[]/\v= .slice none 0 0)\/∃(N7:List (Nat × Int)) (LW:List Value) (ul:Value) (n:Nat) (k:Int),rs=N7++[(n,k)]/\LW.length=N7.length/\dT 25 1 qR w B v (LW++[ul])/\
  dT 3 1 fb w B ul (List.replicate n k)/\1 <=n/\∀(i:Nat) (x:Nat × Int) (u:Value),N7[i]?=some x ->LW[i]?=some u ->mK (mask (zT B v ul) w) x u
theorem iz.deep {w:World} {B:Nat} {v:Value} {rs:List (Nat × Int)} (h:iz w B v rs):ee 1 Is mK w v rs:=by
 rcases h with⟨rfl,rfl⟩ | ⟨N7,LW,ul,n,k,rfl,h2,h3,h4,h5,h6⟩
 ·exact ee.nil w
 ·refine⟨LW++[ul],by simp [h2],?_,fun i x u hx hu=>?_⟩
  ·obtain⟨a,cap,hv,c1,c2,c3⟩:=h3.fy rp
   have hl:((N7++[(n,k)]).zip (LW++[ul])).length=(LW++[ul]).length:=by simp [bG,h2]
   refine⟨a,cap,by rw [hl];exact hv,by rw [hl];exact c1,c2,fun i x hx=>?_⟩;obtain⟨x1,x2⟩:=x;have N4:(LW++[ul])[i]?=some x2:=(cI.1 hx).2;exact c3 i x2 N4
  ·rcases Nat.lt_trichotomy i N7.length with g | g | g
   ·rw [bu g]at hx
    rw [bu (by omega)]at hu;have:=h6 i x u hx hu;exact⟨this.1.fT,this.2⟩
   ·subst g
    rw [bg (ag _)]at hx;rw [bg (by omega)]at hu;simp [h2]at hx hu;subst hx hu;exact⟨h4.fy wX,h5⟩
   ·rw [dh (by simp;omega)]at hx
    cases hx
theorem iz.grow {w1 wa w2:World} {B g cap:Nat} {N7:List (Nat × Int)} {LW:List Value} {ul v':Value} {n:Nat} {k:Int} (h2:LW.length=N7.length)
  (h3:dT 25 1 qR w1 B (.slice (some ⟨g,0,none⟩) (LW.length+1) cap) (LW++[ul])) (h4:dT 3 1 fb w1 B ul (List.replicate n k))
  (h6:∀(i:Nat) (x:Nat × Int) (u:Value),N7[i]?=some x ->LW[i]?=some u ->mK (mask (zT B (.slice (some ⟨g,0,none⟩) (LW.length+1) cap) ul) w1) x u)
  (ho:dT 3 1 fb w2 B v' (List.replicate n k++[k])) (hk:dU (eA ul) w1 w2) (hs:eE w1 ul v') (hwa:wa=w2.setCell ⟨g,LW.length,none⟩ v'):
  iz wa B (.slice (some ⟨g,0,none⟩) (LW.length+1) cap) (N7++[(n+1,k)]):=by
 subst hwa;have hd:∀i,eA (.slice (some ⟨g,0,none⟩) (LW.length+1) cap) i ->¬ eA ul i:=fun i hi=>dT.ne h3 h4 (by decide) i hi;have h3':=dT.keeps h3 hk hd;have hgo:eA (.slice (some ⟨g,0,none⟩) (LW.length+1) cap) g:=rfl;have Qn:∀i,eA v' i ->¬ i=g:=fun i hi he=>dT.ne h3' ho (by decide) g hgo (by rw [<- he];exact hi);have Ow:dU (fun i=>i=g) w2 (w2.setCell ⟨g,LW.length,none⟩ v'):=⟨rfl,rfl,rfl,by simp,fun j _ hj=>cL w2 ⟨g,LW.length,none⟩ v' j hj⟩;refine .inr ⟨N7,LW,v',n+1,k,rfl,h2,?_,?_,by omega,fun i x u hx hu=>(h6 i x u hx hu).ext ?_⟩
 ·have:=dT.set rp h3' (i:=LW.length) (j:=0) (x:=ul) (y:=v') (u:=v') (by simp) (by omega) rfl
  rw [bo,aL]at this;simpa using this
 ·rw [List.replicate_succ']
  exact ho.keeps Ow Qn
 ·refine iE (P:=fun i=>eA ul i\/i=g) ((hk.mono (fun i hi=> .inl hi)).trans Ow (fun i hi=> .inl (.inr hi))) (fun i _ hi=>lQ.2 ?_) (fun i KC hi=>lQ.2 ?_)
  ·rcases hi with hi | rfl
   ·exact .inr hi
   ·exact .inl (.inr rfl)
  ·rcases lQ.1 hi with hi | hi
   ·exact .inl hi
   ·rcases hs i hi with h | h
    ·exact .inr h
    ·omega
theorem iz.new {w1 w2:World} {B:Nat} {v v':Value} {rs:List (Nat × Int)} {us:List Value} {k:Int} (h:iz w1 B v rs) (hu:dT 25 1 qR w1 B v us)
  (hus:us.length=rs.length) (ho:dT 25 1 qR w2 B v' (us++[.slice (some ⟨w1.heap.size,0,none⟩) 1 1]))
  (hk:dU (eA v) (w1.alloc (.cells #[.int .i64 k] 3)) w2) (hs:eE w1 v v') (hB:B <=w1.heap.size)
  (heq:∀N7 LW ul n k',rs=N7++[(n,k')] ->LW.length=N7.length ->dT 25 1 qR w1 B v (LW++[ul]) ->us=LW++[ul]):
  iz w2 B v' (rs++[(1,k)]):=by
 have KW:Below w1.heap.size w1 (w1.alloc (.cells #[.int .i64 k] 3)):=(an _ _).alloc (ag _) _;have Qi:∀i,eA v i ->i < w1.heap.size:=fun i hi=>(et hu hi).2;have hnew:eG w2 w1.heap.size #[.int .i64 k] 3:=(eG.new w1 #[.int .i64 k] 3).keeps hk (fun hi=>by have:=Qi _ hi;omega);have Lr:w1.heap.size < w2.heap.size:=hnew.lt;have honew:dT 3 1 fb w2 B (.slice (some ⟨w1.heap.size,0,none⟩) 1 1) (List.replicate 1 k):=
  ⟨by simp [fb], .inr ⟨w1.heap.size,1,#[.int .i64 k],rfl,hB,hnew,ag _,by simp [maxLen],by simp,by simp [fb]⟩⟩
 have Mw:dU (eA v) w1 w2:=(dU.dW KW).trans hk (fun i hi=> .inl hi);have hS:∀ul:Value,∀i,i < w1.heap.size ->zT B v' (.slice (some ⟨w1.heap.size,0,none⟩) 1 1) i=true ->zT B v ul i=true:=fun ul i KC hi=>by
  rcases lQ.1 hi with(hi | hi) | hi
  ·exact lQ.2 (.inl (.inl hi))
  ·rcases hs i hi with h | h
   ·exact lQ.2 (.inl (.inr h))
   ·omega
  ·simp [eA,Value.ownBlock]at hi
   omega
 rcases h with⟨rfl,rfl⟩ | ⟨N7,LW,ul,n,k',rfl,h2,h3,h4,h5,h6⟩
 ·have he:us=[]:=aH hus
  subst he;exact .inr ⟨[],[],_,1,k,rfl,rfl,ho,honew,ag _,fun i x u hx=>by simp at hx⟩
 ·obtain rfl:=heq N7 LW ul n k' rfl h2 h3
  have h4k:dT 3 1 fb w2 B ul (List.replicate n k'):=h4.keeps Mw (fun i hi hv=>dT.ne h4 h3 (by decide) i hi hv);refine .inr ⟨N7++[(n,k')],LW++[ul],_,1,k,rfl,by simp [h2],ho,honew,ag _,fun i x u hx hu=>?_⟩;rcases Nat.lt_trichotomy i N7.length with g | g | g
  ·rw [bu g]at hx
   rw [bu (by omega)]at hu;exact(h6 i x u hx hu).ext (iE Mw (fun i _ hi=>lQ.2 (.inl (.inr hi))) (fun i KC hi=>hS ul i KC hi))
  ·subst g
   rw [bg (ag _)]at hx;rw [bg (by omega)]at hu;simp [h2]at hx hu;subst hx hu;refine⟨zL wX h4k (fun i hi=>?_),h5⟩;cases hb:zT B v' (.slice (some ⟨w1.heap.size,0,none⟩) 1 1) i with
   | false=>rfl
   | true=>
    exfalso;have h7:=et h4 hi;rcases lQ.1 hb with(h | h) | h
    ·omega
    ·exact dT.ne h4k ho (by decide) i hi h
    ·simp [eA,Value.ownBlock]at h
     omega
  ·rw [dh (by simp;omega)]at hx
   cases hx
theorem FC (w0:World) (put:(Nat × Int) ->List UInt8) (C:Nat) (b:Value) (xs:List UInt8) (v:Value) (l:List (Nat × Int)) (B:Nat) (w:World) (Kv:Nat)
  (hE:∀args w,(callFunc Kv args).run prog w= .ok (.enter Kv args) w) (hl:ee 1 Is mK w0 v l) (Ku:dX w B b xs) (hB:B <=w.heap.size) (h0:Src w0 w B)
  (hC:xs.length+(eU put l).length <=C) (MA:C <=900000000)
  (hp:∀e∈l,∀u,mK w0 e u ->∀b xs w,dX w B b xs ->xs.length <=C ->B <=w.heap.size ->Src w0 w B ->Calls prog Kv #[b,u] w (fo xs (put e) B b w)):
  Calls prog 264 #[b,v, .func (.func Kv) #[] #[]] w (fo xs (eU put l) B b w):=by
 have HP:=V hp;have HL:=V hl;have H0:=V h0;have HC:=V hC;have HW:=V (Wr.refl Ku);have Qe:xs.length <=900000000:=by omega
 obtain⟨a,cap,rfl,Mj,Lj⟩:=ee.slice hl;clear hp hl h0 hC Ku MA;go_enter func264,ntmps264;go_wp2_with fail;refine(fI b xs l.length (by omega) B w HW.out.1 (by omega) hB).mono ?_;rintro e w2 ⟨v2,rfl,ho,hk,hs⟩;have KM:=V (HW.out.step ⟨ho,hk,hs⟩);have K4:=V (H0.out.next HW.out.1 ⟨ho,hk,hs⟩);clear ho hk hs;go_wp2_with fail;refine eB (fun a' w'=>∃(vb:Value) (k:Nat),a'=fr (vb::gs a' 1 1 (.func (.func Kv) #[] #[]::gs a' 3 10 (.slice a l.length cap:: .int .i64 l.length:: .int .i64 k::gs a' 16 9 [])))/\vn w0 put xs l B b w w' vb k) (fun a' _=>(l.length - (intOf (a'.tmps.getD 15 undef)).toNat)) ?_ ?_
 ·exact⟨_,0,rfl,by omega,by simpa using KM.out,K4.out⟩
 ·skip
  clear HW KM K4 H0 v2;rintro R a' w1 ⟨vb,k,Kw,hJ⟩ HR;dsimp only [fr,gs]at Kw;generalize slot a'=f at Kw;subst Kw;obtain⟨hk,Ni,M9⟩:=hJ;have HW:=V Ni;have HS:=V M9;have Pk:=V (show(xs++(eP l.length++((l.take k).map put).flatten)).length <=C by
   have h1:=HC.out;have h2:=jx put l k;simp only [eU,ah]at*;omega)
  clear Ni M9;by_cases q:k < l.length;rotate_left
  ·obtain rfl:k=l.length:=by omega
   have HW:=V (show Wr w b B w1 vb (xs++eU put l)by have:=HW.out;rwa [aU]at this);go_wp2_with fail;go_ret;exact⟨_,rfl,HW.out⟩
  obtain⟨x,hx⟩:∃x,l[k]?=some x:=⟨_,aq q⟩;obtain⟨bb,off,u,rfl,KC,L4,hu⟩:=ee.get HL.out hx;have c0:=(HS.out.1.cell KC).trans (L4 0 _ rfl);rw [aL,bo]at c0;have HU:=V hu;obtain⟨⟨a1,KK,Mi,-,-,-⟩,-⟩:=id hu;rw [aY]at Mi;subst Mi;have HX:=V hx;clear L4 hx hu;go_wp2_with fail;have Lo:=HW;have MJ:=HS;refine(HP.out x (aO HX.out) _ HU.out _ _ _ Lo.out.1 Pk.out (Lo.out.base hB) MJ.out).mono ?_;rintro e w2 ⟨v2,rfl,KQ,KB,KG⟩;have KM:=V (Lo.out.step ⟨KQ,KB,KG⟩);have K4:=V (MJ.out.next Lo.out.1 ⟨KQ,KB,KG⟩);clear KQ KB KG c0;go_wp2_with fail;refine HR.out _ _ ⟨_,k+1,rfl,by omega,?_,K4.out⟩ ?_
  ·have:=KM.out
   rw [aQ,HX.out];simpa using this
  ·simp [intOf]
   omega
theorem Hr (w0:World) (e:Nat × Int) (u:Value) (hu:mK w0 e u) (b:Value) (xs:List UInt8) (w:World) (B:Nat) (Ku:dX w B b xs) (hn:xs.length <=800000000) (hB:B <=w.heap.size) (h0:Src w0 w B) (hm:e.1 <=1000000):
  Calls prog 265 #[b,u] w (fo xs (xz e) B b w):=by
 obtain⟨n,k⟩:=e;have hn1:1 <=n:=hu.2;have Ox:n <=1000000:=hm;have hp:=(eF n).2;obtain⟨a,cap,rfl,Mj,Lj,hc3⟩:=hu.1;obtain⟨X,off,rfl,KC,KV⟩:=hc3 0 k (by rw [dw];simp;omega);have Po:=KV 0 _ rfl;rw [Nat.zero_mul,aL]at Po;simp only [aY]at Mj⊢;have HC:=V Po;have HLT:=V KC;have HW:=V (Wr.refl Ku);have HS:=V h0;have c0:=(HS.out.1.cell HLT.out).trans HC.out;clear KV hc3 Po KC hu Ku h0 hm;go_enter func265,ntmps265;go_wp2_with fail;refine ef (fun w'=>w'.cell? ⟨X,off,none⟩=some (.int .i64 k)) (up 0 3 (up 4 3 ((3,false)::(7,false)::(8,true)::[]))) (by kernel_rfl) (by kernel_rfl) c0 ?_;have HW:=V HW.out.drew;have HS:=V HS.out.drew;generalize w.drew=wa at HW HS⊢;iterate 6 (first | (apply sk rfl rfl;simp only [pt]) | (apply dV rfl rfl rfl;·(rintro w' t0;go_wp2;exact⟨rfl,rfl,rfl⟩)))
 refine ed rfl rfl ?_;go_wp2_with fail;refine(fI b xs n (by omega) B wa HW.out.1 (by omega) (HW.out.base hB)).mono ?_;rintro e w1 ⟨v1,rfl,ho,hk,hs⟩;have HS:=V (HS.out.next HW.out.1 ⟨ho,hk,hs⟩);have HW:=V (HW.out.step ⟨ho,hk,hs⟩);clear ho hk hs;have c0:=(HS.out.1.cell HLT.out).trans HC.out;go_wp2_with fail;refine⟨c0,?_⟩;refine ed rfl rfl ?_;go_wp2_with fail;refine(nu v1 _ k B w1 HW.out.1 (by simp only [ah];omega) (HW.out.base hB)).mono ?_;rintro e w2 ⟨v2,rfl,ho,hk,hs⟩;have HS:=V (HS.out.next HW.out.1 ⟨ho,hk,hs⟩);have HW:=V (HW.out.step ⟨ho,hk,hs⟩);clear ho hk hs;have c0:=(HS.out.1.cell HLT.out).trans HC.out;go_wp2_with fail;refine⟨c0,?_⟩;iterate 1 (first | (apply sk rfl rfl;simp only [pt]) | (apply dV rfl rfl rfl;·(rintro w' t0;go_wp2;exact⟨rfl,rfl,rfl⟩)))
 refine eL ?_;refine aD ?_;go_wp2_with fail;go_ret;exact⟨_,rfl,by show Wr _ _ _ _ _ _;simpa [xz] using HW.out⟩
section
def xB (x:mO):List Value:=[.int .i64 x.op, .int .i64 x.kind, .int .i64 x.eM, .bool x.dead]
theorem jE (x:mO):(xB x).length=4:=rfl
theorem F0 (x:mO):∀u∈xB x,u.oneCell'=true:=by
 intro u hu;simp only [xB,bB,bJ,cM]at hu;rcases hu with rfl | rfl | rfl | rfl <;>rfl
theorem wE:(prog.info? 186).map (fun i=>(i.zero,i.size,i.bytes))=some (some (.agg #[.int .i64 0, .int .i64 0, .int .i64 0, .bool false]),4,32):=by kernel_rfl
section
variable {α:Type} {k:Nat} {enc:α ->List Value} {t:TypeId}
theorem tC (hk:∀x,(enc x).length=k):∀(l:List α) (n:Nat),(l.take n).flatMap enc=(l.flatMap enc).take (n*k)
 | [],n=>by simp
 | x::l,0=>by simp
 | x::l,n+1=>by
  rw [List.take_succ_cons,bP,bP,tC hk l n,List.take_append,cE (l:=enc x) (i:=(n+1)*k) (by rw [hk,cR];omega)]
  congr 2
  rw [hk,cR];omega
theorem dT.take {w:World} {B:Nat} {a:Option Addr} {n cap:Nat} {l:List α} (hk:∀x,(enc x).length=k) (h:dT t k enc w B (.slice a n cap) l) (m:Nat) (hm:m <=l.length):dT t k enc w B (.slice a m cap) (l.take m):=by
 obtain⟨hl,hv | ⟨g,KR,cur,hv,hb,hg,hn,hx,hs,ht⟩⟩:=h
 ·obtain⟨hv,h0⟩:=hv
  injection hv with e1 e2 e3;subst e1 e2 e3;obtain rfl:=aH h0;obtain rfl:m=0:=by simpa using hm
  exact dT.nil _ _
 ·injection hv with e1 e2 e3
  subst e1 e2 e3;have hlen:(l.take m).length=m:=by rw [aS];omega
  refine⟨by rw [jQ hk], .inr ⟨g,cap,cur,by rw [hlen],hb,hg,by rw [hlen];omega,hx,hs,?_⟩⟩;rw [hlen,tC hk, <- ht,List.take_take]
  congr 1
  have:m*k <=l.length*k:=dn k hm;omega
theorem dT.slice {w:World} {B:Nat} {v:Value} {l:List α} (h:dT t k enc w B v l):∃a cap,v= .slice a l.length cap/\l.length <=cap/\cap <=9223372036854775807:=by
 obtain⟨_,hv | ⟨g,cap,cur,hv,hb,hg,hn,hm,hs,ht⟩⟩:=h
 ·exact⟨none,0,by rw [hv.1,hv.2],by rw [hv.2];exact ag _,by omega⟩
 ·exact⟨_,cap,hv,hn,by simpa [maxLen] using hm⟩
theorem dT.same {a:Option Addr} {n n' cap:Nat}:∀i,eA (.slice a n cap) i↔eA (.slice a n' cap) i:=fun i=>by
 cases a <;>simp [eA,Value.ownBlock]
end
end
def fm (w0 w:World) (R:Nat) (st:fZ):Prop:=
 ∃a l cap bad,eG w R #[.slice a (List.length l) cap, .bool bad] 191/\eJ w0 (.slice a l.length cap) l/\l.length <=8000/\st=(if bad=true then none else some l)/\Below w0.heap.size w0 w/\w0.heap.size <=R
theorem fm.keeps {w0 w w':World} {R:Nat} {st:fZ} {S:Nat ->Prop} (h:fm w0 w R st) (hk:dU S w w') (hR:¬ S R) (hS:∀i,S i ->w0.heap.size <=i):fm w0 w' R st:=by
 obtain⟨a,l,cap,bad,h1,h2,h3,h4,h5,h6⟩:=h;exact⟨a,l,cap,bad,h1.keeps hk hR,h2,h3,h4,h5.trans (hk.below h5.size hS),h6⟩
theorem fm.below {w0 w w':World} {R:Nat} {st:fZ} (h:fm w0 w R st) (hk:Below w.heap.size w w'):fm w0 w' R st:=by
 obtain⟨a,l,cap,bad,h1,h2,h3,h4,h5,h6⟩:=h;exact⟨a,l,cap,bad,h1.below hk h1.lt,h2,h3,h4,h5.trans (hk.mono h5.size),h6⟩
theorem fm.drew {w0 w:World} {R:Nat} {st:fZ} (h:fm w0 w R st):fm w0 w.drew R st:=by
 obtain⟨a,l,cap,bad,h1,h2,h3,h4,h5,h6⟩:=h;exact⟨a,l,cap,bad,h1.drew,h2,h3,h4,h5.drew,h6⟩
theorem fm.alloc {w0 w:World} {R:Nat} {st:fZ} (h:fm w0 w R st) (o:Obj):fm w0 (w.alloc o) R st:=h.below ((an _ _).alloc (ag _) o)
theorem fm.bad {w0 w:World} {R:Nat} {st:fZ} (h:fm w0 w R st):w.cell? ⟨R,1,none⟩=some (.bool st.isNone):=by
 obtain⟨a,l,cap,bad,h1,h2,h3,h4,h5,h6⟩:=h;rw [show w.cell? ⟨R,1,none⟩=some (.bool bad)from h1.cell 1,h4];cases bad <;>rfl
theorem fm.lt {w0 w:World} {R:Nat} {st:fZ} (h:fm w0 w R st):R < w.heap.size:=by
 obtain⟨a,l,cap,bad,h1,h2,h3,h4,h5,h6⟩:=h;exact h1.lt
theorem fm.old {w0 w:World} {R:Nat} {st:fZ} (h:fm w0 w R st):Below w0.heap.size w0 w/\w0.heap.size <=R:=by
 obtain⟨a,l,cap,bad,h1,h2,h3,h4,h5,h6⟩:=h;exact⟨h5,h6⟩
theorem fm.len {w0 w:World} {R:Nat} {st:fZ} (h:fm w0 w R st):st.len <=8001:=by
 obtain⟨a,l,cap,bad,h1,h2,h3,h4,h5,h6⟩:=h;subst h4;cases bad
 ·show l.length+1 <=8001
  omega
 ·show 0 <=8001
  omega
def yw (w0 w:World) (R:Nat) (v:Value) (st:fZ) (e:Ending) (w':World):Prop:=e= .returned v/\fm w0 w' R st/\dU (fun k=>k=R) w w'
theorem tI {L:List UInt8} (n:Nat) (hn:n <=L.length) (a:Option Addr) (cap:Nat):∃a2 KA,
  (∀wx,(Instr.slice 97 (.slice a L.length cap) (some (.int .i64 n)) none none).run prog wx= .ok (.slice a2 (L.drop n).length KA) wx)/\
  (∀wy,eJ wy (.slice a L.length cap) L ->eJ wy (.slice a2 (L.drop n).length KA) (L.drop n)):=by
 have h:=oq (cB n L).symm a cap;rw [aS,cH hn]at h;obtain⟨a2,KA,h1,h2,_⟩:=h;exact⟨a2,KA,h1,h2⟩
def ix (n:Nat) (ok:Bool) (st:fZ):fZ:=st.bind fun l=>if ok=true/\n <=l.length then some (l.drop n)else none
theorem kN (w0 w:World) (R:Nat) (st:fZ) (n:Nat) (ok:Bool) (hn:n <=9223372036854775807) (h:fm w0 w R st):
  Calls prog 108 #[.pointer (some ⟨R,0,none⟩), .int .i64 n, .bool ok] w (yw w0 w R (.tuple #[]) (ix n ok st)):=by
 obtain⟨a,l,cap,bad,KP,hl,hlen,KS,KW,OL⟩:=h;have LO:=V KP;have HL:=V hl;have O3:=V KW;have OU:=V OL;have c0:w.cell? ⟨R,0,none⟩=some (.slice a l.length cap):=KP.cell 0;have c1:w.cell? ⟨R,1,none⟩=some (.bool bad):=KP.cell 1;have z0:=KP.free 0;have z1:=KP.free 1;clear KP hl KW OL;subst KS;cases bad with
 | true=>
  have HS:Hid (ix n ok (if true=true then none else some l)=(if true=true then none else some l)):=V rfl;go_enter func108,ntmps108;go_wp2_with fail
  go_end0
  exact⟨rfl,⟨a,l,cap,true,by simpa using LO.out.set 1 (.bool true),HL.out,hlen,HS.out,O3.out.setCell OU.out _,OU.out⟩,fh _ R 1 _⟩
 | false=>
  cases ok with
  | false=>
   have HS:Hid (ix n false (if false=true then none else some l)=(if true=true then none else some l)):=V rfl;go_enter func108,ntmps108;go_wp2_with fail
   go_end0
   exact⟨rfl,⟨a,l,cap,true,by simpa using LO.out.set 1 (.bool true),HL.out,hlen,HS.out,O3.out.setCell OU.out _,OU.out⟩,fh _ R 1 _⟩
  | true=>
   by_cases q:n <=l.length
   ·have f1:decide (l.length < n)=false:=az (by omega)
    have HS:Hid (ix n true (if false=true then none else some l)=(if false=true then none else some (l.drop n))):=V (by simp [ix,q]);have HD:Hid ((l.drop n).length <=8000):=V (by rw [bq];omega);obtain⟨a2,KA,KH,hi⟩:=tI n q a cap;have HI:=V hi;clear q hi;go_enter func108,ntmps108;go_wp2_with fail
    go_end0
    exact⟨rfl,⟨a2,l.drop n,KA,false,by simpa using (LO.out.set 1 (.bool false)).set 0 (.slice a2 (l.drop n).length KA),HI.out _ HL.out,HD.out,HS.out,(O3.out.setCell OU.out _).setCell OU.out _,OU.out⟩,(fh _ R 1 _).trans (fh _ R 0 _) (fun _ h=> .inl h)⟩
   ·have f1:decide (l.length < n)=true:=aA (by omega)
    have HS:Hid (ix n true (if false=true then none else some l)=(if true=true then none else some l)):=V (by simp [ix,q]);clear q;go_enter func108,ntmps108;go_wp2_with fail
    go_end0
    exact⟨rfl,⟨a,l,cap,true,by simpa using LO.out.set 1 (.bool true),HL.out,hlen,HS.out,O3.out.setCell OU.out _,OU.out⟩,fh _ R 1 _⟩
def iN (st:fZ):Nat:=((st.bind fU).map (·.1)).getD 0
theorem iF (st:fZ):gU fU st (iN st):=fun y hy=>by rw [iN,hy];rfl
theorem wz (l:List UInt8):(ib 32 l).1 < 4294967296:=by
 unfold ib;split
 ·simp
 ·split
  ·rename_i h
   have:(2:Nat)^(32:Int).toNat=4294967296:=by decide
   omega
  ·simp
theorem iG (st:fZ):iN st < 4294967296:=by
 unfold iN;cases st with
 | none=>simp
 | some l=>
  simp only [aw];unfold fU;split
  ·exact wz l
  ·simp
theorem gZ (w0 w:World) (R:Nat) (st:fZ) (h:fm w0 w R st):Calls prog 110 #[.pointer (some ⟨R,0,none⟩)] w (yw w0 w R (.int .i64 (iN st)) (ei fU st)):=by
 have HH:=V h;obtain⟨a,l,cap,bad,KP,hl,hlen,KS,KW,OL⟩:=h;have c0:w.cell? ⟨R,0,none⟩=some (.slice a l.length cap):=KP.cell 0;have HL:=V (hl.below KW);obtain⟨x,k,err,hr⟩:∃x k err,ib 32 l=(x,k,err):=⟨_,_,_,rfl⟩;have hx:=wz l;have hk:=xL 32 l;rw [hr]at hx hk;simp only at hx hk;have HN:Hid (ei fU st=ix k (err==0) st):=V (by
  rw [KS];cases bad with
  | true=>rfl
  | false=>
   simp only [ei,fU,ix,hr,cC,if_false,aw];by_cases q:err=0
   ·rw [aJ q,aJ ⟨by simp [q],hk⟩]
    rfl
   ·rw [aC q,aC (by simp [q])]
    rfl)
 have HV:Hid (iN st=if(ix k (err==0) st).isNone=true then 0 else x):=V (by
  rw [<- HN.out,KS];cases bad with
  | true=>rfl
  | false=>
   simp only [ei,fU,iN,hr,cC,if_false,aw];by_cases q:err=0
   ·rw [aJ q];rfl
   ·rw [aC q];rfl)
 clear KP hl KS KW OL;go_enter func110,ntmps110;go_wp2_with fail;refine(tx _ l 32 _ HL.out (by omega) (by omega)).mono ?_;rintro e w1 ⟨rfl,hb⟩;rw [hr];have HB:=V (dU.dW (S:=fun k=>k=R) hb);have HH1:=V (HH.out.below hb);clear hr hb c0;go_wp2_with fail;refine(kN w0 w1 R _ k (err==0) (by omega) HH1.out).mono ?_;rintro e w2 ⟨rfl,h2,KB⟩;have c1:=h2.bad;rw [<- HN.out]at h2;have HH2:=V h2;have HK:=V (HB.out.trans KB (fun _ h=> .inl h));clear h2 KB HB;cases hq:(ix k (err==0) st).isNone
 ·rw [hq]at c1
  have HV:=V (show iN st=x by have:=HV.out;rw [hq]at this;exact this);clear hq;go_wp2_with fail;go_ret;exact⟨by rw [HV.out];rfl,HH2.out,HK.out⟩
 ·rw [hq]at c1
  have HV:=V (show iN st=0 by have:=HV.out;rw [hq]at this;exact this);clear hq;go_wp2_with fail;go_ret;exact⟨by rw [HV.out];rfl,HH2.out,HK.out⟩
def nc (st:fZ):UInt8:=((st.bind eZ).map (·.1)).getD 0
theorem mz (st:fZ):gU eZ st (nc st):=fun y hy=>by rw [nc,hy];rfl
theorem iZ (w0 w:World) (R:Nat) (st:fZ) (h:fm w0 w R st):Calls prog 109 #[.pointer (some ⟨R,0,none⟩)] w (yw w0 w R (bv (nc st)) (ei eZ st)):=by
 obtain⟨a,l,cap,bad,KP,hl,hlen,KS,KW,OL⟩:=h;have LO:=V KP;have HL:=V hl;have O3:=V KW;have OU:=V OL;have c0:w.cell? ⟨R,0,none⟩=some (.slice a l.length cap):=KP.cell 0;have c1:w.cell? ⟨R,1,none⟩=some (.bool bad):=KP.cell 1;have z0:=KP.free 0;have z1:=KP.free 1;clear KP hl KW OL;subst KS;cases bad with
 | true=>
  go_enter func109,ntmps109;go_wp2_with fail;go_ret;exact⟨rfl,⟨a,l,cap,true,by simpa using LO.out.set 1 (.bool true),HL.out,hlen,rfl,O3.out.setCell OU.out _,OU.out⟩,fh _ R 1 _⟩
 | false=>
  cases l with
  | nil=>
   have f1:((([]:List UInt8).length:Int)==0)=true:=rfl;go_enter func109,ntmps109;go_wp2_with fail;go_ret;exact⟨rfl,⟨a,[],cap,true,by simpa using LO.out.set 1 (.bool true),HL.out,hlen,rfl,O3.out.setCell OU.out _,OU.out⟩,fh _ R 1 _⟩
  | cons c r=>
   obtain⟨L,hL⟩:∃L,L=c::r:=⟨_,rfl⟩;rw [<- hL]at c0 LO HL hlen⊢;have Pj:0 < L.length:=by rw [hL];simp
   have f1:((L.length:Int)==0)=false:=dS (by omega);have HV:Hid (nc (some L)=c):=V (by rw [hL];rfl);have HS:Hid (ei eZ (some L)=(if false=true then none else some (L.drop 1))):=V (by rw [hL];rfl);have HD:Hid ((L.drop 1).length <=8000):=V (by rw [bq];omega);obtain⟨a2,KA,KH,hi⟩:=tI (L:=L) 1 (by omega) a cap;obtain⟨_,_,N3,-,-,Kt⟩:=id (HL.out.below O3.out);injection N3 with e1 e2 e3;subst e1 e3;obtain⟨g,off,rfl,hg⟩:=Kt 0 c (by rw [hL];rfl);rw [aL]at hg;have HI:=V hi;have hrun1:∀wx,(Instr.slice 97 (.slice (some ⟨g,off,none⟩) L.length cap) (some (.int .i64 1)) none none).run prog wx= .ok (.slice a2 (L.drop 1).length KA) wx:=fun wx=>KH wx;clear hi Kt e2 hL KH;go_enter func109,ntmps109;go_wp2_with fail;go_ret;exact⟨by rw [HV.out];rfl,⟨a2,L.drop 1,KA,false,by simpa using LO.out.set 0 (.slice a2 (L.drop 1).length KA),HI.out _ HL.out,HD.out,HS.out,O3.out.setCell OU.out _,OU.out⟩,fh _ R 0 _⟩
def nJ (st:fZ):Int:=((st.bind gJ).map (·.1)).getD 0
theorem wv (st:fZ):gU gJ st (nJ st):=fun y hy=>by rw [nJ,hy];rfl
theorem zj (st:fZ):ei gJ st=(if(nc st).toNat=127\/(nc st).toNat=126 then ei eZ st else none)/\nJ st=(if(nc st).toNat=127 then 1 else if(nc st).toNat=126 then 2 else 0):=by
 match st with
 | none=>exact⟨rfl,rfl⟩
 | some []=>exact⟨rfl,rfl⟩
 | some (c::l)=>
  have hb:nc (some (c::l))=c:=rfl;rw [hb];by_cases q1:c.toNat=127
  ·obtain rfl:c=127:=dx.1 q1
   exact⟨rfl,rfl⟩
  ·by_cases q2:c.toNat=126
   ·obtain rfl:c=126:=dx.1 q2
    exact⟨rfl,rfl⟩
   ·have hn:gJ (c::l)=none:=by
     unfold gJ;split
     ·rename_i h;injection h with h;subst h;exact absurd rfl q1
     ·rename_i h;injection h with h;subst h;exact absurd rfl q2
     ·rfl
    simp only [ei,nJ,aw,hn,q1,q2,or_self,if_false];exact⟨rfl,rfl⟩
theorem tW (w0 w:World) (R:Nat) (st:fZ) (h:fm w0 w R st):Calls prog 270 #[.pointer (some ⟨R,0,none⟩)] w (yw w0 w R (.int .i64 (nJ st)) (ei gJ st)):=by
 have HH:=V h;obtain⟨hn,hv⟩:=zj st;have HN:=V hn;have HV:=V hv;obtain⟨c,hc⟩:∃c,nc st=c:=⟨_,rfl⟩;have HC:=V hc;have hc8:=c.toNat_lt;clear h hn hv hc;go_enter func270,ntmps270;go_wp2_with fail;refine(iZ w0 w R st HH.out).mono ?_;rintro e w1 ⟨rfl,h1,hk⟩;rw [HC.out];have HH1:=V h1;have HK:=V hk;by_cases q1:c.toNat=127
 ·have f1:((c.toNat:Int)==127)=true:=eH (by omega)
  have HN:=V (show ei gJ st=ei eZ st by rw [HN.out,HC.out,aJ (.inl q1)]);have HV:=V (show nJ st=1 by rw [HV.out,HC.out,aJ q1]);clear q1 h1 hk;go_wp2_with fail;go_ret;exact⟨by rw [HV.out];rfl,by rw [HN.out];exact HH1.out,HK.out⟩
 ·have f1:((c.toNat:Int)==127)=false:=dS (by omega)
  by_cases q2:c.toNat=126
  ·have f2:((c.toNat:Int)==126)=true:=eH (by omega)
   have HN:=V (show ei gJ st=ei eZ st by rw [HN.out,HC.out,aJ (.inr q2)]);have HV:=V (show nJ st=2 by rw [HV.out,HC.out,aC q1,aJ q2]);clear q1 q2 h1 hk;go_wp2_with fail;go_ret;exact⟨by rw [HV.out];rfl,by rw [HN.out];exact HH1.out,HK.out⟩
  ·have f2:((c.toNat:Int)==126)=false:=dS (by omega)
   have HN:=V (show ei gJ st=none by rw [HN.out,HC.out,aC (by omega)]);have HV:=V (show nJ st=0 by rw [HV.out,HC.out,aC q1,aC q2]);obtain⟨a,l,cap,bad,KP,hl,hlen,-,KW,OL⟩:=h1;have z1:=KP.free 1;have LO:=V KP;have HL:=V hl;have O3:=V KW;have c1:w1.cell? ⟨R,1,none⟩=some (.bool bad):=KP.cell 1;clear q1 q2 hk KP hl KW;go_wp2_with fail;go_ret;exact⟨by rw [HV.out];rfl,by rw [HN.out];exact⟨a,l,cap,true,by simpa using LO.out.set 1 (.bool true),HL.out,hlen,rfl,O3.out.setCell OL _,OL⟩,HK.out.trans (fh _ R 1 _) (fun _ h=> .inl h)⟩
end Go.Proofs.YthbjdhjppbcneaaGreatDoor
