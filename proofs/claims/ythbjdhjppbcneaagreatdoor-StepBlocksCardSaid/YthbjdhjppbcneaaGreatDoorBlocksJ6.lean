import Derived.Test.YthbjdhjppbcneaaGreatDoorBlocksJ5
import Derived.Lib.SlBytesConst
import Derived.Lib.ConvBytes
namespace Go.Proofs.YthbjdhjppbcneaaGreatDoor
set_option maxRecDepth 100000
set_option maxHeartbeats 20000000
open Go.RowKit Tryz
open Lib renaming hid->V
set_option linter.all false
def Ky (w0:World) (L:List UInt8) (l:List Int) (B:Nat) (b:Value) (X:Nat) (cs:Array Value) (t:TypeId) (w w':World) (v:Value) (k:Nat):Prop:=
 k <=l.length/\Wr w b B w' v (L++((l.take k).map fun n=>eY n.toNat).flatten)/\Aside w' v X cs t/\Src w0 w' B
theorem oY:∀l:List Int,(∀n∈l,gp n) ->(((l.map fun n=>eY n.toNat).flatten).length <=10*l.length)
 | [],_=>by simp
 | n::l,h=>by
  have h1:=(eO n.toNat).2;have h2:=oY l (fun x hx=>h x (by simp [hx]));simp only [bG,bT,ah,aF];omega
theorem oH (w0:World) (b:Value) (xs:List UInt8) (x:eS) (u:Value) (B:Nat) (w:World) (Lo:eg w B b xs) (hn:xs.length <=900000000) (hB:B <=w.heap.size)
  (hx:gZ w0 x u) (h0:Src w0 w B) (hm:x.may):
  Calls prog 260 #[b, .agg #[.int .i64 x.op, .int .i64 x.a, .int .i64 x.b,u]] w (fE xs (iC x) B b w):=by
 obtain⟨op,a,bb,l⟩:=x;have HM:=V hm;have HX:=V hx;have Pg:=V Lo;obtain⟨au,Lx,rfl,M9,Mj,-⟩:=id hx.1;unfold maxLen at Mj;obtain⟨m1,m2,m3⟩:=id hm;simp only at m1 m2 m3 M9 Mj;have hf:fT op≠0:=by
  rcases m3 with h | h | h | h | h | h | h | h | h <;>first | (rw [h.1];decide) | (rw [h];decide)
 obtain⟨o1,o2⟩:=wD hf;have RT:=od op;obtain⟨n,rfl⟩:∃n:Nat,op=n:=⟨op.toNat,by omega⟩;obtain⟨f,hfe⟩:∃f,fT (n:Int)=f:=⟨_,rfl⟩;rw [hfe]at m1 m2 m3 hf RT;have HB:Hid (iC ⟨n,a,bb,l⟩=b8 n::gz ⟨n,a,bb,l⟩):=V (by
  have:((n:Int).toNat %256)=n:=by omega
  rw [iC,this])
 have HF:=V hfe;have M3:=V m3;have M1:=V m1;have M2:=V m2;clear hm hx hfe m1 m2 m3;go_enter func260,ntmps260;have Qn:Wr w b B (w.alloc (.cells #[.int .i64 n, .int .i64 a, .int .i64 bb, .slice au l.length Lx] 27)) b xs:=(Wr.refl Lo).alloc _;have ha1:=Aside.new Lo #[.int .i64 n, .int .i64 a, .int .i64 bb, .slice au l.length Lx] 27;have MU:=h0.alloc (.cells #[.int .i64 n, .int .i64 a, .int .i64 bb, .slice au l.length Lx] 27);go_wp2_with (first | (at_builtin;refine fi (w.alloc (.cells #[.int .i64 n, .int .i64 a, .int .i64 bb, .slice au l.length Lx] 27)) rfl _ _ rfl rfl B b xs rfl Qn.1 (b8 n) _ ?_ ?_ ?_ ?_ ?_))
 ·rw [fY (by omega)]
 ·omega
 ·omega
 intro v w2 ho hk hs;have N8:=Qn.step ⟨ho,hk,hs⟩;have ha2:=ha1.next ⟨ho,hk,hs⟩;have LB:=MU.next Qn.1 ⟨ho,hk,hs⟩;have c0:=ha2.cell 0;have HW:=V N8;have HA:=V ha2;have HS:=V LB;clear Qn ha1 MU ho hk hs N8 ha2 LB Lo h0;go_wp2_with fail;refine(uT n _).mono ?_;rintro e w3 ⟨rfl,Mf⟩;rw [HF.out];have HW:=V (HW.out.below Mf);have HA:=V (HA.out.below Mf);have HS:=V (HS.out.below Mf);have QI:=HW.out.base hB;have c1:=HA.out.cell 1;have c2:=HA.out.cell 2;have c3:=HA.out.cell 3;clear Mf c0 hf RT;rcases M3.out with⟨rfl,ra⟩ | ⟨rfl,ra1,ra2⟩ | ⟨rfl,ra1,ra2⟩ | ⟨rfl,⟨ra1,ra2⟩,rl,rs⟩ | ⟨rfl,ra1,ra2⟩ | ⟨rfl,⟨ra1,ra2⟩,rb1,rb2⟩ | ⟨rfl,ra⟩ | ⟨rfl,ra1,ra2⟩ | rfl
 ·clear ra M3
  go_wp2_with fail;go_ret;exact⟨_,rfl,by show Wr _ _ _ _ _ _;rw [HB.out];simpa [gz,HF.out] using HW.out⟩
 ·clear M3
  have key:∃c:UInt8,(a=0/\c=64)\/(a=1/\c=127)\/(a=2/\c=126):=by
   rcases(show a=0\/a=1\/a=2 by omega)with h | h | h
   ·exact⟨64, .inl ⟨h,rfl⟩⟩
   ·exact⟨127, .inr (.inl ⟨h,rfl⟩)⟩
   ·exact⟨126, .inr (.inr ⟨h,rfl⟩)⟩
  obtain⟨c,⟨rfl,rfl⟩ | ⟨rfl,rfl⟩ | ⟨rfl,rfl⟩⟩:=key
  ·clear ra1 ra2
   have hix:∀wx,(Instr.index 341 (.agg #[.int .u8 64, .int .u8 127, .int .u8 126]) (.int .i64 0)).run prog wx= .ok (.int .u8 64) wx:=fun wx=>by kernel_rfl
   go_wp2_with (first | (at_builtin;refine fi w3 rfl _ _ rfl rfl B v _ rfl HW.out.1 64 _ (by decide) rfl (by simp only [ah,aB];omega) QI ?_));intro v4 w4 ho hk hs;have My:=V (HW.out.step ⟨ho,hk,hs⟩);clear ho hk hs;go_wp2_with fail;go_ret;exact⟨_,rfl,by show Wr _ _ _ _ _ _;rw [HB.out];simpa [gz,HF.out] using My.out⟩
  ·clear ra1 ra2
   have hix:∀wx,(Instr.index 341 (.agg #[.int .u8 64, .int .u8 127, .int .u8 126]) (.int .i64 1)).run prog wx= .ok (.int .u8 127) wx:=fun wx=>by kernel_rfl
   go_wp2_with (first | (at_builtin;refine fi w3 rfl _ _ rfl rfl B v _ rfl HW.out.1 127 _ (by decide) rfl (by simp only [ah,aB];omega) QI ?_));intro v4 w4 ho hk hs;have My:=V (HW.out.step ⟨ho,hk,hs⟩);clear ho hk hs;go_wp2_with fail;go_ret;exact⟨_,rfl,by show Wr _ _ _ _ _ _;rw [HB.out];simpa [gz,HF.out] using My.out⟩
  ·clear ra1 ra2
   have hix:∀wx,(Instr.index 341 (.agg #[.int .u8 64, .int .u8 127, .int .u8 126]) (.int .i64 2)).run prog wx= .ok (.int .u8 126) wx:=fun wx=>by kernel_rfl
   go_wp2_with (first | (at_builtin;refine fi w3 rfl _ _ rfl rfl B v _ rfl HW.out.1 126 _ (by decide) rfl (by simp only [ah,aB];omega) QI ?_));intro v4 w4 ho hk hs;have My:=V (HW.out.step ⟨ho,hk,hs⟩);clear ho hk hs;go_wp2_with fail;go_ret;exact⟨_,rfl,by show Wr _ _ _ _ _ _;rw [HB.out];simpa [gz,HF.out] using My.out⟩
 ·clear M3
  obtain⟨k,rfl⟩:∃k:Nat,a=k:=⟨a.toNat,by omega⟩;go_wp2_with fail;refine(jk v _ k (by omega) B _ HW.out.1 (by simp only [ah,aB];omega) (by omega)).mono ?_;rintro e w4 ⟨v4,rfl,ho,hk,hs⟩;have My:=V (HW.out.step ⟨ho,hk,hs⟩);clear ho hk hs;go_wp2_with fail;go_ret;exact⟨_,rfl,by show Wr _ _ _ _ _ _;rw [HB.out];simpa [gz,HF.out] using My.out⟩
 ·clear M3
  obtain⟨p,rfl⟩:∃p:Nat,a=p:=⟨a.toNat,by omega⟩;have RS:=V rs;have hls:=oY l rs;clear rs;go_wp2_with fail;refine(jk v _ l.length (by omega) B _ HW.out.1 (by simp only [ah,aB];omega) (by omega)).mono ?_;rintro e w4 ⟨v4,rfl,ho,hk,hs⟩;have hw4:Wr w b B w4 v4 _:=HW.out.step ⟨ho,hk,hs⟩;have HA4:=V (HA.out.next ⟨ho,hk,hs⟩);have PG:=V (HS.out.next HW.out.1 ⟨ho,hk,hs⟩);have hl4:=(eO l.length).2;obtain⟨L,hL⟩:∃L,xs++[b8 n]++eY l.length=L:=⟨_,rfl⟩;rw [hL]at hw4;have hlen:L.length <=xs.length+11:=by rw [<- hL];simp only [ah,aB];omega
  have My:=V hw4;have HL:=V hL;have c3':=HA4.out.cell 3;clear ho hk hs hL hw4 c1 c2 c3;go_wp2_with fail;refine eJ (fun a' w'=>∃(v:Value) (k:Nat),a'=fr (v::gs a' 1 2 (.pointer (some ⟨w.heap.size,0,none⟩):: .slice none 0 0::gs a' 5 45 (.slice au l.length Lx:: .int .i64 l.length:: .int .i64 k::gs a' 53 37 [])))/\Ky w0 L l B b w.heap.size #[.int .i64 n, .int .i64 p, .int .i64 bb, .slice au l.length Lx] 27 w w' v k) (fun a' _=>(l.length - (intOf (a'.tmps.getD 52 undef)).toNat)) ?_ ?_
  ·exact⟨v4,0,rfl,by omega,by simpa using My.out,HA4.out,PG.out⟩
  ·clear c3' HA4 PG
   rintro R a' w1 ⟨v,k,Lp,hJ⟩ HR;dsimp only [fr,gs]at Lp;generalize slot a'=f at Lp;subst Lp;obtain⟨Mm,hw,ha,hs⟩:=hJ;have hBw4:=hw.base hB;have c1:=ha.cell 1;have hlk:(L++((l.take k).map fun n=>eY n.toNat).flatten).length <=900001000:=by
    have g2:=oY (l.take k) (fun x hx=>RS.out x (cF hx));have g3:(l.take k).length <=50:=by rw [aS];omega
    simp only [ah];omega
   have HWK:=V hw;have HAK:=V ha;have HSK:=V hs;by_cases Lw:k < l.length
   ·obtain⟨e,he⟩:∃e,l[k]?=some e:=⟨_,aw Lw⟩
    obtain⟨a',LO,hv,_,_,Ln⟩:=HX.out.1.below hs.1;injection hv with e1 e2 e3;subst e1 e3;obtain⟨bb',off,rfl,Nc,hc⟩:=Ln k e he;have c0:=hc 0 _ rfl;rw [aK,bq]at c0;obtain⟨q1,q2⟩:=RS.out e (aO he);obtain⟨q,rfl⟩:∃q:Nat,e=q:=⟨e.toNat,by omega⟩;have HE:=V he;clear Ln e2 he hc hw ha hs;go_wp2_with fail;refine(jk v _ q (by omega) B _ HWK.out.1 (by omega) (by omega)).mono ?_;rintro x w5 ⟨v5,rfl,ho,hk,hs⟩;have OZ:=V (HWK.out.step ⟨ho,hk,hs⟩);have HA5:=V (HAK.out.next ⟨ho,hk,hs⟩);have HS5:=V (HSK.out.next HWK.out.1 ⟨ho,hk,hs⟩);clear ho hk hs;go_wp2_with fail;refine HR.out _ _ ⟨v5,k+1,rfl,by omega,?_,HA5.out,HS5.out⟩ ?_
    ·have e1:L++((l.take (k+1)).map fun n=>eY n.toNat).flatten=L++((l.take k).map fun n=>eY n.toNat).flatten++eY q:=by
      rw [aR,HE.out];simp
     rw [e1];exact OZ.out
    ·simp [intOf]
     omega
   ·obtain rfl:k=l.length:=by omega
    rw [aV]at hlk HWK;clear hw ha hs;go_wp2_with fail;refine(jk v _ p (by omega) B _ HWK.out.1 (by omega) (by omega)).mono ?_;rintro x w5 ⟨v5,rfl,ho,hk,hs⟩;have OZ:=V (HWK.out.step ⟨ho,hk,hs⟩);clear ho hk hs;go_wp2_with fail;go_ret;refine⟨_,rfl,?_⟩;show Wr _ _ _ _ _ _;have:=OZ.out;rw [<- HL.out]at this;rw [HB.out];simpa [gz,HF.out] using this
 ·clear M3
  obtain⟨k,rfl⟩:∃k:Nat,a=k:=⟨a.toNat,by omega⟩;go_wp2_with fail;refine(jk v _ k (by omega) B _ HW.out.1 (by simp only [ah,aB];omega) (by omega)).mono ?_;rintro e w4 ⟨v4,rfl,ho,hk,hs⟩;have My:=V (HW.out.step ⟨ho,hk,hs⟩);have hBw4:=My.out.base hB;have hl4:=(eO k).2;clear ho hk hs QI c1 c2 c3;go_wp2_with (first | (at_builtin;refine fi w4 rfl _ _ rfl rfl B v4 _ rfl My.out.1 0 _ (by decide) rfl (by simp only [ah,aB];omega) hBw4 ?_));intro v5 w5 ho hk hs;have OZ:=V (My.out.step ⟨ho,hk,hs⟩);clear ho hk hs;go_wp2_with fail;go_ret;exact⟨_,rfl,by show Wr _ _ _ _ _ _;rw [HB.out];simpa [gz,HF.out] using OZ.out⟩
 ·clear M3
  obtain⟨k,rfl⟩:∃k:Nat,a=k:=⟨a.toNat,by omega⟩;obtain⟨m,rfl⟩:∃m:Nat,bb=m:=⟨bb.toNat,by omega⟩;go_wp2_with fail;refine eu (fun w'=>w'.cell? ⟨w.heap.size,1,none⟩=some (.int .i64 k)/\w'.cell? ⟨w.heap.size,2,none⟩=some (.int .i64 m)) (up 0 4 (up 5 3 ((4,false)::(8,false)::(9,true)::[]))) (by kernel_rfl) (by kernel_rfl) ⟨c1,c2⟩ ?_;iterate 7 (first | (apply sk rfl rfl;simp only [pt]) | (apply ef rfl rfl rfl;·(rintro w' ⟨t0,t1⟩;go_wp2;exact⟨rfl,rfl,rfl⟩)))
  refine eo rfl rfl ?_;go_wp2_with fail;refine(jk v _ k (by omega) B w3.drew HW.out.drew.1 (by simp only [ah,aB];omega) (by simpa using QI)).mono ?_;rintro e w4 ⟨v4,rfl,ho,hk,hs⟩;have My:=V (HW.out.drew.step ⟨ho,hk,hs⟩);have HA4:=V (HA.out.drew.next ⟨ho,hk,hs⟩);have hBw4:=My.out.base hB;have hl4:=(eO k).2;clear ho hk hs QI c1 c2 c3;go_wp2_with fail;refine⟨⟨HA4.out.cell 1,HA4.out.cell 2⟩,?_⟩;refine eo rfl rfl ?_;go_wp2_with fail;refine(jk v4 _ m (by omega) B w4 My.out.1 (by simp only [ah,aB];omega) hBw4).mono ?_;rintro e w5 ⟨v5,rfl,ho,hk,hs⟩;have OZ:=V (My.out.step ⟨ho,hk,hs⟩);have HA5:=V (HA4.out.next ⟨ho,hk,hs⟩);clear ho hk hs;go_wp2_with fail;refine⟨⟨HA5.out.cell 1,HA5.out.cell 2⟩,?_⟩;iterate 1 (first | (apply sk rfl rfl;simp only [pt]) | (apply ef rfl rfl rfl;·(rintro w' ⟨t0,t1⟩;go_wp2;exact⟨rfl,rfl,rfl⟩)))
  refine eV ?_;refine aD ?_;go_wp2_with fail;go_ret;exact⟨_,rfl,by show Wr _ _ _ _ _ _;rw [HB.out];simpa [gz,HF.out] using OZ.out⟩
 ·clear ra M3
  go_wp2_with (first | (at_builtin;refine fi w3 rfl _ _ rfl rfl B v _ rfl HW.out.1 0 _ (by decide) rfl (by simp only [ah,aB];omega) QI ?_));intro v4 w4 ho hk hs;have My:=V (HW.out.step ⟨ho,hk,hs⟩);clear ho hk hs;go_wp2_with fail;go_ret;exact⟨_,rfl,by show Wr _ _ _ _ _ _;rw [HB.out];simpa [gz,HF.out] using My.out⟩
 ·clear M3 ra1 ra2
  obtain⟨⟨-,-⟩,⟨g1,g2⟩,-⟩:=HX.out.2;simp only at g1 g2;go_wp2_with fail;refine(nq v _ a g1 g2 B w3 HW.out.1 (by simp only [ah,aB];omega) QI).mono ?_;rintro e w4 ⟨v4,rfl,ho,hk,hs⟩;have My:=V (HW.out.step ⟨ho,hk,hs⟩);clear ho hk hs;go_wp2_with fail;go_ret;exact⟨_,rfl,by show Wr _ _ _ _ _ _;rw [HB.out];simpa [gz,HF.out] using My.out⟩
 ·clear M3
  obtain⟨⟨-,-⟩,⟨g1,g2⟩,-⟩:=HX.out.2;simp only at g1 g2;go_wp2_with fail;refine(nq v _ a g1 g2 B w3 HW.out.1 (by simp only [ah,aB];omega) QI).mono ?_;rintro e w4 ⟨v4,rfl,ho,hk,hs⟩;have My:=V (HW.out.step ⟨ho,hk,hs⟩);clear ho hk hs;go_wp2_with fail;go_ret;exact⟨_,rfl,by show Wr _ _ _ _ _ _;rw [HB.out];simpa [gz,HF.out] using My.out⟩
section
def Ext (w w':World):Prop:=(∀a v,w.cell? a=some v ->w'.cell? a=some v)/\w.heap.size <=w'.heap.size
theorem Ext.trans {a b c:World} (h:Ext a b) (k:Ext b c):Ext a c:=⟨fun x v e=>k.1 x v (h.1 x v e),aW h.2 k.2⟩
theorem Ext.eh {w w':World} (h:Below w.heap.size w w'):Ext w w':=⟨fun a v e=>by rw [h.cell (aT w a e)];exact e,h.size⟩
theorem iY {P:Nat ->Prop} {S S':Nat ->Bool} {w w':World} (h:ee P w w') (hP:∀k,k < w.heap.size ->P k ->S k=true) (hS:∀k,k < w.heap.size ->S' k=true ->S k=true):Ext (mask S w) (mask S' w'):=by
 refine⟨fun a v e=>?_,by rw [iq,iq];exact h.size⟩;have Lw:a.block < w.heap.size:=by
  have:=aT (mask S w) a e
  rwa [iq]at this
 have hb:S a.block=false:=by
  cases hs:S a.block with
  | false=>rfl
  | true=>
   exfalso;unfold World.cell? at e;rw [ph w hs]at e;cases hg:w.heap[a.block]? with
   | none=>rw [hg]at e;simp at e
   | some o=>rw [hg]at e;simp at e
 have LP:S' a.block=false:=by
  cases hs:S' a.block with
  | false=>rfl
  | true=>rw [hS _ Lw hs]at hb;cases hb
 have h1:(mask S w).cell? a=w.cell? a:=bg (jE w hb);have h2:(mask S' w').cell? a=w'.cell? a:=bg (jE w' LP);have h3:w'.cell? a=w.cell? a:=bg (h.block _ Lw (fun g=>by rw [hP _ Lw g]at hb;cases hb));rw [h1]at e;rw [h2,h3];exact e
theorem sw {P:Nat ->Prop} {S:Nat ->Bool} {w w':World} (h:ee P w w') (hP:∀k,k < w.heap.size ->P k ->S k=true):Ext (mask S w) w':=by
 refine⟨fun a v e=>?_,by rw [iq];exact h.size⟩;have Lw:a.block < w.heap.size:=by
  have:=aT (mask S w) a e
  rwa [iq]at this
 have hb:S a.block=false:=by
  cases hs:S a.block with
  | false=>rfl
  | true=>
   exfalso;unfold World.cell? at e;rw [ph w hs]at e;cases hg:w.heap[a.block]? with
   | none=>rw [hg]at e;simp at e
   | some o=>rw [hg]at e;simp at e
 have h1:(mask S w).cell? a=w.cell? a:=bg (jE w hb);have h3:w'.cell? a=w.cell? a:=bg (h.block _ Lw (fun g=>by rw [hP _ Lw g]at hb;cases hb));rw [h1]at e;rw [h3];exact e
theorem ew.ext {α:Type} {k:Nat} {enc:α ->List Value} {w w':World} {v:Value} {l:List α} (h:ew k enc w v l) (he:Ext w w'):ew k enc w' v l:=by
 obtain⟨a,cap,hv,h1,h2,h3⟩:=h;refine⟨a,cap,hv,h1,h2,fun i x hx=>?_⟩;obtain⟨b,off,ha,Lw,hc⟩:=h3 i x hx;exact⟨b,off,ha,bK Lw he.2,fun j u hu=>he.1 _ _ (hc j u hu)⟩
theorem eW.ext {w w':World} {v:Value} {l:List UInt8} (h:eW w v l) (he:Ext w w'):eW w' v l:=by
 obtain⟨a,cap,hv,h1,h2,h3⟩:=h;refine⟨a,cap,hv,h1,h2,fun i x hx=>?_⟩;obtain⟨b,off,ha,hc⟩:=h3 i x hx;exact⟨b,off,ha,he.1 _ _ hc⟩
theorem et.ext {α β:Type} {k:Nat} {enc:α × β ->List Value} {inner:World ->α ->β ->Prop} {w w':World} {v:Value} {l:List α} (h:et k enc inner w v l) (he:Ext w w') (hi:∀x u,inner w x u ->inner w' x u):et k enc inner w' v l:=by
 obtain⟨us,h1,h2,h3⟩:=h;exact⟨us,h1,h2.ext he,fun i x u hx hu=>hi x u (h3 i x u hx hu)⟩
theorem gZ.ext {w w':World} {x:eS} {u:Value} (h:gZ w x u) (he:Ext w w'):gZ w' x u:=⟨h.1.ext he,h.2⟩
theorem gx.ext {w w':World} {v:Value} {l:List eS} (h:gx w v l) (he:Ext w w'):gx w' v l:=et.ext h he (fun _ _ h=>h.ext he)
theorem gW.ext {w w':World} {x:gN} {u:Value × Value} (h:gW w x u) (he:Ext w w'):gW w' x u:=⟨⟨h.1.1.ext he,h.1.2.ext he⟩,h.2⟩
theorem ig.ext {w w':World} {x:jb} {u:Value} (h:ig w x u) (he:Ext w w'):ig w' x u:=⟨h.1.ext he,h.2⟩
theorem gU.ext {w w':World} {x:gS} {u:Value × Value} (h:gU w x u) (he:Ext w w'):gU w' x u:=⟨⟨h.1.1.ext he,h.1.2.ext he⟩,h.2⟩
theorem gE.ext {w w':World} {x:gD} {u:Value} (h:gE w x u) (he:Ext w w'):gE w' x u:=⟨h.1.ext he,h.2⟩
theorem eD.ext {w w':World} {u:eL} {m:eI} (h:eD w u m) (he:Ext w w'):eD w' u m:=by
 obtain⟨h1,h2,h3,h4,h5,h6,h7,h8,h9⟩:=h;exact⟨et.ext h1 he (fun _ _ h=>h.ext he),h2.ext he,h3.ext he,h4.ext he,h5.ext he,et.ext h6 he (fun _ _ h=>h.ext he),et.ext h7 he (fun _ _ h=>h.ext he),et.ext h8 he (fun _ _ h=>h.ext he),h9⟩
def kX (B:Nat):Nat ->Bool:=fun k=>decide (k < B)
def DU (B:Nat) (v:Value):Nat ->Bool:=fun k=>decide (k < B) || decide (v.ownBlock=some k)
theorem mv {B k:Nat}:kX B k=true↔k < B:=by simp [kX]
theorem nn {B k:Nat} {v:Value}:DU B v k=true↔k < B\/eH v k:=by simp [DU,eH]
theorem nN {P:Nat ->Prop} {B B':Nat} {w w':World} (h:ee P w w') (hP:∀k,P k ->k < B\/w.heap.size <=k) (hB:B' <=B\/w.heap.size <=B):Ext (mask (kX B) w) (mask (kX B') w'):=
 iY h (fun k hk hp=>mv.2 ((hP k hp).elim id (fun g=>by omega))) (fun k hk hp=>mv.2 (by have:=mv.1 hp;omega))
theorem Ir {B:Nat} {w w':World} (h:ee (fun k=>k < B) w w'):Ext (mask (kX B) w) w':=sw h (fun _ _ hp=>mv.2 hp)
theorem E0 (B:Nat) (w:World):Ext (mask (kX B) w) w:=Ir (ee.refl _ _)
theorem uw {B B':Nat} (w:World) (h:B' <=B):Ext (mask (kX B) w) (mask (kX B') w):=nN (P:=fun _=>False) (ee.refl _ _) (fun _ h=>h.elim) (.inl h)
theorem jx {α:Type} {t:TypeId} {k:Nat} {enc:α ->List Value} {w:World} {B:Nat} {v:Value} {l:List α} (hk:∀x,(enc x).length=k) (h:ea t k enc w B v l):ew k enc (mask (kX B) w) v l:=
 (h.mask (S:=kX B) (fun b hb=>by simp [kX];exact hb)).fR hk
theorem xZ {w:World} {B:Nat} {v:Value} {l:List UInt8} (h:eg w B v l):eW (mask (kX B) w) v l:=
 (h.mask (S:=kX B) (fun b hb=>by simp [kX];exact hb)).fF
section
variable {α β:Type} {t:TypeId} {k:Nat} {enc:α × β ->List Value} {inner:World ->α ->β ->Prop}
def eZ (t:TypeId) (k:Nat) (enc:α × β ->List Value) (inner:World ->α ->β ->Prop) (w:World) (B:Nat) (v:Value) (l:List α):Prop:=
 ∃us:List β,us.length=l.length/\ea t k enc w B v (l.zip us)/\∀(i:Nat) (x:α) (u:β),l[i]?=some x ->us[i]?=some u ->inner (mask (DU B v) w) x u
theorem eZ.nil (w:World) (B:Nat):eZ t k enc inner w B (.slice none 0 0) []:=⟨[],rfl,ea.nil _ _,by simp⟩
theorem eZ.lt {w:World} {B:Nat} {v:Value} {l:List α} (h:eZ t k enc inner w B v l) {i:Nat} (hi:eH v i):B <=i/\i < w.heap.size:=by
 obtain⟨us,_,h,_⟩:=h;exact eE h hi
theorem eZ.low (hk:∀x,(enc x).length=k) (hx:∀w w' x u,Ext w w' ->inner w x u ->inner w' x u) {w:World} {B:Nat} {v:Value} {l:List α} (h:eZ t k enc inner w B v l):et k enc inner (mask (kX B) w) v l:=by
 obtain⟨us,h1,h2,h3⟩:=h;refine⟨us,h1,jx hk h2,fun i x u a b=>hx _ _ x u (iY (P:=fun _=>False) (ee.refl _ _) (fun _ _ h=>h.elim) (fun k _ h=>?_)) (h3 i x u a b)⟩;exact nn.2 (.inl (mv.1 h))
theorem eZ.keeps (hx:∀w w' x u,Ext w w' ->inner w x u ->inner w' x u) {w w':World} {B:Nat} {v:Value} {l:List α} {P:Nat ->Prop} (h:eZ t k enc inner w B v l) (hk:ee P w w') (hP:∀i,P i ->i < B\/w.heap.size <=i):eZ t k enc inner w' B v l:=by
 obtain⟨us,h1,h2,h3⟩:=h;refine⟨us,h1,h2.keeps hk (fun i hi hp=>?_),fun i x u a b=>hx _ _ x u (iY hk (fun k Lw hp=>?_) (fun k _ h=>h)) (h3 i x u a b)⟩
 ·have:=eE h2 hi
  rcases hP i hp with g | g <;>omega
 ·rcases hP k hp with g | g
  ·exact nn.2 (.inl g)
  ·omega
theorem eZ.app (hx:∀w w' x u,Ext w w' ->inner w x u ->inner w' x u) {w1 w w':World} {B:Nat} {v v':Value} {l:List α} {us:List β} {x:α} {u:β} (h1:us.length=l.length)
  (h3:∀(i:Nat) (x:α) (u:β),l[i]?=some x ->us[i]?=some u ->inner (mask (DU B v) w) x u) (MN:ea t k enc w' B v' (l.zip us++[(x,u)])) (hk:ee (eH v) w w') (hs:eM w v v')
  (hB:B <=w1.heap.size) (hv:∀i,eH v i ->i < w1.heap.size) (hu:inner (mask (kX w1.heap.size) w) x u):eZ t k enc inner w' B v' (l++[x]):=by
 have hS:∀k,k < w.heap.size ->DU B v' k=true ->DU B v k=true:=fun k Lw h=>by
  rcases nn.1 h with g | g
  ·exact nn.2 (.inl g)
  ·rcases hs k g with g | g
   ·exact nn.2 (.inr g)
   ·omega
 refine⟨us++[u],by simp [h1],?_,fun i y z hy hz=>?_⟩
 ·rw [dq h1.symm]
  exact MN
 ·rcases Nat.lt_trichotomy i l.length with g | g | g
  ·rw [bm g]at hy
   rw [bm (by omega)]at hz;exact hx _ _ y z (iY hk (fun k _ hp=>nn.2 (.inr hp)) hS) (h3 i y z hy hz)
  ·subst g
   rw [bp (ag _)]at hy;rw [bp (by omega)]at hz;simp [h1]at hy hz;subst hy hz;refine hx _ _ _ _ (iY hk (fun k _ hp=>mv.2 (hv k hp)) (fun k Lw hp=>mv.2 ?_)) hu;rcases nn.1 hp with g | g
   ·omega
   ·rcases hs k g with g | g
    ·exact hv k g
    ·omega
  ·rw [dn (by simp;omega)]at hy
   cases hy
end
end
theorem AZ {x:eS} (h:x.may) (ho:x.ok):(iC x).length <=530:=by
 obtain⟨m1,m2,m3⟩:=h;obtain⟨o1,o2,o3,o4⟩:=ho;have a:=(eO x.a.toNat).2;have b:=(eO x.b.toNat).2;have l:=(eO x.l.length).2;have s:=(tF o2.1 o2.2).2;unfold iC gz;rw [aF];split
 ·simp
 ·omega
 ·have hs:∀n∈x.l,gp n:=by
   rename_i hf;rw [hf]at m3;rcases m3 with h | h | h | h | h | h | h | h | h <;>first | (exact h.2.2.2) | (exact absurd h.1 (by decide)) | (exact absurd h (by decide))
  have h50:x.l.length <=50:=by
   rename_i hf;rw [hf]at m3;rcases m3 with h | h | h | h | h | h | h | h | h <;>first | (exact h.2.2.1) | (exact absurd h.1 (by decide)) | (exact absurd h (by decide))
  have:=oY x.l hs;simp only [ah];omega
 ·simp;omega
 ·simp only [ah];omega
 ·simp
 ·omega
 ·omega
 ·simp
theorem rU {l:List eS} (hm:∀x∈l,x.may) (ho:∀x∈l,x.ok):((l.map iC).flatten).length <=530*l.length:=by
 induction l with
 | nil=>simp
 | cons x l ih=>
  have h1:=AZ (hm x (by simp)) (ho x (by simp));have h2:=ih (fun y hy=>hm y (by simp [hy])) (fun y hy=>ho y (by simp [hy]));simp only [bG,bT,ah,aF];omega
theorem gx.Kv {w:World} {v:Value} {l:List eS} (h:gx w v l):∀x∈l,x.ok:=by
 intro x hx;obtain⟨i,hi⟩:=List.getElem?_of_mem hx;obtain⟨a,cap,rfl,-,-⟩:=et.slice h;obtain⟨b,off,u,-,-,-,hu⟩:=et.get h hi;exact hu.2
theorem o7 {L:List UInt8} {x:eS} {r:List UInt8} (h:gG L=some (x,r)):∃p,L=p++r:=by
 cases L with
 | nil=>cases h
 | cons c l=>
  have hf:fT c.toNat≠0:=by
   intro hz;unfold gG at h;dsimp only at h;rw [hz]at h;cases h
  have h1:=(IR.sa c l hf).1;rw [h]at h1;unfold IR.rest at h1;split at h1
  ·simp only [bF,aX]at h1
   exact⟨_,by rw [<- h1];exact(cn _ _).symm⟩
  ·cases h1
theorem AO {w:World} {B:Nat} {x:eS} {u:Value} (h:gZ w x u) (hf:CJ B w u):gZ (mask (kX B) w) x u:=by
 obtain⟨⟨a,cap,hv,h1,h2,h3⟩,ho⟩:=h;refine⟨⟨a,cap,hv,h1,h2,fun i y hy=>?_⟩,ho⟩;obtain⟨b,off,ha,Lw,hc⟩:=h3 i y hy;subst ha;have hB:=(hf _ _ _ hv).1;refine⟨b,off,rfl,by rw [iq];exact Lw,fun j v hj=>?_⟩;have:=hc j v hj;have hb:kX B b=false:=by
  cases hs:kX B b with
  | false=>rfl
  | true=>have:=mv.1 hs;simp only at hB;omega
 rw [bg (jE w hb)];exact this
def JX (w0:World) (xs:List UInt8) (l:List eS) (B:Nat) (b:Value) (w w':World) (v:Value) (k:Nat):Prop:=
 k <=l.length/\Wr w b B w' v (xs++((l.take k).map iC).flatten)/\Src w0 w' B
theorem Ad (w0:World) (b v:Value) (xs:List UInt8) (l:List eS) (B:Nat) (w:World) (Lo:eg w B b xs) (hn:xs.length <=500000000) (hB:B <=w.heap.size)
  (hl:gx w0 v l) (h0:Src w0 w B) (hlen:l.length <=300) (hm:∀x∈l,x.may):
  Calls prog 266 #[b,v] w (fE xs (mT l) B b w):=by
 obtain⟨a,cap,rfl,h1,h2⟩:=et.slice hl;have ME:=V hl.Kv;have HL:=V hl;have HM:=V hm;have HO:=V Lo;have H0:=V h0;clear hl hm Lo h0;go_enter func266,ntmps266;go_wp2_with fail;refine eJ (fun a' w'=>∃(vb:Value) (k:Nat),a'=fr (vb::gs a' 1 6 (.slice a l.length cap:: .int .i64 l.length:: .int .i64 k::gs a' 10 10 []))/\JX w0 xs l B b w w' vb k) (fun a' _=>(l.length - (intOf (a'.tmps.getD 9 undef)).toNat)) ?_ ?_
 ·exact⟨_,0,rfl,by omega,by simpa using Wr.refl HO.out,H0.out⟩
 ·skip
  rintro R a' w1 ⟨vb,k,Lp,hJ⟩ HR;dsimp only [fr,gs]at Lp;generalize slot a'=f at Lp;subst Lp;obtain⟨hk,Oc,N0⟩:=hJ;have HW:=V Oc;have HS:=V N0;have hB1:=Oc.base hB;clear Oc N0;have hlen1:(((l.take k).map iC).flatten).length <=530*300:=by
   have:=rU (l:=l.take k) (fun x hx=>HM.out x (cF hx)) (fun x hx=>ME.out x (cF hx));rw [aS]at this;have:530*min k l.length <=530*300:=dQ _ (by omega);omega
  by_cases q:k < l.length;rotate_left
  ·obtain rfl:k=l.length:=by omega
   rw [aV]at hlen1;have HW:=V (show Wr w b B w1 vb (xs++(l.map iC).flatten)by have:=HW.out;rwa [aV]at this);go_wp2_with (first | (at_builtin;refine fi w1 rfl _ _ rfl rfl B vb _ rfl HW.out.1 (11:UInt8) _ rfl rfl (by simp only [ah];omega) hB1 ?_));intro v2 w2 LL Lv LB;have LH:Hid (Wr w b B w2 v2 (xs++mT l)):=V (HW.out.step ⟨by simpa [mT] using LL,Lv,LB⟩);clear LL Lv LB;go_wp2_with fail;go_ret;exact⟨_,rfl,LH.out⟩
  obtain⟨x,hx⟩:∃x,l[k]?=some x:=⟨_,aw q⟩;have QJ:gx w1 (.slice a l.length cap) l:=HL.out.below HS.out.1;obtain⟨bb,off,u,rfl,Lw,hc,hu⟩:=et.get QJ hx;obtain⟨b0,off0,u0,Qy,-,Na,hu0⟩:=et.get HL.out hx;injection Qy with Qy;injection Qy with e1 e2;subst e1 e2;have hlt0:bb < w0.heap.size:=by
   have:=aT w0 _ (Na 0 _ rfl);exact this
  have c0:=(HS.out.1.cell hlt0).trans (Na 0 _ rfl);have c1:=(HS.out.1.cell hlt0).trans (Na 1 _ rfl);have c2:=(HS.out.1.cell hlt0).trans (Na 2 _ rfl);have c3:=(HS.out.1.cell hlt0).trans (Na 3 _ rfl);rw [aK]at c0;have HX:=V hx;have HU:=V hu0;have HXM:=V (HM.out x (aO hx));obtain⟨⟨au,Lx,rfl,-,-,-⟩,-⟩:=id hu0;clear hc Na hu hx hu0 QJ;go_wp2_with fail;have Mn:=V (HW.out.alloc (.cells #[.int .i64 x.op, .int .i64 x.a, .int .i64 x.b, .slice au x.l.length Lx] 27));have NB:=V (HS.out.alloc (.cells #[.int .i64 x.op, .int .i64 x.a, .int .i64 x.b, .slice au x.l.length Lx] 27));refine(oH w0 _ _ x _ B _ Mn.out.1 (by simp only [ah];omega) (Mn.out.base hB) HU.out NB.out HXM.out).mono ?_;rintro e w2 ⟨v2,rfl,LL,Lv,LB⟩;have LH:=V (Mn.out.step ⟨LL,Lv,LB⟩);have LZ:=V (NB.out.next Mn.out.1 ⟨LL,Lv,LB⟩);clear LL Lv LB c0 c1 c2 c3;go_wp2_with fail;refine HR.out _ _ ⟨_,k+1,rfl,by omega,?_,LZ.out⟩ ?_
  ·have:=LH.out
   rw [aR,HX.out];simpa using this
  ·simp [intOf]
   omega
theorem Ep {x:gS} (hm:x.may) (ho:∀y∈x.body,y.ok):(iE x).length <=160000:=by
 have h1:=vC hm.2.1.1;have h2:=rU hm.2.2.2 ho;have h3:530*x.body.length <=530*300:=dQ _ hm.2.2.1;have h4:=(eO (mB x).length).2;simp only [iE,mB,mT,ah,aB]at*;omega
theorem pO (x:gf):(oneOf x).length <=1:=by
 unfold oneOf;split <;>simp
structure eI.Fits (m:eI):Prop where
 v1:(ff lh m.types).length <=2000
 v2:(ff nQ m.imports).length <=2000
 v3:(ff sb m.funcs).length <=2000
 v4:(ff jC (oneOf m.table)).length <=2000
 v5:(ff gQ (oneOf m.mem)).length <=2000
 v6:(ff kV m.globals).length <=2000
 v7:(ff oo m.ep).length <=2000
 v9:(ff kZ m.elems).length <=10000
 v10:(ff iE m.eA).length <=3000000
 v11:(ff oa m.eK).length <=20000
 s1:(fM (b8 1) lh m.types).length <=2100
 s2:(fM (b8 2) nQ m.imports).length <=2100
 s3:(fM (b8 3) sb m.funcs).length <=2100
 s4:(fM (b8 4) jC (oneOf m.table)).length <=2100
 s5:(fM (b8 5) gQ (oneOf m.mem)).length <=2100
 s6:(fM (b8 6) kV m.globals).length <=2100
 s7:(fM (b8 7) oo m.ep).length <=2100
 s9:(fM (b8 9) kZ m.elems).length <=11000
 G3:(fM (b8 10) iE m.eA).length <=3010000
 G4:(fM (b8 11) oa m.eK).length <=21000
theorem eI.wu.fits {m:eI} (h:m.wu) (hg:∀x∈m.globals,x.init.ok) (ho:∀x∈m.eA,∀y∈x.body,y.ok):m.Fits:=by
 obtain⟨⟨_,n10,h10⟩,⟨⟨⟨n1,h1⟩,⟨n2,h2⟩,n3,h3⟩,⟨n6,h6⟩,⟨n7,h7⟩,⟨n9,h9⟩,n11,h11⟩,h4,h5⟩:=h;have n3:m.funcs.length <=16:=by omega
 have t1:=fun x hx=>FB (h1 x hx);have t2:=fun x hx=>Hl (h2 x hx);have t6:=fun x hx=>F5 (hg x hx);have t7:=fun x hx=>Ix (h7 x hx);have t9:=fun x hx=>GN (h9 x hx);have t10:=fun x hx=>Ep (h10 x hx) (ho x hx);have t11:=fun x hx=>IK (h11 x hx);have a1:=jN lh 100 16 m.types t1 n1;have a2:=jN nQ 100 16 m.imports t2 n2;have a3:=jN sb 10 16 m.funcs (fun x _=>sv x) n3;have a4:=jN jC 31 1 (oneOf m.table) (fun x _=>wP x) (pO _);have a5:=jN gQ 30 1 (oneOf m.mem) (fun x _=>qy x) (pO _);have a6:=jN kV 14 16 m.globals t6 n6;have a7:=jN oo 100 16 m.ep t7 n7;have a9:=jN kZ 600 16 m.elems t9 n9;have a10:=jN iE 160000 16 m.eA t10 n10;have a11:=jN oa 1100 16 m.eK t11 n11;have b1:=nM (b8 1) lh 100 16 m.types t1 n1;have b2:=nM (b8 2) nQ 100 16 m.imports t2 n2;have b3:=nM (b8 3) sb 10 16 m.funcs (fun x _=>sv x) n3;have b4:=nM (b8 4) jC 31 1 (oneOf m.table) (fun x _=>wP x) (pO _);have b5:=nM (b8 5) gQ 30 1 (oneOf m.mem) (fun x _=>qy x) (pO _);have b6:=nM (b8 6) kV 14 16 m.globals t6 n6;have b7:=nM (b8 7) oo 100 16 m.ep t7 n7;have b9:=nM (b8 9) kZ 600 16 m.elems t9 n9;have b10:=nM (b8 10) iE 160000 16 m.eA t10 n10;have b11:=nM (b8 11) oa 1100 16 m.eK t11 n11
 constructor <;>omega
theorem Bs (m:eI):fJ m=((((((((((fL++fM (b8 1) lh m.types)++fM (b8 2) nQ m.imports)++fM (b8 3) sb m.funcs)++fM (b8 4) jC (oneOf m.table))++fM (b8 5) gQ (oneOf m.mem))++fM (b8 6) kV m.globals)++fM (b8 7) oo m.ep)++fM (b8 9) kZ m.elems)++fM (b8 10) iE m.eA)++fM (b8 11) oa m.eK):=by
 have e1:b8 1=1:=rfl;have e2:b8 2=2:=rfl;have e3:b8 3=3:=rfl;have e4:b8 4=4:=rfl;have e5:b8 5=5:=rfl;have e6:b8 6=6:=rfl;have e7:b8 7=7:=rfl;have e9:b8 9=9:=rfl;have e10:b8 10=10:=rfl;have e11:b8 11=11:=rfl;rw [e1,e2,e3,e4,e5,e6,e7,e9,e10,e11];simp only [fJ,pK,aP]
theorem nJ (l:List UInt8) (w:World):(Builtin.firstCells 1 l.length (.string (bs l))).run prog w= .ok (l.map bv).toArray w:=by
 have h:((bs l).extract 0 l.length).data.map (fun b:UInt8=>Value.int IntKind.u8 (b.toNat:Int))=(l.map bv).toArray:=by
  have e:(bs l).extract 0 l.length=bs l:=by
   apply ByteArray.ext;simp [bs]
  rw [e];simp [bs]
 simp only [Builtin.firstCells,cg,h]
theorem zh (w:World) (B:Nat) (ty:TypeId) (v:Value) (l m:List UInt8) (Lo:eg w B v l) (PC:l.length+m.length <=140737488355327) (LY:B <=w.heap.size):
  ∃v' w',(Builtin.append_ #[97,9] ty #[v, .string (bs m)]).run prog w= .ok v' w'/\eg w' B v' (l++m)/\ee (eH v) w w'/\eM w v v':=by
 obtain⟨i0,hi,NW,MP,Nu⟩:=bX oW;have ht:prog.underlying 97=some (.slice 5):=by kernel_rfl
 have hu:prog.underlying 9=some .string:=by kernel_rfl
 have hs:(bs m).size=m.length:=CH m;have grown:∀(old:Nat),old < l.length+m.length ->
   eg (w.drew.alloc (.cells ((l.map bv).toArray++(m.map bv).toArray++Builtin.zeroCells #[.int .u8 0] (grownCap w (l.length+m.length) old 5 - (l.length+m.length))) 5)) B
    (.slice (some ⟨w.heap.size,0,none⟩) (l.length+m.length) (grownCap w (l.length+m.length) old 5)) (l++m)/\
   ee (eH v) w (w.drew.alloc (.cells ((l.map bv).toArray++(m.map bv).toArray++Builtin.zeroCells #[.int .u8 0] (grownCap w (l.length+m.length) old 5 - (l.length+m.length))) 5))/\
   eM w v (.slice (some ⟨w.heap.size,0,none⟩) (l.length+m.length) (grownCap w (l.length+m.length) old 5)):=by
  intro old ho;have hge:=grownCap_ge w (l.length+m.length) old 5;have NC:grownCap w (l.length+m.length) old 5 <=maxLen:=dU w (l.length+m.length) old 5 (by simp only [maxLen];omega);refine⟨⟨by simp, .inr ⟨w.heap.size,_,_,?_,LY,dw w.drew _,?_,NC,?_,?_⟩⟩,(ee.refl _ _).drew.alloc _,fun k hk=> .inr ?_⟩
  ·rw [ah]
  ·rw [ah];exact hge
  ·simp [size_zeroCells]
   omega
  ·simp only [Array.toList_append,aP]
   rw [<- aP,bY,bq,show(l++m).length=(l.map bv++m.map bv).length from by simp];exact cP
  ·simp [eH,Value.ownBlock]at hk
   omega
 rcases Lo.2 with⟨rfl,h0⟩ | ⟨g,cap,cur,rfl,hbg,hg,hnc,NC,RG,RH⟩
 ·obtain rfl:l=[]:=aH h0
  by_cases hm:m.length=0
  ·obtain rfl:m=[]:=aH hm
   refine⟨.slice none 0 0,w,?_,eg.nil _ _,ee.refl _ _,eM.refl _ _⟩;have hf:=nJ [] w;simp only [aL]at hf;simp [Builtin.append_,bx ht,bx hu,sizeOf,typeInfo,hi,MP,Builtin.lenOf,hs,hf]
  ·have hr:=run_append_nil_string (P:=prog) w 97 9 ty 5 i0 (.int .u8 0) ht hu hi NW (bs m) (by omega) (by omega) (by rw [Nu];omega)
   have PY:=grown 0 (by simp;omega);have e1:(bs m).data.map (fun b:UInt8=>Value.int IntKind.u8 (b.toNat:Int))=(m.map bv).toArray:=by simp [bs]
   rw [hs,e1]at hr;simp only [aL,bP,cV,bL,Array.empty_append]at PY;exact⟨_,_,hr,PY.1,PY.2.1,PY.2.2⟩
 ·simp only [bq]at RG RH
  by_cases Pk:l.length+m.length <=cap
  ·have hf:=nJ m w
   have LI:=run_storeCells_at prog g l.length 5 (m.map bv) 0 cur w hg (by simp;omega) (B9 m);simp only [aK]at LI;refine⟨.slice (some ⟨g,0,none⟩) (l.length+m.length) cap,w.setRow g (cur.toList.take l.length++m.map bv++cur.toList.drop (l.length+(m.map bv).length)).toArray,?_,⟨by simp, .inr ⟨g,cap,_,by rw [ah],hbg,setRow_heap w g cur _ _ _ hg,by rw [ah];exact Pk,NC,?_,?_⟩⟩,⟨rfl,rfl,rfl,by simp,fun k _ hk=>setRow_other w g k _ (fun e=>hk (by simp [eH,Value.ownBlock,e]))⟩,fun k hk=> .inl hk⟩
   ·simp [Builtin.append_,bx ht,bx hu,sizeOf,typeInfo,hi,MP,Builtin.lenOf,hs,Pk,hf,Addr.add_lit,LI]
   ·simp only [dG,ah,aS,bu,Array.length_toList,bM]
    omega
   ·rw [RH,bY,bq,show(l++m).length=(l.map bv++m.map bv).length from by simp]
    exact cP
  ·have holds:∀j u,(l.map bv)[j]?=some u ->w.cell? ((⟨g,0,none⟩:Addr).add j)=some u:=Lo.cells (g:=g) rfl
   have hn:¬ (l.length+m.length <=cap):=Pk;have h63':¬ (9223372036854775807 < ((l.length:Int)+(m.length:Int))):=by omega
   have h48':¬ (281474976710656 < Builtin.nextslicecap (l.length+m.length) cap*i0.bytes):=by
    have:=growslice_fits (need:=l.length+m.length) (old:=cap) (bytes:=1) (by omega) (by omega);rw [Nu];omega
   have hf:=nJ m w.drew;have hfo:=run_firstCells_some (P:=prog) w.drew 1 l.length ⟨g,0,none⟩ l.length cap (l.map bv) (by simp) (by simpa using holds);have PY:=grown cap (by omega);refine⟨_,_,?_,PY.1,PY.2.1,PY.2.2⟩;rw [Nu,bq]at h48';simp [Builtin.append_,bx ht,bx hu,sizeOf,typeInfo,zeroValue,hi,NW,MP,Nu,Builtin.lenOf,hs,hn,h63',h48',Question.forced,hf,hfo,newRow,grownCap]
   congr 2
   apply Array.ext';simp [aP];rfl
theorem Cj {P:Program} (w:World) {ops:Array Oper} {rest:List Oper} {o:Oper} {a:Act} {Q:Exit ->Act ->World ->Prop} (O9:o.guard=none) (s x:Operand)
  (hP:P=prog) (ho:o.op= .call {callee:= .builtin .append,args:=#[s,x],argTypes:=#[97,9]})
  (B:Nat) (v:Value) (l m:List UInt8) (hs:a.eval s=v) (Lo:eg w B v l) (hx:a.eval x= .string (bs m))
  (PC:l.length+m.length <=140737488355327) (LY:B <=w.heap.size)
  (h:∀v' w',eg w' B v' (l++m) ->ee (eH v) w w' ->eM w v v' ->wpList P ops Q rest (a.put o.dst v') w'):wpList P ops Q (o::rest) a w:=by
 subst hP;refine dV O9 fun _ hK=>?_;obtain⟨v',w',hr,h2,h3,h4⟩:=zh w B o.type v l m Lo PC LY;unfold Oper.wp execOp;simp only [ho,resolve,invoke,builtin,cL,cg,cC,dy,bG,cV,hs,hx,hr];exact hK _ _ (h v' w' h2 h3 h4)
theorem fU (b:Value) (xs:List UInt8) (u:Nat) (h1:u <=9223372036854775807) (B:Nat) (w:World) (Lo:eg w B b xs) (hn:xs.length <=1000000000) (hB:B <=w.heap.size):
  Calls prog 175 #[b, .int .i64 u] w (fE xs (eY u) B b w):=by
 go_enter func175,ntmps175;go_wp2_with fail;refine(jk b xs u (by omega) B w Lo hn hB).mono ?_;rintro x w2 ⟨v,rfl,h2,h3,h4⟩;go_wp2_with fail;go_ret;exact⟨v,rfl,h2,h3,h4⟩
theorem nD (b:Value) (xs:List UInt8) (k:Int) (B:Nat) (w:World) (Lo:eg w B b xs) (hn:xs.length <=900000000) (hB:B <=w.heap.size):
  Calls prog 172 #[b, .int .i64 k] w (fE xs (jw k) B b w):=by
 have HW:=V (Wr.refl Lo);by_cases q:k=1
 ·have f1:=eQ q
  have HB:Hid (jw k=[127]):=V (by simp [jw,q]);clear q Lo;go_enter func172,ntmps172;go_wp2_with (first | (at_builtin;refine fi w rfl _ _ rfl rfl B b _ rfl HW.out.1 (127:UInt8) _ rfl rfl (by first | omega | (simp only [ah];omega) | (simp only [ah,aB];omega) | (simp only [ah,aF,aL];omega)) (HW.out.base hB) ?_));intro v2 w2 ho hk hs;have LH:=V (HW.out.step ⟨ho,hk,hs⟩);clear ho hk hs;go_wp2_with fail;go_ret;exact⟨_,rfl,by rw [HB.out];exact LH.out⟩
 ·have f1:=ed q
  have HB:Hid (jw k=[126]):=V (by simp [jw,q]);clear q Lo;go_enter func172,ntmps172;go_wp2_with (first | (at_builtin;refine fi w rfl _ _ rfl rfl B b _ rfl HW.out.1 (126:UInt8) _ rfl rfl (by first | omega | (simp only [ah];omega) | (simp only [ah,aB];omega) | (simp only [ah,aF,aL];omega)) (HW.out.base hB) ?_));intro v2 w2 ho hk hs;have LH:=V (HW.out.step ⟨ho,hk,hs⟩);clear ho hk hs;go_wp2_with fail;go_ret;exact⟨_,rfl,by rw [HB.out];exact LH.out⟩
theorem mX (b:Value) (xs:List UInt8) (s:ByteArray) (B:Nat) (w:World) (Lo:eg w B b xs) (hn:xs.length <=900000000) (hs:s.data.toList.length <=1000000) (hB:B <=w.heap.size):
  Calls prog 176 #[b, .string s] w (fE xs (pa s) B b w):=by
 have HW:=V (Wr.refl Lo);obtain⟨n,hn2⟩:∃n,s.data.toList.length=n:=⟨_,rfl⟩;have HN:=V hn2;have hp:=(eO n).2;rw [hn2]at hs;have Mr:s.size=n:=hn2;have HB:Hid (pa s=eY n++s.data.toList):=V (by rw [pa,hn2]);clear Lo hn2;go_enter func176,ntmps176;go_wp2_with fail;refine(fU b _ n (by omega) B _ HW.out.1 (by first | omega | (simp only [ah];omega) | (simp only [ah,aB];omega) | (simp only [ah,aF,aL];omega)) (HW.out.base hB)).mono ?_;rintro e w2 ⟨v2,rfl,ho,hk,hs⟩;have LH:=V (HW.out.step ⟨ho,hk,hs⟩);clear ho hk hs;go_wp2_with (first | (at_builtin;refine Cj w2 rfl _ _ rfl rfl B v2 _ s.data.toList rfl LH.out.1 rfl (by rw [HN.out];simp only [ah];omega) (LH.out.base hB) ?_));intro v3 w3 ho hk hs;have Ni:=V (LH.out.step ⟨ho,hk,hs⟩);clear ho hk hs;go_wp2_with fail;go_ret;exact⟨_,rfl,by rw [HB.out];exact Ni.out⟩
theorem Ek (w:World) (op n:Int) (h1:iP op) (h2:iP n):gZ w ⟨op,n,0,[]⟩ (.slice none 0 0):=⟨ew.nil w,h1,h2,yD,by simp⟩
theorem K6:iP 65:=⟨by decide,by decide⟩
theorem La:iP 66:=⟨by decide,by decide⟩
def sf (w:World):World:={w with heap:=#[]}
theorem uo (w:World) (B:Nat):Src (sf w) w B:=⟨⟨rfl,rfl,rfl,by simp [sf],fun k hk=>by simp [sf]at hk⟩,by simp [sf]⟩
theorem oG (b:Value) (xs:List UInt8) (v:fm) (B:Nat) (w:World) (Lo:eg w B b xs) (hn:xs.length <=800000000) (hB:B <=w.heap.size) (hm:v.may) (ho:v.ok):
  Calls prog 184 #[b, .agg #[.int .i64 v.kind, .int .i64 v.n]] w (fE xs (mw v) B b w):=by
 obtain⟨k,n⟩:=v;have hl:=rT ho;have HW:=V ((Wr.refl Lo).alloc (.cells #[.int .i64 k, .int .i64 n] 42));have c0:(w.alloc (.cells #[.int .i64 k, .int .i64 n] 42)).cell? ⟨w.heap.size,0,none⟩=some (.int .i64 k):=(eP.new w _ _).cell 0;have c1:(w.alloc (.cells #[.int .i64 k, .int .i64 n] 42)).cell? ⟨w.heap.size,1,none⟩=some (.int .i64 n):=(eP.new w _ _).cell 1;have HO:=V ho;have HM:=V hm;clear Lo ho hm;by_cases q:k=2
 ·skip
  have f1:=eQ q;have HB:Hid (mw ⟨k,n⟩=iC ⟨66,n,0,[]⟩++[11]):=V (by simp [mw,q]);rw [HB.out]at hl;simp only [ah,aB]at hl;clear q;go_enter func184,ntmps184;go_wp2_with fail;refine(oH (sf w) b xs ⟨66,n,0,[]⟩ (.slice none 0 0) B _ HW.out.1 (by omega) (HW.out.base hB) (Ek _ _ _ La HO.out.2) ((uo w B).alloc _) (I7 n)).mono ?_;rintro e w2 ⟨v2,rfl,ho,hk,hs⟩;have LH:=V (HW.out.step ⟨ho,hk,hs⟩);clear ho hk hs;go_wp2_with (first | (at_builtin;refine fi w2 rfl _ _ rfl rfl B v2 _ rfl LH.out.1 (11:UInt8) _ rfl rfl (by first | omega | (simp only [ah];omega) | (simp only [ah,aB];omega) | (simp only [ah,aF,aL];omega)) (LH.out.base hB) ?_));intro v3 w3 ho hk hs;have Ni:=V (LH.out.step ⟨ho,hk,hs⟩);clear ho hk hs;go_wp2_with fail;go_ret;exact⟨_,rfl,by rw [HB.out];exact Ni.out⟩
 ·have hM:eS.may ⟨65,n,0,[]⟩:=by
   rcases HM.out with h | ⟨_,h1,h2⟩
   ·exact absurd h q
   ·exact Ex h1 h2
  have Mt:=V hM;clear hM;have f1:=ed q;have HB:Hid (mw ⟨k,n⟩=iC ⟨65,n,0,[]⟩++[11]):=V (by simp [mw,q]);rw [HB.out]at hl;simp only [ah,aB]at hl;clear q;go_enter func184,ntmps184;go_wp2_with fail;refine(oH (sf w) b xs ⟨65,n,0,[]⟩ (.slice none 0 0) B _ HW.out.1 (by omega) (HW.out.base hB) (Ek _ _ _ K6 HO.out.2) ((uo w B).alloc _) Mt.out).mono ?_;rintro e w2 ⟨v2,rfl,ho,hk,hs⟩;have LH:=V (HW.out.step ⟨ho,hk,hs⟩);clear ho hk hs;go_wp2_with (first | (at_builtin;refine fi w2 rfl _ _ rfl rfl B v2 _ rfl LH.out.1 (11:UInt8) _ rfl rfl (by first | omega | (simp only [ah];omega) | (simp only [ah,aB];omega) | (simp only [ah,aF,aL];omega)) (LH.out.base hB) ?_));intro v3 w3 ho hk hs;have Ni:=V (LH.out.step ⟨ho,hk,hs⟩);clear ho hk hs;go_wp2_with fail;go_ret;exact⟨_,rfl,by rw [HB.out];exact Ni.out⟩
theorem wZ (b:Value) (xs:List UInt8) (n:Int) (B:Nat) (w:World) (Lo:eg w B b xs) (hn:xs.length <=700000000) (hB:B <=w.heap.size) (hm:mC n):
  Calls prog 189 #[b, .int .i64 n] w (fE xs (nL n) B b w):=by
 have HW:=V (Wr.refl Lo);have HM:=V hm;obtain⟨m1,m2⟩:=id hm;clear Lo hm;go_enter func189,ntmps189;go_wp2_with (first | (at_builtin;refine fi w rfl _ _ rfl rfl B b _ rfl HW.out.1 (0:UInt8) _ rfl rfl (by first | omega | (simp only [ah];omega) | (simp only [ah,aB];omega) | (simp only [ah,aF,aL];omega)) (HW.out.base hB) ?_));intro v2 w2 ho hk hs;have LH:=V (HW.out.step ⟨ho,hk,hs⟩);clear ho hk hs;go_wp2_with fail;refine(oG v2 _ ⟨1,n⟩ B w2 LH.out.1 (by simp only [ah,aB];omega) (LH.out.base hB) (.inr ⟨rfl,m1,m2⟩) ⟨⟨by show(-9223372036854775808:Int) <=1;decide,by show(1:Int) <=9223372036854775807;decide⟩,by show(-9223372036854775808:Int) <=n;omega,by show n <=(9223372036854775807:Int);omega⟩).mono ?_;rintro e w3 ⟨v3,rfl,ho,hk,hs⟩;have Ni:=V (LH.out.step ⟨ho,hk,hs⟩);clear ho hk hs;go_wp2_with fail;go_ret;exact⟨_,rfl,by rw [nL,List.append_cons];exact Ni.out⟩
theorem qo (b:Value) (xs:List UInt8) (x:gf) (B:Nat) (w:World) (Lo:eg w B b xs) (hn:xs.length <=700000000) (hB:B <=w.heap.size) (h0:0 <=x.min) (hm: -1 <=x.max) (ho:x.ok):
  Calls prog 181 #[b, .agg #[.bool x.has, .int .i64 x.min, .int .i64 x.max]] w (fE xs (gQ x) B b w):=by
 obtain⟨o1,o2⟩:=ho;obtain⟨has,mn,mx⟩:=x;simp only at h0 hm o1 o2;unfold iP at o1 o2;obtain⟨n,rfl⟩:∃n:Nat,mn=n:=⟨mn.toNat,by omega⟩;have hp:=(eO n).2;by_cases q:mx < 0
 ·have f1:decide (mx < 0)=true:=aA q
  have HB:Hid (gQ ⟨has,n,mx⟩=0::eY n):=V (by simp only [gQ];rw [aJ q];rfl);clear q;have HW:=V ((Wr.refl Lo).alloc (.cells #[.bool has, .int .i64 n, .int .i64 mx] 55));have HA:=V (Aside.new Lo #[.bool has, .int .i64 n, .int .i64 mx] 55);clear Lo;have c2:(w.alloc (.cells #[.bool has, .int .i64 n, .int .i64 mx] 55)).cell? ⟨w.heap.size,2,none⟩=some (.int .i64 mx):=HA.out.cell 2;go_enter func181,ntmps181;go_wp2_with fail;refine eu (fun w'=>w'.cell? ⟨w.heap.size,1,none⟩=some (.int .i64 n)) [(0,true),(3,true),(4,true),(1,false),(2,false),(5,false),(6,true)] (by kernel_rfl) (by kernel_rfl) (HA.out.cell 1) ?_;clear c2;have HW:=V HW.out.drew;have HA:=V HA.out.drew;obtain⟨X,hX⟩:∃X,X=w.heap.size:=⟨_,rfl⟩;rw [<- hX]at HA⊢;clear hX;generalize(w.alloc (.cells #[.bool has, .int .i64 n, .int .i64 mx] 55)).drew=wa at HW HA⊢;iterate 3 (first | (apply sk rfl rfl;simp only [pt]) | (apply ef rfl rfl rfl;·(rintro w' t1;go_wp2;exact⟨rfl,rfl,rfl⟩)))
  refine eo rfl rfl ?_;go_wp2_with fail;refine⟨(HA.out.alloc _).cell 1,?_⟩;refine eo rfl rfl ?_;go_wp2_with (first | (at_builtin;refine fi wa rfl _ _ rfl rfl B b _ rfl HW.out.1 (0:UInt8) _ rfl rfl (by first | omega | (simp only [ah];omega) | (simp only [ah,aB];omega) | (simp only [ah,aF,aL];omega)) (HW.out.base hB) ?_));intro v1 w1 ho hk hs;have HA:=V (HA.out.next ⟨ho,hk,hs⟩);have HW:=V (HW.out.step ⟨ho,hk,hs⟩);clear ho hk hs;go_wp2_with fail;refine⟨HA.out.cell 1,?_⟩;refine eo rfl rfl ?_;go_wp2_with fail;refine(fU v1 _ n (by omega) B w1 HW.out.1 (by simp only [ah,aF,aL];omega) (HW.out.base hB)).mono ?_;rintro e w2 ⟨v2,rfl,ho,hk,hs⟩;have HA:=V (HA.out.next ⟨ho,hk,hs⟩);have HW:=V (HW.out.step ⟨ho,hk,hs⟩);clear ho hk hs;go_wp2_with fail;refine⟨HA.out.cell 1,?_⟩;iterate 1 (first | (apply sk rfl rfl;simp only [pt]) | (apply ef rfl rfl rfl;·(rintro w' t1;go_wp2;exact⟨rfl,rfl,rfl⟩)))
  refine eV ?_;refine aD ?_;go_wp2_with fail;go_ret;exact⟨_,rfl,by rw [HB.out];have h:=HW.out;simp only [aP,bI,bL]at h;exact h⟩
 ·have f1:decide (mx < 0)=false:=aq q
  obtain⟨m,rfl⟩:∃m:Nat,mx=m:=⟨mx.toNat,by omega⟩;have Qc:=(eO m).2;have HB:Hid (gQ ⟨has,n,m⟩=1::(eY n++eY m)):=V (by simp only [gQ];rw [aC q];rfl);clear q;have HW:=V ((Wr.refl Lo).alloc (.cells #[.bool has, .int .i64 n, .int .i64 m] 55));have HA:=V (Aside.new Lo #[.bool has, .int .i64 n, .int .i64 m] 55);clear Lo;have c2:(w.alloc (.cells #[.bool has, .int .i64 n, .int .i64 m] 55)).cell? ⟨w.heap.size,2,none⟩=some (.int .i64 m):=HA.out.cell 2;go_enter func181,ntmps181;go_wp2_with fail;refine eu (fun w'=>w'.cell? ⟨w.heap.size,1,none⟩=some (.int .i64 n)/\w'.cell? ⟨w.heap.size,2,none⟩=some (.int .i64 m)) [(0,true),(3,true),(4,true),(6,true),(7,true),(1,false),(2,false),(5,false),(8,false),(9,true)] (by kernel_rfl) (by kernel_rfl) ⟨HA.out.cell 1,HA.out.cell 2⟩ ?_;clear c2;have HW:=V HW.out.drew;have HA:=V HA.out.drew;obtain⟨X,hX⟩:∃X,X=w.heap.size:=⟨_,rfl⟩;rw [<- hX]at HA⊢;clear hX;generalize(w.alloc (.cells #[.bool has, .int .i64 n, .int .i64 m] 55)).drew=wa at HW HA⊢;iterate 5 (first | (apply sk rfl rfl;simp only [pt]) | (apply ef rfl rfl rfl;·(rintro w' ⟨t1,t2⟩;go_wp2;exact⟨rfl,rfl,rfl⟩)))
  refine eo rfl rfl ?_;go_wp2_with fail;refine⟨⟨(HA.out.alloc _).cell 1,(HA.out.alloc _).cell 2⟩,?_⟩;refine eo rfl rfl ?_;go_wp2_with (first | (at_builtin;refine fi wa rfl _ _ rfl rfl B b _ rfl HW.out.1 (1:UInt8) _ rfl rfl (by first | omega | (simp only [ah];omega) | (simp only [ah,aB];omega) | (simp only [ah,aF,aL];omega)) (HW.out.base hB) ?_));intro v1 w1 ho hk hs;have HA:=V (HA.out.next ⟨ho,hk,hs⟩);have HW:=V (HW.out.step ⟨ho,hk,hs⟩);clear ho hk hs;go_wp2_with fail;refine⟨⟨HA.out.cell 1,HA.out.cell 2⟩,?_⟩;refine eo rfl rfl ?_;go_wp2_with fail;refine(fU v1 _ n (by omega) B w1 HW.out.1 (by simp only [ah,aF,aL];omega) (HW.out.base hB)).mono ?_;rintro e w2 ⟨v2,rfl,ho,hk,hs⟩;have HA:=V (HA.out.next ⟨ho,hk,hs⟩);have HW:=V (HW.out.step ⟨ho,hk,hs⟩);clear ho hk hs;go_wp2_with fail;refine⟨⟨HA.out.cell 1,HA.out.cell 2⟩,?_⟩;refine eo rfl rfl ?_;go_wp2_with fail;refine(fU v2 _ m (by omega) B w2 HW.out.1 (by simp only [ah,aF,aL];omega) (HW.out.base hB)).mono ?_;rintro e w3 ⟨v3,rfl,ho,hk,hs⟩;have HA:=V (HA.out.next ⟨ho,hk,hs⟩);have HW:=V (HW.out.step ⟨ho,hk,hs⟩);clear ho hk hs;go_wp2_with fail;refine⟨⟨HA.out.cell 1,HA.out.cell 2⟩,?_⟩;iterate 1 (first | (apply sk rfl rfl;simp only [pt]) | (apply ef rfl rfl rfl;·(rintro w' ⟨t1,t2⟩;go_wp2;exact⟨rfl,rfl,rfl⟩)))
  refine eV ?_;refine aD ?_;go_wp2_with fail;go_ret;exact⟨_,rfl,by rw [HB.out];have h:=HW.out;simp only [aP,bI,bL]at h;exact h⟩
theorem CM (x:gf) (w:World):Calls prog 179 #[.agg #[.bool x.has, .int .i64 x.min, .int .i64 x.max]] w (fun e w'=>∃v,e= .returned v/\ew 3 (fun x:gf=>[.bool x.has, .int .i64 x.min, .int .i64 x.max]) w' v (oneOf x)/\Below w.heap.size w w'):=by
 obtain⟨has,mn,mx⟩:=x;cases has with
 | false=>
  go_enter func179,ntmps179;go_wp2_with fail;go_ret;exact⟨_,rfl,ew.nil _,(an _ _).alloc (ag _) _⟩
 | true=>
  go_enter func179,ntmps179;go_wp2_with fail;go_ret;have hx:eP (((w.alloc (.cells #[.bool true, .int .i64 mn, .int .i64 mx] 55)).alloc (.cells #[.bool true, .int .i64 mn, .int .i64 mx] 55))) (w.heap.size+1) #[.bool true, .int .i64 mn, .int .i64 mx] 55:=by have:=eP.new (w.alloc (.cells #[.bool true, .int .i64 mn, .int .i64 mx] 55)) #[.bool true, .int .i64 mn, .int .i64 mx] 55;rw [aE]at this;exact this
  refine⟨_,rfl,⟨some ⟨w.heap.size+1,0,none⟩,1,rfl,ag _,by simp [maxLen],fun i x hi=>⟨w.heap.size+1,0,rfl,hx.lt,fun j u hu=>?_⟩⟩,((an _ _).alloc (ag _) _).alloc (by rw [aE];omega) _⟩;obtain rfl:i=0:=by
   have:=(aM.1 hi).1;simp [oneOf]at this;omega
  simp only [oneOf,dc,aG,aX]at hi;subst hi;rw [Nat.zero_mul,bP];have:=hx.cell j;rw [this];simpa using hu
def Row (w:World) (B:Nat) (b:Value) (xs:List UInt8):Prop:=
 eg w B b xs\/∃g,b= .slice (some ⟨g,0,none⟩) xs.length xs.length/\eW w b xs/\B <=g/\g < w.heap.size
theorem Row.lt {w:World} {B:Nat} {b:Value} {xs:List UInt8} (h:Row w B b xs) {i:Nat} (hi:eH b i):B <=i/\i < w.heap.size:=by
 rcases h with h | ⟨g,rfl,_,h1,h2⟩
 ·exact eE h hi
 ·simp [eH,Value.ownBlock]at hi
  subst hi;exact⟨h1,h2⟩
theorem Row.below {w w':World} {B:Nat} {b:Value} {xs:List UInt8} (h:Row w B b xs) (hb:Below w.heap.size w w'):Row w' B b xs:=by
 rcases h with h | ⟨g,rfl,h0,h1,h2⟩
 ·exact .inl (eg.below h hb)
 ·exact .inr ⟨g,rfl,h0.below hb,h1,by have:=hb.size;omega⟩
theorem Row.fF {w:World} {B:Nat} {b:Value} {xs:List UInt8} (h:Row w B b xs):eW w b xs:=by
 rcases h with h | ⟨g,_,h0,_⟩
 ·exact eg.fF h
 ·exact h0
def sT (w:World) (b:Value) (B:Nat) (w':World) (v:Value) (L:List UInt8):Prop:=Row w' B v L/\ee (eH b) w w'/\eM w b v
theorem sT.refl {w:World} {b:Value} {B:Nat} {L:List UInt8} (h:Row w B b L):sT w b B w b L:=⟨h,ee.refl _ _,eM.refl _ _⟩
theorem sT.below {w w1 w2:World} {b v:Value} {B:Nat} {L:List UInt8} (h:sT w b B w1 v L) (hb:Below w1.heap.size w1 w2):sT w b B w2 v L:=
 ⟨h.1.below hb,h.2.1.trans (ee.eh (S:=fun _=>False) hb) (fun _ hi=>hi.elim),h.2.2⟩
theorem sT.base {w w1:World} {b v:Value} {B:Nat} {L:List UInt8} (h:sT w b B w1 v L) (hB:B <=w.heap.size):B <=w1.heap.size:=aW hB h.2.1.size
theorem sT.own {w w1 w2:World} {b v1 v2:Value} {B:Nat} {L1 L2:List UInt8} (h:sT w b B w1 v1 L1) (k:eg w2 B v2 L2/\ee (eH v1) w1 w2/\eM w1 v1 v2):Wr w b B w2 v2 L2:=
 ⟨k.1,h.2.1.trans k.2.1 (fun i hi=>h.2.2 i hi),h.2.2.trans k.2.2 h.2.1.size⟩
theorem sT.step {w w1 w2:World} {b v1 v2:Value} {B:Nat} {L1 L2:List UInt8} (h:sT w b B w1 v1 L1) (k:sT w1 v1 B w2 v2 L2):sT w b B w2 v2 L2:=
 ⟨k.1,h.2.1.trans k.2.1 (fun i hi=>h.2.2 i hi),h.2.2.trans k.2.2 h.2.1.size⟩
theorem Wr.row {w w1:World} {b v:Value} {B:Nat} {L:List UInt8} (h:Wr w b B w1 v L):sT w b B w1 v L:=⟨.inl h.1,h.2⟩
def mM (xs ys:List UInt8) (B:Nat) (b:Value) (w:World) (e:Ending) (w':World):Prop:=∃v',e= .returned v'/\sT w b B w' v' (xs++ys)
theorem iB {P:Program} (w:World) {ops:Array Oper} {rest:List Oper} {o:Oper} {a:Act} {Q:Exit ->Act ->World ->Prop} (O9:o.guard=none) (s x:Operand)
  (hP:P=prog) (ho:o.op= .call {callee:= .builtin .append,args:=#[s,x],argTypes:=#[97,97]})
  (B:Nat) (v:Value) (l:List UInt8) (hs:a.eval s=v) (Lo:Row w B v l)
  (y:UInt8) (m:Int) (hm:m=y.toNat) (hx:a.eval x= .slice (some ⟨w.heap.size,0,none⟩) 1 1)
  (PC:l.length <=1000000000) (LY:B <=w.heap.size)
  (h:∀v' w',eg w' B v' (l++[y]) ->ee (eH v) w w' ->eM w v v' ->wpList P ops Q rest (a.put o.dst v') w'):wpList P ops Q (o::rest) a (w.alloc (.cells #[.int .u8 m] 5)):=by
 rcases Lo with Lo | ⟨g,rfl,hi,h1,h2⟩
 ·exact fi w O9 s x hP ho B v l hs Lo y m hm hx (by omega) LY h
 ·subst hP
  subst hm;refine dV O9 fun _ hK=>?_;obtain⟨i0,OR,NW,MP,Nu⟩:=bX oW;obtain⟨a0,cap0,he,_,_,hc⟩:=hi;injection he with e1 e2 e3;subst e1;have holds:∀j u,(l.map bv)[j]?=some u ->(w.alloc (.cells #[.int .u8 (y.toNat:Int)] 5)).cell? ((⟨g,0,none⟩:Addr).add j)=some u:=by
   intro j u hj;rw [cT,bC]at hj;obtain⟨z,hz,rfl⟩:=hj;obtain⟨b,off,hb,hcz⟩:=hc j z hz;injection hb with hb;injection hb with e4 e5;subst e4 e5;have Pl:(⟨g,0,none⟩:Addr).add j=⟨g,j,none⟩:=by unfold Addr.add;split <;>simp_all
   rw [Pl];rw [bP]at hcz;rw [((an w.heap.size w).alloc (ag _) _).cell (by exact h2)];exact hcz
  have Pj:∀j u,[bv y][j]?=some u ->(w.alloc (.cells #[.int .u8 (y.toNat:Int)] 5)).cell? ((⟨w.heap.size,0,none⟩:Addr).add j)=some u:=by
   intro j u hu;have Pl:(⟨w.heap.size,0,none⟩:Addr).add j=⟨w.heap.size,j,none⟩:=by unfold Addr.add;split <;>simp_all
   rw [Pl,bQ];simpa using hu
  have hr:=run_append_grow (P:=prog) (w.alloc (.cells #[.int .u8 (y.toNat:Int)] 5)) 97 o.type 5 i0 (.int .u8 0) (by kernel_rfl) OR NW ⟨g,0,none⟩ l.length l.length (l.map bv) (by rw [bM,MP,bq]) holds
   ⟨w.heap.size,0,none⟩ 1 1 [bv y] (by rw [MP];rfl) Pj (by omega) (by omega) (growslice_fits (by omega) (by rw [Nu];omega))
  unfold Oper.wp execOp;simp only [ho,resolve,invoke,builtin,cL,cg,cC,dy,bG,cV,hs,hx,hr];have hge:=grownCap_ge (w.alloc (.cells #[.int .u8 (y.toNat:Int)] 5)) (l.length+1) l.length 5;have NC:=dU (w.alloc (.cells #[.int .u8 (y.toNat:Int)] 5)) (l.length+1) l.length 5 (by simp only [maxLen];omega);refine hK _ _ (h _ _ ?_ ?_ ?_)
  ·refine⟨by simp, .inr ⟨_,_,_,by rw [ah];rfl,by simp;omega,dw _ _,by rw [ah];exact hge,NC,?_,?_⟩⟩
   ·have hz:(Value.int IntKind.u8 0).cells.size=1:=rfl
    simp only [Array.size_append,dG,size_zeroCells,hz,bM,aB];omega
   ·have hl:(l.map bv++[bv y]).length=(l++[y]).length*1:=by simp
    simp only [Array.toList_append,bY,bG,cV];rw [<- hl];exact cP
  ·exact(((ee.refl _ _).alloc _).drew).alloc _
  ·intro k hk
   simp [eH,Value.ownBlock]at hk;exact .inr (by omega)
theorem D1 (w:World) (s:ByteArray):(convert 9 97 (.string s)).run prog w= .ok (.slice (some ⟨w.heap.size,0,none⟩) s.size (grownCap w s.size 0 5)) (Lib.bytesWorld w 5 s):=
 Lib.run_convert_string_bytes (u:= .string) w _ _ _ s (by kernel_rfl) (by kernel_rfl) (by kernel_rfl)
theorem tR (w:World) (s:ByteArray):Below w.heap.size w (Lib.bytesWorld w 5 s):=⟨rfl,rfl,rfl,by rw [Lib.bytesWorld_size];omega,fun k hk=>Lib.bytesWorld_at_old w _ s k hk⟩
theorem Hi (w:World) (s:ByteArray) (h:s.size <=1000000000000):eW (Lib.bytesWorld w 5 s) (.slice (some ⟨w.heap.size,0,none⟩) s.size (grownCap w s.size 0 5)) s.data.toList:=by
 have Mr:s.data.toList.length=s.size:=rfl;refine⟨_,_,by rw [Mr],by rw [Mr];exact grownCap_ge _ _ _ _,dU _ _ _ _ (by simp only [maxLen];omega),fun i x hx=>⟨_,0,rfl,?_⟩⟩;have hi:i < s.size:=by rw [<- Mr];exact(aM.1 hx).1
 rw [bP,Lib.bytesWorld_cell w _ s i hi,List.getD_eq_getElem?_getD,hx];rfl
def vS {α:Type} (w0:World) (put:α ->List UInt8) (xs:List UInt8) (l:List α) (B:Nat) (b:Value) (w w':World) (v:Value) (k:Nat):Prop:=
 k <=l.length/\Wr w b B w' v (xs++(eY l.length++((l.take k).map put).flatten))/\Src w0 w' B
theorem jK {α:Type} (put:α ->List UInt8) (l:List α) (k:Nat):(((l.take k).map put).flatten).length <=((l.map put).flatten).length:=by
 conv=>rhs;rw [<- cn k l]
 simp only [bY,List.flatten_append,ah];omega
def yd (x:gf):List Value:=[.bool x.has, .int .i64 x.min, .int .i64 x.max]
theorem oE (w0:World) (put:Int ->List UInt8) (C:Nat) (b:Value) (xs:List UInt8) (v:Value) (l:List Int) (B:Nat) (w:World) (Lq:Nat)
  (hE:∀args w,(callFunc Lq args).run prog w= .ok (.enter Lq args) w) (hl:ew 1 fp w0 v l) (Lo:eg w B b xs) (hB:B <=w.heap.size) (h0:Src w0 w B)
  (hC:xs.length+(ff put l).length <=C) (Nv:C <=900000000)
  (hp:∀e∈l,∀b xs w,eg w B b xs ->xs.length <=C ->B <=w.heap.size ->Src w0 w B ->Calls prog Lq #[b, .int .i64 e] w (fE xs (put e) B b w)):
  Calls prog 171 #[b,v, .func (.func Lq) #[] #[]] w (fE xs (ff put l) B b w):=by
 have HP:=V hp;have HL:=V hl;have H0:=V h0;have HC:=V hC;have HW:=V (Wr.refl Lo);have Ri:xs.length <=900000000:=by omega
 obtain⟨a,cap,rfl,M9,Mj⟩:=fg hl;clear hp hl h0 hC Lo Nv;go_enter func171,ntmps171;go_wp2_with fail;refine(fU b xs l.length (by omega) B w HW.out.1 (by omega) hB).mono ?_;rintro e w2 ⟨v2,rfl,ho,hk,hs⟩;have LH:=V (HW.out.step ⟨ho,hk,hs⟩);have LZ:=V (H0.out.next HW.out.1 ⟨ho,hk,hs⟩);clear ho hk hs;go_wp2_with fail;refine eJ (fun a' w'=>∃(vb:Value) (k:Nat),a'=fr (vb::gs a' 1 1 (.func (.func Lq) #[] #[]::gs a' 3 10 (.slice a l.length cap:: .int .i64 l.length:: .int .i64 k::gs a' 16 9 [])))/\vS w0 put xs l B b w w' vb k) (fun a' _=>(l.length - (intOf (a'.tmps.getD 15 undef)).toNat)) ?_ ?_
 ·exact⟨_,0,rfl,by omega,by simpa using LH.out,LZ.out⟩
 ·skip
  clear HW LH LZ H0 v2;rintro R a' w1 ⟨vb,k,Lp,hJ⟩ HR;dsimp only [fr,gs]at Lp;generalize slot a'=f at Lp;subst Lp;obtain⟨hk,Oc,N0⟩:=hJ;have HW:=V Oc;have HS:=V N0;have Qd:=V (show(xs++(eY l.length++((l.take k).map put).flatten)).length <=C by
   have h1:=HC.out;have h2:=jK put l k;simp only [ff,ah]at*;omega)
  clear Oc N0;by_cases q:k < l.length;rotate_left
  ·obtain rfl:k=l.length:=by omega
   have HW:=V (show Wr w b B w1 vb (xs++ff put l)by have:=HW.out;rwa [aV]at this);go_wp2_with fail;go_ret;exact⟨_,rfl,HW.out⟩
  obtain⟨x,hx⟩:∃x,l[k]?=some x:=⟨_,aw q⟩;obtain⟨a',LO,hv,_,_,Ln⟩:=HL.out;injection hv with e1 e2 e3;subst e1 e3;obtain⟨bb,off,rfl,Lw,MV⟩:=Ln k x hx;clear Ln e2;have c0:=(HS.out.1.cell Lw).trans (MV 0 _ rfl);rw [aK,bq]at c0;have HX:=V hx;clear MV hx;go_wp2_with fail;have Mn:=HW;have NB:=HS;refine(HP.out x (aO HX.out) _ _ _ Mn.out.1 Qd.out (Mn.out.base hB) NB.out).mono ?_;rintro e w2 ⟨v2,rfl,LL,Lv,LB⟩;have LH:=V (Mn.out.step ⟨LL,Lv,LB⟩);have LZ:=V (NB.out.next Mn.out.1 ⟨LL,Lv,LB⟩);clear LL Lv LB c0;go_wp2_with fail;refine HR.out _ _ ⟨_,k+1,rfl,by omega,?_,LZ.out⟩ ?_
  ·have:=LH.out
   rw [aR,HX.out];simpa using this
  ·simp [intOf]
   omega
theorem Cd (w0:World) (put:Int ->List UInt8) (no:Nat) (OB:no < 256) (b:Value) (xs:List UInt8) (v:Value) (l:List Int) (B:Nat) (w:World) (Lq:Nat)
  (hE:∀args w,(callFunc Lq args).run prog w= .ok (.enter Lq args) w) (hl:ew 1 fp w0 v l) (Lo:Row w B b xs) (hB:B <=w.heap.size) (h0:Below w0.heap.size w0 w)
  (hC:xs.length+(ff put l).length <=100000000)
  (hp:∀e∈l,∀b xs w B,eg w B b xs ->xs.length <=100000000 ->B <=w.heap.size ->Src w0 w B ->Calls prog Lq #[b, .int .i64 e] w (fE xs (put e) B b w)):
  Calls prog 177 #[b, .int .i64 no,v, .func (.func Lq) #[] #[]] w (mM xs (fM (b8 no) put l) B b w):=by
 have HP:=V hp;have HL:=V hl;have H0:=V h0;have HW:=V (sT.refl Lo);obtain⟨a,cap,rfl,M9,Mj⟩:=fg hl;clear hp hl h0 Lo;by_cases q:l.length=0
 ·have f1:=eQ (show(l.length:Int)=0 by omega)
  have HN:=V (show l=[]from aH q);clear q;go_enter func177,ntmps177;go_wp2_with fail;go_ret;exact⟨_,rfl,by rw [HN.out];simpa [fM] using HW.out⟩
 ·have f1:=ed (show ¬ (l.length:Int)=0 by omega)
  have HN:Hid (fM (b8 no) put l=b8 no::(eY (ff put l).length++ff put l)):=V (by
   cases l with
   | nil=>exact absurd rfl q
   | cons x l=>rfl)
  clear q;go_enter func177,ntmps177;go_wp2_with fail;refine(oE w0 put 100000000 (.slice none 0 0) [] _ l w.heap.size w Lq hE HL.out (eg.nil _ _) (ag _) ⟨H0.out,H0.out.size⟩ (by simp only [aL];omega) (by decide) (fun e he b xs w ho hx hB h0=>HP.out e he b xs w _ ho hx hB h0)).mono ?_;rintro e w2 ⟨v2,rfl,ho,hk,hs⟩;rw [bL]at ho;have Lr:=jH hk rfl;have HO:=V ho;have LH:=V (HW.out.below Lr);obtain⟨a2,Lu,QK,-,-,-⟩:=ho.fF;subst QK;have MW:∀i,eH (.slice a2 (ff put l).length Lu) i ->¬ eH b i:=fun i h1 h2=>by
   have:=(eE HO.out h1).1;have:=(HW.out.1.lt h2).2;omega
  have HD:=V MW;clear ho hk hs hE MW;go_wp2_with (first | (at_builtin;refine iB w2 rfl _ _ rfl rfl B b _ rfl LH.out.1 (b8 no) _ ?_ ?_ ?_ ?_ ?_))
  ·rw [fY OB]
  ·rfl
  ·omega
  ·exact LH.out.base hB
  intro v3 w3 ho hk hs;have Ni:=V (LH.out.own ⟨ho,hk,hs⟩);have NP:=V (HO.out.keeps hk HD.out);have Qe:=V (show∀i,eH (.slice a2 (ff put l).length Lu) i ->¬ eH v3 i from fun i h1 h2=>(hs i h2).elim (HD.out i h1) (fun g=>by have:=(eE HO.out h1).2;omega));clear ho hk hs;go_wp2_with fail;refine(fU v3 _ (ff put l).length (by omega) B w3 Ni.out.1 (by simp only [ah,aB];omega) (Ni.out.base hB)).mono ?_;rintro e w4 ⟨v4,rfl,ho,hk,hs⟩;have My:=V (Ni.out.step ⟨ho,hk,hs⟩);have NR:=V (NP.out.keeps hk Qe.out);have hp4:=(eO (ff put l).length).2;clear ho hk hs;go_wp2_with (first | (at_builtin;refine fZ w4 rfl _ _ rfl rfl B v4 _ rfl My.out.1 _ _ rfl NR.out.fF (by simp only [ah,aB];omega) (My.out.base hB) ?_));intro v5 w5 ho hk hs;have OZ:=V (My.out.step ⟨ho,hk,hs⟩);clear ho hk hs;go_wp2_with fail;go_ret;exact⟨_,rfl,by rw [HN.out];exact OZ.out.row⟩
theorem Fu (w0:World) (put:jt ->List UInt8) (C:Nat) (b:Value) (xs:List UInt8) (v:Value) (l:List jt) (B:Nat) (w:World) (Lq:Nat)
  (hE:∀args w,(callFunc Lq args).run prog w= .ok (.enter Lq args) w) (hl:ew 3 tf w0 v l) (Lo:eg w B b xs) (hB:B <=w.heap.size) (h0:Src w0 w B)
  (hC:xs.length+(ff put l).length <=C) (Nv:C <=900000000)
  (hp:∀e∈l,∀b xs w,eg w B b xs ->xs.length <=C ->B <=w.heap.size ->Src w0 w B ->Calls prog Lq #[b, .agg #[.string e.mod, .string e.name, .int .i64 e.type]] w (fE xs (put e) B b w)):
  Calls prog 257 #[b,v, .func (.func Lq) #[] #[]] w (fE xs (ff put l) B b w):=by
 have HP:=V hp;have HL:=V hl;have H0:=V h0;have HC:=V hC;have HW:=V (Wr.refl Lo);have Ri:xs.length <=900000000:=by omega
 obtain⟨a,cap,rfl,M9,Mj⟩:=fg hl;clear hp hl h0 hC Lo Nv;go_enter func257,ntmps257;go_wp2_with fail;refine(fU b xs l.length (by omega) B w HW.out.1 (by omega) hB).mono ?_;rintro e w2 ⟨v2,rfl,ho,hk,hs⟩;have LH:=V (HW.out.step ⟨ho,hk,hs⟩);have LZ:=V (H0.out.next HW.out.1 ⟨ho,hk,hs⟩);clear ho hk hs;go_wp2_with fail;refine eJ (fun a' w'=>∃(vb:Value) (k:Nat),a'=fr (vb::gs a' 1 1 (.func (.func Lq) #[] #[]::gs a' 3 10 (.slice a l.length cap:: .int .i64 l.length:: .int .i64 k::gs a' 16 9 [])))/\vS w0 put xs l B b w w' vb k) (fun a' _=>(l.length - (intOf (a'.tmps.getD 15 undef)).toNat)) ?_ ?_
 ·exact⟨_,0,rfl,by omega,by simpa using LH.out,LZ.out⟩
 ·skip
  clear HW LH LZ H0 v2;rintro R a' w1 ⟨vb,k,Lp,hJ⟩ HR;dsimp only [fr,gs]at Lp;generalize slot a'=f at Lp;subst Lp;obtain⟨hk,Oc,N0⟩:=hJ;have HW:=V Oc;have HS:=V N0;have Qd:=V (show(xs++(eY l.length++((l.take k).map put).flatten)).length <=C by
   have h1:=HC.out;have h2:=jK put l k;simp only [ff,ah]at*;omega)
  clear Oc N0;by_cases q:k < l.length;rotate_left
  ·obtain rfl:k=l.length:=by omega
   have HW:=V (show Wr w b B w1 vb (xs++ff put l)by have:=HW.out;rwa [aV]at this);go_wp2_with fail;go_ret;exact⟨_,rfl,HW.out⟩
  obtain⟨x,hx⟩:∃x,l[k]?=some x:=⟨_,aw q⟩;obtain⟨a',LO,hv,_,_,Ln⟩:=HL.out;injection hv with e1 e2 e3;subst e1 e3;obtain⟨bb,off,rfl,Lw,MV⟩:=Ln k x hx;clear Ln e2;have c0:=(HS.out.1.cell Lw).trans (MV 0 _ rfl);have c1:=(HS.out.1.cell Lw).trans (MV 1 _ rfl);have c2:=(HS.out.1.cell Lw).trans (MV 2 _ rfl);rw [aK]at c0;have HX:=V hx;clear MV hx;go_wp2_with fail;have Mn:=V (HW.out.alloc (.cells #[.string x.mod, .string x.name, .int .i64 x.type] 118));have NB:=V (HS.out.alloc (.cells #[.string x.mod, .string x.name, .int .i64 x.type] 118));refine(HP.out x (aO HX.out) _ _ _ Mn.out.1 Qd.out (Mn.out.base hB) NB.out).mono ?_;rintro e w2 ⟨v2,rfl,LL,Lv,LB⟩;have LH:=V (Mn.out.step ⟨LL,Lv,LB⟩);have LZ:=V (NB.out.next Mn.out.1 ⟨LL,Lv,LB⟩);clear LL Lv LB c0 c1 c2;go_wp2_with fail;refine HR.out _ _ ⟨_,k+1,rfl,by omega,?_,LZ.out⟩ ?_
  ·have:=LH.out
   rw [aR,HX.out];simpa using this
  ·simp [intOf]
   omega
theorem Eh (w0:World) (put:jt ->List UInt8) (no:Nat) (OB:no < 256) (b:Value) (xs:List UInt8) (v:Value) (l:List jt) (B:Nat) (w:World) (Lq:Nat)
  (hE:∀args w,(callFunc Lq args).run prog w= .ok (.enter Lq args) w) (hl:ew 3 tf w0 v l) (Lo:Row w B b xs) (hB:B <=w.heap.size) (h0:Below w0.heap.size w0 w)
  (hC:xs.length+(ff put l).length <=100000000)
  (hp:∀e∈l,∀b xs w B,eg w B b xs ->xs.length <=100000000 ->B <=w.heap.size ->Src w0 w B ->Calls prog Lq #[b, .agg #[.string e.mod, .string e.name, .int .i64 e.type]] w (fE xs (put e) B b w)):
  Calls prog 173 #[b, .int .i64 no,v, .func (.func Lq) #[] #[]] w (mM xs (fM (b8 no) put l) B b w):=by
 have HP:=V hp;have HL:=V hl;have H0:=V h0;have HW:=V (sT.refl Lo);obtain⟨a,cap,rfl,M9,Mj⟩:=fg hl;clear hp hl h0 Lo;by_cases q:l.length=0
 ·have f1:=eQ (show(l.length:Int)=0 by omega)
  have HN:=V (show l=[]from aH q);clear q;go_enter func173,ntmps173;go_wp2_with fail;go_ret;exact⟨_,rfl,by rw [HN.out];simpa [fM] using HW.out⟩
 ·have f1:=ed (show ¬ (l.length:Int)=0 by omega)
  have HN:Hid (fM (b8 no) put l=b8 no::(eY (ff put l).length++ff put l)):=V (by
   cases l with
   | nil=>exact absurd rfl q
   | cons x l=>rfl)
  clear q;go_enter func173,ntmps173;go_wp2_with fail;refine(Fu w0 put 100000000 (.slice none 0 0) [] _ l w.heap.size w Lq hE HL.out (eg.nil _ _) (ag _) ⟨H0.out,H0.out.size⟩ (by simp only [aL];omega) (by decide) (fun e he b xs w ho hx hB h0=>HP.out e he b xs w _ ho hx hB h0)).mono ?_;rintro e w2 ⟨v2,rfl,ho,hk,hs⟩;rw [bL]at ho;have Lr:=jH hk rfl;have HO:=V ho;have LH:=V (HW.out.below Lr);obtain⟨a2,Lu,QK,-,-,-⟩:=ho.fF;subst QK;have MW:∀i,eH (.slice a2 (ff put l).length Lu) i ->¬ eH b i:=fun i h1 h2=>by
   have:=(eE HO.out h1).1;have:=(HW.out.1.lt h2).2;omega
  have HD:=V MW;clear ho hk hs hE MW;go_wp2_with (first | (at_builtin;refine iB w2 rfl _ _ rfl rfl B b _ rfl LH.out.1 (b8 no) _ ?_ ?_ ?_ ?_ ?_))
  ·rw [fY OB]
  ·rfl
  ·omega
  ·exact LH.out.base hB
  intro v3 w3 ho hk hs;have Ni:=V (LH.out.own ⟨ho,hk,hs⟩);have NP:=V (HO.out.keeps hk HD.out);have Qe:=V (show∀i,eH (.slice a2 (ff put l).length Lu) i ->¬ eH v3 i from fun i h1 h2=>(hs i h2).elim (HD.out i h1) (fun g=>by have:=(eE HO.out h1).2;omega));clear ho hk hs;go_wp2_with fail;refine(fU v3 _ (ff put l).length (by omega) B w3 Ni.out.1 (by simp only [ah,aB];omega) (Ni.out.base hB)).mono ?_;rintro e w4 ⟨v4,rfl,ho,hk,hs⟩;have My:=V (Ni.out.step ⟨ho,hk,hs⟩);have NR:=V (NP.out.keeps hk Qe.out);have hp4:=(eO (ff put l).length).2;clear ho hk hs;go_wp2_with (first | (at_builtin;refine fZ w4 rfl _ _ rfl rfl B v4 _ rfl My.out.1 _ _ rfl NR.out.fF (by simp only [ah,aB];omega) (My.out.base hB) ?_));intro v5 w5 ho hk hs;have OZ:=V (My.out.step ⟨ho,hk,hs⟩);clear ho hk hs;go_wp2_with fail;go_ret;exact⟨_,rfl,by rw [HN.out];exact OZ.out.row⟩
theorem Fb (w0:World) (put:gf ->List UInt8) (C:Nat) (b:Value) (xs:List UInt8) (v:Value) (l:List gf) (B:Nat) (w:World) (Lq:Nat)
  (hE:∀args w,(callFunc Lq args).run prog w= .ok (.enter Lq args) w) (hl:ew 3 yd w0 v l) (Lo:eg w B b xs) (hB:B <=w.heap.size) (h0:Src w0 w B)
  (hC:xs.length+(ff put l).length <=C) (Nv:C <=900000000)
  (hp:∀e∈l,∀b xs w,eg w B b xs ->xs.length <=C ->B <=w.heap.size ->Src w0 w B ->Calls prog Lq #[b, .agg #[.bool e.has, .int .i64 e.min, .int .i64 e.max]] w (fE xs (put e) B b w)):
  Calls prog 258 #[b,v, .func (.func Lq) #[] #[]] w (fE xs (ff put l) B b w):=by
 have HP:=V hp;have HL:=V hl;have H0:=V h0;have HC:=V hC;have HW:=V (Wr.refl Lo);have Ri:xs.length <=900000000:=by omega
 obtain⟨a,cap,rfl,M9,Mj⟩:=fg hl;clear hp hl h0 hC Lo Nv;go_enter func258,ntmps258;go_wp2_with fail;refine(fU b xs l.length (by omega) B w HW.out.1 (by omega) hB).mono ?_;rintro e w2 ⟨v2,rfl,ho,hk,hs⟩;have LH:=V (HW.out.step ⟨ho,hk,hs⟩);have LZ:=V (H0.out.next HW.out.1 ⟨ho,hk,hs⟩);clear ho hk hs;go_wp2_with fail;refine eJ (fun a' w'=>∃(vb:Value) (k:Nat),a'=fr (vb::gs a' 1 1 (.func (.func Lq) #[] #[]::gs a' 3 10 (.slice a l.length cap:: .int .i64 l.length:: .int .i64 k::gs a' 16 9 [])))/\vS w0 put xs l B b w w' vb k) (fun a' _=>(l.length - (intOf (a'.tmps.getD 15 undef)).toNat)) ?_ ?_
 ·exact⟨_,0,rfl,by omega,by simpa using LH.out,LZ.out⟩
 ·skip
  clear HW LH LZ H0 v2;rintro R a' w1 ⟨vb,k,Lp,hJ⟩ HR;dsimp only [fr,gs]at Lp;generalize slot a'=f at Lp;subst Lp;obtain⟨hk,Oc,N0⟩:=hJ;have HW:=V Oc;have HS:=V N0;have Qd:=V (show(xs++(eY l.length++((l.take k).map put).flatten)).length <=C by
   have h1:=HC.out;have h2:=jK put l k;simp only [ff,ah]at*;omega)
  clear Oc N0;by_cases q:k < l.length;rotate_left
  ·obtain rfl:k=l.length:=by omega
   have HW:=V (show Wr w b B w1 vb (xs++ff put l)by have:=HW.out;rwa [aV]at this);go_wp2_with fail;go_ret;exact⟨_,rfl,HW.out⟩
  obtain⟨x,hx⟩:∃x,l[k]?=some x:=⟨_,aw q⟩;obtain⟨a',LO,hv,_,_,Ln⟩:=HL.out;injection hv with e1 e2 e3;subst e1 e3;obtain⟨bb,off,rfl,Lw,MV⟩:=Ln k x hx;clear Ln e2;have c0:=(HS.out.1.cell Lw).trans (MV 0 _ rfl);have c1:=(HS.out.1.cell Lw).trans (MV 1 _ rfl);have c2:=(HS.out.1.cell Lw).trans (MV 2 _ rfl);rw [aK]at c0;have HX:=V hx;clear MV hx;go_wp2_with fail;have Mn:=V (HW.out.alloc (.cells #[.bool x.has, .int .i64 x.min, .int .i64 x.max] 55));have NB:=V (HS.out.alloc (.cells #[.bool x.has, .int .i64 x.min, .int .i64 x.max] 55));refine(HP.out x (aO HX.out) _ _ _ Mn.out.1 Qd.out (Mn.out.base hB) NB.out).mono ?_;rintro e w2 ⟨v2,rfl,LL,Lv,LB⟩;have LH:=V (Mn.out.step ⟨LL,Lv,LB⟩);have LZ:=V (NB.out.next Mn.out.1 ⟨LL,Lv,LB⟩);clear LL Lv LB c0 c1 c2;go_wp2_with fail;refine HR.out _ _ ⟨_,k+1,rfl,by omega,?_,LZ.out⟩ ?_
  ·have:=LH.out
   rw [aR,HX.out];simpa using this
  ·simp [intOf]
   omega
theorem yI (w0:World) (put:gf ->List UInt8) (no:Nat) (OB:no < 256) (b:Value) (xs:List UInt8) (v:Value) (l:List gf) (B:Nat) (w:World) (Lq:Nat)
  (hE:∀args w,(callFunc Lq args).run prog w= .ok (.enter Lq args) w) (hl:ew 3 yd w0 v l) (Lo:Row w B b xs) (hB:B <=w.heap.size) (h0:Below w0.heap.size w0 w)
  (hC:xs.length+(ff put l).length <=100000000)
  (hp:∀e∈l,∀b xs w B,eg w B b xs ->xs.length <=100000000 ->B <=w.heap.size ->Src w0 w B ->Calls prog Lq #[b, .agg #[.bool e.has, .int .i64 e.min, .int .i64 e.max]] w (fE xs (put e) B b w)):
  Calls prog 178 #[b, .int .i64 no,v, .func (.func Lq) #[] #[]] w (mM xs (fM (b8 no) put l) B b w):=by
 have HP:=V hp;have HL:=V hl;have H0:=V h0;have HW:=V (sT.refl Lo);obtain⟨a,cap,rfl,M9,Mj⟩:=fg hl;clear hp hl h0 Lo;by_cases q:l.length=0
 ·have f1:=eQ (show(l.length:Int)=0 by omega)
  have HN:=V (show l=[]from aH q);clear q;go_enter func178,ntmps178;go_wp2_with fail;go_ret;exact⟨_,rfl,by rw [HN.out];simpa [fM] using HW.out⟩
 ·have f1:=ed (show ¬ (l.length:Int)=0 by omega)
  have HN:Hid (fM (b8 no) put l=b8 no::(eY (ff put l).length++ff put l)):=V (by
   cases l with
   | nil=>exact absurd rfl q
   | cons x l=>rfl)
  clear q;go_enter func178,ntmps178;go_wp2_with fail;refine(Fb w0 put 100000000 (.slice none 0 0) [] _ l w.heap.size w Lq hE HL.out (eg.nil _ _) (ag _) ⟨H0.out,H0.out.size⟩ (by simp only [aL];omega) (by decide) (fun e he b xs w ho hx hB h0=>HP.out e he b xs w _ ho hx hB h0)).mono ?_;rintro e w2 ⟨v2,rfl,ho,hk,hs⟩;rw [bL]at ho;have Lr:=jH hk rfl;have HO:=V ho;have LH:=V (HW.out.below Lr);obtain⟨a2,Lu,QK,-,-,-⟩:=ho.fF;subst QK;have MW:∀i,eH (.slice a2 (ff put l).length Lu) i ->¬ eH b i:=fun i h1 h2=>by
   have:=(eE HO.out h1).1;have:=(HW.out.1.lt h2).2;omega
  have HD:=V MW;clear ho hk hs hE MW;go_wp2_with (first | (at_builtin;refine iB w2 rfl _ _ rfl rfl B b _ rfl LH.out.1 (b8 no) _ ?_ ?_ ?_ ?_ ?_))
  ·rw [fY OB]
  ·rfl
  ·omega
  ·exact LH.out.base hB
  intro v3 w3 ho hk hs;have Ni:=V (LH.out.own ⟨ho,hk,hs⟩);have NP:=V (HO.out.keeps hk HD.out);have Qe:=V (show∀i,eH (.slice a2 (ff put l).length Lu) i ->¬ eH v3 i from fun i h1 h2=>(hs i h2).elim (HD.out i h1) (fun g=>by have:=(eE HO.out h1).2;omega));clear ho hk hs;go_wp2_with fail;refine(fU v3 _ (ff put l).length (by omega) B w3 Ni.out.1 (by simp only [ah,aB];omega) (Ni.out.base hB)).mono ?_;rintro e w4 ⟨v4,rfl,ho,hk,hs⟩;have My:=V (Ni.out.step ⟨ho,hk,hs⟩);have NR:=V (NP.out.keeps hk Qe.out);have hp4:=(eO (ff put l).length).2;clear ho hk hs;go_wp2_with (first | (at_builtin;refine fZ w4 rfl _ _ rfl rfl B v4 _ rfl My.out.1 _ _ rfl NR.out.fF (by simp only [ah,aB];omega) (My.out.base hB) ?_));intro v5 w5 ho hk hs;have OZ:=V (My.out.step ⟨ho,hk,hs⟩);clear ho hk hs;go_wp2_with fail;go_ret;exact⟨_,rfl,by rw [HN.out];exact OZ.out.row⟩
theorem ng (n:Int) (h:gp n) (b:Value) (xs:List UInt8) (B:Nat) (w:World) (Lo:eg w B b xs) (hn:xs.length <=900000000) (hB:B <=w.heap.size):
  Calls prog 175 #[b, .int .i64 n] w (fE xs (sb n) B b w):=by
 obtain⟨m,rfl⟩:∃m:Nat,n=m:=⟨n.toNat,by have:=h.1;omega⟩;exact fU b xs m (by have:=h.2;omega) B w Lo (by omega) hB
theorem IP (w0:World) (e:gN) (u:Value × Value) (hu:gW w0 e u) (hm:e.may) (b:Value) (xs:List UInt8) (w:World) (B:Nat) (Lo:eg w B b xs) (hn:xs.length <=100000000) (hB:B <=w.heap.size) (h0:Src w0 w B):
  Calls prog 170 #[b, .agg #[u.1,u.2]] w (fE xs (lh e) B b w):=by
 have HU:=V hu;obtain⟨u1,u2⟩:=u;obtain⟨⟨⟨a1,LF,Nk,-,-,-⟩,⟨a2,Lu,Nw,-,-,-⟩⟩,-⟩:=id hu;simp only at Nk Nw;subst Nk Nw;clear hu;have l1:=jN jw 1 32 e.params (fun x _=>by simp [jw]) hm.1.1;have l2:=jN jw 1 1 e.results (fun x _=>by simp [jw]) hm.2.1;clear hm;have HW:=V ((Wr.refl Lo).alloc (.cells #[.slice a1 e.params.length LF, .slice a2 e.results.length Lu] 109));have HA:=V (Aside.new Lo #[.slice a1 e.params.length LF, .slice a2 e.results.length Lu] 109);have HS:=V (h0.alloc (.cells #[.slice a1 e.params.length LF, .slice a2 e.results.length Lu] 109));clear Lo h0;go_enter func170,ntmps170;go_wp2_with fail;refine eu (fun w'=>w'.cell? ⟨w.heap.size,0,none⟩=some (.slice a1 e.params.length LF)/\w'.cell? ⟨w.heap.size,1,none⟩=some (.slice a2 e.results.length Lu)) [(0,true),(3,true),(4,true),(6,true),(7,true),(1,false),(2,false),(5,false),(8,false),(9,true)] (by kernel_rfl) (by kernel_rfl) ⟨HA.out.cell 0,HA.out.cell 1⟩ ?_;have HW:=V HW.out.drew;have HA:=V HA.out.drew;have HS:=V HS.out.drew;obtain⟨X,hX⟩:∃X,X=w.heap.size:=⟨_,rfl⟩;rw [<- hX]at HA⊢;clear hX;generalize(w.alloc (.cells #[.slice a1 e.params.length LF, .slice a2 e.results.length Lu] 109)).drew=wa at HW HA HS⊢;iterate 5 (first | (apply sk rfl rfl;simp only [pt]) | (apply ef rfl rfl rfl;·(rintro w' ⟨t0,t1⟩;go_wp2;exact⟨rfl,rfl,rfl⟩)))
 refine eo rfl rfl ?_;go_wp2_with fail;refine⟨⟨(HA.out.alloc _).cell 0,(HA.out.alloc _).cell 1⟩,?_⟩;refine eo rfl rfl ?_;go_wp2_with (first | (at_builtin;refine fi wa rfl _ _ rfl rfl B b _ rfl HW.out.1 (96:UInt8) _ rfl rfl (by first | omega | (simp only [ah];omega) | (simp only [ah,aB];omega) | (simp only [ah,aF,aL];omega)) (HW.out.base hB) ?_));intro v1 w1 ho hk hs;have HA:=V (HA.out.next ⟨ho,hk,hs⟩);have HS:=V (HS.out.next HW.out.1 ⟨ho,hk,hs⟩);have HW:=V (HW.out.step ⟨ho,hk,hs⟩);clear ho hk hs;go_wp2_with fail;refine⟨⟨HA.out.cell 0,HA.out.cell 1⟩,?_⟩;refine eo rfl rfl ?_;go_wp2_with fail;refine(oE w0 jw 900000000 v1 _ _ e.params B w1 172 (fun args w=>by rfl) HU.out.1.1 HW.out.1 (HW.out.base hB) HS.out (by simp only [ah,aB];omega) (by omega) (fun x _ b xs w ho hx hB _=>nD b xs x B w ho hx hB)).mono ?_;rintro e w2 ⟨v2,rfl,ho,hk,hs⟩;have HA:=V (HA.out.next ⟨ho,hk,hs⟩);have HS:=V (HS.out.next HW.out.1 ⟨ho,hk,hs⟩);have HW:=V (HW.out.step ⟨ho,hk,hs⟩);clear ho hk hs;go_wp2_with fail;refine⟨⟨HA.out.cell 0,HA.out.cell 1⟩,?_⟩;refine eo rfl rfl ?_;go_wp2_with fail;refine(oE w0 jw 900000000 v2 _ _ e.results B w2 172 (fun args w=>by rfl) HU.out.1.2 HW.out.1 (HW.out.base hB) HS.out (by simp only [ah,aB];omega) (by omega) (fun x _ b xs w ho hx hB _=>nD b xs x B w ho hx hB)).mono ?_;rintro e w3 ⟨v3,rfl,ho,hk,hs⟩;have HA:=V (HA.out.next ⟨ho,hk,hs⟩);have HS:=V (HS.out.next HW.out.1 ⟨ho,hk,hs⟩);have HW:=V (HW.out.step ⟨ho,hk,hs⟩);clear ho hk hs;go_wp2_with fail;refine⟨⟨HA.out.cell 0,HA.out.cell 1⟩,?_⟩;iterate 1 (first | (apply sk rfl rfl;simp only [pt]) | (apply ef rfl rfl rfl;·(rintro w' ⟨t0,t1⟩;go_wp2;exact⟨rfl,rfl,rfl⟩)))
 refine eV ?_;refine aD ?_;go_wp2_with fail;go_ret;exact⟨_,rfl,by show Wr _ _ _ _ _ _;simpa [lh] using HW.out⟩
theorem IU (w0:World) (e:jb) (u:Value) (hu:ig w0 e u) (hm:e.may) (b:Value) (xs:List UInt8) (w:World) (B:Nat) (Lo:eg w B b xs) (hn:xs.length <=100000000) (hB:B <=w.heap.size) (h0:Src w0 w B):
  Calls prog 188 #[b, .agg #[.int .i64 e.off,u]] w (fE xs (kZ e) B b w):=by
 have HU:=V hu;obtain⟨⟨a1,LF,rfl,-,-,-⟩,-⟩:=id hu;clear hu;have l1:=pS hm.1;have l2:=jN sb 10 50 e.funcs (fun y _=>sv y) hm.2.1;have HM:=V hm;clear hm;have HW:=V ((Wr.refl Lo).alloc (.cells #[.int .i64 e.off, .slice a1 e.funcs.length LF] 95));have HA:=V (Aside.new Lo #[.int .i64 e.off, .slice a1 e.funcs.length LF] 95);have HS:=V (h0.alloc (.cells #[.int .i64 e.off, .slice a1 e.funcs.length LF] 95));clear Lo h0;go_enter func188,ntmps188;go_wp2_with fail;refine eu (fun w'=>w'.cell? ⟨w.heap.size,0,none⟩=some (.int .i64 e.off)/\w'.cell? ⟨w.heap.size,1,none⟩=some (.slice a1 e.funcs.length LF)) (up 0 3 ((4,true)::(5,true)::(3,false)::(6,false)::(7,true)::[])) (by kernel_rfl) (by kernel_rfl) ⟨HA.out.cell 0,HA.out.cell 1⟩ ?_;have HW:=V HW.out.drew;have HA:=V HA.out.drew;have HS:=V HS.out.drew;obtain⟨X,hX⟩:∃X,X=w.heap.size:=⟨_,rfl⟩;rw [<- hX]at HA⊢;clear hX;generalize(w.alloc (.cells #[.int .i64 e.off, .slice a1 e.funcs.length LF] 95)).drew=wa at HW HA HS⊢;iterate 5 (first | (apply sk rfl rfl;simp only [pt]) | (apply ef rfl rfl rfl;·(rintro w' ⟨t0,t1⟩;go_wp2;exact⟨rfl,rfl,rfl⟩)))
 refine eo rfl rfl ?_;go_wp2_with fail;refine(wZ b _ e.off B wa HW.out.1 (by omega) (HW.out.base hB) HM.out.1).mono ?_;rintro e w1 ⟨v1,rfl,ho,hk,hs⟩;have HA:=V (HA.out.next ⟨ho,hk,hs⟩);have HS:=V (HS.out.next HW.out.1 ⟨ho,hk,hs⟩);have HW:=V (HW.out.step ⟨ho,hk,hs⟩);clear ho hk hs;go_wp2_with fail;refine⟨⟨HA.out.cell 0,HA.out.cell 1⟩,?_⟩;refine eo rfl rfl ?_;go_wp2_with fail;refine(oE w0 sb 900000000 v1 _ _ e.funcs B w1 175 (fun args w=>by rfl) HU.out.1 HW.out.1 (HW.out.base hB) HS.out (by simp only [ah];omega) (by omega) (fun x hx b xs w ho hl hB _=>ng x (HM.out.2.2 x hx) b xs B w ho hl hB)).mono ?_;rintro e w2 ⟨v2,rfl,ho,hk,hs⟩;have HA:=V (HA.out.next ⟨ho,hk,hs⟩);have HS:=V (HS.out.next HW.out.1 ⟨ho,hk,hs⟩);have HW:=V (HW.out.step ⟨ho,hk,hs⟩);clear ho hk hs;go_wp2_with fail;refine⟨⟨HA.out.cell 0,HA.out.cell 1⟩,?_⟩;iterate 1 (first | (apply sk rfl rfl;simp only [pt]) | (apply ef rfl rfl rfl;·(rintro w' ⟨t0,t1⟩;go_wp2;exact⟨rfl,rfl,rfl⟩)))
 refine eV ?_;refine aD ?_;go_wp2_with fail;go_ret;exact⟨_,rfl,by show Wr _ _ _ _ _ _;simpa [kZ] using HW.out⟩
theorem G8 (w0:World) (e:gD) (u:Value) (hu:gE w0 e u) (hm:e.may) (b:Value) (xs:List UInt8) (w:World) (B:Nat) (Lo:eg w B b xs) (hn:xs.length <=100000000) (hB:B <=w.heap.size) (h0:Src w0 w B):
  Calls prog 193 #[b, .agg #[.int .i64 e.off,u]] w (fE xs (oa e) B b w):=by
 have HU:=V hu;obtain⟨⟨a1,LF,rfl,-,-,-⟩,-⟩:=id hu;clear hu;have l1:=pS hm.1;have l2:=hm.2;have l3:=(eO e.bytes.length).2;have HM:=V hm;clear hm;have HW:=V ((Wr.refl Lo).alloc (.cells #[.int .i64 e.off, .slice a1 e.bytes.length LF] 99));have HA:=V (Aside.new Lo #[.int .i64 e.off, .slice a1 e.bytes.length LF] 99);have HS:=V (h0.alloc (.cells #[.int .i64 e.off, .slice a1 e.bytes.length LF] 99));clear Lo h0;go_enter func193,ntmps193;go_wp2_with fail;refine eu (fun w'=>w'.cell? ⟨w.heap.size,0,none⟩=some (.int .i64 e.off)/\w'.cell? ⟨w.heap.size,1,none⟩=some (.slice a1 e.bytes.length LF)) (up 0 3 (up 4 3 ((8,true)::(9,true)::(3,false)::(7,false)::(10,false)::(11,true)::[]))) (by kernel_rfl) (by kernel_rfl) ⟨HA.out.cell 0,HA.out.cell 1⟩ ?_;have HW:=V HW.out.drew;have HA:=V HA.out.drew;have HS:=V HS.out.drew;obtain⟨X,hX⟩:∃X,X=w.heap.size:=⟨_,rfl⟩;rw [<- hX]at HA⊢;clear hX;generalize(w.alloc (.cells #[.int .i64 e.off, .slice a1 e.bytes.length LF] 99)).drew=wa at HW HA HS⊢;iterate 8 (first | (apply sk rfl rfl;simp only [pt]) | (apply ef rfl rfl rfl;·(rintro w' ⟨t0,t1⟩;go_wp2;exact⟨rfl,rfl,rfl⟩)))
 refine eo rfl rfl ?_;go_wp2_with fail;refine(wZ b _ e.off B wa HW.out.1 (by omega) (HW.out.base hB) HM.out.1).mono ?_;rintro e w1 ⟨v1,rfl,ho,hk,hs⟩;have HA:=V (HA.out.next ⟨ho,hk,hs⟩);have HS:=V (HS.out.next HW.out.1 ⟨ho,hk,hs⟩);have HW:=V (HW.out.step ⟨ho,hk,hs⟩);clear ho hk hs;go_wp2_with fail;refine⟨⟨HA.out.cell 0,HA.out.cell 1⟩,?_⟩;refine eo rfl rfl ?_;go_wp2_with fail;refine(fU v1 _ e.bytes.length (by omega) B w1 HW.out.1 (by simp only [ah];omega) (HW.out.base hB)).mono ?_;rintro e w2 ⟨v2,rfl,ho,hk,hs⟩;have HA:=V (HA.out.next ⟨ho,hk,hs⟩);have HS:=V (HS.out.next HW.out.1 ⟨ho,hk,hs⟩);have HW:=V (HW.out.step ⟨ho,hk,hs⟩);clear ho hk hs;go_wp2_with fail;refine⟨⟨HA.out.cell 0,HA.out.cell 1⟩,?_⟩;refine eo rfl rfl ?_;go_wp2_with (first | (at_builtin;refine fZ w2 rfl _ _ rfl rfl B v2 _ rfl HW.out.1 _ _ rfl (HU.out.1.below HS.out.1) (by simp only [ah];omega) (HW.out.base hB) ?_));intro v3 w3 ho hk hs;have HA:=V (HA.out.next ⟨ho,hk,hs⟩);have HS:=V (HS.out.next HW.out.1 ⟨ho,hk,hs⟩);have HW:=V (HW.out.step ⟨ho,hk,hs⟩);clear ho hk hs;go_wp2_with fail;refine⟨⟨HA.out.cell 0,HA.out.cell 1⟩,?_⟩;iterate 1 (first | (apply sk rfl rfl;simp only [pt]) | (apply ef rfl rfl rfl;·(rintro w' ⟨t0,t1⟩;go_wp2;exact⟨rfl,rfl,rfl⟩)))
 refine eV ?_;refine aD ?_;go_wp2_with fail;go_ret;exact⟨_,rfl,by show Wr _ _ _ _ _ _;simpa [oa] using HW.out⟩
theorem Io (e:gf) (b:Value) (xs:List UInt8) (w:World) (B:Nat) (Lo:eg w B b xs) (hn:xs.length <=100000000) (hB:B <=w.heap.size) (hm0:0 <=e.min) (hm1: -1 <=e.max) (Ly:e.ok):
  Calls prog 180 #[b, .agg #[.bool e.has, .int .i64 e.min, .int .i64 e.max]] w (fE xs (jC e) B b w):=by
 have h0:=uo w B;have HW:=V ((Wr.refl Lo).alloc (.cells #[.bool e.has, .int .i64 e.min, .int .i64 e.max] 55));have HA:=V (Aside.new Lo #[.bool e.has, .int .i64 e.min, .int .i64 e.max] 55);have HS:=V (h0.alloc (.cells #[.bool e.has, .int .i64 e.min, .int .i64 e.max] 55));clear Lo h0;go_enter func180,ntmps180;go_wp2_with fail;refine eu (fun w'=>w'.cell? ⟨w.heap.size,0,none⟩=some (.bool e.has)/\w'.cell? ⟨w.heap.size,1,none⟩=some (.int .i64 e.min)/\w'.cell? ⟨w.heap.size,2,none⟩=some (.int .i64 e.max)) [(0,true),(3,true),(1,false),(2,false),(4,false),(5,true)] (by kernel_rfl) (by kernel_rfl) ⟨HA.out.cell 0,HA.out.cell 1,HA.out.cell 2⟩ ?_;have HW:=V HW.out.drew;have HA:=V HA.out.drew;have HS:=V HS.out.drew;obtain⟨X,hX⟩:∃X,X=w.heap.size:=⟨_,rfl⟩;rw [<- hX]at HA⊢;clear hX;generalize(w.alloc (.cells #[.bool e.has, .int .i64 e.min, .int .i64 e.max] 55)).drew=wa at HW HA HS⊢;iterate 2 (first | (apply sk rfl rfl;simp only [pt]) | (apply ef rfl rfl rfl;·(rintro w' ⟨t0,t1,t2⟩;go_wp2;exact⟨rfl,rfl,rfl⟩)))
 refine eo rfl rfl ?_;go_wp2_with fail;refine⟨⟨(HA.out.alloc _).cell 0,(HA.out.alloc _).cell 1,(HA.out.alloc _).cell 2⟩,?_⟩;refine eo rfl rfl ?_;go_wp2_with (first | (at_builtin;refine fi wa rfl _ _ rfl rfl B b _ rfl HW.out.1 (112:UInt8) _ rfl rfl (by first | omega | (simp only [ah];omega) | (simp only [ah,aB];omega) | (simp only [ah,aF,aL];omega)) (HW.out.base hB) ?_));intro v1 w1 ho hk hs;have HA:=V (HA.out.next ⟨ho,hk,hs⟩);have HS:=V (HS.out.next HW.out.1 ⟨ho,hk,hs⟩);have HW:=V (HW.out.step ⟨ho,hk,hs⟩);clear ho hk hs;go_wp2_with fail;refine⟨⟨HA.out.cell 0,HA.out.cell 1,HA.out.cell 2⟩,?_⟩;refine eo rfl rfl ?_;go_wp2_with fail;refine(qo v1 _ e B w1 HW.out.1 (by simp only [ah,aB];omega) (HW.out.base hB) hm0 hm1 Ly).mono ?_;rintro e w2 ⟨v2,rfl,ho,hk,hs⟩;have HA:=V (HA.out.next ⟨ho,hk,hs⟩);have HS:=V (HS.out.next HW.out.1 ⟨ho,hk,hs⟩);have HW:=V (HW.out.step ⟨ho,hk,hs⟩);clear ho hk hs;go_wp2_with fail;refine⟨⟨HA.out.cell 0,HA.out.cell 1,HA.out.cell 2⟩,?_⟩;iterate 1 (first | (apply sk rfl rfl;simp only [pt]) | (apply ef rfl rfl rfl;·(rintro w' ⟨t0,t1,t2⟩;go_wp2;exact⟨rfl,rfl,rfl⟩)))
 refine eV ?_;refine aD ?_;go_wp2_with fail;go_ret;exact⟨_,rfl,by show Wr _ _ _ _ _ _;simpa [jC] using HW.out⟩
def o8 (x:Int) (rs:List (Nat × Int)):List (Nat × Int):=match rs with
 | []=>[(1,x)]
 | (n,k)::t=>if x=k then(n+1,k)::t else(1,x)::(n,k)::t
theorem pF (x:Int) (l:List Int):gL (x::l)=o8 x (gL l):=rfl
def lg:List (Nat × Int) ->Int ->List (Nat × Int)
 | [],k=>[(1,k)]
 | [x],k=>if x.2=k then [(x.1+1,k)]else [x,(1,k)]
 | x::y::t,k=>x::lg (y::t) k
theorem Be (x k:Int):∀rs:List (Nat × Int),o8 x (lg rs k)=lg (o8 x rs) k
 | []=>by
  simp only [lg,o8]
 | [(n,k')]=>by
  by_cases h1:k'=k
  ·by_cases h2:x=k'
   ·subst h1 h2
    simp [lg,o8]
   ·subst h1
    simp [lg,o8,h2]
  ·by_cases h2:x=k'
   ·subst h2
    simp [lg,o8,h1]
   ·simp [lg,o8,h1,h2]
 | (n,k')::y::t=>by
  by_cases h2:x=k'
  ·simp [lg,o8,h2]
  ·simp [lg,o8,h2]
theorem nG (k:Int):∀l:List Int,gL (l++[k])=lg (gL l) k
 | []=>rfl
 | x::l=>by rw [bI,pF,nG k l,Be,pF]
theorem qD (n:Nat) (k' k:Int):∀rs:List (Nat × Int),lg (rs++[(n,k')]) k=rs++(if k'=k then [(n+1,k)]else [(n,k'),(1,k)])
 | []=>by simp [lg]
 | [x]=>by
  show x::lg [(n,k')] k=_;rw [lg];rfl
 | x::y::t=>by
  have h:=qD n k' k (y::t);show x::lg (y::t++[(n,k')]) k=_;rw [h];rfl
theorem wL:∀l:List Int,l≠[] ->∃rs n k,gL l=rs++[(n,k)]/\l.getLast?=some k/\1 <=n
 | [],h=>absurd rfl h
 | [x],_=>⟨[],1,x,rfl,rfl,ag _⟩
 | x::y::l,_=>by
  obtain⟨rs,n,k,h1,h2,h3⟩:=wL (y::l) (by simp);rw [pF,h1];cases rs with
  | nil=>
   simp only [bL,o8];split
   ·exact⟨[],n+1,k,rfl,by rw [de];exact h2,by omega⟩
   ·exact⟨[(1,x)],n,k,rfl,by rw [de];exact h2,h3⟩
  | cons a t=>
   obtain⟨m,z⟩:=a;simp only [bI,o8];split
   ·exact⟨(m+1,z)::t,n,k,rfl,by rw [de];exact h2,h3⟩
   ·exact⟨(1,x)::(m,z)::t,n,k,rfl,by rw [de];exact h2,h3⟩
def JD (x:(Nat × Int) × Value):List Value:=[x.2]
def rN (u:Value):List Value:=[u]
def mV (w:World) (x:Nat × Int) (u:Value):Prop:=ew 1 fp w u (List.replicate x.1 x.2)/\1 <=x.1
theorem mV.ext {w w':World} {x:Nat × Int} {u:Value} (h:mV w x u) (he:Ext w w'):mV w' x u:=⟨h.1.ext he,h.2⟩
theorem rF (u:Value):(rN u).length=1:=rfl
theorem xy (u:Int):(fp u).length=1:=rfl
theorem AJ {α:Type} {t:TypeId} {k:Nat} {enc:α ->List Value} {w:World} {B:Nat} {v:Value} {l:List α} {S:Nat ->Bool} (hk:∀x,(enc x).length=k) (h:ea t k enc w B v l) (hs:∀i,eH v i ->S i=false):ew k enc (mask S w) v l:=by
 suffices h:ea t k enc (mask S w) B v l from h.fR hk
 obtain⟨hl,hv | ⟨g,cap,cur,hv,hb,hg,rest⟩⟩:=h
 ·exact⟨hl, .inl hv⟩
 ·exact⟨hl, .inr ⟨g,cap,cur,hv,hb,by rw [jE w (hs g (by rw [hv];rfl))];exact hg,rest⟩⟩
def Ay (B:Nat) (v ul:Value):Nat ->Bool:=fun k=>decide (k < B) || decide (v.ownBlock=some k) || decide (ul.ownBlock=some k)
theorem mh {B k:Nat} {v ul:Value}:Ay B v ul k=true↔(k < B\/eH v k)\/eH ul k:=by simp [Ay,eH]
def iL (w:World) (B:Nat) (v:Value) (rs:List (Nat × Int)):Prop:=
 (rs=[]/\v= .slice none 0 0)\/∃(O0:List (Nat × Int)) (MS:List Value) (ul:Value) (n:Nat) (k:Int),rs=O0++[(n,k)]/\MS.length=O0.length/\ea 25 1 rN w B v (MS++[ul])/\
  ea 3 1 fp w B ul (List.replicate n k)/\1 <=n/\∀(i:Nat) (x:Nat × Int) (u:Value),O0[i]?=some x ->MS[i]?=some u ->mV (mask (Ay B v ul) w) x u
theorem iL.deep {w:World} {B:Nat} {v:Value} {rs:List (Nat × Int)} (h:iL w B v rs):et 1 JD mV w v rs:=by
 rcases h with⟨rfl,rfl⟩ | ⟨O0,MS,ul,n,k,rfl,h2,h3,h4,h5,h6⟩
 ·exact et.nil w
 ·refine⟨MS++[ul],by simp [h2],?_,fun i x u hx hu=>?_⟩
  ·obtain⟨a,cap,hv,c1,c2,c3⟩:=h3.fR rF
   have hl:((O0++[(n,k)]).zip (MS++[ul])).length=(MS++[ul]).length:=by simp [bJ,h2]
   refine⟨a,cap,by rw [hl];exact hv,by rw [hl];exact c1,c2,fun i x hx=>?_⟩;obtain⟨x1,x2⟩:=x;have OX:(MS++[ul])[i]?=some x2:=(cJ.1 hx).2;exact c3 i x2 OX
  ·rcases Nat.lt_trichotomy i O0.length with g | g | g
   ·rw [bm g]at hx
    rw [bm (by omega)]at hu;have:=h6 i x u hx hu;exact⟨this.1.gh,this.2⟩
   ·subst g
    rw [bp (ag _)]at hx;rw [bp (by omega)]at hu;simp [h2]at hx hu;subst hx hu;exact⟨h4.fR xy,h5⟩
   ·rw [dn (by simp;omega)]at hx
    cases hx
theorem iL.grow {w1 wa w2:World} {B g cap:Nat} {O0:List (Nat × Int)} {MS:List Value} {ul v':Value} {n:Nat} {k:Int} (h2:MS.length=O0.length)
  (h3:ea 25 1 rN w1 B (.slice (some ⟨g,0,none⟩) (MS.length+1) cap) (MS++[ul])) (h4:ea 3 1 fp w1 B ul (List.replicate n k))
  (h6:∀(i:Nat) (x:Nat × Int) (u:Value),O0[i]?=some x ->MS[i]?=some u ->mV (mask (Ay B (.slice (some ⟨g,0,none⟩) (MS.length+1) cap) ul) w1) x u)
  (ho:ea 3 1 fp w2 B v' (List.replicate n k++[k])) (hk:ee (eH ul) w1 w2) (hs:eM w1 ul v') (hwa:wa=w2.setCell ⟨g,MS.length,none⟩ v'):
  iL wa B (.slice (some ⟨g,0,none⟩) (MS.length+1) cap) (O0++[(n+1,k)]):=by
 subst hwa;have hd:∀i,eH (.slice (some ⟨g,0,none⟩) (MS.length+1) cap) i ->¬ eH ul i:=fun i hi=>ea.ne h3 h4 (by decide) i hi;have h3':=ea.keeps h3 hk hd;have hgo:eH (.slice (some ⟨g,0,none⟩) (MS.length+1) cap) g:=rfl;have Rr:∀i,eH v' i ->¬ i=g:=fun i hi he=>ea.ne h3' ho (by decide) g hgo (by rw [<- he];exact hi);have Pp:ee (fun i=>i=g) w2 (w2.setCell ⟨g,MS.length,none⟩ v'):=⟨rfl,rfl,rfl,by simp,fun j _ hj=>cM w2 ⟨g,MS.length,none⟩ v' j hj⟩;refine .inr ⟨O0,MS,v',n+1,k,rfl,h2,?_,?_,by omega,fun i x u hx hu=>(h6 i x u hx hu).ext ?_⟩
 ·have:=ea.set rF h3' (i:=MS.length) (j:=0) (x:=ul) (y:=v') (u:=v') (by simp) (by omega) rfl
  rw [bq,aK]at this;simpa using this
 ·rw [List.replicate_succ']
  exact ho.keeps Pp Rr
 ·refine iY (P:=fun i=>eH ul i\/i=g) ((hk.mono (fun i hi=> .inl hi)).trans Pp (fun i hi=> .inl (.inr hi))) (fun i _ hi=>mh.2 ?_) (fun i Lw hi=>mh.2 ?_)
  ·rcases hi with hi | rfl
   ·exact .inr hi
   ·exact .inl (.inr rfl)
  ·rcases mh.1 hi with hi | hi
   ·exact .inl hi
   ·rcases hs i hi with h | h
    ·exact .inr h
    ·omega
theorem iL.new {w1 w2:World} {B:Nat} {v v':Value} {rs:List (Nat × Int)} {us:List Value} {k:Int} (h:iL w1 B v rs) (hu:ea 25 1 rN w1 B v us)
  (hus:us.length=rs.length) (ho:ea 25 1 rN w2 B v' (us++[.slice (some ⟨w1.heap.size,0,none⟩) 1 1]))
  (hk:ee (eH v) (w1.alloc (.cells #[.int .i64 k] 3)) w2) (hs:eM w1 v v') (hB:B <=w1.heap.size)
  (heq:∀O0 MS ul n k',rs=O0++[(n,k')] ->MS.length=O0.length ->ea 25 1 rN w1 B v (MS++[ul]) ->us=MS++[ul]):
  iL w2 B v' (rs++[(1,k)]):=by
 have LQ:Below w1.heap.size w1 (w1.alloc (.cells #[.int .i64 k] 3)):=(an _ _).alloc (ag _) _;have Rm:∀i,eH v i ->i < w1.heap.size:=fun i hi=>(eE hu hi).2;have hnew:eP w2 w1.heap.size #[.int .i64 k] 3:=(eP.new w1 #[.int .i64 k] 3).keeps hk (fun hi=>by have:=Rm _ hi;omega);have Mr:w1.heap.size < w2.heap.size:=hnew.lt;have honew:ea 3 1 fp w2 B (.slice (some ⟨w1.heap.size,0,none⟩) 1 1) (List.replicate 1 k):=
  ⟨by simp [fp], .inr ⟨w1.heap.size,1,#[.int .i64 k],rfl,hB,hnew,ag _,by simp [maxLen],by simp,by simp [fp]⟩⟩
 have Np:ee (eH v) w1 w2:=(ee.eh LQ).trans hk (fun i hi=> .inl hi);have hS:∀ul:Value,∀i,i < w1.heap.size ->Ay B v' (.slice (some ⟨w1.heap.size,0,none⟩) 1 1) i=true ->Ay B v ul i=true:=fun ul i Lw hi=>by
  rcases mh.1 hi with(hi | hi) | hi
  ·exact mh.2 (.inl (.inl hi))
  ·rcases hs i hi with h | h
   ·exact mh.2 (.inl (.inr h))
   ·omega
  ·simp [eH,Value.ownBlock]at hi
   omega
 rcases h with⟨rfl,rfl⟩ | ⟨O0,MS,ul,n,k',rfl,h2,h3,h4,h5,h6⟩
 ·have he:us=[]:=aH hus
  subst he;exact .inr ⟨[],[],_,1,k,rfl,rfl,ho,honew,ag _,fun i x u hx=>by simp at hx⟩
 ·obtain rfl:=heq O0 MS ul n k' rfl h2 h3
  have h4k:ea 3 1 fp w2 B ul (List.replicate n k'):=h4.keeps Np (fun i hi hv=>ea.ne h4 h3 (by decide) i hi hv);refine .inr ⟨O0++[(n,k')],MS++[ul],_,1,k,rfl,by simp [h2],ho,honew,ag _,fun i x u hx hu=>?_⟩;rcases Nat.lt_trichotomy i O0.length with g | g | g
  ·rw [bm g]at hx
   rw [bm (by omega)]at hu;exact(h6 i x u hx hu).ext (iY Np (fun i _ hi=>mh.2 (.inl (.inr hi))) (fun i Lw hi=>hS ul i Lw hi))
  ·subst g
   rw [bp (ag _)]at hx;rw [bp (by omega)]at hu;simp [h2]at hx hu;subst hx hu;refine⟨AJ xy h4k (fun i hi=>?_),h5⟩;cases hb:Ay B v' (.slice (some ⟨w1.heap.size,0,none⟩) 1 1) i with
   | false=>rfl
   | true=>
    exfalso;have h7:=eE h4 hi;rcases mh.1 hb with(h | h) | h
    ·omega
    ·exact ea.ne h4k ho (by decide) i hi h
    ·simp [eH,Value.ownBlock]at h
     omega
  ·rw [dn (by simp;omega)]at hx
   cases hx
theorem FV (w0:World) (put:(Nat × Int) ->List UInt8) (C:Nat) (b:Value) (xs:List UInt8) (v:Value) (l:List (Nat × Int)) (B:Nat) (w:World) (Lq:Nat)
  (hE:∀args w,(callFunc Lq args).run prog w= .ok (.enter Lq args) w) (hl:et 1 JD mV w0 v l) (Lo:eg w B b xs) (hB:B <=w.heap.size) (h0:Src w0 w B)
  (hC:xs.length+(ff put l).length <=C) (Nv:C <=900000000)
  (hp:∀e∈l,∀u,mV w0 e u ->∀b xs w,eg w B b xs ->xs.length <=C ->B <=w.heap.size ->Src w0 w B ->Calls prog Lq #[b,u] w (fE xs (put e) B b w)):
  Calls prog 264 #[b,v, .func (.func Lq) #[] #[]] w (fE xs (ff put l) B b w):=by
 have HP:=V hp;have HL:=V hl;have H0:=V h0;have HC:=V hC;have HW:=V (Wr.refl Lo);have Ri:xs.length <=900000000:=by omega
 obtain⟨a,cap,rfl,M9,Mj⟩:=et.slice hl;clear hp hl h0 hC Lo Nv;go_enter func264,ntmps264;go_wp2_with fail;refine(fU b xs l.length (by omega) B w HW.out.1 (by omega) hB).mono ?_;rintro e w2 ⟨v2,rfl,ho,hk,hs⟩;have LH:=V (HW.out.step ⟨ho,hk,hs⟩);have LZ:=V (H0.out.next HW.out.1 ⟨ho,hk,hs⟩);clear ho hk hs;go_wp2_with fail;refine eJ (fun a' w'=>∃(vb:Value) (k:Nat),a'=fr (vb::gs a' 1 1 (.func (.func Lq) #[] #[]::gs a' 3 10 (.slice a l.length cap:: .int .i64 l.length:: .int .i64 k::gs a' 16 9 [])))/\vS w0 put xs l B b w w' vb k) (fun a' _=>(l.length - (intOf (a'.tmps.getD 15 undef)).toNat)) ?_ ?_
 ·exact⟨_,0,rfl,by omega,by simpa using LH.out,LZ.out⟩
 ·skip
  clear HW LH LZ H0 v2;rintro R a' w1 ⟨vb,k,Lp,hJ⟩ HR;dsimp only [fr,gs]at Lp;generalize slot a'=f at Lp;subst Lp;obtain⟨hk,Oc,N0⟩:=hJ;have HW:=V Oc;have HS:=V N0;have Qd:=V (show(xs++(eY l.length++((l.take k).map put).flatten)).length <=C by
   have h1:=HC.out;have h2:=jK put l k;simp only [ff,ah]at*;omega)
  clear Oc N0;by_cases q:k < l.length;rotate_left
  ·obtain rfl:k=l.length:=by omega
   have HW:=V (show Wr w b B w1 vb (xs++ff put l)by have:=HW.out;rwa [aV]at this);go_wp2_with fail;go_ret;exact⟨_,rfl,HW.out⟩
  obtain⟨x,hx⟩:∃x,l[k]?=some x:=⟨_,aw q⟩;obtain⟨bb,off,u,rfl,Lw,MV,hu⟩:=et.get HL.out hx;have c0:=(HS.out.1.cell Lw).trans (MV 0 _ rfl);rw [aK,bq]at c0;have HU:=V hu;obtain⟨⟨a1,LF,Nk,-,-,-⟩,-⟩:=id hu;rw [bo]at Nk;subst Nk;have HX:=V hx;clear MV hx hu;go_wp2_with fail;have Mn:=HW;have NB:=HS;refine(HP.out x (aO HX.out) _ HU.out _ _ _ Mn.out.1 Qd.out (Mn.out.base hB) NB.out).mono ?_;rintro e w2 ⟨v2,rfl,LL,Lv,LB⟩;have LH:=V (Mn.out.step ⟨LL,Lv,LB⟩);have LZ:=V (NB.out.next Mn.out.1 ⟨LL,Lv,LB⟩);clear LL Lv LB c0;go_wp2_with fail;refine HR.out _ _ ⟨_,k+1,rfl,by omega,?_,LZ.out⟩ ?_
  ·have:=LH.out
   rw [aR,HX.out];simpa using this
  ·simp [intOf]
   omega
theorem Iu (w0:World) (e:Nat × Int) (u:Value) (hu:mV w0 e u) (b:Value) (xs:List UInt8) (w:World) (B:Nat) (Lo:eg w B b xs) (hn:xs.length <=800000000) (hB:B <=w.heap.size) (h0:Src w0 w B) (hm:e.1 <=1000000):
  Calls prog 265 #[b,u] w (fE xs (xK e) B b w):=by
 obtain⟨n,k⟩:=e;have Pf:1 <=n:=hu.2;have Pq:n <=1000000:=hm;have hp:=(eO n).2;obtain⟨a,cap,rfl,M9,Mj,Rc⟩:=hu.1;obtain⟨X,off,rfl,Lw,LN⟩:=Rc 0 k (by rw [List.getElem?_replicate];simp;omega);have Qw:=LN 0 _ rfl;rw [Nat.zero_mul,aK]at Qw;simp only [bo]at M9⊢;have HC:=V Qw;have HLT:=V Lw;have HW:=V (Wr.refl Lo);have HS:=V h0;have c0:=(HS.out.1.cell HLT.out).trans HC.out;clear LN Rc Qw Lw hu Lo h0 hm;go_enter func265,ntmps265;go_wp2_with fail;refine eu (fun w'=>w'.cell? ⟨X,off,none⟩=some (.int .i64 k)) (up 0 3 (up 4 3 ((3,false)::(7,false)::(8,true)::[]))) (by kernel_rfl) (by kernel_rfl) c0 ?_;have HW:=V HW.out.drew;have HS:=V HS.out.drew;generalize w.drew=wa at HW HS⊢;iterate 6 (first | (apply sk rfl rfl;simp only [pt]) | (apply ef rfl rfl rfl;·(rintro w' t0;go_wp2;exact⟨rfl,rfl,rfl⟩)))
 refine eo rfl rfl ?_;go_wp2_with fail;refine(fU b xs n (by omega) B wa HW.out.1 (by omega) (HW.out.base hB)).mono ?_;rintro e w1 ⟨v1,rfl,ho,hk,hs⟩;have HS:=V (HS.out.next HW.out.1 ⟨ho,hk,hs⟩);have HW:=V (HW.out.step ⟨ho,hk,hs⟩);clear ho hk hs;have c0:=(HS.out.1.cell HLT.out).trans HC.out;go_wp2_with fail;refine⟨c0,?_⟩;refine eo rfl rfl ?_;go_wp2_with fail;refine(nD v1 _ k B w1 HW.out.1 (by simp only [ah];omega) (HW.out.base hB)).mono ?_;rintro e w2 ⟨v2,rfl,ho,hk,hs⟩;have HS:=V (HS.out.next HW.out.1 ⟨ho,hk,hs⟩);have HW:=V (HW.out.step ⟨ho,hk,hs⟩);clear ho hk hs;have c0:=(HS.out.1.cell HLT.out).trans HC.out;go_wp2_with fail;refine⟨c0,?_⟩;iterate 1 (first | (apply sk rfl rfl;simp only [pt]) | (apply ef rfl rfl rfl;·(rintro w' t0;go_wp2;exact⟨rfl,rfl,rfl⟩)))
 refine eV ?_;refine aD ?_;go_wp2_with fail;go_ret;exact⟨_,rfl,by show Wr _ _ _ _ _ _;simpa [xK] using HW.out⟩
section
def yp (x:lG):List Value:=[.int .i64 x.op, .int .i64 x.kind, .int .i64 x.eR, .bool x.dead]
theorem jZ (x:lG):(yp x).length=4:=rfl
theorem Fa (x:lG):∀u∈yp x,u.oneCell'=true:=by
 intro u hu;simp only [yp,bB,bN,cY]at hu;rcases hu with rfl | rfl | rfl | rfl <;>rfl
theorem wG:(prog.info? 186).map (fun i=>(i.zero,i.size,i.bytes))=some (some (.agg #[.int .i64 0, .int .i64 0, .int .i64 0, .bool false]),4,32):=by kernel_rfl
section
variable {α:Type} {k:Nat} {enc:α ->List Value} {t:TypeId}
theorem ua (hk:∀x,(enc x).length=k):∀(l:List α) (n:Nat),(l.take n).flatMap enc=(l.flatMap enc).take (n*k)
 | [],n=>by simp
 | x::l,0=>by simp
 | x::l,n+1=>by
  rw [List.take_succ_cons,bS,bS,ua hk l n,List.take_append,cW (l:=enc x) (i:=(n+1)*k) (by rw [hk,cU];omega)]
  congr 2
  rw [hk,cU];omega
theorem ea.take {w:World} {B:Nat} {a:Option Addr} {n cap:Nat} {l:List α} (hk:∀x,(enc x).length=k) (h:ea t k enc w B (.slice a n cap) l) (m:Nat) (hm:m <=l.length):ea t k enc w B (.slice a m cap) (l.take m):=by
 obtain⟨hl,hv | ⟨g,LO,cur,hv,hb,hg,hn,hx,hs,ht⟩⟩:=h
 ·obtain⟨hv,h0⟩:=hv
  injection hv with e1 e2 e3;subst e1 e2 e3;obtain rfl:=aH h0;obtain rfl:m=0:=by simpa using hm
  exact ea.nil _ _
 ·injection hv with e1 e2 e3
  subst e1 e2 e3;have hlen:(l.take m).length=m:=by rw [aS];omega
  refine⟨by rw [kf hk], .inr ⟨g,cap,cur,by rw [hlen],hb,hg,by rw [hlen];omega,hx,hs,?_⟩⟩;rw [hlen,ua hk, <- ht,List.take_take]
  congr 1
  have:m*k <=l.length*k:=cz k hm;omega
theorem ea.slice {w:World} {B:Nat} {v:Value} {l:List α} (h:ea t k enc w B v l):∃a cap,v= .slice a l.length cap/\l.length <=cap/\cap <=9223372036854775807:=by
 obtain⟨_,hv | ⟨g,cap,cur,hv,hb,hg,hn,hm,hs,ht⟩⟩:=h
 ·exact⟨none,0,by rw [hv.1,hv.2],by rw [hv.2];exact ag _,by omega⟩
 ·exact⟨_,cap,hv,hn,by simpa [maxLen] using hm⟩
theorem ea.same {a:Option Addr} {n n' cap:Nat}:∀i,eH (.slice a n cap) i↔eH (.slice a n' cap) i:=fun i=>by
 cases a <;>simp [eH,Value.ownBlock]
end
end
def fD (w0 w:World) (R:Nat) (st:gu):Prop:=
 ∃a l cap bad,eP w R #[.slice a (List.length l) cap, .bool bad] 191/\eW w0 (.slice a l.length cap) l/\l.length <=8000/\st=(if bad=true then none else some l)/\Below w0.heap.size w0 w/\w0.heap.size <=R
theorem fD.keeps {w0 w w':World} {R:Nat} {st:gu} {S:Nat ->Prop} (h:fD w0 w R st) (hk:ee S w w') (hR:¬ S R) (hS:∀i,S i ->w0.heap.size <=i):fD w0 w' R st:=by
 obtain⟨a,l,cap,bad,h1,h2,h3,h4,h5,h6⟩:=h;exact⟨a,l,cap,bad,h1.keeps hk hR,h2,h3,h4,h5.trans (hk.below h5.size hS),h6⟩
theorem fD.below {w0 w w':World} {R:Nat} {st:gu} (h:fD w0 w R st) (hk:Below w.heap.size w w'):fD w0 w' R st:=by
 obtain⟨a,l,cap,bad,h1,h2,h3,h4,h5,h6⟩:=h;exact⟨a,l,cap,bad,h1.below hk h1.lt,h2,h3,h4,h5.trans (hk.mono h5.size),h6⟩
theorem fD.drew {w0 w:World} {R:Nat} {st:gu} (h:fD w0 w R st):fD w0 w.drew R st:=by
 obtain⟨a,l,cap,bad,h1,h2,h3,h4,h5,h6⟩:=h;exact⟨a,l,cap,bad,h1.drew,h2,h3,h4,h5.drew,h6⟩
theorem fD.alloc {w0 w:World} {R:Nat} {st:gu} (h:fD w0 w R st) (o:Obj):fD w0 (w.alloc o) R st:=h.below ((an _ _).alloc (ag _) o)
theorem fD.bad {w0 w:World} {R:Nat} {st:gu} (h:fD w0 w R st):w.cell? ⟨R,1,none⟩=some (.bool st.isNone):=by
 obtain⟨a,l,cap,bad,h1,h2,h3,h4,h5,h6⟩:=h;rw [show w.cell? ⟨R,1,none⟩=some (.bool bad)from h1.cell 1,h4];cases bad <;>rfl
theorem fD.lt {w0 w:World} {R:Nat} {st:gu} (h:fD w0 w R st):R < w.heap.size:=by
 obtain⟨a,l,cap,bad,h1,h2,h3,h4,h5,h6⟩:=h;exact h1.lt
theorem fD.old {w0 w:World} {R:Nat} {st:gu} (h:fD w0 w R st):Below w0.heap.size w0 w/\w0.heap.size <=R:=by
 obtain⟨a,l,cap,bad,h1,h2,h3,h4,h5,h6⟩:=h;exact⟨h5,h6⟩
theorem fD.len {w0 w:World} {R:Nat} {st:gu} (h:fD w0 w R st):st.len <=8001:=by
 obtain⟨a,l,cap,bad,h1,h2,h3,h4,h5,h6⟩:=h;subst h4;cases bad
 ·show l.length+1 <=8001
  omega
 ·show 0 <=8001
  omega
def zu (w0 w:World) (R:Nat) (v:Value) (st:gu) (e:Ending) (w':World):Prop:=e= .returned v/\fD w0 w' R st/\ee (fun k=>k=R) w w'
theorem vF {L:List UInt8} (n:Nat) (hn:n <=L.length) (a:Option Addr) (cap:Nat):∃a2 Lu,
  (∀wx,(Instr.slice 97 (.slice a L.length cap) (some (.int .i64 n)) none none).run prog wx= .ok (.slice a2 (L.drop n).length Lu) wx)/\
  (∀wy,eW wy (.slice a L.length cap) L ->eW wy (.slice a2 (L.drop n).length Lu) (L.drop n)):=by
 have h:=oI (cn n L).symm a cap;rw [aS,cD hn]at h;obtain⟨a2,Lu,h1,h2,_⟩:=h;exact⟨a2,Lu,h1,h2⟩
def iJ (n:Nat) (ok:Bool) (st:gu):gu:=st.bind fun l=>if ok=true/\n <=l.length then some (l.drop n)else none
theorem lq (w0 w:World) (R:Nat) (st:gu) (n:Nat) (ok:Bool) (hn:n <=9223372036854775807) (h:fD w0 w R st):
  Calls prog 108 #[.pointer (some ⟨R,0,none⟩), .int .i64 n, .bool ok] w (zu w0 w R (.tuple #[]) (iJ n ok st)):=by
 obtain⟨a,l,cap,bad,LK,hl,hlen,LI,LQ,PH⟩:=h;have ML:=V LK;have HL:=V hl;have Pg:=V LQ;have PR:=V PH;have c0:w.cell? ⟨R,0,none⟩=some (.slice a l.length cap):=LK.cell 0;have c1:w.cell? ⟨R,1,none⟩=some (.bool bad):=LK.cell 1;have z0:=LK.free 0;have z1:=LK.free 1;clear LK hl LQ PH;subst LI;cases bad with
 | true=>
  have HS:Hid (iJ n ok (if true=true then none else some l)=(if true=true then none else some l)):=V rfl;go_enter func108,ntmps108;go_wp2_with fail
  go_end0
  exact⟨rfl,⟨a,l,cap,true,by simpa using ML.out.set 1 (.bool true),HL.out,hlen,HS.out,Pg.out.setCell PR.out _,PR.out⟩,fA _ R 1 _⟩
 | false=>
  cases ok with
  | false=>
   have HS:Hid (iJ n false (if false=true then none else some l)=(if true=true then none else some l)):=V rfl;go_enter func108,ntmps108;go_wp2_with fail
   go_end0
   exact⟨rfl,⟨a,l,cap,true,by simpa using ML.out.set 1 (.bool true),HL.out,hlen,HS.out,Pg.out.setCell PR.out _,PR.out⟩,fA _ R 1 _⟩
  | true=>
   by_cases q:n <=l.length
   ·have f1:decide (l.length < n)=false:=aq (by omega)
    have HS:Hid (iJ n true (if false=true then none else some l)=(if false=true then none else some (l.drop n))):=V (by simp [iJ,q]);have HD:Hid ((l.drop n).length <=8000):=V (by rw [bu];omega);obtain⟨a2,Lu,LA,hi⟩:=vF n q a cap;have HI:=V hi;clear q hi;go_enter func108,ntmps108;go_wp2_with fail
    go_end0
    exact⟨rfl,⟨a2,l.drop n,Lu,false,by simpa using (ML.out.set 1 (.bool false)).set 0 (.slice a2 (l.drop n).length Lu),HI.out _ HL.out,HD.out,HS.out,(Pg.out.setCell PR.out _).setCell PR.out _,PR.out⟩,(fA _ R 1 _).trans (fA _ R 0 _) (fun _ h=> .inl h)⟩
   ·have f1:decide (l.length < n)=true:=aA (by omega)
    have HS:Hid (iJ n true (if false=true then none else some l)=(if true=true then none else some l)):=V (by simp [iJ,q]);clear q;go_enter func108,ntmps108;go_wp2_with fail
    go_end0
    exact⟨rfl,⟨a,l,cap,true,by simpa using ML.out.set 1 (.bool true),HL.out,hlen,HS.out,Pg.out.setCell PR.out _,PR.out⟩,fA _ R 1 _⟩
def iX (st:gu):Nat:=((st.bind gq).map (·.1)).getD 0
theorem iQ (st:gu):ie gq st (iX st):=fun y hy=>by rw [iX,hy];rfl
theorem xI (l:List UInt8):(ix 32 l).1 < 4294967296:=by
 unfold ix;split
 ·simp
 ·split
  ·rename_i h
   have:(2:Nat)^(32:Int).toNat=4294967296:=by decide
   omega
  ·simp
theorem iU (st:gu):iX st < 4294967296:=by
 unfold iX;cases st with
 | none=>simp
 | some l=>
  simp only [az];unfold gq;split
  ·exact xI l
  ·simp
theorem im (w0 w:World) (R:Nat) (st:gu) (h:fD w0 w R st):Calls prog 110 #[.pointer (some ⟨R,0,none⟩)] w (zu w0 w R (.int .i64 (iX st)) (ez gq st)):=by
 have HH:=V h;obtain⟨a,l,cap,bad,LK,hl,hlen,LI,LQ,PH⟩:=h;have c0:w.cell? ⟨R,0,none⟩=some (.slice a l.length cap):=LK.cell 0;have HL:=V (hl.below LQ);obtain⟨x,k,err,hr⟩:∃x k err,ix 32 l=(x,k,err):=⟨_,_,_,rfl⟩;have hx:=xI l;have hk:=xS 32 l;rw [hr]at hx hk;simp only at hx hk;have HN:Hid (ez gq st=iJ k (err==0) st):=V (by
  rw [LI];cases bad with
  | true=>rfl
  | false=>
   simp only [ez,gq,iJ,hr,cE,if_false,az];by_cases q:err=0
   ·rw [aJ q,aJ ⟨by simp [q],hk⟩]
    rfl
   ·rw [aC q,aC (by simp [q])]
    rfl)
 have HV:Hid (iX st=if(iJ k (err==0) st).isNone=true then 0 else x):=V (by
  rw [<- HN.out,LI];cases bad with
  | true=>rfl
  | false=>
   simp only [ez,gq,iX,hr,cE,if_false,az];by_cases q:err=0
   ·rw [aJ q];rfl
   ·rw [aC q];rfl)
 clear LK hl LI LQ PH;go_enter func110,ntmps110;go_wp2_with fail;refine(vt _ l 32 _ HL.out (by omega) (by omega)).mono ?_;rintro e w1 ⟨rfl,hb⟩;rw [hr];have HB:=V (ee.eh (S:=fun k=>k=R) hb);have HH1:=V (HH.out.below hb);clear hr hb c0;go_wp2_with fail;refine(lq w0 w1 R _ k (err==0) (by omega) HH1.out).mono ?_;rintro e w2 ⟨rfl,h2,Lv⟩;have c1:=h2.bad;rw [<- HN.out]at h2;have HH2:=V h2;have HK:=V (HB.out.trans Lv (fun _ h=> .inl h));clear h2 Lv HB;cases hq:(iJ k (err==0) st).isNone
 ·rw [hq]at c1
  have HV:=V (show iX st=x by have:=HV.out;rw [hq]at this;exact this);clear hq;go_wp2_with fail;go_ret;exact⟨by rw [HV.out];rfl,HH2.out,HK.out⟩
 ·rw [hq]at c1
  have HV:=V (show iX st=0 by have:=HV.out;rw [hq]at this;exact this);clear hq;go_wp2_with fail;go_ret;exact⟨by rw [HV.out];rfl,HH2.out,HK.out⟩
def nc (st:gu):UInt8:=((st.bind fk).map (·.1)).getD 0
theorem mP (st:gu):ie fk st (nc st):=fun y hy=>by rw [nc,hy];rfl
theorem jl (w0 w:World) (R:Nat) (st:gu) (h:fD w0 w R st):Calls prog 109 #[.pointer (some ⟨R,0,none⟩)] w (zu w0 w R (bv (nc st)) (ez fk st)):=by
 obtain⟨a,l,cap,bad,LK,hl,hlen,LI,LQ,PH⟩:=h;have ML:=V LK;have HL:=V hl;have Pg:=V LQ;have PR:=V PH;have c0:w.cell? ⟨R,0,none⟩=some (.slice a l.length cap):=LK.cell 0;have c1:w.cell? ⟨R,1,none⟩=some (.bool bad):=LK.cell 1;have z0:=LK.free 0;have z1:=LK.free 1;clear LK hl LQ PH;subst LI;cases bad with
 | true=>
  go_enter func109,ntmps109;go_wp2_with fail;go_ret;exact⟨rfl,⟨a,l,cap,true,by simpa using ML.out.set 1 (.bool true),HL.out,hlen,rfl,Pg.out.setCell PR.out _,PR.out⟩,fA _ R 1 _⟩
 | false=>
  cases l with
  | nil=>
   have f1:((([]:List UInt8).length:Int)==0)=true:=rfl;go_enter func109,ntmps109;go_wp2_with fail;go_ret;exact⟨rfl,⟨a,[],cap,true,by simpa using ML.out.set 1 (.bool true),HL.out,hlen,rfl,Pg.out.setCell PR.out _,PR.out⟩,fA _ R 1 _⟩
  | cons c r=>
   obtain⟨L,hL⟩:∃L,L=c::r:=⟨_,rfl⟩;rw [<- hL]at c0 ML HL hlen⊢;have Pd:0 < L.length:=by rw [hL];simp
   have f1:((L.length:Int)==0)=false:=ed (by omega);have HV:Hid (nc (some L)=c):=V (by rw [hL];rfl);have HS:Hid (ez fk (some L)=(if false=true then none else some (L.drop 1))):=V (by rw [hL];rfl);have HD:Hid ((L.drop 1).length <=8000):=V (by rw [bu];omega);obtain⟨a2,Lu,LA,hi⟩:=vF (L:=L) 1 (by omega) a cap;obtain⟨_,_,OW,-,-,Ln⟩:=id (HL.out.below Pg.out);injection OW with e1 e2 e3;subst e1 e3;obtain⟨g,off,rfl,hg⟩:=Ln 0 c (by rw [hL];rfl);rw [aK]at hg;have HI:=V hi;have hrun1:∀wx,(Instr.slice 97 (.slice (some ⟨g,off,none⟩) L.length cap) (some (.int .i64 1)) none none).run prog wx= .ok (.slice a2 (L.drop 1).length Lu) wx:=fun wx=>LA wx;clear hi Ln e2 hL LA;go_enter func109,ntmps109;go_wp2_with fail;go_ret;exact⟨by rw [HV.out];rfl,⟨a2,L.drop 1,Lu,false,by simpa using ML.out.set 0 (.slice a2 (L.drop 1).length Lu),HI.out _ HL.out,HD.out,HS.out,Pg.out.setCell PR.out _,PR.out⟩,fA _ R 0 _⟩
def nW (st:gu):Int:=((st.bind gT).map (·.1)).getD 0
theorem wH (st:gu):ie gT st (nW st):=fun y hy=>by rw [nW,hy];rfl
theorem Am (st:gu):ez gT st=(if(nc st).toNat=127\/(nc st).toNat=126 then ez fk st else none)/\nW st=(if(nc st).toNat=127 then 1 else if(nc st).toNat=126 then 2 else 0):=by
 match st with
 | none=>exact⟨rfl,rfl⟩
 | some []=>exact⟨rfl,rfl⟩
 | some (c::l)=>
  have hb:nc (some (c::l))=c:=rfl;rw [hb];by_cases q1:c.toNat=127
  ·obtain rfl:c=127:=dD.1 q1
   exact⟨rfl,rfl⟩
  ·by_cases q2:c.toNat=126
   ·obtain rfl:c=126:=dD.1 q2
    exact⟨rfl,rfl⟩
   ·have hn:gT (c::l)=none:=by
     unfold gT;split
     ·rename_i h;injection h with h;subst h;exact absurd rfl q1
     ·rename_i h;injection h with h;subst h;exact absurd rfl q2
     ·rfl
    simp only [ez,nW,az,hn,q1,q2,or_self,if_false];exact⟨rfl,rfl⟩
theorem uX (w0 w:World) (R:Nat) (st:gu) (h:fD w0 w R st):Calls prog 270 #[.pointer (some ⟨R,0,none⟩)] w (zu w0 w R (.int .i64 (nW st)) (ez gT st)):=by
 have HH:=V h;obtain⟨hn,hv⟩:=Am st;have HN:=V hn;have HV:=V hv;obtain⟨c,hc⟩:∃c,nc st=c:=⟨_,rfl⟩;have HC:=V hc;have hc8:=c.toNat_lt;clear h hn hv hc;go_enter func270,ntmps270;go_wp2_with fail;refine(jl w0 w R st HH.out).mono ?_;rintro e w1 ⟨rfl,h1,hk⟩;rw [HC.out];have HH1:=V h1;have HK:=V hk;by_cases q1:c.toNat=127
 ·have f1:((c.toNat:Int)==127)=true:=eQ (by omega)
  have HN:=V (show ez gT st=ez fk st by rw [HN.out,HC.out,aJ (.inl q1)]);have HV:=V (show nW st=1 by rw [HV.out,HC.out,aJ q1]);clear q1 h1 hk;go_wp2_with fail;go_ret;exact⟨by rw [HV.out];rfl,by rw [HN.out];exact HH1.out,HK.out⟩
 ·have f1:((c.toNat:Int)==127)=false:=ed (by omega)
  by_cases q2:c.toNat=126
  ·have f2:((c.toNat:Int)==126)=true:=eQ (by omega)
   have HN:=V (show ez gT st=ez fk st by rw [HN.out,HC.out,aJ (.inr q2)]);have HV:=V (show nW st=2 by rw [HV.out,HC.out,aC q1,aJ q2]);clear q1 q2 h1 hk;go_wp2_with fail;go_ret;exact⟨by rw [HV.out];rfl,by rw [HN.out];exact HH1.out,HK.out⟩
  ·have f2:((c.toNat:Int)==126)=false:=ed (by omega)
   have HN:=V (show ez gT st=none by rw [HN.out,HC.out,aC (by omega)]);have HV:=V (show nW st=0 by rw [HV.out,HC.out,aC q1,aC q2]);obtain⟨a,l,cap,bad,LK,hl,hlen,-,LQ,PH⟩:=h1;have z1:=LK.free 1;have ML:=V LK;have HL:=V hl;have Pg:=V LQ;have c1:w1.cell? ⟨R,1,none⟩=some (.bool bad):=LK.cell 1;clear q1 q2 hk LK hl LQ;go_wp2_with fail;go_ret;exact⟨by rw [HV.out];rfl,by rw [HN.out];exact⟨a,l,cap,true,by simpa using ML.out.set 1 (.bool true),HL.out,hlen,rfl,Pg.out.setCell PH _,PH⟩,HK.out.trans (fA _ R 1 _) (fun _ h=> .inl h)⟩
end Go.Proofs.YthbjdhjppbcneaaGreatDoor
