import Derived.Test.YthbjdhjppbcneaaGreatDoorStackJ7
namespace Go.Proofs.YthbjdhjppbcneaaGreatDoor
set_option maxRecDepth 100000
set_option maxHeartbeats 20000000
open Go.RowKit Tryz
open Lib renaming hid->V
set_option linter.all false
theorem sg (x:fL) (least fg:Int) (w:World):Calls prog 97 #[.agg #[.bool x.has, .int .i64 x.min, .int .i64 x.max], .int .i64 least, .int .i64 fg] w (et (decide (x.may least fg)) w):=by
 obtain⟨has,mn,mx⟩:=x;cases has with
 | false=>
  by_cases q1:mn=0
  ·have f1:=eF q1
   have HB:Hid (decide (fL.may least fg ⟨false,mn,mx⟩)=(mx==0)):=V (by rw [dw];simp [fL.may,q1]);clear q1;go_enter func97,ntmps97;go_wp2_with fail;go_ret;exact⟨by rw [HB.out];rfl,(an _ _).alloc (ag _) _⟩
  ·have f1:=dQ q1
   have HB:Hid (decide (fL.may least fg ⟨false,mn,mx⟩)=false):=V (by simp [fL.may,q1]);clear q1;go_enter func97,ntmps97;go_wp2_with fail;go_ret;exact⟨by rw [HB.out];rfl,(an _ _).alloc (ag _) _⟩
 | true=>
  by_cases q1:0 <=mn
  ·have f1:decide (0 <=mn)=true:=az q1
   by_cases q2:mn <=least
   ·have f2:decide (mn <=least)=true:=az q2
    by_cases q3: -1 <=mx
    ·have f3:decide (-1 <=mx)=true:=az q3
     have HB:Hid (decide (fL.may least fg ⟨true,mn,mx⟩)=decide (mx <=fg)):=V (by simp [fL.may,q1,q2,q3]);clear q1 q2 q3;go_enter func97,ntmps97;go_wp2_with fail;go_ret;exact⟨by rw [HB.out];rfl,(an _ _).alloc (ag _) _⟩
    ·have f3:decide (-1 <=mx)=false:=aA q3
     have HB:Hid (decide (fL.may least fg ⟨true,mn,mx⟩)=false):=V (by simp only [fL.may,cY,q3,false_and,and_false];rfl);clear q1 q2 q3;go_enter func97,ntmps97;go_wp2_with fail;go_ret;exact⟨by rw [HB.out];rfl,(an _ _).alloc (ag _) _⟩
   ·have f2:decide (mn <=least)=false:=aA q2
    have HB:Hid (decide (fL.may least fg ⟨true,mn,mx⟩)=false):=V (by simp only [fL.may,cY,q2,false_and,and_false];rfl);clear q1 q2;go_enter func97,ntmps97;go_wp2_with fail;go_ret;exact⟨by rw [HB.out];rfl,(an _ _).alloc (ag _) _⟩
  ·have f1:decide (0 <=mn)=false:=aA q1
   have HB:Hid (decide (fL.may least fg ⟨true,mn,mx⟩)=false):=V (by simp only [fL.may,cY,q1,false_and];rfl);clear q1;go_enter func97,ntmps97;go_wp2_with fail;go_ret;exact⟨by rw [HB.out];rfl,(an _ _).alloc (ag _) _⟩
theorem ej.open {w:World} {u:eB} {m:ew} (h:ej w u m):∃a0 c0 a1 c1 a2 c2 a3 c3 a4 c4 a5 c5 a6 c6 a7 c7,
  u=⟨.slice a0 m.types.length c0, .slice a1 m.imports.length c1, .slice a2 m.funcs.length c2, .slice a3 m.globals.length c3, .slice a4 m.dY.length c4, .slice a5 m.elems.length c5, .slice a6 m.eh.length c6, .slice a7 m.eA.length c7⟩:=by
 obtain⟨h1,h2,h3,h4,h5,h6,h7,h8,_⟩:=h;obtain⟨u0,u1,u2,u3,u4,u5,u6,u7⟩:=u;obtain⟨a0,c0,e0,-⟩:=ea.slice h1;obtain⟨a1,c1,e1,-⟩:=eT h2;obtain⟨a2,c2,e2,-⟩:=eT h3;obtain⟨a3,c3,e3,-⟩:=eT h4;obtain⟨a4,c4,e4,-⟩:=eT h5;obtain⟨a5,c5,e5,-⟩:=ea.slice h6;obtain⟨a6,c6,e6,-⟩:=ea.slice h7;obtain⟨a7,c7,e7,-⟩:=ea.slice h8;simp only at e0 e1 e2 e3 e4 e5 e6 e7;subst e0 e1 e2 e3 e4 e5 e6 e7;exact⟨a0,c0,a1,c1,a2,c2,a3,c3,a4,c4,a5,c5,a6,c6,a7,c7,rfl⟩
def ew.words (m:ew):Prop:=(∀x∈m.imports,x.mod.size <=1000000000000/\x.name.size <=1000000000000)/\∀x∈m.dY,x.name.size <=1000000000000
theorem Dj (m:ew) (u:eB) (w:World) (hm:ej w u m) (hs:m.words):Calls prog 96 #[.agg (u.cells m)] w (et (decide m.lists) w):=by
 have HI:=V hm;have HS:=V hs;obtain⟨a0,c0,a1,c1,a2,c2,a3,c3,a4,c4,a5,c5,a6,c6,a7,c7,rfl⟩:=hm.open;have hil:m.imports.length <=9223372036854775807:=by
  obtain⟨_,_,_,h1,h2⟩:=eT HI.out.2.1;omega
 clear hm hs;have HM:Hid (decide m.lists=(decide ((m.types.length:Int) <=16/\∀x∈m.types,x.may)&&(decide ((m.imports.length:Int) <=16/\∀x∈m.imports,x.may)&&(decide ((m.funcs.length:Int) <=16 - m.imports.length/\∀n∈m.funcs,fR n)&&(decide ((m.globals.length:Int) <=16/\∀x∈m.globals,x.init.may)&&(decide ((m.dY.length:Int) <=16/\∀x∈m.dY,x.may)&&(decide ((m.elems.length:Int) <=16/\∀x∈m.elems,x.may)&&decide ((m.eA.length:Int) <=16/\∀x∈m.eA,x.may)))))))):=V (by
  simp only [<- cL];refine dc.2 ?_;unfold ew.lists
  constructor
  ·rintro⟨⟨⟨p1,q1⟩,⟨p2,q2⟩,p3,q3⟩,⟨p4,q4⟩,⟨p5,q5⟩,⟨p6,q6⟩,p7,q7⟩
   exact⟨⟨by omega,q1⟩,⟨by omega,q2⟩,⟨p3,q3⟩,⟨by omega,q4⟩,⟨by omega,q5⟩,⟨by omega,q6⟩,by omega,q7⟩
  ·rintro⟨⟨p1,q1⟩,⟨p2,q2⟩,⟨p3,q3⟩,⟨p4,q4⟩,⟨p5,q5⟩,⟨p6,q6⟩,p7,q7⟩
   exact⟨⟨⟨by omega,q1⟩,⟨by omega,q2⟩,p3,q3⟩,⟨by omega,q4⟩,⟨by omega,q5⟩,⟨by omega,q6⟩,by omega,q7⟩)
 simp only [eB.cells];have B0:=eE.new w #[.slice a0 m.types.length c0, .slice a1 m.imports.length c1, .slice a2 m.funcs.length c2, .bool m.table.has, .int .i64 m.table.min, .int .i64 m.table.max, .bool m.mem.has, .int .i64 m.mem.min, .int .i64 m.mem.max, .slice a3 m.globals.length c3, .slice a4 m.dY.length c4, .slice a5 m.elems.length c5, .slice a6 m.eh.length c6, .slice a7 m.eA.length c7] 62;have h0:Below w.heap.size w (w.alloc (.cells #[.slice a0 m.types.length c0, .slice a1 m.imports.length c1, .slice a2 m.funcs.length c2, .bool m.table.has, .int .i64 m.table.min, .int .i64 m.table.max, .bool m.mem.has, .int .i64 m.mem.min, .int .i64 m.mem.max, .slice a3 m.globals.length c3, .slice a4 m.dY.length c4, .slice a5 m.elems.length c5, .slice a6 m.eh.length c6, .slice a7 m.eA.length c7] 62)):=(an _ _).alloc (ag _) _;go_enter func96,ntmps96;go_wp2_with fail;refine(ER (fun x=>decide x.may) _ m.types _ (HI.out.1.below h0) 155 16 (fun _ _=>by rfl) (fun e _ u w' _ hu=>Dp e u w' hu)).mono ?_;rw [kH];rintro x w1 ⟨rfl,hb⟩;obtain⟨r1,hr⟩:∃r,decide ((m.types.length:Int) <=16/\∀x∈m.types,x.may)=r:=⟨_,rfl⟩;rw [hr];have R1:=V hr;clear hr;have B1:=B0.below hb B0.lt;have h1:=h0.trans (hb.mono h0.size);clear hb;have g1:w1.cell? ⟨w.heap.size,1,none⟩=some (.slice a1 m.imports.length c1):=B1.cell 1;go_wp2_with fail;refine(Fz (fun x=>decide x.may) _ m.imports _ (HI.out.2.1.below h1) 157 16 (fun _ _=>by rfl) (fun e he w' _=>Du e w' (HS.out.1 e he))).mono ?_;rw [kH];rintro x w2 ⟨rfl,hb⟩;obtain⟨r2,hr⟩:∃r,decide ((m.imports.length:Int) <=16/\∀x∈m.imports,x.may)=r:=⟨_,rfl⟩;rw [hr];have R2:=V hr;clear hr;have B2:=B1.below hb B1.lt;have h2:=h1.trans (hb.mono h1.size);clear hb;clear g1;have g1:w2.cell? ⟨w.heap.size,1,none⟩=some (.slice a1 m.imports.length c1):=B2.cell 1;have g2:w2.cell? ⟨w.heap.size,2,none⟩=some (.slice a2 m.funcs.length c2):=B2.cell 2;go_wp2_with fail;refine(pV _ m.funcs (16 - m.imports.length) _ (HI.out.2.2.1.below h2)).mono ?_;rintro x w3 ⟨rfl,hb⟩;obtain⟨r3,hr⟩:∃r,decide ((m.funcs.length:Int) <=16 - m.imports.length/\∀n∈m.funcs,fR n)=r:=⟨_,rfl⟩;rw [hr];have R3:=V hr;clear hr;have B3:=B2.below hb B2.lt;have h3:=h2.trans (hb.mono h2.size);clear hb;clear g1 g2 hil;have g1:w3.cell? ⟨w.heap.size,9,none⟩=some (.slice a3 m.globals.length c3):=B3.cell 9;go_wp2_with fail;refine(DX (fun x=>decide x.init.may) _ m.globals _ (HI.out.2.2.2.1.below h3) 161 16 (fun _ _=>by rfl) (fun e _ w' _=>FJ e w')).mono ?_;rw [kH];rintro x w4 ⟨rfl,hb⟩;obtain⟨r4,hr⟩:∃r,decide ((m.globals.length:Int) <=16/\∀x∈m.globals,x.init.may)=r:=⟨_,rfl⟩;rw [hr];have R4:=V hr;clear hr;have B4:=B3.below hb B3.lt;have h4:=h3.trans (hb.mono h3.size);clear hb;clear g1;have g1:w4.cell? ⟨w.heap.size,10,none⟩=some (.slice a4 m.dY.length c4):=B4.cell 10;go_wp2_with fail;refine(FD (fun x=>decide x.may) _ m.dY _ (HI.out.2.2.2.2.1.below h4) 163 16 (fun _ _=>by rfl) (fun e he w' _=>Ei e w' (HS.out.2 e he))).mono ?_;rw [kH];rintro x w5 ⟨rfl,hb⟩;obtain⟨r5,hr⟩:∃r,decide ((m.dY.length:Int) <=16/\∀x∈m.dY,x.may)=r:=⟨_,rfl⟩;rw [hr];have R5:=V hr;clear hr;have B5:=B4.below hb B4.lt;have h5:=h4.trans (hb.mono h4.size);clear hb;clear g1;have g1:w5.cell? ⟨w.heap.size,11,none⟩=some (.slice a5 m.elems.length c5):=B5.cell 11;go_wp2_with fail;refine(Ex (fun x=>decide x.may) _ m.elems _ (ea.below HI.out.2.2.2.2.2.1 h5 (fun _ _ h=>h.below h5)) 165 16 (fun _ _=>by rfl) (fun e _ u w' _ hu=>E3 e u w' hu)).mono ?_;rw [kH];rintro x w6 ⟨rfl,hb⟩;obtain⟨r6,hr⟩:∃r,decide ((m.elems.length:Int) <=16/\∀x∈m.elems,x.may)=r:=⟨_,rfl⟩;rw [hr];have R6:=V hr;clear hr;have B6:=B5.below hb B5.lt;have h6:=h5.trans (hb.mono h5.size);clear hb;clear g1;have g1:w6.cell? ⟨w.heap.size,13,none⟩=some (.slice a7 m.eA.length c7):=B6.cell 13;go_wp2_with fail;refine(EP (fun x=>decide x.may) _ m.eA _ (ea.below HI.out.2.2.2.2.2.2.2.1 h6 (fun _ _ h=>h.below h6)) 168 16 (fun _ _=>by rfl) (fun e _ u w' _ hu=>EJ e u w' hu)).mono ?_;rw [kH];rintro x w7 ⟨rfl,hb⟩;obtain⟨r7,hr⟩:∃r,decide ((m.eA.length:Int) <=16/\∀x∈m.eA,x.may)=r:=⟨_,rfl⟩;rw [hr];have R7:=V hr;clear hr;have h7:=h6.trans (hb.mono h6.size);clear g1 B0 B1 B2 B3 B4 B5 B6 h0 h1 h2 h3 h4 h5 h6 hb;cases r1
 ·skip
  go_wp2_with fail;go_ret;exact⟨by rw [HM.out,R1.out];rfl,h7⟩
 cases r2
 ·skip
  go_wp2_with fail;go_ret;exact⟨by rw [HM.out,R1.out,R2.out];rfl,h7⟩
 cases r3
 ·skip
  go_wp2_with fail;go_ret;exact⟨by rw [HM.out,R1.out,R2.out,R3.out];rfl,h7⟩
 cases r4
 ·skip
  go_wp2_with fail;go_ret;exact⟨by rw [HM.out,R1.out,R2.out,R3.out,R4.out];rfl,h7⟩
 cases r5
 ·skip
  go_wp2_with fail;go_ret;exact⟨by rw [HM.out,R1.out,R2.out,R3.out,R4.out,R5.out];rfl,h7⟩
 cases r6
 ·skip
  go_wp2_with fail;go_ret;exact⟨by rw [HM.out,R1.out,R2.out,R3.out,R4.out,R5.out,R6.out];rfl,h7⟩
 go_wp2_with fail;go_ret;exact⟨by rw [HM.out,R1.out,R2.out,R3.out,R4.out,R5.out,R6.out,R7.out];rfl,h7⟩
theorem Ft (w0:World) (put:jb ->List UInt8) (C:Nat) (b:Value) (xs:List UInt8) (v:Value) (l:List jb) (B:Nat) (w:World) (Kj:Nat)
  (hE:∀args w,(callFunc Kj args).run prog w= .ok (.enter Kj args) w) (hl:ee 3 sC w0 v l) (Ki:dU w B b xs) (hB:B <=w.heap.size) (h0:Src w0 w B)
  (hC:xs.length+(eS put l).length <=C) (Mk:C <=900000000)
  (hp:∀e∈l,∀b xs w,dU w B b xs ->xs.length <=C ->B <=w.heap.size ->Src w0 w B ->Calls prog Kj #[b, .agg #[.bool e.isVar, .int .i64 e.init.kind, .int .i64 e.init.n]] w (fk xs (put e) B b w)):
  Calls prog 259 #[b,v, .func (.func Kj) #[] #[]] w (fk xs (eS put l) B b w):=by
 have HP:=V hp;have HL:=V hl;have H0:=V h0;have HC:=V hC;have HW:=V (Wr.refl Ki);have PZ:xs.length <=900000000:=by omega
 obtain⟨a,cap,rfl,Me,La⟩:=eT hl;clear hp hl h0 hC Ki Mk;go_enter func259,ntmps259;go_wp2_with fail;refine(fF b xs l.length (by omega) B w HW.out.1 (by omega) hB).mono ?_;rintro e w2 ⟨v2,rfl,ho,hk,hs⟩;have KA:=V (HW.out.step ⟨ho,hk,hs⟩);have KP:=V (H0.out.next HW.out.1 ⟨ho,hk,hs⟩);clear ho hk hs;go_wp2_with fail;refine ez (fun a' w'=>∃(vb:Value) (k:Nat),a'=fr (vb::gs a' 1 1 (.func (.func Kj) #[] #[]::gs a' 3 10 (.slice a l.length cap:: .int .i64 l.length:: .int .i64 k::gs a' 16 9 [])))/\uY w0 put xs l B b w w' vb k) (fun a' _=>(l.length - (intOf (a'.tmps.getD 15 undef)).toNat)) ?_ ?_
 ·exact⟨_,0,rfl,by omega,by simpa using KA.out,KP.out⟩
 ·skip
  clear HW KA KP H0 v2;rintro R a' w1 ⟨vb,k,Kk,hJ⟩ HR;dsimp only [fr,gs]at Kk;generalize slot a'=f at Kk;subst Kk;obtain⟨hk,M4,MS⟩:=hJ;have HW:=V M4;have HS:=V MS;have O2:=V (show(xs++(eL l.length++((l.take k).map put).flatten)).length <=C by
   have h1:=HC.out;have h2:=jw put l k;simp only [eS,ah]at*;omega)
  clear M4 MS;by_cases q:k < l.length;rotate_left
  ·obtain rfl:k=l.length:=by omega
   have HW:=V (show Wr w b B w1 vb (xs++eS put l)by have:=HW.out;rwa [aU]at this);go_wp2_with fail;go_ret;exact⟨_,rfl,HW.out⟩
  obtain⟨x,hx⟩:∃x,l[k]?=some x:=⟨_,aq q⟩;obtain⟨a',KE,hv,_,_,Kh⟩:=HL.out;injection hv with e1 e2 e3;subst e1 e3;obtain⟨bb,off,rfl,Kq,LL⟩:=Kh k x hx;clear Kh e2;have c0:=(HS.out.1.cell Kq).trans (LL 0 _ rfl);have c1:=(HS.out.1.cell Kq).trans (LL 1 _ rfl);have c2:=(HS.out.1.cell Kq).trans (LL 2 _ rfl);rw [aK]at c0;have HX:=V hx;clear LL hx;go_wp2_with fail;have Lc:=V (HW.out.alloc (.cells #[.bool x.isVar, .int .i64 x.init.kind, .int .i64 x.init.n] 120));have Ms:=V (HS.out.alloc (.cells #[.bool x.isVar, .int .i64 x.init.kind, .int .i64 x.init.n] 120));refine(HP.out x (aO HX.out) _ _ _ Lc.out.1 O2.out (Lc.out.base hB) Ms.out).mono ?_;rintro e w2 ⟨v2,rfl,KB,Kp,Ku⟩;have KA:=V (Lc.out.step ⟨KB,Kp,Ku⟩);have KP:=V (Ms.out.next Lc.out.1 ⟨KB,Kp,Ku⟩);clear KB Kp Ku c0 c1 c2;go_wp2_with fail;refine HR.out _ _ ⟨_,k+1,rfl,by omega,?_,KP.out⟩ ?_
  ·have:=KA.out
   rw [aQ,HX.out];simpa using this
  ·simp [intOf]
   omega
theorem FU (w0:World) (put:jb ->List UInt8) (no:Nat) (NI:no < 256) (b:Value) (xs:List UInt8) (v:Value) (l:List jb) (B:Nat) (w:World) (Kj:Nat)
  (hE:∀args w,(callFunc Kj args).run prog w= .ok (.enter Kj args) w) (hl:ee 3 sC w0 v l) (Ki:Row w B b xs) (hB:B <=w.heap.size) (h0:Below w0.heap.size w0 w)
  (hC:xs.length+(eS put l).length <=100000000)
  (hp:∀e∈l,∀b xs w B,dU w B b xs ->xs.length <=100000000 ->B <=w.heap.size ->Src w0 w B ->Calls prog Kj #[b, .agg #[.bool e.isVar, .int .i64 e.init.kind, .int .i64 e.init.n]] w (fk xs (put e) B b w)):
  Calls prog 182 #[b, .int .i64 no,v, .func (.func Kj) #[] #[]] w (mc xs (fB (b8 no) put l) B b w):=by
 have HP:=V hp;have HL:=V hl;have H0:=V h0;have HW:=V (sv.refl Ki);obtain⟨a,cap,rfl,Me,La⟩:=eT hl;clear hp hl h0 Ki;by_cases q:l.length=0
 ·have f1:=eF (show(l.length:Int)=0 by omega)
  have HN:=V (show l=[]from aH q);clear q;go_enter func182,ntmps182;go_wp2_with fail;go_ret;exact⟨_,rfl,by rw [HN.out];simpa [fB] using HW.out⟩
 ·have f1:=dQ (show ¬ (l.length:Int)=0 by omega)
  have HN:Hid (fB (b8 no) put l=b8 no::(eL (eS put l).length++eS put l)):=V (by
   cases l with
   | nil=>exact absurd rfl q
   | cons x l=>rfl)
  clear q;go_enter func182,ntmps182;go_wp2_with fail;refine(Ft w0 put 100000000 (.slice none 0 0) [] _ l w.heap.size w Kj hE HL.out (dU.nil _ _) (ag _) ⟨H0.out,H0.out.size⟩ (by simp only [aM];omega) (by decide) (fun e he b xs w ho hx hB h0=>HP.out e he b xs w _ ho hx hB h0)).mono ?_;rintro e w2 ⟨v2,rfl,ho,hk,hs⟩;rw [bM]at ho;have Kl:=ju hk rfl;have HO:=V ho;have KA:=V (HW.out.below Kl);obtain⟨a2,Kn,Py,-,-,-⟩:=ho.fm;subst Py;have LM:∀i,ey (.slice a2 (eS put l).length Kn) i ->¬ ey b i:=fun i h1 h2=>by
   have:=(eo HO.out h1).1;have:=(HW.out.1.lt h2).2;omega
  have HD:=V LM;clear ho hk hs hE LM;go_wp2_with (first | (at_builtin;refine ik w2 rfl _ _ rfl rfl B b _ rfl KA.out.1 (b8 no) _ ?_ ?_ ?_ ?_ ?_))
  ·rw [fJ NI]
  ·rfl
  ·omega
  ·exact KA.out.base hB
  intro v3 w3 ho hk hs;have Ma:=V (KA.out.own ⟨ho,hk,hs⟩);have MF:=V (HO.out.keeps hk HD.out);have Pz:=V (show∀i,ey (.slice a2 (eS put l).length Kn) i ->¬ ey v3 i from fun i h1 h2=>(hs i h2).elim (HD.out i h1) (fun g=>by have:=(eo HO.out h1).2;omega));clear ho hk hs;go_wp2_with fail;refine(fF v3 _ (eS put l).length (by omega) B w3 Ma.out.1 (by simp only [ah,aB];omega) (Ma.out.base hB)).mono ?_;rintro e w4 ⟨v4,rfl,ho,hk,hs⟩;have Lo:=V (Ma.out.step ⟨ho,hk,hs⟩);have MI:=V (MF.out.keeps hk Pz.out);have hp4:=(eD (eS put l).length).2;clear ho hk hs;go_wp2_with (first | (at_builtin;refine fK w4 rfl _ _ rfl rfl B v4 _ rfl Lo.out.1 _ _ rfl MI.out.fm (by simp only [ah,aB];omega) (Lo.out.base hB) ?_));intro v5 w5 ho hk hs;have NR:=V (Lo.out.step ⟨ho,hk,hs⟩);clear ho hk hs;go_wp2_with fail;go_ret;exact⟨_,rfl,by rw [HN.out];exact NR.out.row⟩
theorem Ev (w0:World) (put:iB ->List UInt8) (C:Nat) (b:Value) (xs:List UInt8) (v:Value) (l:List iB) (B:Nat) (w:World) (Kj:Nat)
  (hE:∀args w,(callFunc Kj args).run prog w= .ok (.enter Kj args) w) (hl:ee 2 qS w0 v l) (Ki:dU w B b xs) (hB:B <=w.heap.size) (h0:Src w0 w B)
  (hC:xs.length+(eS put l).length <=C) (Mk:C <=900000000)
  (hp:∀e∈l,∀b xs w,dU w B b xs ->xs.length <=C ->B <=w.heap.size ->Src w0 w B ->Calls prog Kj #[b, .agg #[.string e.name, .int .i64 e.func]] w (fk xs (put e) B b w)):
  Calls prog 261 #[b,v, .func (.func Kj) #[] #[]] w (fk xs (eS put l) B b w):=by
 have HP:=V hp;have HL:=V hl;have H0:=V h0;have HC:=V hC;have HW:=V (Wr.refl Ki);have PZ:xs.length <=900000000:=by omega
 obtain⟨a,cap,rfl,Me,La⟩:=eT hl;clear hp hl h0 hC Ki Mk;go_enter func261,ntmps261;go_wp2_with fail;refine(fF b xs l.length (by omega) B w HW.out.1 (by omega) hB).mono ?_;rintro e w2 ⟨v2,rfl,ho,hk,hs⟩;have KA:=V (HW.out.step ⟨ho,hk,hs⟩);have KP:=V (H0.out.next HW.out.1 ⟨ho,hk,hs⟩);clear ho hk hs;go_wp2_with fail;refine ez (fun a' w'=>∃(vb:Value) (k:Nat),a'=fr (vb::gs a' 1 1 (.func (.func Kj) #[] #[]::gs a' 3 10 (.slice a l.length cap:: .int .i64 l.length:: .int .i64 k::gs a' 16 9 [])))/\uY w0 put xs l B b w w' vb k) (fun a' _=>(l.length - (intOf (a'.tmps.getD 15 undef)).toNat)) ?_ ?_
 ·exact⟨_,0,rfl,by omega,by simpa using KA.out,KP.out⟩
 ·skip
  clear HW KA KP H0 v2;rintro R a' w1 ⟨vb,k,Kk,hJ⟩ HR;dsimp only [fr,gs]at Kk;generalize slot a'=f at Kk;subst Kk;obtain⟨hk,M4,MS⟩:=hJ;have HW:=V M4;have HS:=V MS;have O2:=V (show(xs++(eL l.length++((l.take k).map put).flatten)).length <=C by
   have h1:=HC.out;have h2:=jw put l k;simp only [eS,ah]at*;omega)
  clear M4 MS;by_cases q:k < l.length;rotate_left
  ·obtain rfl:k=l.length:=by omega
   have HW:=V (show Wr w b B w1 vb (xs++eS put l)by have:=HW.out;rwa [aU]at this);go_wp2_with fail;go_ret;exact⟨_,rfl,HW.out⟩
  obtain⟨x,hx⟩:∃x,l[k]?=some x:=⟨_,aq q⟩;obtain⟨a',KE,hv,_,_,Kh⟩:=HL.out;injection hv with e1 e2 e3;subst e1 e3;obtain⟨bb,off,rfl,Kq,LL⟩:=Kh k x hx;clear Kh e2;have c0:=(HS.out.1.cell Kq).trans (LL 0 _ rfl);have c1:=(HS.out.1.cell Kq).trans (LL 1 _ rfl);rw [aK]at c0;have HX:=V hx;clear LL hx;go_wp2_with fail;have Lc:=V (HW.out.alloc (.cells #[.string x.name, .int .i64 x.func] 111));have Ms:=V (HS.out.alloc (.cells #[.string x.name, .int .i64 x.func] 111));refine(HP.out x (aO HX.out) _ _ _ Lc.out.1 O2.out (Lc.out.base hB) Ms.out).mono ?_;rintro e w2 ⟨v2,rfl,KB,Kp,Ku⟩;have KA:=V (Lc.out.step ⟨KB,Kp,Ku⟩);have KP:=V (Ms.out.next Lc.out.1 ⟨KB,Kp,Ku⟩);clear KB Kp Ku c0 c1;go_wp2_with fail;refine HR.out _ _ ⟨_,k+1,rfl,by omega,?_,KP.out⟩ ?_
  ·have:=KA.out
   rw [aQ,HX.out];simpa using this
  ·simp [intOf]
   omega
theorem Ds (w0:World) (put:iB ->List UInt8) (no:Nat) (NI:no < 256) (b:Value) (xs:List UInt8) (v:Value) (l:List iB) (B:Nat) (w:World) (Kj:Nat)
  (hE:∀args w,(callFunc Kj args).run prog w= .ok (.enter Kj args) w) (hl:ee 2 qS w0 v l) (Ki:Row w B b xs) (hB:B <=w.heap.size) (h0:Below w0.heap.size w0 w)
  (hC:xs.length+(eS put l).length <=100000000)
  (hp:∀e∈l,∀b xs w B,dU w B b xs ->xs.length <=100000000 ->B <=w.heap.size ->Src w0 w B ->Calls prog Kj #[b, .agg #[.string e.name, .int .i64 e.func]] w (fk xs (put e) B b w)):
  Calls prog 185 #[b, .int .i64 no,v, .func (.func Kj) #[] #[]] w (mc xs (fB (b8 no) put l) B b w):=by
 have HP:=V hp;have HL:=V hl;have H0:=V h0;have HW:=V (sv.refl Ki);obtain⟨a,cap,rfl,Me,La⟩:=eT hl;clear hp hl h0 Ki;by_cases q:l.length=0
 ·have f1:=eF (show(l.length:Int)=0 by omega)
  have HN:=V (show l=[]from aH q);clear q;go_enter func185,ntmps185;go_wp2_with fail;go_ret;exact⟨_,rfl,by rw [HN.out];simpa [fB] using HW.out⟩
 ·have f1:=dQ (show ¬ (l.length:Int)=0 by omega)
  have HN:Hid (fB (b8 no) put l=b8 no::(eL (eS put l).length++eS put l)):=V (by
   cases l with
   | nil=>exact absurd rfl q
   | cons x l=>rfl)
  clear q;go_enter func185,ntmps185;go_wp2_with fail;refine(Ev w0 put 100000000 (.slice none 0 0) [] _ l w.heap.size w Kj hE HL.out (dU.nil _ _) (ag _) ⟨H0.out,H0.out.size⟩ (by simp only [aM];omega) (by decide) (fun e he b xs w ho hx hB h0=>HP.out e he b xs w _ ho hx hB h0)).mono ?_;rintro e w2 ⟨v2,rfl,ho,hk,hs⟩;rw [bM]at ho;have Kl:=ju hk rfl;have HO:=V ho;have KA:=V (HW.out.below Kl);obtain⟨a2,Kn,Py,-,-,-⟩:=ho.fm;subst Py;have LM:∀i,ey (.slice a2 (eS put l).length Kn) i ->¬ ey b i:=fun i h1 h2=>by
   have:=(eo HO.out h1).1;have:=(HW.out.1.lt h2).2;omega
  have HD:=V LM;clear ho hk hs hE LM;go_wp2_with (first | (at_builtin;refine ik w2 rfl _ _ rfl rfl B b _ rfl KA.out.1 (b8 no) _ ?_ ?_ ?_ ?_ ?_))
  ·rw [fJ NI]
  ·rfl
  ·omega
  ·exact KA.out.base hB
  intro v3 w3 ho hk hs;have Ma:=V (KA.out.own ⟨ho,hk,hs⟩);have MF:=V (HO.out.keeps hk HD.out);have Pz:=V (show∀i,ey (.slice a2 (eS put l).length Kn) i ->¬ ey v3 i from fun i h1 h2=>(hs i h2).elim (HD.out i h1) (fun g=>by have:=(eo HO.out h1).2;omega));clear ho hk hs;go_wp2_with fail;refine(fF v3 _ (eS put l).length (by omega) B w3 Ma.out.1 (by simp only [ah,aB];omega) (Ma.out.base hB)).mono ?_;rintro e w4 ⟨v4,rfl,ho,hk,hs⟩;have Lo:=V (Ma.out.step ⟨ho,hk,hs⟩);have MI:=V (MF.out.keeps hk Pz.out);have hp4:=(eD (eS put l).length).2;clear ho hk hs;go_wp2_with (first | (at_builtin;refine fK w4 rfl _ _ rfl rfl B v4 _ rfl Lo.out.1 _ _ rfl MI.out.fm (by simp only [ah,aB];omega) (Lo.out.base hB) ?_));intro v5 w5 ho hk hs;have NR:=V (Lo.out.step ⟨ho,hk,hs⟩);clear ho hk hs;go_wp2_with fail;go_ret;exact⟨_,rfl,by rw [HN.out];exact NR.out.row⟩
theorem Fb (w0:World) (put:gy ->List UInt8) (C:Nat) (b:Value) (xs:List UInt8) (v:Value) (l:List gy) (B:Nat) (w:World) (Kj:Nat)
  (hE:∀args w,(callFunc Kj args).run prog w= .ok (.enter Kj args) w) (hl:ea 2 ru gG w0 v l) (Ki:dU w B b xs) (hB:B <=w.heap.size) (h0:Src w0 w B)
  (hC:xs.length+(eS put l).length <=C) (Mk:C <=900000000)
  (hp:∀e∈l,∀u,gG w0 e u ->∀b xs w,dU w B b xs ->xs.length <=C ->B <=w.heap.size ->Src w0 w B ->Calls prog Kj #[b, .agg #[u.1,u.2]] w (fk xs (put e) B b w)):
  Calls prog 256 #[b,v, .func (.func Kj) #[] #[]] w (fk xs (eS put l) B b w):=by
 have HP:=V hp;have HL:=V hl;have H0:=V h0;have HC:=V hC;have HW:=V (Wr.refl Ki);have PZ:xs.length <=900000000:=by omega
 obtain⟨a,cap,rfl,Me,La⟩:=ea.slice hl;clear hp hl h0 hC Ki Mk;go_enter func256,ntmps256;go_wp2_with fail;refine(fF b xs l.length (by omega) B w HW.out.1 (by omega) hB).mono ?_;rintro e w2 ⟨v2,rfl,ho,hk,hs⟩;have KA:=V (HW.out.step ⟨ho,hk,hs⟩);have KP:=V (H0.out.next HW.out.1 ⟨ho,hk,hs⟩);clear ho hk hs;go_wp2_with fail;refine ez (fun a' w'=>∃(vb:Value) (k:Nat),a'=fr (vb::gs a' 1 1 (.func (.func Kj) #[] #[]::gs a' 3 10 (.slice a l.length cap:: .int .i64 l.length:: .int .i64 k::gs a' 16 9 [])))/\uY w0 put xs l B b w w' vb k) (fun a' _=>(l.length - (intOf (a'.tmps.getD 15 undef)).toNat)) ?_ ?_
 ·exact⟨_,0,rfl,by omega,by simpa using KA.out,KP.out⟩
 ·skip
  clear HW KA KP H0 v2;rintro R a' w1 ⟨vb,k,Kk,hJ⟩ HR;dsimp only [fr,gs]at Kk;generalize slot a'=f at Kk;subst Kk;obtain⟨hk,M4,MS⟩:=hJ;have HW:=V M4;have HS:=V MS;have O2:=V (show(xs++(eL l.length++((l.take k).map put).flatten)).length <=C by
   have h1:=HC.out;have h2:=jw put l k;simp only [eS,ah]at*;omega)
  clear M4 MS;by_cases q:k < l.length;rotate_left
  ·obtain rfl:k=l.length:=by omega
   have HW:=V (show Wr w b B w1 vb (xs++eS put l)by have:=HW.out;rwa [aU]at this);go_wp2_with fail;go_ret;exact⟨_,rfl,HW.out⟩
  obtain⟨x,hx⟩:∃x,l[k]?=some x:=⟨_,aq q⟩;obtain⟨bb,off,u,rfl,Kq,LL,hu⟩:=ea.get HL.out hx;have c0:=(HS.out.1.cell Kq).trans (LL 0 _ rfl);have c1:=(HS.out.1.cell Kq).trans (LL 1 _ rfl);rw [aK]at c0;have HU:=V hu;obtain⟨u1,u2⟩:=u;obtain⟨⟨⟨a1,Ky,Mc,-,-,-⟩,⟨a2,Kn,Ml,-,-,-⟩⟩,-⟩:=id hu;simp only at Mc Ml;subst Mc Ml;have HX:=V hx;clear LL hx hu;go_wp2_with fail;have Lc:=V (HW.out.alloc (.cells #[.slice a1 x.params.length Ky, .slice a2 x.results.length Kn] 109));have Ms:=V (HS.out.alloc (.cells #[.slice a1 x.params.length Ky, .slice a2 x.results.length Kn] 109));refine(HP.out x (aO HX.out) _ HU.out _ _ _ Lc.out.1 O2.out (Lc.out.base hB) Ms.out).mono ?_;rintro e w2 ⟨v2,rfl,KB,Kp,Ku⟩;have KA:=V (Lc.out.step ⟨KB,Kp,Ku⟩);have KP:=V (Ms.out.next Lc.out.1 ⟨KB,Kp,Ku⟩);clear KB Kp Ku c0 c1;go_wp2_with fail;refine HR.out _ _ ⟨_,k+1,rfl,by omega,?_,KP.out⟩ ?_
  ·have:=KA.out
   rw [aQ,HX.out];simpa using this
  ·simp [intOf]
   omega
theorem DM (w0:World) (put:gy ->List UInt8) (no:Nat) (NI:no < 256) (b:Value) (xs:List UInt8) (v:Value) (l:List gy) (B:Nat) (w:World) (Kj:Nat)
  (hE:∀args w,(callFunc Kj args).run prog w= .ok (.enter Kj args) w) (hl:ea 2 ru gG w0 v l) (Ki:Row w B b xs) (hB:B <=w.heap.size) (h0:Below w0.heap.size w0 w)
  (hC:xs.length+(eS put l).length <=100000000)
  (hp:∀e∈l,∀u,gG w0 e u ->∀b xs w B,dU w B b xs ->xs.length <=100000000 ->B <=w.heap.size ->Src w0 w B ->Calls prog Kj #[b, .agg #[u.1,u.2]] w (fk xs (put e) B b w)):
  Calls prog 169 #[b, .int .i64 no,v, .func (.func Kj) #[] #[]] w (mc xs (fB (b8 no) put l) B b w):=by
 have HP:=V hp;have HL:=V hl;have H0:=V h0;have HW:=V (sv.refl Ki);obtain⟨a,cap,rfl,Me,La⟩:=ea.slice hl;clear hp hl h0 Ki;by_cases q:l.length=0
 ·have f1:=eF (show(l.length:Int)=0 by omega)
  have HN:=V (show l=[]from aH q);clear q;go_enter func169,ntmps169;go_wp2_with fail;go_ret;exact⟨_,rfl,by rw [HN.out];simpa [fB] using HW.out⟩
 ·have f1:=dQ (show ¬ (l.length:Int)=0 by omega)
  have HN:Hid (fB (b8 no) put l=b8 no::(eL (eS put l).length++eS put l)):=V (by
   cases l with
   | nil=>exact absurd rfl q
   | cons x l=>rfl)
  clear q;go_enter func169,ntmps169;go_wp2_with fail;refine(Fb w0 put 100000000 (.slice none 0 0) [] _ l w.heap.size w Kj hE HL.out (dU.nil _ _) (ag _) ⟨H0.out,H0.out.size⟩ (by simp only [aM];omega) (by decide) (fun e he u hu b xs w ho hx hB h0=>HP.out e he u hu b xs w _ ho hx hB h0)).mono ?_;rintro e w2 ⟨v2,rfl,ho,hk,hs⟩;rw [bM]at ho;have Kl:=ju hk rfl;have HO:=V ho;have KA:=V (HW.out.below Kl);obtain⟨a2,Kn,Py,-,-,-⟩:=ho.fm;subst Py;have LM:∀i,ey (.slice a2 (eS put l).length Kn) i ->¬ ey b i:=fun i h1 h2=>by
   have:=(eo HO.out h1).1;have:=(HW.out.1.lt h2).2;omega
  have HD:=V LM;clear ho hk hs hE LM;go_wp2_with (first | (at_builtin;refine ik w2 rfl _ _ rfl rfl B b _ rfl KA.out.1 (b8 no) _ ?_ ?_ ?_ ?_ ?_))
  ·rw [fJ NI]
  ·rfl
  ·omega
  ·exact KA.out.base hB
  intro v3 w3 ho hk hs;have Ma:=V (KA.out.own ⟨ho,hk,hs⟩);have MF:=V (HO.out.keeps hk HD.out);have Pz:=V (show∀i,ey (.slice a2 (eS put l).length Kn) i ->¬ ey v3 i from fun i h1 h2=>(hs i h2).elim (HD.out i h1) (fun g=>by have:=(eo HO.out h1).2;omega));clear ho hk hs;go_wp2_with fail;refine(fF v3 _ (eS put l).length (by omega) B w3 Ma.out.1 (by simp only [ah,aB];omega) (Ma.out.base hB)).mono ?_;rintro e w4 ⟨v4,rfl,ho,hk,hs⟩;have Lo:=V (Ma.out.step ⟨ho,hk,hs⟩);have MI:=V (MF.out.keeps hk Pz.out);have hp4:=(eD (eS put l).length).2;clear ho hk hs;go_wp2_with (first | (at_builtin;refine fK w4 rfl _ _ rfl rfl B v4 _ rfl Lo.out.1 _ _ rfl MI.out.fm (by simp only [ah,aB];omega) (Lo.out.base hB) ?_));intro v5 w5 ho hk hs;have NR:=V (Lo.out.step ⟨ho,hk,hs⟩);clear ho hk hs;go_wp2_with fail;go_ret;exact⟨_,rfl,by rw [HN.out];exact NR.out.row⟩
theorem Ff (w0:World) (put:gN ->List UInt8) (C:Nat) (b:Value) (xs:List UInt8) (v:Value) (l:List gN) (B:Nat) (w:World) (Kj:Nat)
  (hE:∀args w,(callFunc Kj args).run prog w= .ok (.enter Kj args) w) (hl:ea 2 rV gD w0 v l) (Ki:dU w B b xs) (hB:B <=w.heap.size) (h0:Src w0 w B)
  (hC:xs.length+(eS put l).length <=C) (Mk:C <=900000000)
  (hp:∀e∈l,∀u,gD w0 e u ->∀b xs w,dU w B b xs ->xs.length <=C ->B <=w.heap.size ->Src w0 w B ->Calls prog Kj #[b, .agg #[u.1,u.2]] w (fk xs (put e) B b w)):
  Calls prog 263 #[b,v, .func (.func Kj) #[] #[]] w (fk xs (eS put l) B b w):=by
 have HP:=V hp;have HL:=V hl;have H0:=V h0;have HC:=V hC;have HW:=V (Wr.refl Ki);have PZ:xs.length <=900000000:=by omega
 obtain⟨a,cap,rfl,Me,La⟩:=ea.slice hl;clear hp hl h0 hC Ki Mk;go_enter func263,ntmps263;go_wp2_with fail;refine(fF b xs l.length (by omega) B w HW.out.1 (by omega) hB).mono ?_;rintro e w2 ⟨v2,rfl,ho,hk,hs⟩;have KA:=V (HW.out.step ⟨ho,hk,hs⟩);have KP:=V (H0.out.next HW.out.1 ⟨ho,hk,hs⟩);clear ho hk hs;go_wp2_with fail;refine ez (fun a' w'=>∃(vb:Value) (k:Nat),a'=fr (vb::gs a' 1 1 (.func (.func Kj) #[] #[]::gs a' 3 10 (.slice a l.length cap:: .int .i64 l.length:: .int .i64 k::gs a' 16 9 [])))/\uY w0 put xs l B b w w' vb k) (fun a' _=>(l.length - (intOf (a'.tmps.getD 15 undef)).toNat)) ?_ ?_
 ·exact⟨_,0,rfl,by omega,by simpa using KA.out,KP.out⟩
 ·skip
  clear HW KA KP H0 v2;rintro R a' w1 ⟨vb,k,Kk,hJ⟩ HR;dsimp only [fr,gs]at Kk;generalize slot a'=f at Kk;subst Kk;obtain⟨hk,M4,MS⟩:=hJ;have HW:=V M4;have HS:=V MS;have O2:=V (show(xs++(eL l.length++((l.take k).map put).flatten)).length <=C by
   have h1:=HC.out;have h2:=jw put l k;simp only [eS,ah]at*;omega)
  clear M4 MS;by_cases q:k < l.length;rotate_left
  ·obtain rfl:k=l.length:=by omega
   have HW:=V (show Wr w b B w1 vb (xs++eS put l)by have:=HW.out;rwa [aU]at this);go_wp2_with fail;go_ret;exact⟨_,rfl,HW.out⟩
  obtain⟨x,hx⟩:∃x,l[k]?=some x:=⟨_,aq q⟩;obtain⟨bb,off,u,rfl,Kq,LL,hu⟩:=ea.get HL.out hx;have c0:=(HS.out.1.cell Kq).trans (LL 0 _ rfl);have c1:=(HS.out.1.cell Kq).trans (LL 1 _ rfl);rw [aK]at c0;have HU:=V hu;obtain⟨u1,u2⟩:=u;obtain⟨⟨⟨a1,Ky,Mc,-,-,-⟩,K5⟩,-⟩:=id hu;obtain⟨a2,Kn,Ml,-,-⟩:=ea.slice K5;simp only at Mc Ml;subst Mc Ml;clear K5;have HX:=V hx;clear LL hx hu;go_wp2_with fail;have Lc:=V (HW.out.alloc (.cells #[.slice a1 x.locals.length Ky, .slice a2 x.body.length Kn] 69));have Ms:=V (HS.out.alloc (.cells #[.slice a1 x.locals.length Ky, .slice a2 x.body.length Kn] 69));refine(HP.out x (aO HX.out) _ HU.out _ _ _ Lc.out.1 O2.out (Lc.out.base hB) Ms.out).mono ?_;rintro e w2 ⟨v2,rfl,KB,Kp,Ku⟩;have KA:=V (Lc.out.step ⟨KB,Kp,Ku⟩);have KP:=V (Ms.out.next Lc.out.1 ⟨KB,Kp,Ku⟩);clear KB Kp Ku c0 c1;go_wp2_with fail;refine HR.out _ _ ⟨_,k+1,rfl,by omega,?_,KP.out⟩ ?_
  ·have:=KA.out
   rw [aQ,HX.out];simpa using this
  ·simp [intOf]
   omega
theorem Fw (w0:World) (put:gN ->List UInt8) (no:Nat) (NI:no < 256) (b:Value) (xs:List UInt8) (v:Value) (l:List gN) (B:Nat) (w:World) (Kj:Nat)
  (hE:∀args w,(callFunc Kj args).run prog w= .ok (.enter Kj args) w) (hl:ea 2 rV gD w0 v l) (Ki:Row w B b xs) (hB:B <=w.heap.size) (h0:Below w0.heap.size w0 w)
  (hC:xs.length+(eS put l).length <=100000000)
  (hp:∀e∈l,∀u,gD w0 e u ->∀b xs w B,dU w B b xs ->xs.length <=100000000 ->B <=w.heap.size ->Src w0 w B ->Calls prog Kj #[b, .agg #[u.1,u.2]] w (fk xs (put e) B b w)):
  Calls prog 190 #[b, .int .i64 no,v, .func (.func Kj) #[] #[]] w (mc xs (fB (b8 no) put l) B b w):=by
 have HP:=V hp;have HL:=V hl;have H0:=V h0;have HW:=V (sv.refl Ki);obtain⟨a,cap,rfl,Me,La⟩:=ea.slice hl;clear hp hl h0 Ki;by_cases q:l.length=0
 ·have f1:=eF (show(l.length:Int)=0 by omega)
  have HN:=V (show l=[]from aH q);clear q;go_enter func190,ntmps190;go_wp2_with fail;go_ret;exact⟨_,rfl,by rw [HN.out];simpa [fB] using HW.out⟩
 ·have f1:=dQ (show ¬ (l.length:Int)=0 by omega)
  have HN:Hid (fB (b8 no) put l=b8 no::(eL (eS put l).length++eS put l)):=V (by
   cases l with
   | nil=>exact absurd rfl q
   | cons x l=>rfl)
  clear q;go_enter func190,ntmps190;go_wp2_with fail;refine(Ff w0 put 100000000 (.slice none 0 0) [] _ l w.heap.size w Kj hE HL.out (dU.nil _ _) (ag _) ⟨H0.out,H0.out.size⟩ (by simp only [aM];omega) (by decide) (fun e he u hu b xs w ho hx hB h0=>HP.out e he u hu b xs w _ ho hx hB h0)).mono ?_;rintro e w2 ⟨v2,rfl,ho,hk,hs⟩;rw [bM]at ho;have Kl:=ju hk rfl;have HO:=V ho;have KA:=V (HW.out.below Kl);obtain⟨a2,Kn,Py,-,-,-⟩:=ho.fm;subst Py;have LM:∀i,ey (.slice a2 (eS put l).length Kn) i ->¬ ey b i:=fun i h1 h2=>by
   have:=(eo HO.out h1).1;have:=(HW.out.1.lt h2).2;omega
  have HD:=V LM;clear ho hk hs hE LM;go_wp2_with (first | (at_builtin;refine ik w2 rfl _ _ rfl rfl B b _ rfl KA.out.1 (b8 no) _ ?_ ?_ ?_ ?_ ?_))
  ·rw [fJ NI]
  ·rfl
  ·omega
  ·exact KA.out.base hB
  intro v3 w3 ho hk hs;have Ma:=V (KA.out.own ⟨ho,hk,hs⟩);have MF:=V (HO.out.keeps hk HD.out);have Pz:=V (show∀i,ey (.slice a2 (eS put l).length Kn) i ->¬ ey v3 i from fun i h1 h2=>(hs i h2).elim (HD.out i h1) (fun g=>by have:=(eo HO.out h1).2;omega));clear ho hk hs;go_wp2_with fail;refine(fF v3 _ (eS put l).length (by omega) B w3 Ma.out.1 (by simp only [ah,aB];omega) (Ma.out.base hB)).mono ?_;rintro e w4 ⟨v4,rfl,ho,hk,hs⟩;have Lo:=V (Ma.out.step ⟨ho,hk,hs⟩);have MI:=V (MF.out.keeps hk Pz.out);have hp4:=(eD (eS put l).length).2;clear ho hk hs;go_wp2_with (first | (at_builtin;refine fK w4 rfl _ _ rfl rfl B v4 _ rfl Lo.out.1 _ _ rfl MI.out.fm (by simp only [ah,aB];omega) (Lo.out.base hB) ?_));intro v5 w5 ho hk hs;have NR:=V (Lo.out.step ⟨ho,hk,hs⟩);clear ho hk hs;go_wp2_with fail;go_ret;exact⟨_,rfl,by rw [HN.out];exact NR.out.row⟩
theorem ED (w0:World) (put:iO ->List UInt8) (C:Nat) (b:Value) (xs:List UInt8) (v:Value) (l:List iO) (B:Nat) (w:World) (Kj:Nat)
  (hE:∀args w,(callFunc Kj args).run prog w= .ok (.enter Kj args) w) (hl:ea 2 tF gS w0 v l) (Ki:dU w B b xs) (hB:B <=w.heap.size) (h0:Src w0 w B)
  (hC:xs.length+(eS put l).length <=C) (Mk:C <=900000000)
  (hp:∀e∈l,∀u,gS w0 e u ->∀b xs w,dU w B b xs ->xs.length <=C ->B <=w.heap.size ->Src w0 w B ->Calls prog Kj #[b, .agg #[.int .i64 e.off,u]] w (fk xs (put e) B b w)):
  Calls prog 262 #[b,v, .func (.func Kj) #[] #[]] w (fk xs (eS put l) B b w):=by
 have HP:=V hp;have HL:=V hl;have H0:=V h0;have HC:=V hC;have HW:=V (Wr.refl Ki);have PZ:xs.length <=900000000:=by omega
 obtain⟨a,cap,rfl,Me,La⟩:=ea.slice hl;clear hp hl h0 hC Ki Mk;go_enter func262,ntmps262;go_wp2_with fail;refine(fF b xs l.length (by omega) B w HW.out.1 (by omega) hB).mono ?_;rintro e w2 ⟨v2,rfl,ho,hk,hs⟩;have KA:=V (HW.out.step ⟨ho,hk,hs⟩);have KP:=V (H0.out.next HW.out.1 ⟨ho,hk,hs⟩);clear ho hk hs;go_wp2_with fail;refine ez (fun a' w'=>∃(vb:Value) (k:Nat),a'=fr (vb::gs a' 1 1 (.func (.func Kj) #[] #[]::gs a' 3 10 (.slice a l.length cap:: .int .i64 l.length:: .int .i64 k::gs a' 16 9 [])))/\uY w0 put xs l B b w w' vb k) (fun a' _=>(l.length - (intOf (a'.tmps.getD 15 undef)).toNat)) ?_ ?_
 ·exact⟨_,0,rfl,by omega,by simpa using KA.out,KP.out⟩
 ·skip
  clear HW KA KP H0 v2;rintro R a' w1 ⟨vb,k,Kk,hJ⟩ HR;dsimp only [fr,gs]at Kk;generalize slot a'=f at Kk;subst Kk;obtain⟨hk,M4,MS⟩:=hJ;have HW:=V M4;have HS:=V MS;have O2:=V (show(xs++(eL l.length++((l.take k).map put).flatten)).length <=C by
   have h1:=HC.out;have h2:=jw put l k;simp only [eS,ah]at*;omega)
  clear M4 MS;by_cases q:k < l.length;rotate_left
  ·obtain rfl:k=l.length:=by omega
   have HW:=V (show Wr w b B w1 vb (xs++eS put l)by have:=HW.out;rwa [aU]at this);go_wp2_with fail;go_ret;exact⟨_,rfl,HW.out⟩
  obtain⟨x,hx⟩:∃x,l[k]?=some x:=⟨_,aq q⟩;obtain⟨bb,off,u,rfl,Kq,LL,hu⟩:=ea.get HL.out hx;have c0:=(HS.out.1.cell Kq).trans (LL 0 _ rfl);have c1:=(HS.out.1.cell Kq).trans (LL 1 _ rfl);rw [aK]at c0;have HU:=V hu;obtain⟨⟨a1,Ky,rfl,-,-,-⟩,-⟩:=id hu;have HX:=V hx;clear LL hx hu;go_wp2_with fail;have Lc:=V (HW.out.alloc (.cells #[.int .i64 x.off, .slice a1 x.funcs.length Ky] 95));have Ms:=V (HS.out.alloc (.cells #[.int .i64 x.off, .slice a1 x.funcs.length Ky] 95));refine(HP.out x (aO HX.out) _ HU.out _ _ _ Lc.out.1 O2.out (Lc.out.base hB) Ms.out).mono ?_;rintro e w2 ⟨v2,rfl,KB,Kp,Ku⟩;have KA:=V (Lc.out.step ⟨KB,Kp,Ku⟩);have KP:=V (Ms.out.next Lc.out.1 ⟨KB,Kp,Ku⟩);clear KB Kp Ku c0 c1;go_wp2_with fail;refine HR.out _ _ ⟨_,k+1,rfl,by omega,?_,KP.out⟩ ?_
  ·have:=KA.out
   rw [aQ,HX.out];simpa using this
  ·simp [intOf]
   omega
theorem FP (w0:World) (put:iO ->List UInt8) (no:Nat) (NI:no < 256) (b:Value) (xs:List UInt8) (v:Value) (l:List iO) (B:Nat) (w:World) (Kj:Nat)
  (hE:∀args w,(callFunc Kj args).run prog w= .ok (.enter Kj args) w) (hl:ea 2 tF gS w0 v l) (Ki:Row w B b xs) (hB:B <=w.heap.size) (h0:Below w0.heap.size w0 w)
  (hC:xs.length+(eS put l).length <=100000000)
  (hp:∀e∈l,∀u,gS w0 e u ->∀b xs w B,dU w B b xs ->xs.length <=100000000 ->B <=w.heap.size ->Src w0 w B ->Calls prog Kj #[b, .agg #[.int .i64 e.off,u]] w (fk xs (put e) B b w)):
  Calls prog 187 #[b, .int .i64 no,v, .func (.func Kj) #[] #[]] w (mc xs (fB (b8 no) put l) B b w):=by
 have HP:=V hp;have HL:=V hl;have H0:=V h0;have HW:=V (sv.refl Ki);obtain⟨a,cap,rfl,Me,La⟩:=ea.slice hl;clear hp hl h0 Ki;by_cases q:l.length=0
 ·have f1:=eF (show(l.length:Int)=0 by omega)
  have HN:=V (show l=[]from aH q);clear q;go_enter func187,ntmps187;go_wp2_with fail;go_ret;exact⟨_,rfl,by rw [HN.out];simpa [fB] using HW.out⟩
 ·have f1:=dQ (show ¬ (l.length:Int)=0 by omega)
  have HN:Hid (fB (b8 no) put l=b8 no::(eL (eS put l).length++eS put l)):=V (by
   cases l with
   | nil=>exact absurd rfl q
   | cons x l=>rfl)
  clear q;go_enter func187,ntmps187;go_wp2_with fail;refine(ED w0 put 100000000 (.slice none 0 0) [] _ l w.heap.size w Kj hE HL.out (dU.nil _ _) (ag _) ⟨H0.out,H0.out.size⟩ (by simp only [aM];omega) (by decide) (fun e he u hu b xs w ho hx hB h0=>HP.out e he u hu b xs w _ ho hx hB h0)).mono ?_;rintro e w2 ⟨v2,rfl,ho,hk,hs⟩;rw [bM]at ho;have Kl:=ju hk rfl;have HO:=V ho;have KA:=V (HW.out.below Kl);obtain⟨a2,Kn,Py,-,-,-⟩:=ho.fm;subst Py;have LM:∀i,ey (.slice a2 (eS put l).length Kn) i ->¬ ey b i:=fun i h1 h2=>by
   have:=(eo HO.out h1).1;have:=(HW.out.1.lt h2).2;omega
  have HD:=V LM;clear ho hk hs hE LM;go_wp2_with (first | (at_builtin;refine ik w2 rfl _ _ rfl rfl B b _ rfl KA.out.1 (b8 no) _ ?_ ?_ ?_ ?_ ?_))
  ·rw [fJ NI]
  ·rfl
  ·omega
  ·exact KA.out.base hB
  intro v3 w3 ho hk hs;have Ma:=V (KA.out.own ⟨ho,hk,hs⟩);have MF:=V (HO.out.keeps hk HD.out);have Pz:=V (show∀i,ey (.slice a2 (eS put l).length Kn) i ->¬ ey v3 i from fun i h1 h2=>(hs i h2).elim (HD.out i h1) (fun g=>by have:=(eo HO.out h1).2;omega));clear ho hk hs;go_wp2_with fail;refine(fF v3 _ (eS put l).length (by omega) B w3 Ma.out.1 (by simp only [ah,aB];omega) (Ma.out.base hB)).mono ?_;rintro e w4 ⟨v4,rfl,ho,hk,hs⟩;have Lo:=V (Ma.out.step ⟨ho,hk,hs⟩);have MI:=V (MF.out.keeps hk Pz.out);have hp4:=(eD (eS put l).length).2;clear ho hk hs;go_wp2_with (first | (at_builtin;refine fK w4 rfl _ _ rfl rfl B v4 _ rfl Lo.out.1 _ _ rfl MI.out.fm (by simp only [ah,aB];omega) (Lo.out.base hB) ?_));intro v5 w5 ho hk hs;have NR:=V (Lo.out.step ⟨ho,hk,hs⟩);clear ho hk hs;go_wp2_with fail;go_ret;exact⟨_,rfl,by rw [HN.out];exact NR.out.row⟩
theorem El (w0:World) (put:gl ->List UInt8) (C:Nat) (b:Value) (xs:List UInt8) (v:Value) (l:List gl) (B:Nat) (w:World) (Kj:Nat)
  (hE:∀args w,(callFunc Kj args).run prog w= .ok (.enter Kj args) w) (hl:ea 2 pT gm w0 v l) (Ki:dU w B b xs) (hB:B <=w.heap.size) (h0:Src w0 w B)
  (hC:xs.length+(eS put l).length <=C) (Mk:C <=900000000)
  (hp:∀e∈l,∀u,gm w0 e u ->∀b xs w,dU w B b xs ->xs.length <=C ->B <=w.heap.size ->Src w0 w B ->Calls prog Kj #[b, .agg #[.int .i64 e.off,u]] w (fk xs (put e) B b w)):
  Calls prog 267 #[b,v, .func (.func Kj) #[] #[]] w (fk xs (eS put l) B b w):=by
 have HP:=V hp;have HL:=V hl;have H0:=V h0;have HC:=V hC;have HW:=V (Wr.refl Ki);have PZ:xs.length <=900000000:=by omega
 obtain⟨a,cap,rfl,Me,La⟩:=ea.slice hl;clear hp hl h0 hC Ki Mk;go_enter func267,ntmps267;go_wp2_with fail;refine(fF b xs l.length (by omega) B w HW.out.1 (by omega) hB).mono ?_;rintro e w2 ⟨v2,rfl,ho,hk,hs⟩;have KA:=V (HW.out.step ⟨ho,hk,hs⟩);have KP:=V (H0.out.next HW.out.1 ⟨ho,hk,hs⟩);clear ho hk hs;go_wp2_with fail;refine ez (fun a' w'=>∃(vb:Value) (k:Nat),a'=fr (vb::gs a' 1 1 (.func (.func Kj) #[] #[]::gs a' 3 10 (.slice a l.length cap:: .int .i64 l.length:: .int .i64 k::gs a' 16 9 [])))/\uY w0 put xs l B b w w' vb k) (fun a' _=>(l.length - (intOf (a'.tmps.getD 15 undef)).toNat)) ?_ ?_
 ·exact⟨_,0,rfl,by omega,by simpa using KA.out,KP.out⟩
 ·skip
  clear HW KA KP H0 v2;rintro R a' w1 ⟨vb,k,Kk,hJ⟩ HR;dsimp only [fr,gs]at Kk;generalize slot a'=f at Kk;subst Kk;obtain⟨hk,M4,MS⟩:=hJ;have HW:=V M4;have HS:=V MS;have O2:=V (show(xs++(eL l.length++((l.take k).map put).flatten)).length <=C by
   have h1:=HC.out;have h2:=jw put l k;simp only [eS,ah]at*;omega)
  clear M4 MS;by_cases q:k < l.length;rotate_left
  ·obtain rfl:k=l.length:=by omega
   have HW:=V (show Wr w b B w1 vb (xs++eS put l)by have:=HW.out;rwa [aU]at this);go_wp2_with fail;go_ret;exact⟨_,rfl,HW.out⟩
  obtain⟨x,hx⟩:∃x,l[k]?=some x:=⟨_,aq q⟩;obtain⟨bb,off,u,rfl,Kq,LL,hu⟩:=ea.get HL.out hx;have c0:=(HS.out.1.cell Kq).trans (LL 0 _ rfl);have c1:=(HS.out.1.cell Kq).trans (LL 1 _ rfl);rw [aK]at c0;have HU:=V hu;obtain⟨⟨a1,Ky,rfl,-,-,-⟩,-⟩:=id hu;have HX:=V hx;clear LL hx hu;go_wp2_with fail;have Lc:=V (HW.out.alloc (.cells #[.int .i64 x.off, .slice a1 x.bytes.length Ky] 99));have Ms:=V (HS.out.alloc (.cells #[.int .i64 x.off, .slice a1 x.bytes.length Ky] 99));refine(HP.out x (aO HX.out) _ HU.out _ _ _ Lc.out.1 O2.out (Lc.out.base hB) Ms.out).mono ?_;rintro e w2 ⟨v2,rfl,KB,Kp,Ku⟩;have KA:=V (Lc.out.step ⟨KB,Kp,Ku⟩);have KP:=V (Ms.out.next Lc.out.1 ⟨KB,Kp,Ku⟩);clear KB Kp Ku c0 c1;go_wp2_with fail;refine HR.out _ _ ⟨_,k+1,rfl,by omega,?_,KP.out⟩ ?_
  ·have:=KA.out
   rw [aQ,HX.out];simpa using this
  ·simp [intOf]
   omega
theorem EL (w0:World) (put:gl ->List UInt8) (no:Nat) (NI:no < 256) (b:Value) (xs:List UInt8) (v:Value) (l:List gl) (B:Nat) (w:World) (Kj:Nat)
  (hE:∀args w,(callFunc Kj args).run prog w= .ok (.enter Kj args) w) (hl:ea 2 pT gm w0 v l) (Ki:Row w B b xs) (hB:B <=w.heap.size) (h0:Below w0.heap.size w0 w)
  (hC:xs.length+(eS put l).length <=100000000)
  (hp:∀e∈l,∀u,gm w0 e u ->∀b xs w B,dU w B b xs ->xs.length <=100000000 ->B <=w.heap.size ->Src w0 w B ->Calls prog Kj #[b, .agg #[.int .i64 e.off,u]] w (fk xs (put e) B b w)):
  Calls prog 192 #[b, .int .i64 no,v, .func (.func Kj) #[] #[]] w (mc xs (fB (b8 no) put l) B b w):=by
 have HP:=V hp;have HL:=V hl;have H0:=V h0;have HW:=V (sv.refl Ki);obtain⟨a,cap,rfl,Me,La⟩:=ea.slice hl;clear hp hl h0 Ki;by_cases q:l.length=0
 ·have f1:=eF (show(l.length:Int)=0 by omega)
  have HN:=V (show l=[]from aH q);clear q;go_enter func192,ntmps192;go_wp2_with fail;go_ret;exact⟨_,rfl,by rw [HN.out];simpa [fB] using HW.out⟩
 ·have f1:=dQ (show ¬ (l.length:Int)=0 by omega)
  have HN:Hid (fB (b8 no) put l=b8 no::(eL (eS put l).length++eS put l)):=V (by
   cases l with
   | nil=>exact absurd rfl q
   | cons x l=>rfl)
  clear q;go_enter func192,ntmps192;go_wp2_with fail;refine(El w0 put 100000000 (.slice none 0 0) [] _ l w.heap.size w Kj hE HL.out (dU.nil _ _) (ag _) ⟨H0.out,H0.out.size⟩ (by simp only [aM];omega) (by decide) (fun e he u hu b xs w ho hx hB h0=>HP.out e he u hu b xs w _ ho hx hB h0)).mono ?_;rintro e w2 ⟨v2,rfl,ho,hk,hs⟩;rw [bM]at ho;have Kl:=ju hk rfl;have HO:=V ho;have KA:=V (HW.out.below Kl);obtain⟨a2,Kn,Py,-,-,-⟩:=ho.fm;subst Py;have LM:∀i,ey (.slice a2 (eS put l).length Kn) i ->¬ ey b i:=fun i h1 h2=>by
   have:=(eo HO.out h1).1;have:=(HW.out.1.lt h2).2;omega
  have HD:=V LM;clear ho hk hs hE LM;go_wp2_with (first | (at_builtin;refine ik w2 rfl _ _ rfl rfl B b _ rfl KA.out.1 (b8 no) _ ?_ ?_ ?_ ?_ ?_))
  ·rw [fJ NI]
  ·rfl
  ·omega
  ·exact KA.out.base hB
  intro v3 w3 ho hk hs;have Ma:=V (KA.out.own ⟨ho,hk,hs⟩);have MF:=V (HO.out.keeps hk HD.out);have Pz:=V (show∀i,ey (.slice a2 (eS put l).length Kn) i ->¬ ey v3 i from fun i h1 h2=>(hs i h2).elim (HD.out i h1) (fun g=>by have:=(eo HO.out h1).2;omega));clear ho hk hs;go_wp2_with fail;refine(fF v3 _ (eS put l).length (by omega) B w3 Ma.out.1 (by simp only [ah,aB];omega) (Ma.out.base hB)).mono ?_;rintro e w4 ⟨v4,rfl,ho,hk,hs⟩;have Lo:=V (Ma.out.step ⟨ho,hk,hs⟩);have MI:=V (MF.out.keeps hk Pz.out);have hp4:=(eD (eS put l).length).2;clear ho hk hs;go_wp2_with (first | (at_builtin;refine fK w4 rfl _ _ rfl rfl B v4 _ rfl Lo.out.1 _ _ rfl MI.out.fm (by simp only [ah,aB];omega) (Lo.out.base hB) ?_));intro v5 w5 ho hk hs;have NR:=V (Lo.out.step ⟨ho,hk,hs⟩);clear ho hk hs;go_wp2_with fail;go_ret;exact⟨_,rfl,by rw [HN.out];exact NR.out.row⟩
def Az (m:ew) (w:World) (e:Ending) (w':World):Prop:=∃v,e= .returned v/\eI w' v (fy m)/\Below w.heap.size w w'
theorem ej.Js {w:World} {u:eB} {m:ew} (h:ej w u m):∀x∈m.eh,∀y∈x.body,y.ok:=by
 obtain⟨_,_,_,_,_,_,⟨us,h1,_,h3⟩,_⟩:=h;intro x hx;obtain⟨i,hi⟩:=List.getElem?_of_mem hx;have Kq:=(aL.1 hi).1;obtain⟨u',hu⟩:∃u',us[i]?=some u':=⟨_,aq (by rw [h1];exact Kq)⟩;exact(h3 i x u' hi hu).1.2.Js
theorem wJ {least fg:Int} {x y:fL} (h:x.may least fg) (ho:x.ok) (hy:y∈oneOf x):0 <=y.min/\ -1 <=y.max/\y.ok:=by
 obtain⟨rfl,hh⟩:=wQ hy;unfold fL.may at h;rw [aJ hh]at h;exact⟨h.1.1,h.2.1,ho⟩
theorem sf (m:ew) (u:eB) (w:World) (hm:ej w u m) (h1:m.vz):Calls prog 98 #[.agg (u.cells m)] w (Az m w):=by
 have HI:=V hm;have HF:=V (h1.fits hm.2.2.2.2.2.2.2.2.2.2.2.2.1 hm.Js);have HM:=V h1;obtain⟨a0,c0,a1,c1,a2,c2,a3,c3,a4,c4,a5,c5,a6,c6,a7,c7,rfl⟩:=hm.open;clear hm h1;simp only [eB.cells];have HX:=V ((eE.new w #[.slice a0 m.types.length c0, .slice a1 m.imports.length c1, .slice a2 m.funcs.length c2, .bool m.table.has, .int .i64 m.table.min, .int .i64 m.table.max, .bool m.mem.has, .int .i64 m.mem.min, .int .i64 m.mem.max, .slice a3 m.globals.length c3, .slice a4 m.dY.length c4, .slice a5 m.elems.length c5, .slice a6 m.eh.length c6, .slice a7 m.eA.length c7] 62).alloc (.cells #[.int .u8 0, .int .u8 97, .int .u8 115, .int .u8 109, .int .u8 1, .int .u8 0, .int .u8 0, .int .u8 0] 5 (8,9)));have HS:=V (((an w.heap.size w).alloc (ag _) (.cells #[.slice a0 m.types.length c0, .slice a1 m.imports.length c1, .slice a2 m.funcs.length c2, .bool m.table.has, .int .i64 m.table.min, .int .i64 m.table.max, .bool m.mem.has, .int .i64 m.mem.min, .int .i64 m.mem.max, .slice a3 m.globals.length c3, .slice a4 m.dY.length c4, .slice a5 m.elems.length c5, .slice a6 m.eh.length c6, .slice a7 m.eA.length c7] 62)).alloc (by rw [aE];omega) (.cells #[.int .u8 0, .int .u8 97, .int .u8 115, .int .u8 109, .int .u8 1, .int .u8 0, .int .u8 0, .int .u8 0] 5 (8,9)));have HW:Hid (sv _ _ (w.heap.size+1) ((w.alloc (.cells #[.slice a0 m.types.length c0, .slice a1 m.imports.length c1, .slice a2 m.funcs.length c2, .bool m.table.has, .int .i64 m.table.min, .int .i64 m.table.max, .bool m.mem.has, .int .i64 m.mem.min, .int .i64 m.mem.max, .slice a3 m.globals.length c3, .slice a4 m.dY.length c4, .slice a5 m.elems.length c5, .slice a6 m.eh.length c6, .slice a7 m.eA.length c7] 62)).alloc (.cells #[.int .u8 0, .int .u8 97, .int .u8 115, .int .u8 109, .int .u8 1, .int .u8 0, .int .u8 0, .int .u8 0] 5 (8,9))) (.slice (some ⟨w.heap.size+1,0,none⟩) 8 8) fw):=V (sv.refl (.inr (by
  have hb:=dq (w.alloc (.cells #[.slice a0 m.types.length c0, .slice a1 m.imports.length c1, .slice a2 m.funcs.length c2, .bool m.table.has, .int .i64 m.table.min, .int .i64 m.table.max, .bool m.mem.has, .int .i64 m.mem.min, .int .i64 m.mem.max, .slice a3 m.globals.length c3, .slice a4 m.dY.length c4, .slice a5 m.elems.length c5, .slice a6 m.eh.length c6, .slice a7 m.eA.length c7] 62)) (.cells #[.int .u8 0, .int .u8 97, .int .u8 115, .int .u8 109, .int .u8 1, .int .u8 0, .int .u8 0, .int .u8 0] 5 (8,9));rw [aE]at hb;refine⟨w.heap.size+1,rfl,⟨_,8,rfl,ag _,by decide,fun i x hx=>⟨w.heap.size+1,0,rfl,?_⟩⟩,ag _,by rw [aE,aE];omega⟩;rw [World.cell?,bX];simp only [hb]
  match i,hx with
  | 0,hx | 1,hx | 2,hx | 3,hx | 4,hx | 5,hx | 6,hx | 7,hx=>
   injection hx with hx;subst hx;rfl)))
 have LC:=Lib.run_convert_bytes_const (P:=prog) (w.alloc (.cells #[.slice a0 m.types.length c0, .slice a1 m.imports.length c1, .slice a2 m.funcs.length c2, .bool m.table.has, .int .i64 m.table.min, .int .i64 m.table.max, .bool m.mem.has, .int .i64 m.mem.min, .int .i64 m.mem.max, .slice a3 m.globals.length c3, .slice a4 m.dY.length c4, .slice a5 m.elems.length c5, .slice a6 m.eh.length c6, .slice a7 m.eA.length c7] 62)) 97 5 #[.int .u8 0, .int .u8 97, .int .u8 115, .int .u8 109, .int .u8 1, .int .u8 0, .int .u8 0, .int .u8 0] 8 8 (by kernel_rfl) (by kernel_rfl);rw [aE]at LC;go_enter func98,ntmps98;go_wp2_with fail;generalize(w.alloc (.cells #[.slice a0 m.types.length c0, .slice a1 m.imports.length c1, .slice a2 m.funcs.length c2, .bool m.table.has, .int .i64 m.table.min, .int .i64 m.table.max, .bool m.mem.has, .int .i64 m.mem.min, .int .i64 m.mem.max, .slice a3 m.globals.length c3, .slice a4 m.dY.length c4, .slice a5 m.elems.length c5, .slice a6 m.eh.length c6, .slice a7 m.eA.length c7] 62)).alloc (.cells #[.int .u8 0, .int .u8 97, .int .u8 115, .int .u8 109, .int .u8 1, .int .u8 0, .int .u8 0, .int .u8 0] 5 (8,9))=w1 at HX HS HW⊢;have HB:=V (show w.heap.size+1 <=w1.heap.size from HX.out.lt);have g0:w1.cell? ⟨w.heap.size,0,none⟩=some (.slice a0 m.types.length c0):=HX.out.cell 0;go_wp2_with fail;refine(DM w kW 1 (by omega) _ _ _ m.types (w.heap.size+1) w1 170 (fun _ _=>by rfl) HI.out.1 HW.out.1 HB.out HS.out (by have hf:=HF.out;have hh:fw.length=8:=rfl;have:=hf.v1;have:=hf.v2;have:=hf.v3;have:=hf.v4;have:=hf.v5;have:=hf.v6;have:=hf.v7;have:=hf.v9;have:=hf.v10;have:=hf.v11;have:=hf.s1;have:=hf.s2;have:=hf.s3;have:=hf.s4;have:=hf.s5;have:=hf.s6;have:=hf.s7;have:=hf.s9;have:=hf.F2;have:=hf.F0;(try simp only [ah]);omega) (fun e he u hu b xs w1 B ho hx hB hs=>GD _ e u hu (HM.out.2.1.1.1.2 e he) b xs w1 B ho hx hB hs)).mono ?_;rintro e w2 ⟨v2,rfl,ho,hk,hs⟩;have HX:=V (HX.out.keeps hk (fun h=>by have:=(HW.out.1.lt h).1;omega));have HS:=V (HS.out.trans (hk.below HS.out.size (fun i hi=>by have:=(HW.out.1.lt hi).1;omega)));have HW:=V (HW.out.step ⟨ho,hk,hs⟩);have HB:=V (aW HB.out hk.size);clear ho hk hs;clear g0;have g1:w2.cell? ⟨w.heap.size,1,none⟩=some (.slice a1 m.imports.length c1):=HX.out.cell 1;go_wp2_with fail;refine(FC w nq 2 (by omega) _ _ _ m.imports (w.heap.size+1) w2 174 (fun _ _=>by rfl) HI.out.2.1 HW.out.1 HB.out HS.out (by have hf:=HF.out;have hh:fw.length=8:=rfl;have:=hf.v1;have:=hf.v2;have:=hf.v3;have:=hf.v4;have:=hf.v5;have:=hf.v6;have:=hf.v7;have:=hf.v9;have:=hf.v10;have:=hf.v11;have:=hf.s1;have:=hf.s2;have:=hf.s3;have:=hf.s4;have:=hf.s5;have:=hf.s6;have:=hf.s7;have:=hf.s9;have:=hf.F2;have:=hf.F0;(try simp only [ah]);omega) (fun e he b xs w1 B ho hx hB _=>Gz e b xs w1 B ho hx hB (HM.out.2.1.1.2.1.2 e he))).mono ?_;rintro e w3 ⟨v3,rfl,ho,hk,hs⟩;have HX:=V (HX.out.keeps hk (fun h=>by have:=(HW.out.1.lt h).1;omega));have HS:=V (HS.out.trans (hk.below HS.out.size (fun i hi=>by have:=(HW.out.1.lt hi).1;omega)));have HW:=V (HW.out.step ⟨ho,hk,hs⟩);have HB:=V (aW HB.out hk.size);clear ho hk hs;clear g1;have g2:w3.cell? ⟨w.heap.size,2,none⟩=some (.slice a2 m.funcs.length c2):=HX.out.cell 2;go_wp2_with fail;refine(Ay w rD 3 (by omega) _ _ _ m.funcs (w.heap.size+1) w3 175 (fun _ _=>by rfl) HI.out.2.2.1 HW.out.1 HB.out HS.out (by have hf:=HF.out;have hh:fw.length=8:=rfl;have:=hf.v1;have:=hf.v2;have:=hf.v3;have:=hf.v4;have:=hf.v5;have:=hf.v6;have:=hf.v7;have:=hf.v9;have:=hf.v10;have:=hf.v11;have:=hf.s1;have:=hf.s2;have:=hf.s3;have:=hf.s4;have:=hf.s5;have:=hf.s6;have:=hf.s7;have:=hf.s9;have:=hf.F2;have:=hf.F0;(try simp only [ah]);omega) (fun e he b xs w1 B ho hx hB _=>mz e (HM.out.2.1.1.2.2.2 e he) b xs B w1 ho (by omega) hB)).mono ?_;rintro e w4 ⟨v4,rfl,ho,hk,hs⟩;have HX:=V (HX.out.keeps hk (fun h=>by have:=(HW.out.1.lt h).1;omega));have HS:=V (HS.out.trans (hk.below HS.out.size (fun i hi=>by have:=(HW.out.1.lt hi).1;omega)));have HW:=V (HW.out.step ⟨ho,hk,hs⟩);have HB:=V (aW HB.out hk.size);clear ho hk hs;clear g2;have g3:w4.cell? ⟨w.heap.size,3,none⟩=some (.bool m.table.has):=HX.out.cell 3;have g4:w4.cell? ⟨w.heap.size,4,none⟩=some (.int .i64 m.table.min):=HX.out.cell 4;have g5:w4.cell? ⟨w.heap.size,5,none⟩=some (.int .i64 m.table.max):=HX.out.cell 5;go_wp2_with fail;refine(Bw m.table _).mono ?_;rintro e w5 ⟨vo,rfl,hl,hb⟩;have HX:=V (HX.out.below hb HX.out.lt);have HS:=V (HS.out.trans (hb.mono HS.out.size));have HW:=V (HW.out.below hb);have HB:=V (aW HB.out hb.size);have HLL:=V (show ee 3 xh w5 vo (oneOf m.table)from hl);clear hl hb;obtain⟨ax,cx,rfl,hcx1,hcx2⟩:=eT HLL.out;clear hcx1 hcx2;go_wp2_with fail;refine(zD w5 jf 4 (by omega) _ _ _ (oneOf m.table) (w.heap.size+1) w5 180 (fun _ _=>by rfl) HLL.out HW.out.1 HB.out (an _ _) (by have hf:=HF.out;have hh:fw.length=8:=rfl;have:=hf.v1;have:=hf.v2;have:=hf.v3;have:=hf.v4;have:=hf.v5;have:=hf.v6;have:=hf.v7;have:=hf.v9;have:=hf.v10;have:=hf.v11;have:=hf.s1;have:=hf.s2;have:=hf.s3;have:=hf.s4;have:=hf.s5;have:=hf.s6;have:=hf.s7;have:=hf.s9;have:=hf.F2;have:=hf.F0;(try simp only [ah]);omega) (fun e he b xs w1 B ho hx hB _=>by obtain⟨h1,h2,h3⟩:=wJ HM.out.2.2.1 HI.out.2.2.2.2.2.2.2.2.2.2.1 he;exact Gf e b xs w1 B ho hx hB h1 h2 h3)).mono ?_;rintro e w6 ⟨v6,rfl,ho,hk,hs⟩;have HX:=V (HX.out.keeps hk (fun h=>by have:=(HW.out.1.lt h).1;omega));have HS:=V (HS.out.trans (hk.below HS.out.size (fun i hi=>by have:=(HW.out.1.lt hi).1;omega)));have HW:=V (HW.out.step ⟨ho,hk,hs⟩);have HB:=V (aW HB.out hk.size);clear ho hk hs;clear g3;clear g4;clear g5;have g6:w6.cell? ⟨w.heap.size,6,none⟩=some (.bool m.mem.has):=HX.out.cell 6;have g7:w6.cell? ⟨w.heap.size,7,none⟩=some (.int .i64 m.mem.min):=HX.out.cell 7;have g8:w6.cell? ⟨w.heap.size,8,none⟩=some (.int .i64 m.mem.max):=HX.out.cell 8;go_wp2_with fail;refine(Bw m.mem _).mono ?_;rintro e w7 ⟨vo,rfl,hl,hb⟩;have HX:=V (HX.out.below hb HX.out.lt);have HS:=V (HS.out.trans (hb.mono HS.out.size));have HW:=V (HW.out.below hb);have HB:=V (aW HB.out hb.size);have HLL:=V (show ee 3 xh w7 vo (oneOf m.mem)from hl);clear hl hb;obtain⟨ax,cx,rfl,hcx1,hcx2⟩:=eT HLL.out;clear hcx1 hcx2;go_wp2_with fail;refine(zD w7 gC 5 (by omega) _ _ _ (oneOf m.mem) (w.heap.size+1) w7 181 (fun _ _=>by rfl) HLL.out HW.out.1 HB.out (an _ _) (by have hf:=HF.out;have hh:fw.length=8:=rfl;have:=hf.v1;have:=hf.v2;have:=hf.v3;have:=hf.v4;have:=hf.v5;have:=hf.v6;have:=hf.v7;have:=hf.v9;have:=hf.v10;have:=hf.v11;have:=hf.s1;have:=hf.s2;have:=hf.s3;have:=hf.s4;have:=hf.s5;have:=hf.s6;have:=hf.s7;have:=hf.s9;have:=hf.F2;have:=hf.F0;(try simp only [ah]);omega) (fun e he b xs w1 B ho hx hB _=>by obtain⟨h1,h2,h3⟩:=wJ HM.out.2.2.2 HI.out.2.2.2.2.2.2.2.2.2.2.2.1 he;exact pQ b xs e B w1 ho (by omega) hB h1 h2 h3)).mono ?_;rintro e w8 ⟨v8,rfl,ho,hk,hs⟩;have HX:=V (HX.out.keeps hk (fun h=>by have:=(HW.out.1.lt h).1;omega));have HS:=V (HS.out.trans (hk.below HS.out.size (fun i hi=>by have:=(HW.out.1.lt hi).1;omega)));have HW:=V (HW.out.step ⟨ho,hk,hs⟩);have HB:=V (aW HB.out hk.size);clear ho hk hs;clear g6;clear g7;clear g8;have g9:w8.cell? ⟨w.heap.size,9,none⟩=some (.slice a3 m.globals.length c3):=HX.out.cell 9;go_wp2_with fail;refine(FU w kB 6 (by omega) _ _ _ m.globals (w.heap.size+1) w8 183 (fun _ _=>by rfl) HI.out.2.2.2.1 HW.out.1 HB.out HS.out (by have hf:=HF.out;have hh:fw.length=8:=rfl;have:=hf.v1;have:=hf.v2;have:=hf.v3;have:=hf.v4;have:=hf.v5;have:=hf.v6;have:=hf.v7;have:=hf.v9;have:=hf.v10;have:=hf.v11;have:=hf.s1;have:=hf.s2;have:=hf.s3;have:=hf.s4;have:=hf.s5;have:=hf.s6;have:=hf.s7;have:=hf.s9;have:=hf.F2;have:=hf.F0;(try simp only [ah]);omega) (fun e he b xs w1 B ho hx hB _=>Gn e b xs w1 B ho hx hB (HM.out.2.1.2.1.2 e he) (HI.out.2.2.2.2.2.2.2.2.2.2.2.2.1 e he))).mono ?_;rintro e w9 ⟨v9,rfl,ho,hk,hs⟩;have HX:=V (HX.out.keeps hk (fun h=>by have:=(HW.out.1.lt h).1;omega));have HS:=V (HS.out.trans (hk.below HS.out.size (fun i hi=>by have:=(HW.out.1.lt hi).1;omega)));have HW:=V (HW.out.step ⟨ho,hk,hs⟩);have HB:=V (aW HB.out hk.size);clear ho hk hs;clear g9;have KY:w9.cell? ⟨w.heap.size,10,none⟩=some (.slice a4 m.dY.length c4):=HX.out.cell 10;go_wp2_with fail;refine(Ds w nE 7 (by omega) _ _ _ m.dY (w.heap.size+1) w9 186 (fun _ _=>by rfl) HI.out.2.2.2.2.1 HW.out.1 HB.out HS.out (by have hf:=HF.out;have hh:fw.length=8:=rfl;have:=hf.v1;have:=hf.v2;have:=hf.v3;have:=hf.v4;have:=hf.v5;have:=hf.v6;have:=hf.v7;have:=hf.v9;have:=hf.v10;have:=hf.v11;have:=hf.s1;have:=hf.s2;have:=hf.s3;have:=hf.s4;have:=hf.s5;have:=hf.s6;have:=hf.s7;have:=hf.s9;have:=hf.F2;have:=hf.F0;(try simp only [ah]);omega) (fun e he b xs w1 B ho hx hB _=>Gh e b xs w1 B ho hx hB (HM.out.2.1.2.2.1.2 e he))).mono ?_;rintro e w10 ⟨v10,rfl,ho,hk,hs⟩;have HX:=V (HX.out.keeps hk (fun h=>by have:=(HW.out.1.lt h).1;omega));have HS:=V (HS.out.trans (hk.below HS.out.size (fun i hi=>by have:=(HW.out.1.lt hi).1;omega)));have HW:=V (HW.out.step ⟨ho,hk,hs⟩);have HB:=V (aW HB.out hk.size);clear ho hk hs;clear KY;have KZ:w10.cell? ⟨w.heap.size,11,none⟩=some (.slice a5 m.elems.length c5):=HX.out.cell 11;go_wp2_with fail;refine(FP w kI 9 (by omega) _ _ _ m.elems (w.heap.size+1) w10 188 (fun _ _=>by rfl) HI.out.2.2.2.2.2.1 HW.out.1 HB.out HS.out (by have hf:=HF.out;have hh:fw.length=8:=rfl;have:=hf.v1;have:=hf.v2;have:=hf.v3;have:=hf.v4;have:=hf.v5;have:=hf.v6;have:=hf.v7;have:=hf.v9;have:=hf.v10;have:=hf.v11;have:=hf.s1;have:=hf.s2;have:=hf.s3;have:=hf.s4;have:=hf.s5;have:=hf.s6;have:=hf.s7;have:=hf.s9;have:=hf.F2;have:=hf.F0;(try simp only [ah]);omega) (fun e he u hu b xs w1 B ho hx hB hs=>GR _ e u hu (HM.out.2.1.2.2.2.1.2 e he) b xs w1 B ho hx hB hs)).mono ?_;rintro e QH ⟨v11,rfl,ho,hk,hs⟩;have HX:=V (HX.out.keeps hk (fun h=>by have:=(HW.out.1.lt h).1;omega));have HS:=V (HS.out.trans (hk.below HS.out.size (fun i hi=>by have:=(HW.out.1.lt hi).1;omega)));have HW:=V (HW.out.step ⟨ho,hk,hs⟩);have HB:=V (aW HB.out hk.size);clear ho hk hs;clear KZ;have K0:QH.cell? ⟨w.heap.size,12,none⟩=some (.slice a6 m.eh.length c6):=HX.out.cell 12;go_wp2_with fail;refine(Fw w im 10 (by omega) _ _ _ m.eh (w.heap.size+1) QH 191 (fun _ _=>by rfl) HI.out.2.2.2.2.2.2.1 HW.out.1 HB.out HS.out (by have hf:=HF.out;have hh:fw.length=8:=rfl;have:=hf.v1;have:=hf.v2;have:=hf.v3;have:=hf.v4;have:=hf.v5;have:=hf.v6;have:=hf.v7;have:=hf.v9;have:=hf.v10;have:=hf.v11;have:=hf.s1;have:=hf.s2;have:=hf.s3;have:=hf.s4;have:=hf.s5;have:=hf.s6;have:=hf.s7;have:=hf.s9;have:=hf.F2;have:=hf.F0;(try simp only [ah]);omega) (fun e he u hu b xs w1 B ho hx hB hs=>Gj _ e u hu (HM.out.1.2.2 e he) b xs w1 B ho hx hB hs)).mono ?_;rintro e w12 ⟨v12,rfl,ho,hk,hs⟩;have HX:=V (HX.out.keeps hk (fun h=>by have:=(HW.out.1.lt h).1;omega));have HS:=V (HS.out.trans (hk.below HS.out.size (fun i hi=>by have:=(HW.out.1.lt hi).1;omega)));have HW:=V (HW.out.step ⟨ho,hk,hs⟩);have HB:=V (aW HB.out hk.size);clear ho hk hs;clear K0;have K3:w12.cell? ⟨w.heap.size,13,none⟩=some (.slice a7 m.eA.length c7):=HX.out.cell 13;go_wp2_with fail;refine(EL w nD 11 (by omega) _ _ _ m.eA (w.heap.size+1) w12 193 (fun _ _=>by rfl) HI.out.2.2.2.2.2.2.2.1 HW.out.1 HB.out HS.out (by have hf:=HF.out;have hh:fw.length=8:=rfl;have:=hf.v1;have:=hf.v2;have:=hf.v3;have:=hf.v4;have:=hf.v5;have:=hf.v6;have:=hf.v7;have:=hf.v9;have:=hf.v10;have:=hf.v11;have:=hf.s1;have:=hf.s2;have:=hf.s3;have:=hf.s4;have:=hf.s5;have:=hf.s6;have:=hf.s7;have:=hf.s9;have:=hf.F2;have:=hf.F0;(try simp only [ah]);omega) (fun e he u hu b xs w1 B ho hx hB hs=>Gw _ e u hu (HM.out.2.1.2.2.2.2.2 e he) b xs w1 B ho hx hB hs)).mono ?_;rintro e w13 ⟨v13,rfl,ho,hk,hs⟩;have HX:=V (HX.out.keeps hk (fun h=>by have:=(HW.out.1.lt h).1;omega));have HS:=V (HS.out.trans (hk.below HS.out.size (fun i hi=>by have:=(HW.out.1.lt hi).1;omega)));have HW:=V (HW.out.step ⟨ho,hk,hs⟩);have HB:=V (aW HB.out hk.size);clear ho hk hs;clear K3;go_wp2_with fail;go_ret;exact⟨_,rfl,by rw [Bi];exact HW.out.1.fm,HS.out⟩
theorem eE.mod {w:World} {X:Nat} {t:TypeId} {x0 x1 x2 x3 x4 x5 x6 x7 x8 x9 x10 x11 x12 x13:Value} (h:eE w X #[x0,x1,x2,x3,x4,x5,x6,x7,x8,x9,x10,x11,x12,x13] t):
  w.cell? ⟨X,0,none⟩=some x0/\w.cell? ⟨X,1,none⟩=some x1/\w.cell? ⟨X,2,none⟩=some x2/\w.cell? ⟨X,3,none⟩=some x3/\w.cell? ⟨X,4,none⟩=some x4/\w.cell? ⟨X,5,none⟩=some x5/\w.cell? ⟨X,6,none⟩=some x6/\w.cell? ⟨X,7,none⟩=some x7/\w.cell? ⟨X,8,none⟩=some x8/\w.cell? ⟨X,9,none⟩=some x9/\w.cell? ⟨X,10,none⟩=some x10/\w.cell? ⟨X,11,none⟩=some x11/\w.cell? ⟨X,12,none⟩=some x12/\w.cell? ⟨X,13,none⟩=some x13:=
 ⟨h.cell 0,h.cell 1,h.cell 2,h.cell 3,h.cell 4,h.cell 5,h.cell 6,h.cell 7,h.cell 8,h.cell 9,h.cell 10,h.cell 11,h.cell 12,h.cell 13⟩
theorem ly (m:ew):decide m.may=(decide (m.eh.length=m.funcs.length)&&(decide ((m.eh.length:Int) <=16/\∀x∈m.eh,x.may)&&(decide m.lists&&(decide (m.table.may 16 1000)&&(decide (m.mem.may 16 65536)&&decide ((fy m).length <=8000)))))):=by
 simp only [<- cL];refine dc.2 ?_;unfold ew.may ew.vz ew.sM
 constructor
 ·rintro⟨⟨⟨h1,h2,h3⟩,h4,h5,h6⟩,h7⟩
  exact⟨h1,⟨by omega,h3⟩,h4,h5,h6,h7⟩
 ·rintro⟨h1,⟨h2,h3⟩,h4,h5,h6,h7⟩
  exact⟨⟨⟨h1,by omega,h3⟩,h4,h5,h6⟩,h7⟩
theorem sQ (m:ew) (u:eB) (w:World) (hm:ej w u m) (hs:m.words):Calls prog 60 #[.agg (u.cells m)] w (et (decide m.may) w):=by
 have HI:=V hm;have HWD:=V hs;obtain⟨a0,c0,a1,c1,a2,c2,a3,c3,a4,c4,a5,c5,a6,c6,a7,c7,rfl⟩:=ej.open hm;clear hm hs;simp only [eB.cells];have HX:=V (eE.new w #[.slice a0 m.types.length c0, .slice a1 m.imports.length c1, .slice a2 m.funcs.length c2, .bool m.table.has, .int .i64 m.table.min, .int .i64 m.table.max, .bool m.mem.has, .int .i64 m.mem.min, .int .i64 m.mem.max, .slice a3 m.globals.length c3, .slice a4 m.dY.length c4, .slice a5 m.elems.length c5, .slice a6 m.eh.length c6, .slice a7 m.eA.length c7] 62);have HS:=V ((an w.heap.size w).alloc (ag _) (.cells #[.slice a0 m.types.length c0, .slice a1 m.imports.length c1, .slice a2 m.funcs.length c2, .bool m.table.has, .int .i64 m.table.min, .int .i64 m.table.max, .bool m.mem.has, .int .i64 m.mem.min, .int .i64 m.mem.max, .slice a3 m.globals.length c3, .slice a4 m.dY.length c4, .slice a5 m.elems.length c5, .slice a6 m.eh.length c6, .slice a7 m.eA.length c7] 62));by_cases q:m.eh.length=m.funcs.length;rotate_left
 ·have f1:((m.eh.length:Int)==(m.funcs.length:Int))=false:=dQ (by omega)
  have f2:(m.eh.length==m.funcs.length)=false:=by simp [q]
  have HQ:=V (aA q);clear q;go_enter func60,ntmps60;go_wp2_with fail;go_ret;exact⟨by rw [ly,HQ.out];rfl,HS.out⟩
 have f1:((m.eh.length:Int)==(m.funcs.length:Int))=true:=eF (by omega);have f2:(m.eh.length==m.funcs.length)=true:=by simp [q]
 have HQ:=V (az q);clear q;go_enter func60,ntmps60;go_wp2_with fail;refine(Ec (fun x=>decide x.may) _ m.eh _ (ea.below HI.out.2.2.2.2.2.2.1 HS.out (fun _ _ h=>h.below HS.out)) 91 16 (fun _ _=>by rfl) (fun e _ u w' _ hu=>FZ e u w' hu)).mono ?_;rw [kH];rintro x w1 ⟨rfl,hb⟩;obtain⟨r1,hr⟩:∃r,decide ((m.eh.length:Int) <=16/\∀x∈m.eh,x.may)=r:=⟨_,rfl⟩;rw [hr];have R1:=V hr;have HX:=V (HX.out.below hb HX.out.lt);have HS:=V (HS.out.trans (hb.mono HS.out.size));clear hr hb;obtain⟨g0,g1,g2,g3,g4,g5,g6,g7,g8,g9,KY,KZ,K0,K3⟩:=HX.out.mod;cases r1
 ·skip
  go_wp2_with fail;go_ret;exact⟨by rw [ly,HQ.out,R1.out];rfl,HS.out⟩
 go_wp2_with fail;refine(Dj m ⟨.slice a0 m.types.length c0, .slice a1 m.imports.length c1, .slice a2 m.funcs.length c2, .slice a3 m.globals.length c3, .slice a4 m.dY.length c4, .slice a5 m.elems.length c5, .slice a6 m.eh.length c6, .slice a7 m.eA.length c7⟩ w1 (ej.below HI.out HS.out) HWD.out).mono ?_;rintro x w2 ⟨rfl,hb⟩;obtain⟨r2,hr⟩:∃r,decide m.lists=r:=⟨_,rfl⟩;rw [hr];have R2:=V hr;have HX:=V (HX.out.below hb HX.out.lt);have HS:=V (HS.out.trans (hb.mono HS.out.size));clear hr hb;clear g0 g1 g2 g3 g4 g5 g6 g7 g8 g9 KY KZ K0 K3;obtain⟨g0,g1,g2,g3,g4,g5,g6,g7,g8,g9,KY,KZ,K0,K3⟩:=HX.out.mod;cases r2
 ·skip
  go_wp2_with fail;go_ret;exact⟨by rw [ly,HQ.out,R1.out,R2.out];rfl,HS.out⟩
 go_wp2_with fail;refine(sg m.table 16 1000 w2).mono ?_;rintro x w3 ⟨rfl,hb⟩;obtain⟨r3,hr⟩:∃r,decide (m.table.may 16 1000)=r:=⟨_,rfl⟩;rw [hr];have R3:=V hr;have HX:=V (HX.out.below hb HX.out.lt);have HS:=V (HS.out.trans (hb.mono HS.out.size));clear hr hb;clear g0 g1 g2 g3 g4 g5 g6 g7 g8 g9 KY KZ K0 K3;obtain⟨g0,g1,g2,g3,g4,g5,g6,g7,g8,g9,KY,KZ,K0,K3⟩:=HX.out.mod;cases r3
 ·skip
  go_wp2_with fail;go_ret;exact⟨by rw [ly,HQ.out,R1.out,R2.out,R3.out];rfl,HS.out⟩
 go_wp2_with fail;refine(sg m.mem 16 65536 w3).mono ?_;rintro x w4 ⟨rfl,hb⟩;obtain⟨r4,hr⟩:∃r,decide (m.mem.may 16 65536)=r:=⟨_,rfl⟩;rw [hr];have R4:=V hr;have HX:=V (HX.out.below hb HX.out.lt);have HS:=V (HS.out.trans (hb.mono HS.out.size));clear hr hb;clear g0 g1 g2 g3 g4 g5 g6 g7 g8 g9 KY KZ K0 K3;obtain⟨g0,g1,g2,g3,g4,g5,g6,g7,g8,g9,KY,KZ,K0,K3⟩:=HX.out.mod;cases r4
 ·skip
  go_wp2_with fail;go_ret;exact⟨by rw [ly,HQ.out,R1.out,R2.out,R3.out,R4.out];rfl,HS.out⟩
 have hmay1:m.vz:=by
  have h1:=cD R1.out;exact⟨⟨cD HQ.out,by have:=h1.1;omega,h1.2⟩,cD R2.out,cD R3.out,cD R4.out⟩
 go_wp2_with fail;refine(sf m ⟨.slice a0 m.types.length c0, .slice a1 m.imports.length c1, .slice a2 m.funcs.length c2, .slice a3 m.globals.length c3, .slice a4 m.dY.length c4, .slice a5 m.elems.length c5, .slice a6 m.eh.length c6, .slice a7 m.eA.length c7⟩ w4 (ej.below HI.out HS.out) hmay1).mono ?_;rintro x w5 ⟨v,rfl,hv,hb⟩;obtain⟨av,cv,rfl,-,-,-⟩:=hv;have HS:=V (HS.out.trans (hb.mono HS.out.size));clear hb hmay1;clear g0 g1 g2 g3 g4 g5 g6 g7 g8 g9 KY KZ K0 K3;obtain⟨n,hn⟩:∃n,(fy m).length=n:=⟨_,rfl⟩;rw [hn];have HN:=V hn;clear hn;by_cases q:n <=8000
 ·have f3:decide ((n:Int) <=8000)=true:=az (by omega)
  have f4:decide (n <=8000)=true:=az q;have HR:=V (show decide ((fy m).length <=8000)=true by rw [HN.out];exact f4);clear q;go_wp2_with fail;go_ret;exact⟨by rw [ly,HQ.out,R1.out,R2.out,R3.out,R4.out,HR.out];rfl,HS.out⟩
 ·have f3:decide ((n:Int) <=8000)=false:=aA (by omega)
  have f4:decide (n <=8000)=false:=aA q;have HR:=V (show decide ((fy m).length <=8000)=false by rw [HN.out];exact f4);clear q;go_wp2_with fail;go_ret;exact⟨by rw [ly,HQ.out,R1.out,R2.out,R3.out,R4.out,HR.out];rfl,HS.out⟩
def Gc (m:ew) (w:World) (e:Ending) (w':World):Prop:=∃v,e= .returned v/\((¬ m.may/\v= .slice none 0 0)\/(m.may/\eI w' v (fy m)))/\Below w.heap.size w w'
theorem oy (m:ew) (u:eB) (w:World) (hm:ej w u m) (hs:m.words):Calls prog 69 #[.agg (u.cells m)] w (Gc m w):=by
 have HI:=V hm;have HWD:=V hs;obtain⟨a0,c0,a1,c1,a2,c2,a3,c3,a4,c4,a5,c5,a6,c6,a7,c7,rfl⟩:=ej.open hm;clear hm hs;simp only [eB.cells];have HX:=V (eE.new w #[.slice a0 m.types.length c0, .slice a1 m.imports.length c1, .slice a2 m.funcs.length c2, .bool m.table.has, .int .i64 m.table.min, .int .i64 m.table.max, .bool m.mem.has, .int .i64 m.mem.min, .int .i64 m.mem.max, .slice a3 m.globals.length c3, .slice a4 m.dY.length c4, .slice a5 m.elems.length c5, .slice a6 m.eh.length c6, .slice a7 m.eA.length c7] 62);have HS:=V ((an w.heap.size w).alloc (ag _) (.cells #[.slice a0 m.types.length c0, .slice a1 m.imports.length c1, .slice a2 m.funcs.length c2, .bool m.table.has, .int .i64 m.table.min, .int .i64 m.table.max, .bool m.mem.has, .int .i64 m.mem.min, .int .i64 m.mem.max, .slice a3 m.globals.length c3, .slice a4 m.dY.length c4, .slice a5 m.elems.length c5, .slice a6 m.eh.length c6, .slice a7 m.eA.length c7] 62));go_enter func69,ntmps69;go_wp2_with fail;refine(sQ m ⟨.slice a0 m.types.length c0, .slice a1 m.imports.length c1, .slice a2 m.funcs.length c2, .slice a3 m.globals.length c3, .slice a4 m.dY.length c4, .slice a5 m.elems.length c5, .slice a6 m.eh.length c6, .slice a7 m.eA.length c7⟩ _ (ej.below HI.out HS.out) HWD.out).mono ?_;rintro x w1 ⟨rfl,hb⟩;obtain⟨r1,hr⟩:∃r,decide m.may=r:=⟨_,rfl⟩;rw [hr];have R1:=V hr;have HX:=V (HX.out.below hb HX.out.lt);have HS:=V (HS.out.trans (hb.mono HS.out.size));clear hr hb;obtain⟨g0,g1,g2,g3,g4,g5,g6,g7,g8,g9,KY,KZ,K0,K3⟩:=HX.out.mod;cases r1
 ·go_wp2_with fail
  go_ret;exact⟨_,rfl, .inl ⟨of_decide_eq_false R1.out,rfl⟩,HS.out⟩
 go_wp2_with fail;refine(sf m ⟨.slice a0 m.types.length c0, .slice a1 m.imports.length c1, .slice a2 m.funcs.length c2, .slice a3 m.globals.length c3, .slice a4 m.dY.length c4, .slice a5 m.elems.length c5, .slice a6 m.eh.length c6, .slice a7 m.eA.length c7⟩ w1 (ej.below HI.out HS.out) (cD R1.out).1).mono ?_;rintro x w2 ⟨v,rfl,hv,hb⟩;have HV:=V hv;have HS:=V (HS.out.trans (hb.mono HS.out.size));clear hb hv;clear g0 g1 g2 g3 g4 g5 g6 g7 g8 g9 KY KZ K0 K3;go_wp2_with fail;go_ret;exact⟨_,rfl, .inr ⟨cD R1.out,HV.out⟩,HS.out⟩
theorem tp (x:fL) (w:World):Calls prog 64 #[.agg #[.bool x.has, .int .i64 x.min, .int .i64 x.max]] w (et (kP x) w):=by
 obtain⟨has,mn,mx⟩:=x;have HB:=V ((an w.heap.size w).alloc (ag _) (.cells #[.bool has, .int .i64 mn, .int .i64 mx] 55));cases has
 ·go_enter func64,ntmps64
  go_wp2_with fail;go_ret;exact⟨rfl,HB.out⟩
 by_cases q:0 <=mx
 ·have f1:decide (0 <=mx)=true:=az q
  have HT:Hid (kP ⟨true,mn,mx⟩=decide (mx < mn)):=V (by unfold kP;simp [q]);clear q;go_enter func64,ntmps64;go_wp2_with fail;go_ret;exact⟨by rw [HT.out];rfl,HB.out⟩
 ·have f1:decide (0 <=mx)=false:=aA q
  have HT:Hid (kP ⟨true,mn,mx⟩=false):=V (by unfold kP;simp [q]);clear q;go_enter func64,ntmps64;go_wp2_with fail;go_ret;exact⟨by rw [HT.out];rfl,HB.out⟩
theorem tD (m:ew) (M:Nat) (a:Option Addr) (cap:Nat) (t:Int) (w:World) (h:w.cell? ⟨M,0,none⟩=some (.slice a m.types.length cap)):
  Calls prog 56 #[.int .i64 t, .pointer (some ⟨M,0,none⟩)] w (et (lF m t) w):=by
 go_enter func56,ntmps56;go_wp2_with fail;go_ret;exact⟨rfl,an _ _⟩
theorem tK (m:ew) (M:Nat) (a a':Option Addr) (cap KE:Nat) (f:Int) (w:World) (h:w.cell? ⟨M,1,none⟩=some (.slice a m.imports.length cap)) (h':w.cell? ⟨M,2,none⟩=some (.slice a' m.funcs.length KE)) (hs:m.imports.length+m.funcs.length <=1000000):
  Calls prog 57 #[.int .i64 f, .pointer (some ⟨M,0,none⟩)] w (et (lD m f) w):=by
 go_enter func57,ntmps57;go_wp2_with fail;go_ret;exact⟨rfl,an _ _⟩
theorem xE (x y:iB) (X:Nat) (w:World) (h:w.cell? ⟨X,0,none⟩=some (.string x.name)):
  Calls prog 59 #[.agg #[.string y.name, .int .i64 y.func], .pointer (some ⟨X,0,none⟩)] w (et (x.name.toList==y.name.toList) w):=by
 have HB:=V ((an w.heap.size w).alloc (ag _) (.cells #[.string y.name, .int .i64 y.func] 111));have h:=(Ext.dV HB.out).1 _ _ h;go_enter func59,ntmps59;go_wp2_with fail;go_ret;exact⟨rfl,HB.out⟩
theorem yA (m:ew) (M X:Nat) (x:jd) (w:World) (a:Option Addr) (cap:Nat) (h:w.cell? ⟨M,0,none⟩=some (.slice a m.types.length cap)) (hX:w.cell? ⟨X,0,none⟩=some (.func (.func 56) #[] #[.pointer (some ⟨M,0,none⟩)])):
  Calls prog 62 #[.agg #[.string x.mod, .string x.name, .int .i64 x.type], .pointer (some ⟨X,0,none⟩)] w (et (lF m x.type) w):=by
 have HB:=V ((an w.heap.size w).alloc (ag _) (.cells #[.string x.mod, .string x.name, .int .i64 x.type] 118));have H:=V ((Ext.dV HB.out).1 _ _ h);have hX:=(Ext.dV HB.out).1 _ _ hX;clear h;go_enter func62,ntmps62;go_wp2_with fail;refine(tD m M a cap x.type _ H.out).mono ?_;rintro e w2 ⟨rfl,hb⟩;have HB:=V (HB.out.trans (hb.mono HB.out.size));clear hb hX;go_wp2_with fail;go_ret;exact⟨rfl,HB.out⟩
theorem pO (m:ew) (M X:Nat) (x:iO) (u:Value) (w:World) (a a':Option Addr) (cap KE:Nat) (h:w.cell? ⟨M,1,none⟩=some (.slice a m.imports.length cap)) (h':w.cell? ⟨M,2,none⟩=some (.slice a' m.funcs.length KE)) (hs:m.imports.length+m.funcs.length <=1000000) (hX:w.cell? ⟨X,0,none⟩=some (.func (.func 57) #[] #[.pointer (some ⟨M,0,none⟩)])) (hu:gS w x u):
  Calls prog 66 #[.agg #[.int .i64 x.off,u], .pointer (some ⟨X,0,none⟩)] w (et (x.funcs.any fun f=>lD m f) w):=by
 obtain⟨au,cu,rfl,-,-⟩:=eT hu.1;have HU:=V hu.1;have HB:=V ((an w.heap.size w).alloc (ag _) (.cells #[.int .i64 x.off, .slice au x.funcs.length cu] 95));have H:=V ((Ext.dV HB.out).1 _ _ h);have H':=V ((Ext.dV HB.out).1 _ _ h');have hX:=(Ext.dV HB.out).1 _ _ hX;clear h h' hu;go_enter func66,ntmps66;go_wp2_with fail;refine(qc (fun f=>lD m f) _ x.funcs _ (HU.out.below HB.out) 57 #[.pointer (some ⟨M,0,none⟩)] (fun _ _=>by rfl) (fun e _ w' hb=>tK m M a a' cap KE e w' ((Ext.dV hb).1 _ _ H.out) ((Ext.dV hb).1 _ _ H'.out) hs)).mono ?_;rintro e w2 ⟨rfl,hb⟩;have HB:=V (HB.out.trans (hb.mono HB.out.size));clear hb hX;go_wp2_with fail;go_ret;exact⟨rfl,HB.out⟩
def xp (b off b2 KM k:Nat) (e d:Int) (w:World):Prop:=w.cell? ⟨b,off+k,none⟩=some (.int .i64 e)/\w.cell? ⟨b2,KM+k,none⟩=some (.int .i64 d)
theorem kU (va vb:Value) (la lb:List Int) (w:World) (ha:ee 1 eZ w va la) (hb:ee 1 eZ w vb lb):Calls prog 48 #[va,vb] w (oZ la lb w):=by
 have HA:=V ha;have HB:=V hb;obtain⟨a,cap,rfl,h1,h2,_⟩:=ha;obtain⟨a2,Kn,rfl,h3,h4,_⟩:=hb;unfold maxLen at h2 h4;by_cases hlen:la.length=lb.length;rotate_left
 ·have f1:(((la.length:Int)) !=((lb.length:Int)))=true:=fc (by omega)
  have HL:=V hlen;clear hlen;go_enter func48,ntmps48;go_wp2_with fail;go_ret;exact⟨false,rfl,⟨fun h=>(by cases h),fun h=>absurd (cW List.length h) HL.out⟩,an _ _⟩
 rw [<- hlen]at h3⊢;have HL:=V hlen;clear hlen;go_enter func48,ntmps48;go_wp2_with fail;refine ez (fun a' w'=>∃(k:Nat),a'=fr (.slice a la.length cap:: .slice a2 la.length Kn::gs a' 2 10 (.int .i64 la.length:: .int .i64 k::gs a' 14 12 []))/\yG la lb w w' k) (fun a' _=>(la.length - (intOf (a'.tmps.getD 13 undef)).toNat)) ?_ ?_
 ·exact⟨0,rfl,by omega,rfl,an _ _⟩
 ·skip
  rintro R a' w1 ⟨k,Kk,hJ⟩ HR;dsimp only [fr,gs]at Kk;generalize slot a'=f at Kk;subst Kk;obtain⟨hk,NV,hb⟩:=hJ;have HT:=V NV;clear NV;by_cases Lg:k < la.length;rotate_left
  ·skip
   obtain rfl:k=la.length:=by omega
   go_wp2_with fail;go_ret;refine⟨true,rfl,⟨fun _=>?_,fun _=>rfl⟩,hb⟩;have:=HT.out;rw [aU,HL.out,aU]at this;exact this
  obtain⟨e,he⟩:∃e,la[k]?=some e:=⟨_,aq Lg⟩;obtain⟨d,hd⟩:∃d,lb[k]?=some d:=⟨_,aq (by have:=HL.out;omega)⟩;obtain⟨a',KE,hv,_,_,Kh⟩:=HA.out.below (hb.mono (ag _));obtain⟨a2',cap2',LW,_,_,Lw⟩:=HB.out.below (hb.mono (ag _));injection hv with e1 e2 e3;injection LW with e4 e5 e6;subst e1 e3 e4 e6;obtain⟨b,off,rfl,Kq,hc⟩:=Kh k e he;obtain⟨b2,KM,rfl,L4,La⟩:=Lw k d hd;have c0:=hc 0 _ rfl;have c2:=La 0 _ rfl;rw [aK,bj]at c0 c2;have HE:=V he;have HD:=V hd;have cc:xp b off b2 KM k e d w1.drew:=⟨c0,c2⟩;have CC:=V cc;clear Kh Lw e2 e5 he hd hc La c0 c2 cc;by_cases q1:e=d
  ·have f1:=jI q1
   have Q1:=V q1;clear q1;go_wp2_with fail;refine ed (xp b off b2 KM k e d) (up 0 9 []) (by kernel_rfl) (by kernel_rfl) CC.out ?_;iterate 8 (first | (apply sk rfl rfl;simp only [pt]) | (apply dT rfl rfl rfl;·(rintro w' ⟨t0,t1⟩;go_wp2;exact⟨rfl,rfl,rfl⟩)))
   iterate 1 (first | (apply sk rfl rfl;simp only [pt]) | (apply dT rfl rfl rfl;·(rintro w' ⟨t0,t1⟩;go_wp2;exact⟨rfl,rfl,rfl⟩)))
   refine eH ?_;refine aD ?_;go_wp2_with fail;refine HR.out _ _ ⟨k+1,rfl,by omega,?_,hb.drew⟩ ?_
   ·rw [aQ,aQ,HT.out,HE.out,HD.out,Q1.out]
   ·simp [intOf]
    omega
  ·have f1:=fc q1
   have HX:=V (show e≠d from q1);clear q1;go_wp2_with fail;refine ed (xp b off b2 KM k e d) (up 0 9 []) (by kernel_rfl) (by kernel_rfl) CC.out ?_;iterate 8 (first | (apply sk rfl rfl;simp only [pt]) | (apply dT rfl rfl rfl;·(rintro w' ⟨t0,t1⟩;go_wp2;exact⟨rfl,rfl,rfl⟩)))
   iterate 1 (first | (apply sk rfl rfl;simp only [pt]) | (apply dT rfl rfl rfl;·(rintro w' ⟨t0,t1⟩;go_wp2;exact⟨rfl,rfl,rfl⟩)))
   refine eH ?_;refine aD ?_;go_wp2_with fail;go_ret;refine⟨false,rfl,⟨fun h=>(by cases h),fun h=>?_⟩,hb.drew⟩;have h1:=HE.out;rw [h,HD.out]at h1;injection h1 with h1;exact(HX.out (by rw [h1])).elim
def sK (b off b2 KM k:Nat) (e d:iB) (w:World):Prop:=
 (w.cell? ⟨b,off+k*2,none⟩=some (.string e.name)/\w.cell? ⟨b,off+k*2+1,none⟩=some (.int .i64 e.func))/\
 w.cell? ⟨b2,KM+k*2,none⟩=some (.string d.name)/\w.cell? ⟨b2,KM+k*2+1,none⟩=some (.int .i64 d.func)
theorem Cd {a b:ByteArray} (h:a.toList=b.toList):a=b:=by
 rw [du,du]at h;obtain⟨⟨x⟩⟩:=a;obtain⟨⟨y⟩⟩:=b;simpa using h
theorem xG (va vb:Value) (la lb:List iB) (w:World) (ha:ee 2 qS w va la) (hb:ee 2 qS w vb lb):Calls prog 314 #[va,vb] w (oZ la lb w):=by
 have HA:=V ha;have HB:=V hb;obtain⟨a,cap,rfl,h1,h2,_⟩:=ha;obtain⟨a2,Kn,rfl,h3,h4,_⟩:=hb;unfold maxLen at h2 h4;by_cases hlen:la.length=lb.length;rotate_left
 ·have f1:(((la.length:Int)) !=((lb.length:Int)))=true:=fc (by omega)
  have HL:=V hlen;clear hlen;go_enter func314,ntmps314;go_wp2_with fail;go_ret;exact⟨false,rfl,⟨fun h=>(by cases h),fun h=>absurd (cW List.length h) HL.out⟩,an _ _⟩
 rw [<- hlen]at h3⊢;have HL:=V hlen;clear hlen;go_enter func314,ntmps314;go_wp2_with fail;refine ez (fun a' w'=>∃(k:Nat),a'=fr (.slice a la.length cap:: .slice a2 la.length Kn::gs a' 2 10 (.int .i64 la.length:: .int .i64 k::gs a' 14 12 []))/\yG la lb w w' k) (fun a' _=>(la.length - (intOf (a'.tmps.getD 13 undef)).toNat)) ?_ ?_
 ·exact⟨0,rfl,by omega,rfl,an _ _⟩
 ·skip
  rintro R a' w1 ⟨k,Kk,hJ⟩ HR;dsimp only [fr,gs]at Kk;generalize slot a'=f at Kk;subst Kk;obtain⟨hk,NV,hb⟩:=hJ;have HT:=V NV;clear NV;by_cases Lg:k < la.length;rotate_left
  ·skip
   obtain rfl:k=la.length:=by omega
   go_wp2_with fail;go_ret;refine⟨true,rfl,⟨fun _=>?_,fun _=>rfl⟩,hb⟩;have:=HT.out;rw [aU,HL.out,aU]at this;exact this
  obtain⟨e,he⟩:∃e,la[k]?=some e:=⟨_,aq Lg⟩;obtain⟨d,hd⟩:∃d,lb[k]?=some d:=⟨_,aq (by have:=HL.out;omega)⟩;obtain⟨a',KE,hv,_,_,Kh⟩:=HA.out.below (hb.mono (ag _));obtain⟨a2',cap2',LW,_,_,Lw⟩:=HB.out.below (hb.mono (ag _));injection hv with e1 e2 e3;injection LW with e4 e5 e6;subst e1 e3 e4 e6;obtain⟨b,off,rfl,Kq,hc⟩:=Kh k e he;obtain⟨b2,KM,rfl,L4,La⟩:=Lw k d hd;have c0:=hc 0 _ rfl;have c1:=hc 1 _ rfl;have c2:=La 0 _ rfl;have c3:=La 1 _ rfl;rw [aK]at c0 c2;have HE:=V he;have HD:=V hd;have cc:sK b off b2 KM k e d w1.drew:=⟨⟨c0,c1⟩,c2,c3⟩;have CC:=V cc;clear Kh Lw e2 e5 he hd hc La c0 c1 c2 c3 cc;by_cases q1:e.name.toList=d.name.toList
  ·have f1:(e.name.toList==d.name.toList)=true:=by simp [q1]
   have Q1:=V q1;clear q1;by_cases q2:e.func=d.func
   ·have f2:=eF q2
    have Q2:=V q2;clear q2;go_wp2_with fail;refine ed (sK b off b2 KM k e d) (up 0 9 []) (by kernel_rfl) (by kernel_rfl) CC.out ?_;iterate 8 (first | (apply sk rfl rfl;simp only [pt]) | (apply dT rfl rfl rfl;·(rintro w' ⟨⟨t0,t1⟩,t2,t3⟩;go_wp2;exact⟨rfl,rfl,rfl⟩)))
    iterate 1 (first | (apply sk rfl rfl;simp only [pt]) | (apply dT rfl rfl rfl;·(rintro w' ⟨⟨t0,t1⟩,t2,t3⟩;go_wp2;exact⟨rfl,rfl,rfl⟩)))
    refine eH ?_;refine aD ?_;go_wp2_with fail;refine HR.out _ _ ⟨k+1,rfl,by omega,?_,hb.drew⟩ ?_
    ·rw [aQ,aQ,HT.out,HE.out,HD.out]
     obtain⟨x0,x1⟩:=e;obtain⟨y0,y1⟩:=d;have g0:=Cd Q1.out;have g1:=Q2.out;simp only at g0 g1;rw [g0,g1]
    ·simp [intOf]
     omega
   ·have f2:=dQ q2
    have HX:=V (show e.func≠d.func from q2);clear q2;go_wp2_with fail;refine ed (sK b off b2 KM k e d) (up 0 9 []) (by kernel_rfl) (by kernel_rfl) CC.out ?_;iterate 8 (first | (apply sk rfl rfl;simp only [pt]) | (apply dT rfl rfl rfl;·(rintro w' ⟨⟨t0,t1⟩,t2,t3⟩;go_wp2;exact⟨rfl,rfl,rfl⟩)))
    iterate 1 (first | (apply sk rfl rfl;simp only [pt]) | (apply dT rfl rfl rfl;·(rintro w' ⟨⟨t0,t1⟩,t2,t3⟩;go_wp2;exact⟨rfl,rfl,rfl⟩)))
    refine eH ?_;refine aD ?_;go_wp2_with fail;go_ret;refine⟨false,rfl,⟨fun h=>(by cases h),fun h=>?_⟩,hb.drew⟩;have h1:=HE.out;rw [h,HD.out]at h1;injection h1 with h1;exact(HX.out (by rw [h1])).elim
  ·have f1:(e.name.toList==d.name.toList)=false:=by simp [q1]
   have HX:=V (show e.name.toList≠d.name.toList from q1);clear q1;go_wp2_with fail;refine ed (sK b off b2 KM k e d) (up 0 9 []) (by kernel_rfl) (by kernel_rfl) CC.out ?_;iterate 8 (first | (apply sk rfl rfl;simp only [pt]) | (apply dT rfl rfl rfl;·(rintro w' ⟨⟨t0,t1⟩,t2,t3⟩;go_wp2;exact⟨rfl,rfl,rfl⟩)))
   iterate 1 (first | (apply sk rfl rfl;simp only [pt]) | (apply dT rfl rfl rfl;·(rintro w' ⟨⟨t0,t1⟩,t2,t3⟩;go_wp2;exact⟨rfl,rfl,rfl⟩)))
   refine eH ?_;refine aD ?_;go_wp2_with fail;go_ret;refine⟨false,rfl,⟨fun h=>(by cases h),fun h=>?_⟩,hb.drew⟩;have h1:=HE.out;rw [h,HD.out]at h1;injection h1 with h1;exact(HX.out (by rw [h1])).elim
theorem kx (w:World) (xs ys:Array Value) (t:TypeId):Below w.heap.size w ((w.alloc (.cells xs t)).alloc (.cells ys t))/\eE ((w.alloc (.cells xs t)).alloc (.cells ys t)) w.heap.size xs t/\eE ((w.alloc (.cells xs t)).alloc (.cells ys t)) (w.heap.size+1) ys t:=by
 refine⟨((an w.heap.size w).alloc (ag _) _).alloc (by simp) _,(eE.new w xs t).alloc _,?_⟩;have:=eE.new (w.alloc (.cells xs t)) ys t
 rwa [aE]at this
def qM (p:Prop) (w:World) (e:Ending) (w':World):Prop:=∃r:Bool,e= .returned (.bool r)/\(r=true↔p)/\Below w.heap.size w w'
theorem yK (c d:eK) (u x:Value) (w:World) (hu:ee 1 eZ w u c.l) (hx:ee 1 eZ w x d.l):
  Calls prog 308 #[.agg #[.int .i64 c.op, .int .i64 c.a, .int .i64 c.b,u], .agg #[.int .i64 d.op, .int .i64 d.a, .int .i64 d.b,x]] w (qM (c=d) w):=by
 have HU:=V hu;have Kv:=V hx;obtain⟨au,Kr,rfl,_,_,_⟩:=hu;obtain⟨ax,Lr,rfl,_,_,_⟩:=hx;obtain⟨hb,LI,MX⟩:=kx w #[.int .i64 c.op, .int .i64 c.a, .int .i64 c.b, .slice au c.l.length Kr] #[.int .i64 d.op, .int .i64 d.a, .int .i64 d.b, .slice ax d.l.length Lr] 27;have Kz:=V hb;clear hb LI MX;go_enter func308,ntmps308;by_cases q1:c.op=d.op;rotate_left
 ·have f1:=dQ q1
  have HX:=V (show c.op≠d.op from q1);clear q1;go_wp2_with fail;go_ret;exact⟨false,rfl,⟨fun h=>(by cases h),fun h=>(HX.out (by rw [h])).elim⟩,Kz.out⟩
 have f1:=eF q1;have Q1:=V q1;clear q1;by_cases q2:c.a=d.a;rotate_left
 ·have f2:=dQ q2
  have HX:=V (show c.a≠d.a from q2);clear q2;go_wp2_with fail;go_ret;exact⟨false,rfl,⟨fun h=>(by cases h),fun h=>(HX.out (by rw [h])).elim⟩,Kz.out⟩
 have f2:=eF q2;have Q2:=V q2;clear q2;by_cases q3:c.b=d.b;rotate_left
 ·have f3:=dQ q3
  have HX:=V (show c.b≠d.b from q3);clear q3;go_wp2_with fail;go_ret;exact⟨false,rfl,⟨fun h=>(by cases h),fun h=>(HX.out (by rw [h])).elim⟩,Kz.out⟩
 have f3:=eF q3;have Q3:=V q3;clear q3;go_wp2_with fail;refine(kU _ _ c.l d.l _ (HU.out.below Kz.out) (Kv.out.below Kz.out)).mono ?_;rintro y w2 ⟨r,rfl,hr,Kl⟩;have KR:=V (Kz.out.trans (Kl.mono Kz.out.size));have MM:=V hr;clear hr Kl;go_wp2_with fail;go_ret;refine⟨r,rfl,⟨fun h=>?_,fun h=>MM.out.2 (by rw [h])⟩,KR.out⟩;have g:=MM.out.1 h;obtain⟨p0,p1,p2,p3⟩:=c;obtain⟨s0,s1,s2,s3⟩:=d;have g1:=Q1.out;have g2:=Q2.out;have g3:=Q3.out;simp only at g g1 g2 g3;rw [g,g1,g2,g3]
theorem yE (va vb:Value) (la lb:List eK) (w:World) (ha:ea 4 pJ gJ w va la) (hb:ea 4 pJ gJ w vb lb):
  Calls prog 307 #[va,vb, .func (.func 308) #[] #[]] w (oZ la lb w):=by
 have HA:=V ha;have HB:=V hb;obtain⟨a,cap,rfl,h1,h2⟩:=ha.slice;obtain⟨a2,Kn,rfl,h3,h4⟩:=hb.slice;clear ha hb;by_cases hlen:la.length=lb.length;rotate_left
 ·have f1:(((la.length:Int)) !=((lb.length:Int)))=true:=fc (by omega)
  have HL:=V hlen;clear hlen;go_enter func307,ntmps307;go_wp2_with fail;go_ret;exact⟨false,rfl,⟨fun h=>(by cases h),fun h=>absurd (cW List.length h) HL.out⟩,an _ _⟩
 rw [<- hlen]at h3 HB⊢;have HL:=V hlen;clear hlen;go_enter func307,ntmps307;go_wp2_with fail;refine ez (fun a' w'=>∃(k:Nat),a'=fr (.slice a la.length cap:: .slice a2 la.length Kn:: .func (.func 308) #[] #[]::gs a' 3 12 (.slice a la.length cap:: .int .i64 la.length:: .int .i64 k::gs a' 18 14 []))/\yG la lb w w' k) (fun a' _=>(la.length - (intOf (a'.tmps.getD 17 undef)).toNat)) ?_ ?_
 ·exact⟨0,rfl,by omega,rfl,an _ _⟩
 ·skip
  rintro R a' w1 ⟨k,Kk,hJ⟩ HR;dsimp only [fr,gs]at Kk;generalize slot a'=f at Kk;subst Kk;obtain⟨hk,NV,hb⟩:=hJ;have HT:=V NV;clear NV;by_cases Lg:k < la.length;rotate_left
  ·obtain rfl:k=la.length:=by omega
   go_wp2_with fail;go_ret;refine⟨true,rfl,⟨fun _=>?_,fun _=>rfl⟩,hb⟩;have:=HT.out;rw [aU,HL.out,aU]at this;exact this
  obtain⟨c,he⟩:∃e,la[k]?=some e:=⟨_,aq Lg⟩;obtain⟨d,hd⟩:∃d,lb[k]?=some d:=⟨_,aq (by have:=HL.out;omega)⟩;obtain⟨b,off,u,rfl,Kq,hc,hu⟩:=ea.get (ea.ext HA.out (Ext.dV hb) (fun _ _ h=>gJ.ext h (Ext.dV hb))) he;obtain⟨b2,KM,u2,rfl,L4,La,MD⟩:=ea.get (ea.ext HB.out (Ext.dV hb) (fun _ _ h=>gJ.ext h (Ext.dV hb))) hd;have HU:=V hu.1;have Ow:=V MD.1;obtain⟨au,cu,hue,_,_,_⟩:=id HU.out;obtain⟨Po,cu2,hue2,_,_,_⟩:=id Ow.out;subst hue hue2;have c0:=hc 0 _ rfl;have c1:=hc 1 _ rfl;have c2:=hc 2 _ rfl;have c3:=hc 3 _ rfl;have d0:=La 0 _ rfl;have d1:=La 1 _ rfl;have d2:=La 2 _ rfl;have d3:=La 3 _ rfl;rw [aK]at c0 d0;clear hc La hu MD;have HE:=V he;have HD:=V hd;clear he hd;obtain⟨LQ,-,-⟩:=kx w1 #[.int .i64 c.op, .int .i64 c.a, .int .i64 c.b, .slice au c.l.length cu] #[.int .i64 d.op, .int .i64 d.a, .int .i64 d.b, .slice Po d.l.length cu2] 27;have Mv:=(an w1.heap.size w1).alloc (ag _) (.cells #[.int .i64 c.op, .int .i64 c.a, .int .i64 c.b, .slice au c.l.length cu] 27);have e0:=(Mv.cell (p:=⟨b2,KM+k*4,none⟩) L4).trans d0;have e1:=(Mv.cell (p:=⟨b2,KM+k*4+1,none⟩) L4).trans d1;have e2:=(Mv.cell (p:=⟨b2,KM+k*4+2,none⟩) L4).trans d2;have e3:=(Mv.cell (p:=⟨b2,KM+k*4+3,none⟩) L4).trans d3;go_wp2_with fail;refine(yK c d _ _ _ (HU.out.below LQ) (Ow.out.below LQ)).mono ?_;rintro y w2 ⟨r,rfl,hr,Kl⟩;replace hb:=hb.trans ((LQ.trans (Kl.mono LQ.size)).mono hb.size);have MM:=V hr;have HBR:=V hb;clear hr Kl LQ Mv hb;clear c0 d0 e0 c1 d1 e1 c2 d2 e2 c3 d3 e3;cases r with
  | false=>
   go_wp2_with fail;go_ret;refine⟨false,rfl,⟨fun h=>(by cases h),fun h=>?_⟩,HBR.out⟩;have h1:=HE.out;rw [h,HD.out]at h1;injection h1 with h1;exact absurd (MM.out.2 h1.symm) (by simp)
  | true=>
   go_wp2_with fail;refine HR.out _ _ ⟨k+1,rfl,by omega,?_,HBR.out⟩ ?_
   ·rw [aQ,aQ,HT.out,HE.out,HD.out,MM.out.1 (by simp)]
   ·simp [intOf]
    omega
theorem Ac (c d:gy) (u v u2 v2:Value) (w:World) (hu:ee 1 eZ w u c.params) (hv:ee 1 eZ w v c.results) (MD:ee 1 eZ w u2 d.params) (LW:ee 1 eZ w v2 d.results):
  Calls prog 302 #[.agg #[u,v], .agg #[u2,v2]] w (qM (c=d) w):=by
 have HU:=V hu;have HV:=V hv;have Ow:=V MD;have Nr:=V LW;obtain⟨au,cu,rfl⟩:∃a k,u= .slice a c.params.length k:=(by obtain⟨a,k,h,_⟩:=hu;exact⟨a,k,h⟩);obtain⟨av,cv,rfl⟩:∃a k,v= .slice a c.results.length k:=(by obtain⟨a,k,h,_⟩:=hv;exact⟨a,k,h⟩);obtain⟨Po,cu2,rfl⟩:∃a k,u2= .slice a d.params.length k:=(by obtain⟨a,k,h,_⟩:=MD;exact⟨a,k,h⟩);obtain⟨O7,cv2,rfl⟩:∃a k,v2= .slice a d.results.length k:=(by obtain⟨a,k,h,_⟩:=LW;exact⟨a,k,h⟩);obtain⟨hb,LI,MX⟩:=kx w #[.slice au c.params.length cu, .slice av c.results.length cv] #[.slice Po d.params.length cu2, .slice O7 d.results.length cv2] 109;have Kz:=V hb;have Lh:=V LI;have LB:=V MX;clear hb LI MX hu hv MD LW;go_enter func302,ntmps302;go_wp2_with fail;refine(kU _ _ c.params d.params _ (HU.out.below Kz.out) (Ow.out.below Kz.out)).mono ?_;rintro y w2 ⟨r,rfl,hr,Kl⟩;have KR:=V (Kz.out.trans (Kl.mono Kz.out.size));have x1:=(Lh.out.below Kl Lh.out.lt).two.2.1;have y1:=(LB.out.below Kl LB.out.lt).two.2.1;have MM:=V hr;clear hr Kl;cases r with
 | false=>
  go_wp2_with fail;go_ret;refine⟨false,rfl,⟨fun h=>(by cases h),fun h=>?_⟩,KR.out⟩;have g:=MM.out.2 (by rw [h]);simp at g
 | true=>
  go_wp2_with fail;refine(kU _ _ c.results d.results _ (HV.out.below KR.out) (Nr.out.below KR.out)).mono ?_;rintro y w3 ⟨r2,rfl,Np,K4⟩;have QG:=V (KR.out.trans (K4.mono KR.out.size));have Of:=V Np;clear Np K4 x1 y1;go_wp2_with fail;go_ret;refine⟨r2,rfl,⟨fun h=>?_,fun h=>Of.out.2 (by rw [h])⟩,QG.out⟩;have g:=MM.out.1 (by simp);have g':=Of.out.1 h;obtain⟨p0,p1⟩:=c;obtain⟨s0,s1⟩:=d;simp only at g g';rw [g,g']
theorem AQ (c d:gN) (u v u2 v2:Value) (w:World) (hu:ee 1 eZ w u c.locals) (hv:gd w v c.body) (MD:ee 1 eZ w u2 d.locals) (LW:gd w v2 d.body):
  Calls prog 306 #[.agg #[u,v], .agg #[u2,v2]] w (qM (c=d) w):=by
 have HU:=V hu;have HV:=V hv;have Ow:=V MD;have Nr:=V LW;obtain⟨au,cu,rfl⟩:∃a k,u= .slice a c.locals.length k:=(by obtain⟨a,k,h,_⟩:=hu;exact⟨a,k,h⟩);obtain⟨av,cv,rfl⟩:∃a k,v= .slice a c.body.length k:=(by obtain⟨a,k,h,_⟩:=ea.slice hv;exact⟨a,k,h⟩);obtain⟨Po,cu2,rfl⟩:∃a k,u2= .slice a d.locals.length k:=(by obtain⟨a,k,h,_⟩:=MD;exact⟨a,k,h⟩);obtain⟨O7,cv2,rfl⟩:∃a k,v2= .slice a d.body.length k:=(by obtain⟨a,k,h,_⟩:=ea.slice LW;exact⟨a,k,h⟩);obtain⟨hb,LI,MX⟩:=kx w #[.slice au c.locals.length cu, .slice av c.body.length cv] #[.slice Po d.locals.length cu2, .slice O7 d.body.length cv2] 69;have Kz:=V hb;have Lh:=V LI;have LB:=V MX;clear hb LI MX hu hv MD LW;go_enter func306,ntmps306;go_wp2_with fail;refine(kU _ _ c.locals d.locals _ (HU.out.below Kz.out) (Ow.out.below Kz.out)).mono ?_;rintro y w2 ⟨r,rfl,hr,Kl⟩;have KR:=V (Kz.out.trans (Kl.mono Kz.out.size));have x1:=(Lh.out.below Kl Lh.out.lt).two.2.1;have y1:=(LB.out.below Kl LB.out.lt).two.2.1;have MM:=V hr;clear hr Kl;cases r with
 | false=>
  go_wp2_with fail;go_ret;refine⟨false,rfl,⟨fun h=>(by cases h),fun h=>?_⟩,KR.out⟩;have g:=MM.out.2 (by rw [h]);simp at g
 | true=>
  go_wp2_with fail;refine(yE _ _ c.body d.body _ (HV.out.below KR.out) (Nr.out.below KR.out)).mono ?_;rintro y w3 ⟨r2,rfl,Np,K4⟩;have QG:=V (KR.out.trans (K4.mono KR.out.size));have Of:=V Np;clear Np K4 x1 y1;go_wp2_with fail;go_ret;refine⟨r2,rfl,⟨fun h=>?_,fun h=>Of.out.2 (by rw [h])⟩,QG.out⟩;have g:=MM.out.1 (by simp);have g':=Of.out.1 h;obtain⟨p0,p1⟩:=c;obtain⟨s0,s1⟩:=d;simp only at g g';rw [g,g']
theorem sq (va vb:Value) (la lb:List gy) (w:World) (ha:ea 2 ru gG w va la) (hb:ea 2 ru gG w vb lb):
  Calls prog 301 #[va,vb, .func (.func 302) #[] #[]] w (oZ la lb w):=by
 have HA:=V ha;have HB:=V hb;obtain⟨a,cap,rfl,h1,h2⟩:=ha.slice;obtain⟨a2,Kn,rfl,h3,h4⟩:=hb.slice;clear ha hb;by_cases hlen:la.length=lb.length;rotate_left
 ·have f1:(((la.length:Int)) !=((lb.length:Int)))=true:=fc (by omega)
  have HL:=V hlen;clear hlen;go_enter func301,ntmps301;go_wp2_with fail;go_ret;exact⟨false,rfl,⟨fun h=>(by cases h),fun h=>absurd (cW List.length h) HL.out⟩,an _ _⟩
 rw [<- hlen]at h3 HB⊢;have HL:=V hlen;clear hlen;go_enter func301,ntmps301;go_wp2_with fail;refine ez (fun a' w'=>∃(k:Nat),a'=fr (.slice a la.length cap:: .slice a2 la.length Kn:: .func (.func 302) #[] #[]::gs a' 3 12 (.slice a la.length cap:: .int .i64 la.length:: .int .i64 k::gs a' 18 14 []))/\yG la lb w w' k) (fun a' _=>(la.length - (intOf (a'.tmps.getD 17 undef)).toNat)) ?_ ?_
 ·exact⟨0,rfl,by omega,rfl,an _ _⟩
 ·skip
  rintro R a' w1 ⟨k,Kk,hJ⟩ HR;dsimp only [fr,gs]at Kk;generalize slot a'=f at Kk;subst Kk;obtain⟨hk,NV,hb⟩:=hJ;have HT:=V NV;clear NV;by_cases Lg:k < la.length;rotate_left
  ·obtain rfl:k=la.length:=by omega
   go_wp2_with fail;go_ret;refine⟨true,rfl,⟨fun _=>?_,fun _=>rfl⟩,hb⟩;have:=HT.out;rw [aU,HL.out,aU]at this;exact this
  obtain⟨c,he⟩:∃e,la[k]?=some e:=⟨_,aq Lg⟩;obtain⟨d,hd⟩:∃d,lb[k]?=some d:=⟨_,aq (by have:=HL.out;omega)⟩;obtain⟨b,off,u,rfl,Kq,hc,hu⟩:=ea.get (ea.ext HA.out (Ext.dV hb) (fun _ _ h=>gG.ext h (Ext.dV hb))) he;obtain⟨b2,KM,u2,rfl,L4,La,MD⟩:=ea.get (ea.ext HB.out (Ext.dV hb) (fun _ _ h=>gG.ext h (Ext.dV hb))) hd;obtain⟨u,v⟩:=u;obtain⟨u2,v2⟩:=u2;have HU:=V hu.1.1;have HV:=V hu.1.2;have Ow:=V MD.1.1;have Nr:=V MD.1.2;simp only at HU HV Ow Nr;obtain⟨au,cu,rfl⟩:∃a k,u= .slice a c.params.length k:=(by obtain⟨a,k,h,_⟩:=HU.out;exact⟨a,k,h⟩);obtain⟨av,cv,rfl⟩:∃a k,v= .slice a c.results.length k:=(by obtain⟨a,k,h,_⟩:=HV.out;exact⟨a,k,h⟩);obtain⟨Po,cu2,rfl⟩:∃a k,u2= .slice a d.params.length k:=(by obtain⟨a,k,h,_⟩:=Ow.out;exact⟨a,k,h⟩);obtain⟨O7,cv2,rfl⟩:∃a k,v2= .slice a d.results.length k:=(by obtain⟨a,k,h,_⟩:=Nr.out;exact⟨a,k,h⟩);have c0:=hc 0 _ rfl;have c1:=hc 1 _ rfl;have d0:=La 0 _ rfl;have d1:=La 1 _ rfl;rw [aK]at c0 d0;clear hc La hu MD;have HE:=V he;have HD:=V hd;clear he hd;obtain⟨LQ,-,-⟩:=kx w1 #[.slice au c.params.length cu, .slice av c.results.length cv] #[.slice Po d.params.length cu2, .slice O7 d.results.length cv2] 109;have Mv:=(an w1.heap.size w1).alloc (ag _) (.cells #[.slice au c.params.length cu, .slice av c.results.length cv] 109);have e0:=(Mv.cell (p:=⟨b2,KM+k*2,none⟩) L4).trans d0;have e1:=(Mv.cell (p:=⟨b2,KM+k*2+1,none⟩) L4).trans d1;go_wp2_with fail;refine(Ac c d _ _ _ _ _ (HU.out.below LQ) (HV.out.below LQ) (Ow.out.below LQ) (Nr.out.below LQ)).mono ?_;rintro y w2 ⟨r,rfl,hr,Kl⟩;replace hb:=hb.trans ((LQ.trans (Kl.mono LQ.size)).mono hb.size);have MM:=V hr;have HBR:=V hb;clear hr Kl LQ Mv hb;clear c0 d0 e0 c1 d1 e1;cases r with
  | false=>
   go_wp2_with fail;go_ret;refine⟨false,rfl,⟨fun h=>(by cases h),fun h=>?_⟩,HBR.out⟩;have h1:=HE.out;rw [h,HD.out]at h1;injection h1 with h1;exact absurd (MM.out.2 h1.symm) (by simp)
  | true=>
   go_wp2_with fail;refine HR.out _ _ ⟨k+1,rfl,by omega,?_,HBR.out⟩ ?_
   ·rw [aQ,aQ,HT.out,HE.out,HD.out,MM.out.1 (by simp)]
   ·simp [intOf]
    omega
theorem sn (va vb:Value) (la lb:List gN) (w:World) (ha:ea 2 rV gD w va la) (hb:ea 2 rV gD w vb lb):
  Calls prog 305 #[va,vb, .func (.func 306) #[] #[]] w (oZ la lb w):=by
 have HA:=V ha;have HB:=V hb;obtain⟨a,cap,rfl,h1,h2⟩:=ha.slice;obtain⟨a2,Kn,rfl,h3,h4⟩:=hb.slice;clear ha hb;by_cases hlen:la.length=lb.length;rotate_left
 ·have f1:(((la.length:Int)) !=((lb.length:Int)))=true:=fc (by omega)
  have HL:=V hlen;clear hlen;go_enter func305,ntmps305;go_wp2_with fail;go_ret;exact⟨false,rfl,⟨fun h=>(by cases h),fun h=>absurd (cW List.length h) HL.out⟩,an _ _⟩
 rw [<- hlen]at h3 HB⊢;have HL:=V hlen;clear hlen;go_enter func305,ntmps305;go_wp2_with fail;refine ez (fun a' w'=>∃(k:Nat),a'=fr (.slice a la.length cap:: .slice a2 la.length Kn:: .func (.func 306) #[] #[]::gs a' 3 12 (.slice a la.length cap:: .int .i64 la.length:: .int .i64 k::gs a' 18 14 []))/\yG la lb w w' k) (fun a' _=>(la.length - (intOf (a'.tmps.getD 17 undef)).toNat)) ?_ ?_
 ·exact⟨0,rfl,by omega,rfl,an _ _⟩
 ·skip
  rintro R a' w1 ⟨k,Kk,hJ⟩ HR;dsimp only [fr,gs]at Kk;generalize slot a'=f at Kk;subst Kk;obtain⟨hk,NV,hb⟩:=hJ;have HT:=V NV;clear NV;by_cases Lg:k < la.length;rotate_left
  ·obtain rfl:k=la.length:=by omega
   go_wp2_with fail;go_ret;refine⟨true,rfl,⟨fun _=>?_,fun _=>rfl⟩,hb⟩;have:=HT.out;rw [aU,HL.out,aU]at this;exact this
  obtain⟨c,he⟩:∃e,la[k]?=some e:=⟨_,aq Lg⟩;obtain⟨d,hd⟩:∃d,lb[k]?=some d:=⟨_,aq (by have:=HL.out;omega)⟩;obtain⟨b,off,u,rfl,Kq,hc,hu⟩:=ea.get (ea.ext HA.out (Ext.dV hb) (fun _ _ h=>gD.ext h (Ext.dV hb))) he;obtain⟨b2,KM,u2,rfl,L4,La,MD⟩:=ea.get (ea.ext HB.out (Ext.dV hb) (fun _ _ h=>gD.ext h (Ext.dV hb))) hd;obtain⟨u,v⟩:=u;obtain⟨u2,v2⟩:=u2;have HU:=V hu.1.1;have HV:=V hu.1.2;have Ow:=V MD.1.1;have Nr:=V MD.1.2;simp only at HU HV Ow Nr;obtain⟨au,cu,rfl⟩:∃a k,u= .slice a c.locals.length k:=(by obtain⟨a,k,h,_⟩:=HU.out;exact⟨a,k,h⟩);obtain⟨av,cv,rfl⟩:∃a k,v= .slice a c.body.length k:=(by obtain⟨a,k,h,_⟩:=ea.slice HV.out;exact⟨a,k,h⟩);obtain⟨Po,cu2,rfl⟩:∃a k,u2= .slice a d.locals.length k:=(by obtain⟨a,k,h,_⟩:=Ow.out;exact⟨a,k,h⟩);obtain⟨O7,cv2,rfl⟩:∃a k,v2= .slice a d.body.length k:=(by obtain⟨a,k,h,_⟩:=ea.slice Nr.out;exact⟨a,k,h⟩);have c0:=hc 0 _ rfl;have c1:=hc 1 _ rfl;have d0:=La 0 _ rfl;have d1:=La 1 _ rfl;rw [aK]at c0 d0;clear hc La hu MD;have HE:=V he;have HD:=V hd;clear he hd;obtain⟨LQ,-,-⟩:=kx w1 #[.slice au c.locals.length cu, .slice av c.body.length cv] #[.slice Po d.locals.length cu2, .slice O7 d.body.length cv2] 69;have Mv:=(an w1.heap.size w1).alloc (ag _) (.cells #[.slice au c.locals.length cu, .slice av c.body.length cv] 69);have e0:=(Mv.cell (p:=⟨b2,KM+k*2,none⟩) L4).trans d0;have e1:=(Mv.cell (p:=⟨b2,KM+k*2+1,none⟩) L4).trans d1;go_wp2_with fail;refine(AQ c d _ _ _ _ _ (HU.out.below LQ) (HV.out.below LQ) (Ow.out.below LQ) (Nr.out.below LQ)).mono ?_;rintro y w2 ⟨r,rfl,hr,Kl⟩;replace hb:=hb.trans ((LQ.trans (Kl.mono LQ.size)).mono hb.size);have MM:=V hr;have HBR:=V hb;clear hr Kl LQ Mv hb;clear c0 d0 e0 c1 d1 e1;cases r with
  | false=>
   go_wp2_with fail;go_ret;refine⟨false,rfl,⟨fun h=>(by cases h),fun h=>?_⟩,HBR.out⟩;have h1:=HE.out;rw [h,HD.out]at h1;injection h1 with h1;exact absurd (MM.out.2 h1.symm) (by simp)
  | true=>
   go_wp2_with fail;refine HR.out _ _ ⟨k+1,rfl,by omega,?_,HBR.out⟩ ?_
   ·rw [aQ,aQ,HT.out,HE.out,HD.out,MM.out.1 (by simp)]
   ·simp [intOf]
    omega
theorem yt (a a2:Option Addr) (c c2:Nat) (w:World):Calls prog 303 #[.slice a 0 c, .slice a2 0 c2, .func (.func 304) #[] #[]] w (qM True w):=by
 go_enter func303,ntmps303;go_wp2_with fail;refine cU 1 ?_;rw [cO];go_wp2_with fail;go_ret;exact⟨true,rfl,by simp,an _ _⟩
theorem yq (a a2:Option Addr) (c c2:Nat) (w:World):Calls prog 309 #[.slice a 0 c, .slice a2 0 c2, .func (.func 310) #[] #[]] w (qM True w):=by
 go_enter func309,ntmps309;go_wp2_with fail;refine cU 1 ?_;rw [cO];go_wp2_with fail;go_ret;exact⟨true,rfl,by simp,an _ _⟩
theorem DZ (a a2:Option Addr) (c c2:Nat) (w:World):Calls prog 312 #[.slice a 0 c, .slice a2 0 c2] w (qM True w):=by
 go_enter func312,ntmps312;go_wp2_with fail;refine cU 1 ?_;rw [cO];go_wp2_with fail;go_ret;exact⟨true,rfl,by simp,an _ _⟩
theorem DO (a a2:Option Addr) (c c2:Nat) (w:World):Calls prog 313 #[.slice a 0 c, .slice a2 0 c2] w (qM True w):=by
 go_enter func313,ntmps313;go_wp2_with fail;refine cU 1 ?_;rw [cO];go_wp2_with fail;go_ret;exact⟨true,rfl,by simp,an _ _⟩
def ew.Cu (m:ew):Prop:=m.imports=[]/\m.globals=[]/\m.elems=[]/\m.eA=[]
theorem Eh (m n:ew) (u v:eB) (w:World) (hm:ej w u m) (hm2:ej w v n) (hp:m.Cu) (Pa:n.Cu) (ht:m.types≠n.types):
  Calls prog 300 #[.agg (u.cells m), .agg (v.cells n)] w (qM False w):=by
 have HT:=V ht;clear ht;have HI:=V hm;have Nq:=V hm2;have HP:=V hp;have HP2:=V Pa;have No:m.imports.length=0:=by rw [hp.1];rfl
 have hg0:m.globals.length=0:=by rw [hp.2.1];rfl
 have he0:m.elems.length=0:=by rw [hp.2.2.1];rfl
 have hd0:m.eA.length=0:=by rw [hp.2.2.2];rfl
 have hi2:n.imports.length=0:=by rw [Pa.1];rfl
 have MQ:n.globals.length=0:=by rw [Pa.2.1];rfl
 have Ml:n.elems.length=0:=by rw [Pa.2.2.1];rfl
 have P8:n.eA.length=0:=by rw [Pa.2.2.2];rfl
 obtain⟨a0,c0,a1,c1,a2,c2,a3,c3,a4,c4,a5,c5,a6,c6,a7,c7,rfl⟩:=ej.open hm;obtain⟨b0,d0,b1,d1,b2,d2,b3,d3,b4,d4,b5,d5,b6,d6,b7,d7,rfl⟩:=ej.open hm2;clear hm hm2 hp Pa;simp only [eB.cells,No,hg0,he0,hd0,hi2,MQ,Ml,P8]at*;obtain⟨hb,LI,MX⟩:=kx w #[.slice a0 m.types.length c0, .slice a1 0 c1, .slice a2 m.funcs.length c2, .bool m.table.has, .int .i64 m.table.min, .int .i64 m.table.max, .bool m.mem.has, .int .i64 m.mem.min, .int .i64 m.mem.max, .slice a3 0 c3, .slice a4 m.dY.length c4, .slice a5 0 c5, .slice a6 m.eh.length c6, .slice a7 0 c7] #[.slice b0 n.types.length d0, .slice b1 0 d1, .slice b2 n.funcs.length d2, .bool n.table.has, .int .i64 n.table.min, .int .i64 n.table.max, .bool n.mem.has, .int .i64 n.mem.min, .int .i64 n.mem.max, .slice b3 0 d3, .slice b4 n.dY.length d4, .slice b5 0 d5, .slice b6 n.eh.length d6, .slice b7 0 d7] 62;have Kz:=V hb;have Lh:=V LI;have LB:=V MX;clear hb LI MX No hg0 he0 hd0 hi2 MQ Ml P8;go_enter func300,ntmps300;go_wp2_with fail;refine(sq (.slice a0 m.types.length c0) (.slice b0 n.types.length d0) m.types n.types _ (ea.below HI.out.1 Kz.out (fun _ _ h=>h.below Kz.out)) (ea.below Nq.out.1 Kz.out (fun _ _ h=>h.below Kz.out))).mono ?_;rintro y w1 ⟨r1,rfl,hr,hb⟩;have R1:=V hr;have Lh:=V (Lh.out.below hb Lh.out.lt);have LB:=V (LB.out.below hb LB.out.lt);have Kz:=V (Kz.out.trans (hb.mono Kz.out.size));clear hr hb;obtain⟨g0,g1,g2,g3,g4,g5,g6,g7,g8,g9,KY,KZ,K0,K3⟩:=Lh.out.mod;obtain⟨k0,k1,k2,k3,k4,k5,k6,k7,k8,k9,Oi,Oj,Ok,Ol⟩:=LB.out.mod;go_wp2_with fail;refine(yt _ _ _ _ _).mono ?_;clear g0 g1 g2 g3 g4 g5 g6 g7 g8 g9 KY KZ K0 K3 k0 k1 k2 k3 k4 k5 k6 k7 k8 k9 Oi Oj Ok Ol;rintro y w2 ⟨r2,rfl,hr,hb⟩;have R2:=V hr;have Lh:=V (Lh.out.below hb Lh.out.lt);have LB:=V (LB.out.below hb LB.out.lt);have Kz:=V (Kz.out.trans (hb.mono Kz.out.size));clear hr hb;obtain⟨g0,g1,g2,g3,g4,g5,g6,g7,g8,g9,KY,KZ,K0,K3⟩:=Lh.out.mod;obtain⟨k0,k1,k2,k3,k4,k5,k6,k7,k8,k9,Oi,Oj,Ok,Ol⟩:=LB.out.mod;obtain rfl:=R2.out.2 trivial;go_wp2_with fail;refine(sn (.slice a6 m.eh.length c6) (.slice b6 n.eh.length d6) m.eh n.eh _ (ea.below HI.out.2.2.2.2.2.2.1 Kz.out (fun _ _ h=>h.below Kz.out)) (ea.below Nq.out.2.2.2.2.2.2.1 Kz.out (fun _ _ h=>h.below Kz.out))).mono ?_;clear g0 g1 g2 g3 g4 g5 g6 g7 g8 g9 KY KZ K0 K3 k0 k1 k2 k3 k4 k5 k6 k7 k8 k9 Oi Oj Ok Ol;rintro y w3 ⟨r3,rfl,hr,hb⟩;have R3:=V hr;have Lh:=V (Lh.out.below hb Lh.out.lt);have LB:=V (LB.out.below hb LB.out.lt);have Kz:=V (Kz.out.trans (hb.mono Kz.out.size));clear hr hb;obtain⟨g0,g1,g2,g3,g4,g5,g6,g7,g8,g9,KY,KZ,K0,K3⟩:=Lh.out.mod;obtain⟨k0,k1,k2,k3,k4,k5,k6,k7,k8,k9,Oi,Oj,Ok,Ol⟩:=LB.out.mod;go_wp2_with fail;refine(yq _ _ _ _ _).mono ?_;clear g0 g1 g2 g3 g4 g5 g6 g7 g8 g9 KY KZ K0 K3 k0 k1 k2 k3 k4 k5 k6 k7 k8 k9 Oi Oj Ok Ol;rintro y w4 ⟨r4,rfl,hr,hb⟩;have R4:=V hr;have Lh:=V (Lh.out.below hb Lh.out.lt);have LB:=V (LB.out.below hb LB.out.lt);have Kz:=V (Kz.out.trans (hb.mono Kz.out.size));clear hr hb;obtain⟨g0,g1,g2,g3,g4,g5,g6,g7,g8,g9,KY,KZ,K0,K3⟩:=Lh.out.mod;obtain⟨k0,k1,k2,k3,k4,k5,k6,k7,k8,k9,Oi,Oj,Ok,Ol⟩:=LB.out.mod;obtain rfl:=R4.out.2 trivial;obtain rfl:r1=false:=by
  cases r1 with
  | true=>exact absurd (R1.out.1 rfl) HT.out
  | false=>rfl
 clear g0 g1 g2 g3 g4 g5 g6 g7 g8 g9 KY KZ K0 K3 k0 k1 k2 k3 k4 k5 k6 k7 k8 k9 Oi Oj Ok Ol;obtain⟨g0,g1,g2,g3,g4,g5,g6,g7,g8,g9,KY,KZ,K0,K3⟩:=Lh.out.mod;obtain⟨k0,k1,k2,k3,k4,k5,k6,k7,k8,k9,Oi,Oj,Ok,Ol⟩:=LB.out.mod;go_wp2_with fail;go_ret;exact⟨false,rfl,by simp,Kz.out⟩
theorem GA (m:ew) (u v:eB) (w:World) (hm:ej w u m) (hm2:ej w v m) (hp:m.Cu) (Pa:m.Cu):
  Calls prog 300 #[.agg (u.cells m), .agg (v.cells m)] w (qM True w):=by
 have HI:=V hm;have Nq:=V hm2;have HP:=V hp;have HP2:=V Pa;have No:m.imports.length=0:=by rw [hp.1];rfl
 have hg0:m.globals.length=0:=by rw [hp.2.1];rfl
 have he0:m.elems.length=0:=by rw [hp.2.2.1];rfl
 have hd0:m.eA.length=0:=by rw [hp.2.2.2];rfl
 have hi2:m.imports.length=0:=by rw [Pa.1];rfl
 have MQ:m.globals.length=0:=by rw [Pa.2.1];rfl
 have Ml:m.elems.length=0:=by rw [Pa.2.2.1];rfl
 have P8:m.eA.length=0:=by rw [Pa.2.2.2];rfl
 obtain⟨a0,c0,a1,c1,a2,c2,a3,c3,a4,c4,a5,c5,a6,c6,a7,c7,rfl⟩:=ej.open hm;obtain⟨b0,d0,b1,d1,b2,d2,b3,d3,b4,d4,b5,d5,b6,d6,b7,d7,rfl⟩:=ej.open hm2;clear hm hm2 hp Pa;simp only [eB.cells,No,hg0,he0,hd0]at*;obtain⟨hb,LI,MX⟩:=kx w #[.slice a0 m.types.length c0, .slice a1 0 c1, .slice a2 m.funcs.length c2, .bool m.table.has, .int .i64 m.table.min, .int .i64 m.table.max, .bool m.mem.has, .int .i64 m.mem.min, .int .i64 m.mem.max, .slice a3 0 c3, .slice a4 m.dY.length c4, .slice a5 0 c5, .slice a6 m.eh.length c6, .slice a7 0 c7] #[.slice b0 m.types.length d0, .slice b1 0 d1, .slice b2 m.funcs.length d2, .bool m.table.has, .int .i64 m.table.min, .int .i64 m.table.max, .bool m.mem.has, .int .i64 m.mem.min, .int .i64 m.mem.max, .slice b3 0 d3, .slice b4 m.dY.length d4, .slice b5 0 d5, .slice b6 m.eh.length d6, .slice b7 0 d7] 62;have Kz:=V hb;have Lh:=V LI;have LB:=V MX;clear hb LI MX No hg0 he0 hd0 hi2 MQ Ml P8;go_enter func300,ntmps300;go_wp2_with fail;refine(sq (.slice a0 m.types.length c0) (.slice b0 m.types.length d0) m.types m.types _ (ea.below HI.out.1 Kz.out (fun _ _ h=>h.below Kz.out)) (ea.below Nq.out.1 Kz.out (fun _ _ h=>h.below Kz.out))).mono ?_;rintro y w1 ⟨r1,rfl,hr,hb⟩;have R1:=V hr;have Lh:=V (Lh.out.below hb Lh.out.lt);have LB:=V (LB.out.below hb LB.out.lt);have Kz:=V (Kz.out.trans (hb.mono Kz.out.size));clear hr hb;obtain⟨g0,g1,g2,g3,g4,g5,g6,g7,g8,g9,KY,KZ,K0,K3⟩:=Lh.out.mod;obtain⟨k0,k1,k2,k3,k4,k5,k6,k7,k8,k9,Oi,Oj,Ok,Ol⟩:=LB.out.mod;go_wp2_with fail;refine(yt _ _ _ _ _).mono ?_;clear g0 g1 g2 g3 g4 g5 g6 g7 g8 g9 KY KZ K0 K3 k0 k1 k2 k3 k4 k5 k6 k7 k8 k9 Oi Oj Ok Ol;rintro y w2 ⟨r2,rfl,hr,hb⟩;have R2:=V hr;have Lh:=V (Lh.out.below hb Lh.out.lt);have LB:=V (LB.out.below hb LB.out.lt);have Kz:=V (Kz.out.trans (hb.mono Kz.out.size));clear hr hb;obtain⟨g0,g1,g2,g3,g4,g5,g6,g7,g8,g9,KY,KZ,K0,K3⟩:=Lh.out.mod;obtain⟨k0,k1,k2,k3,k4,k5,k6,k7,k8,k9,Oi,Oj,Ok,Ol⟩:=LB.out.mod;obtain rfl:=R2.out.2 trivial;go_wp2_with fail;refine(sn (.slice a6 m.eh.length c6) (.slice b6 m.eh.length d6) m.eh m.eh _ (ea.below HI.out.2.2.2.2.2.2.1 Kz.out (fun _ _ h=>h.below Kz.out)) (ea.below Nq.out.2.2.2.2.2.2.1 Kz.out (fun _ _ h=>h.below Kz.out))).mono ?_;clear g0 g1 g2 g3 g4 g5 g6 g7 g8 g9 KY KZ K0 K3 k0 k1 k2 k3 k4 k5 k6 k7 k8 k9 Oi Oj Ok Ol;rintro y w3 ⟨r3,rfl,hr,hb⟩;have R3:=V hr;have Lh:=V (Lh.out.below hb Lh.out.lt);have LB:=V (LB.out.below hb LB.out.lt);have Kz:=V (Kz.out.trans (hb.mono Kz.out.size));clear hr hb;obtain⟨g0,g1,g2,g3,g4,g5,g6,g7,g8,g9,KY,KZ,K0,K3⟩:=Lh.out.mod;obtain⟨k0,k1,k2,k3,k4,k5,k6,k7,k8,k9,Oi,Oj,Ok,Ol⟩:=LB.out.mod;go_wp2_with fail;refine(yq _ _ _ _ _).mono ?_;clear g0 g1 g2 g3 g4 g5 g6 g7 g8 g9 KY KZ K0 K3 k0 k1 k2 k3 k4 k5 k6 k7 k8 k9 Oi Oj Ok Ol;rintro y w4 ⟨r4,rfl,hr,hb⟩;have R4:=V hr;have Lh:=V (Lh.out.below hb Lh.out.lt);have LB:=V (LB.out.below hb LB.out.lt);have Kz:=V (Kz.out.trans (hb.mono Kz.out.size));clear hr hb;obtain⟨g0,g1,g2,g3,g4,g5,g6,g7,g8,g9,KY,KZ,K0,K3⟩:=Lh.out.mod;obtain⟨k0,k1,k2,k3,k4,k5,k6,k7,k8,k9,Oi,Oj,Ok,Ol⟩:=LB.out.mod;obtain rfl:=R4.out.2 trivial;obtain rfl:=R1.out.2 trivial;obtain rfl:=R3.out.2 trivial;go_wp2_with fail;refine(DZ _ _ _ _ _).mono ?_;clear g0 g1 g2 g3 g4 g5 g6 g7 g8 g9 KY KZ K0 K3 k0 k1 k2 k3 k4 k5 k6 k7 k8 k9 Oi Oj Ok Ol;rintro y w5 ⟨r5,rfl,hr,hb⟩;have R5:=V hr;have Lh:=V (Lh.out.below hb Lh.out.lt);have LB:=V (LB.out.below hb LB.out.lt);have Kz:=V (Kz.out.trans (hb.mono Kz.out.size));clear hr hb;obtain⟨g0,g1,g2,g3,g4,g5,g6,g7,g8,g9,KY,KZ,K0,K3⟩:=Lh.out.mod;obtain⟨k0,k1,k2,k3,k4,k5,k6,k7,k8,k9,Oi,Oj,Ok,Ol⟩:=LB.out.mod;obtain rfl:=R5.out.2 trivial;go_wp2_with fail;refine(kU (.slice a2 m.funcs.length c2) (.slice b2 m.funcs.length d2) m.funcs m.funcs _ (HI.out.2.2.1.below Kz.out) (Nq.out.2.2.1.below Kz.out)).mono ?_;clear g0 g1 g2 g3 g4 g5 g6 g7 g8 g9 KY KZ K0 K3 k0 k1 k2 k3 k4 k5 k6 k7 k8 k9 Oi Oj Ok Ol;rintro y w6 ⟨r6,rfl,hr,hb⟩;have R6:=V hr;have Lh:=V (Lh.out.below hb Lh.out.lt);have LB:=V (LB.out.below hb LB.out.lt);have Kz:=V (Kz.out.trans (hb.mono Kz.out.size));clear hr hb;obtain⟨g0,g1,g2,g3,g4,g5,g6,g7,g8,g9,KY,KZ,K0,K3⟩:=Lh.out.mod;obtain⟨k0,k1,k2,k3,k4,k5,k6,k7,k8,k9,Oi,Oj,Ok,Ol⟩:=LB.out.mod;obtain rfl:=R6.out.2 rfl;go_wp2_with fail;refine(DO _ _ _ _ _).mono ?_;clear g0 g1 g2 g3 g4 g5 g6 g7 g8 g9 KY KZ K0 K3 k0 k1 k2 k3 k4 k5 k6 k7 k8 k9 Oi Oj Ok Ol;rintro y w7 ⟨r7,rfl,hr,hb⟩;have R7:=V hr;have Lh:=V (Lh.out.below hb Lh.out.lt);have LB:=V (LB.out.below hb LB.out.lt);have Kz:=V (Kz.out.trans (hb.mono Kz.out.size));clear hr hb;obtain⟨g0,g1,g2,g3,g4,g5,g6,g7,g8,g9,KY,KZ,K0,K3⟩:=Lh.out.mod;obtain⟨k0,k1,k2,k3,k4,k5,k6,k7,k8,k9,Oi,Oj,Ok,Ol⟩:=LB.out.mod;obtain rfl:=R7.out.2 trivial;go_wp2_with fail;refine(xG (.slice a4 m.dY.length c4) (.slice b4 m.dY.length d4) m.dY m.dY _ (HI.out.2.2.2.2.1.below Kz.out) (Nq.out.2.2.2.2.1.below Kz.out)).mono ?_;clear g0 g1 g2 g3 g4 g5 g6 g7 g8 g9 KY KZ K0 K3 k0 k1 k2 k3 k4 k5 k6 k7 k8 k9 Oi Oj Ok Ol;rintro y w8 ⟨r8,rfl,hr,hb⟩;have R8:=V hr;have Lh:=V (Lh.out.below hb Lh.out.lt);have LB:=V (LB.out.below hb LB.out.lt);have Kz:=V (Kz.out.trans (hb.mono Kz.out.size));clear hr hb;obtain⟨g0,g1,g2,g3,g4,g5,g6,g7,g8,g9,KY,KZ,K0,K3⟩:=Lh.out.mod;obtain⟨k0,k1,k2,k3,k4,k5,k6,k7,k8,k9,Oi,Oj,Ok,Ol⟩:=LB.out.mod;obtain rfl:=R8.out.2 rfl;go_wp2_with fail;go_ret;exact⟨true,rfl,by simp,Kz.out⟩
end Go.Proofs.YthbjdhjppbcneaaGreatDoor
