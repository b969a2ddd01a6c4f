import Derived.Test.YthbjdhjppbcneaaGreatDoorBlocksJ7
namespace Go.Proofs.YthbjdhjppbcneaaGreatDoor
set_option maxRecDepth 100000
set_option maxHeartbeats 20000000
open Go.RowKit Tryz
open Lib renaming hid->V
set_option linter.all false
theorem sG (x:gf) (least fB:Int) (w:World):Calls prog 97 #[.agg #[.bool x.has, .int .i64 x.min, .int .i64 x.max], .int .i64 least, .int .i64 fB] w (eF (decide (x.may least fB)) w):=by
 obtain⟨has,mn,mx⟩:=x;cases has with
 | false=>
  by_cases q1:mn=0
  ·have f1:=eQ q1
   have HB:Hid (decide (gf.may least fB ⟨false,mn,mx⟩)=(mx==0)):=V (by rw [dE];simp [gf.may,q1]);clear q1;go_enter func97,ntmps97;go_wp2_with fail;go_ret;exact⟨by rw [HB.out];rfl,(an _ _).alloc (ag _) _⟩
  ·have f1:=ed q1
   have HB:Hid (decide (gf.may least fB ⟨false,mn,mx⟩)=false):=V (by simp [gf.may,q1]);clear q1;go_enter func97,ntmps97;go_wp2_with fail;go_ret;exact⟨by rw [HB.out];rfl,(an _ _).alloc (ag _) _⟩
 | true=>
  by_cases q1:0 <=mn
  ·have f1:decide (0 <=mn)=true:=aA q1
   by_cases q2:mn <=least
   ·have f2:decide (mn <=least)=true:=aA q2
    by_cases q3: -1 <=mx
    ·have f3:decide (-1 <=mx)=true:=aA q3
     have HB:Hid (decide (gf.may least fB ⟨true,mn,mx⟩)=decide (mx <=fB)):=V (by simp [gf.may,q1,q2,q3]);clear q1 q2 q3;go_enter func97,ntmps97;go_wp2_with fail;go_ret;exact⟨by rw [HB.out];rfl,(an _ _).alloc (ag _) _⟩
    ·have f3:decide (-1 <=mx)=false:=aq q3
     have HB:Hid (decide (gf.may least fB ⟨true,mn,mx⟩)=false):=V (by simp only [gf.may,dc,q3,false_and,and_false];rfl);clear q1 q2 q3;go_enter func97,ntmps97;go_wp2_with fail;go_ret;exact⟨by rw [HB.out];rfl,(an _ _).alloc (ag _) _⟩
   ·have f2:decide (mn <=least)=false:=aq q2
    have HB:Hid (decide (gf.may least fB ⟨true,mn,mx⟩)=false):=V (by simp only [gf.may,dc,q2,false_and,and_false];rfl);clear q1 q2;go_enter func97,ntmps97;go_wp2_with fail;go_ret;exact⟨by rw [HB.out];rfl,(an _ _).alloc (ag _) _⟩
  ·have f1:decide (0 <=mn)=false:=aq q1
   have HB:Hid (decide (gf.may least fB ⟨true,mn,mx⟩)=false):=V (by simp only [gf.may,dc,q1,false_and];rfl);clear q1;go_enter func97,ntmps97;go_wp2_with fail;go_ret;exact⟨by rw [HB.out];rfl,(an _ _).alloc (ag _) _⟩
theorem eD.open {w:World} {u:eL} {m:eI} (h:eD w u m):∃a0 c0 a1 c1 a2 c2 a3 c3 a4 c4 a5 c5 a6 c6 a7 c7,
  u=⟨.slice a0 m.types.length c0, .slice a1 m.imports.length c1, .slice a2 m.funcs.length c2, .slice a3 m.globals.length c3, .slice a4 m.ep.length c4, .slice a5 m.elems.length c5, .slice a6 m.eA.length c6, .slice a7 m.eK.length c7⟩:=by
 obtain⟨h1,h2,h3,h4,h5,h6,h7,h8,_⟩:=h;obtain⟨u0,u1,u2,u3,u4,u5,u6,u7⟩:=u;obtain⟨a0,c0,e0,-⟩:=et.slice h1;obtain⟨a1,c1,e1,-⟩:=fg h2;obtain⟨a2,c2,e2,-⟩:=fg h3;obtain⟨a3,c3,e3,-⟩:=fg h4;obtain⟨a4,c4,e4,-⟩:=fg h5;obtain⟨a5,c5,e5,-⟩:=et.slice h6;obtain⟨a6,c6,e6,-⟩:=et.slice h7;obtain⟨a7,c7,e7,-⟩:=et.slice h8;simp only at e0 e1 e2 e3 e4 e5 e6 e7;subst e0 e1 e2 e3 e4 e5 e6 e7;exact⟨a0,c0,a1,c1,a2,c2,a3,c3,a4,c4,a5,c5,a6,c6,a7,c7,rfl⟩
def eI.words (m:eI):Prop:=(∀x∈m.imports,x.mod.size <=1000000000000/\x.name.size <=1000000000000)/\∀x∈m.ep,x.name.size <=1000000000000
theorem Ds (m:eI) (u:eL) (w:World) (hm:eD w u m) (hs:m.words):Calls prog 96 #[.agg (u.cells m)] w (eF (decide m.lists) w):=by
 have HI:=V hm;have HS:=V hs;obtain⟨a0,c0,a1,c1,a2,c2,a3,c3,a4,c4,a5,c5,a6,c6,a7,c7,rfl⟩:=hm.open;have hil:m.imports.length <=9223372036854775807:=by
  obtain⟨_,_,_,h1,h2⟩:=fg HI.out.2.1;omega
 clear hm hs;have HM:Hid (decide m.lists=(decide ((m.types.length:Int) <=16/\∀x∈m.types,x.may)&&(decide ((m.imports.length:Int) <=16/\∀x∈m.imports,x.may)&&(decide ((m.funcs.length:Int) <=16 - m.imports.length/\∀n∈m.funcs,gp n)&&(decide ((m.globals.length:Int) <=16/\∀x∈m.globals,x.init.may)&&(decide ((m.ep.length:Int) <=16/\∀x∈m.ep,x.may)&&(decide ((m.elems.length:Int) <=16/\∀x∈m.elems,x.may)&&decide ((m.eK.length:Int) <=16/\∀x∈m.eK,x.may)))))))):=V (by
  simp only [<- cK];refine dg.2 ?_;unfold eI.lists
  constructor
  ·rintro⟨⟨⟨p1,q1⟩,⟨p2,q2⟩,p3,q3⟩,⟨p4,q4⟩,⟨p5,q5⟩,⟨p6,q6⟩,p7,q7⟩
   exact⟨⟨by omega,q1⟩,⟨by omega,q2⟩,⟨p3,q3⟩,⟨by omega,q4⟩,⟨by omega,q5⟩,⟨by omega,q6⟩,by omega,q7⟩
  ·rintro⟨⟨p1,q1⟩,⟨p2,q2⟩,⟨p3,q3⟩,⟨p4,q4⟩,⟨p5,q5⟩,⟨p6,q6⟩,p7,q7⟩
   exact⟨⟨⟨by omega,q1⟩,⟨by omega,q2⟩,p3,q3⟩,⟨by omega,q4⟩,⟨by omega,q5⟩,⟨by omega,q6⟩,by omega,q7⟩)
 simp only [eL.cells];have B0:=eP.new w #[.slice a0 m.types.length c0, .slice a1 m.imports.length c1, .slice a2 m.funcs.length c2, .bool m.table.has, .int .i64 m.table.min, .int .i64 m.table.max, .bool m.mem.has, .int .i64 m.mem.min, .int .i64 m.mem.max, .slice a3 m.globals.length c3, .slice a4 m.ep.length c4, .slice a5 m.elems.length c5, .slice a6 m.eA.length c6, .slice a7 m.eK.length c7] 62;have h0:Below w.heap.size w (w.alloc (.cells #[.slice a0 m.types.length c0, .slice a1 m.imports.length c1, .slice a2 m.funcs.length c2, .bool m.table.has, .int .i64 m.table.min, .int .i64 m.table.max, .bool m.mem.has, .int .i64 m.mem.min, .int .i64 m.mem.max, .slice a3 m.globals.length c3, .slice a4 m.ep.length c4, .slice a5 m.elems.length c5, .slice a6 m.eA.length c6, .slice a7 m.eK.length c7] 62)):=(an _ _).alloc (ag _) _;go_enter func96,ntmps96;go_wp2_with fail;refine(E9 (fun x=>decide x.may) _ m.types _ (HI.out.1.below h0) 155 16 (fun _ _=>by rfl) (fun e _ u w' _ hu=>GI e u w' hu)).mono ?_;rw [lF];rintro x w1 ⟨rfl,hb⟩;obtain⟨r1,hr⟩:∃r,decide ((m.types.length:Int) <=16/\∀x∈m.types,x.may)=r:=⟨_,rfl⟩;rw [hr];have R1:=V hr;clear hr;have B1:=B0.below hb B0.lt;have h1:=h0.trans (hb.mono h0.size);clear hb;have g1:w1.cell? ⟨w.heap.size,1,none⟩=some (.slice a1 m.imports.length c1):=B1.cell 1;go_wp2_with fail;refine(FZ (fun x=>decide x.may) _ m.imports _ (HI.out.2.1.below h1) 157 16 (fun _ _=>by rfl) (fun e he w' _=>GL e w' (HS.out.1 e he))).mono ?_;rw [lF];rintro x w2 ⟨rfl,hb⟩;obtain⟨r2,hr⟩:∃r,decide ((m.imports.length:Int) <=16/\∀x∈m.imports,x.may)=r:=⟨_,rfl⟩;rw [hr];have R2:=V hr;clear hr;have B2:=B1.below hb B1.lt;have h2:=h1.trans (hb.mono h1.size);clear hb;clear g1;have g1:w2.cell? ⟨w.heap.size,1,none⟩=some (.slice a1 m.imports.length c1):=B2.cell 1;have g2:w2.cell? ⟨w.heap.size,2,none⟩=some (.slice a2 m.funcs.length c2):=B2.cell 2;go_wp2_with fail;refine(qk _ m.funcs (16 - m.imports.length) _ (HI.out.2.2.1.below h2)).mono ?_;rintro x w3 ⟨rfl,hb⟩;obtain⟨r3,hr⟩:∃r,decide ((m.funcs.length:Int) <=16 - m.imports.length/\∀n∈m.funcs,gp n)=r:=⟨_,rfl⟩;rw [hr];have R3:=V hr;clear hr;have B3:=B2.below hb B2.lt;have h3:=h2.trans (hb.mono h2.size);clear hb;clear g1 g2 hil;have g1:w3.cell? ⟨w.heap.size,9,none⟩=some (.slice a3 m.globals.length c3):=B3.cell 9;go_wp2_with fail;refine(Gr (fun x=>decide x.init.may) _ m.globals _ (HI.out.2.2.2.1.below h3) 161 16 (fun _ _=>by rfl) (fun e _ w' _=>Gf e w')).mono ?_;rw [lF];rintro x w4 ⟨rfl,hb⟩;obtain⟨r4,hr⟩:∃r,decide ((m.globals.length:Int) <=16/\∀x∈m.globals,x.init.may)=r:=⟨_,rfl⟩;rw [hr];have R4:=V hr;clear hr;have B4:=B3.below hb B3.lt;have h4:=h3.trans (hb.mono h3.size);clear hb;clear g1;have g1:w4.cell? ⟨w.heap.size,10,none⟩=some (.slice a4 m.ep.length c4):=B4.cell 10;go_wp2_with fail;refine(FF (fun x=>decide x.may) _ m.ep _ (HI.out.2.2.2.2.1.below h4) 163 16 (fun _ _=>by rfl) (fun e he w' _=>F1 e w' (HS.out.2 e he))).mono ?_;rw [lF];rintro x w5 ⟨rfl,hb⟩;obtain⟨r5,hr⟩:∃r,decide ((m.ep.length:Int) <=16/\∀x∈m.ep,x.may)=r:=⟨_,rfl⟩;rw [hr];have R5:=V hr;clear hr;have B5:=B4.below hb B4.lt;have h5:=h4.trans (hb.mono h4.size);clear hb;clear g1;have g1:w5.cell? ⟨w.heap.size,11,none⟩=some (.slice a5 m.elems.length c5):=B5.cell 11;go_wp2_with fail;refine(GW (fun x=>decide x.may) _ m.elems _ (et.below HI.out.2.2.2.2.2.1 h5 (fun _ _ h=>h.below h5)) 165 16 (fun _ _=>by rfl) (fun e _ u w' _ hu=>EV e u w' hu)).mono ?_;rw [lF];rintro x w6 ⟨rfl,hb⟩;obtain⟨r6,hr⟩:∃r,decide ((m.elems.length:Int) <=16/\∀x∈m.elems,x.may)=r:=⟨_,rfl⟩;rw [hr];have R6:=V hr;clear hr;have B6:=B5.below hb B5.lt;have h6:=h5.trans (hb.mono h5.size);clear hb;clear g1;have g1:w6.cell? ⟨w.heap.size,13,none⟩=some (.slice a7 m.eK.length c7):=B6.cell 13;go_wp2_with fail;refine(Gk (fun x=>decide x.may) _ m.eK _ (et.below HI.out.2.2.2.2.2.2.2.1 h6 (fun _ _ h=>h.below h6)) 168 16 (fun _ _=>by rfl) (fun e _ u w' _ hu=>Ec e u w' hu)).mono ?_;rw [lF];rintro x w7 ⟨rfl,hb⟩;obtain⟨r7,hr⟩:∃r,decide ((m.eK.length:Int) <=16/\∀x∈m.eK,x.may)=r:=⟨_,rfl⟩;rw [hr];have R7:=V hr;clear hr;have h7:=h6.trans (hb.mono h6.size);clear g1 B0 B1 B2 B3 B4 B5 B6 h0 h1 h2 h3 h4 h5 h6 hb;cases r1
 ·skip
  go_wp2_with fail;go_ret;exact⟨by rw [HM.out,R1.out];rfl,h7⟩
 cases r2
 ·skip
  go_wp2_with fail;go_ret;exact⟨by rw [HM.out,R1.out,R2.out];rfl,h7⟩
 cases r3
 ·skip
  go_wp2_with fail;go_ret;exact⟨by rw [HM.out,R1.out,R2.out,R3.out];rfl,h7⟩
 cases r4
 ·skip
  go_wp2_with fail;go_ret;exact⟨by rw [HM.out,R1.out,R2.out,R3.out,R4.out];rfl,h7⟩
 cases r5
 ·skip
  go_wp2_with fail;go_ret;exact⟨by rw [HM.out,R1.out,R2.out,R3.out,R4.out,R5.out];rfl,h7⟩
 cases r6
 ·skip
  go_wp2_with fail;go_ret;exact⟨by rw [HM.out,R1.out,R2.out,R3.out,R4.out,R5.out,R6.out];rfl,h7⟩
 go_wp2_with fail;go_ret;exact⟨by rw [HM.out,R1.out,R2.out,R3.out,R4.out,R5.out,R6.out,R7.out];rfl,h7⟩
theorem GH (w0:World) (put:jg ->List UInt8) (C:Nat) (b:Value) (xs:List UInt8) (v:Value) (l:List jg) (B:Nat) (w:World) (Lq:Nat)
  (hE:∀args w,(callFunc Lq args).run prog w= .ok (.enter Lq args) w) (hl:ew 3 td w0 v l) (Lo:eg w B b xs) (hB:B <=w.heap.size) (h0:Src w0 w B)
  (hC:xs.length+(ff put l).length <=C) (Nv:C <=900000000)
  (hp:∀e∈l,∀b xs w,eg w B b xs ->xs.length <=C ->B <=w.heap.size ->Src w0 w B ->Calls prog Lq #[b, .agg #[.bool e.isVar, .int .i64 e.init.kind, .int .i64 e.init.n]] w (fE xs (put e) B b w)):
  Calls prog 259 #[b,v, .func (.func Lq) #[] #[]] w (fE xs (ff put l) B b w):=by
 have HP:=V hp;have HL:=V hl;have H0:=V h0;have HC:=V hC;have HW:=V (Wr.refl Lo);have Ri:xs.length <=900000000:=by omega
 obtain⟨a,cap,rfl,M9,Mj⟩:=fg hl;clear hp hl h0 hC Lo Nv;go_enter func259,ntmps259;go_wp2_with fail;refine(fU b xs l.length (by omega) B w HW.out.1 (by omega) hB).mono ?_;rintro e w2 ⟨v2,rfl,ho,hk,hs⟩;have LH:=V (HW.out.step ⟨ho,hk,hs⟩);have LZ:=V (H0.out.next HW.out.1 ⟨ho,hk,hs⟩);clear ho hk hs;go_wp2_with fail;refine eJ (fun a' w'=>∃(vb:Value) (k:Nat),a'=fr (vb::gs a' 1 1 (.func (.func Lq) #[] #[]::gs a' 3 10 (.slice a l.length cap:: .int .i64 l.length:: .int .i64 k::gs a' 16 9 [])))/\vS w0 put xs l B b w w' vb k) (fun a' _=>(l.length - (intOf (a'.tmps.getD 15 undef)).toNat)) ?_ ?_
 ·exact⟨_,0,rfl,by omega,by simpa using LH.out,LZ.out⟩
 ·skip
  clear HW LH LZ H0 v2;rintro R a' w1 ⟨vb,k,Lp,hJ⟩ HR;dsimp only [fr,gs]at Lp;generalize slot a'=f at Lp;subst Lp;obtain⟨hk,Oc,N0⟩:=hJ;have HW:=V Oc;have HS:=V N0;have Qd:=V (show(xs++(eY l.length++((l.take k).map put).flatten)).length <=C by
   have h1:=HC.out;have h2:=jK put l k;simp only [ff,ah]at*;omega)
  clear Oc N0;by_cases q:k < l.length;rotate_left
  ·obtain rfl:k=l.length:=by omega
   have HW:=V (show Wr w b B w1 vb (xs++ff put l)by have:=HW.out;rwa [aV]at this);go_wp2_with fail;go_ret;exact⟨_,rfl,HW.out⟩
  obtain⟨x,hx⟩:∃x,l[k]?=some x:=⟨_,aw q⟩;obtain⟨a',LO,hv,_,_,Ln⟩:=HL.out;injection hv with e1 e2 e3;subst e1 e3;obtain⟨bb,off,rfl,Lw,MV⟩:=Ln k x hx;clear Ln e2;have c0:=(HS.out.1.cell Lw).trans (MV 0 _ rfl);have c1:=(HS.out.1.cell Lw).trans (MV 1 _ rfl);have c2:=(HS.out.1.cell Lw).trans (MV 2 _ rfl);rw [aK]at c0;have HX:=V hx;clear MV hx;go_wp2_with fail;have Mn:=V (HW.out.alloc (.cells #[.bool x.isVar, .int .i64 x.init.kind, .int .i64 x.init.n] 120));have NB:=V (HS.out.alloc (.cells #[.bool x.isVar, .int .i64 x.init.kind, .int .i64 x.init.n] 120));refine(HP.out x (aO HX.out) _ _ _ Mn.out.1 Qd.out (Mn.out.base hB) NB.out).mono ?_;rintro e w2 ⟨v2,rfl,LL,Lv,LB⟩;have LH:=V (Mn.out.step ⟨LL,Lv,LB⟩);have LZ:=V (NB.out.next Mn.out.1 ⟨LL,Lv,LB⟩);clear LL Lv LB c0 c1 c2;go_wp2_with fail;refine HR.out _ _ ⟨_,k+1,rfl,by omega,?_,LZ.out⟩ ?_
  ·have:=LH.out
   rw [aR,HX.out];simpa using this
  ·simp [intOf]
   omega
theorem ER (w0:World) (put:jg ->List UInt8) (no:Nat) (OB:no < 256) (b:Value) (xs:List UInt8) (v:Value) (l:List jg) (B:Nat) (w:World) (Lq:Nat)
  (hE:∀args w,(callFunc Lq args).run prog w= .ok (.enter Lq args) w) (hl:ew 3 td w0 v l) (Lo:Row w B b xs) (hB:B <=w.heap.size) (h0:Below w0.heap.size w0 w)
  (hC:xs.length+(ff put l).length <=100000000)
  (hp:∀e∈l,∀b xs w B,eg w B b xs ->xs.length <=100000000 ->B <=w.heap.size ->Src w0 w B ->Calls prog Lq #[b, .agg #[.bool e.isVar, .int .i64 e.init.kind, .int .i64 e.init.n]] w (fE xs (put e) B b w)):
  Calls prog 182 #[b, .int .i64 no,v, .func (.func Lq) #[] #[]] w (mM xs (fM (b8 no) put l) B b w):=by
 have HP:=V hp;have HL:=V hl;have H0:=V h0;have HW:=V (sT.refl Lo);obtain⟨a,cap,rfl,M9,Mj⟩:=fg hl;clear hp hl h0 Lo;by_cases q:l.length=0
 ·have f1:=eQ (show(l.length:Int)=0 by omega)
  have HN:=V (show l=[]from aH q);clear q;go_enter func182,ntmps182;go_wp2_with fail;go_ret;exact⟨_,rfl,by rw [HN.out];simpa [fM] using HW.out⟩
 ·have f1:=ed (show ¬ (l.length:Int)=0 by omega)
  have HN:Hid (fM (b8 no) put l=b8 no::(eY (ff put l).length++ff put l)):=V (by
   cases l with
   | nil=>exact absurd rfl q
   | cons x l=>rfl)
  clear q;go_enter func182,ntmps182;go_wp2_with fail;refine(GH w0 put 100000000 (.slice none 0 0) [] _ l w.heap.size w Lq hE HL.out (eg.nil _ _) (ag _) ⟨H0.out,H0.out.size⟩ (by simp only [aL];omega) (by decide) (fun e he b xs w ho hx hB h0=>HP.out e he b xs w _ ho hx hB h0)).mono ?_;rintro e w2 ⟨v2,rfl,ho,hk,hs⟩;rw [bL]at ho;have Lr:=jH hk rfl;have HO:=V ho;have LH:=V (HW.out.below Lr);obtain⟨a2,Lu,QK,-,-,-⟩:=ho.fF;subst QK;have MW:∀i,eH (.slice a2 (ff put l).length Lu) i ->¬ eH b i:=fun i h1 h2=>by
   have:=(eE HO.out h1).1;have:=(HW.out.1.lt h2).2;omega
  have HD:=V MW;clear ho hk hs hE MW;go_wp2_with (first | (at_builtin;refine iB w2 rfl _ _ rfl rfl B b _ rfl LH.out.1 (b8 no) _ ?_ ?_ ?_ ?_ ?_))
  ·rw [fY OB]
  ·rfl
  ·omega
  ·exact LH.out.base hB
  intro v3 w3 ho hk hs;have Ni:=V (LH.out.own ⟨ho,hk,hs⟩);have NP:=V (HO.out.keeps hk HD.out);have Qe:=V (show∀i,eH (.slice a2 (ff put l).length Lu) i ->¬ eH v3 i from fun i h1 h2=>(hs i h2).elim (HD.out i h1) (fun g=>by have:=(eE HO.out h1).2;omega));clear ho hk hs;go_wp2_with fail;refine(fU v3 _ (ff put l).length (by omega) B w3 Ni.out.1 (by simp only [ah,aB];omega) (Ni.out.base hB)).mono ?_;rintro e w4 ⟨v4,rfl,ho,hk,hs⟩;have My:=V (Ni.out.step ⟨ho,hk,hs⟩);have NR:=V (NP.out.keeps hk Qe.out);have hp4:=(eO (ff put l).length).2;clear ho hk hs;go_wp2_with (first | (at_builtin;refine fZ w4 rfl _ _ rfl rfl B v4 _ rfl My.out.1 _ _ rfl NR.out.fF (by simp only [ah,aB];omega) (My.out.base hB) ?_));intro v5 w5 ho hk hs;have OZ:=V (My.out.step ⟨ho,hk,hs⟩);clear ho hk hs;go_wp2_with fail;go_ret;exact⟨_,rfl,by rw [HN.out];exact OZ.out.row⟩
theorem EI (w0:World) (put:iO ->List UInt8) (C:Nat) (b:Value) (xs:List UInt8) (v:Value) (l:List iO) (B:Nat) (w:World) (Lq:Nat)
  (hE:∀args w,(callFunc Lq args).run prog w= .ok (.enter Lq args) w) (hl:ew 2 rz w0 v l) (Lo:eg w B b xs) (hB:B <=w.heap.size) (h0:Src w0 w B)
  (hC:xs.length+(ff put l).length <=C) (Nv:C <=900000000)
  (hp:∀e∈l,∀b xs w,eg w B b xs ->xs.length <=C ->B <=w.heap.size ->Src w0 w B ->Calls prog Lq #[b, .agg #[.string e.name, .int .i64 e.func]] w (fE xs (put e) B b w)):
  Calls prog 261 #[b,v, .func (.func Lq) #[] #[]] w (fE xs (ff put l) B b w):=by
 have HP:=V hp;have HL:=V hl;have H0:=V h0;have HC:=V hC;have HW:=V (Wr.refl Lo);have Ri:xs.length <=900000000:=by omega
 obtain⟨a,cap,rfl,M9,Mj⟩:=fg hl;clear hp hl h0 hC Lo Nv;go_enter func261,ntmps261;go_wp2_with fail;refine(fU b xs l.length (by omega) B w HW.out.1 (by omega) hB).mono ?_;rintro e w2 ⟨v2,rfl,ho,hk,hs⟩;have LH:=V (HW.out.step ⟨ho,hk,hs⟩);have LZ:=V (H0.out.next HW.out.1 ⟨ho,hk,hs⟩);clear ho hk hs;go_wp2_with fail;refine eJ (fun a' w'=>∃(vb:Value) (k:Nat),a'=fr (vb::gs a' 1 1 (.func (.func Lq) #[] #[]::gs a' 3 10 (.slice a l.length cap:: .int .i64 l.length:: .int .i64 k::gs a' 16 9 [])))/\vS w0 put xs l B b w w' vb k) (fun a' _=>(l.length - (intOf (a'.tmps.getD 15 undef)).toNat)) ?_ ?_
 ·exact⟨_,0,rfl,by omega,by simpa using LH.out,LZ.out⟩
 ·skip
  clear HW LH LZ H0 v2;rintro R a' w1 ⟨vb,k,Lp,hJ⟩ HR;dsimp only [fr,gs]at Lp;generalize slot a'=f at Lp;subst Lp;obtain⟨hk,Oc,N0⟩:=hJ;have HW:=V Oc;have HS:=V N0;have Qd:=V (show(xs++(eY l.length++((l.take k).map put).flatten)).length <=C by
   have h1:=HC.out;have h2:=jK put l k;simp only [ff,ah]at*;omega)
  clear Oc N0;by_cases q:k < l.length;rotate_left
  ·obtain rfl:k=l.length:=by omega
   have HW:=V (show Wr w b B w1 vb (xs++ff put l)by have:=HW.out;rwa [aV]at this);go_wp2_with fail;go_ret;exact⟨_,rfl,HW.out⟩
  obtain⟨x,hx⟩:∃x,l[k]?=some x:=⟨_,aw q⟩;obtain⟨a',LO,hv,_,_,Ln⟩:=HL.out;injection hv with e1 e2 e3;subst e1 e3;obtain⟨bb,off,rfl,Lw,MV⟩:=Ln k x hx;clear Ln e2;have c0:=(HS.out.1.cell Lw).trans (MV 0 _ rfl);have c1:=(HS.out.1.cell Lw).trans (MV 1 _ rfl);rw [aK]at c0;have HX:=V hx;clear MV hx;go_wp2_with fail;have Mn:=V (HW.out.alloc (.cells #[.string x.name, .int .i64 x.func] 111));have NB:=V (HS.out.alloc (.cells #[.string x.name, .int .i64 x.func] 111));refine(HP.out x (aO HX.out) _ _ _ Mn.out.1 Qd.out (Mn.out.base hB) NB.out).mono ?_;rintro e w2 ⟨v2,rfl,LL,Lv,LB⟩;have LH:=V (Mn.out.step ⟨LL,Lv,LB⟩);have LZ:=V (NB.out.next Mn.out.1 ⟨LL,Lv,LB⟩);clear LL Lv LB c0 c1;go_wp2_with fail;refine HR.out _ _ ⟨_,k+1,rfl,by omega,?_,LZ.out⟩ ?_
  ·have:=LH.out
   rw [aR,HX.out];simpa using this
  ·simp [intOf]
   omega
theorem FI (w0:World) (put:iO ->List UInt8) (no:Nat) (OB:no < 256) (b:Value) (xs:List UInt8) (v:Value) (l:List iO) (B:Nat) (w:World) (Lq:Nat)
  (hE:∀args w,(callFunc Lq args).run prog w= .ok (.enter Lq args) w) (hl:ew 2 rz w0 v l) (Lo:Row w B b xs) (hB:B <=w.heap.size) (h0:Below w0.heap.size w0 w)
  (hC:xs.length+(ff put l).length <=100000000)
  (hp:∀e∈l,∀b xs w B,eg w B b xs ->xs.length <=100000000 ->B <=w.heap.size ->Src w0 w B ->Calls prog Lq #[b, .agg #[.string e.name, .int .i64 e.func]] w (fE xs (put e) B b w)):
  Calls prog 185 #[b, .int .i64 no,v, .func (.func Lq) #[] #[]] w (mM xs (fM (b8 no) put l) B b w):=by
 have HP:=V hp;have HL:=V hl;have H0:=V h0;have HW:=V (sT.refl Lo);obtain⟨a,cap,rfl,M9,Mj⟩:=fg hl;clear hp hl h0 Lo;by_cases q:l.length=0
 ·have f1:=eQ (show(l.length:Int)=0 by omega)
  have HN:=V (show l=[]from aH q);clear q;go_enter func185,ntmps185;go_wp2_with fail;go_ret;exact⟨_,rfl,by rw [HN.out];simpa [fM] using HW.out⟩
 ·have f1:=ed (show ¬ (l.length:Int)=0 by omega)
  have HN:Hid (fM (b8 no) put l=b8 no::(eY (ff put l).length++ff put l)):=V (by
   cases l with
   | nil=>exact absurd rfl q
   | cons x l=>rfl)
  clear q;go_enter func185,ntmps185;go_wp2_with fail;refine(EI w0 put 100000000 (.slice none 0 0) [] _ l w.heap.size w Lq hE HL.out (eg.nil _ _) (ag _) ⟨H0.out,H0.out.size⟩ (by simp only [aL];omega) (by decide) (fun e he b xs w ho hx hB h0=>HP.out e he b xs w _ ho hx hB h0)).mono ?_;rintro e w2 ⟨v2,rfl,ho,hk,hs⟩;rw [bL]at ho;have Lr:=jH hk rfl;have HO:=V ho;have LH:=V (HW.out.below Lr);obtain⟨a2,Lu,QK,-,-,-⟩:=ho.fF;subst QK;have MW:∀i,eH (.slice a2 (ff put l).length Lu) i ->¬ eH b i:=fun i h1 h2=>by
   have:=(eE HO.out h1).1;have:=(HW.out.1.lt h2).2;omega
  have HD:=V MW;clear ho hk hs hE MW;go_wp2_with (first | (at_builtin;refine iB w2 rfl _ _ rfl rfl B b _ rfl LH.out.1 (b8 no) _ ?_ ?_ ?_ ?_ ?_))
  ·rw [fY OB]
  ·rfl
  ·omega
  ·exact LH.out.base hB
  intro v3 w3 ho hk hs;have Ni:=V (LH.out.own ⟨ho,hk,hs⟩);have NP:=V (HO.out.keeps hk HD.out);have Qe:=V (show∀i,eH (.slice a2 (ff put l).length Lu) i ->¬ eH v3 i from fun i h1 h2=>(hs i h2).elim (HD.out i h1) (fun g=>by have:=(eE HO.out h1).2;omega));clear ho hk hs;go_wp2_with fail;refine(fU v3 _ (ff put l).length (by omega) B w3 Ni.out.1 (by simp only [ah,aB];omega) (Ni.out.base hB)).mono ?_;rintro e w4 ⟨v4,rfl,ho,hk,hs⟩;have My:=V (Ni.out.step ⟨ho,hk,hs⟩);have NR:=V (NP.out.keeps hk Qe.out);have hp4:=(eO (ff put l).length).2;clear ho hk hs;go_wp2_with (first | (at_builtin;refine fZ w4 rfl _ _ rfl rfl B v4 _ rfl My.out.1 _ _ rfl NR.out.fF (by simp only [ah,aB];omega) (My.out.base hB) ?_));intro v5 w5 ho hk hs;have OZ:=V (My.out.step ⟨ho,hk,hs⟩);clear ho hk hs;go_wp2_with fail;go_ret;exact⟨_,rfl,by rw [HN.out];exact OZ.out.row⟩
theorem EY (w0:World) (put:gN ->List UInt8) (C:Nat) (b:Value) (xs:List UInt8) (v:Value) (l:List gN) (B:Nat) (w:World) (Lq:Nat)
  (hE:∀args w,(callFunc Lq args).run prog w= .ok (.enter Lq args) w) (hl:et 2 r9 gW w0 v l) (Lo:eg w B b xs) (hB:B <=w.heap.size) (h0:Src w0 w B)
  (hC:xs.length+(ff put l).length <=C) (Nv:C <=900000000)
  (hp:∀e∈l,∀u,gW w0 e u ->∀b xs w,eg w B b xs ->xs.length <=C ->B <=w.heap.size ->Src w0 w B ->Calls prog Lq #[b, .agg #[u.1,u.2]] w (fE xs (put e) B b w)):
  Calls prog 256 #[b,v, .func (.func Lq) #[] #[]] w (fE xs (ff put l) B b w):=by
 have HP:=V hp;have HL:=V hl;have H0:=V h0;have HC:=V hC;have HW:=V (Wr.refl Lo);have Ri:xs.length <=900000000:=by omega
 obtain⟨a,cap,rfl,M9,Mj⟩:=et.slice hl;clear hp hl h0 hC Lo Nv;go_enter func256,ntmps256;go_wp2_with fail;refine(fU b xs l.length (by omega) B w HW.out.1 (by omega) hB).mono ?_;rintro e w2 ⟨v2,rfl,ho,hk,hs⟩;have LH:=V (HW.out.step ⟨ho,hk,hs⟩);have LZ:=V (H0.out.next HW.out.1 ⟨ho,hk,hs⟩);clear ho hk hs;go_wp2_with fail;refine eJ (fun a' w'=>∃(vb:Value) (k:Nat),a'=fr (vb::gs a' 1 1 (.func (.func Lq) #[] #[]::gs a' 3 10 (.slice a l.length cap:: .int .i64 l.length:: .int .i64 k::gs a' 16 9 [])))/\vS w0 put xs l B b w w' vb k) (fun a' _=>(l.length - (intOf (a'.tmps.getD 15 undef)).toNat)) ?_ ?_
 ·exact⟨_,0,rfl,by omega,by simpa using LH.out,LZ.out⟩
 ·skip
  clear HW LH LZ H0 v2;rintro R a' w1 ⟨vb,k,Lp,hJ⟩ HR;dsimp only [fr,gs]at Lp;generalize slot a'=f at Lp;subst Lp;obtain⟨hk,Oc,N0⟩:=hJ;have HW:=V Oc;have HS:=V N0;have Qd:=V (show(xs++(eY l.length++((l.take k).map put).flatten)).length <=C by
   have h1:=HC.out;have h2:=jK put l k;simp only [ff,ah]at*;omega)
  clear Oc N0;by_cases q:k < l.length;rotate_left
  ·obtain rfl:k=l.length:=by omega
   have HW:=V (show Wr w b B w1 vb (xs++ff put l)by have:=HW.out;rwa [aV]at this);go_wp2_with fail;go_ret;exact⟨_,rfl,HW.out⟩
  obtain⟨x,hx⟩:∃x,l[k]?=some x:=⟨_,aw q⟩;obtain⟨bb,off,u,rfl,Lw,MV,hu⟩:=et.get HL.out hx;have c0:=(HS.out.1.cell Lw).trans (MV 0 _ rfl);have c1:=(HS.out.1.cell Lw).trans (MV 1 _ rfl);rw [aK]at c0;have HU:=V hu;obtain⟨u1,u2⟩:=u;obtain⟨⟨⟨a1,LF,Nk,-,-,-⟩,⟨a2,Lu,Nw,-,-,-⟩⟩,-⟩:=id hu;simp only at Nk Nw;subst Nk Nw;have HX:=V hx;clear MV hx hu;go_wp2_with fail;have Mn:=V (HW.out.alloc (.cells #[.slice a1 x.params.length LF, .slice a2 x.results.length Lu] 109));have NB:=V (HS.out.alloc (.cells #[.slice a1 x.params.length LF, .slice a2 x.results.length Lu] 109));refine(HP.out x (aO HX.out) _ HU.out _ _ _ Mn.out.1 Qd.out (Mn.out.base hB) NB.out).mono ?_;rintro e w2 ⟨v2,rfl,LL,Lv,LB⟩;have LH:=V (Mn.out.step ⟨LL,Lv,LB⟩);have LZ:=V (NB.out.next Mn.out.1 ⟨LL,Lv,LB⟩);clear LL Lv LB c0 c1;go_wp2_with fail;refine HR.out _ _ ⟨_,k+1,rfl,by omega,?_,LZ.out⟩ ?_
  ·have:=LH.out
   rw [aR,HX.out];simpa using this
  ·simp [intOf]
   omega
theorem EG (w0:World) (put:gN ->List UInt8) (no:Nat) (OB:no < 256) (b:Value) (xs:List UInt8) (v:Value) (l:List gN) (B:Nat) (w:World) (Lq:Nat)
  (hE:∀args w,(callFunc Lq args).run prog w= .ok (.enter Lq args) w) (hl:et 2 r9 gW w0 v l) (Lo:Row w B b xs) (hB:B <=w.heap.size) (h0:Below w0.heap.size w0 w)
  (hC:xs.length+(ff put l).length <=100000000)
  (hp:∀e∈l,∀u,gW w0 e u ->∀b xs w B,eg w B b xs ->xs.length <=100000000 ->B <=w.heap.size ->Src w0 w B ->Calls prog Lq #[b, .agg #[u.1,u.2]] w (fE xs (put e) B b w)):
  Calls prog 169 #[b, .int .i64 no,v, .func (.func Lq) #[] #[]] w (mM xs (fM (b8 no) put l) B b w):=by
 have HP:=V hp;have HL:=V hl;have H0:=V h0;have HW:=V (sT.refl Lo);obtain⟨a,cap,rfl,M9,Mj⟩:=et.slice hl;clear hp hl h0 Lo;by_cases q:l.length=0
 ·have f1:=eQ (show(l.length:Int)=0 by omega)
  have HN:=V (show l=[]from aH q);clear q;go_enter func169,ntmps169;go_wp2_with fail;go_ret;exact⟨_,rfl,by rw [HN.out];simpa [fM] using HW.out⟩
 ·have f1:=ed (show ¬ (l.length:Int)=0 by omega)
  have HN:Hid (fM (b8 no) put l=b8 no::(eY (ff put l).length++ff put l)):=V (by
   cases l with
   | nil=>exact absurd rfl q
   | cons x l=>rfl)
  clear q;go_enter func169,ntmps169;go_wp2_with fail;refine(EY w0 put 100000000 (.slice none 0 0) [] _ l w.heap.size w Lq hE HL.out (eg.nil _ _) (ag _) ⟨H0.out,H0.out.size⟩ (by simp only [aL];omega) (by decide) (fun e he u hu b xs w ho hx hB h0=>HP.out e he u hu b xs w _ ho hx hB h0)).mono ?_;rintro e w2 ⟨v2,rfl,ho,hk,hs⟩;rw [bL]at ho;have Lr:=jH hk rfl;have HO:=V ho;have LH:=V (HW.out.below Lr);obtain⟨a2,Lu,QK,-,-,-⟩:=ho.fF;subst QK;have MW:∀i,eH (.slice a2 (ff put l).length Lu) i ->¬ eH b i:=fun i h1 h2=>by
   have:=(eE HO.out h1).1;have:=(HW.out.1.lt h2).2;omega
  have HD:=V MW;clear ho hk hs hE MW;go_wp2_with (first | (at_builtin;refine iB w2 rfl _ _ rfl rfl B b _ rfl LH.out.1 (b8 no) _ ?_ ?_ ?_ ?_ ?_))
  ·rw [fY OB]
  ·rfl
  ·omega
  ·exact LH.out.base hB
  intro v3 w3 ho hk hs;have Ni:=V (LH.out.own ⟨ho,hk,hs⟩);have NP:=V (HO.out.keeps hk HD.out);have Qe:=V (show∀i,eH (.slice a2 (ff put l).length Lu) i ->¬ eH v3 i from fun i h1 h2=>(hs i h2).elim (HD.out i h1) (fun g=>by have:=(eE HO.out h1).2;omega));clear ho hk hs;go_wp2_with fail;refine(fU v3 _ (ff put l).length (by omega) B w3 Ni.out.1 (by simp only [ah,aB];omega) (Ni.out.base hB)).mono ?_;rintro e w4 ⟨v4,rfl,ho,hk,hs⟩;have My:=V (Ni.out.step ⟨ho,hk,hs⟩);have NR:=V (NP.out.keeps hk Qe.out);have hp4:=(eO (ff put l).length).2;clear ho hk hs;go_wp2_with (first | (at_builtin;refine fZ w4 rfl _ _ rfl rfl B v4 _ rfl My.out.1 _ _ rfl NR.out.fF (by simp only [ah,aB];omega) (My.out.base hB) ?_));intro v5 w5 ho hk hs;have OZ:=V (My.out.step ⟨ho,hk,hs⟩);clear ho hk hs;go_wp2_with fail;go_ret;exact⟨_,rfl,by rw [HN.out];exact OZ.out.row⟩
theorem FK (w0:World) (put:gS ->List UInt8) (C:Nat) (b:Value) (xs:List UInt8) (v:Value) (l:List gS) (B:Nat) (w:World) (Lq:Nat)
  (hE:∀args w,(callFunc Lq args).run prog w= .ok (.enter Lq args) w) (hl:et 2 su gU w0 v l) (Lo:eg w B b xs) (hB:B <=w.heap.size) (h0:Src w0 w B)
  (hC:xs.length+(ff put l).length <=C) (Nv:C <=900000000)
  (hp:∀e∈l,∀u,gU w0 e u ->∀b xs w,eg w B b xs ->xs.length <=C ->B <=w.heap.size ->Src w0 w B ->Calls prog Lq #[b, .agg #[u.1,u.2]] w (fE xs (put e) B b w)):
  Calls prog 263 #[b,v, .func (.func Lq) #[] #[]] w (fE xs (ff put l) B b w):=by
 have HP:=V hp;have HL:=V hl;have H0:=V h0;have HC:=V hC;have HW:=V (Wr.refl Lo);have Ri:xs.length <=900000000:=by omega
 obtain⟨a,cap,rfl,M9,Mj⟩:=et.slice hl;clear hp hl h0 hC Lo Nv;go_enter func263,ntmps263;go_wp2_with fail;refine(fU b xs l.length (by omega) B w HW.out.1 (by omega) hB).mono ?_;rintro e w2 ⟨v2,rfl,ho,hk,hs⟩;have LH:=V (HW.out.step ⟨ho,hk,hs⟩);have LZ:=V (H0.out.next HW.out.1 ⟨ho,hk,hs⟩);clear ho hk hs;go_wp2_with fail;refine eJ (fun a' w'=>∃(vb:Value) (k:Nat),a'=fr (vb::gs a' 1 1 (.func (.func Lq) #[] #[]::gs a' 3 10 (.slice a l.length cap:: .int .i64 l.length:: .int .i64 k::gs a' 16 9 [])))/\vS w0 put xs l B b w w' vb k) (fun a' _=>(l.length - (intOf (a'.tmps.getD 15 undef)).toNat)) ?_ ?_
 ·exact⟨_,0,rfl,by omega,by simpa using LH.out,LZ.out⟩
 ·skip
  clear HW LH LZ H0 v2;rintro R a' w1 ⟨vb,k,Lp,hJ⟩ HR;dsimp only [fr,gs]at Lp;generalize slot a'=f at Lp;subst Lp;obtain⟨hk,Oc,N0⟩:=hJ;have HW:=V Oc;have HS:=V N0;have Qd:=V (show(xs++(eY l.length++((l.take k).map put).flatten)).length <=C by
   have h1:=HC.out;have h2:=jK put l k;simp only [ff,ah]at*;omega)
  clear Oc N0;by_cases q:k < l.length;rotate_left
  ·obtain rfl:k=l.length:=by omega
   have HW:=V (show Wr w b B w1 vb (xs++ff put l)by have:=HW.out;rwa [aV]at this);go_wp2_with fail;go_ret;exact⟨_,rfl,HW.out⟩
  obtain⟨x,hx⟩:∃x,l[k]?=some x:=⟨_,aw q⟩;obtain⟨bb,off,u,rfl,Lw,MV,hu⟩:=et.get HL.out hx;have c0:=(HS.out.1.cell Lw).trans (MV 0 _ rfl);have c1:=(HS.out.1.cell Lw).trans (MV 1 _ rfl);rw [aK]at c0;have HU:=V hu;obtain⟨u1,u2⟩:=u;obtain⟨⟨⟨a1,LF,Nk,-,-,-⟩,Mg⟩,-⟩:=id hu;obtain⟨a2,Lu,Nw,-,-⟩:=et.slice Mg;simp only at Nk Nw;subst Nk Nw;clear Mg;have HX:=V hx;clear MV hx hu;go_wp2_with fail;have Mn:=V (HW.out.alloc (.cells #[.slice a1 x.locals.length LF, .slice a2 x.body.length Lu] 69));have NB:=V (HS.out.alloc (.cells #[.slice a1 x.locals.length LF, .slice a2 x.body.length Lu] 69));refine(HP.out x (aO HX.out) _ HU.out _ _ _ Mn.out.1 Qd.out (Mn.out.base hB) NB.out).mono ?_;rintro e w2 ⟨v2,rfl,LL,Lv,LB⟩;have LH:=V (Mn.out.step ⟨LL,Lv,LB⟩);have LZ:=V (NB.out.next Mn.out.1 ⟨LL,Lv,LB⟩);clear LL Lv LB c0 c1;go_wp2_with fail;refine HR.out _ _ ⟨_,k+1,rfl,by omega,?_,LZ.out⟩ ?_
  ·have:=LH.out
   rw [aR,HX.out];simpa using this
  ·simp [intOf]
   omega
theorem Ey (w0:World) (put:gS ->List UInt8) (no:Nat) (OB:no < 256) (b:Value) (xs:List UInt8) (v:Value) (l:List gS) (B:Nat) (w:World) (Lq:Nat)
  (hE:∀args w,(callFunc Lq args).run prog w= .ok (.enter Lq args) w) (hl:et 2 su gU w0 v l) (Lo:Row w B b xs) (hB:B <=w.heap.size) (h0:Below w0.heap.size w0 w)
  (hC:xs.length+(ff put l).length <=100000000)
  (hp:∀e∈l,∀u,gU w0 e u ->∀b xs w B,eg w B b xs ->xs.length <=100000000 ->B <=w.heap.size ->Src w0 w B ->Calls prog Lq #[b, .agg #[u.1,u.2]] w (fE xs (put e) B b w)):
  Calls prog 190 #[b, .int .i64 no,v, .func (.func Lq) #[] #[]] w (mM xs (fM (b8 no) put l) B b w):=by
 have HP:=V hp;have HL:=V hl;have H0:=V h0;have HW:=V (sT.refl Lo);obtain⟨a,cap,rfl,M9,Mj⟩:=et.slice hl;clear hp hl h0 Lo;by_cases q:l.length=0
 ·have f1:=eQ (show(l.length:Int)=0 by omega)
  have HN:=V (show l=[]from aH q);clear q;go_enter func190,ntmps190;go_wp2_with fail;go_ret;exact⟨_,rfl,by rw [HN.out];simpa [fM] using HW.out⟩
 ·have f1:=ed (show ¬ (l.length:Int)=0 by omega)
  have HN:Hid (fM (b8 no) put l=b8 no::(eY (ff put l).length++ff put l)):=V (by
   cases l with
   | nil=>exact absurd rfl q
   | cons x l=>rfl)
  clear q;go_enter func190,ntmps190;go_wp2_with fail;refine(FK w0 put 100000000 (.slice none 0 0) [] _ l w.heap.size w Lq hE HL.out (eg.nil _ _) (ag _) ⟨H0.out,H0.out.size⟩ (by simp only [aL];omega) (by decide) (fun e he u hu b xs w ho hx hB h0=>HP.out e he u hu b xs w _ ho hx hB h0)).mono ?_;rintro e w2 ⟨v2,rfl,ho,hk,hs⟩;rw [bL]at ho;have Lr:=jH hk rfl;have HO:=V ho;have LH:=V (HW.out.below Lr);obtain⟨a2,Lu,QK,-,-,-⟩:=ho.fF;subst QK;have MW:∀i,eH (.slice a2 (ff put l).length Lu) i ->¬ eH b i:=fun i h1 h2=>by
   have:=(eE HO.out h1).1;have:=(HW.out.1.lt h2).2;omega
  have HD:=V MW;clear ho hk hs hE MW;go_wp2_with (first | (at_builtin;refine iB w2 rfl _ _ rfl rfl B b _ rfl LH.out.1 (b8 no) _ ?_ ?_ ?_ ?_ ?_))
  ·rw [fY OB]
  ·rfl
  ·omega
  ·exact LH.out.base hB
  intro v3 w3 ho hk hs;have Ni:=V (LH.out.own ⟨ho,hk,hs⟩);have NP:=V (HO.out.keeps hk HD.out);have Qe:=V (show∀i,eH (.slice a2 (ff put l).length Lu) i ->¬ eH v3 i from fun i h1 h2=>(hs i h2).elim (HD.out i h1) (fun g=>by have:=(eE HO.out h1).2;omega));clear ho hk hs;go_wp2_with fail;refine(fU v3 _ (ff put l).length (by omega) B w3 Ni.out.1 (by simp only [ah,aB];omega) (Ni.out.base hB)).mono ?_;rintro e w4 ⟨v4,rfl,ho,hk,hs⟩;have My:=V (Ni.out.step ⟨ho,hk,hs⟩);have NR:=V (NP.out.keeps hk Qe.out);have hp4:=(eO (ff put l).length).2;clear ho hk hs;go_wp2_with (first | (at_builtin;refine fZ w4 rfl _ _ rfl rfl B v4 _ rfl My.out.1 _ _ rfl NR.out.fF (by simp only [ah,aB];omega) (My.out.base hB) ?_));intro v5 w5 ho hk hs;have OZ:=V (My.out.step ⟨ho,hk,hs⟩);clear ho hk hs;go_wp2_with fail;go_ret;exact⟨_,rfl,by rw [HN.out];exact OZ.out.row⟩
theorem Ed (w0:World) (put:jb ->List UInt8) (C:Nat) (b:Value) (xs:List UInt8) (v:Value) (l:List jb) (B:Nat) (w:World) (Lq:Nat)
  (hE:∀args w,(callFunc Lq args).run prog w= .ok (.enter Lq args) w) (hl:et 2 uM ig w0 v l) (Lo:eg w B b xs) (hB:B <=w.heap.size) (h0:Src w0 w B)
  (hC:xs.length+(ff put l).length <=C) (Nv:C <=900000000)
  (hp:∀e∈l,∀u,ig w0 e u ->∀b xs w,eg w B b xs ->xs.length <=C ->B <=w.heap.size ->Src w0 w B ->Calls prog Lq #[b, .agg #[.int .i64 e.off,u]] w (fE xs (put e) B b w)):
  Calls prog 262 #[b,v, .func (.func Lq) #[] #[]] w (fE xs (ff put l) B b w):=by
 have HP:=V hp;have HL:=V hl;have H0:=V h0;have HC:=V hC;have HW:=V (Wr.refl Lo);have Ri:xs.length <=900000000:=by omega
 obtain⟨a,cap,rfl,M9,Mj⟩:=et.slice hl;clear hp hl h0 hC Lo Nv;go_enter func262,ntmps262;go_wp2_with fail;refine(fU b xs l.length (by omega) B w HW.out.1 (by omega) hB).mono ?_;rintro e w2 ⟨v2,rfl,ho,hk,hs⟩;have LH:=V (HW.out.step ⟨ho,hk,hs⟩);have LZ:=V (H0.out.next HW.out.1 ⟨ho,hk,hs⟩);clear ho hk hs;go_wp2_with fail;refine eJ (fun a' w'=>∃(vb:Value) (k:Nat),a'=fr (vb::gs a' 1 1 (.func (.func Lq) #[] #[]::gs a' 3 10 (.slice a l.length cap:: .int .i64 l.length:: .int .i64 k::gs a' 16 9 [])))/\vS w0 put xs l B b w w' vb k) (fun a' _=>(l.length - (intOf (a'.tmps.getD 15 undef)).toNat)) ?_ ?_
 ·exact⟨_,0,rfl,by omega,by simpa using LH.out,LZ.out⟩
 ·skip
  clear HW LH LZ H0 v2;rintro R a' w1 ⟨vb,k,Lp,hJ⟩ HR;dsimp only [fr,gs]at Lp;generalize slot a'=f at Lp;subst Lp;obtain⟨hk,Oc,N0⟩:=hJ;have HW:=V Oc;have HS:=V N0;have Qd:=V (show(xs++(eY l.length++((l.take k).map put).flatten)).length <=C by
   have h1:=HC.out;have h2:=jK put l k;simp only [ff,ah]at*;omega)
  clear Oc N0;by_cases q:k < l.length;rotate_left
  ·obtain rfl:k=l.length:=by omega
   have HW:=V (show Wr w b B w1 vb (xs++ff put l)by have:=HW.out;rwa [aV]at this);go_wp2_with fail;go_ret;exact⟨_,rfl,HW.out⟩
  obtain⟨x,hx⟩:∃x,l[k]?=some x:=⟨_,aw q⟩;obtain⟨bb,off,u,rfl,Lw,MV,hu⟩:=et.get HL.out hx;have c0:=(HS.out.1.cell Lw).trans (MV 0 _ rfl);have c1:=(HS.out.1.cell Lw).trans (MV 1 _ rfl);rw [aK]at c0;have HU:=V hu;obtain⟨⟨a1,LF,rfl,-,-,-⟩,-⟩:=id hu;have HX:=V hx;clear MV hx hu;go_wp2_with fail;have Mn:=V (HW.out.alloc (.cells #[.int .i64 x.off, .slice a1 x.funcs.length LF] 95));have NB:=V (HS.out.alloc (.cells #[.int .i64 x.off, .slice a1 x.funcs.length LF] 95));refine(HP.out x (aO HX.out) _ HU.out _ _ _ Mn.out.1 Qd.out (Mn.out.base hB) NB.out).mono ?_;rintro e w2 ⟨v2,rfl,LL,Lv,LB⟩;have LH:=V (Mn.out.step ⟨LL,Lv,LB⟩);have LZ:=V (NB.out.next Mn.out.1 ⟨LL,Lv,LB⟩);clear LL Lv LB c0 c1;go_wp2_with fail;refine HR.out _ _ ⟨_,k+1,rfl,by omega,?_,LZ.out⟩ ?_
  ·have:=LH.out
   rw [aR,HX.out];simpa using this
  ·simp [intOf]
   omega
theorem GP (w0:World) (put:jb ->List UInt8) (no:Nat) (OB:no < 256) (b:Value) (xs:List UInt8) (v:Value) (l:List jb) (B:Nat) (w:World) (Lq:Nat)
  (hE:∀args w,(callFunc Lq args).run prog w= .ok (.enter Lq args) w) (hl:et 2 uM ig w0 v l) (Lo:Row w B b xs) (hB:B <=w.heap.size) (h0:Below w0.heap.size w0 w)
  (hC:xs.length+(ff put l).length <=100000000)
  (hp:∀e∈l,∀u,ig w0 e u ->∀b xs w B,eg w B b xs ->xs.length <=100000000 ->B <=w.heap.size ->Src w0 w B ->Calls prog Lq #[b, .agg #[.int .i64 e.off,u]] w (fE xs (put e) B b w)):
  Calls prog 187 #[b, .int .i64 no,v, .func (.func Lq) #[] #[]] w (mM xs (fM (b8 no) put l) B b w):=by
 have HP:=V hp;have HL:=V hl;have H0:=V h0;have HW:=V (sT.refl Lo);obtain⟨a,cap,rfl,M9,Mj⟩:=et.slice hl;clear hp hl h0 Lo;by_cases q:l.length=0
 ·have f1:=eQ (show(l.length:Int)=0 by omega)
  have HN:=V (show l=[]from aH q);clear q;go_enter func187,ntmps187;go_wp2_with fail;go_ret;exact⟨_,rfl,by rw [HN.out];simpa [fM] using HW.out⟩
 ·have f1:=ed (show ¬ (l.length:Int)=0 by omega)
  have HN:Hid (fM (b8 no) put l=b8 no::(eY (ff put l).length++ff put l)):=V (by
   cases l with
   | nil=>exact absurd rfl q
   | cons x l=>rfl)
  clear q;go_enter func187,ntmps187;go_wp2_with fail;refine(Ed w0 put 100000000 (.slice none 0 0) [] _ l w.heap.size w Lq hE HL.out (eg.nil _ _) (ag _) ⟨H0.out,H0.out.size⟩ (by simp only [aL];omega) (by decide) (fun e he u hu b xs w ho hx hB h0=>HP.out e he u hu b xs w _ ho hx hB h0)).mono ?_;rintro e w2 ⟨v2,rfl,ho,hk,hs⟩;rw [bL]at ho;have Lr:=jH hk rfl;have HO:=V ho;have LH:=V (HW.out.below Lr);obtain⟨a2,Lu,QK,-,-,-⟩:=ho.fF;subst QK;have MW:∀i,eH (.slice a2 (ff put l).length Lu) i ->¬ eH b i:=fun i h1 h2=>by
   have:=(eE HO.out h1).1;have:=(HW.out.1.lt h2).2;omega
  have HD:=V MW;clear ho hk hs hE MW;go_wp2_with (first | (at_builtin;refine iB w2 rfl _ _ rfl rfl B b _ rfl LH.out.1 (b8 no) _ ?_ ?_ ?_ ?_ ?_))
  ·rw [fY OB]
  ·rfl
  ·omega
  ·exact LH.out.base hB
  intro v3 w3 ho hk hs;have Ni:=V (LH.out.own ⟨ho,hk,hs⟩);have NP:=V (HO.out.keeps hk HD.out);have Qe:=V (show∀i,eH (.slice a2 (ff put l).length Lu) i ->¬ eH v3 i from fun i h1 h2=>(hs i h2).elim (HD.out i h1) (fun g=>by have:=(eE HO.out h1).2;omega));clear ho hk hs;go_wp2_with fail;refine(fU v3 _ (ff put l).length (by omega) B w3 Ni.out.1 (by simp only [ah,aB];omega) (Ni.out.base hB)).mono ?_;rintro e w4 ⟨v4,rfl,ho,hk,hs⟩;have My:=V (Ni.out.step ⟨ho,hk,hs⟩);have NR:=V (NP.out.keeps hk Qe.out);have hp4:=(eO (ff put l).length).2;clear ho hk hs;go_wp2_with (first | (at_builtin;refine fZ w4 rfl _ _ rfl rfl B v4 _ rfl My.out.1 _ _ rfl NR.out.fF (by simp only [ah,aB];omega) (My.out.base hB) ?_));intro v5 w5 ho hk hs;have OZ:=V (My.out.step ⟨ho,hk,hs⟩);clear ho hk hs;go_wp2_with fail;go_ret;exact⟨_,rfl,by rw [HN.out];exact OZ.out.row⟩
theorem FL (w0:World) (put:gD ->List UInt8) (C:Nat) (b:Value) (xs:List UInt8) (v:Value) (l:List gD) (B:Nat) (w:World) (Lq:Nat)
  (hE:∀args w,(callFunc Lq args).run prog w= .ok (.enter Lq args) w) (hl:et 2 qs gE w0 v l) (Lo:eg w B b xs) (hB:B <=w.heap.size) (h0:Src w0 w B)
  (hC:xs.length+(ff put l).length <=C) (Nv:C <=900000000)
  (hp:∀e∈l,∀u,gE w0 e u ->∀b xs w,eg w B b xs ->xs.length <=C ->B <=w.heap.size ->Src w0 w B ->Calls prog Lq #[b, .agg #[.int .i64 e.off,u]] w (fE xs (put e) B b w)):
  Calls prog 267 #[b,v, .func (.func Lq) #[] #[]] w (fE xs (ff put l) B b w):=by
 have HP:=V hp;have HL:=V hl;have H0:=V h0;have HC:=V hC;have HW:=V (Wr.refl Lo);have Ri:xs.length <=900000000:=by omega
 obtain⟨a,cap,rfl,M9,Mj⟩:=et.slice hl;clear hp hl h0 hC Lo Nv;go_enter func267,ntmps267;go_wp2_with fail;refine(fU b xs l.length (by omega) B w HW.out.1 (by omega) hB).mono ?_;rintro e w2 ⟨v2,rfl,ho,hk,hs⟩;have LH:=V (HW.out.step ⟨ho,hk,hs⟩);have LZ:=V (H0.out.next HW.out.1 ⟨ho,hk,hs⟩);clear ho hk hs;go_wp2_with fail;refine eJ (fun a' w'=>∃(vb:Value) (k:Nat),a'=fr (vb::gs a' 1 1 (.func (.func Lq) #[] #[]::gs a' 3 10 (.slice a l.length cap:: .int .i64 l.length:: .int .i64 k::gs a' 16 9 [])))/\vS w0 put xs l B b w w' vb k) (fun a' _=>(l.length - (intOf (a'.tmps.getD 15 undef)).toNat)) ?_ ?_
 ·exact⟨_,0,rfl,by omega,by simpa using LH.out,LZ.out⟩
 ·skip
  clear HW LH LZ H0 v2;rintro R a' w1 ⟨vb,k,Lp,hJ⟩ HR;dsimp only [fr,gs]at Lp;generalize slot a'=f at Lp;subst Lp;obtain⟨hk,Oc,N0⟩:=hJ;have HW:=V Oc;have HS:=V N0;have Qd:=V (show(xs++(eY l.length++((l.take k).map put).flatten)).length <=C by
   have h1:=HC.out;have h2:=jK put l k;simp only [ff,ah]at*;omega)
  clear Oc N0;by_cases q:k < l.length;rotate_left
  ·obtain rfl:k=l.length:=by omega
   have HW:=V (show Wr w b B w1 vb (xs++ff put l)by have:=HW.out;rwa [aV]at this);go_wp2_with fail;go_ret;exact⟨_,rfl,HW.out⟩
  obtain⟨x,hx⟩:∃x,l[k]?=some x:=⟨_,aw q⟩;obtain⟨bb,off,u,rfl,Lw,MV,hu⟩:=et.get HL.out hx;have c0:=(HS.out.1.cell Lw).trans (MV 0 _ rfl);have c1:=(HS.out.1.cell Lw).trans (MV 1 _ rfl);rw [aK]at c0;have HU:=V hu;obtain⟨⟨a1,LF,rfl,-,-,-⟩,-⟩:=id hu;have HX:=V hx;clear MV hx hu;go_wp2_with fail;have Mn:=V (HW.out.alloc (.cells #[.int .i64 x.off, .slice a1 x.bytes.length LF] 99));have NB:=V (HS.out.alloc (.cells #[.int .i64 x.off, .slice a1 x.bytes.length LF] 99));refine(HP.out x (aO HX.out) _ HU.out _ _ _ Mn.out.1 Qd.out (Mn.out.base hB) NB.out).mono ?_;rintro e w2 ⟨v2,rfl,LL,Lv,LB⟩;have LH:=V (Mn.out.step ⟨LL,Lv,LB⟩);have LZ:=V (NB.out.next Mn.out.1 ⟨LL,Lv,LB⟩);clear LL Lv LB c0 c1;go_wp2_with fail;refine HR.out _ _ ⟨_,k+1,rfl,by omega,?_,LZ.out⟩ ?_
  ·have:=LH.out
   rw [aR,HX.out];simpa using this
  ·simp [intOf]
   omega
theorem Fv (w0:World) (put:gD ->List UInt8) (no:Nat) (OB:no < 256) (b:Value) (xs:List UInt8) (v:Value) (l:List gD) (B:Nat) (w:World) (Lq:Nat)
  (hE:∀args w,(callFunc Lq args).run prog w= .ok (.enter Lq args) w) (hl:et 2 qs gE w0 v l) (Lo:Row w B b xs) (hB:B <=w.heap.size) (h0:Below w0.heap.size w0 w)
  (hC:xs.length+(ff put l).length <=100000000)
  (hp:∀e∈l,∀u,gE w0 e u ->∀b xs w B,eg w B b xs ->xs.length <=100000000 ->B <=w.heap.size ->Src w0 w B ->Calls prog Lq #[b, .agg #[.int .i64 e.off,u]] w (fE xs (put e) B b w)):
  Calls prog 192 #[b, .int .i64 no,v, .func (.func Lq) #[] #[]] w (mM xs (fM (b8 no) put l) B b w):=by
 have HP:=V hp;have HL:=V hl;have H0:=V h0;have HW:=V (sT.refl Lo);obtain⟨a,cap,rfl,M9,Mj⟩:=et.slice hl;clear hp hl h0 Lo;by_cases q:l.length=0
 ·have f1:=eQ (show(l.length:Int)=0 by omega)
  have HN:=V (show l=[]from aH q);clear q;go_enter func192,ntmps192;go_wp2_with fail;go_ret;exact⟨_,rfl,by rw [HN.out];simpa [fM] using HW.out⟩
 ·have f1:=ed (show ¬ (l.length:Int)=0 by omega)
  have HN:Hid (fM (b8 no) put l=b8 no::(eY (ff put l).length++ff put l)):=V (by
   cases l with
   | nil=>exact absurd rfl q
   | cons x l=>rfl)
  clear q;go_enter func192,ntmps192;go_wp2_with fail;refine(FL w0 put 100000000 (.slice none 0 0) [] _ l w.heap.size w Lq hE HL.out (eg.nil _ _) (ag _) ⟨H0.out,H0.out.size⟩ (by simp only [aL];omega) (by decide) (fun e he u hu b xs w ho hx hB h0=>HP.out e he u hu b xs w _ ho hx hB h0)).mono ?_;rintro e w2 ⟨v2,rfl,ho,hk,hs⟩;rw [bL]at ho;have Lr:=jH hk rfl;have HO:=V ho;have LH:=V (HW.out.below Lr);obtain⟨a2,Lu,QK,-,-,-⟩:=ho.fF;subst QK;have MW:∀i,eH (.slice a2 (ff put l).length Lu) i ->¬ eH b i:=fun i h1 h2=>by
   have:=(eE HO.out h1).1;have:=(HW.out.1.lt h2).2;omega
  have HD:=V MW;clear ho hk hs hE MW;go_wp2_with (first | (at_builtin;refine iB w2 rfl _ _ rfl rfl B b _ rfl LH.out.1 (b8 no) _ ?_ ?_ ?_ ?_ ?_))
  ·rw [fY OB]
  ·rfl
  ·omega
  ·exact LH.out.base hB
  intro v3 w3 ho hk hs;have Ni:=V (LH.out.own ⟨ho,hk,hs⟩);have NP:=V (HO.out.keeps hk HD.out);have Qe:=V (show∀i,eH (.slice a2 (ff put l).length Lu) i ->¬ eH v3 i from fun i h1 h2=>(hs i h2).elim (HD.out i h1) (fun g=>by have:=(eE HO.out h1).2;omega));clear ho hk hs;go_wp2_with fail;refine(fU v3 _ (ff put l).length (by omega) B w3 Ni.out.1 (by simp only [ah,aB];omega) (Ni.out.base hB)).mono ?_;rintro e w4 ⟨v4,rfl,ho,hk,hs⟩;have My:=V (Ni.out.step ⟨ho,hk,hs⟩);have NR:=V (NP.out.keeps hk Qe.out);have hp4:=(eO (ff put l).length).2;clear ho hk hs;go_wp2_with (first | (at_builtin;refine fZ w4 rfl _ _ rfl rfl B v4 _ rfl My.out.1 _ _ rfl NR.out.fF (by simp only [ah,aB];omega) (My.out.base hB) ?_));intro v5 w5 ho hk hs;have OZ:=V (My.out.step ⟨ho,hk,hs⟩);clear ho hk hs;go_wp2_with fail;go_ret;exact⟨_,rfl,by rw [HN.out];exact OZ.out.row⟩
def A5 (m:eI) (w:World) (e:Ending) (w':World):Prop:=∃v,e= .returned v/\eW w' v (fJ m)/\Below w.heap.size w w'
theorem eD.Kv {w:World} {u:eL} {m:eI} (h:eD w u m):∀x∈m.eA,∀y∈x.body,y.ok:=by
 obtain⟨_,_,_,_,_,_,⟨us,h1,_,h3⟩,_⟩:=h;intro x hx;obtain⟨i,hi⟩:=List.getElem?_of_mem hx;have Lw:=(aM.1 hi).1;obtain⟨u',hu⟩:∃u',us[i]?=some u':=⟨_,aw (by rw [h1];exact Lw)⟩;exact(h3 i x u' hi hu).1.2.Kv
theorem wF {least fB:Int} {x y:gf} (h:x.may least fB) (ho:x.ok) (hy:y∈oneOf x):0 <=y.min/\ -1 <=y.max/\y.ok:=by
 obtain⟨rfl,hh⟩:=xF hy;unfold gf.may at h;rw [aJ hh]at h;exact⟨h.1.1,h.2.1,ho⟩
theorem sC (m:eI) (u:eL) (w:World) (hm:eD w u m) (h1:m.wu):Calls prog 98 #[.agg (u.cells m)] w (A5 m w):=by
 have HI:=V hm;have HF:=V (h1.fits hm.2.2.2.2.2.2.2.2.2.2.2.2.1 hm.Kv);have HM:=V h1;obtain⟨a0,c0,a1,c1,a2,c2,a3,c3,a4,c4,a5,c5,a6,c6,a7,c7,rfl⟩:=hm.open;clear hm h1;simp only [eL.cells];have HX:=V ((eP.new w #[.slice a0 m.types.length c0, .slice a1 m.imports.length c1, .slice a2 m.funcs.length c2, .bool m.table.has, .int .i64 m.table.min, .int .i64 m.table.max, .bool m.mem.has, .int .i64 m.mem.min, .int .i64 m.mem.max, .slice a3 m.globals.length c3, .slice a4 m.ep.length c4, .slice a5 m.elems.length c5, .slice a6 m.eA.length c6, .slice a7 m.eK.length c7] 62).alloc (.cells #[.int .u8 0, .int .u8 97, .int .u8 115, .int .u8 109, .int .u8 1, .int .u8 0, .int .u8 0, .int .u8 0] 5 (8,9)));have HS:=V (((an w.heap.size w).alloc (ag _) (.cells #[.slice a0 m.types.length c0, .slice a1 m.imports.length c1, .slice a2 m.funcs.length c2, .bool m.table.has, .int .i64 m.table.min, .int .i64 m.table.max, .bool m.mem.has, .int .i64 m.mem.min, .int .i64 m.mem.max, .slice a3 m.globals.length c3, .slice a4 m.ep.length c4, .slice a5 m.elems.length c5, .slice a6 m.eA.length c6, .slice a7 m.eK.length c7] 62)).alloc (by rw [aE];omega) (.cells #[.int .u8 0, .int .u8 97, .int .u8 115, .int .u8 109, .int .u8 1, .int .u8 0, .int .u8 0, .int .u8 0] 5 (8,9)));have HW:Hid (sT _ _ (w.heap.size+1) ((w.alloc (.cells #[.slice a0 m.types.length c0, .slice a1 m.imports.length c1, .slice a2 m.funcs.length c2, .bool m.table.has, .int .i64 m.table.min, .int .i64 m.table.max, .bool m.mem.has, .int .i64 m.mem.min, .int .i64 m.mem.max, .slice a3 m.globals.length c3, .slice a4 m.ep.length c4, .slice a5 m.elems.length c5, .slice a6 m.eA.length c6, .slice a7 m.eK.length c7] 62)).alloc (.cells #[.int .u8 0, .int .u8 97, .int .u8 115, .int .u8 109, .int .u8 1, .int .u8 0, .int .u8 0, .int .u8 0] 5 (8,9))) (.slice (some ⟨w.heap.size+1,0,none⟩) 8 8) fL):=V (sT.refl (.inr (by
  have hb:=dw (w.alloc (.cells #[.slice a0 m.types.length c0, .slice a1 m.imports.length c1, .slice a2 m.funcs.length c2, .bool m.table.has, .int .i64 m.table.min, .int .i64 m.table.max, .bool m.mem.has, .int .i64 m.mem.min, .int .i64 m.mem.max, .slice a3 m.globals.length c3, .slice a4 m.ep.length c4, .slice a5 m.elems.length c5, .slice a6 m.eA.length c6, .slice a7 m.eK.length c7] 62)) (.cells #[.int .u8 0, .int .u8 97, .int .u8 115, .int .u8 109, .int .u8 1, .int .u8 0, .int .u8 0, .int .u8 0] 5 (8,9));rw [aE]at hb;refine⟨w.heap.size+1,rfl,⟨_,8,rfl,ag _,by decide,fun i x hx=>⟨w.heap.size+1,0,rfl,?_⟩⟩,ag _,by rw [aE,aE];omega⟩;rw [World.cell?,bP];simp only [hb]
  match i,hx with
  | 0,hx | 1,hx | 2,hx | 3,hx | 4,hx | 5,hx | 6,hx | 7,hx=>
   injection hx with hx;subst hx;rfl)))
 have MR:=Lib.run_convert_bytes_const (P:=prog) (w.alloc (.cells #[.slice a0 m.types.length c0, .slice a1 m.imports.length c1, .slice a2 m.funcs.length c2, .bool m.table.has, .int .i64 m.table.min, .int .i64 m.table.max, .bool m.mem.has, .int .i64 m.mem.min, .int .i64 m.mem.max, .slice a3 m.globals.length c3, .slice a4 m.ep.length c4, .slice a5 m.elems.length c5, .slice a6 m.eA.length c6, .slice a7 m.eK.length c7] 62)) 97 5 #[.int .u8 0, .int .u8 97, .int .u8 115, .int .u8 109, .int .u8 1, .int .u8 0, .int .u8 0, .int .u8 0] 8 8 (by kernel_rfl) (by kernel_rfl);rw [aE]at MR;go_enter func98,ntmps98;go_wp2_with fail;generalize(w.alloc (.cells #[.slice a0 m.types.length c0, .slice a1 m.imports.length c1, .slice a2 m.funcs.length c2, .bool m.table.has, .int .i64 m.table.min, .int .i64 m.table.max, .bool m.mem.has, .int .i64 m.mem.min, .int .i64 m.mem.max, .slice a3 m.globals.length c3, .slice a4 m.ep.length c4, .slice a5 m.elems.length c5, .slice a6 m.eA.length c6, .slice a7 m.eK.length c7] 62)).alloc (.cells #[.int .u8 0, .int .u8 97, .int .u8 115, .int .u8 109, .int .u8 1, .int .u8 0, .int .u8 0, .int .u8 0] 5 (8,9))=w1 at HX HS HW⊢;have HB:=V (show w.heap.size+1 <=w1.heap.size from HX.out.lt);have g0:w1.cell? ⟨w.heap.size,0,none⟩=some (.slice a0 m.types.length c0):=HX.out.cell 0;go_wp2_with fail;refine(EG w lh 1 (by omega) _ _ _ m.types (w.heap.size+1) w1 170 (fun _ _=>by rfl) HI.out.1 HW.out.1 HB.out HS.out (by have hf:=HF.out;have hh:fL.length=8:=rfl;have:=hf.v1;have:=hf.v2;have:=hf.v3;have:=hf.v4;have:=hf.v5;have:=hf.v6;have:=hf.v7;have:=hf.v9;have:=hf.v10;have:=hf.v11;have:=hf.s1;have:=hf.s2;have:=hf.s3;have:=hf.s4;have:=hf.s5;have:=hf.s6;have:=hf.s7;have:=hf.s9;have:=hf.G3;have:=hf.G4;(try simp only [ah]);omega) (fun e he u hu b xs w1 B ho hx hB hs=>IP _ e u hu (HM.out.2.1.1.1.2 e he) b xs w1 B ho hx hB hs)).mono ?_;rintro e w2 ⟨v2,rfl,ho,hk,hs⟩;have HX:=V (HX.out.keeps hk (fun h=>by have:=(HW.out.1.lt h).1;omega));have HS:=V (HS.out.trans (hk.below HS.out.size (fun i hi=>by have:=(HW.out.1.lt hi).1;omega)));have HW:=V (HW.out.step ⟨ho,hk,hs⟩);have HB:=V (aW HB.out hk.size);clear ho hk hs;clear g0;have g1:w2.cell? ⟨w.heap.size,1,none⟩=some (.slice a1 m.imports.length c1):=HX.out.cell 1;go_wp2_with fail;refine(Eh w nQ 2 (by omega) _ _ _ m.imports (w.heap.size+1) w2 174 (fun _ _=>by rfl) HI.out.2.1 HW.out.1 HB.out HS.out (by have hf:=HF.out;have hh:fL.length=8:=rfl;have:=hf.v1;have:=hf.v2;have:=hf.v3;have:=hf.v4;have:=hf.v5;have:=hf.v6;have:=hf.v7;have:=hf.v9;have:=hf.v10;have:=hf.v11;have:=hf.s1;have:=hf.s2;have:=hf.s3;have:=hf.s4;have:=hf.s5;have:=hf.s6;have:=hf.s7;have:=hf.s9;have:=hf.G3;have:=hf.G4;(try simp only [ah]);omega) (fun e he b xs w1 B ho hx hB _=>Hj e b xs w1 B ho hx hB (HM.out.2.1.1.2.1.2 e he))).mono ?_;rintro e w3 ⟨v3,rfl,ho,hk,hs⟩;have HX:=V (HX.out.keeps hk (fun h=>by have:=(HW.out.1.lt h).1;omega));have HS:=V (HS.out.trans (hk.below HS.out.size (fun i hi=>by have:=(HW.out.1.lt hi).1;omega)));have HW:=V (HW.out.step ⟨ho,hk,hs⟩);have HB:=V (aW HB.out hk.size);clear ho hk hs;clear g1;have g2:w3.cell? ⟨w.heap.size,2,none⟩=some (.slice a2 m.funcs.length c2):=HX.out.cell 2;go_wp2_with fail;refine(Cd w sb 3 (by omega) _ _ _ m.funcs (w.heap.size+1) w3 175 (fun _ _=>by rfl) HI.out.2.2.1 HW.out.1 HB.out HS.out (by have hf:=HF.out;have hh:fL.length=8:=rfl;have:=hf.v1;have:=hf.v2;have:=hf.v3;have:=hf.v4;have:=hf.v5;have:=hf.v6;have:=hf.v7;have:=hf.v9;have:=hf.v10;have:=hf.v11;have:=hf.s1;have:=hf.s2;have:=hf.s3;have:=hf.s4;have:=hf.s5;have:=hf.s6;have:=hf.s7;have:=hf.s9;have:=hf.G3;have:=hf.G4;(try simp only [ah]);omega) (fun e he b xs w1 B ho hx hB _=>ng e (HM.out.2.1.1.2.2.2 e he) b xs B w1 ho (by omega) hB)).mono ?_;rintro e w4 ⟨v4,rfl,ho,hk,hs⟩;have HX:=V (HX.out.keeps hk (fun h=>by have:=(HW.out.1.lt h).1;omega));have HS:=V (HS.out.trans (hk.below HS.out.size (fun i hi=>by have:=(HW.out.1.lt hi).1;omega)));have HW:=V (HW.out.step ⟨ho,hk,hs⟩);have HB:=V (aW HB.out hk.size);clear ho hk hs;clear g2;have g3:w4.cell? ⟨w.heap.size,3,none⟩=some (.bool m.table.has):=HX.out.cell 3;have g4:w4.cell? ⟨w.heap.size,4,none⟩=some (.int .i64 m.table.min):=HX.out.cell 4;have g5:w4.cell? ⟨w.heap.size,5,none⟩=some (.int .i64 m.table.max):=HX.out.cell 5;go_wp2_with fail;refine(CM m.table _).mono ?_;rintro e w5 ⟨vo,rfl,hl,hb⟩;have HX:=V (HX.out.below hb HX.out.lt);have HS:=V (HS.out.trans (hb.mono HS.out.size));have HW:=V (HW.out.below hb);have HB:=V (aW HB.out hb.size);have HLL:=V (show ew 3 yd w5 vo (oneOf m.table)from hl);clear hl hb;obtain⟨ax,cx,rfl,hcx1,hcx2⟩:=fg HLL.out;clear hcx1 hcx2;go_wp2_with fail;refine(yI w5 jC 4 (by omega) _ _ _ (oneOf m.table) (w.heap.size+1) w5 180 (fun _ _=>by rfl) HLL.out HW.out.1 HB.out (an _ _) (by have hf:=HF.out;have hh:fL.length=8:=rfl;have:=hf.v1;have:=hf.v2;have:=hf.v3;have:=hf.v4;have:=hf.v5;have:=hf.v6;have:=hf.v7;have:=hf.v9;have:=hf.v10;have:=hf.v11;have:=hf.s1;have:=hf.s2;have:=hf.s3;have:=hf.s4;have:=hf.s5;have:=hf.s6;have:=hf.s7;have:=hf.s9;have:=hf.G3;have:=hf.G4;(try simp only [ah]);omega) (fun e he b xs w1 B ho hx hB _=>by obtain⟨h1,h2,h3⟩:=wF HM.out.2.2.1 HI.out.2.2.2.2.2.2.2.2.2.2.1 he;exact Io e b xs w1 B ho hx hB h1 h2 h3)).mono ?_;rintro e w6 ⟨v6,rfl,ho,hk,hs⟩;have HX:=V (HX.out.keeps hk (fun h=>by have:=(HW.out.1.lt h).1;omega));have HS:=V (HS.out.trans (hk.below HS.out.size (fun i hi=>by have:=(HW.out.1.lt hi).1;omega)));have HW:=V (HW.out.step ⟨ho,hk,hs⟩);have HB:=V (aW HB.out hk.size);clear ho hk hs;clear g3;clear g4;clear g5;have g6:w6.cell? ⟨w.heap.size,6,none⟩=some (.bool m.mem.has):=HX.out.cell 6;have g7:w6.cell? ⟨w.heap.size,7,none⟩=some (.int .i64 m.mem.min):=HX.out.cell 7;have g8:w6.cell? ⟨w.heap.size,8,none⟩=some (.int .i64 m.mem.max):=HX.out.cell 8;go_wp2_with fail;refine(CM m.mem _).mono ?_;rintro e w7 ⟨vo,rfl,hl,hb⟩;have HX:=V (HX.out.below hb HX.out.lt);have HS:=V (HS.out.trans (hb.mono HS.out.size));have HW:=V (HW.out.below hb);have HB:=V (aW HB.out hb.size);have HLL:=V (show ew 3 yd w7 vo (oneOf m.mem)from hl);clear hl hb;obtain⟨ax,cx,rfl,hcx1,hcx2⟩:=fg HLL.out;clear hcx1 hcx2;go_wp2_with fail;refine(yI w7 gQ 5 (by omega) _ _ _ (oneOf m.mem) (w.heap.size+1) w7 181 (fun _ _=>by rfl) HLL.out HW.out.1 HB.out (an _ _) (by have hf:=HF.out;have hh:fL.length=8:=rfl;have:=hf.v1;have:=hf.v2;have:=hf.v3;have:=hf.v4;have:=hf.v5;have:=hf.v6;have:=hf.v7;have:=hf.v9;have:=hf.v10;have:=hf.v11;have:=hf.s1;have:=hf.s2;have:=hf.s3;have:=hf.s4;have:=hf.s5;have:=hf.s6;have:=hf.s7;have:=hf.s9;have:=hf.G3;have:=hf.G4;(try simp only [ah]);omega) (fun e he b xs w1 B ho hx hB _=>by obtain⟨h1,h2,h3⟩:=wF HM.out.2.2.2 HI.out.2.2.2.2.2.2.2.2.2.2.2.1 he;exact qo b xs e B w1 ho (by omega) hB h1 h2 h3)).mono ?_;rintro e w8 ⟨v8,rfl,ho,hk,hs⟩;have HX:=V (HX.out.keeps hk (fun h=>by have:=(HW.out.1.lt h).1;omega));have HS:=V (HS.out.trans (hk.below HS.out.size (fun i hi=>by have:=(HW.out.1.lt hi).1;omega)));have HW:=V (HW.out.step ⟨ho,hk,hs⟩);have HB:=V (aW HB.out hk.size);clear ho hk hs;clear g6;clear g7;clear g8;have g9:w8.cell? ⟨w.heap.size,9,none⟩=some (.slice a3 m.globals.length c3):=HX.out.cell 9;go_wp2_with fail;refine(ER w kV 6 (by omega) _ _ _ m.globals (w.heap.size+1) w8 183 (fun _ _=>by rfl) HI.out.2.2.2.1 HW.out.1 HB.out HS.out (by have hf:=HF.out;have hh:fL.length=8:=rfl;have:=hf.v1;have:=hf.v2;have:=hf.v3;have:=hf.v4;have:=hf.v5;have:=hf.v6;have:=hf.v7;have:=hf.v9;have:=hf.v10;have:=hf.v11;have:=hf.s1;have:=hf.s2;have:=hf.s3;have:=hf.s4;have:=hf.s5;have:=hf.s6;have:=hf.s7;have:=hf.s9;have:=hf.G3;have:=hf.G4;(try simp only [ah]);omega) (fun e he b xs w1 B ho hx hB _=>IZ e b xs w1 B ho hx hB (HM.out.2.1.2.1.2 e he) (HI.out.2.2.2.2.2.2.2.2.2.2.2.2.1 e he))).mono ?_;rintro e w9 ⟨v9,rfl,ho,hk,hs⟩;have HX:=V (HX.out.keeps hk (fun h=>by have:=(HW.out.1.lt h).1;omega));have HS:=V (HS.out.trans (hk.below HS.out.size (fun i hi=>by have:=(HW.out.1.lt hi).1;omega)));have HW:=V (HW.out.step ⟨ho,hk,hs⟩);have HB:=V (aW HB.out hk.size);clear ho hk hs;clear g9;have Mb:w9.cell? ⟨w.heap.size,10,none⟩=some (.slice a4 m.ep.length c4):=HX.out.cell 10;go_wp2_with fail;refine(FI w oo 7 (by omega) _ _ _ m.ep (w.heap.size+1) w9 186 (fun _ _=>by rfl) HI.out.2.2.2.2.1 HW.out.1 HB.out HS.out (by have hf:=HF.out;have hh:fL.length=8:=rfl;have:=hf.v1;have:=hf.v2;have:=hf.v3;have:=hf.v4;have:=hf.v5;have:=hf.v6;have:=hf.v7;have:=hf.v9;have:=hf.v10;have:=hf.v11;have:=hf.s1;have:=hf.s2;have:=hf.s3;have:=hf.s4;have:=hf.s5;have:=hf.s6;have:=hf.s7;have:=hf.s9;have:=hf.G3;have:=hf.G4;(try simp only [ah]);omega) (fun e he b xs w1 B ho hx hB _=>Hu e b xs w1 B ho hx hB (HM.out.2.1.2.2.1.2 e he))).mono ?_;rintro e w10 ⟨v10,rfl,ho,hk,hs⟩;have HX:=V (HX.out.keeps hk (fun h=>by have:=(HW.out.1.lt h).1;omega));have HS:=V (HS.out.trans (hk.below HS.out.size (fun i hi=>by have:=(HW.out.1.lt hi).1;omega)));have HW:=V (HW.out.step ⟨ho,hk,hs⟩);have HB:=V (aW HB.out hk.size);clear ho hk hs;clear Mb;have Mc:w10.cell? ⟨w.heap.size,11,none⟩=some (.slice a5 m.elems.length c5):=HX.out.cell 11;go_wp2_with fail;refine(GP w kZ 9 (by omega) _ _ _ m.elems (w.heap.size+1) w10 188 (fun _ _=>by rfl) HI.out.2.2.2.2.2.1 HW.out.1 HB.out HS.out (by have hf:=HF.out;have hh:fL.length=8:=rfl;have:=hf.v1;have:=hf.v2;have:=hf.v3;have:=hf.v4;have:=hf.v5;have:=hf.v6;have:=hf.v7;have:=hf.v9;have:=hf.v10;have:=hf.v11;have:=hf.s1;have:=hf.s2;have:=hf.s3;have:=hf.s4;have:=hf.s5;have:=hf.s6;have:=hf.s7;have:=hf.s9;have:=hf.G3;have:=hf.G4;(try simp only [ah]);omega) (fun e he u hu b xs w1 B ho hx hB hs=>IU _ e u hu (HM.out.2.1.2.2.2.1.2 e he) b xs w1 B ho hx hB hs)).mono ?_;rintro e Sc ⟨v11,rfl,ho,hk,hs⟩;have HX:=V (HX.out.keeps hk (fun h=>by have:=(HW.out.1.lt h).1;omega));have HS:=V (HS.out.trans (hk.below HS.out.size (fun i hi=>by have:=(HW.out.1.lt hi).1;omega)));have HW:=V (HW.out.step ⟨ho,hk,hs⟩);have HB:=V (aW HB.out hk.size);clear ho hk hs;clear Mc;have Md:Sc.cell? ⟨w.heap.size,12,none⟩=some (.slice a6 m.eA.length c6):=HX.out.cell 12;go_wp2_with fail;refine(Ey w iE 10 (by omega) _ _ _ m.eA (w.heap.size+1) Sc 191 (fun _ _=>by rfl) HI.out.2.2.2.2.2.2.1 HW.out.1 HB.out HS.out (by have hf:=HF.out;have hh:fL.length=8:=rfl;have:=hf.v1;have:=hf.v2;have:=hf.v3;have:=hf.v4;have:=hf.v5;have:=hf.v6;have:=hf.v7;have:=hf.v9;have:=hf.v10;have:=hf.v11;have:=hf.s1;have:=hf.s2;have:=hf.s3;have:=hf.s4;have:=hf.s5;have:=hf.s6;have:=hf.s7;have:=hf.s9;have:=hf.G3;have:=hf.G4;(try simp only [ah]);omega) (fun e he u hu b xs w1 B ho hx hB hs=>Hs _ e u hu (HM.out.1.2.2 e he) b xs w1 B ho hx hB hs)).mono ?_;rintro e w12 ⟨v12,rfl,ho,hk,hs⟩;have HX:=V (HX.out.keeps hk (fun h=>by have:=(HW.out.1.lt h).1;omega));have HS:=V (HS.out.trans (hk.below HS.out.size (fun i hi=>by have:=(HW.out.1.lt hi).1;omega)));have HW:=V (HW.out.step ⟨ho,hk,hs⟩);have HB:=V (aW HB.out hk.size);clear ho hk hs;clear Md;have Me:w12.cell? ⟨w.heap.size,13,none⟩=some (.slice a7 m.eK.length c7):=HX.out.cell 13;go_wp2_with fail;refine(Fv w oa 11 (by omega) _ _ _ m.eK (w.heap.size+1) w12 193 (fun _ _=>by rfl) HI.out.2.2.2.2.2.2.2.1 HW.out.1 HB.out HS.out (by have hf:=HF.out;have hh:fL.length=8:=rfl;have:=hf.v1;have:=hf.v2;have:=hf.v3;have:=hf.v4;have:=hf.v5;have:=hf.v6;have:=hf.v7;have:=hf.v9;have:=hf.v10;have:=hf.v11;have:=hf.s1;have:=hf.s2;have:=hf.s3;have:=hf.s4;have:=hf.s5;have:=hf.s6;have:=hf.s7;have:=hf.s9;have:=hf.G3;have:=hf.G4;(try simp only [ah]);omega) (fun e he u hu b xs w1 B ho hx hB hs=>G8 _ e u hu (HM.out.2.1.2.2.2.2.2 e he) b xs w1 B ho hx hB hs)).mono ?_;rintro e w13 ⟨v13,rfl,ho,hk,hs⟩;have HX:=V (HX.out.keeps hk (fun h=>by have:=(HW.out.1.lt h).1;omega));have HS:=V (HS.out.trans (hk.below HS.out.size (fun i hi=>by have:=(HW.out.1.lt hi).1;omega)));have HW:=V (HW.out.step ⟨ho,hk,hs⟩);have HB:=V (aW HB.out hk.size);clear ho hk hs;clear Me;go_wp2_with fail;go_ret;exact⟨_,rfl,by rw [Bs];exact HW.out.1.fF,HS.out⟩
theorem eP.mod {w:World} {X:Nat} {t:TypeId} {x0 x1 x2 x3 x4 x5 x6 x7 x8 x9 x10 x11 x12 x13:Value} (h:eP w X #[x0,x1,x2,x3,x4,x5,x6,x7,x8,x9,x10,x11,x12,x13] t):
  w.cell? ⟨X,0,none⟩=some x0/\w.cell? ⟨X,1,none⟩=some x1/\w.cell? ⟨X,2,none⟩=some x2/\w.cell? ⟨X,3,none⟩=some x3/\w.cell? ⟨X,4,none⟩=some x4/\w.cell? ⟨X,5,none⟩=some x5/\w.cell? ⟨X,6,none⟩=some x6/\w.cell? ⟨X,7,none⟩=some x7/\w.cell? ⟨X,8,none⟩=some x8/\w.cell? ⟨X,9,none⟩=some x9/\w.cell? ⟨X,10,none⟩=some x10/\w.cell? ⟨X,11,none⟩=some x11/\w.cell? ⟨X,12,none⟩=some x12/\w.cell? ⟨X,13,none⟩=some x13:=
 ⟨h.cell 0,h.cell 1,h.cell 2,h.cell 3,h.cell 4,h.cell 5,h.cell 6,h.cell 7,h.cell 8,h.cell 9,h.cell 10,h.cell 11,h.cell 12,h.cell 13⟩
theorem lS (m:eI):decide m.may=(decide (m.eA.length=m.funcs.length)&&(decide ((m.eA.length:Int) <=16/\∀x∈m.eA,x.may)&&(decide m.lists&&(decide (m.table.may 16 1000)&&(decide (m.mem.may 16 65536)&&decide ((fJ m).length <=8000)))))):=by
 simp only [<- cK];refine dg.2 ?_;unfold eI.may eI.wu eI.tp
 constructor
 ·rintro⟨⟨⟨h1,h2,h3⟩,h4,h5,h6⟩,h7⟩
  exact⟨h1,⟨by omega,h3⟩,h4,h5,h6,h7⟩
 ·rintro⟨h1,⟨h2,h3⟩,h4,h5,h6,h7⟩
  exact⟨⟨⟨h1,by omega,h3⟩,h4,h5,h6⟩,h7⟩
theorem tt (m:eI) (u:eL) (w:World) (hm:eD w u m) (hs:m.words):Calls prog 60 #[.agg (u.cells m)] w (eF (decide m.may) w):=by
 have HI:=V hm;have HWD:=V hs;obtain⟨a0,c0,a1,c1,a2,c2,a3,c3,a4,c4,a5,c5,a6,c6,a7,c7,rfl⟩:=eD.open hm;clear hm hs;simp only [eL.cells];have HX:=V (eP.new w #[.slice a0 m.types.length c0, .slice a1 m.imports.length c1, .slice a2 m.funcs.length c2, .bool m.table.has, .int .i64 m.table.min, .int .i64 m.table.max, .bool m.mem.has, .int .i64 m.mem.min, .int .i64 m.mem.max, .slice a3 m.globals.length c3, .slice a4 m.ep.length c4, .slice a5 m.elems.length c5, .slice a6 m.eA.length c6, .slice a7 m.eK.length c7] 62);have HS:=V ((an w.heap.size w).alloc (ag _) (.cells #[.slice a0 m.types.length c0, .slice a1 m.imports.length c1, .slice a2 m.funcs.length c2, .bool m.table.has, .int .i64 m.table.min, .int .i64 m.table.max, .bool m.mem.has, .int .i64 m.mem.min, .int .i64 m.mem.max, .slice a3 m.globals.length c3, .slice a4 m.ep.length c4, .slice a5 m.elems.length c5, .slice a6 m.eA.length c6, .slice a7 m.eK.length c7] 62));by_cases q:m.eA.length=m.funcs.length;rotate_left
 ·have f1:((m.eA.length:Int)==(m.funcs.length:Int))=false:=ed (by omega)
  have f2:(m.eA.length==m.funcs.length)=false:=by simp [q]
  have HQ:=V (aq q);clear q;go_enter func60,ntmps60;go_wp2_with fail;go_ret;exact⟨by rw [lS,HQ.out];rfl,HS.out⟩
 have f1:((m.eA.length:Int)==(m.funcs.length:Int))=true:=eQ (by omega);have f2:(m.eA.length==m.funcs.length)=true:=by simp [q]
 have HQ:=V (aA q);clear q;go_enter func60,ntmps60;go_wp2_with fail;refine(EL (fun x=>decide x.may) _ m.eA _ (et.below HI.out.2.2.2.2.2.2.1 HS.out (fun _ _ h=>h.below HS.out)) 91 16 (fun _ _=>by rfl) (fun e _ u w' _ hu=>Ge e u w' hu)).mono ?_;rw [lF];rintro x w1 ⟨rfl,hb⟩;obtain⟨r1,hr⟩:∃r,decide ((m.eA.length:Int) <=16/\∀x∈m.eA,x.may)=r:=⟨_,rfl⟩;rw [hr];have R1:=V hr;have HX:=V (HX.out.below hb HX.out.lt);have HS:=V (HS.out.trans (hb.mono HS.out.size));clear hr hb;obtain⟨g0,g1,g2,g3,g4,g5,g6,g7,g8,g9,Mb,Mc,Md,Me⟩:=HX.out.mod;cases r1
 ·skip
  go_wp2_with fail;go_ret;exact⟨by rw [lS,HQ.out,R1.out];rfl,HS.out⟩
 go_wp2_with fail;refine(Ds m ⟨.slice a0 m.types.length c0, .slice a1 m.imports.length c1, .slice a2 m.funcs.length c2, .slice a3 m.globals.length c3, .slice a4 m.ep.length c4, .slice a5 m.elems.length c5, .slice a6 m.eA.length c6, .slice a7 m.eK.length c7⟩ w1 (eD.below HI.out HS.out) HWD.out).mono ?_;rintro x w2 ⟨rfl,hb⟩;obtain⟨r2,hr⟩:∃r,decide m.lists=r:=⟨_,rfl⟩;rw [hr];have R2:=V hr;have HX:=V (HX.out.below hb HX.out.lt);have HS:=V (HS.out.trans (hb.mono HS.out.size));clear hr hb;clear g0 g1 g2 g3 g4 g5 g6 g7 g8 g9 Mb Mc Md Me;obtain⟨g0,g1,g2,g3,g4,g5,g6,g7,g8,g9,Mb,Mc,Md,Me⟩:=HX.out.mod;cases r2
 ·skip
  go_wp2_with fail;go_ret;exact⟨by rw [lS,HQ.out,R1.out,R2.out];rfl,HS.out⟩
 go_wp2_with fail;refine(sG m.table 16 1000 w2).mono ?_;rintro x w3 ⟨rfl,hb⟩;obtain⟨r3,hr⟩:∃r,decide (m.table.may 16 1000)=r:=⟨_,rfl⟩;rw [hr];have R3:=V hr;have HX:=V (HX.out.below hb HX.out.lt);have HS:=V (HS.out.trans (hb.mono HS.out.size));clear hr hb;clear g0 g1 g2 g3 g4 g5 g6 g7 g8 g9 Mb Mc Md Me;obtain⟨g0,g1,g2,g3,g4,g5,g6,g7,g8,g9,Mb,Mc,Md,Me⟩:=HX.out.mod;cases r3
 ·skip
  go_wp2_with fail;go_ret;exact⟨by rw [lS,HQ.out,R1.out,R2.out,R3.out];rfl,HS.out⟩
 go_wp2_with fail;refine(sG m.mem 16 65536 w3).mono ?_;rintro x w4 ⟨rfl,hb⟩;obtain⟨r4,hr⟩:∃r,decide (m.mem.may 16 65536)=r:=⟨_,rfl⟩;rw [hr];have R4:=V hr;have HX:=V (HX.out.below hb HX.out.lt);have HS:=V (HS.out.trans (hb.mono HS.out.size));clear hr hb;clear g0 g1 g2 g3 g4 g5 g6 g7 g8 g9 Mb Mc Md Me;obtain⟨g0,g1,g2,g3,g4,g5,g6,g7,g8,g9,Mb,Mc,Md,Me⟩:=HX.out.mod;cases r4
 ·skip
  go_wp2_with fail;go_ret;exact⟨by rw [lS,HQ.out,R1.out,R2.out,R3.out,R4.out];rfl,HS.out⟩
 have hmay1:m.wu:=by
  have h1:=cH R1.out;exact⟨⟨cH HQ.out,by have:=h1.1;omega,h1.2⟩,cH R2.out,cH R3.out,cH R4.out⟩
 go_wp2_with fail;refine(sC m ⟨.slice a0 m.types.length c0, .slice a1 m.imports.length c1, .slice a2 m.funcs.length c2, .slice a3 m.globals.length c3, .slice a4 m.ep.length c4, .slice a5 m.elems.length c5, .slice a6 m.eA.length c6, .slice a7 m.eK.length c7⟩ w4 (eD.below HI.out HS.out) hmay1).mono ?_;rintro x w5 ⟨v,rfl,hv,hb⟩;obtain⟨av,cv,rfl,-,-,-⟩:=hv;have HS:=V (HS.out.trans (hb.mono HS.out.size));clear hb hmay1;clear g0 g1 g2 g3 g4 g5 g6 g7 g8 g9 Mb Mc Md Me;obtain⟨n,hn⟩:∃n,(fJ m).length=n:=⟨_,rfl⟩;rw [hn];have HN:=V hn;clear hn;by_cases q:n <=8000
 ·have f3:decide ((n:Int) <=8000)=true:=aA (by omega)
  have f4:decide (n <=8000)=true:=aA q;have HR:=V (show decide ((fJ m).length <=8000)=true by rw [HN.out];exact f4);clear q;go_wp2_with fail;go_ret;exact⟨by rw [lS,HQ.out,R1.out,R2.out,R3.out,R4.out,HR.out];rfl,HS.out⟩
 ·have f3:decide ((n:Int) <=8000)=false:=aq (by omega)
  have f4:decide (n <=8000)=false:=aq q;have HR:=V (show decide ((fJ m).length <=8000)=false by rw [HN.out];exact f4);clear q;go_wp2_with fail;go_ret;exact⟨by rw [lS,HQ.out,R1.out,R2.out,R3.out,R4.out,HR.out];rfl,HS.out⟩
def IB (m:eI) (w:World) (e:Ending) (w':World):Prop:=∃v,e= .returned v/\((¬ m.may/\v= .slice none 0 0)\/(m.may/\eW w' v (fJ m)))/\Below w.heap.size w w'
theorem ov (m:eI) (u:eL) (w:World) (hm:eD w u m) (hs:m.words):Calls prog 69 #[.agg (u.cells m)] w (IB m w):=by
 have HI:=V hm;have HWD:=V hs;obtain⟨a0,c0,a1,c1,a2,c2,a3,c3,a4,c4,a5,c5,a6,c6,a7,c7,rfl⟩:=eD.open hm;clear hm hs;simp only [eL.cells];have HX:=V (eP.new w #[.slice a0 m.types.length c0, .slice a1 m.imports.length c1, .slice a2 m.funcs.length c2, .bool m.table.has, .int .i64 m.table.min, .int .i64 m.table.max, .bool m.mem.has, .int .i64 m.mem.min, .int .i64 m.mem.max, .slice a3 m.globals.length c3, .slice a4 m.ep.length c4, .slice a5 m.elems.length c5, .slice a6 m.eA.length c6, .slice a7 m.eK.length c7] 62);have HS:=V ((an w.heap.size w).alloc (ag _) (.cells #[.slice a0 m.types.length c0, .slice a1 m.imports.length c1, .slice a2 m.funcs.length c2, .bool m.table.has, .int .i64 m.table.min, .int .i64 m.table.max, .bool m.mem.has, .int .i64 m.mem.min, .int .i64 m.mem.max, .slice a3 m.globals.length c3, .slice a4 m.ep.length c4, .slice a5 m.elems.length c5, .slice a6 m.eA.length c6, .slice a7 m.eK.length c7] 62));go_enter func69,ntmps69;go_wp2_with fail;refine(tt m ⟨.slice a0 m.types.length c0, .slice a1 m.imports.length c1, .slice a2 m.funcs.length c2, .slice a3 m.globals.length c3, .slice a4 m.ep.length c4, .slice a5 m.elems.length c5, .slice a6 m.eA.length c6, .slice a7 m.eK.length c7⟩ _ (eD.below HI.out HS.out) HWD.out).mono ?_;rintro x w1 ⟨rfl,hb⟩;obtain⟨r1,hr⟩:∃r,decide m.may=r:=⟨_,rfl⟩;rw [hr];have R1:=V hr;have HX:=V (HX.out.below hb HX.out.lt);have HS:=V (HS.out.trans (hb.mono HS.out.size));clear hr hb;obtain⟨g0,g1,g2,g3,g4,g5,g6,g7,g8,g9,Mb,Mc,Md,Me⟩:=HX.out.mod;cases r1
 ·go_wp2_with fail
  go_ret;exact⟨_,rfl, .inl ⟨of_decide_eq_false R1.out,rfl⟩,HS.out⟩
 go_wp2_with fail;refine(sC m ⟨.slice a0 m.types.length c0, .slice a1 m.imports.length c1, .slice a2 m.funcs.length c2, .slice a3 m.globals.length c3, .slice a4 m.ep.length c4, .slice a5 m.elems.length c5, .slice a6 m.eA.length c6, .slice a7 m.eK.length c7⟩ w1 (eD.below HI.out HS.out) (cH R1.out).1).mono ?_;rintro x w2 ⟨v,rfl,hv,hb⟩;have HV:=V hv;have HS:=V (HS.out.trans (hb.mono HS.out.size));clear hb hv;clear g0 g1 g2 g3 g4 g5 g6 g7 g8 g9 Mb Mc Md Me;go_wp2_with fail;go_ret;exact⟨_,rfl, .inr ⟨cH R1.out,HV.out⟩,HS.out⟩
theorem vi (x:gf) (w:World):Calls prog 64 #[.agg #[.bool x.has, .int .i64 x.min, .int .i64 x.max]] w (eF (lp x) w):=by
 obtain⟨has,mn,mx⟩:=x;have HB:=V ((an w.heap.size w).alloc (ag _) (.cells #[.bool has, .int .i64 mn, .int .i64 mx] 55));cases has
 ·go_enter func64,ntmps64
  go_wp2_with fail;go_ret;exact⟨rfl,HB.out⟩
 by_cases q:0 <=mx
 ·have f1:decide (0 <=mx)=true:=aA q
  have HT:Hid (lp ⟨true,mn,mx⟩=decide (mx < mn)):=V (by unfold lp;simp [q]);clear q;go_enter func64,ntmps64;go_wp2_with fail;go_ret;exact⟨by rw [HT.out];rfl,HB.out⟩
 ·have f1:decide (0 <=mx)=false:=aq q
  have HT:Hid (lp ⟨true,mn,mx⟩=false):=V (by unfold lp;simp [q]);clear q;go_enter func64,ntmps64;go_wp2_with fail;go_ret;exact⟨by rw [HT.out];rfl,HB.out⟩
theorem tG (m:eI) (M:Nat) (a:Option Addr) (cap:Nat) (t:Int) (w:World) (h:w.cell? ⟨M,0,none⟩=some (.slice a m.types.length cap)):
  Calls prog 56 #[.int .i64 t, .pointer (some ⟨M,0,none⟩)] w (eF (ma m t) w):=by
 go_enter func56,ntmps56;go_wp2_with fail;go_ret;exact⟨rfl,an _ _⟩
theorem uu (m:eI) (M:Nat) (a a':Option Addr) (cap LO:Nat) (f:Int) (w:World) (h:w.cell? ⟨M,1,none⟩=some (.slice a m.imports.length cap)) (h':w.cell? ⟨M,2,none⟩=some (.slice a' m.funcs.length LO)) (hs:m.imports.length+m.funcs.length <=1000000):
  Calls prog 57 #[.int .i64 f, .pointer (some ⟨M,0,none⟩)] w (eF (mb m f) w):=by
 go_enter func57,ntmps57;go_wp2_with fail;go_ret;exact⟨rfl,an _ _⟩
theorem yi (x y:iO) (X:Nat) (w:World) (h:w.cell? ⟨X,0,none⟩=some (.string x.name)):
  Calls prog 59 #[.agg #[.string y.name, .int .i64 y.func], .pointer (some ⟨X,0,none⟩)] w (eF (x.name.toList==y.name.toList) w):=by
 have HB:=V ((an w.heap.size w).alloc (ag _) (.cells #[.string y.name, .int .i64 y.func] 111));have h:=(Ext.eh HB.out).1 _ _ h;go_enter func59,ntmps59;go_wp2_with fail;go_ret;exact⟨rfl,HB.out⟩
theorem AG (m:eI) (M X:Nat) (x:jt) (w:World) (a:Option Addr) (cap:Nat) (h:w.cell? ⟨M,0,none⟩=some (.slice a m.types.length cap)) (hX:w.cell? ⟨X,0,none⟩=some (.func (.func 56) #[] #[.pointer (some ⟨M,0,none⟩)])):
  Calls prog 62 #[.agg #[.string x.mod, .string x.name, .int .i64 x.type], .pointer (some ⟨X,0,none⟩)] w (eF (ma m x.type) w):=by
 have HB:=V ((an w.heap.size w).alloc (ag _) (.cells #[.string x.mod, .string x.name, .int .i64 x.type] 118));have H:=V ((Ext.eh HB.out).1 _ _ h);have hX:=(Ext.eh HB.out).1 _ _ hX;clear h;go_enter func62,ntmps62;go_wp2_with fail;refine(tG m M a cap x.type _ H.out).mono ?_;rintro e w2 ⟨rfl,hb⟩;have HB:=V (HB.out.trans (hb.mono HB.out.size));clear hb hX;go_wp2_with fail;go_ret;exact⟨rfl,HB.out⟩
theorem qi (m:eI) (M X:Nat) (x:jb) (u:Value) (w:World) (a a':Option Addr) (cap LO:Nat) (h:w.cell? ⟨M,1,none⟩=some (.slice a m.imports.length cap)) (h':w.cell? ⟨M,2,none⟩=some (.slice a' m.funcs.length LO)) (hs:m.imports.length+m.funcs.length <=1000000) (hX:w.cell? ⟨X,0,none⟩=some (.func (.func 57) #[] #[.pointer (some ⟨M,0,none⟩)])) (hu:ig w x u):
  Calls prog 66 #[.agg #[.int .i64 x.off,u], .pointer (some ⟨X,0,none⟩)] w (eF (x.funcs.any fun f=>mb m f) w):=by
 obtain⟨au,cu,rfl,-,-⟩:=fg hu.1;have HU:=V hu.1;have HB:=V ((an w.heap.size w).alloc (ag _) (.cells #[.int .i64 x.off, .slice au x.funcs.length cu] 95));have H:=V ((Ext.eh HB.out).1 _ _ h);have H':=V ((Ext.eh HB.out).1 _ _ h');have hX:=(Ext.eh HB.out).1 _ _ hX;clear h h' hu;go_enter func66,ntmps66;go_wp2_with fail;refine(qW (fun f=>mb m f) _ x.funcs _ (HU.out.below HB.out) 57 #[.pointer (some ⟨M,0,none⟩)] (fun _ _=>by rfl) (fun e _ w' hb=>uu m M a a' cap LO e w' ((Ext.eh hb).1 _ _ H.out) ((Ext.eh hb).1 _ _ H'.out) hs)).mono ?_;rintro e w2 ⟨rfl,hb⟩;have HB:=V (HB.out.trans (hb.mono HB.out.size));clear hb hX;go_wp2_with fail;go_ret;exact⟨rfl,HB.out⟩
def yz (b off b2 LV k:Nat) (e d:Int) (w:World):Prop:=w.cell? ⟨b,off+k,none⟩=some (.int .i64 e)/\w.cell? ⟨b2,LV+k,none⟩=some (.int .i64 d)
theorem ll (va vb:Value) (la lb:List Int) (w:World) (ha:ew 1 fp w va la) (hb:ew 1 fp w vb lb):Calls prog 48 #[va,vb] w (pC la lb w):=by
 have HA:=V ha;have HB:=V hb;obtain⟨a,cap,rfl,h1,h2,_⟩:=ha;obtain⟨a2,Lu,rfl,h3,h4,_⟩:=hb;unfold maxLen at h2 h4;by_cases hlen:la.length=lb.length;rotate_left
 ·have f1:(((la.length:Int)) !=((lb.length:Int)))=true:=fw (by omega)
  have HL:=V hlen;clear hlen;go_enter func48,ntmps48;go_wp2_with fail;go_ret;exact⟨false,rfl,⟨fun h=>(by cases h),fun h=>absurd (cX List.length h) HL.out⟩,an _ _⟩
 rw [<- hlen]at h3⊢;have HL:=V hlen;clear hlen;go_enter func48,ntmps48;go_wp2_with fail;refine eJ (fun a' w'=>∃(k:Nat),a'=fr (.slice a la.length cap:: .slice a2 la.length Lu::gs a' 2 10 (.int .i64 la.length:: .int .i64 k::gs a' 14 12 []))/\zo la lb w w' k) (fun a' _=>(la.length - (intOf (a'.tmps.getD 13 undef)).toNat)) ?_ ?_
 ·exact⟨0,rfl,by omega,rfl,an _ _⟩
 ·skip
  rintro R a' w1 ⟨k,Lp,hJ⟩ HR;dsimp only [fr,gs]at Lp;generalize slot a'=f at Lp;subst Lp;obtain⟨hk,O3,hb⟩:=hJ;have HT:=V O3;clear O3;by_cases Mm:k < la.length;rotate_left
  ·skip
   obtain rfl:k=la.length:=by omega
   go_wp2_with fail;go_ret;refine⟨true,rfl,⟨fun _=>?_,fun _=>rfl⟩,hb⟩;have:=HT.out;rw [aV,HL.out,aV]at this;exact this
  obtain⟨e,he⟩:∃e,la[k]?=some e:=⟨_,aw Mm⟩;obtain⟨d,hd⟩:∃d,lb[k]?=some d:=⟨_,aw (by have:=HL.out;omega)⟩;obtain⟨a',LO,hv,_,_,Ln⟩:=HA.out.below (hb.mono (ag _));obtain⟨a2',cap2',M4,_,_,MH⟩:=HB.out.below (hb.mono (ag _));injection hv with e1 e2 e3;injection M4 with e4 e5 e6;subst e1 e3 e4 e6;obtain⟨b,off,rfl,Lw,hc⟩:=Ln k e he;obtain⟨b2,LV,rfl,Nc,Mj⟩:=MH k d hd;have c0:=hc 0 _ rfl;have c2:=Mj 0 _ rfl;rw [aK,bq]at c0 c2;have HE:=V he;have HD:=V hd;have cc:yz b off b2 LV k e d w1.drew:=⟨c0,c2⟩;have CC:=V cc;clear Ln MH e2 e5 he hd hc Mj c0 c2 cc;by_cases q1:e=d
  ·have f1:=jI q1
   have Q1:=V q1;clear q1;go_wp2_with fail;refine eu (yz b off b2 LV k e d) (up 0 9 []) (by kernel_rfl) (by kernel_rfl) CC.out ?_;iterate 8 (first | (apply sk rfl rfl;simp only [pt]) | (apply ef rfl rfl rfl;·(rintro w' ⟨t0,t1⟩;go_wp2;exact⟨rfl,rfl,rfl⟩)))
   iterate 1 (first | (apply sk rfl rfl;simp only [pt]) | (apply ef rfl rfl rfl;·(rintro w' ⟨t0,t1⟩;go_wp2;exact⟨rfl,rfl,rfl⟩)))
   refine eV ?_;refine aD ?_;go_wp2_with fail;refine HR.out _ _ ⟨k+1,rfl,by omega,?_,hb.drew⟩ ?_
   ·rw [aR,aR,HT.out,HE.out,HD.out,Q1.out]
   ·simp [intOf]
    omega
  ·have f1:=fw q1
   have HX:=V (show e≠d from q1);clear q1;go_wp2_with fail;refine eu (yz b off b2 LV k e d) (up 0 9 []) (by kernel_rfl) (by kernel_rfl) CC.out ?_;iterate 8 (first | (apply sk rfl rfl;simp only [pt]) | (apply ef rfl rfl rfl;·(rintro w' ⟨t0,t1⟩;go_wp2;exact⟨rfl,rfl,rfl⟩)))
   iterate 1 (first | (apply sk rfl rfl;simp only [pt]) | (apply ef rfl rfl rfl;·(rintro w' ⟨t0,t1⟩;go_wp2;exact⟨rfl,rfl,rfl⟩)))
   refine eV ?_;refine aD ?_;go_wp2_with fail;go_ret;refine⟨false,rfl,⟨fun h=>(by cases h),fun h=>?_⟩,hb.drew⟩;have h1:=HE.out;rw [h,HD.out]at h1;injection h1 with h1;exact(HX.out (by rw [h1])).elim
def tx (b off b2 LV k:Nat) (e d:iO) (w:World):Prop:=
 (w.cell? ⟨b,off+k*2,none⟩=some (.string e.name)/\w.cell? ⟨b,off+k*2+1,none⟩=some (.int .i64 e.func))/\
 w.cell? ⟨b2,LV+k*2,none⟩=some (.string d.name)/\w.cell? ⟨b2,LV+k*2+1,none⟩=some (.int .i64 d.func)
theorem DC {a b:ByteArray} (h:a.toList=b.toList):a=b:=by
 rw [dB,dB]at h;obtain⟨⟨x⟩⟩:=a;obtain⟨⟨y⟩⟩:=b;simpa using h
theorem yu (va vb:Value) (la lb:List iO) (w:World) (ha:ew 2 rz w va la) (hb:ew 2 rz w vb lb):Calls prog 314 #[va,vb] w (pC la lb w):=by
 have HA:=V ha;have HB:=V hb;obtain⟨a,cap,rfl,h1,h2,_⟩:=ha;obtain⟨a2,Lu,rfl,h3,h4,_⟩:=hb;unfold maxLen at h2 h4;by_cases hlen:la.length=lb.length;rotate_left
 ·have f1:(((la.length:Int)) !=((lb.length:Int)))=true:=fw (by omega)
  have HL:=V hlen;clear hlen;go_enter func314,ntmps314;go_wp2_with fail;go_ret;exact⟨false,rfl,⟨fun h=>(by cases h),fun h=>absurd (cX List.length h) HL.out⟩,an _ _⟩
 rw [<- hlen]at h3⊢;have HL:=V hlen;clear hlen;go_enter func314,ntmps314;go_wp2_with fail;refine eJ (fun a' w'=>∃(k:Nat),a'=fr (.slice a la.length cap:: .slice a2 la.length Lu::gs a' 2 10 (.int .i64 la.length:: .int .i64 k::gs a' 14 12 []))/\zo la lb w w' k) (fun a' _=>(la.length - (intOf (a'.tmps.getD 13 undef)).toNat)) ?_ ?_
 ·exact⟨0,rfl,by omega,rfl,an _ _⟩
 ·skip
  rintro R a' w1 ⟨k,Lp,hJ⟩ HR;dsimp only [fr,gs]at Lp;generalize slot a'=f at Lp;subst Lp;obtain⟨hk,O3,hb⟩:=hJ;have HT:=V O3;clear O3;by_cases Mm:k < la.length;rotate_left
  ·skip
   obtain rfl:k=la.length:=by omega
   go_wp2_with fail;go_ret;refine⟨true,rfl,⟨fun _=>?_,fun _=>rfl⟩,hb⟩;have:=HT.out;rw [aV,HL.out,aV]at this;exact this
  obtain⟨e,he⟩:∃e,la[k]?=some e:=⟨_,aw Mm⟩;obtain⟨d,hd⟩:∃d,lb[k]?=some d:=⟨_,aw (by have:=HL.out;omega)⟩;obtain⟨a',LO,hv,_,_,Ln⟩:=HA.out.below (hb.mono (ag _));obtain⟨a2',cap2',M4,_,_,MH⟩:=HB.out.below (hb.mono (ag _));injection hv with e1 e2 e3;injection M4 with e4 e5 e6;subst e1 e3 e4 e6;obtain⟨b,off,rfl,Lw,hc⟩:=Ln k e he;obtain⟨b2,LV,rfl,Nc,Mj⟩:=MH k d hd;have c0:=hc 0 _ rfl;have c1:=hc 1 _ rfl;have c2:=Mj 0 _ rfl;have c3:=Mj 1 _ rfl;rw [aK]at c0 c2;have HE:=V he;have HD:=V hd;have cc:tx b off b2 LV k e d w1.drew:=⟨⟨c0,c1⟩,c2,c3⟩;have CC:=V cc;clear Ln MH e2 e5 he hd hc Mj c0 c1 c2 c3 cc;by_cases q1:e.name.toList=d.name.toList
  ·have f1:(e.name.toList==d.name.toList)=true:=by simp [q1]
   have Q1:=V q1;clear q1;by_cases q2:e.func=d.func
   ·have f2:=eQ q2
    have Q2:=V q2;clear q2;go_wp2_with fail;refine eu (tx b off b2 LV k e d) (up 0 9 []) (by kernel_rfl) (by kernel_rfl) CC.out ?_;iterate 8 (first | (apply sk rfl rfl;simp only [pt]) | (apply ef rfl rfl rfl;·(rintro w' ⟨⟨t0,t1⟩,t2,t3⟩;go_wp2;exact⟨rfl,rfl,rfl⟩)))
    iterate 1 (first | (apply sk rfl rfl;simp only [pt]) | (apply ef rfl rfl rfl;·(rintro w' ⟨⟨t0,t1⟩,t2,t3⟩;go_wp2;exact⟨rfl,rfl,rfl⟩)))
    refine eV ?_;refine aD ?_;go_wp2_with fail;refine HR.out _ _ ⟨k+1,rfl,by omega,?_,hb.drew⟩ ?_
    ·rw [aR,aR,HT.out,HE.out,HD.out]
     obtain⟨x0,x1⟩:=e;obtain⟨y0,y1⟩:=d;have g0:=DC Q1.out;have g1:=Q2.out;simp only at g0 g1;rw [g0,g1]
    ·simp [intOf]
     omega
   ·have f2:=ed q2
    have HX:=V (show e.func≠d.func from q2);clear q2;go_wp2_with fail;refine eu (tx b off b2 LV k e d) (up 0 9 []) (by kernel_rfl) (by kernel_rfl) CC.out ?_;iterate 8 (first | (apply sk rfl rfl;simp only [pt]) | (apply ef rfl rfl rfl;·(rintro w' ⟨⟨t0,t1⟩,t2,t3⟩;go_wp2;exact⟨rfl,rfl,rfl⟩)))
    iterate 1 (first | (apply sk rfl rfl;simp only [pt]) | (apply ef rfl rfl rfl;·(rintro w' ⟨⟨t0,t1⟩,t2,t3⟩;go_wp2;exact⟨rfl,rfl,rfl⟩)))
    refine eV ?_;refine aD ?_;go_wp2_with fail;go_ret;refine⟨false,rfl,⟨fun h=>(by cases h),fun h=>?_⟩,hb.drew⟩;have h1:=HE.out;rw [h,HD.out]at h1;injection h1 with h1;exact(HX.out (by rw [h1])).elim
  ·have f1:(e.name.toList==d.name.toList)=false:=by simp [q1]
   have HX:=V (show e.name.toList≠d.name.toList from q1);clear q1;go_wp2_with fail;refine eu (tx b off b2 LV k e d) (up 0 9 []) (by kernel_rfl) (by kernel_rfl) CC.out ?_;iterate 8 (first | (apply sk rfl rfl;simp only [pt]) | (apply ef rfl rfl rfl;·(rintro w' ⟨⟨t0,t1⟩,t2,t3⟩;go_wp2;exact⟨rfl,rfl,rfl⟩)))
   iterate 1 (first | (apply sk rfl rfl;simp only [pt]) | (apply ef rfl rfl rfl;·(rintro w' ⟨⟨t0,t1⟩,t2,t3⟩;go_wp2;exact⟨rfl,rfl,rfl⟩)))
   refine eV ?_;refine aD ?_;go_wp2_with fail;go_ret;refine⟨false,rfl,⟨fun h=>(by cases h),fun h=>?_⟩,hb.drew⟩;have h1:=HE.out;rw [h,HD.out]at h1;injection h1 with h1;exact(HX.out (by rw [h1])).elim
theorem kT (w:World) (xs ys:Array Value) (t:TypeId):Below w.heap.size w ((w.alloc (.cells xs t)).alloc (.cells ys t))/\eP ((w.alloc (.cells xs t)).alloc (.cells ys t)) w.heap.size xs t/\eP ((w.alloc (.cells xs t)).alloc (.cells ys t)) (w.heap.size+1) ys t:=by
 refine⟨((an w.heap.size w).alloc (ag _) _).alloc (by simp) _,(eP.new w xs t).alloc _,?_⟩;have:=eP.new (w.alloc (.cells xs t)) ys t
 rwa [aE]at this
def rk (p:Prop) (w:World) (e:Ending) (w':World):Prop:=∃r:Bool,e= .returned (.bool r)/\(r=true↔p)/\Below w.heap.size w w'
theorem yO (c d:eS) (u x:Value) (w:World) (hu:ew 1 fp w u c.l) (hx:ew 1 fp w x d.l):
  Calls prog 308 #[.agg #[.int .i64 c.op, .int .i64 c.a, .int .i64 c.b,u], .agg #[.int .i64 d.op, .int .i64 d.a, .int .i64 d.b,x]] w (rk (c=d) w):=by
 have HU:=V hu;have LD:=V hx;obtain⟨au,Lx,rfl,_,_,_⟩:=hu;obtain⟨ax,MC,rfl,_,_,_⟩:=hx;obtain⟨hb,MQ,N7⟩:=kT w #[.int .i64 c.op, .int .i64 c.a, .int .i64 c.b, .slice au c.l.length Lx] #[.int .i64 d.op, .int .i64 d.a, .int .i64 d.b, .slice ax d.l.length MC] 27;have LG:=V hb;clear hb MQ N7;go_enter func308,ntmps308;by_cases q1:c.op=d.op;rotate_left
 ·have f1:=ed q1
  have HX:=V (show c.op≠d.op from q1);clear q1;go_wp2_with fail;go_ret;exact⟨false,rfl,⟨fun h=>(by cases h),fun h=>(HX.out (by rw [h])).elim⟩,LG.out⟩
 have f1:=eQ q1;have Q1:=V q1;clear q1;by_cases q2:c.a=d.a;rotate_left
 ·have f2:=ed q2
  have HX:=V (show c.a≠d.a from q2);clear q2;go_wp2_with fail;go_ret;exact⟨false,rfl,⟨fun h=>(by cases h),fun h=>(HX.out (by rw [h])).elim⟩,LG.out⟩
 have f2:=eQ q2;have Q2:=V q2;clear q2;by_cases q3:c.b=d.b;rotate_left
 ·have f3:=ed q3
  have HX:=V (show c.b≠d.b from q3);clear q3;go_wp2_with fail;go_ret;exact⟨false,rfl,⟨fun h=>(by cases h),fun h=>(HX.out (by rw [h])).elim⟩,LG.out⟩
 have f3:=eQ q3;have Q3:=V q3;clear q3;go_wp2_with fail;refine(ll _ _ c.l d.l _ (HU.out.below LG.out) (LD.out.below LG.out)).mono ?_;rintro y w2 ⟨r,rfl,hr,Lr⟩;have LS:=V (LG.out.trans (Lr.mono LG.out.size));have NT:=V hr;clear hr Lr;go_wp2_with fail;go_ret;refine⟨r,rfl,⟨fun h=>?_,fun h=>NT.out.2 (by rw [h])⟩,LS.out⟩;have g:=NT.out.1 h;obtain⟨p0,p1,p2,p3⟩:=c;obtain⟨s0,s1,s2,s3⟩:=d;have g1:=Q1.out;have g2:=Q2.out;have g3:=Q3.out;simp only at g g1 g2 g3;rw [g,g1,g2,g3]
theorem yU (va vb:Value) (la lb:List eS) (w:World) (ha:et 4 qf gZ w va la) (hb:et 4 qf gZ w vb lb):
  Calls prog 307 #[va,vb, .func (.func 308) #[] #[]] w (pC la lb w):=by
 have HA:=V ha;have HB:=V hb;obtain⟨a,cap,rfl,h1,h2⟩:=ha.slice;obtain⟨a2,Lu,rfl,h3,h4⟩:=hb.slice;clear ha hb;by_cases hlen:la.length=lb.length;rotate_left
 ·have f1:(((la.length:Int)) !=((lb.length:Int)))=true:=fw (by omega)
  have HL:=V hlen;clear hlen;go_enter func307,ntmps307;go_wp2_with fail;go_ret;exact⟨false,rfl,⟨fun h=>(by cases h),fun h=>absurd (cX List.length h) HL.out⟩,an _ _⟩
 rw [<- hlen]at h3 HB⊢;have HL:=V hlen;clear hlen;go_enter func307,ntmps307;go_wp2_with fail;refine eJ (fun a' w'=>∃(k:Nat),a'=fr (.slice a la.length cap:: .slice a2 la.length Lu:: .func (.func 308) #[] #[]::gs a' 3 12 (.slice a la.length cap:: .int .i64 la.length:: .int .i64 k::gs a' 18 14 []))/\zo la lb w w' k) (fun a' _=>(la.length - (intOf (a'.tmps.getD 17 undef)).toNat)) ?_ ?_
 ·exact⟨0,rfl,by omega,rfl,an _ _⟩
 ·skip
  rintro R a' w1 ⟨k,Lp,hJ⟩ HR;dsimp only [fr,gs]at Lp;generalize slot a'=f at Lp;subst Lp;obtain⟨hk,O3,hb⟩:=hJ;have HT:=V O3;clear O3;by_cases Mm:k < la.length;rotate_left
  ·obtain rfl:k=la.length:=by omega
   go_wp2_with fail;go_ret;refine⟨true,rfl,⟨fun _=>?_,fun _=>rfl⟩,hb⟩;have:=HT.out;rw [aV,HL.out,aV]at this;exact this
  obtain⟨c,he⟩:∃e,la[k]?=some e:=⟨_,aw Mm⟩;obtain⟨d,hd⟩:∃d,lb[k]?=some d:=⟨_,aw (by have:=HL.out;omega)⟩;obtain⟨b,off,u,rfl,Lw,hc,hu⟩:=et.get (et.ext HA.out (Ext.eh hb) (fun _ _ h=>gZ.ext h (Ext.eh hb))) he;obtain⟨b2,LV,u2,rfl,Nc,Mj,No⟩:=et.get (et.ext HB.out (Ext.eh hb) (fun _ _ h=>gZ.ext h (Ext.eh hb))) hd;have HU:=V hu.1;have PF:=V No.1;obtain⟨au,cu,hue,_,_,_⟩:=id HU.out;obtain⟨QA,cu2,hue2,_,_,_⟩:=id PF.out;subst hue hue2;have c0:=hc 0 _ rfl;have c1:=hc 1 _ rfl;have c2:=hc 2 _ rfl;have c3:=hc 3 _ rfl;have d0:=Mj 0 _ rfl;have d1:=Mj 1 _ rfl;have d2:=Mj 2 _ rfl;have d3:=Mj 3 _ rfl;rw [aK]at c0 d0;clear hc Mj hu No;have HE:=V he;have HD:=V hd;clear he hd;obtain⟨M5,-,-⟩:=kT w1 #[.int .i64 c.op, .int .i64 c.a, .int .i64 c.b, .slice au c.l.length cu] #[.int .i64 d.op, .int .i64 d.a, .int .i64 d.b, .slice QA d.l.length cu2] 27;have NF:=(an w1.heap.size w1).alloc (ag _) (.cells #[.int .i64 c.op, .int .i64 c.a, .int .i64 c.b, .slice au c.l.length cu] 27);have e0:=(NF.cell (p:=⟨b2,LV+k*4,none⟩) Nc).trans d0;have e1:=(NF.cell (p:=⟨b2,LV+k*4+1,none⟩) Nc).trans d1;have e2:=(NF.cell (p:=⟨b2,LV+k*4+2,none⟩) Nc).trans d2;have e3:=(NF.cell (p:=⟨b2,LV+k*4+3,none⟩) Nc).trans d3;go_wp2_with fail;refine(yO c d _ _ _ (HU.out.below M5) (PF.out.below M5)).mono ?_;rintro y w2 ⟨r,rfl,hr,Lr⟩;replace hb:=hb.trans ((M5.trans (Lr.mono M5.size)).mono hb.size);have NT:=V hr;have HBR:=V hb;clear hr Lr M5 NF hb;clear c0 d0 e0 c1 d1 e1 c2 d2 e2 c3 d3 e3;cases r with
  | false=>
   go_wp2_with fail;go_ret;refine⟨false,rfl,⟨fun h=>(by cases h),fun h=>?_⟩,HBR.out⟩;have h1:=HE.out;rw [h,HD.out]at h1;injection h1 with h1;exact absurd (NT.out.2 h1.symm) (by simp)
  | true=>
   go_wp2_with fail;refine HR.out _ _ ⟨k+1,rfl,by omega,?_,HBR.out⟩ ?_
   ·rw [aR,aR,HT.out,HE.out,HD.out,NT.out.1 (by simp)]
   ·simp [intOf]
    omega
theorem AW (c d:gN) (u v u2 v2:Value) (w:World) (hu:ew 1 fp w u c.params) (hv:ew 1 fp w v c.results) (No:ew 1 fp w u2 d.params) (M4:ew 1 fp w v2 d.results):
  Calls prog 302 #[.agg #[u,v], .agg #[u2,v2]] w (rk (c=d) w):=by
 have HU:=V hu;have HV:=V hv;have PF:=V No;have OD:=V M4;obtain⟨au,cu,rfl⟩:∃a k,u= .slice a c.params.length k:=(by obtain⟨a,k,h,_⟩:=hu;exact⟨a,k,h⟩);obtain⟨av,cv,rfl⟩:∃a k,v= .slice a c.results.length k:=(by obtain⟨a,k,h,_⟩:=hv;exact⟨a,k,h⟩);obtain⟨QA,cu2,rfl⟩:∃a k,u2= .slice a d.params.length k:=(by obtain⟨a,k,h,_⟩:=No;exact⟨a,k,h⟩);obtain⟨PK,cv2,rfl⟩:∃a k,v2= .slice a d.results.length k:=(by obtain⟨a,k,h,_⟩:=M4;exact⟨a,k,h⟩);obtain⟨hb,MQ,N7⟩:=kT w #[.slice au c.params.length cu, .slice av c.results.length cv] #[.slice QA d.params.length cu2, .slice PK d.results.length cv2] 109;have LG:=V hb;have Ms:=V MQ;have MM:=V N7;clear hb MQ N7 hu hv No M4;go_enter func302,ntmps302;go_wp2_with fail;refine(ll _ _ c.params d.params _ (HU.out.below LG.out) (PF.out.below LG.out)).mono ?_;rintro y w2 ⟨r,rfl,hr,Lr⟩;have LS:=V (LG.out.trans (Lr.mono LG.out.size));have x1:=(Ms.out.below Lr Ms.out.lt).two.2.1;have y1:=(MM.out.below Lr MM.out.lt).two.2.1;have NT:=V hr;clear hr Lr;cases r with
 | false=>
  go_wp2_with fail;go_ret;refine⟨false,rfl,⟨fun h=>(by cases h),fun h=>?_⟩,LS.out⟩;have g:=NT.out.2 (by rw [h]);simp at g
 | true=>
  go_wp2_with fail;refine(ll _ _ c.results d.results _ (HV.out.below LS.out) (OD.out.below LS.out)).mono ?_;rintro y w3 ⟨r2,rfl,OA,Mf⟩;have Q7:=V (LS.out.trans (Mf.mono LS.out.size));have Po:=V OA;clear OA Mf x1 y1;go_wp2_with fail;go_ret;refine⟨r2,rfl,⟨fun h=>?_,fun h=>Po.out.2 (by rw [h])⟩,Q7.out⟩;have g:=NT.out.1 (by simp);have g':=Po.out.1 h;obtain⟨p0,p1⟩:=c;obtain⟨s0,s1⟩:=d;simp only at g g';rw [g,g']
theorem BR (c d:gS) (u v u2 v2:Value) (w:World) (hu:ew 1 fp w u c.locals) (hv:gx w v c.body) (No:ew 1 fp w u2 d.locals) (M4:gx w v2 d.body):
  Calls prog 306 #[.agg #[u,v], .agg #[u2,v2]] w (rk (c=d) w):=by
 have HU:=V hu;have HV:=V hv;have PF:=V No;have OD:=V M4;obtain⟨au,cu,rfl⟩:∃a k,u= .slice a c.locals.length k:=(by obtain⟨a,k,h,_⟩:=hu;exact⟨a,k,h⟩);obtain⟨av,cv,rfl⟩:∃a k,v= .slice a c.body.length k:=(by obtain⟨a,k,h,_⟩:=et.slice hv;exact⟨a,k,h⟩);obtain⟨QA,cu2,rfl⟩:∃a k,u2= .slice a d.locals.length k:=(by obtain⟨a,k,h,_⟩:=No;exact⟨a,k,h⟩);obtain⟨PK,cv2,rfl⟩:∃a k,v2= .slice a d.body.length k:=(by obtain⟨a,k,h,_⟩:=et.slice M4;exact⟨a,k,h⟩);obtain⟨hb,MQ,N7⟩:=kT w #[.slice au c.locals.length cu, .slice av c.body.length cv] #[.slice QA d.locals.length cu2, .slice PK d.body.length cv2] 69;have LG:=V hb;have Ms:=V MQ;have MM:=V N7;clear hb MQ N7 hu hv No M4;go_enter func306,ntmps306;go_wp2_with fail;refine(ll _ _ c.locals d.locals _ (HU.out.below LG.out) (PF.out.below LG.out)).mono ?_;rintro y w2 ⟨r,rfl,hr,Lr⟩;have LS:=V (LG.out.trans (Lr.mono LG.out.size));have x1:=(Ms.out.below Lr Ms.out.lt).two.2.1;have y1:=(MM.out.below Lr MM.out.lt).two.2.1;have NT:=V hr;clear hr Lr;cases r with
 | false=>
  go_wp2_with fail;go_ret;refine⟨false,rfl,⟨fun h=>(by cases h),fun h=>?_⟩,LS.out⟩;have g:=NT.out.2 (by rw [h]);simp at g
 | true=>
  go_wp2_with fail;refine(yU _ _ c.body d.body _ (HV.out.below LS.out) (OD.out.below LS.out)).mono ?_;rintro y w3 ⟨r2,rfl,OA,Mf⟩;have Q7:=V (LS.out.trans (Mf.mono LS.out.size));have Po:=V OA;clear OA Mf x1 y1;go_wp2_with fail;go_ret;refine⟨r2,rfl,⟨fun h=>?_,fun h=>Po.out.2 (by rw [h])⟩,Q7.out⟩;have g:=NT.out.1 (by simp);have g':=Po.out.1 h;obtain⟨p0,p1⟩:=c;obtain⟨s0,s1⟩:=d;simp only at g g';rw [g,g']
theorem sI (va vb:Value) (la lb:List gN) (w:World) (ha:et 2 r9 gW w va la) (hb:et 2 r9 gW w vb lb):
  Calls prog 301 #[va,vb, .func (.func 302) #[] #[]] w (pC la lb w):=by
 have HA:=V ha;have HB:=V hb;obtain⟨a,cap,rfl,h1,h2⟩:=ha.slice;obtain⟨a2,Lu,rfl,h3,h4⟩:=hb.slice;clear ha hb;by_cases hlen:la.length=lb.length;rotate_left
 ·have f1:(((la.length:Int)) !=((lb.length:Int)))=true:=fw (by omega)
  have HL:=V hlen;clear hlen;go_enter func301,ntmps301;go_wp2_with fail;go_ret;exact⟨false,rfl,⟨fun h=>(by cases h),fun h=>absurd (cX List.length h) HL.out⟩,an _ _⟩
 rw [<- hlen]at h3 HB⊢;have HL:=V hlen;clear hlen;go_enter func301,ntmps301;go_wp2_with fail;refine eJ (fun a' w'=>∃(k:Nat),a'=fr (.slice a la.length cap:: .slice a2 la.length Lu:: .func (.func 302) #[] #[]::gs a' 3 12 (.slice a la.length cap:: .int .i64 la.length:: .int .i64 k::gs a' 18 14 []))/\zo la lb w w' k) (fun a' _=>(la.length - (intOf (a'.tmps.getD 17 undef)).toNat)) ?_ ?_
 ·exact⟨0,rfl,by omega,rfl,an _ _⟩
 ·skip
  rintro R a' w1 ⟨k,Lp,hJ⟩ HR;dsimp only [fr,gs]at Lp;generalize slot a'=f at Lp;subst Lp;obtain⟨hk,O3,hb⟩:=hJ;have HT:=V O3;clear O3;by_cases Mm:k < la.length;rotate_left
  ·obtain rfl:k=la.length:=by omega
   go_wp2_with fail;go_ret;refine⟨true,rfl,⟨fun _=>?_,fun _=>rfl⟩,hb⟩;have:=HT.out;rw [aV,HL.out,aV]at this;exact this
  obtain⟨c,he⟩:∃e,la[k]?=some e:=⟨_,aw Mm⟩;obtain⟨d,hd⟩:∃d,lb[k]?=some d:=⟨_,aw (by have:=HL.out;omega)⟩;obtain⟨b,off,u,rfl,Lw,hc,hu⟩:=et.get (et.ext HA.out (Ext.eh hb) (fun _ _ h=>gW.ext h (Ext.eh hb))) he;obtain⟨b2,LV,u2,rfl,Nc,Mj,No⟩:=et.get (et.ext HB.out (Ext.eh hb) (fun _ _ h=>gW.ext h (Ext.eh hb))) hd;obtain⟨u,v⟩:=u;obtain⟨u2,v2⟩:=u2;have HU:=V hu.1.1;have HV:=V hu.1.2;have PF:=V No.1.1;have OD:=V No.1.2;simp only at HU HV PF OD;obtain⟨au,cu,rfl⟩:∃a k,u= .slice a c.params.length k:=(by obtain⟨a,k,h,_⟩:=HU.out;exact⟨a,k,h⟩);obtain⟨av,cv,rfl⟩:∃a k,v= .slice a c.results.length k:=(by obtain⟨a,k,h,_⟩:=HV.out;exact⟨a,k,h⟩);obtain⟨QA,cu2,rfl⟩:∃a k,u2= .slice a d.params.length k:=(by obtain⟨a,k,h,_⟩:=PF.out;exact⟨a,k,h⟩);obtain⟨PK,cv2,rfl⟩:∃a k,v2= .slice a d.results.length k:=(by obtain⟨a,k,h,_⟩:=OD.out;exact⟨a,k,h⟩);have c0:=hc 0 _ rfl;have c1:=hc 1 _ rfl;have d0:=Mj 0 _ rfl;have d1:=Mj 1 _ rfl;rw [aK]at c0 d0;clear hc Mj hu No;have HE:=V he;have HD:=V hd;clear he hd;obtain⟨M5,-,-⟩:=kT w1 #[.slice au c.params.length cu, .slice av c.results.length cv] #[.slice QA d.params.length cu2, .slice PK d.results.length cv2] 109;have NF:=(an w1.heap.size w1).alloc (ag _) (.cells #[.slice au c.params.length cu, .slice av c.results.length cv] 109);have e0:=(NF.cell (p:=⟨b2,LV+k*2,none⟩) Nc).trans d0;have e1:=(NF.cell (p:=⟨b2,LV+k*2+1,none⟩) Nc).trans d1;go_wp2_with fail;refine(AW c d _ _ _ _ _ (HU.out.below M5) (HV.out.below M5) (PF.out.below M5) (OD.out.below M5)).mono ?_;rintro y w2 ⟨r,rfl,hr,Lr⟩;replace hb:=hb.trans ((M5.trans (Lr.mono M5.size)).mono hb.size);have NT:=V hr;have HBR:=V hb;clear hr Lr M5 NF hb;clear c0 d0 e0 c1 d1 e1;cases r with
  | false=>
   go_wp2_with fail;go_ret;refine⟨false,rfl,⟨fun h=>(by cases h),fun h=>?_⟩,HBR.out⟩;have h1:=HE.out;rw [h,HD.out]at h1;injection h1 with h1;exact absurd (NT.out.2 h1.symm) (by simp)
  | true=>
   go_wp2_with fail;refine HR.out _ _ ⟨k+1,rfl,by omega,?_,HBR.out⟩ ?_
   ·rw [aR,aR,HT.out,HE.out,HD.out,NT.out.1 (by simp)]
   ·simp [intOf]
    omega
theorem sU (va vb:Value) (la lb:List gS) (w:World) (ha:et 2 su gU w va la) (hb:et 2 su gU w vb lb):
  Calls prog 305 #[va,vb, .func (.func 306) #[] #[]] w (pC la lb w):=by
 have HA:=V ha;have HB:=V hb;obtain⟨a,cap,rfl,h1,h2⟩:=ha.slice;obtain⟨a2,Lu,rfl,h3,h4⟩:=hb.slice;clear ha hb;by_cases hlen:la.length=lb.length;rotate_left
 ·have f1:(((la.length:Int)) !=((lb.length:Int)))=true:=fw (by omega)
  have HL:=V hlen;clear hlen;go_enter func305,ntmps305;go_wp2_with fail;go_ret;exact⟨false,rfl,⟨fun h=>(by cases h),fun h=>absurd (cX List.length h) HL.out⟩,an _ _⟩
 rw [<- hlen]at h3 HB⊢;have HL:=V hlen;clear hlen;go_enter func305,ntmps305;go_wp2_with fail;refine eJ (fun a' w'=>∃(k:Nat),a'=fr (.slice a la.length cap:: .slice a2 la.length Lu:: .func (.func 306) #[] #[]::gs a' 3 12 (.slice a la.length cap:: .int .i64 la.length:: .int .i64 k::gs a' 18 14 []))/\zo la lb w w' k) (fun a' _=>(la.length - (intOf (a'.tmps.getD 17 undef)).toNat)) ?_ ?_
 ·exact⟨0,rfl,by omega,rfl,an _ _⟩
 ·skip
  rintro R a' w1 ⟨k,Lp,hJ⟩ HR;dsimp only [fr,gs]at Lp;generalize slot a'=f at Lp;subst Lp;obtain⟨hk,O3,hb⟩:=hJ;have HT:=V O3;clear O3;by_cases Mm:k < la.length;rotate_left
  ·obtain rfl:k=la.length:=by omega
   go_wp2_with fail;go_ret;refine⟨true,rfl,⟨fun _=>?_,fun _=>rfl⟩,hb⟩;have:=HT.out;rw [aV,HL.out,aV]at this;exact this
  obtain⟨c,he⟩:∃e,la[k]?=some e:=⟨_,aw Mm⟩;obtain⟨d,hd⟩:∃d,lb[k]?=some d:=⟨_,aw (by have:=HL.out;omega)⟩;obtain⟨b,off,u,rfl,Lw,hc,hu⟩:=et.get (et.ext HA.out (Ext.eh hb) (fun _ _ h=>gU.ext h (Ext.eh hb))) he;obtain⟨b2,LV,u2,rfl,Nc,Mj,No⟩:=et.get (et.ext HB.out (Ext.eh hb) (fun _ _ h=>gU.ext h (Ext.eh hb))) hd;obtain⟨u,v⟩:=u;obtain⟨u2,v2⟩:=u2;have HU:=V hu.1.1;have HV:=V hu.1.2;have PF:=V No.1.1;have OD:=V No.1.2;simp only at HU HV PF OD;obtain⟨au,cu,rfl⟩:∃a k,u= .slice a c.locals.length k:=(by obtain⟨a,k,h,_⟩:=HU.out;exact⟨a,k,h⟩);obtain⟨av,cv,rfl⟩:∃a k,v= .slice a c.body.length k:=(by obtain⟨a,k,h,_⟩:=et.slice HV.out;exact⟨a,k,h⟩);obtain⟨QA,cu2,rfl⟩:∃a k,u2= .slice a d.locals.length k:=(by obtain⟨a,k,h,_⟩:=PF.out;exact⟨a,k,h⟩);obtain⟨PK,cv2,rfl⟩:∃a k,v2= .slice a d.body.length k:=(by obtain⟨a,k,h,_⟩:=et.slice OD.out;exact⟨a,k,h⟩);have c0:=hc 0 _ rfl;have c1:=hc 1 _ rfl;have d0:=Mj 0 _ rfl;have d1:=Mj 1 _ rfl;rw [aK]at c0 d0;clear hc Mj hu No;have HE:=V he;have HD:=V hd;clear he hd;obtain⟨M5,-,-⟩:=kT w1 #[.slice au c.locals.length cu, .slice av c.body.length cv] #[.slice QA d.locals.length cu2, .slice PK d.body.length cv2] 69;have NF:=(an w1.heap.size w1).alloc (ag _) (.cells #[.slice au c.locals.length cu, .slice av c.body.length cv] 69);have e0:=(NF.cell (p:=⟨b2,LV+k*2,none⟩) Nc).trans d0;have e1:=(NF.cell (p:=⟨b2,LV+k*2+1,none⟩) Nc).trans d1;go_wp2_with fail;refine(BR c d _ _ _ _ _ (HU.out.below M5) (HV.out.below M5) (PF.out.below M5) (OD.out.below M5)).mono ?_;rintro y w2 ⟨r,rfl,hr,Lr⟩;replace hb:=hb.trans ((M5.trans (Lr.mono M5.size)).mono hb.size);have NT:=V hr;have HBR:=V hb;clear hr Lr M5 NF hb;clear c0 d0 e0 c1 d1 e1;cases r with
  | false=>
   go_wp2_with fail;go_ret;refine⟨false,rfl,⟨fun h=>(by cases h),fun h=>?_⟩,HBR.out⟩;have h1:=HE.out;rw [h,HD.out]at h1;injection h1 with h1;exact absurd (NT.out.2 h1.symm) (by simp)
  | true=>
   go_wp2_with fail;refine HR.out _ _ ⟨k+1,rfl,by omega,?_,HBR.out⟩ ?_
   ·rw [aR,aR,HT.out,HE.out,HD.out,NT.out.1 (by simp)]
   ·simp [intOf]
    omega
theorem yT (a a2:Option Addr) (c c2:Nat) (w:World):Calls prog 303 #[.slice a 0 c, .slice a2 0 c2, .func (.func 304) #[] #[]] w (rk True w):=by
 go_enter func303,ntmps303;go_wp2_with fail;refine c9 1 ?_;rw [cO];go_wp2_with fail;go_ret;exact⟨true,rfl,by simp,an _ _⟩
theorem zt (a a2:Option Addr) (c c2:Nat) (w:World):Calls prog 309 #[.slice a 0 c, .slice a2 0 c2, .func (.func 310) #[] #[]] w (rk True w):=by
 go_enter func309,ntmps309;go_wp2_with fail;refine c9 1 ?_;rw [cO];go_wp2_with fail;go_ret;exact⟨true,rfl,by simp,an _ _⟩
theorem Ef (a a2:Option Addr) (c c2:Nat) (w:World):Calls prog 312 #[.slice a 0 c, .slice a2 0 c2] w (rk True w):=by
 go_enter func312,ntmps312;go_wp2_with fail;refine c9 1 ?_;rw [cO];go_wp2_with fail;go_ret;exact⟨true,rfl,by simp,an _ _⟩
theorem GR (a a2:Option Addr) (c c2:Nat) (w:World):Calls prog 313 #[.slice a 0 c, .slice a2 0 c2] w (rk True w):=by
 go_enter func313,ntmps313;go_wp2_with fail;refine c9 1 ?_;rw [cO];go_wp2_with fail;go_ret;exact⟨true,rfl,by simp,an _ _⟩
def eI.Dw (m:eI):Prop:=m.imports=[]/\m.globals=[]/\m.elems=[]/\m.eK=[]
theorem Fy (m n:eI) (u v:eL) (w:World) (hm:eD w u m) (hm2:eD w v n) (hp:m.Dw) (Qc:n.Dw) (ht:m.types≠n.types):
  Calls prog 300 #[.agg (u.cells m), .agg (v.cells n)] w (rk False w):=by
 have HT:=V ht;clear ht;have HI:=V hm;have OC:=V hm2;have HP:=V hp;have HP2:=V Qc;have OR:m.imports.length=0:=by rw [hp.1];rfl
 have hg0:m.globals.length=0:=by rw [hp.2.1];rfl
 have he0:m.elems.length=0:=by rw [hp.2.2.1];rfl
 have hd0:m.eK.length=0:=by rw [hp.2.2.2];rfl
 have hi2:n.imports.length=0:=by rw [Qc.1];rfl
 have NY:n.globals.length=0:=by rw [Qc.2.1];rfl
 have Nw:n.elems.length=0:=by rw [Qc.2.2.1];rfl
 have Rr:n.eK.length=0:=by rw [Qc.2.2.2];rfl
 obtain⟨a0,c0,a1,c1,a2,c2,a3,c3,a4,c4,a5,c5,a6,c6,a7,c7,rfl⟩:=eD.open hm;obtain⟨b0,d0,b1,d1,b2,d2,b3,d3,b4,d4,b5,d5,b6,d6,b7,d7,rfl⟩:=eD.open hm2;clear hm hm2 hp Qc;simp only [eL.cells,OR,hg0,he0,hd0,hi2,NY,Nw,Rr]at*;obtain⟨hb,MQ,N7⟩:=kT w #[.slice a0 m.types.length c0, .slice a1 0 c1, .slice a2 m.funcs.length c2, .bool m.table.has, .int .i64 m.table.min, .int .i64 m.table.max, .bool m.mem.has, .int .i64 m.mem.min, .int .i64 m.mem.max, .slice a3 0 c3, .slice a4 m.ep.length c4, .slice a5 0 c5, .slice a6 m.eA.length c6, .slice a7 0 c7] #[.slice b0 n.types.length d0, .slice b1 0 d1, .slice b2 n.funcs.length d2, .bool n.table.has, .int .i64 n.table.min, .int .i64 n.table.max, .bool n.mem.has, .int .i64 n.mem.min, .int .i64 n.mem.max, .slice b3 0 d3, .slice b4 n.ep.length d4, .slice b5 0 d5, .slice b6 n.eA.length d6, .slice b7 0 d7] 62;have LG:=V hb;have Ms:=V MQ;have MM:=V N7;clear hb MQ N7 OR hg0 he0 hd0 hi2 NY Nw Rr;go_enter func300,ntmps300;go_wp2_with fail;refine(sI (.slice a0 m.types.length c0) (.slice b0 n.types.length d0) m.types n.types _ (et.below HI.out.1 LG.out (fun _ _ h=>h.below LG.out)) (et.below OC.out.1 LG.out (fun _ _ h=>h.below LG.out))).mono ?_;rintro y w1 ⟨r1,rfl,hr,hb⟩;have R1:=V hr;have Ms:=V (Ms.out.below hb Ms.out.lt);have MM:=V (MM.out.below hb MM.out.lt);have LG:=V (LG.out.trans (hb.mono LG.out.size));clear hr hb;obtain⟨g0,g1,g2,g3,g4,g5,g6,g7,g8,g9,Mb,Mc,Md,Me⟩:=Ms.out.mod;obtain⟨k0,k1,k2,k3,k4,k5,k6,k7,k8,k9,Ps,Pt,Pu,Pv⟩:=MM.out.mod;go_wp2_with fail;refine(yT _ _ _ _ _).mono ?_;clear g0 g1 g2 g3 g4 g5 g6 g7 g8 g9 Mb Mc Md Me k0 k1 k2 k3 k4 k5 k6 k7 k8 k9 Ps Pt Pu Pv;rintro y w2 ⟨r2,rfl,hr,hb⟩;have R2:=V hr;have Ms:=V (Ms.out.below hb Ms.out.lt);have MM:=V (MM.out.below hb MM.out.lt);have LG:=V (LG.out.trans (hb.mono LG.out.size));clear hr hb;obtain⟨g0,g1,g2,g3,g4,g5,g6,g7,g8,g9,Mb,Mc,Md,Me⟩:=Ms.out.mod;obtain⟨k0,k1,k2,k3,k4,k5,k6,k7,k8,k9,Ps,Pt,Pu,Pv⟩:=MM.out.mod;obtain rfl:=R2.out.2 trivial;go_wp2_with fail;refine(sU (.slice a6 m.eA.length c6) (.slice b6 n.eA.length d6) m.eA n.eA _ (et.below HI.out.2.2.2.2.2.2.1 LG.out (fun _ _ h=>h.below LG.out)) (et.below OC.out.2.2.2.2.2.2.1 LG.out (fun _ _ h=>h.below LG.out))).mono ?_;clear g0 g1 g2 g3 g4 g5 g6 g7 g8 g9 Mb Mc Md Me k0 k1 k2 k3 k4 k5 k6 k7 k8 k9 Ps Pt Pu Pv;rintro y w3 ⟨r3,rfl,hr,hb⟩;have R3:=V hr;have Ms:=V (Ms.out.below hb Ms.out.lt);have MM:=V (MM.out.below hb MM.out.lt);have LG:=V (LG.out.trans (hb.mono LG.out.size));clear hr hb;obtain⟨g0,g1,g2,g3,g4,g5,g6,g7,g8,g9,Mb,Mc,Md,Me⟩:=Ms.out.mod;obtain⟨k0,k1,k2,k3,k4,k5,k6,k7,k8,k9,Ps,Pt,Pu,Pv⟩:=MM.out.mod;go_wp2_with fail;refine(zt _ _ _ _ _).mono ?_;clear g0 g1 g2 g3 g4 g5 g6 g7 g8 g9 Mb Mc Md Me k0 k1 k2 k3 k4 k5 k6 k7 k8 k9 Ps Pt Pu Pv;rintro y w4 ⟨r4,rfl,hr,hb⟩;have R4:=V hr;have Ms:=V (Ms.out.below hb Ms.out.lt);have MM:=V (MM.out.below hb MM.out.lt);have LG:=V (LG.out.trans (hb.mono LG.out.size));clear hr hb;obtain⟨g0,g1,g2,g3,g4,g5,g6,g7,g8,g9,Mb,Mc,Md,Me⟩:=Ms.out.mod;obtain⟨k0,k1,k2,k3,k4,k5,k6,k7,k8,k9,Ps,Pt,Pu,Pv⟩:=MM.out.mod;obtain rfl:=R4.out.2 trivial;obtain rfl:r1=false:=by
  cases r1 with
  | true=>exact absurd (R1.out.1 rfl) HT.out
  | false=>rfl
 clear g0 g1 g2 g3 g4 g5 g6 g7 g8 g9 Mb Mc Md Me k0 k1 k2 k3 k4 k5 k6 k7 k8 k9 Ps Pt Pu Pv;obtain⟨g0,g1,g2,g3,g4,g5,g6,g7,g8,g9,Mb,Mc,Md,Me⟩:=Ms.out.mod;obtain⟨k0,k1,k2,k3,k4,k5,k6,k7,k8,k9,Ps,Pt,Pu,Pv⟩:=MM.out.mod;go_wp2_with fail;go_ret;exact⟨false,rfl,by simp,LG.out⟩
theorem Hm (m:eI) (u v:eL) (w:World) (hm:eD w u m) (hm2:eD w v m) (hp:m.Dw) (Qc:m.Dw):
  Calls prog 300 #[.agg (u.cells m), .agg (v.cells m)] w (rk True w):=by
 have HI:=V hm;have OC:=V hm2;have HP:=V hp;have HP2:=V Qc;have OR:m.imports.length=0:=by rw [hp.1];rfl
 have hg0:m.globals.length=0:=by rw [hp.2.1];rfl
 have he0:m.elems.length=0:=by rw [hp.2.2.1];rfl
 have hd0:m.eK.length=0:=by rw [hp.2.2.2];rfl
 have hi2:m.imports.length=0:=by rw [Qc.1];rfl
 have NY:m.globals.length=0:=by rw [Qc.2.1];rfl
 have Nw:m.elems.length=0:=by rw [Qc.2.2.1];rfl
 have Rr:m.eK.length=0:=by rw [Qc.2.2.2];rfl
 obtain⟨a0,c0,a1,c1,a2,c2,a3,c3,a4,c4,a5,c5,a6,c6,a7,c7,rfl⟩:=eD.open hm;obtain⟨b0,d0,b1,d1,b2,d2,b3,d3,b4,d4,b5,d5,b6,d6,b7,d7,rfl⟩:=eD.open hm2;clear hm hm2 hp Qc;simp only [eL.cells,OR,hg0,he0,hd0]at*;obtain⟨hb,MQ,N7⟩:=kT w #[.slice a0 m.types.length c0, .slice a1 0 c1, .slice a2 m.funcs.length c2, .bool m.table.has, .int .i64 m.table.min, .int .i64 m.table.max, .bool m.mem.has, .int .i64 m.mem.min, .int .i64 m.mem.max, .slice a3 0 c3, .slice a4 m.ep.length c4, .slice a5 0 c5, .slice a6 m.eA.length c6, .slice a7 0 c7] #[.slice b0 m.types.length d0, .slice b1 0 d1, .slice b2 m.funcs.length d2, .bool m.table.has, .int .i64 m.table.min, .int .i64 m.table.max, .bool m.mem.has, .int .i64 m.mem.min, .int .i64 m.mem.max, .slice b3 0 d3, .slice b4 m.ep.length d4, .slice b5 0 d5, .slice b6 m.eA.length d6, .slice b7 0 d7] 62;have LG:=V hb;have Ms:=V MQ;have MM:=V N7;clear hb MQ N7 OR hg0 he0 hd0 hi2 NY Nw Rr;go_enter func300,ntmps300;go_wp2_with fail;refine(sI (.slice a0 m.types.length c0) (.slice b0 m.types.length d0) m.types m.types _ (et.below HI.out.1 LG.out (fun _ _ h=>h.below LG.out)) (et.below OC.out.1 LG.out (fun _ _ h=>h.below LG.out))).mono ?_;rintro y w1 ⟨r1,rfl,hr,hb⟩;have R1:=V hr;have Ms:=V (Ms.out.below hb Ms.out.lt);have MM:=V (MM.out.below hb MM.out.lt);have LG:=V (LG.out.trans (hb.mono LG.out.size));clear hr hb;obtain⟨g0,g1,g2,g3,g4,g5,g6,g7,g8,g9,Mb,Mc,Md,Me⟩:=Ms.out.mod;obtain⟨k0,k1,k2,k3,k4,k5,k6,k7,k8,k9,Ps,Pt,Pu,Pv⟩:=MM.out.mod;go_wp2_with fail;refine(yT _ _ _ _ _).mono ?_;clear g0 g1 g2 g3 g4 g5 g6 g7 g8 g9 Mb Mc Md Me k0 k1 k2 k3 k4 k5 k6 k7 k8 k9 Ps Pt Pu Pv;rintro y w2 ⟨r2,rfl,hr,hb⟩;have R2:=V hr;have Ms:=V (Ms.out.below hb Ms.out.lt);have MM:=V (MM.out.below hb MM.out.lt);have LG:=V (LG.out.trans (hb.mono LG.out.size));clear hr hb;obtain⟨g0,g1,g2,g3,g4,g5,g6,g7,g8,g9,Mb,Mc,Md,Me⟩:=Ms.out.mod;obtain⟨k0,k1,k2,k3,k4,k5,k6,k7,k8,k9,Ps,Pt,Pu,Pv⟩:=MM.out.mod;obtain rfl:=R2.out.2 trivial;go_wp2_with fail;refine(sU (.slice a6 m.eA.length c6) (.slice b6 m.eA.length d6) m.eA m.eA _ (et.below HI.out.2.2.2.2.2.2.1 LG.out (fun _ _ h=>h.below LG.out)) (et.below OC.out.2.2.2.2.2.2.1 LG.out (fun _ _ h=>h.below LG.out))).mono ?_;clear g0 g1 g2 g3 g4 g5 g6 g7 g8 g9 Mb Mc Md Me k0 k1 k2 k3 k4 k5 k6 k7 k8 k9 Ps Pt Pu Pv;rintro y w3 ⟨r3,rfl,hr,hb⟩;have R3:=V hr;have Ms:=V (Ms.out.below hb Ms.out.lt);have MM:=V (MM.out.below hb MM.out.lt);have LG:=V (LG.out.trans (hb.mono LG.out.size));clear hr hb;obtain⟨g0,g1,g2,g3,g4,g5,g6,g7,g8,g9,Mb,Mc,Md,Me⟩:=Ms.out.mod;obtain⟨k0,k1,k2,k3,k4,k5,k6,k7,k8,k9,Ps,Pt,Pu,Pv⟩:=MM.out.mod;go_wp2_with fail;refine(zt _ _ _ _ _).mono ?_;clear g0 g1 g2 g3 g4 g5 g6 g7 g8 g9 Mb Mc Md Me k0 k1 k2 k3 k4 k5 k6 k7 k8 k9 Ps Pt Pu Pv;rintro y w4 ⟨r4,rfl,hr,hb⟩;have R4:=V hr;have Ms:=V (Ms.out.below hb Ms.out.lt);have MM:=V (MM.out.below hb MM.out.lt);have LG:=V (LG.out.trans (hb.mono LG.out.size));clear hr hb;obtain⟨g0,g1,g2,g3,g4,g5,g6,g7,g8,g9,Mb,Mc,Md,Me⟩:=Ms.out.mod;obtain⟨k0,k1,k2,k3,k4,k5,k6,k7,k8,k9,Ps,Pt,Pu,Pv⟩:=MM.out.mod;obtain rfl:=R4.out.2 trivial;obtain rfl:=R1.out.2 trivial;obtain rfl:=R3.out.2 trivial;go_wp2_with fail;refine(Ef _ _ _ _ _).mono ?_;clear g0 g1 g2 g3 g4 g5 g6 g7 g8 g9 Mb Mc Md Me k0 k1 k2 k3 k4 k5 k6 k7 k8 k9 Ps Pt Pu Pv;rintro y w5 ⟨r5,rfl,hr,hb⟩;have R5:=V hr;have Ms:=V (Ms.out.below hb Ms.out.lt);have MM:=V (MM.out.below hb MM.out.lt);have LG:=V (LG.out.trans (hb.mono LG.out.size));clear hr hb;obtain⟨g0,g1,g2,g3,g4,g5,g6,g7,g8,g9,Mb,Mc,Md,Me⟩:=Ms.out.mod;obtain⟨k0,k1,k2,k3,k4,k5,k6,k7,k8,k9,Ps,Pt,Pu,Pv⟩:=MM.out.mod;obtain rfl:=R5.out.2 trivial;go_wp2_with fail;refine(ll (.slice a2 m.funcs.length c2) (.slice b2 m.funcs.length d2) m.funcs m.funcs _ (HI.out.2.2.1.below LG.out) (OC.out.2.2.1.below LG.out)).mono ?_;clear g0 g1 g2 g3 g4 g5 g6 g7 g8 g9 Mb Mc Md Me k0 k1 k2 k3 k4 k5 k6 k7 k8 k9 Ps Pt Pu Pv;rintro y w6 ⟨r6,rfl,hr,hb⟩;have R6:=V hr;have Ms:=V (Ms.out.below hb Ms.out.lt);have MM:=V (MM.out.below hb MM.out.lt);have LG:=V (LG.out.trans (hb.mono LG.out.size));clear hr hb;obtain⟨g0,g1,g2,g3,g4,g5,g6,g7,g8,g9,Mb,Mc,Md,Me⟩:=Ms.out.mod;obtain⟨k0,k1,k2,k3,k4,k5,k6,k7,k8,k9,Ps,Pt,Pu,Pv⟩:=MM.out.mod;obtain rfl:=R6.out.2 rfl;go_wp2_with fail;refine(GR _ _ _ _ _).mono ?_;clear g0 g1 g2 g3 g4 g5 g6 g7 g8 g9 Mb Mc Md Me k0 k1 k2 k3 k4 k5 k6 k7 k8 k9 Ps Pt Pu Pv;rintro y w7 ⟨r7,rfl,hr,hb⟩;have R7:=V hr;have Ms:=V (Ms.out.below hb Ms.out.lt);have MM:=V (MM.out.below hb MM.out.lt);have LG:=V (LG.out.trans (hb.mono LG.out.size));clear hr hb;obtain⟨g0,g1,g2,g3,g4,g5,g6,g7,g8,g9,Mb,Mc,Md,Me⟩:=Ms.out.mod;obtain⟨k0,k1,k2,k3,k4,k5,k6,k7,k8,k9,Ps,Pt,Pu,Pv⟩:=MM.out.mod;obtain rfl:=R7.out.2 trivial;go_wp2_with fail;refine(yu (.slice a4 m.ep.length c4) (.slice b4 m.ep.length d4) m.ep m.ep _ (HI.out.2.2.2.2.1.below LG.out) (OC.out.2.2.2.2.1.below LG.out)).mono ?_;clear g0 g1 g2 g3 g4 g5 g6 g7 g8 g9 Mb Mc Md Me k0 k1 k2 k3 k4 k5 k6 k7 k8 k9 Ps Pt Pu Pv;rintro y w8 ⟨r8,rfl,hr,hb⟩;have R8:=V hr;have Ms:=V (Ms.out.below hb Ms.out.lt);have MM:=V (MM.out.below hb MM.out.lt);have LG:=V (LG.out.trans (hb.mono LG.out.size));clear hr hb;obtain⟨g0,g1,g2,g3,g4,g5,g6,g7,g8,g9,Mb,Mc,Md,Me⟩:=Ms.out.mod;obtain⟨k0,k1,k2,k3,k4,k5,k6,k7,k8,k9,Ps,Pt,Pu,Pv⟩:=MM.out.mod;obtain rfl:=R8.out.2 rfl;go_wp2_with fail;go_ret;exact⟨true,rfl,by simp,LG.out⟩
end Go.Proofs.YthbjdhjppbcneaaGreatDoor
