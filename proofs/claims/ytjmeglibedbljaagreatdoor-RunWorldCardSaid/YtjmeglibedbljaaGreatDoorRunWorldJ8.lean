import Derived.Test.YtjmeglibedbljaaGreatDoorRunWorldJ7
namespace Go.Proofs.YtjmeglibedbljaaGreatDoor
set_option maxRecDepth 100000
set_option maxHeartbeats 20000000
open Go.RowKit Tryz
open Lib renaming hid->V
set_option linter.all false
theorem tY (x:gl) (least fD:Int) (w:World):Calls prog 109 #[.agg #[.bool x.has, .int .i64 x.min, .int .i64 x.max], .int .i64 least, .int .i64 fD] w (eL (decide (x.may least fD)) w):=by
 obtain⟨has,mn,mx⟩:=x;cases has with
 | false=>
  by_cases q1:mn=0
  ·have f1:=eV q1
   have HB:Hid (decide (gl.may least fD ⟨false,mn,mx⟩)=(mx==0)):=V (by rw [dD];simp [gl.may,q1]);clear q1;go_enter func109,ntmps109;go_wp2;go_ret;exact⟨by rw [HB.out];rfl,(an _ _).alloc (ag _) _⟩
  ·have f1:=eh q1
   have HB:Hid (decide (gl.may least fD ⟨false,mn,mx⟩)=false):=V (by simp [gl.may,q1]);clear q1;go_enter func109,ntmps109;go_wp2;go_ret;exact⟨by rw [HB.out];rfl,(an _ _).alloc (ag _) _⟩
 | true=>
  by_cases q1:0 <=mn
  ·have f1:decide (0 <=mn)=true:=ay q1
   by_cases q2:mn <=least
   ·have f2:decide (mn <=least)=true:=ay q2
    by_cases q3: -1 <=mx
    ·have f3:decide (-1 <=mx)=true:=ay q3
     have HB:Hid (decide (gl.may least fD ⟨true,mn,mx⟩)=decide (mx <=fD)):=V (by simp [gl.may,q1,q2,q3]);clear q1 q2 q3;go_enter func109,ntmps109;go_wp2;go_ret;exact⟨by rw [HB.out];rfl,(an _ _).alloc (ag _) _⟩
    ·have f3:decide (-1 <=mx)=false:=aw q3
     have HB:Hid (decide (gl.may least fD ⟨true,mn,mx⟩)=false):=V (by simp only [gl.may,cT,q3,false_and,and_false];rfl);clear q1 q2 q3;go_enter func109,ntmps109;go_wp2;go_ret;exact⟨by rw [HB.out];rfl,(an _ _).alloc (ag _) _⟩
   ·have f2:decide (mn <=least)=false:=aw q2
    have HB:Hid (decide (gl.may least fD ⟨true,mn,mx⟩)=false):=V (by simp only [gl.may,cT,q2,false_and,and_false];rfl);clear q1 q2;go_enter func109,ntmps109;go_wp2;go_ret;exact⟨by rw [HB.out];rfl,(an _ _).alloc (ag _) _⟩
  ·have f1:decide (0 <=mn)=false:=aw q1
   have HB:Hid (decide (gl.may least fD ⟨true,mn,mx⟩)=false):=V (by simp only [gl.may,cT,q1,false_and];rfl);clear q1;go_enter func109,ntmps109;go_wp2;go_ret;exact⟨by rw [HB.out];rfl,(an _ _).alloc (ag _) _⟩
theorem eG.open {w:World} {u:eT} {m:eI} (h:eG w u m):∃a0 c0 a1 c1 a2 c2 a3 c3 a4 c4 a5 c5 a6 c6 a7 c7,
  u=⟨.slice a0 m.types.length c0, .slice a1 m.imports.length c1, .slice a2 m.funcs.length c2, .slice a3 m.globals.length c3, .slice a4 m.ey.length c4, .slice a5 m.elems.length c5, .slice a6 m.eF.length c6, .slice a7 m.eP.length c7⟩:=by
 obtain⟨h1,h2,h3,h4,h5,h6,h7,h8,_⟩:=h;obtain⟨u0,u1,u2,u3,u4,u5,u6,u7⟩:=u;obtain⟨a0,c0,e0,-⟩:=eD.slice h1;obtain⟨a1,c1,e1,-⟩:=fH h2;obtain⟨a2,c2,e2,-⟩:=fH h3;obtain⟨a3,c3,e3,-⟩:=fH h4;obtain⟨a4,c4,e4,-⟩:=fH h5;obtain⟨a5,c5,e5,-⟩:=eD.slice h6;obtain⟨a6,c6,e6,-⟩:=eD.slice h7;obtain⟨a7,c7,e7,-⟩:=eD.slice h8;simp only at e0 e1 e2 e3 e4 e5 e6 e7;subst e0 e1 e2 e3 e4 e5 e6 e7;exact⟨a0,c0,a1,c1,a2,c2,a3,c3,a4,c4,a5,c5,a6,c6,a7,c7,rfl⟩
def eI.words (m:eI):Prop:=(∀x∈m.imports,x.mod.size <=1000000000000/\x.name.size <=1000000000000)/\∀x∈m.ey,x.name.size <=1000000000000
theorem Ff (m:eI) (u:eT) (w:World) (hm:eG w u m) (hs:m.words):Calls prog 108 #[.agg (u.cells m)] w (eL (decide m.lists) w):=by
 have HI:=V hm;have HS:=V hs;obtain⟨a0,c0,a1,c1,a2,c2,a3,c3,a4,c4,a5,c5,a6,c6,a7,c7,rfl⟩:=hm.open;have hil:m.imports.length <=9223372036854775807:=by
  obtain⟨_,_,_,h1,h2⟩:=fH HI.out.2.1;omega
 clear hm hs;have HM:Hid (decide m.lists=(decide ((m.types.length:Int) <=16/\∀x∈m.types,x.may)&&(decide ((m.imports.length:Int) <=16/\∀x∈m.imports,x.may)&&(decide ((m.funcs.length:Int) <=16 - m.imports.length/\∀n∈m.funcs,gh n)&&(decide ((m.globals.length:Int) <=16/\∀x∈m.globals,x.init.may)&&(decide ((m.ey.length:Int) <=16/\∀x∈m.ey,x.may)&&(decide ((m.elems.length:Int) <=16/\∀x∈m.elems,x.may)&&decide ((m.eP.length:Int) <=16/\∀x∈m.eP,x.may)))))))):=V (by
  simp only [<- cJ];refine dh.2 ?_;unfold eI.lists
  constructor
  ·rintro⟨⟨⟨p1,q1⟩,⟨p2,q2⟩,p3,q3⟩,⟨p4,q4⟩,⟨p5,q5⟩,⟨p6,q6⟩,p7,q7⟩
   exact⟨⟨by omega,q1⟩,⟨by omega,q2⟩,⟨p3,q3⟩,⟨by omega,q4⟩,⟨by omega,q5⟩,⟨by omega,q6⟩,by omega,q7⟩
  ·rintro⟨⟨p1,q1⟩,⟨p2,q2⟩,⟨p3,q3⟩,⟨p4,q4⟩,⟨p5,q5⟩,⟨p6,q6⟩,p7,q7⟩
   exact⟨⟨⟨by omega,q1⟩,⟨by omega,q2⟩,p3,q3⟩,⟨by omega,q4⟩,⟨by omega,q5⟩,⟨by omega,q6⟩,by omega,q7⟩)
 simp only [eT.cells];have B0:=eS.new w #[.slice a0 m.types.length c0, .slice a1 m.imports.length c1, .slice a2 m.funcs.length c2, .bool m.table.has, .int .i64 m.table.min, .int .i64 m.table.max, .bool m.mem.has, .int .i64 m.mem.min, .int .i64 m.mem.max, .slice a3 m.globals.length c3, .slice a4 m.ey.length c4, .slice a5 m.elems.length c5, .slice a6 m.eF.length c6, .slice a7 m.eP.length c7] 35;have h0:Below w.heap.size w (w.alloc (.cells #[.slice a0 m.types.length c0, .slice a1 m.imports.length c1, .slice a2 m.funcs.length c2, .bool m.table.has, .int .i64 m.table.min, .int .i64 m.table.max, .bool m.mem.has, .int .i64 m.mem.min, .int .i64 m.mem.max, .slice a3 m.globals.length c3, .slice a4 m.ey.length c4, .slice a5 m.elems.length c5, .slice a6 m.eF.length c6, .slice a7 m.eP.length c7] 35)):=(an _ _).alloc (ag _) _;go_enter func108,ntmps108;go_wp2_with fail;refine(FU (fun x=>decide x.may) _ m.types _ (HI.out.1.below h0) 151 16 (fun _ _=>by rfl) (fun e _ u w' _ hu=>Jc e u w' hu)).mono ?_;rw [lF];rintro x w1 ⟨rfl,hb⟩;obtain⟨r1,hr⟩:∃r,decide ((m.types.length:Int) <=16/\∀x∈m.types,x.may)=r:=⟨_,rfl⟩;rw [hr];have R1:=V hr;clear hr;have B1:=B0.below hb B0.lt;have h1:=h0.trans (hb.mono h0.size);clear hb;have g1:w1.cell? ⟨w.heap.size,1,none⟩=some (.slice a1 m.imports.length c1):=B1.cell 1;go_wp2_with fail;refine(Gt (fun x=>decide x.may) _ m.imports _ (HI.out.2.1.below h1) 153 16 (fun _ _=>by rfl) (fun e he w' _=>Im e w' (HS.out.1 e he))).mono ?_;rw [lF];rintro x w2 ⟨rfl,hb⟩;obtain⟨r2,hr⟩:∃r,decide ((m.imports.length:Int) <=16/\∀x∈m.imports,x.may)=r:=⟨_,rfl⟩;rw [hr];have R2:=V hr;clear hr;have B2:=B1.below hb B1.lt;have h2:=h1.trans (hb.mono h1.size);clear hb;clear g1;have g1:w2.cell? ⟨w.heap.size,1,none⟩=some (.slice a1 m.imports.length c1):=B2.cell 1;have g2:w2.cell? ⟨w.heap.size,2,none⟩=some (.slice a2 m.funcs.length c2):=B2.cell 2;go_wp2_with fail;refine(qR _ m.funcs (16 - m.imports.length) _ (HI.out.2.2.1.below h2)).mono ?_;rintro x w3 ⟨rfl,hb⟩;obtain⟨r3,hr⟩:∃r,decide ((m.funcs.length:Int) <=16 - m.imports.length/\∀n∈m.funcs,gh n)=r:=⟨_,rfl⟩;rw [hr];have R3:=V hr;clear hr;have B3:=B2.below hb B2.lt;have h3:=h2.trans (hb.mono h2.size);clear hb;clear g1 g2 hil;have g1:w3.cell? ⟨w.heap.size,9,none⟩=some (.slice a3 m.globals.length c3):=B3.cell 9;go_wp2_with fail;refine(IT (fun x=>decide x.init.may) _ m.globals _ (HI.out.2.2.2.1.below h3) 157 16 (fun _ _=>by rfl) (fun e _ w' _=>Jd e w')).mono ?_;rw [lF];rintro x w4 ⟨rfl,hb⟩;obtain⟨r4,hr⟩:∃r,decide ((m.globals.length:Int) <=16/\∀x∈m.globals,x.init.may)=r:=⟨_,rfl⟩;rw [hr];have R4:=V hr;clear hr;have B4:=B3.below hb B3.lt;have h4:=h3.trans (hb.mono h3.size);clear hb;clear g1;have g1:w4.cell? ⟨w.heap.size,10,none⟩=some (.slice a4 m.ey.length c4):=B4.cell 10;go_wp2_with fail;refine(Gq (fun x=>decide x.may) _ m.ey _ (HI.out.2.2.2.2.1.below h4) 159 16 (fun _ _=>by rfl) (fun e he w' _=>GP e w' (HS.out.2 e he))).mono ?_;rw [lF];rintro x w5 ⟨rfl,hb⟩;obtain⟨r5,hr⟩:∃r,decide ((m.ey.length:Int) <=16/\∀x∈m.ey,x.may)=r:=⟨_,rfl⟩;rw [hr];have R5:=V hr;clear hr;have B5:=B4.below hb B4.lt;have h5:=h4.trans (hb.mono h4.size);clear hb;clear g1;have g1:w5.cell? ⟨w.heap.size,11,none⟩=some (.slice a5 m.elems.length c5):=B5.cell 11;go_wp2_with fail;refine(Hi (fun x=>decide x.may) _ m.elems _ (eD.below HI.out.2.2.2.2.2.1 h5 (fun _ _ h=>h.below h5)) 161 16 (fun _ _=>by rfl) (fun e _ u w' _ hu=>GA e u w' hu)).mono ?_;rw [lF];rintro x w6 ⟨rfl,hb⟩;obtain⟨r6,hr⟩:∃r,decide ((m.elems.length:Int) <=16/\∀x∈m.elems,x.may)=r:=⟨_,rfl⟩;rw [hr];have R6:=V hr;clear hr;have B6:=B5.below hb B5.lt;have h6:=h5.trans (hb.mono h5.size);clear hb;clear g1;have g1:w6.cell? ⟨w.heap.size,13,none⟩=some (.slice a7 m.eP.length c7):=B6.cell 13;go_wp2_with fail;refine(GQ (fun x=>decide x.may) _ m.eP _ (eD.below HI.out.2.2.2.2.2.2.2.1 h6 (fun _ _ h=>h.below h6)) 164 16 (fun _ _=>by rfl) (fun e _ u w' _ hu=>IL e u w' hu)).mono ?_;rw [lF];rintro x w7 ⟨rfl,hb⟩;obtain⟨r7,hr⟩:∃r,decide ((m.eP.length:Int) <=16/\∀x∈m.eP,x.may)=r:=⟨_,rfl⟩;rw [hr];have R7:=V hr;clear hr;have h7:=h6.trans (hb.mono h6.size);clear g1 B0 B1 B2 B3 B4 B5 B6 h0 h1 h2 h3 h4 h5 h6 hb;cases r1
 ·skip
  go_wp2;go_ret;exact⟨by rw [HM.out,R1.out];rfl,h7⟩
 cases r2
 ·skip
  go_wp2;go_ret;exact⟨by rw [HM.out,R1.out,R2.out];rfl,h7⟩
 cases r3
 ·skip
  go_wp2;go_ret;exact⟨by rw [HM.out,R1.out,R2.out,R3.out];rfl,h7⟩
 cases r4
 ·skip
  go_wp2;go_ret;exact⟨by rw [HM.out,R1.out,R2.out,R3.out,R4.out];rfl,h7⟩
 cases r5
 ·skip
  go_wp2;go_ret;exact⟨by rw [HM.out,R1.out,R2.out,R3.out,R4.out,R5.out];rfl,h7⟩
 cases r6
 ·skip
  go_wp2;go_ret;exact⟨by rw [HM.out,R1.out,R2.out,R3.out,R4.out,R5.out,R6.out];rfl,h7⟩
 go_wp2;go_ret;exact⟨by rw [HM.out,R1.out,R2.out,R3.out,R4.out,R5.out,R6.out,R7.out];rfl,h7⟩
def DA (m:eI) (w:World) (e:Ending) (w':World):Prop:=∃v,e= .returned v/\eZ w' v (fL m)/\Below w.heap.size w w'
theorem eG.LX {w:World} {u:eT} {m:eI} (h:eG w u m):∀x∈m.eF,∀y∈x.body,y.ok:=by
 obtain⟨_,_,_,_,_,_,⟨us,h1,_,h3⟩,_⟩:=h;intro x hx;obtain⟨i,hi⟩:=List.getElem?_of_mem hx;have Nu:=(aG.1 hi).1;obtain⟨u',hu⟩:∃u',us[i]?=some u':=⟨_,aq (by rw [h1];exact Nu)⟩;exact(h3 i x u' hi hu).1.2.LX
theorem yn {least fD:Int} {x y:gl} (h:x.may least fD) (ho:x.ok) (hy:y∈oneOf x):0 <=y.min/\ -1 <=y.max/\y.ok:=by
 obtain⟨rfl,hh⟩:=yc hy;unfold gl.may at h;rw [aE hh]at h;exact⟨h.1.1,h.2.1,ho⟩
theorem tD (m:eI) (u:eT) (w:World) (hm:eG w u m) (h1:m.xw):Calls prog 110 #[.agg (u.cells m)] w (DA m w):=by
 have HI:=V hm;have HF:=V (h1.fits hm.2.2.2.2.2.2.2.2.2.2.2.2.1 hm.LX);have HM:=V h1;obtain⟨a0,c0,a1,c1,a2,c2,a3,c3,a4,c4,a5,c5,a6,c6,a7,c7,rfl⟩:=hm.open;clear hm h1;simp only [eT.cells];have HX:=V ((eS.new w #[.slice a0 m.types.length c0, .slice a1 m.imports.length c1, .slice a2 m.funcs.length c2, .bool m.table.has, .int .i64 m.table.min, .int .i64 m.table.max, .bool m.mem.has, .int .i64 m.mem.min, .int .i64 m.mem.max, .slice a3 m.globals.length c3, .slice a4 m.ey.length c4, .slice a5 m.elems.length c5, .slice a6 m.eF.length c6, .slice a7 m.eP.length c7] 35).alloc (.cells #[.int .u8 0, .int .u8 97, .int .u8 115, .int .u8 109, .int .u8 1, .int .u8 0, .int .u8 0, .int .u8 0] 5 (8,9)));have HS:=V (((an w.heap.size w).alloc (ag _) (.cells #[.slice a0 m.types.length c0, .slice a1 m.imports.length c1, .slice a2 m.funcs.length c2, .bool m.table.has, .int .i64 m.table.min, .int .i64 m.table.max, .bool m.mem.has, .int .i64 m.mem.min, .int .i64 m.mem.max, .slice a3 m.globals.length c3, .slice a4 m.ey.length c4, .slice a5 m.elems.length c5, .slice a6 m.eF.length c6, .slice a7 m.eP.length c7] 35)).alloc (by rw [aC];omega) (.cells #[.int .u8 0, .int .u8 97, .int .u8 115, .int .u8 109, .int .u8 1, .int .u8 0, .int .u8 0, .int .u8 0] 5 (8,9)));have HW:Hid (zo _ _ (w.heap.size+1) ((w.alloc (.cells #[.slice a0 m.types.length c0, .slice a1 m.imports.length c1, .slice a2 m.funcs.length c2, .bool m.table.has, .int .i64 m.table.min, .int .i64 m.table.max, .bool m.mem.has, .int .i64 m.mem.min, .int .i64 m.mem.max, .slice a3 m.globals.length c3, .slice a4 m.ey.length c4, .slice a5 m.elems.length c5, .slice a6 m.eF.length c6, .slice a7 m.eP.length c7] 35)).alloc (.cells #[.int .u8 0, .int .u8 97, .int .u8 115, .int .u8 109, .int .u8 1, .int .u8 0, .int .u8 0, .int .u8 0] 5 (8,9))) (.slice (some ⟨w.heap.size+1,0,none⟩) 8 8) fN):=V (zo.refl (.inr (by
  have hb:=dz (w.alloc (.cells #[.slice a0 m.types.length c0, .slice a1 m.imports.length c1, .slice a2 m.funcs.length c2, .bool m.table.has, .int .i64 m.table.min, .int .i64 m.table.max, .bool m.mem.has, .int .i64 m.mem.min, .int .i64 m.mem.max, .slice a3 m.globals.length c3, .slice a4 m.ey.length c4, .slice a5 m.elems.length c5, .slice a6 m.eF.length c6, .slice a7 m.eP.length c7] 35)) (.cells #[.int .u8 0, .int .u8 97, .int .u8 115, .int .u8 109, .int .u8 1, .int .u8 0, .int .u8 0, .int .u8 0] 5 (8,9));rw [aC]at hb;refine⟨w.heap.size+1,rfl,⟨_,8,rfl,ag _,by decide,fun i x hx=>⟨w.heap.size+1,0,rfl,?_⟩⟩,ag _,by rw [aC,aC];omega⟩;rw [World.cell?,bT];simp only [hb]
  match i,hx with
  | 0,hx | 1,hx | 2,hx | 3,hx | 4,hx | 5,hx | 6,hx | 7,hx=>
   injection hx with hx;subst hx;rfl)))
 have Oh:=Lib.run_convert_bytes_const (P:=prog) (w.alloc (.cells #[.slice a0 m.types.length c0, .slice a1 m.imports.length c1, .slice a2 m.funcs.length c2, .bool m.table.has, .int .i64 m.table.min, .int .i64 m.table.max, .bool m.mem.has, .int .i64 m.mem.min, .int .i64 m.mem.max, .slice a3 m.globals.length c3, .slice a4 m.ey.length c4, .slice a5 m.elems.length c5, .slice a6 m.eF.length c6, .slice a7 m.eP.length c7] 35)) 104 5 #[.int .u8 0, .int .u8 97, .int .u8 115, .int .u8 109, .int .u8 1, .int .u8 0, .int .u8 0, .int .u8 0] 8 8 (by kernel_rfl) (by kernel_rfl);rw [aC]at Oh;go_enter func110,ntmps110;go_wp2_with fail;generalize(w.alloc (.cells #[.slice a0 m.types.length c0, .slice a1 m.imports.length c1, .slice a2 m.funcs.length c2, .bool m.table.has, .int .i64 m.table.min, .int .i64 m.table.max, .bool m.mem.has, .int .i64 m.mem.min, .int .i64 m.mem.max, .slice a3 m.globals.length c3, .slice a4 m.ey.length c4, .slice a5 m.elems.length c5, .slice a6 m.eF.length c6, .slice a7 m.eP.length c7] 35)).alloc (.cells #[.int .u8 0, .int .u8 97, .int .u8 115, .int .u8 109, .int .u8 1, .int .u8 0, .int .u8 0, .int .u8 0] 5 (8,9))=w1 at HX HS HW⊢;have HB:=V (show w.heap.size+1 <=w1.heap.size from HX.out.lt);have g0:w1.cell? ⟨w.heap.size,0,none⟩=some (.slice a0 m.types.length c0):=HX.out.cell 0;go_wp2_with fail;refine(Jb w ld 1 (by omega) _ _ _ m.types (w.heap.size+1) w1 166 (fun _ _=>by rfl) HI.out.1 HW.out.1 HB.out HS.out (by have hf:=HF.out;have hh:fN.length=8:=rfl;have:=hf.v1;have:=hf.v2;have:=hf.v3;have:=hf.v4;have:=hf.v5;have:=hf.v6;have:=hf.v7;have:=hf.v9;have:=hf.v10;have:=hf.v11;have:=hf.s1;have:=hf.s2;have:=hf.s3;have:=hf.s4;have:=hf.s5;have:=hf.s6;have:=hf.s7;have:=hf.s9;have:=hf.Jf;have:=hf.Je;(try simp only [ah]);omega) (fun e he u hu b xs w1 B ho hx hB hs=>KB _ e u hu (HM.out.2.1.1.1.2 e he) b xs w1 B ho hx hB hs)).mono ?_;rintro e w2 ⟨v2,rfl,ho,hk,hs⟩;have HX:=V (HX.out.keeps hk (fun h=>by have:=(HW.out.1.lt h).1;omega));have HS:=V (HS.out.trans (hk.below HS.out.size (fun i hi=>by have:=(HW.out.1.lt hi).1;omega)));have HW:=V (HW.out.step ⟨ho,hk,hs⟩);have HB:=V (aQ HB.out hk.size);clear ho hk hs;clear g0;have g1:w2.cell? ⟨w.heap.size,1,none⟩=some (.slice a1 m.imports.length c1):=HX.out.cell 1;go_wp2_with fail;refine(IE w od 2 (by omega) _ _ _ m.imports (w.heap.size+1) w2 170 (fun _ _=>by rfl) HI.out.2.1 HW.out.1 HB.out HS.out (by have hf:=HF.out;have hh:fN.length=8:=rfl;have:=hf.v1;have:=hf.v2;have:=hf.v3;have:=hf.v4;have:=hf.v5;have:=hf.v6;have:=hf.v7;have:=hf.v9;have:=hf.v10;have:=hf.v11;have:=hf.s1;have:=hf.s2;have:=hf.s3;have:=hf.s4;have:=hf.s5;have:=hf.s6;have:=hf.s7;have:=hf.s9;have:=hf.Jf;have:=hf.Je;(try simp only [ah]);omega) (fun e he b xs w1 B ho hx hB _=>Kj e b xs w1 B ho hx hB (HM.out.2.1.1.2.1.2 e he))).mono ?_;rintro e w3 ⟨v3,rfl,ho,hk,hs⟩;have HX:=V (HX.out.keeps hk (fun h=>by have:=(HW.out.1.lt h).1;omega));have HS:=V (HS.out.trans (hk.below HS.out.size (fun i hi=>by have:=(HW.out.1.lt hi).1;omega)));have HW:=V (HW.out.step ⟨ho,hk,hs⟩);have HB:=V (aQ HB.out hk.size);clear ho hk hs;clear g1;have g2:w3.cell? ⟨w.heap.size,2,none⟩=some (.slice a2 m.funcs.length c2):=HX.out.cell 2;go_wp2_with fail;refine(CV w tk 3 (by omega) _ _ _ m.funcs (w.heap.size+1) w3 171 (fun _ _=>by rfl) HI.out.2.2.1 HW.out.1 HB.out HS.out (by have hf:=HF.out;have hh:fN.length=8:=rfl;have:=hf.v1;have:=hf.v2;have:=hf.v3;have:=hf.v4;have:=hf.v5;have:=hf.v6;have:=hf.v7;have:=hf.v9;have:=hf.v10;have:=hf.v11;have:=hf.s1;have:=hf.s2;have:=hf.s3;have:=hf.s4;have:=hf.s5;have:=hf.s6;have:=hf.s7;have:=hf.s9;have:=hf.Jf;have:=hf.Je;(try simp only [ah]);omega) (fun e he b xs w1 B ho hx hB _=>nJ e (HM.out.2.1.1.2.2.2 e he) b xs B w1 ho (by omega) hB)).mono ?_;rintro e w4 ⟨v4,rfl,ho,hk,hs⟩;have HX:=V (HX.out.keeps hk (fun h=>by have:=(HW.out.1.lt h).1;omega));have HS:=V (HS.out.trans (hk.below HS.out.size (fun i hi=>by have:=(HW.out.1.lt hi).1;omega)));have HW:=V (HW.out.step ⟨ho,hk,hs⟩);have HB:=V (aQ HB.out hk.size);clear ho hk hs;clear g2;have g3:w4.cell? ⟨w.heap.size,3,none⟩=some (.bool m.table.has):=HX.out.cell 3;have g4:w4.cell? ⟨w.heap.size,4,none⟩=some (.int .i64 m.table.min):=HX.out.cell 4;have g5:w4.cell? ⟨w.heap.size,5,none⟩=some (.int .i64 m.table.max):=HX.out.cell 5;go_wp2_with fail;refine(D0 m.table _).mono ?_;rintro e w5 ⟨vo,rfl,hl,hb⟩;have HX:=V (HX.out.below hb HX.out.lt);have HS:=V (HS.out.trans (hb.mono HS.out.size));have HW:=V (HW.out.below hb);have HB:=V (aQ HB.out hb.size);have HLL:=V (show eA 3 uk w5 vo (oneOf m.table)from hl);clear hl hb;obtain⟨ax,cx,rfl,hcx1,hcx2⟩:=fH HLL.out;clear hcx1 hcx2;go_wp2_with fail;refine(AE w5 jy 4 (by omega) _ _ _ (oneOf m.table) (w.heap.size+1) w5 176 (fun _ _=>by rfl) HLL.out HW.out.1 HB.out (an _ _) (by have hf:=HF.out;have hh:fN.length=8:=rfl;have:=hf.v1;have:=hf.v2;have:=hf.v3;have:=hf.v4;have:=hf.v5;have:=hf.v6;have:=hf.v7;have:=hf.v9;have:=hf.v10;have:=hf.v11;have:=hf.s1;have:=hf.s2;have:=hf.s3;have:=hf.s4;have:=hf.s5;have:=hf.s6;have:=hf.s7;have:=hf.s9;have:=hf.Jf;have:=hf.Je;(try simp only [ah]);omega) (fun e he b xs w1 B ho hx hB _=>by obtain⟨h1,h2,h3⟩:=yn HM.out.2.2.1 HI.out.2.2.2.2.2.2.2.2.2.2.1 he;exact JD e b xs w1 B ho hx hB h1 h2 h3)).mono ?_;rintro e w6 ⟨v6,rfl,ho,hk,hs⟩;have HX:=V (HX.out.keeps hk (fun h=>by have:=(HW.out.1.lt h).1;omega));have HS:=V (HS.out.trans (hk.below HS.out.size (fun i hi=>by have:=(HW.out.1.lt hi).1;omega)));have HW:=V (HW.out.step ⟨ho,hk,hs⟩);have HB:=V (aQ HB.out hk.size);clear ho hk hs;clear g3;clear g4;clear g5;have g6:w6.cell? ⟨w.heap.size,6,none⟩=some (.bool m.mem.has):=HX.out.cell 6;have g7:w6.cell? ⟨w.heap.size,7,none⟩=some (.int .i64 m.mem.min):=HX.out.cell 7;have g8:w6.cell? ⟨w.heap.size,8,none⟩=some (.int .i64 m.mem.max):=HX.out.cell 8;go_wp2_with fail;refine(D0 m.mem _).mono ?_;rintro e w7 ⟨vo,rfl,hl,hb⟩;have HX:=V (HX.out.below hb HX.out.lt);have HS:=V (HS.out.trans (hb.mono HS.out.size));have HW:=V (HW.out.below hb);have HB:=V (aQ HB.out hb.size);have HLL:=V (show eA 3 uk w7 vo (oneOf m.mem)from hl);clear hl hb;obtain⟨ax,cx,rfl,hcx1,hcx2⟩:=fH HLL.out;clear hcx1 hcx2;go_wp2_with fail;refine(AE w7 gR 5 (by omega) _ _ _ (oneOf m.mem) (w.heap.size+1) w7 177 (fun _ _=>by rfl) HLL.out HW.out.1 HB.out (an _ _) (by have hf:=HF.out;have hh:fN.length=8:=rfl;have:=hf.v1;have:=hf.v2;have:=hf.v3;have:=hf.v4;have:=hf.v5;have:=hf.v6;have:=hf.v7;have:=hf.v9;have:=hf.v10;have:=hf.v11;have:=hf.s1;have:=hf.s2;have:=hf.s3;have:=hf.s4;have:=hf.s5;have:=hf.s6;have:=hf.s7;have:=hf.s9;have:=hf.Jf;have:=hf.Je;(try simp only [ah]);omega) (fun e he b xs w1 B ho hx hB _=>by obtain⟨h1,h2,h3⟩:=yn HM.out.2.2.2 HI.out.2.2.2.2.2.2.2.2.2.2.2.1 he;exact qU b xs e B w1 ho (by omega) hB h1 h2 h3)).mono ?_;rintro e w8 ⟨v8,rfl,ho,hk,hs⟩;have HX:=V (HX.out.keeps hk (fun h=>by have:=(HW.out.1.lt h).1;omega));have HS:=V (HS.out.trans (hk.below HS.out.size (fun i hi=>by have:=(HW.out.1.lt hi).1;omega)));have HW:=V (HW.out.step ⟨ho,hk,hs⟩);have HB:=V (aQ HB.out hk.size);clear ho hk hs;clear g6;clear g7;clear g8;have g9:w8.cell? ⟨w.heap.size,9,none⟩=some (.slice a3 m.globals.length c3):=HX.out.cell 9;go_wp2_with fail;refine(GM w kS 6 (by omega) _ _ _ m.globals (w.heap.size+1) w8 179 (fun _ _=>by rfl) HI.out.2.2.2.1 HW.out.1 HB.out HS.out (by have hf:=HF.out;have hh:fN.length=8:=rfl;have:=hf.v1;have:=hf.v2;have:=hf.v3;have:=hf.v4;have:=hf.v5;have:=hf.v6;have:=hf.v7;have:=hf.v9;have:=hf.v10;have:=hf.v11;have:=hf.s1;have:=hf.s2;have:=hf.s3;have:=hf.s4;have:=hf.s5;have:=hf.s6;have:=hf.s7;have:=hf.s9;have:=hf.Jf;have:=hf.Je;(try simp only [ah]);omega) (fun e he b xs w1 B ho hx hB _=>Ku e b xs w1 B ho hx hB (HM.out.2.1.2.1.2 e he) (HI.out.2.2.2.2.2.2.2.2.2.2.2.2.1 e he))).mono ?_;rintro e w9 ⟨v9,rfl,ho,hk,hs⟩;have HX:=V (HX.out.keeps hk (fun h=>by have:=(HW.out.1.lt h).1;omega));have HS:=V (HS.out.trans (hk.below HS.out.size (fun i hi=>by have:=(HW.out.1.lt hi).1;omega)));have HW:=V (HW.out.step ⟨ho,hk,hs⟩);have HB:=V (aQ HB.out hk.size);clear ho hk hs;clear g9;have NT:w9.cell? ⟨w.heap.size,10,none⟩=some (.slice a4 m.ey.length c4):=HX.out.cell 10;go_wp2_with fail;refine(G0 w oz 7 (by omega) _ _ _ m.ey (w.heap.size+1) w9 182 (fun _ _=>by rfl) HI.out.2.2.2.2.1 HW.out.1 HB.out HS.out (by have hf:=HF.out;have hh:fN.length=8:=rfl;have:=hf.v1;have:=hf.v2;have:=hf.v3;have:=hf.v4;have:=hf.v5;have:=hf.v6;have:=hf.v7;have:=hf.v9;have:=hf.v10;have:=hf.v11;have:=hf.s1;have:=hf.s2;have:=hf.s3;have:=hf.s4;have:=hf.s5;have:=hf.s6;have:=hf.s7;have:=hf.s9;have:=hf.Jf;have:=hf.Je;(try simp only [ah]);omega) (fun e he b xs w1 B ho hx hB _=>JT e b xs w1 B ho hx hB (HM.out.2.1.2.2.1.2 e he))).mono ?_;rintro e w10 ⟨v10,rfl,ho,hk,hs⟩;have HX:=V (HX.out.keeps hk (fun h=>by have:=(HW.out.1.lt h).1;omega));have HS:=V (HS.out.trans (hk.below HS.out.size (fun i hi=>by have:=(HW.out.1.lt hi).1;omega)));have HW:=V (HW.out.step ⟨ho,hk,hs⟩);have HB:=V (aQ HB.out hk.size);clear ho hk hs;clear NT;have NY:w10.cell? ⟨w.heap.size,11,none⟩=some (.slice a5 m.elems.length c5):=HX.out.cell 11;go_wp2_with fail;refine(Hg w ll 9 (by omega) _ _ _ m.elems (w.heap.size+1) w10 184 (fun _ _=>by rfl) HI.out.2.2.2.2.2.1 HW.out.1 HB.out HS.out (by have hf:=HF.out;have hh:fN.length=8:=rfl;have:=hf.v1;have:=hf.v2;have:=hf.v3;have:=hf.v4;have:=hf.v5;have:=hf.v6;have:=hf.v7;have:=hf.v9;have:=hf.v10;have:=hf.v11;have:=hf.s1;have:=hf.s2;have:=hf.s3;have:=hf.s4;have:=hf.s5;have:=hf.s6;have:=hf.s7;have:=hf.s9;have:=hf.Jf;have:=hf.Je;(try simp only [ah]);omega) (fun e he u hu b xs w1 B ho hx hB hs=>Ke _ e u hu (HM.out.2.1.2.2.2.1.2 e he) b xs w1 B ho hx hB hs)).mono ?_;rintro e Ry ⟨v11,rfl,ho,hk,hs⟩;have HX:=V (HX.out.keeps hk (fun h=>by have:=(HW.out.1.lt h).1;omega));have HS:=V (HS.out.trans (hk.below HS.out.size (fun i hi=>by have:=(HW.out.1.lt hi).1;omega)));have HW:=V (HW.out.step ⟨ho,hk,hs⟩);have HB:=V (aQ HB.out hk.size);clear ho hk hs;clear NY;have NZ:Ry.cell? ⟨w.heap.size,12,none⟩=some (.slice a6 m.eF.length c6):=HX.out.cell 12;go_wp2_with fail;refine(G3 w iK 10 (by omega) _ _ _ m.eF (w.heap.size+1) Ry 187 (fun _ _=>by rfl) HI.out.2.2.2.2.2.2.1 HW.out.1 HB.out HS.out (by have hf:=HF.out;have hh:fN.length=8:=rfl;have:=hf.v1;have:=hf.v2;have:=hf.v3;have:=hf.v4;have:=hf.v5;have:=hf.v6;have:=hf.v7;have:=hf.v9;have:=hf.v10;have:=hf.v11;have:=hf.s1;have:=hf.s2;have:=hf.s3;have:=hf.s4;have:=hf.s5;have:=hf.s6;have:=hf.s7;have:=hf.s9;have:=hf.Jf;have:=hf.Je;(try simp only [ah]);omega) (fun e he u hu b xs w1 B ho hx hB hs=>Kr _ e u hu (HM.out.1.2.2 e he) b xs w1 B ho hx hB hs)).mono ?_;rintro e w12 ⟨v12,rfl,ho,hk,hs⟩;have HX:=V (HX.out.keeps hk (fun h=>by have:=(HW.out.1.lt h).1;omega));have HS:=V (HS.out.trans (hk.below HS.out.size (fun i hi=>by have:=(HW.out.1.lt hi).1;omega)));have HW:=V (HW.out.step ⟨ho,hk,hs⟩);have HB:=V (aQ HB.out hk.size);clear ho hk hs;clear NZ;have N0:w12.cell? ⟨w.heap.size,13,none⟩=some (.slice a7 m.eP.length c7):=HX.out.cell 13;go_wp2_with fail;refine(Ga w oy 11 (by omega) _ _ _ m.eP (w.heap.size+1) w12 189 (fun _ _=>by rfl) HI.out.2.2.2.2.2.2.2.1 HW.out.1 HB.out HS.out (by have hf:=HF.out;have hh:fN.length=8:=rfl;have:=hf.v1;have:=hf.v2;have:=hf.v3;have:=hf.v4;have:=hf.v5;have:=hf.v6;have:=hf.v7;have:=hf.v9;have:=hf.v10;have:=hf.v11;have:=hf.s1;have:=hf.s2;have:=hf.s3;have:=hf.s4;have:=hf.s5;have:=hf.s6;have:=hf.s7;have:=hf.s9;have:=hf.Jf;have:=hf.Je;(try simp only [ah]);omega) (fun e he u hu b xs w1 B ho hx hB hs=>J9 _ e u hu (HM.out.2.1.2.2.2.2.2 e he) b xs w1 B ho hx hB hs)).mono ?_;rintro e w13 ⟨v13,rfl,ho,hk,hs⟩;have HX:=V (HX.out.keeps hk (fun h=>by have:=(HW.out.1.lt h).1;omega));have HS:=V (HS.out.trans (hk.below HS.out.size (fun i hi=>by have:=(HW.out.1.lt hi).1;omega)));have HW:=V (HW.out.step ⟨ho,hk,hs⟩);have HB:=V (aQ HB.out hk.size);clear ho hk hs;clear N0;go_wp2;go_ret;exact⟨_,rfl,by rw [Da];exact HW.out.1.gK,HS.out⟩
theorem eS.mod {w:World} {X:Nat} {t:TypeId} {x0 x1 x2 x3 x4 x5 x6 x7 x8 x9 x10 x11 x12 x13:Value} (h:eS w X #[x0,x1,x2,x3,x4,x5,x6,x7,x8,x9,x10,x11,x12,x13] t):
  w.cell? ⟨X,0,none⟩=some x0/\w.cell? ⟨X,1,none⟩=some x1/\w.cell? ⟨X,2,none⟩=some x2/\w.cell? ⟨X,3,none⟩=some x3/\w.cell? ⟨X,4,none⟩=some x4/\w.cell? ⟨X,5,none⟩=some x5/\w.cell? ⟨X,6,none⟩=some x6/\w.cell? ⟨X,7,none⟩=some x7/\w.cell? ⟨X,8,none⟩=some x8/\w.cell? ⟨X,9,none⟩=some x9/\w.cell? ⟨X,10,none⟩=some x10/\w.cell? ⟨X,11,none⟩=some x11/\w.cell? ⟨X,12,none⟩=some x12/\w.cell? ⟨X,13,none⟩=some x13:=
 ⟨h.cell 0,h.cell 1,h.cell 2,h.cell 3,h.cell 4,h.cell 5,h.cell 6,h.cell 7,h.cell 8,h.cell 9,h.cell 10,h.cell 11,h.cell 12,h.cell 13⟩
theorem lQ (m:eI):decide m.may=(decide (m.eF.length=m.funcs.length)&&(decide ((m.eF.length:Int) <=16/\∀x∈m.eF,x.may)&&(decide m.lists&&(decide (m.table.may 16 1000)&&(decide (m.mem.may 16 65536)&&decide ((fL m).length <=8000)))))):=by
 simp only [<- cJ];refine dh.2 ?_;unfold eI.may eI.xw eI.uF
 constructor
 ·rintro⟨⟨⟨h1,h2,h3⟩,h4,h5,h6⟩,h7⟩
  exact⟨h1,⟨by omega,h3⟩,h4,h5,h6,h7⟩
 ·rintro⟨h1,⟨h2,h3⟩,h4,h5,h6,h7⟩
  exact⟨⟨⟨h1,by omega,h3⟩,h4,h5,h6⟩,h7⟩
theorem uD (m:eI) (u:eT) (w:World) (hm:eG w u m) (hs:m.words):Calls prog 72 #[.agg (u.cells m)] w (eL (decide m.may) w):=by
 have HI:=V hm;have Tk:=V hs;obtain⟨a0,c0,a1,c1,a2,c2,a3,c3,a4,c4,a5,c5,a6,c6,a7,c7,rfl⟩:=eG.open hm;clear hm hs;simp only [eT.cells];have HX:=V (eS.new w #[.slice a0 m.types.length c0, .slice a1 m.imports.length c1, .slice a2 m.funcs.length c2, .bool m.table.has, .int .i64 m.table.min, .int .i64 m.table.max, .bool m.mem.has, .int .i64 m.mem.min, .int .i64 m.mem.max, .slice a3 m.globals.length c3, .slice a4 m.ey.length c4, .slice a5 m.elems.length c5, .slice a6 m.eF.length c6, .slice a7 m.eP.length c7] 35);have HS:=V ((an w.heap.size w).alloc (ag _) (.cells #[.slice a0 m.types.length c0, .slice a1 m.imports.length c1, .slice a2 m.funcs.length c2, .bool m.table.has, .int .i64 m.table.min, .int .i64 m.table.max, .bool m.mem.has, .int .i64 m.mem.min, .int .i64 m.mem.max, .slice a3 m.globals.length c3, .slice a4 m.ey.length c4, .slice a5 m.elems.length c5, .slice a6 m.eF.length c6, .slice a7 m.eP.length c7] 35));by_cases q:m.eF.length=m.funcs.length;rotate_left
 ·have f1:((m.eF.length:Int)==(m.funcs.length:Int))=false:=eh (by omega)
  have f2:(m.eF.length==m.funcs.length)=false:=by simp [q]
  have HQ:=V (aw q);clear q;go_enter func72,ntmps72;go_wp2;go_ret;exact⟨by rw [lQ,HQ.out];rfl,HS.out⟩
 have f1:((m.eF.length:Int)==(m.funcs.length:Int))=true:=eV (by omega);have f2:(m.eF.length==m.funcs.length)=true:=by simp [q]
 have HQ:=V (ay q);clear q;go_enter func72,ntmps72;go_wp2_with fail;refine(Iq (fun x=>decide x.may) _ m.eF _ (eD.below HI.out.2.2.2.2.2.2.1 HS.out (fun _ _ h=>h.below HS.out)) 103 16 (fun _ _=>by rfl) (fun e _ u w' _ hu=>Hy e u w' hu)).mono ?_;rw [lF];rintro x w1 ⟨rfl,hb⟩;obtain⟨r1,hr⟩:∃r,decide ((m.eF.length:Int) <=16/\∀x∈m.eF,x.may)=r:=⟨_,rfl⟩;rw [hr];have R1:=V hr;have HX:=V (HX.out.below hb HX.out.lt);have HS:=V (HS.out.trans (hb.mono HS.out.size));clear hr hb;obtain⟨g0,g1,g2,g3,g4,g5,g6,g7,g8,g9,NT,NY,NZ,N0⟩:=HX.out.mod;cases r1
 ·skip
  go_wp2;go_ret;exact⟨by rw [lQ,HQ.out,R1.out];rfl,HS.out⟩
 go_wp2_with fail;refine(Ff m ⟨.slice a0 m.types.length c0, .slice a1 m.imports.length c1, .slice a2 m.funcs.length c2, .slice a3 m.globals.length c3, .slice a4 m.ey.length c4, .slice a5 m.elems.length c5, .slice a6 m.eF.length c6, .slice a7 m.eP.length c7⟩ w1 (eG.below HI.out HS.out) Tk.out).mono ?_;rintro x w2 ⟨rfl,hb⟩;obtain⟨r2,hr⟩:∃r,decide m.lists=r:=⟨_,rfl⟩;rw [hr];have R2:=V hr;have HX:=V (HX.out.below hb HX.out.lt);have HS:=V (HS.out.trans (hb.mono HS.out.size));clear hr hb;clear g0 g1 g2 g3 g4 g5 g6 g7 g8 g9 NT NY NZ N0;obtain⟨g0,g1,g2,g3,g4,g5,g6,g7,g8,g9,NT,NY,NZ,N0⟩:=HX.out.mod;cases r2
 ·skip
  go_wp2;go_ret;exact⟨by rw [lQ,HQ.out,R1.out,R2.out];rfl,HS.out⟩
 go_wp2_with fail;refine(tY m.table 16 1000 w2).mono ?_;rintro x w3 ⟨rfl,hb⟩;obtain⟨r3,hr⟩:∃r,decide (m.table.may 16 1000)=r:=⟨_,rfl⟩;rw [hr];have R3:=V hr;have HX:=V (HX.out.below hb HX.out.lt);have HS:=V (HS.out.trans (hb.mono HS.out.size));clear hr hb;clear g0 g1 g2 g3 g4 g5 g6 g7 g8 g9 NT NY NZ N0;obtain⟨g0,g1,g2,g3,g4,g5,g6,g7,g8,g9,NT,NY,NZ,N0⟩:=HX.out.mod;cases r3
 ·skip
  go_wp2;go_ret;exact⟨by rw [lQ,HQ.out,R1.out,R2.out,R3.out];rfl,HS.out⟩
 go_wp2_with fail;refine(tY m.mem 16 65536 w3).mono ?_;rintro x w4 ⟨rfl,hb⟩;obtain⟨r4,hr⟩:∃r,decide (m.mem.may 16 65536)=r:=⟨_,rfl⟩;rw [hr];have R4:=V hr;have HX:=V (HX.out.below hb HX.out.lt);have HS:=V (HS.out.trans (hb.mono HS.out.size));clear hr hb;clear g0 g1 g2 g3 g4 g5 g6 g7 g8 g9 NT NY NZ N0;obtain⟨g0,g1,g2,g3,g4,g5,g6,g7,g8,g9,NT,NY,NZ,N0⟩:=HX.out.mod;cases r4
 ·skip
  go_wp2;go_ret;exact⟨by rw [lQ,HQ.out,R1.out,R2.out,R3.out,R4.out];rfl,HS.out⟩
 have hmay1:m.xw:=by
  have h1:=cD R1.out;exact⟨⟨cD HQ.out,by have:=h1.1;omega,h1.2⟩,cD R2.out,cD R3.out,cD R4.out⟩
 go_wp2_with fail;refine(tD m ⟨.slice a0 m.types.length c0, .slice a1 m.imports.length c1, .slice a2 m.funcs.length c2, .slice a3 m.globals.length c3, .slice a4 m.ey.length c4, .slice a5 m.elems.length c5, .slice a6 m.eF.length c6, .slice a7 m.eP.length c7⟩ w4 (eG.below HI.out HS.out) hmay1).mono ?_;rintro x w5 ⟨v,rfl,hv,hb⟩;obtain⟨av,cv,rfl,-,-,-⟩:=hv;have HS:=V (HS.out.trans (hb.mono HS.out.size));clear hb hmay1;clear g0 g1 g2 g3 g4 g5 g6 g7 g8 g9 NT NY NZ N0;obtain⟨n,hn⟩:∃n,(fL m).length=n:=⟨_,rfl⟩;rw [hn];have HN:=V hn;clear hn;by_cases q:n <=8000
 ·have f3:decide ((n:Int) <=8000)=true:=ay (by omega)
  have f4:decide (n <=8000)=true:=ay q;have HR:=V (show decide ((fL m).length <=8000)=true by rw [HN.out];exact f4);clear q;go_wp2;go_ret;exact⟨by rw [lQ,HQ.out,R1.out,R2.out,R3.out,R4.out,HR.out];rfl,HS.out⟩
 ·have f3:decide ((n:Int) <=8000)=false:=aw (by omega)
  have f4:decide (n <=8000)=false:=aw q;have HR:=V (show decide ((fL m).length <=8000)=false by rw [HN.out];exact f4);clear q;go_wp2;go_ret;exact⟨by rw [lQ,HQ.out,R1.out,R2.out,R3.out,R4.out,HR.out];rfl,HS.out⟩
def Kb (m:eI) (w:World) (e:Ending) (w':World):Prop:=∃v,e= .returned v/\((¬ m.may/\v= .slice none 0 0)\/(m.may/\eZ w' v (fL m)))/\Below w.heap.size w w'
theorem pB (m:eI) (u:eT) (w:World) (hm:eG w u m) (hs:m.words):Calls prog 81 #[.agg (u.cells m)] w (Kb m w):=by
 have HI:=V hm;have Tk:=V hs;obtain⟨a0,c0,a1,c1,a2,c2,a3,c3,a4,c4,a5,c5,a6,c6,a7,c7,rfl⟩:=eG.open hm;clear hm hs;simp only [eT.cells];have HX:=V (eS.new w #[.slice a0 m.types.length c0, .slice a1 m.imports.length c1, .slice a2 m.funcs.length c2, .bool m.table.has, .int .i64 m.table.min, .int .i64 m.table.max, .bool m.mem.has, .int .i64 m.mem.min, .int .i64 m.mem.max, .slice a3 m.globals.length c3, .slice a4 m.ey.length c4, .slice a5 m.elems.length c5, .slice a6 m.eF.length c6, .slice a7 m.eP.length c7] 35);have HS:=V ((an w.heap.size w).alloc (ag _) (.cells #[.slice a0 m.types.length c0, .slice a1 m.imports.length c1, .slice a2 m.funcs.length c2, .bool m.table.has, .int .i64 m.table.min, .int .i64 m.table.max, .bool m.mem.has, .int .i64 m.mem.min, .int .i64 m.mem.max, .slice a3 m.globals.length c3, .slice a4 m.ey.length c4, .slice a5 m.elems.length c5, .slice a6 m.eF.length c6, .slice a7 m.eP.length c7] 35));go_enter func81,ntmps81;go_wp2_with fail;refine(uD m ⟨.slice a0 m.types.length c0, .slice a1 m.imports.length c1, .slice a2 m.funcs.length c2, .slice a3 m.globals.length c3, .slice a4 m.ey.length c4, .slice a5 m.elems.length c5, .slice a6 m.eF.length c6, .slice a7 m.eP.length c7⟩ _ (eG.below HI.out HS.out) Tk.out).mono ?_;rintro x w1 ⟨rfl,hb⟩;obtain⟨r1,hr⟩:∃r,decide m.may=r:=⟨_,rfl⟩;rw [hr];have R1:=V hr;have HX:=V (HX.out.below hb HX.out.lt);have HS:=V (HS.out.trans (hb.mono HS.out.size));clear hr hb;obtain⟨g0,g1,g2,g3,g4,g5,g6,g7,g8,g9,NT,NY,NZ,N0⟩:=HX.out.mod;cases r1
 ·go_wp2
  go_ret;exact⟨_,rfl, .inl ⟨of_decide_eq_false R1.out,rfl⟩,HS.out⟩
 go_wp2_with fail;refine(tD m ⟨.slice a0 m.types.length c0, .slice a1 m.imports.length c1, .slice a2 m.funcs.length c2, .slice a3 m.globals.length c3, .slice a4 m.ey.length c4, .slice a5 m.elems.length c5, .slice a6 m.eF.length c6, .slice a7 m.eP.length c7⟩ w1 (eG.below HI.out HS.out) (cD R1.out).1).mono ?_;rintro x w2 ⟨v,rfl,hv,hb⟩;have HV:=V hv;have HS:=V (HS.out.trans (hb.mono HS.out.size));clear hb hv;clear g0 g1 g2 g3 g4 g5 g6 g7 g8 g9 NT NY NZ N0;go_wp2;go_ret;exact⟨_,rfl, .inr ⟨cD R1.out,HV.out⟩,HS.out⟩
theorem vL (x:gl) (w:World):Calls prog 76 #[.agg #[.bool x.has, .int .i64 x.min, .int .i64 x.max]] w (eL (lj x) w):=by
 obtain⟨has,mn,mx⟩:=x;have HB:=V ((an w.heap.size w).alloc (ag _) (.cells #[.bool has, .int .i64 mn, .int .i64 mx] 28));cases has
 ·go_enter func76,ntmps76
  go_wp2;go_ret;exact⟨rfl,HB.out⟩
 by_cases q:0 <=mx
 ·have f1:decide (0 <=mx)=true:=ay q
  have HT:Hid (lj ⟨true,mn,mx⟩=decide (mx < mn)):=V (by unfold lj;simp [q]);clear q;go_enter func76,ntmps76;go_wp2;go_ret;exact⟨by rw [HT.out];rfl,HB.out⟩
 ·have f1:decide (0 <=mx)=false:=aw q
  have HT:Hid (lj ⟨true,mn,mx⟩=false):=V (by unfold lj;simp [q]);clear q;go_enter func76,ntmps76;go_wp2;go_ret;exact⟨by rw [HT.out];rfl,HB.out⟩
theorem wL (m:eI) (M:Nat) (a:Option Addr) (cap:Nat) (t:Int) (w:World) (h:w.cell? ⟨M,0,none⟩=some (.slice a m.types.length cap)):
  Calls prog 68 #[.int .i64 t, .pointer (some ⟨M,0,none⟩)] w (eL (mr m t) w):=by
 go_enter func68,ntmps68;go_wp2;go_ret;exact⟨rfl,an _ _⟩
theorem vW (m:eI) (M:Nat) (a a':Option Addr) (cap NK:Nat) (f:Int) (w:World) (h:w.cell? ⟨M,1,none⟩=some (.slice a m.imports.length cap)) (h':w.cell? ⟨M,2,none⟩=some (.slice a' m.funcs.length NK)) (hs:m.imports.length+m.funcs.length <=1000000):
  Calls prog 69 #[.int .i64 f, .pointer (some ⟨M,0,none⟩)] w (eL (ml m f) w):=by
 go_enter func69,ntmps69;go_wp2;go_ret;exact⟨rfl,an _ _⟩
theorem zy (x y:jr) (X:Nat) (w:World) (h:w.cell? ⟨X,0,none⟩=some (.string x.name)):
  Calls prog 71 #[.agg #[.string y.name, .int .i64 y.func], .pointer (some ⟨X,0,none⟩)] w (eL (x.name.toList==y.name.toList) w):=by
 have HB:=V ((an w.heap.size w).alloc (ag _) (.cells #[.string y.name, .int .i64 y.func] 75));have h:=(Ext.et HB.out).1 _ _ h;go_enter func71,ntmps71;go_wp2;go_ret;exact⟨rfl,HB.out⟩
theorem BE (m:eI) (M X:Nat) (x:kj) (w:World) (a:Option Addr) (cap:Nat) (h:w.cell? ⟨M,0,none⟩=some (.slice a m.types.length cap)) (hX:w.cell? ⟨X,0,none⟩=some (.func (.func 68) #[] #[.pointer (some ⟨M,0,none⟩)])):
  Calls prog 74 #[.agg #[.string x.mod, .string x.name, .int .i64 x.type], .pointer (some ⟨X,0,none⟩)] w (eL (mr m x.type) w):=by
 have HB:=V ((an w.heap.size w).alloc (ag _) (.cells #[.string x.mod, .string x.name, .int .i64 x.type] 71));have H:=V ((Ext.et HB.out).1 _ _ h);have hX:=(Ext.et HB.out).1 _ _ hX;clear h;go_enter func74,ntmps74;go_wp2_with fail;refine(wL m M a cap x.type _ H.out).mono ?_;rintro e w2 ⟨rfl,hb⟩;have HB:=V (HB.out.trans (hb.mono HB.out.size));clear hb hX;go_wp2;go_ret;exact⟨rfl,HB.out⟩
theorem qZ (m:eI) (M X:Nat) (x:jI) (u:Value) (w:World) (a a':Option Addr) (cap NK:Nat) (h:w.cell? ⟨M,1,none⟩=some (.slice a m.imports.length cap)) (h':w.cell? ⟨M,2,none⟩=some (.slice a' m.funcs.length NK)) (hs:m.imports.length+m.funcs.length <=1000000) (hX:w.cell? ⟨X,0,none⟩=some (.func (.func 69) #[] #[.pointer (some ⟨M,0,none⟩)])) (hu:il w x u):
  Calls prog 78 #[.agg #[.int .i64 x.off,u], .pointer (some ⟨X,0,none⟩)] w (eL (x.funcs.any fun f=>ml m f) w):=by
 obtain⟨au,cu,rfl,-,-⟩:=fH hu.1;have HU:=V hu.1;have HB:=V ((an w.heap.size w).alloc (ag _) (.cells #[.int .i64 x.off, .slice au x.funcs.length cu] 77));have H:=V ((Ext.et HB.out).1 _ _ h);have H':=V ((Ext.et HB.out).1 _ _ h');have hX:=(Ext.et HB.out).1 _ _ hX;clear h h' hu;go_enter func78,ntmps78;go_wp2_with fail;refine(rk (fun f=>ml m f) _ x.funcs _ (HU.out.below HB.out) 69 #[.pointer (some ⟨M,0,none⟩)] (fun _ _=>by rfl) (fun e _ w' hb=>vW m M a a' cap NK e w' ((Ext.et hb).1 _ _ H.out) ((Ext.et hb).1 _ _ H'.out) hs)).mono ?_;rintro e w2 ⟨rfl,hb⟩;have HB:=V (HB.out.trans (hb.mono HB.out.size));clear hb hX;go_wp2;go_ret;exact⟨rfl,HB.out⟩
def yY (b off b2 NR k:Nat) (e d:Int) (w:World):Prop:=w.cell? ⟨b,off+k,none⟩=some (.int .i64 e)/\w.cell? ⟨b2,NR+k,none⟩=some (.int .i64 d)
theorem lG (va vb:Value) (la lb:List Int) (w:World) (ha:eA 1 fk w va la) (hb:eA 1 fk w vb lb):Calls prog 91 #[va,vb] w (pA la lb w):=by
 have HA:=V ha;have HB:=V hb;obtain⟨a,cap,rfl,h1,h2,_⟩:=ha;obtain⟨a2,Nr,rfl,h3,h4,_⟩:=hb;unfold maxLen at h2 h4;by_cases hlen:la.length=lb.length;rotate_left
 ·have f1:(((la.length:Int)) !=((lb.length:Int)))=true:=fB (by omega)
  have HL:=V hlen;clear hlen;go_enter func91,ntmps91;go_wp2;go_ret;exact⟨false,rfl,⟨fun h=>(by cases h),fun h=>absurd (cY List.length h) HL.out⟩,an _ _⟩
 rw [<- hlen]at h3⊢;have HL:=V hlen;clear hlen;go_enter func91,ntmps91;go_wp2_with fail;refine eR (fun a' w'=>∃(k:Nat),a'=fr (.slice a la.length cap:: .slice a2 la.length Nr::gs a' 2 10 (.int .i64 la.length:: .int .i64 k::gs a' 14 12 []))/\CA la lb w w' k) (fun a' _=>(la.length - (intOf (a'.tmps.getD 13 undef)).toNat)) ?_ ?_
 ·exact⟨0,rfl,by omega,rfl,an _ _⟩
 ·skip
  rintro R a' w1 ⟨k,Nm,hJ⟩ HR;dsimp only [fr,gs]at Nm;generalize slot a'=f at Nm;subst Nm;obtain⟨hk,QT,hb⟩:=hJ;have HT:=V QT;clear QT;by_cases N8:k < la.length;rotate_left
  ·skip
   obtain rfl:k=la.length:=by omega
   go_wp2;go_ret;refine⟨true,rfl,⟨fun _=>?_,fun _=>rfl⟩,hb⟩;have:=HT.out;rw [aU,HL.out,aU]at this;exact this
  obtain⟨e,he⟩:∃e,la[k]?=some e:=⟨_,aq N8⟩;obtain⟨d,hd⟩:∃d,lb[k]?=some d:=⟨_,aq (by have:=HL.out;omega)⟩;obtain⟨a',NK,hv,_,_,Nk⟩:=HA.out.below (hb.mono (ag _));obtain⟨a2',cap2',OI,_,_,Ok⟩:=HB.out.below (hb.mono (ag _));injection hv with e1 e2 e3;injection OI with e4 e5 e6;subst e1 e3 e4 e6;obtain⟨b,off,rfl,Nu,hc⟩:=Nk k e he;obtain⟨b2,NR,rfl,O3,Ow⟩:=Ok k d hd;have c0:=hc 0 _ rfl;have c2:=Ow 0 _ rfl;rw [aJ,aW]at c0 c2;have HE:=V he;have HD:=V hd;have cc:yY b off b2 NR k e d w1.drew:=⟨c0,c2⟩;have CC:=V cc;clear Nk Ok e2 e5 he hd hc Ow c0 c2 cc;by_cases q1:e=d
  ·have f1:=kT q1
   have Q1:=V q1;clear q1;go_wp2_with fail;refine eB (yY b off b2 NR k e d) (up 0 9 []) (by kernel_rfl) (by kernel_rfl) CC.out ?_;iterate 8 (first | (apply sk rfl rfl;simp only [pt]) | (apply eo rfl rfl rfl;·(rintro w' ⟨t0,t1⟩;go_wp2;exact⟨rfl,rfl,rfl⟩)))
   iterate 1 (first | (apply sk rfl rfl;simp only [pt]) | (apply eo rfl rfl rfl;·(rintro w' ⟨t0,t1⟩;go_wp2;exact⟨rfl,rfl,rfl⟩)))
   refine eW ?_;refine aA ?_;go_wp2;refine HR.out _ _ ⟨k+1,rfl,by omega,?_,hb.drew⟩ ?_
   ·rw [aR,aR,HT.out,HE.out,HD.out,Q1.out]
   ·simp [intOf]
    omega
  ·have f1:=fB q1
   have HX:=V (show e≠d from q1);clear q1;go_wp2_with fail;refine eB (yY b off b2 NR k e d) (up 0 9 []) (by kernel_rfl) (by kernel_rfl) CC.out ?_;iterate 8 (first | (apply sk rfl rfl;simp only [pt]) | (apply eo rfl rfl rfl;·(rintro w' ⟨t0,t1⟩;go_wp2;exact⟨rfl,rfl,rfl⟩)))
   iterate 1 (first | (apply sk rfl rfl;simp only [pt]) | (apply eo rfl rfl rfl;·(rintro w' ⟨t0,t1⟩;go_wp2;exact⟨rfl,rfl,rfl⟩)))
   refine eW ?_;refine aA ?_;go_wp2;go_ret;refine⟨false,rfl,⟨fun h=>(by cases h),fun h=>?_⟩,hb.drew⟩;have h1:=HE.out;rw [h,HD.out]at h1;injection h1 with h1;exact(HX.out (by rw [h1])).elim
def uC (b off b2 NR k:Nat) (e d:jr) (w:World):Prop:=
 (w.cell? ⟨b,off+k*2,none⟩=some (.string e.name)/\w.cell? ⟨b,off+k*2+1,none⟩=some (.int .i64 e.func))/\
 w.cell? ⟨b2,NR+k*2,none⟩=some (.string d.name)/\w.cell? ⟨b2,NR+k*2+1,none⟩=some (.int .i64 d.func)
theorem Ev {a b:ByteArray} (h:a.toList=b.toList):a=b:=by
 rw [cS,cS]at h;obtain⟨⟨x⟩⟩:=a;obtain⟨⟨y⟩⟩:=b;simpa using h
theorem zn (va vb:Value) (la lb:List jr) (w:World) (ha:eA 2 pS w va la) (hb:eA 2 pS w vb lb):Calls prog 336 #[va,vb] w (pA la lb w):=by
 have HA:=V ha;have HB:=V hb;obtain⟨a,cap,rfl,h1,h2,_⟩:=ha;obtain⟨a2,Nr,rfl,h3,h4,_⟩:=hb;unfold maxLen at h2 h4;by_cases hlen:la.length=lb.length;rotate_left
 ·have f1:(((la.length:Int)) !=((lb.length:Int)))=true:=fB (by omega)
  have HL:=V hlen;clear hlen;go_enter func336,ntmps336;go_wp2;go_ret;exact⟨false,rfl,⟨fun h=>(by cases h),fun h=>absurd (cY List.length h) HL.out⟩,an _ _⟩
 rw [<- hlen]at h3⊢;have HL:=V hlen;clear hlen;go_enter func336,ntmps336;go_wp2_with fail;refine eR (fun a' w'=>∃(k:Nat),a'=fr (.slice a la.length cap:: .slice a2 la.length Nr::gs a' 2 10 (.int .i64 la.length:: .int .i64 k::gs a' 14 12 []))/\CA la lb w w' k) (fun a' _=>(la.length - (intOf (a'.tmps.getD 13 undef)).toNat)) ?_ ?_
 ·exact⟨0,rfl,by omega,rfl,an _ _⟩
 ·skip
  rintro R a' w1 ⟨k,Nm,hJ⟩ HR;dsimp only [fr,gs]at Nm;generalize slot a'=f at Nm;subst Nm;obtain⟨hk,QT,hb⟩:=hJ;have HT:=V QT;clear QT;by_cases N8:k < la.length;rotate_left
  ·skip
   obtain rfl:k=la.length:=by omega
   go_wp2;go_ret;refine⟨true,rfl,⟨fun _=>?_,fun _=>rfl⟩,hb⟩;have:=HT.out;rw [aU,HL.out,aU]at this;exact this
  obtain⟨e,he⟩:∃e,la[k]?=some e:=⟨_,aq N8⟩;obtain⟨d,hd⟩:∃d,lb[k]?=some d:=⟨_,aq (by have:=HL.out;omega)⟩;obtain⟨a',NK,hv,_,_,Nk⟩:=HA.out.below (hb.mono (ag _));obtain⟨a2',cap2',OI,_,_,Ok⟩:=HB.out.below (hb.mono (ag _));injection hv with e1 e2 e3;injection OI with e4 e5 e6;subst e1 e3 e4 e6;obtain⟨b,off,rfl,Nu,hc⟩:=Nk k e he;obtain⟨b2,NR,rfl,O3,Ow⟩:=Ok k d hd;have c0:=hc 0 _ rfl;have c1:=hc 1 _ rfl;have c2:=Ow 0 _ rfl;have c3:=Ow 1 _ rfl;rw [aJ]at c0 c2;have HE:=V he;have HD:=V hd;have cc:uC b off b2 NR k e d w1.drew:=⟨⟨c0,c1⟩,c2,c3⟩;have CC:=V cc;clear Nk Ok e2 e5 he hd hc Ow c0 c1 c2 c3 cc;by_cases q1:e.name.toList=d.name.toList
  ·have f1:(e.name.toList==d.name.toList)=true:=by simp [q1]
   have Q1:=V q1;clear q1;by_cases q2:e.func=d.func
   ·have f2:=eV q2
    have Q2:=V q2;clear q2;go_wp2_with fail;refine eB (uC b off b2 NR k e d) (up 0 9 []) (by kernel_rfl) (by kernel_rfl) CC.out ?_;iterate 8 (first | (apply sk rfl rfl;simp only [pt]) | (apply eo rfl rfl rfl;·(rintro w' ⟨⟨t0,t1⟩,t2,t3⟩;go_wp2;exact⟨rfl,rfl,rfl⟩)))
    iterate 1 (first | (apply sk rfl rfl;simp only [pt]) | (apply eo rfl rfl rfl;·(rintro w' ⟨⟨t0,t1⟩,t2,t3⟩;go_wp2;exact⟨rfl,rfl,rfl⟩)))
    refine eW ?_;refine aA ?_;go_wp2;refine HR.out _ _ ⟨k+1,rfl,by omega,?_,hb.drew⟩ ?_
    ·rw [aR,aR,HT.out,HE.out,HD.out]
     obtain⟨x0,x1⟩:=e;obtain⟨y0,y1⟩:=d;have g0:=Ev Q1.out;have g1:=Q2.out;simp only at g0 g1;rw [g0,g1]
    ·simp [intOf]
     omega
   ·have f2:=eh q2
    have HX:=V (show e.func≠d.func from q2);clear q2;go_wp2_with fail;refine eB (uC b off b2 NR k e d) (up 0 9 []) (by kernel_rfl) (by kernel_rfl) CC.out ?_;iterate 8 (first | (apply sk rfl rfl;simp only [pt]) | (apply eo rfl rfl rfl;·(rintro w' ⟨⟨t0,t1⟩,t2,t3⟩;go_wp2;exact⟨rfl,rfl,rfl⟩)))
    iterate 1 (first | (apply sk rfl rfl;simp only [pt]) | (apply eo rfl rfl rfl;·(rintro w' ⟨⟨t0,t1⟩,t2,t3⟩;go_wp2;exact⟨rfl,rfl,rfl⟩)))
    refine eW ?_;refine aA ?_;go_wp2;go_ret;refine⟨false,rfl,⟨fun h=>(by cases h),fun h=>?_⟩,hb.drew⟩;have h1:=HE.out;rw [h,HD.out]at h1;injection h1 with h1;exact(HX.out (by rw [h1])).elim
  ·have f1:(e.name.toList==d.name.toList)=false:=by simp [q1]
   have HX:=V (show e.name.toList≠d.name.toList from q1);clear q1;go_wp2_with fail;refine eB (uC b off b2 NR k e d) (up 0 9 []) (by kernel_rfl) (by kernel_rfl) CC.out ?_;iterate 8 (first | (apply sk rfl rfl;simp only [pt]) | (apply eo rfl rfl rfl;·(rintro w' ⟨⟨t0,t1⟩,t2,t3⟩;go_wp2;exact⟨rfl,rfl,rfl⟩)))
   iterate 1 (first | (apply sk rfl rfl;simp only [pt]) | (apply eo rfl rfl rfl;·(rintro w' ⟨⟨t0,t1⟩,t2,t3⟩;go_wp2;exact⟨rfl,rfl,rfl⟩)))
   refine eW ?_;refine aA ?_;go_wp2;go_ret;refine⟨false,rfl,⟨fun h=>(by cases h),fun h=>?_⟩,hb.drew⟩;have h1:=HE.out;rw [h,HD.out]at h1;injection h1 with h1;exact(HX.out (by rw [h1])).elim
theorem ma (w:World) (xs ys:Array Value) (t:TypeId):Below w.heap.size w ((w.alloc (.cells xs t)).alloc (.cells ys t))/\eS ((w.alloc (.cells xs t)).alloc (.cells ys t)) w.heap.size xs t/\eS ((w.alloc (.cells xs t)).alloc (.cells ys t)) (w.heap.size+1) ys t:=by
 refine⟨((an w.heap.size w).alloc (ag _) _).alloc (by simp) _,(eS.new w xs t).alloc _,?_⟩;have:=eS.new (w.alloc (.cells xs t)) ys t
 rwa [aC]at this
def oD (p:Prop) (w:World) (e:Ending) (w':World):Prop:=∃r:Bool,e= .returned (.bool r)/\(r=true↔p)/\Below w.heap.size w w'
theorem AH (c d:fa) (u x:Value) (w:World) (hu:eA 1 fk w u c.l) (hx:eA 1 fk w x d.l):
  Calls prog 330 #[.agg #[.int .i64 c.op, .int .i64 c.a, .int .i64 c.b,u], .agg #[.int .i64 d.op, .int .i64 d.a, .int .i64 d.b,x]] w (oD (c=d) w):=by
 have HU:=V hu;have Ny:=V hx;obtain⟨au,Ns,rfl,_,_,_⟩:=hu;obtain⟨ax,Of,rfl,_,_,_⟩:=hx;obtain⟨hb,OA,O8⟩:=ma w #[.int .i64 c.op, .int .i64 c.a, .int .i64 c.b, .slice au c.l.length Ns] #[.int .i64 d.op, .int .i64 d.a, .int .i64 d.b, .slice ax d.l.length Of] 39;have NB:=V hb;clear hb OA O8;go_enter func330,ntmps330;by_cases q1:c.op=d.op;rotate_left
 ·have f1:=eh q1
  have HX:=V (show c.op≠d.op from q1);clear q1;go_wp2;go_ret;exact⟨false,rfl,⟨fun h=>(by cases h),fun h=>(HX.out (by rw [h])).elim⟩,NB.out⟩
 have f1:=eV q1;have Q1:=V q1;clear q1;by_cases q2:c.a=d.a;rotate_left
 ·have f2:=eh q2
  have HX:=V (show c.a≠d.a from q2);clear q2;go_wp2;go_ret;exact⟨false,rfl,⟨fun h=>(by cases h),fun h=>(HX.out (by rw [h])).elim⟩,NB.out⟩
 have f2:=eV q2;have Q2:=V q2;clear q2;by_cases q3:c.b=d.b;rotate_left
 ·have f3:=eh q3
  have HX:=V (show c.b≠d.b from q3);clear q3;go_wp2;go_ret;exact⟨false,rfl,⟨fun h=>(by cases h),fun h=>(HX.out (by rw [h])).elim⟩,NB.out⟩
 have f3:=eV q3;have Q3:=V q3;clear q3;go_wp2_with fail;refine(lG _ _ c.l d.l _ (HU.out.below NB.out) (Ny.out.below NB.out)).mono ?_;rintro y w2 ⟨r,rfl,hr,No⟩;have NQ:=V (NB.out.trans (No.mono NB.out.size));have OU:=V hr;clear hr No;go_wp2;go_ret;refine⟨r,rfl,⟨fun h=>?_,fun h=>OU.out.2 (by rw [h])⟩,NQ.out⟩;have g:=OU.out.1 h;obtain⟨p0,p1,p2,p3⟩:=c;obtain⟨s0,s1,s2,s3⟩:=d;have g1:=Q1.out;have g2:=Q2.out;have g3:=Q3.out;simp only at g g1 g2 g3;rw [g,g1,g2,g3]
theorem BA (va vb:Value) (la lb:List fa) (w:World) (ha:eD 4 qO gY w va la) (hb:eD 4 qO gY w vb lb):
  Calls prog 329 #[va,vb, .func (.func 330) #[] #[]] w (pA la lb w):=by
 have HA:=V ha;have HB:=V hb;obtain⟨a,cap,rfl,h1,h2⟩:=ha.slice;obtain⟨a2,Nr,rfl,h3,h4⟩:=hb.slice;clear ha hb;by_cases hlen:la.length=lb.length;rotate_left
 ·have f1:(((la.length:Int)) !=((lb.length:Int)))=true:=fB (by omega)
  have HL:=V hlen;clear hlen;go_enter func329,ntmps329;go_wp2;go_ret;exact⟨false,rfl,⟨fun h=>(by cases h),fun h=>absurd (cY List.length h) HL.out⟩,an _ _⟩
 rw [<- hlen]at h3 HB⊢;have HL:=V hlen;clear hlen;go_enter func329,ntmps329;go_wp2_with fail;refine eR (fun a' w'=>∃(k:Nat),a'=fr (.slice a la.length cap:: .slice a2 la.length Nr:: .func (.func 330) #[] #[]::gs a' 3 12 (.slice a la.length cap:: .int .i64 la.length:: .int .i64 k::gs a' 18 14 []))/\CA la lb w w' k) (fun a' _=>(la.length - (intOf (a'.tmps.getD 17 undef)).toNat)) ?_ ?_
 ·exact⟨0,rfl,by omega,rfl,an _ _⟩
 ·skip
  rintro R a' w1 ⟨k,Nm,hJ⟩ HR;dsimp only [fr,gs]at Nm;generalize slot a'=f at Nm;subst Nm;obtain⟨hk,QT,hb⟩:=hJ;have HT:=V QT;clear QT;by_cases N8:k < la.length;rotate_left
  ·obtain rfl:k=la.length:=by omega
   go_wp2;go_ret;refine⟨true,rfl,⟨fun _=>?_,fun _=>rfl⟩,hb⟩;have:=HT.out;rw [aU,HL.out,aU]at this;exact this
  obtain⟨c,he⟩:∃e,la[k]?=some e:=⟨_,aq N8⟩;obtain⟨d,hd⟩:∃d,lb[k]?=some d:=⟨_,aq (by have:=HL.out;omega)⟩;obtain⟨b,off,u,rfl,Nu,hc,hu⟩:=eD.get (eD.ext HA.out (Ext.et hb) (fun _ _ h=>gY.ext h (Ext.et hb))) he;obtain⟨b2,NR,u2,rfl,O3,Ow,Pq⟩:=eD.get (eD.ext HB.out (Ext.et hb) (fun _ _ h=>gY.ext h (Ext.et hb))) hd;have HU:=V hu.1;have RI:=V Pq.1;obtain⟨au,cu,hue,_,_,_⟩:=id HU.out;obtain⟨Ta,cu2,hue2,_,_,_⟩:=id RI.out;subst hue hue2;have c0:=hc 0 _ rfl;have c1:=hc 1 _ rfl;have c2:=hc 2 _ rfl;have c3:=hc 3 _ rfl;have d0:=Ow 0 _ rfl;have d1:=Ow 1 _ rfl;have d2:=Ow 2 _ rfl;have d3:=Ow 3 _ rfl;rw [aJ]at c0 d0;clear hc Ow hu Pq;have HE:=V he;have HD:=V hd;clear he hd;obtain⟨ON,-,-⟩:=ma w1 #[.int .i64 c.op, .int .i64 c.a, .int .i64 c.b, .slice au c.l.length cu] #[.int .i64 d.op, .int .i64 d.a, .int .i64 d.b, .slice Ta d.l.length cu2] 39;have Pw:=(an w1.heap.size w1).alloc (ag _) (.cells #[.int .i64 c.op, .int .i64 c.a, .int .i64 c.b, .slice au c.l.length cu] 39);have e0:=(Pw.cell (p:=⟨b2,NR+k*4,none⟩) O3).trans d0;have e1:=(Pw.cell (p:=⟨b2,NR+k*4+1,none⟩) O3).trans d1;have e2:=(Pw.cell (p:=⟨b2,NR+k*4+2,none⟩) O3).trans d2;have e3:=(Pw.cell (p:=⟨b2,NR+k*4+3,none⟩) O3).trans d3;go_wp2_with fail;refine(AH c d _ _ _ (HU.out.below ON) (RI.out.below ON)).mono ?_;rintro y w2 ⟨r,rfl,hr,No⟩;replace hb:=hb.trans ((ON.trans (No.mono ON.size)).mono hb.size);have OU:=V hr;have HBR:=V hb;clear hr No ON Pw hb;clear c0 d0 e0 c1 d1 e1 c2 d2 e2 c3 d3 e3;cases r with
  | false=>
   go_wp2;go_ret;refine⟨false,rfl,⟨fun h=>(by cases h),fun h=>?_⟩,HBR.out⟩;have h1:=HE.out;rw [h,HD.out]at h1;injection h1 with h1;exact absurd (OU.out.2 h1.symm) (by simp)
  | true=>
   go_wp2;refine HR.out _ _ ⟨k+1,rfl,by omega,?_,HBR.out⟩ ?_
   ·rw [aR,aR,HT.out,HE.out,HD.out,OU.out.1 (by simp)]
   ·simp [intOf]
    omega
theorem CS (c d:gC) (u v u2 v2:Value) (w:World) (hu:eA 1 fk w u c.params) (hv:eA 1 fk w v c.results) (Pq:eA 1 fk w u2 d.params) (OI:eA 1 fk w v2 d.results):
  Calls prog 324 #[.agg #[u,v], .agg #[u2,v2]] w (oD (c=d) w):=by
 have HU:=V hu;have HV:=V hv;have RI:=V Pq;have Ql:=V OI;obtain⟨au,cu,rfl⟩:∃a k,u= .slice a c.params.length k:=(by obtain⟨a,k,h,_⟩:=hu;exact⟨a,k,h⟩);obtain⟨av,cv,rfl⟩:∃a k,v= .slice a c.results.length k:=(by obtain⟨a,k,h,_⟩:=hv;exact⟨a,k,h⟩);obtain⟨Ta,cu2,rfl⟩:∃a k,u2= .slice a d.params.length k:=(by obtain⟨a,k,h,_⟩:=Pq;exact⟨a,k,h⟩);obtain⟨SY,cv2,rfl⟩:∃a k,v2= .slice a d.results.length k:=(by obtain⟨a,k,h,_⟩:=OI;exact⟨a,k,h⟩);obtain⟨hb,OA,O8⟩:=ma w #[.slice au c.params.length cu, .slice av c.results.length cv] #[.slice Ta d.params.length cu2, .slice SY d.results.length cv2] 69;have NB:=V hb;have Oa:=V OA;have Ot:=V O8;clear hb OA O8 hu hv Pq OI;go_enter func324,ntmps324;go_wp2_with fail;refine(lG _ _ c.params d.params _ (HU.out.below NB.out) (RI.out.below NB.out)).mono ?_;rintro y w2 ⟨r,rfl,hr,No⟩;have NQ:=V (NB.out.trans (No.mono NB.out.size));have x1:=(Oa.out.below No Oa.out.lt).two.2.1;have y1:=(Ot.out.below No Ot.out.lt).two.2.1;have OU:=V hr;clear hr No;cases r with
 | false=>
  go_wp2;go_ret;refine⟨false,rfl,⟨fun h=>(by cases h),fun h=>?_⟩,NQ.out⟩;have g:=OU.out.2 (by rw [h]);simp at g
 | true=>
  go_wp2_with fail;refine(lG _ _ c.results d.results _ (HV.out.below NQ.out) (Ql.out.below NQ.out)).mono ?_;rintro y w3 ⟨r2,rfl,P7,NP⟩;have TL:=V (NQ.out.trans (NP.mono NQ.out.size));have QX:=V P7;clear P7 NP x1 y1;go_wp2;go_ret;refine⟨r2,rfl,⟨fun h=>?_,fun h=>QX.out.2 (by rw [h])⟩,TL.out⟩;have g:=OU.out.1 (by simp);have g':=QX.out.1 h;obtain⟨p0,p1⟩:=c;obtain⟨s0,s1⟩:=d;simp only at g g';rw [g,g']
theorem CD (c d:ij) (u v u2 v2:Value) (w:World) (hu:eA 1 fk w u c.locals) (hv:gN w v c.body) (Pq:eA 1 fk w u2 d.locals) (OI:gN w v2 d.body):
  Calls prog 328 #[.agg #[u,v], .agg #[u2,v2]] w (oD (c=d) w):=by
 have HU:=V hu;have HV:=V hv;have RI:=V Pq;have Ql:=V OI;obtain⟨au,cu,rfl⟩:∃a k,u= .slice a c.locals.length k:=(by obtain⟨a,k,h,_⟩:=hu;exact⟨a,k,h⟩);obtain⟨av,cv,rfl⟩:∃a k,v= .slice a c.body.length k:=(by obtain⟨a,k,h,_⟩:=eD.slice hv;exact⟨a,k,h⟩);obtain⟨Ta,cu2,rfl⟩:∃a k,u2= .slice a d.locals.length k:=(by obtain⟨a,k,h,_⟩:=Pq;exact⟨a,k,h⟩);obtain⟨SY,cv2,rfl⟩:∃a k,v2= .slice a d.body.length k:=(by obtain⟨a,k,h,_⟩:=eD.slice OI;exact⟨a,k,h⟩);obtain⟨hb,OA,O8⟩:=ma w #[.slice au c.locals.length cu, .slice av c.body.length cv] #[.slice Ta d.locals.length cu2, .slice SY d.body.length cv2] 41;have NB:=V hb;have Oa:=V OA;have Ot:=V O8;clear hb OA O8 hu hv Pq OI;go_enter func328,ntmps328;go_wp2_with fail;refine(lG _ _ c.locals d.locals _ (HU.out.below NB.out) (RI.out.below NB.out)).mono ?_;rintro y w2 ⟨r,rfl,hr,No⟩;have NQ:=V (NB.out.trans (No.mono NB.out.size));have x1:=(Oa.out.below No Oa.out.lt).two.2.1;have y1:=(Ot.out.below No Ot.out.lt).two.2.1;have OU:=V hr;clear hr No;cases r with
 | false=>
  go_wp2;go_ret;refine⟨false,rfl,⟨fun h=>(by cases h),fun h=>?_⟩,NQ.out⟩;have g:=OU.out.2 (by rw [h]);simp at g
 | true=>
  go_wp2_with fail;refine(BA _ _ c.body d.body _ (HV.out.below NQ.out) (Ql.out.below NQ.out)).mono ?_;rintro y w3 ⟨r2,rfl,P7,NP⟩;have TL:=V (NQ.out.trans (NP.mono NQ.out.size));have QX:=V P7;clear P7 NP x1 y1;go_wp2;go_ret;refine⟨r2,rfl,⟨fun h=>?_,fun h=>QX.out.2 (by rw [h])⟩,TL.out⟩;have g:=OU.out.1 (by simp);have g':=QX.out.1 h;obtain⟨p0,p1⟩:=c;obtain⟨s0,s1⟩:=d;simp only at g g';rw [g,g']
def Mo {α β:Type} (no t fq fe':Nat) (enc:α × β ->List Value) (inner:World ->α ->β ->Prop):Prop:=∀(n:Nat) (_:n=no) (tt:TypeId) (_:tt=t) (fe:Nat) (_:fe=fe') (va vb:Value) (la lb:List α) (w:World),eD 2 enc inner w va la ->eD 2 enc inner w vb lb ->Calls prog fq #[va,vb, .func (.func fe) #[] #[]] w (pA la lb w)
theorem yi:Mo 1 69 323 324 pU hI/\Mo 2 41 327 328 pV gW:=by
 refine⟨?_,?_⟩
 all_goals
  intro n hn tt htt fe hfe va vb la lb w ha hb;have HTT:=V htt;have HFE:=V hfe;clear htt hfe;have HA:=V ha;have HB:=V hb;obtain⟨a,cap,rfl,h1,h2⟩:=ha.slice;obtain⟨a2,Nr,rfl,h3,h4⟩:=hb.slice;clear ha hb;by_cases hlen:la.length=lb.length;rotate_left
  ·have f1:(((la.length:Int)) !=((lb.length:Int)))=true:=fB (by omega)
   have HL:=V hlen;clear hlen
   first | go_enter func323,ntmps323 | go_enter func327,ntmps327
   go_wp2;go_ret;exact⟨false,rfl,⟨fun h=>(by cases h),fun h=>absurd (cY List.length h) HL.out⟩,an _ _⟩
  rw [<- hlen]at h3 HB⊢;have HL:=V hlen;clear hlen
  first | go_enter func323,ntmps323 | go_enter func327,ntmps327
  go_wp2_with fail;refine eR (fun a' w'=>∃(k:Nat),a'=fr (.slice a la.length cap:: .slice a2 la.length Nr:: .func (.func fe) #[] #[]::gs a' 3 12 (.slice a la.length cap:: .int .i64 la.length:: .int .i64 k::gs a' 18 14 []))/\CA la lb w w' k) (fun a' _=>(la.length - (intOf (a'.tmps.getD 17 undef)).toNat)) ?_ ?_
  ·exact⟨0,rfl,by omega,rfl,an _ _⟩
  ·skip
   rintro R a' w1 ⟨k,Nm,hJ⟩ HR;dsimp only [fr,gs]at Nm;generalize slot a'=f at Nm;subst Nm;obtain⟨hk,QT,hb⟩:=hJ;have HT:=V QT;clear QT;by_cases N8:k < la.length;rotate_left
   ·obtain rfl:k=la.length:=by omega
    go_wp2;go_ret;refine⟨true,rfl,⟨fun _=>?_,fun _=>rfl⟩,hb⟩;have:=HT.out;rw [aU,HL.out,aU]at this;exact this
   obtain⟨c,he⟩:∃e,la[k]?=some e:=⟨_,aq N8⟩;obtain⟨d,hd⟩:∃d,lb[k]?=some d:=⟨_,aq (by have:=HL.out;omega)⟩;obtain⟨b,off,u,rfl,Nu,hc,hu⟩:=eD.get (eD.ext HA.out (Ext.et hb) (fun _ _ h=>h.ext (Ext.et hb))) he;obtain⟨b2,NR,u2,rfl,O3,Ow,Pq⟩:=eD.get (eD.ext HB.out (Ext.et hb) (fun _ _ h=>h.ext (Ext.et hb))) hd;obtain⟨u,v⟩:=u;obtain⟨u2,v2⟩:=u2;have HU:=V hu.1.1;have HV:=V hu.1.2;have RI:=V Pq.1.1;have Ql:=V Pq.1.2;simp only at HU HV RI Ql;obtain⟨au,lu,cu,rfl⟩:∃a l k,u= .slice a l k:=(by first | (obtain⟨a,k,h,_⟩:=HU.out;exact⟨a,_,k,h⟩) | (obtain⟨a,k,h,_⟩:=eD.slice HU.out;exact⟨a,_,k,h⟩));obtain⟨av,lv,cv,rfl⟩:∃a l k,v= .slice a l k:=(by first | (obtain⟨a,k,h,_⟩:=HV.out;exact⟨a,_,k,h⟩) | (obtain⟨a,k,h,_⟩:=eD.slice HV.out;exact⟨a,_,k,h⟩));obtain⟨Ta,lu2,cu2,rfl⟩:∃a l k,u2= .slice a l k:=(by first | (obtain⟨a,k,h,_⟩:=RI.out;exact⟨a,_,k,h⟩) | (obtain⟨a,k,h,_⟩:=eD.slice RI.out;exact⟨a,_,k,h⟩));obtain⟨SY,lv2,cv2,rfl⟩:∃a l k,v2= .slice a l k:=(by first | (obtain⟨a,k,h,_⟩:=Ql.out;exact⟨a,_,k,h⟩) | (obtain⟨a,k,h,_⟩:=eD.slice Ql.out;exact⟨a,_,k,h⟩));have c0:=hc 0 _ rfl;have c1:=hc 1 _ rfl;have d0:=Ow 0 _ rfl;have d1:=Ow 1 _ rfl;rw [aJ]at c0 d0;clear hc Ow hu Pq;have HE:=V he;have HD:=V hd;clear he hd;obtain⟨ON,-,-⟩:=ma w1 #[.slice au lu cu, .slice av lv cv] #[.slice Ta lu2 cu2, .slice SY lv2 cv2] tt;have Pw:=(an w1.heap.size w1).alloc (ag _) (.cells #[.slice au lu cu, .slice av lv cv] tt);have e8:=HTT.out;have e9:=HFE.out;subst e8 e9;have e0:=(Pw.cell (p:=⟨b2,NR+k*2,none⟩) O3).trans d0;have e1:=(Pw.cell (p:=⟨b2,NR+k*2+1,none⟩) O3).trans d1;go_wp2_with fail
   first | (have:n=1:=hn;refine(CS c d _ _ _ _ _ (HU.out.below ON) (HV.out.below ON) (RI.out.below ON) (Ql.out.below ON)).mono ?_) | (have:n=2:=hn;refine(CD c d _ _ _ _ _ (HU.out.below ON) (HV.out.below ON) (RI.out.below ON) (Ql.out.below ON)).mono ?_)
   rintro y w2 ⟨r,rfl,hr,No⟩;replace hb:=hb.trans ((ON.trans (No.mono ON.size)).mono hb.size);have OU:=V hr;have HBR:=V hb;clear hr No ON Pw hb;clear c0 d0 e0 c1 d1 e1;cases r with
   | false=>
    go_wp2;go_ret;refine⟨false,rfl,⟨fun h=>(by cases h),fun h=>?_⟩,HBR.out⟩;have h1:=HE.out;rw [h,HD.out]at h1;injection h1 with h1;exact absurd (OU.out.2 h1.symm) (by simp)
   | true=>
    go_wp2;refine HR.out _ _ ⟨k+1,rfl,by omega,?_,HBR.out⟩ ?_
    ·rw [aR,aR,HT.out,HE.out,HD.out,OU.out.1 (by simp)]
    ·simp [intOf]
     omega
theorem tz (va vb:Value) (la lb:List gC) (w:World) (ha:eD 2 pU hI w va la) (hb:eD 2 pU hI w vb lb):
  Calls prog 323 #[va,vb, .func (.func 324) #[] #[]] w (pA la lb w):=yi.1 _ rfl _ rfl _ rfl va vb la lb w ha hb
theorem tO (va vb:Value) (la lb:List ij) (w:World) (ha:eD 2 pV gW w va la) (hb:eD 2 pV gW w vb lb):
  Calls prog 327 #[va,vb, .func (.func 328) #[] #[]] w (pA la lb w):=yi.2 _ rfl _ rfl _ rfl va vb la lb w ha hb
theorem uw (a a2:Option Addr) (c c2:Nat) (w:World):Calls prog 325 #[.slice a 0 c, .slice a2 0 c2, .func (.func 326) #[] #[]] w (oD True w)/\Calls prog 331 #[.slice a 0 c, .slice a2 0 c2, .func (.func 332) #[] #[]] w (oD True w)/\Calls prog 334 #[.slice a 0 c, .slice a2 0 c2] w (oD True w)/\Calls prog 335 #[.slice a 0 c, .slice a2 0 c2] w (oD True w):=by
 refine⟨?_,?_,?_,?_⟩
 all_goals
  first | go_enter func325,ntmps325 | go_enter func331,ntmps331 | go_enter func334,ntmps334 | go_enter func335,ntmps335
  go_wp2_with fail;refine cQ 1 ?_;rw [cg];go_wp2;go_ret;exact⟨true,rfl,by simp,an _ _⟩
theorem AK (a a2:Option Addr) (c c2:Nat) (w:World):Calls prog 325 #[.slice a 0 c, .slice a2 0 c2, .func (.func 326) #[] #[]] w (oD True w):=(uw a a2 c c2 w).1
theorem A7 (a a2:Option Addr) (c c2:Nat) (w:World):Calls prog 331 #[.slice a 0 c, .slice a2 0 c2, .func (.func 332) #[] #[]] w (oD True w):=(uw a a2 c c2 w).2.1
theorem GW (a a2:Option Addr) (c c2:Nat) (w:World):Calls prog 334 #[.slice a 0 c, .slice a2 0 c2] w (oD True w):=(uw a a2 c c2 w).2.2.1
theorem Ic (a a2:Option Addr) (c c2:Nat) (w:World):Calls prog 335 #[.slice a 0 c, .slice a2 0 c2] w (oD True w):=(uw a a2 c c2 w).2.2.2
def eI.Fk (m:eI):Prop:=m.imports=[]/\m.globals=[]/\m.elems=[]/\m.eP=[]
theorem Gw (m n:eI) (u v:eT) (w:World) (hm:eG w u m) (hm2:eG w v n) (hp:m.Fk) (Sn:n.Fk) (ht:m.types≠n.types):
  Calls prog 322 #[.agg (u.cells m), .agg (v.cells n)] w (oD False w):=by
 have HT:=V ht;clear ht;have HI:=V hm;have P8:=V hm2;have HP:=V hp;have HP2:=V Sn;have Qm:m.imports.length=0:=by rw [hp.1];rfl
 have hg0:m.globals.length=0:=by rw [hp.2.1];rfl
 have he0:m.elems.length=0:=by rw [hp.2.2.1];rfl
 have hd0:m.eP.length=0:=by rw [hp.2.2.2];rfl
 have hi2:n.imports.length=0:=by rw [Sn.1];rfl
 have Pv:n.globals.length=0:=by rw [Sn.2.1];rfl
 have OZ:n.elems.length=0:=by rw [Sn.2.2.1];rfl
 have Ti:n.eP.length=0:=by rw [Sn.2.2.2];rfl
 obtain⟨a0,c0,a1,c1,a2,c2,a3,c3,a4,c4,a5,c5,a6,c6,a7,c7,rfl⟩:=eG.open hm;obtain⟨b0,d0,b1,d1,b2,d2,b3,d3,b4,d4,b5,d5,b6,d6,b7,d7,rfl⟩:=eG.open hm2;clear hm hm2 hp Sn;simp only [eT.cells,Qm,hg0,he0,hd0,hi2,Pv,OZ,Ti]at*;obtain⟨hb,OA,O8⟩:=ma w #[.slice a0 m.types.length c0, .slice a1 0 c1, .slice a2 m.funcs.length c2, .bool m.table.has, .int .i64 m.table.min, .int .i64 m.table.max, .bool m.mem.has, .int .i64 m.mem.min, .int .i64 m.mem.max, .slice a3 0 c3, .slice a4 m.ey.length c4, .slice a5 0 c5, .slice a6 m.eF.length c6, .slice a7 0 c7] #[.slice b0 n.types.length d0, .slice b1 0 d1, .slice b2 n.funcs.length d2, .bool n.table.has, .int .i64 n.table.min, .int .i64 n.table.max, .bool n.mem.has, .int .i64 n.mem.min, .int .i64 n.mem.max, .slice b3 0 d3, .slice b4 n.ey.length d4, .slice b5 0 d5, .slice b6 n.eF.length d6, .slice b7 0 d7] 35;have NB:=V hb;have Oa:=V OA;have Ot:=V O8;clear hb OA O8 Qm hg0 he0 hd0 hi2 Pv OZ Ti;go_enter func322,ntmps322;go_wp2_with fail;refine(tz (.slice a0 m.types.length c0) (.slice b0 n.types.length d0) m.types n.types _ (eD.below HI.out.1 NB.out (fun _ _ h=>h.below NB.out)) (eD.below P8.out.1 NB.out (fun _ _ h=>h.below NB.out))).mono ?_;rintro y w1 ⟨r1,rfl,hr,hb⟩;have R1:=V hr;have Oa:=V (Oa.out.below hb Oa.out.lt);have Ot:=V (Ot.out.below hb Ot.out.lt);have NB:=V (NB.out.trans (hb.mono NB.out.size));clear hr hb;obtain⟨g0,g1,g2,g3,g4,g5,g6,g7,g8,g9,NT,NY,NZ,N0⟩:=Oa.out.mod;obtain⟨k0,k1,k2,k3,k4,k5,k6,k7,k8,k9,QD,Re,Rf,Rg⟩:=Ot.out.mod;go_wp2_with fail;refine(AK _ _ _ _ _).mono ?_;clear g0 g1 g2 g3 g4 g5 g6 g7 g8 g9 NT NY NZ N0 k0 k1 k2 k3 k4 k5 k6 k7 k8 k9 QD Re Rf Rg;rintro y w2 ⟨r2,rfl,hr,hb⟩;have R2:=V hr;have Oa:=V (Oa.out.below hb Oa.out.lt);have Ot:=V (Ot.out.below hb Ot.out.lt);have NB:=V (NB.out.trans (hb.mono NB.out.size));clear hr hb;obtain⟨g0,g1,g2,g3,g4,g5,g6,g7,g8,g9,NT,NY,NZ,N0⟩:=Oa.out.mod;obtain⟨k0,k1,k2,k3,k4,k5,k6,k7,k8,k9,QD,Re,Rf,Rg⟩:=Ot.out.mod;obtain rfl:=R2.out.2 trivial;go_wp2_with fail;refine(tO (.slice a6 m.eF.length c6) (.slice b6 n.eF.length d6) m.eF n.eF _ (eD.below HI.out.2.2.2.2.2.2.1 NB.out (fun _ _ h=>h.below NB.out)) (eD.below P8.out.2.2.2.2.2.2.1 NB.out (fun _ _ h=>h.below NB.out))).mono ?_;clear g0 g1 g2 g3 g4 g5 g6 g7 g8 g9 NT NY NZ N0 k0 k1 k2 k3 k4 k5 k6 k7 k8 k9 QD Re Rf Rg;rintro y w3 ⟨r3,rfl,hr,hb⟩;have R3:=V hr;have Oa:=V (Oa.out.below hb Oa.out.lt);have Ot:=V (Ot.out.below hb Ot.out.lt);have NB:=V (NB.out.trans (hb.mono NB.out.size));clear hr hb;obtain⟨g0,g1,g2,g3,g4,g5,g6,g7,g8,g9,NT,NY,NZ,N0⟩:=Oa.out.mod;obtain⟨k0,k1,k2,k3,k4,k5,k6,k7,k8,k9,QD,Re,Rf,Rg⟩:=Ot.out.mod;go_wp2_with fail;refine(A7 _ _ _ _ _).mono ?_;clear g0 g1 g2 g3 g4 g5 g6 g7 g8 g9 NT NY NZ N0 k0 k1 k2 k3 k4 k5 k6 k7 k8 k9 QD Re Rf Rg;rintro y w4 ⟨r4,rfl,hr,hb⟩;have R4:=V hr;have Oa:=V (Oa.out.below hb Oa.out.lt);have Ot:=V (Ot.out.below hb Ot.out.lt);have NB:=V (NB.out.trans (hb.mono NB.out.size));clear hr hb;obtain⟨g0,g1,g2,g3,g4,g5,g6,g7,g8,g9,NT,NY,NZ,N0⟩:=Oa.out.mod;obtain⟨k0,k1,k2,k3,k4,k5,k6,k7,k8,k9,QD,Re,Rf,Rg⟩:=Ot.out.mod;obtain rfl:=R4.out.2 trivial;obtain rfl:r1=false:=by
  cases r1 with
  | true=>exact absurd (R1.out.1 rfl) HT.out
  | false=>rfl
 clear g0 g1 g2 g3 g4 g5 g6 g7 g8 g9 NT NY NZ N0 k0 k1 k2 k3 k4 k5 k6 k7 k8 k9 QD Re Rf Rg;obtain⟨g0,g1,g2,g3,g4,g5,g6,g7,g8,g9,NT,NY,NZ,N0⟩:=Oa.out.mod;obtain⟨k0,k1,k2,k3,k4,k5,k6,k7,k8,k9,QD,Re,Rf,Rg⟩:=Ot.out.mod;go_wp2;go_ret;exact⟨false,rfl,by simp,NB.out⟩
theorem JK (m:eI) (u v:eT) (w:World) (hm:eG w u m) (hm2:eG w v m) (hp:m.Fk) (Sn:m.Fk):
  Calls prog 322 #[.agg (u.cells m), .agg (v.cells m)] w (oD True w):=by
 have HI:=V hm;have P8:=V hm2;have HP:=V hp;have HP2:=V Sn;have Qm:m.imports.length=0:=by rw [hp.1];rfl
 have hg0:m.globals.length=0:=by rw [hp.2.1];rfl
 have he0:m.elems.length=0:=by rw [hp.2.2.1];rfl
 have hd0:m.eP.length=0:=by rw [hp.2.2.2];rfl
 have hi2:m.imports.length=0:=by rw [Sn.1];rfl
 have Pv:m.globals.length=0:=by rw [Sn.2.1];rfl
 have OZ:m.elems.length=0:=by rw [Sn.2.2.1];rfl
 have Ti:m.eP.length=0:=by rw [Sn.2.2.2];rfl
 obtain⟨a0,c0,a1,c1,a2,c2,a3,c3,a4,c4,a5,c5,a6,c6,a7,c7,rfl⟩:=eG.open hm;obtain⟨b0,d0,b1,d1,b2,d2,b3,d3,b4,d4,b5,d5,b6,d6,b7,d7,rfl⟩:=eG.open hm2;clear hm hm2 hp Sn;simp only [eT.cells,Qm,hg0,he0,hd0]at*;obtain⟨hb,OA,O8⟩:=ma w #[.slice a0 m.types.length c0, .slice a1 0 c1, .slice a2 m.funcs.length c2, .bool m.table.has, .int .i64 m.table.min, .int .i64 m.table.max, .bool m.mem.has, .int .i64 m.mem.min, .int .i64 m.mem.max, .slice a3 0 c3, .slice a4 m.ey.length c4, .slice a5 0 c5, .slice a6 m.eF.length c6, .slice a7 0 c7] #[.slice b0 m.types.length d0, .slice b1 0 d1, .slice b2 m.funcs.length d2, .bool m.table.has, .int .i64 m.table.min, .int .i64 m.table.max, .bool m.mem.has, .int .i64 m.mem.min, .int .i64 m.mem.max, .slice b3 0 d3, .slice b4 m.ey.length d4, .slice b5 0 d5, .slice b6 m.eF.length d6, .slice b7 0 d7] 35;have NB:=V hb;have Oa:=V OA;have Ot:=V O8;clear hb OA O8 Qm hg0 he0 hd0 hi2 Pv OZ Ti;go_enter func322,ntmps322;go_wp2_with fail;refine(tz (.slice a0 m.types.length c0) (.slice b0 m.types.length d0) m.types m.types _ (eD.below HI.out.1 NB.out (fun _ _ h=>h.below NB.out)) (eD.below P8.out.1 NB.out (fun _ _ h=>h.below NB.out))).mono ?_;rintro y w1 ⟨r1,rfl,hr,hb⟩;have R1:=V hr;have Oa:=V (Oa.out.below hb Oa.out.lt);have Ot:=V (Ot.out.below hb Ot.out.lt);have NB:=V (NB.out.trans (hb.mono NB.out.size));clear hr hb;obtain⟨g0,g1,g2,g3,g4,g5,g6,g7,g8,g9,NT,NY,NZ,N0⟩:=Oa.out.mod;obtain⟨k0,k1,k2,k3,k4,k5,k6,k7,k8,k9,QD,Re,Rf,Rg⟩:=Ot.out.mod;go_wp2_with fail;refine(AK _ _ _ _ _).mono ?_;clear g0 g1 g2 g3 g4 g5 g6 g7 g8 g9 NT NY NZ N0 k0 k1 k2 k3 k4 k5 k6 k7 k8 k9 QD Re Rf Rg;rintro y w2 ⟨r2,rfl,hr,hb⟩;have R2:=V hr;have Oa:=V (Oa.out.below hb Oa.out.lt);have Ot:=V (Ot.out.below hb Ot.out.lt);have NB:=V (NB.out.trans (hb.mono NB.out.size));clear hr hb;obtain⟨g0,g1,g2,g3,g4,g5,g6,g7,g8,g9,NT,NY,NZ,N0⟩:=Oa.out.mod;obtain⟨k0,k1,k2,k3,k4,k5,k6,k7,k8,k9,QD,Re,Rf,Rg⟩:=Ot.out.mod;obtain rfl:=R2.out.2 trivial;go_wp2_with fail;refine(tO (.slice a6 m.eF.length c6) (.slice b6 m.eF.length d6) m.eF m.eF _ (eD.below HI.out.2.2.2.2.2.2.1 NB.out (fun _ _ h=>h.below NB.out)) (eD.below P8.out.2.2.2.2.2.2.1 NB.out (fun _ _ h=>h.below NB.out))).mono ?_;clear g0 g1 g2 g3 g4 g5 g6 g7 g8 g9 NT NY NZ N0 k0 k1 k2 k3 k4 k5 k6 k7 k8 k9 QD Re Rf Rg;rintro y w3 ⟨r3,rfl,hr,hb⟩;have R3:=V hr;have Oa:=V (Oa.out.below hb Oa.out.lt);have Ot:=V (Ot.out.below hb Ot.out.lt);have NB:=V (NB.out.trans (hb.mono NB.out.size));clear hr hb;obtain⟨g0,g1,g2,g3,g4,g5,g6,g7,g8,g9,NT,NY,NZ,N0⟩:=Oa.out.mod;obtain⟨k0,k1,k2,k3,k4,k5,k6,k7,k8,k9,QD,Re,Rf,Rg⟩:=Ot.out.mod;go_wp2_with fail;refine(A7 _ _ _ _ _).mono ?_;clear g0 g1 g2 g3 g4 g5 g6 g7 g8 g9 NT NY NZ N0 k0 k1 k2 k3 k4 k5 k6 k7 k8 k9 QD Re Rf Rg;rintro y w4 ⟨r4,rfl,hr,hb⟩;have R4:=V hr;have Oa:=V (Oa.out.below hb Oa.out.lt);have Ot:=V (Ot.out.below hb Ot.out.lt);have NB:=V (NB.out.trans (hb.mono NB.out.size));clear hr hb;obtain⟨g0,g1,g2,g3,g4,g5,g6,g7,g8,g9,NT,NY,NZ,N0⟩:=Oa.out.mod;obtain⟨k0,k1,k2,k3,k4,k5,k6,k7,k8,k9,QD,Re,Rf,Rg⟩:=Ot.out.mod;obtain rfl:=R4.out.2 trivial;obtain rfl:=R1.out.2 trivial;obtain rfl:=R3.out.2 trivial;go_wp2_with fail;refine(GW _ _ _ _ _).mono ?_;clear g0 g1 g2 g3 g4 g5 g6 g7 g8 g9 NT NY NZ N0 k0 k1 k2 k3 k4 k5 k6 k7 k8 k9 QD Re Rf Rg;rintro y w5 ⟨r5,rfl,hr,hb⟩;have R5:=V hr;have Oa:=V (Oa.out.below hb Oa.out.lt);have Ot:=V (Ot.out.below hb Ot.out.lt);have NB:=V (NB.out.trans (hb.mono NB.out.size));clear hr hb;obtain⟨g0,g1,g2,g3,g4,g5,g6,g7,g8,g9,NT,NY,NZ,N0⟩:=Oa.out.mod;obtain⟨k0,k1,k2,k3,k4,k5,k6,k7,k8,k9,QD,Re,Rf,Rg⟩:=Ot.out.mod;obtain rfl:=R5.out.2 trivial;go_wp2_with fail;refine(lG (.slice a2 m.funcs.length c2) (.slice b2 m.funcs.length d2) m.funcs m.funcs _ (HI.out.2.2.1.below NB.out) (P8.out.2.2.1.below NB.out)).mono ?_;clear g0 g1 g2 g3 g4 g5 g6 g7 g8 g9 NT NY NZ N0 k0 k1 k2 k3 k4 k5 k6 k7 k8 k9 QD Re Rf Rg;rintro y w6 ⟨r6,rfl,hr,hb⟩;have R6:=V hr;have Oa:=V (Oa.out.below hb Oa.out.lt);have Ot:=V (Ot.out.below hb Ot.out.lt);have NB:=V (NB.out.trans (hb.mono NB.out.size));clear hr hb;obtain⟨g0,g1,g2,g3,g4,g5,g6,g7,g8,g9,NT,NY,NZ,N0⟩:=Oa.out.mod;obtain⟨k0,k1,k2,k3,k4,k5,k6,k7,k8,k9,QD,Re,Rf,Rg⟩:=Ot.out.mod;obtain rfl:=R6.out.2 rfl;go_wp2_with fail;refine(Ic _ _ _ _ _).mono ?_;clear g0 g1 g2 g3 g4 g5 g6 g7 g8 g9 NT NY NZ N0 k0 k1 k2 k3 k4 k5 k6 k7 k8 k9 QD Re Rf Rg;rintro y w7 ⟨r7,rfl,hr,hb⟩;have R7:=V hr;have Oa:=V (Oa.out.below hb Oa.out.lt);have Ot:=V (Ot.out.below hb Ot.out.lt);have NB:=V (NB.out.trans (hb.mono NB.out.size));clear hr hb;obtain⟨g0,g1,g2,g3,g4,g5,g6,g7,g8,g9,NT,NY,NZ,N0⟩:=Oa.out.mod;obtain⟨k0,k1,k2,k3,k4,k5,k6,k7,k8,k9,QD,Re,Rf,Rg⟩:=Ot.out.mod;obtain rfl:=R7.out.2 trivial;go_wp2_with fail;refine(zn (.slice a4 m.ey.length c4) (.slice b4 m.ey.length d4) m.ey m.ey _ (HI.out.2.2.2.2.1.below NB.out) (P8.out.2.2.2.2.1.below NB.out)).mono ?_;clear g0 g1 g2 g3 g4 g5 g6 g7 g8 g9 NT NY NZ N0 k0 k1 k2 k3 k4 k5 k6 k7 k8 k9 QD Re Rf Rg;rintro y w8 ⟨r8,rfl,hr,hb⟩;have R8:=V hr;have Oa:=V (Oa.out.below hb Oa.out.lt);have Ot:=V (Ot.out.below hb Ot.out.lt);have NB:=V (NB.out.trans (hb.mono NB.out.size));clear hr hb;obtain⟨g0,g1,g2,g3,g4,g5,g6,g7,g8,g9,NT,NY,NZ,N0⟩:=Oa.out.mod;obtain⟨k0,k1,k2,k3,k4,k5,k6,k7,k8,k9,QD,Re,Rf,Rg⟩:=Ot.out.mod;obtain rfl:=R8.out.2 rfl;go_wp2;go_ret;exact⟨true,rfl,by simp,NB.out⟩
theorem xe (a:Option Addr) (len cap k:Nat) (h:k <=cap) (wx:World):
  (Instr.slice 104 (.slice a len cap) none (some (.int .i64 k)) none).run prog wx= .ok (.slice a k cap) wx:=by
 have hu:prog.underlying 104=some (.slice 5):=by kernel_rfl
 obtain⟨i0,hi,Po,Oi,O1⟩:=bS pn;simp [Instr.slice,aZ hu,Instr.sliceBounds,Instr.sliceBound,sizeOf,typeInfo,hi,asIntOf,h];cases a <;>simp [Addr.add]
theorem eC.empty (w:World):eC (w.alloc (.cells #[] 5)) w.heap.size (.slice (some ⟨w.heap.size,0,none⟩) 0 0) []:=
 ⟨by simp, .inr ⟨w.heap.size,0,#[],rfl,ag _,dz w _,ag _,by simp [maxLen],by simp,by simp⟩⟩
theorem eC.base {w:World} {B B':Nat} {v:Value} {l:List UInt8} (h:eC w B v l) (hB:B' <=B):eC w B' v l:=nH h (fun _ hk=>aQ hB (eM h hk).1)
def FG (l:List UInt8) (w:World) (e:Ending) (w':World):Prop:=∃v,e= .returned v/\eC w' w.heap.size v l/\Below w.heap.size w w'
theorem Du (v:Value) (l:List UInt8) (w:World) (hl:eZ w v l) (QL:l.length <=1000000):Calls prog 291 #[v] w (FG l w):=by
 obtain⟨a,cap,rfl,h1,h2,h3⟩:=id hl;unfold maxLen at h2;have HI:=V hl;cases a with
 | none=>
  obtain rfl:l=[]:=by
   cases l with
   | nil=>rfl
   | cons x l=>
    obtain⟨_,_,h,_⟩:=h3 0 x rfl;cases h
  clear h3 hl;have e1:=bN (P:=prog) w 104 5 none 0 cap 0 0 (by kernel_rfl);rw [dk]at e1;go_enter func291,ntmps291;go_wp2;go_ret;exact⟨_,rfl,eC.nil _ _,an _ _⟩
 | some ad=>
  clear h3 hl;have e1:=bN (P:=prog) w 104 5 (some ad) l.length cap 0 0 (by kernel_rfl);rw [dj]at e1;have N3:=(an w.heap.size w).alloc (ag _) (.cells #[] 5);have HBO:=V N3;go_enter func291,ntmps291;go_wp2_with (first | (at_builtin;refine ja (w.alloc (.cells #[] 5)) rfl _ _ rfl rfl w.heap.size (.slice (some ⟨w.heap.size,0,none⟩) 0 0) [] rfl (eC.empty w) _ _ rfl (HI.out.below HBO.out) (by simp only [aH];omega) HBO.out.size ?_));intro v w' ho hk hs;have HB:=V (show Below w.heap.size w w' from HBO.out.trans (hk.below HBO.out.size (fun i hi=>by simp [eO,Value.ownBlock]at hi;omega)));have HO:=V ho;clear hk hs N3 ho;go_wp2;go_ret;exact⟨v,rfl,by simpa using HO.out,HB.out⟩
def oH (st:gV):List UInt8:=((st.bind mY).map (·.1)).getD []
theorem AT (st:gV):ie mY st (oH st):=fun y hy=>by rw [oH,hy];rfl
theorem BD (st:gV):eK mY st=iO (jJ st) true (eK gD st):=by
 cases st with
 | none=>rfl
 | some l=>
  simp only [eK,mY,jJ,iO,ao];cases h:gD l with
  | none=>rfl
  | some y=>
   simp only [ao,bA,dM,true_and];by_cases q:y.1 <=y.2.length
   ·rw [az (by omega),aE q];rfl
   ·rw [aE (by omega),az q];rfl
theorem By {st:gV} (h:eK mY st=none):oH st=[]:=by
 unfold eK at h;unfold oH;cases hb:st.bind mY with
 | none=>rfl
 | some y=>rw [hb]at h;cases h
theorem AG {st:gV} {l r:List UInt8} (h1:eK gD st=some l) (h:eK mY st=some r):oH st=l.take (jJ st)/\jJ st <=l.length:=by
 cases st with
 | none=>cases h1
 | some q=>
  simp only [eK,mY,jJ,oH,ao]at*;cases hb:gD q with
  | none=>rw [hb]at h1;cases h1
  | some y=>
   rw [hb]at h1 h;simp only [ao,bA,aS]at h1 h;subst h1;by_cases q:y.2.length < y.1
   ·rw [aE q]at h;cases h
   ·simp only [ao,bA,dM]
    rw [az q];exact⟨rfl,by omega⟩
def Ln (w0 w:World) (R:Nat) (st:gV) (e:Ending) (w':World):Prop:=
 ∃v,e= .returned v/\eC w' w.heap.size v (oH st)/\fZ w0 w' R (eK mY st)/\ep (fun k=>k=R) w w'
theorem A6 {w0 w:World} {R:Nat} {st:gV} (h:fZ w0 w R st):(oH st).length <=8000:=by
 have hl:=h.len;cases hn:eK mY st with
 | none=>rw [By hn];simp
 | some r=>
  cases h1:eK gD st with
  | none=>rw [BD,h1]at hn;cases hn
  | some l=>
   obtain⟨h2,h3⟩:=AG h1 hn;have h4:=(jL.mG lk).len st;rw [h1]at h4;simp only [gV.len]at h4 hl;rw [h2,aP];omega
theorem Ea (w0 w:World) (R:Nat) (st:gV) (h:fZ w0 w R st):Calls prog 222 #[.pointer (some ⟨R,0,none⟩)] w (Ln w0 w R st):=by
 have HH:=V h;have QA:=V (A6 h);have hn:=mi st;have HNX:=V (BD st);have HNN:=V (@By st);have HRS:Hid (∀l r:List UInt8,eK gD st=some l ->eK mY st=some r ->oH st=l.take (jJ st)/\jJ st <=l.length):=V (fun l r h1 h2=>AG h1 h2);obtain⟨n,en⟩:∃n,jJ st=n:=⟨_,rfl⟩;obtain⟨s1,es⟩:∃s1,eK gD st=s1:=⟨_,rfl⟩;rw [en]at hn;have EN:=V en;have ES:=V es;clear h en es;go_enter func222,ntmps222;go_wp2_with fail;refine(kg w0 w R st HH.out).mono ?_;rintro e w1 ⟨rfl,h1,hk⟩;rw [EN.out];rw [ES.out]at h1;have HH1:=V h1;have HK:=V hk;obtain⟨a,l,cap,bad,ND,hl,hlen,NH,NG,Rr⟩:=h1;have c0:w1.cell? ⟨R,0,none⟩=some (.slice a l.length cap):=ND.cell 0;obtain⟨_,_,Qr,Sx,OS,-⟩:=id hl;injection Qr with e1 e2 e3;subst e1 e3;have HL:=V hl;have Nn:=V NH;clear hk ND hl NG NH OS e2;go_wp2_with fail;refine(lp w0 w1 R s1 n true (by omega) HH1.out).mono ?_;rintro e w2 ⟨rfl,h2,hk⟩;have Ou:eK mY st=iO n true s1:=by rw [HNX.out,EN.out,ES.out]
 rw [<- Ou]at h2;have c1:=h2.bad;have HH2:=V h2;have OX:=V (HK.out.trans hk (fun _ h=> .inl h));clear h2 hk c0 Ou;cases hq:eK mY st with
 | none=>
  rw [hq]at c1 HH2;have c1:w2.cell? ⟨R,1,none⟩=some (.bool true):=c1;have HV:=V (HNN.out hq);have HQ:=V hq;clear hq;go_wp2;go_ret;exact⟨_,rfl,by rw [HV.out];exact eC.nil _ _,by rw [HQ.out];exact HH2.out,OX.out⟩
 | some r=>
  rw [hq]at c1 HH2;have c1:w2.cell? ⟨R,1,none⟩=some (.bool false):=c1;have OC:s1=some l:=by
   rw [Nn.out];cases bad with
   | false=>rfl
   | true=>
    exfalso;have h3:=HNX.out;rw [ES.out,Nn.out,hq]at h3;cases h3
  obtain⟨hv,hle⟩:=HRS.out _ _ (by rw [ES.out,OC]) hq;rw [EN.out]at hv hle;have HV:=V hv;have HQ:=V hq;have hln:n <=cap:=by omega
  have Nz:=fun wx=>xe a l.length cap n hln wx;have HI:Hid (eZ w2 (.slice a (oH st).length cap) (oH st)):=V (by
   have:=(HL.out.below HH2.out.old.1).take n hle;rw [<- hv]at this;have hz:(oH st).length=n:=by rw [hv,aP];omega
   rw [hz];exact this)
  have TA:(oH st).length=n:=by rw [hv,aP];omega
  have SA:=V TA;clear hq hv OC TA;go_wp2_with fail;refine(Du _ (oH st) w2 (by have:=HI.out;rw [SA.out]at this;exact this) (aQ QA.out (by omega))).mono ?_;rintro e w3 ⟨v,rfl,ho,hb⟩;have HO:=V (eC.base ho OX.out.size);have HH3:=V (HH2.out.below hb);have HK3:=V (OX.out.trans (ep.et (S:=fun _=>False) hb) (fun _ h=>h.elim));clear ho hb;go_wp2;go_ret;exact⟨_,rfl,HO.out,by rw [HQ.out];exact HH3.out,HK3.out⟩
def yM (st:gV):ByteArray:=bs (oH st)
theorem sY (st:gV):ie jN st (yM st):=by rw [uO];exact fO (AT st)
theorem EW (st:gV):eK jN st=eK mY st:=by rw [uO,fG]
theorem wz (w0 w:World) (R:Nat) (st:gV) (h:fZ w0 w R st):Calls prog 284 #[.pointer (some ⟨R,0,none⟩)] w (Bc w0 w R (.string (yM st)) (eK jN st)):=by
 have HH:=V h;have HN:=V (EW st);clear h;go_enter func284,ntmps284;go_wp2_with fail;refine(Ea w0 w R st HH.out).mono ?_;rintro e w1 ⟨v,rfl,ho,h1,hk⟩;have Nz:=qN (eC.gK ho);have HH1:=V h1;have HK:=V hk;clear ho h1 hk;go_wp2;go_ret;exact⟨rfl,by rw [HN.out];exact HH1.out,HK.out⟩
def GS (w0 w:World) (R:Nat) (st:gV) (e:Ending) (w':World):Prop:=
 ∃v:fi,e= .returned (.agg #[.int .i64 v.kind, .int .i64 v.n])/\v.ok/\ie gU st v/\fZ w0 w' R (eK gU st)/\ep (fun k=>k=R) w w'
theorem ry {l r:List UInt8} {x:fa} (h:gH l=some (x,r)) (ok:Bool) (Nt:ok=(decide (x.op=65) || decide (x.op=66))) (bad:Bool):
  eK gU (if bad=true then none else some l)=eK fp (iO (l.length - r.length) ok (if bad=true then none else some l)):=by
 obtain⟨p,rfl⟩:=oX h;cases bad with
 | true=>rfl
 | false=>
  have hd:(p++r).drop ((p++r).length - r.length)=r:=by
   have:(p++r).length - r.length=p.length:=by rw [ah];omega
   rw [this,df]
  have hs:iO ((p++r).length - r.length) ok (some (p++r))=if x.op=65\/x.op=66 then some r else none:=by
   subst Nt;simp only [iO,ao,hd];by_cases q:x.op=65\/x.op=66
   ·rw [aE ⟨by rcases q with q | q <;>simp [q],by omega⟩,aE q]
   ·have q1:¬ x.op=65:=fun g=>q (.inl g)
    have q2:¬ x.op=66:=fun g=>q (.inr g);rw [az (by simp [q1,q2]),az q]
  show eK gU (some (p++r))=eK fp (iO ((p++r).length - r.length) ok (some (p++r)));rw [hs];simp only [eK,gU,h,ao];by_cases q:x.op=65\/x.op=66
  ·rw [aE q,aE q]
   simp only [ao];cases fp r <;>rfl
  ·rw [az q,az q]
   rfl
theorem EY {l r:List UInt8} {x:fa} (h:gH l=some (x,r)) (bad:Bool):ie gU (if bad=true then none else some l) ⟨if x.op=66 then 2 else 1,x.a⟩:=by
 cases bad with
 | true=>exact nd _ _
 | false=>
  intro y hy;simp only [gU,h,bM,dB,ao]at hy;split at hy
  ·cases hb:fp r with
   | none=>rw [hb]at hy;cases hy
   | some c=>rw [hb]at hy;injection hy with hy;rw [<- hy]
  ·cases hy
theorem Cb {l:List UInt8} (h:gH l=none) (n:Nat) (bad:Bool):eK gU (if bad=true then none else some l)=eK fp (iO n false (if bad=true then none else some l))/\∀v,ie gU (if bad=true then none else some l) v:=by
 cases bad with
 | true=>exact⟨rfl,fun v=>nd _ _⟩
 | false=>
  simp only [eK,gU,iO,h,bM,dB,ao];refine⟨by simp,fun v y hy=>?_⟩;simp [gU,h]at hy
theorem My {k n:Int} (hk:k=1\/k=2) (hn:iV n):fi.ok ⟨k,n⟩:=by
 rcases hk with rfl | rfl
 ·exact⟨⟨by show(-9223372036854775808:Int) <=1;decide,by show(1:Int) <=9223372036854775807;decide⟩,hn⟩
 ·exact⟨⟨by show(-9223372036854775808:Int) <=2;decide,by show(2:Int) <=9223372036854775807;decide⟩,hn⟩
theorem yr (w0 w:World) (R:Nat) (st:gV) (h:fZ w0 w R st):Calls prog 288 #[.pointer (some ⟨R,0,none⟩)] w (GS w0 w R st):=by
 have P3:=h.lt;have Rr:=h.old.2;have HH:=V (h.alloc (.cells #[.int .i64 0, .int .i64 0] 52));have Ny:=V (eS.new w #[.int .i64 0, .int .i64 0] 52);have HK:=V ((ep.refl (fun k=>k=R) w).alloc (.cells #[.int .i64 0, .int .i64 0] 52));obtain⟨a,l,cap,bad,ND,hl,hlen,NH,NG,-⟩:=HH.out;have c0:(w.alloc (.cells #[.int .i64 0, .int .i64 0] 52)).cell? ⟨R,0,none⟩=some (.slice a l.length cap):=ND.cell 0;have HL:=V (hl.below NG);have Nn:=V NH;clear ND hl NG h NH;go_enter func288,ntmps288;go_wp2_with fail;refine(rV _ l _ HL.out (by omega)).mono ?_;rintro e w1 ⟨hb,⟨x,r,u,hx,rfl,N6,-⟩ | ⟨err,hx,he,-,rfl⟩⟩
 ·have HA:=V N6.2.2.1
  have HWS:Hid (ie gU st ⟨if x.op=66 then 2 else 1,x.a⟩):=V (by rw [Nn.out];exact EY hx bad);obtain⟨⟨au,Ns,rfl,-,-,-⟩,-⟩:=id N6;obtain⟨op,xa,xb,xl⟩:=x;simp only at HA HWS⊢;have N4:=V (eS.new w1 #[.int .i64 op, .int .i64 xa, .int .i64 xb, .slice au xl.length Ns] 39);have Ny:=V ((Ny.out.below hb Ny.out.lt).alloc (.cells #[.int .i64 op, .int .i64 xa, .int .i64 xb, .slice au xl.length Ns] 39));have HK:=V ((HK.out.trans (ep.et (S:=fun k=>k=R) hb) (fun _ h=> .inl h)).alloc (.cells #[.int .i64 op, .int .i64 xa, .int .i64 xb, .slice au xl.length Ns] 39));have HH:=V ((HH.out.below hb).alloc (.cells #[.int .i64 op, .int .i64 xa, .int .i64 xb, .slice au xl.length Ns] 39));have OC:w.heap.size < w1.heap.size:=by have:=hb.size;rw [aC]at this;omega
  have c3:(w1.alloc (.cells #[.int .i64 op, .int .i64 xa, .int .i64 xb, .slice au xl.length Ns] 39)).cell? ⟨w1.heap.size,0,none⟩=some (.int .i64 op):=N4.out.cell 0;by_cases q1:op=65
  ·have f1:=eV q1
   have f2:(op==66)=false:=eh (by omega);have HN:=V (show eK gU st=eK fp (iO (l.length - r.length) true st)by rw [Nn.out];exact ry hx true (by simp [q1]) bad);have HW:=V (show ie gU st ⟨1,xa⟩by have:=HWS.out;rwa [az (show ¬ op=66 by omega)]at this);clear q1 hb N6 hx c0;go_wp2_with fail;refine(lp w0 _ R _ (l.length - r.length) true (by omega) HH.out).mono ?_;rintro e w2 ⟨rfl,hh,hk⟩;have HH:=V hh;have Ny:=V (Ny.out.keeps hk (by omega));have N4:=V (N4.out.keeps hk (by omega));have HK:=V (HK.out.trans hk (fun _ h=> .inl h));clear hh hk;clear c3;go_wp2_with fail;refine(jn w0 w2 R _ HH.out).mono ?_;rintro e w3 ⟨rfl,hh,hk⟩;have HH:=V hh;have Ny:=V (Ny.out.keeps hk (by omega));have N4:=V (N4.out.keeps hk (by omega));have HK:=V (HK.out.trans hk (fun _ h=> .inl h));clear hh hk;obtain⟨x0,x1,z0,z1⟩:=Ny.out.two;have d0:w3.cell? ⟨w1.heap.size,0,none⟩=some (.int .i64 op):=N4.out.cell 0;have d1:w3.cell? ⟨w1.heap.size,1,none⟩=some (.int .i64 xa):=N4.out.cell 1;go_wp2_with fail;have hx:=Ny.out.nC (.int .i64 1) (.int .i64 xa);have Np:=fQ w3 w.heap.size (.int .i64 1) (.int .i64 xa);refine aF (eH rfl _ _ rfl hx.mj) rfl ?_;exact⟨⟨1,xa⟩,rfl,My (.inl rfl) HA.out,HW.out,by rw [HN.out];exact HH.out.keeps Np (by omega) (fun i hi=>by omega),HK.out.jg Np (ag _)⟩
  ·have f1:=eh q1
   by_cases q2:op=66
   ·have f2:=eV q2
    have HN:=V (show eK gU st=eK fp (iO (l.length - r.length) true st)by rw [Nn.out];exact ry hx true (by simp [q2]) bad);have HW:=V (show ie gU st ⟨2,xa⟩by have:=HWS.out;rwa [aE q2]at this);clear q1 q2 hb N6 hx c0;go_wp2_with fail;refine(lp w0 _ R _ (l.length - r.length) true (by omega) HH.out).mono ?_;rintro e w2 ⟨rfl,hh,hk⟩;have HH:=V hh;have Ny:=V (Ny.out.keeps hk (by omega));have N4:=V (N4.out.keeps hk (by omega));have HK:=V (HK.out.trans hk (fun _ h=> .inl h));clear hh hk;clear c3;go_wp2_with fail;refine(jn w0 w2 R _ HH.out).mono ?_;rintro e w3 ⟨rfl,hh,hk⟩;have HH:=V hh;have Ny:=V (Ny.out.keeps hk (by omega));have N4:=V (N4.out.keeps hk (by omega));have HK:=V (HK.out.trans hk (fun _ h=> .inl h));clear hh hk;obtain⟨x0,x1,z0,z1⟩:=Ny.out.two;have d0:w3.cell? ⟨w1.heap.size,0,none⟩=some (.int .i64 op):=N4.out.cell 0;have d1:w3.cell? ⟨w1.heap.size,1,none⟩=some (.int .i64 xa):=N4.out.cell 1;go_wp2_with fail;have hx:=Ny.out.nC (.int .i64 2) (.int .i64 xa);have Np:=fQ w3 w.heap.size (.int .i64 2) (.int .i64 xa);refine aF (eH rfl _ _ rfl hx.mj) rfl ?_;exact⟨⟨2,xa⟩,rfl,My (.inr rfl) HA.out,HW.out,by rw [HN.out];exact HH.out.keeps Np (by omega) (fun i hi=>by omega),HK.out.jg Np (ag _)⟩
   ·have f2:=eh q2
    have HN:=V (show eK gU st=eK fp (iO (l.length - r.length) false st)by rw [Nn.out];exact ry hx false (by simp [q1,q2]) bad);have HW:=V (show ie gU st ⟨1,xa⟩by have:=HWS.out;rwa [az q2]at this);clear q1 q2 hb N6 hx c0;go_wp2_with fail;refine(lp w0 _ R _ (l.length - r.length) false (by omega) HH.out).mono ?_;rintro e w2 ⟨rfl,hh,hk⟩;have HH:=V hh;have Ny:=V (Ny.out.keeps hk (by omega));have N4:=V (N4.out.keeps hk (by omega));have HK:=V (HK.out.trans hk (fun _ h=> .inl h));clear hh hk;clear c3;go_wp2_with fail;refine(jn w0 w2 R _ HH.out).mono ?_;rintro e w3 ⟨rfl,hh,hk⟩;have HH:=V hh;have Ny:=V (Ny.out.keeps hk (by omega));have N4:=V (N4.out.keeps hk (by omega));have HK:=V (HK.out.trans hk (fun _ h=> .inl h));clear hh hk;obtain⟨x0,x1,z0,z1⟩:=Ny.out.two;have d0:w3.cell? ⟨w1.heap.size,0,none⟩=some (.int .i64 op):=N4.out.cell 0;have d1:w3.cell? ⟨w1.heap.size,1,none⟩=some (.int .i64 xa):=N4.out.cell 1;go_wp2_with fail;have hx:=Ny.out.nC (.int .i64 1) (.int .i64 xa);have Np:=fQ w3 w.heap.size (.int .i64 1) (.int .i64 xa);refine aF (eH rfl _ _ rfl hx.mj) rfl ?_;exact⟨⟨1,xa⟩,rfl,My (.inl rfl) HA.out,HW.out,by rw [HN.out];exact HH.out.keeps Np (by omega) (fun i hi=>by omega),HK.out.jg Np (ag _)⟩
 ·have HA:=V zJ
  have N4:=V (eS.new w1 #[.int .i64 0, .int .i64 0, .int .i64 0, .slice none 0 0] 39);have Ny:=V ((Ny.out.below hb Ny.out.lt).alloc (.cells #[.int .i64 0, .int .i64 0, .int .i64 0, .slice none 0 0] 39));have HK:=V ((HK.out.trans (ep.et (S:=fun k=>k=R) hb) (fun _ h=> .inl h)).alloc (.cells #[.int .i64 0, .int .i64 0, .int .i64 0, .slice none 0 0] 39));have HH:=V ((HH.out.below hb).alloc (.cells #[.int .i64 0, .int .i64 0, .int .i64 0, .slice none 0 0] 39));have OC:w.heap.size < w1.heap.size:=by have:=hb.size;rw [aC]at this;omega
  have c3:(w1.alloc (.cells #[.int .i64 0, .int .i64 0, .int .i64 0, .slice none 0 0] 39)).cell? ⟨w1.heap.size,0,none⟩=some (.int .i64 0):=N4.out.cell 0;have f1:=eh he;obtain⟨hn,hw⟩:=Cb hx 0 bad;rw [<- Nn.out]at hn hw;have HN:=V hn;have HW:=V (hw ⟨1,0⟩);clear hb he hn hw hx c0;go_wp2_with fail;refine(lp w0 _ R _ 0 false (by omega) HH.out).mono ?_;rintro e w2 ⟨rfl,hh,hk⟩;have HH:=V hh;have Ny:=V (Ny.out.keeps hk (by omega));have N4:=V (N4.out.keeps hk (by omega));have HK:=V (HK.out.trans hk (fun _ h=> .inl h));clear hh hk;clear c3;go_wp2_with fail;refine(jn w0 w2 R _ HH.out).mono ?_;rintro e w3 ⟨rfl,hh,hk⟩;have HH:=V hh;have Ny:=V (Ny.out.keeps hk (by omega));have N4:=V (N4.out.keeps hk (by omega));have HK:=V (HK.out.trans hk (fun _ h=> .inl h));clear hh hk;obtain⟨x0,x1,z0,z1⟩:=Ny.out.two;have d0:w3.cell? ⟨w1.heap.size,0,none⟩=some (.int .i64 0):=N4.out.cell 0;have d1:w3.cell? ⟨w1.heap.size,1,none⟩=some (.int .i64 0):=N4.out.cell 1;go_wp2_with fail;have hx:=Ny.out.nC (.int .i64 1) (.int .i64 0);have Np:=fQ w3 w.heap.size (.int .i64 1) (.int .i64 0);refine aF (eH rfl _ _ rfl hx.mj) rfl ?_;exact⟨⟨1,0⟩,rfl,My (.inl rfl) HA.out,HW.out,by rw [HN.out];exact HH.out.keeps Np (by omega) (fun i hi=>by omega),HK.out.jg Np (ag _)⟩
def It (w0 w:World) (R:Nat) (st:gV) (e:Ending) (w':World):Prop:=
 ∃n:Int,e= .returned (.int .i64 n)/\iV n/\ie jx st n/\fZ w0 w' R (eK jx st)/\ep (fun k=>k=R) w w'
theorem Ct (st:gV):eK jx st=eK gU (eK fp st):=by rw [tj,fG,hU]
theorem Fi {st:gV} {v:fi} (h:ie gU (eK fp st) v):ie jx st v.n:=by
 rw [tj];exact fO (f:=fun x=>x.2.n) (iE (ni st) h)
theorem sZ (w0 w:World) (R:Nat) (st:gV) (h:fZ w0 w R st):Calls prog 217 #[.pointer (some ⟨R,0,none⟩)] w (It w0 w R st):=by
 have HH:=V h;clear h;go_enter func217,ntmps217;go_wp2_with fail;refine(jn w0 w R st HH.out).mono ?_;rintro e w1 ⟨rfl,h1,hk⟩;have HH1:=V h1;have HK:=V hk;clear h1 hk;go_wp2_with fail;refine(yr w0 w1 R _ HH1.out).mono ?_;rintro e w2 ⟨v,rfl,Nt,hw,h2,hk⟩;have HH2:=V h2;have OX:=V (HK.out.trans hk (fun _ h=> .inl h));have HW:=V (Fi hw);obtain⟨n1,n2⟩:=Nt.2;have hfd:∀wx:World,(Instr.field 52 (.agg #[.int .i64 v.kind, .int .i64 v.n]) 1).run prog wx= .ok (.int .i64 v.n) wx:=fun _=>by kernel_rfl
 clear h2 hk hw;go_wp2;go_ret;exact⟨v.n,rfl,⟨n1,n2⟩,HW.out,by rw [Ct];exact HH2.out,OX.out⟩
def Lb (w0 w:World) (R:Nat) (st:gV) (e:Ending) (w':World):Prop:=
 ∃x:gl,e= .returned (.agg #[.bool x.has, .int .i64 x.min, .int .i64 x.max])/\x.ok/\ie gw st x/\fZ w0 w' R (eK gw st)/\ep (fun k=>k=R) w w'
theorem As {st:gV} (h:nn st=0):eK gw st=eK gD (eK fp st)/\ie gw st ⟨true,jJ (eK fp st),-1⟩:=by
 match st,h with
 | none,_=>exact⟨rfl,nd _ _⟩
 | some [],_=>exact⟨rfl,fun y hy=>by simp [gw,fp]at hy⟩
 | some (c::l),h=>
  obtain rfl:c=0:=h;simp only [eK,jJ,ao,bA,fp,gw,ie];cases hn:gD l with
  | none=>simp
  | some y=>simp
theorem Ai {st:gV} (h:nn st≠0):eK gw st=eK gD (eK gD (eK fp st))/\ie gw st ⟨true,jJ (eK fp st),jJ (eK gD (eK fp st))⟩:=by
 match st,h with
 | none,_=>exact⟨rfl,nd _ _⟩
 | some [],_=>exact⟨rfl,fun y hy=>by simp [gw,fp]at hy⟩
 | some (c::l),h=>
  have hc:c≠0:=h;simp only [eK,jJ,ao,bA,fp,gw,ie,hc,dB];cases hn:gD l with
  | none=>simp
  | some y=>
   simp only [ao,bA];cases hn2:gD y.2 with
   | none=>simp
   | some z=>simp
theorem KN {n:Nat} {m:Int} (hn:n < 4294967296) (hm: -1 <=m/\m < 4294967296):gl.ok ⟨true,n,m⟩:=⟨⟨by show(-9223372036854775808:Int) <=n;omega,by show(n:Int) <=9223372036854775807;omega⟩,by show(-9223372036854775808:Int) <=m;omega,by show m <=9223372036854775807;omega⟩
theorem uN (w0 w:World) (R:Nat) (st:gV) (h:fZ w0 w R st):Calls prog 287 #[.pointer (some ⟨R,0,none⟩)] w (Lb w0 w R st):=by
 have P3:=h.lt;have Rr:=h.old.2;have HH:=V ((h.alloc (.cells #[.bool false, .int .i64 0, .int .i64 0] 28)).alloc (.cells #[.bool true, .int .i64 0, .int .i64 (-1)] 28));have Ny:=V ((eS.new w #[.bool false, .int .i64 0, .int .i64 0] 28).alloc (.cells #[.bool true, .int .i64 0, .int .i64 (-1)] 28));have N4:Hid (eS ((w.alloc (.cells #[.bool false, .int .i64 0, .int .i64 0] 28)).alloc (.cells #[.bool true, .int .i64 0, .int .i64 (-1)] 28)) (w.heap.size+1) #[.bool true, .int .i64 0, .int .i64 (-1)] 28):=V (by have:=eS.new (w.alloc (.cells #[.bool false, .int .i64 0, .int .i64 0] 28)) #[.bool true, .int .i64 0, .int .i64 (-1)] 28;rw [aC]at this;exact this);have HK:=V (((ep.refl (fun k=>k=R) w).alloc (.cells #[.bool false, .int .i64 0, .int .i64 0] 28)).alloc (.cells #[.bool true, .int .i64 0, .int .i64 (-1)] 28));have hn1:=mi (eK fp st);have hn2:=mi (eK gD (eK fp st));obtain⟨n,en⟩:∃n,jJ (eK fp st)=n:=⟨_,rfl⟩;obtain⟨m,em⟩:∃m,jJ (eK gD (eK fp st))=m:=⟨_,rfl⟩;obtain⟨c,ec⟩:∃c,nn st=c:=⟨_,rfl⟩;rw [en]at hn1;rw [em]at hn2;have EN:=V en;have EM:=V em;have EC:=V ec;clear h en em ec;go_enter func287,ntmps287;go_wp2_with fail;refine(jn w0 _ R st HH.out).mono ?_;rintro e w1 ⟨rfl,hh,hk⟩;have HH:=V hh;have Ny:=V (Ny.out.keeps hk (by omega));have N4:=V (N4.out.keeps hk (by omega));have HK:=V (HK.out.trans hk (fun _ h=> .inl h));clear hh hk;rw [EC.out];by_cases q:c=0
 ·have f1:((c.toNat:Int) !=0)=false:=by rw [q];rfl
  have HN:=V ((As (EC.out.trans q)).1);have HW:=V (show ie gw st ⟨true,n,-1⟩by rw [<- EN.out];exact(As (EC.out.trans q)).2);clear q;go_wp2_with fail;refine(kg w0 w1 R _ HH.out).mono ?_;rintro e w2 ⟨rfl,hh,hk⟩;have HH:=V hh;have Ny:=V (Ny.out.keeps hk (by omega));have N4:=V (N4.out.keeps hk (by omega));have HK:=V (HK.out.trans hk (fun _ h=> .inl h));clear hh hk;rw [EN.out];obtain⟨y0,y1,y2,-,u1,u2⟩:=N4.out.Jg;obtain⟨x0,x1,x2,z0,z1,z2⟩:=Ny.out.Jg;have N4:=V ((N4.out.set 1 (.int .i64 n)));have Ny:=V (Ny.out.other ⟨w.heap.size+1,1,none⟩ (.int .i64 n) (by show w.heap.size≠w.heap.size+1;omega));have HH:=V (HH.out.keeps (eE w2 (w.heap.size+1) 1 (.int .i64 n)) (by omega) (fun i hi=>by omega));have HK:=V (HK.out.jg (eE w2 (w.heap.size+1) 1 (.int .i64 n)) (by omega));go_wp2_with fail;have hx:=Ny.out.uS (.bool true) (.int .i64 n) (.int .i64 (-1));have Np:=kZ (w2.setCell ⟨w.heap.size+1,1,none⟩ (.int .i64 n)) w.heap.size (.bool true) (.int .i64 n) (.int .i64 (-1));refine aF (eH rfl _ _ rfl hx.qA) rfl ?_;exact⟨⟨true,n,(-1)⟩,rfl,KN hn1 (by omega),HW.out,by rw [HN.out];exact HH.out.keeps Np (by omega) (fun i hi=>by omega),HK.out.jg Np (ag _)⟩
 ·have f1:((c.toNat:Int) !=0)=true:=fB (fun h=>q (dC.1 (by show c.toNat=0;omega)))
  have HN:=V ((Ai (fun h=>q (EC.out.symm.trans h))).1);have HW:=V (show ie gw st ⟨true,n,m⟩by rw [<- EN.out, <- EM.out];exact(Ai (fun h=>q (EC.out.symm.trans h))).2);clear q;go_wp2_with fail;refine(kg w0 w1 R _ HH.out).mono ?_;rintro e w2 ⟨rfl,hh,hk⟩;have HH:=V hh;have Ny:=V (Ny.out.keeps hk (by omega));have N4:=V (N4.out.keeps hk (by omega));have HK:=V (HK.out.trans hk (fun _ h=> .inl h));clear hh hk;rw [EN.out];have y1:=N4.out.cell 1;have u1:=N4.out.free 1;have N4:=V ((N4.out.set 1 (.int .i64 n)));have Ny:=V (Ny.out.other ⟨w.heap.size+1,1,none⟩ (.int .i64 n) (by show w.heap.size≠w.heap.size+1;omega));have HH:=V (HH.out.keeps (eE w2 (w.heap.size+1) 1 (.int .i64 n)) (by omega) (fun i hi=>by omega));have HK:=V (HK.out.jg (eE w2 (w.heap.size+1) 1 (.int .i64 n)) (by omega));have N4:=V (show eS (w2.setCell ⟨w.heap.size+1,1,none⟩ (.int .i64 n)) (w.heap.size+1) #[.bool true, .int .i64 n, .int .i64 (-1)] 28 from by simpa using N4.out);go_wp2_with fail;refine(kg w0 _ R _ HH.out).mono ?_;rintro e w3 ⟨rfl,hh,hk⟩;have HH:=V hh;have Ny:=V (Ny.out.keeps hk (by omega));have N4:=V (N4.out.keeps hk (by omega));have HK:=V (HK.out.trans hk (fun _ h=> .inl h));clear hh hk;clear y1 u1;rw [EM.out];obtain⟨y0,y1,y2,-,u1,u2⟩:=N4.out.Jg;obtain⟨x0,x1,x2,z0,z1,z2⟩:=Ny.out.Jg;have N4:=V ((N4.out.set 2 (.int .i64 m)));have Ny:=V (Ny.out.other ⟨w.heap.size+1,2,none⟩ (.int .i64 m) (by show w.heap.size≠w.heap.size+1;omega));have HH:=V (HH.out.keeps (eE w3 (w.heap.size+1) 2 (.int .i64 m)) (by omega) (fun i hi=>by omega));have HK:=V (HK.out.jg (eE w3 (w.heap.size+1) 2 (.int .i64 m)) (by omega));go_wp2_with fail;have hx:=Ny.out.uS (.bool true) (.int .i64 n) (.int .i64 m);have Np:=kZ (w3.setCell ⟨w.heap.size+1,2,none⟩ (.int .i64 m)) w.heap.size (.bool true) (.int .i64 n) (.int .i64 m);refine aF (eH rfl _ _ rfl hx.qA) rfl ?_;exact⟨⟨true,n,m⟩,rfl,KN hn1 (by omega),HW.out,by rw [HN.out];exact HH.out.keeps Np (by omega) (fun i hi=>by omega),HK.out.jg Np (ag _)⟩
theorem ei.stay {α:Type} {t:TypeId} {k:Nat} {enc:α ->List Value} {w w':World} {B:Nat} {v:Value} {l:List α} {S:Nat ->Prop} (h:ei t k enc w B v l) (hk:ep S w w') (hs:∀i,S i ->i < B):ei t k enc w' B v l:=
 h.keeps hk (fun i hi hp=>by have:=(eM h hi).1;have:=hs i hp;omega)
theorem ei.lower {α:Type} {t:TypeId} {k:Nat} {enc:α ->List Value} {w:World} {B B':Nat} {v:Value} {l:List α} (h:ei t k enc w B v l) (hB:B' <=B):ei t k enc w B' v l:=
 nH h (fun _ hk=>aQ hB (eM h hk).1)
theorem Eg (st:gV):iV (oJ st):=by
 rcases(Bi st).2 with h;rw [h];split
 ·exact⟨by decide,by decide⟩
 ·split <;>exact⟨by decide,by decide⟩
theorem FO (w0 w:World) (R:Nat) (s:gV) (h:fZ w0 w R s):Calls prog 283 (#[.pointer (some ⟨R,0,none⟩)]++#[]) w (Lo (fun x:Int=> .int .i64 x) w0 R gT iV s w):=by
 refine(vq w0 w R s h).mono ?_;rintro e w' ⟨rfl,h1,h2⟩;exact⟨oJ s,rfl,Eg s,yB s,h1,h2⟩
theorem C7 (n:Nat) (h:n < 4294967296):iV n:=⟨by show(-9223372036854775808:Int) <=n;omega,by show(n:Int) <=9223372036854775807;omega⟩
theorem Gk (w0 w:World) (R:Nat) (s:gV) (h:fZ w0 w R s):Calls prog 122 (#[.pointer (some ⟨R,0,none⟩)]++#[]) w (Lo (fun x:Int=> .int .i64 x) w0 R wX iV s w):=by
 refine(kg w0 w R s h).mono ?_;rintro e w' ⟨rfl,h1,h2⟩;exact⟨jJ s,rfl,C7 _ (mi s),by rw [rK];exact fO (nM s),by rw [rK,fG];exact h1,h2⟩
theorem I2 (w0 w:World) (R:Nat) (st:gV) (h:fZ w0 w R st):Calls prog 206 (#[.pointer (some ⟨R,0,none⟩)]++#[]) w (LM (fun(_:gC) (u:Value × Value)=> .agg #[u.1,u.2]) hI w0 R pX (fun _=>True) st w):=by
 have P3:=h.lt;have Rr:=h.old.2;have HH:=V (h.alloc (.cells #[.slice none 0 0, .slice none 0 0] 69));have HX:=V (eS.new w #[.slice none 0 0, .slice none 0 0] 69);have HK:=V ((ep.refl (fun k=>k=R) w).alloc (.cells #[.slice none 0 0, .slice none 0 0] 69));have Oc:(w.alloc (.cells #[.slice none 0 0, .slice none 0 0] 69)).heap.size=w.heap.size+1:=aC _ _;have Oi:=dm Oc.symm;clear h Oc;go_enter func206,ntmps206;go_wp2_with fail;refine(jn w0 _ R st HH.out).mono ?_;rintro e w1 ⟨rfl,hh,hk⟩;have Oi:=aQ Oi hk.size;have HH:=V hh;have HX:=V (HX.out.keeps hk (by omega));have HK:=V (HK.out.trans hk (fun _ h=> .inl h));clear hh hk;go_wp2_with fail;refine(ox w0 R gT iV me _ w1 283 #[.pointer (some ⟨R,0,none⟩)] #[] (fun _ _=>by rfl) HH.out (fun s w1 h _=>FO w0 w1 R s h)).mono ?_;rintro e w2 ⟨v1,l1,rfl,P9,hp1,S1,Sm,hh,hk⟩;obtain⟨a1,c1,rfl,-,-⟩:=P9.slice;have O1:=aQ Oi hk.size;have OV:=V P9;have HP1:=V hp1;have RM:=V Sm;clear P9 hp1 Sm;have HH:=V hh;have HX:=V (HX.out.keeps hk (by omega));have HK:=V (HK.out.trans hk (fun _ h=> .inl h));clear hh hk;go_wp2_with fail;refine(ox w0 R gT iV me _ w2 283 #[.pointer (some ⟨R,0,none⟩)] #[] (fun _ _=>by rfl) HH.out (fun s w1 h _=>FO w0 w1 R s h)).mono ?_;rintro e w3 ⟨v2,l2,rfl,NU,Sn,hl2,PE,hh,hk⟩;obtain⟨a2,c2,rfl,-,-⟩:=NU.slice;have OV:=V (OV.out.stay hk (fun i hi=>by omega));have OO:=V NU;have HP2:=V Sn;have Ov:=V PE;clear NU Sn PE;have HH:=V hh;have HX:=V (HX.out.keeps hk (by omega));have HK:=V (HK.out.trans hk (fun _ h=> .inl h));clear hh hk;obtain⟨x0,x1,z0,z1⟩:=HX.out.two;go_wp2_with fail;have hx:=HX.out.nC (.slice a1 l1.length c1) (.slice a2 l2.length c2);have Np:=fQ w3 w.heap.size (.slice a1 l1.length c1) (.slice a2 l2.length c2);refine aF (eH rfl _ _ rfl hx.lz) rfl ?_;have o1:=((OV.out.stay Np (fun i hi=>by omega)).lower (show w.heap.size <=w1.heap.size by omega));have o2:=((OO.out.stay Np (fun i hi=>by omega)).lower (show w.heap.size <=w2.heap.size by omega));refine⟨⟨l1,l2⟩,(.slice a1 l1.length c1, .slice a2 l2.length c2),rfl,⟨⟨jv fI o1,jv fI o2⟩,HP1.out,HP2.out⟩,trivial,?_,?_,HK.out.jg Np (ag _)⟩
 ·rw [vu]
  exact fO (f:=fun x:UInt8 × List Int × List Int=>gC.mk x.2.1 x.2.2) (iE (ni st) (iE RM.out Ov.out))
 ·rw [vu,fG,hU,hU]
  exact HH.out.keeps Np (by omega) (fun i hi=>by omega)
theorem rN {w0 w:World} {R:Nat} {st:gV} (h:fZ w0 w R st):(yM st).size <=8000:=by
 have:=A6 h;show((oH st).toArray).size <=8000;simpa using this
def kj.fits (x:kj):Prop:=x.mod.size <=8000/\x.name.size <=8000/\iV x.type
def jr.fits (x:jr):Prop:=x.name.size <=8000/\iV x.func
theorem CX (w0 w:World) (R:Nat) (st:gV) (h:fZ w0 w R st):Calls prog 208 (#[.pointer (some ⟨R,0,none⟩)]++#[]) w (Lo (fun x:kj=> .agg #[.string x.mod, .string x.name, .int .i64 x.type]) w0 R vw kj.fits st w):=by
 have P3:=h.lt;have Rr:=h.old.2;have HH:=V (h.alloc (.cells #[.string (bs []), .string (bs []), .int .i64 0] 71));have HX:=V (eS.new w #[.string (bs []), .string (bs []), .int .i64 0] 71);have HK:=V ((ep.refl (fun k=>k=R) w).alloc (.cells #[.string (bs []), .string (bs []), .int .i64 0] 71));have Oc:(w.alloc (.cells #[.string (bs []), .string (bs []), .int .i64 0] 71)).heap.size=w.heap.size+1:=aC _ _;have Oi:=dm Oc.symm;have HT1:=V (rN h);clear h Oc;go_enter func208,ntmps208;go_wp2_with fail;refine(wz w0 _ R st HH.out).mono ?_;rintro e w1 ⟨rfl,hh,hk⟩;have Oi:=aQ Oi hk.size;have HH:=V hh;have HX:=V (HX.out.keeps hk (by omega));have HK:=V (HK.out.trans hk (fun _ h=> .inl h));clear hh hk;have HT2:=V (rN HH.out);go_wp2_with fail;refine(wz w0 w1 R _ HH.out).mono ?_;rintro e w2 ⟨rfl,hh,hk⟩;have O1:=aQ Oi hk.size;have HH:=V hh;have HX:=V (HX.out.keeps hk (by omega));have HK:=V (HK.out.trans hk (fun _ h=> .inl h));clear hh hk;obtain⟨s1,es1⟩:∃s,yM st=s:=⟨_,rfl⟩;obtain⟨s2,es2⟩:∃s,yM (eK jN st)=s:=⟨_,rfl⟩;rw [es1]at HT1;rw [es2]at HT2;rw [es1,es2];have ES1:=V es1;have ES2:=V es2;clear es1 es2;have HY:=V (eS.new w2 #[.string s1, .string s2, .int .i64 0] 71);have HX:=V (HX.out.alloc (.cells #[.string s1, .string s2, .int .i64 0] 71));have HK:=V (HK.out.alloc (.cells #[.string s1, .string s2, .int .i64 0] 71));have HH:=V (HH.out.alloc (.cells #[.string s1, .string s2, .int .i64 0] 71));go_wp2_with fail;refine(jn w0 _ R _ HH.out).mono ?_;rintro e w3 ⟨rfl,hh,hk⟩;have HH:=V hh;have HX:=V (HX.out.keeps hk (by omega));have HY:=V (HY.out.keeps hk (by omega));have HK:=V (HK.out.trans hk (fun _ h=> .inl h));clear hh hk;go_wp2_with fail;refine(kg w0 w3 R _ HH.out).mono ?_;rintro e w4 ⟨rfl,hh,hk⟩;have HH:=V hh;have HX:=V (HX.out.keeps hk (by omega));have HY:=V (HY.out.keeps hk (by omega));have HK:=V (HK.out.trans hk (fun _ h=> .inl h));clear hh hk;have hn:=mi (eK fp (eK jN (eK jN st)));obtain⟨n,en⟩:∃n,jJ (eK fp (eK jN (eK jN st)))=n:=⟨_,rfl⟩;rw [en]at hn⊢;have EN:=V en;clear en;obtain⟨y0,y1,y2,v0,v1,v2⟩:=HY.out.Jg;obtain⟨x0,x1,x2,z0,z1,z2⟩:=HX.out.Jg;go_wp2_with fail;have Pg:=eE w4 w2.heap.size 2 (.int .i64 n);have hx:=(HX.out.keeps Pg (by omega)).uS (.string s1) (.string s2) (.int .i64 n);have Np:=kZ (w4.setCell ⟨w2.heap.size,2,none⟩ (.int .i64 n)) w.heap.size (.string s1) (.string s2) (.int .i64 n);refine aF (eH rfl _ _ rfl hx.Kd) rfl ?_;refine⟨⟨s1,s2,n⟩,rfl,⟨HT1.out,HT2.out,C7 n hn⟩,?_,?_,(HK.out.jg Pg (by omega)).jg Np (ag _)⟩
 ·rw [yQ]
  refine fO (f:=fun x:ByteArray × ByteArray × UInt8 × Int=>kj.mk x.1 x.2.1 x.2.2.2) (x:=(s1,s2,_,(n:Int))) (iE ?_ (iE ?_ (iE (ni _) ?_)))
  ·rw [<- ES1.out];exact sY st
  ·rw [<- ES2.out];exact sY _
  ·rw [rK, <- EN.out]
   exact fO (f:=fun n:Nat=>(n:Int)) (nM _)
 ·rw [yQ,fG,hU,hU,hU,rK,fG]
  exact(HH.out.keeps Pg (by omega) (fun i hi=>by omega)).keeps Np (by omega) (fun i hi=>by omega)
theorem Cz (w0 w:World) (R:Nat) (st:gV) (h:fZ w0 w R st):Calls prog 214 (#[.pointer (some ⟨R,0,none⟩)]++#[]) w (Lo (fun x:jr=> .agg #[.string x.name, .int .i64 x.func]) w0 R uP jr.fits st w):=by
 have P3:=h.lt;have Rr:=h.old.2;have HH:=V (h.alloc (.cells #[.string (bs []), .int .i64 0] 75));have HX:=V (eS.new w #[.string (bs []), .int .i64 0] 75);have HK:=V ((ep.refl (fun k=>k=R) w).alloc (.cells #[.string (bs []), .int .i64 0] 75));have Oc:(w.alloc (.cells #[.string (bs []), .int .i64 0] 75)).heap.size=w.heap.size+1:=aC _ _;have Oi:=dm Oc.symm;have HT1:=V (rN h);clear h Oc;go_enter func214,ntmps214;go_wp2_with fail;refine(wz w0 _ R st HH.out).mono ?_;rintro e w2 ⟨rfl,hh,hk⟩;have O1:=aQ Oi hk.size;have HH:=V hh;have HX:=V (HX.out.keeps hk (by omega));have HK:=V (HK.out.trans hk (fun _ h=> .inl h));clear hh hk;obtain⟨s1,es1⟩:∃s,yM st=s:=⟨_,rfl⟩;rw [es1]at HT1;rw [es1];have ES1:=V es1;clear es1;have HY:=V (eS.new w2 #[.string s1, .int .i64 0] 75);have HX:=V (HX.out.alloc (.cells #[.string s1, .int .i64 0] 75));have HK:=V (HK.out.alloc (.cells #[.string s1, .int .i64 0] 75));have HH:=V (HH.out.alloc (.cells #[.string s1, .int .i64 0] 75));go_wp2_with fail;refine(jn w0 _ R _ HH.out).mono ?_;rintro e w3 ⟨rfl,hh,hk⟩;have HH:=V hh;have HX:=V (HX.out.keeps hk (by omega));have HY:=V (HY.out.keeps hk (by omega));have HK:=V (HK.out.trans hk (fun _ h=> .inl h));clear hh hk;go_wp2_with fail;refine(kg w0 w3 R _ HH.out).mono ?_;rintro e w4 ⟨rfl,hh,hk⟩;have HH:=V hh;have HX:=V (HX.out.keeps hk (by omega));have HY:=V (HY.out.keeps hk (by omega));have HK:=V (HK.out.trans hk (fun _ h=> .inl h));clear hh hk;have hn:=mi (eK fp (eK jN st));obtain⟨n,en⟩:∃n,jJ (eK fp (eK jN st))=n:=⟨_,rfl⟩;rw [en]at hn⊢;have EN:=V en;clear en;obtain⟨y0,y1,v0,v1⟩:=HY.out.two;obtain⟨x0,x1,z0,z1⟩:=HX.out.two;go_wp2_with fail;have Pg:=eE w4 w2.heap.size 1 (.int .i64 n);have hx:=(HX.out.keeps Pg (by omega)).nC (.string s1) (.int .i64 n);have Np:=fQ (w4.setCell ⟨w2.heap.size,1,none⟩ (.int .i64 n)) w.heap.size (.string s1) (.int .i64 n);refine aF (eH rfl _ _ rfl hx.KI) rfl ?_;refine⟨⟨s1,n⟩,rfl,⟨HT1.out,C7 n hn⟩,?_,?_,(HK.out.jg Pg (by omega)).jg Np (ag _)⟩
 ·rw [zs]
  refine fO (f:=fun x:ByteArray × UInt8 × Int=>jr.mk x.1 x.2.2) (x:=(s1,_,(n:Int))) (iE ?_ (iE (ni _) ?_))
  ·rw [<- ES1.out];exact sY st
  ·rw [rK, <- EN.out]
   exact fO (f:=fun n:Nat=>(n:Int)) (nM _)
 ·rw [zs,fG,hU,hU,rK,fG]
  exact(HH.out.keeps Pg (by omega) (fun i hi=>by omega)).keeps Np (by omega) (fun i hi=>by omega)
theorem Dc (w0 w:World) (R:Nat) (st:gV) (h:fZ w0 w R st):Calls prog 212 (#[.pointer (some ⟨R,0,none⟩)]++#[]) w (Lo (fun x:jY=> .agg #[.bool x.isVar, .int .i64 x.init.kind, .int .i64 x.init.n]) w0 R qs (fun x=>x.init.ok) st w):=by
 have P3:=h.lt;have Rr:=h.old.2;have HH:=V (h.alloc (.cells #[.bool false, .int .i64 0, .int .i64 0] 73));have HX:=V (eS.new w #[.bool false, .int .i64 0, .int .i64 0] 73);have HK:=V ((ep.refl (fun k=>k=R) w).alloc (.cells #[.bool false, .int .i64 0, .int .i64 0] 73));clear h;go_enter func212,ntmps212;go_wp2_with fail;refine(vq w0 _ R st HH.out).mono ?_;rintro e w1 ⟨rfl,hh,hk⟩;have HH:=V hh;have HX:=V (HX.out.keeps hk (by omega));have HK:=V (HK.out.trans hk (fun _ h=> .inl h));clear hh hk;go_wp2_with fail;refine(jn w0 w1 R _ HH.out).mono ?_;rintro e w2 ⟨rfl,hh,hk⟩;have HH:=V hh;have HX:=V (HX.out.keeps hk (by omega));have HK:=V (HK.out.trans hk (fun _ h=> .inl h));clear hh hk;obtain⟨c,ec⟩:∃c,nn (eK gT st)=c:=⟨_,rfl⟩;rw [ec];have EC:=V ec;clear ec;go_wp2_with fail;refine(yr w0 w2 R _ HH.out).mono ?_;rintro e w3 ⟨v,rfl,Nt,hw,hh,hk⟩;have Oj:=V Nt;have HW:=V hw;clear Nt hw;have HH:=V hh;have HX:=V (HX.out.keeps hk (by omega));have HK:=V (HK.out.trans hk (fun _ h=> .inl h));clear hh hk;obtain⟨x0,x1,x2,z0,z1,z2⟩:=HX.out.Jg;obtain⟨b,eb⟩:∃b,((c.toNat:Int) !=0)=b:=⟨_,rfl⟩;rw [eb];have EB:Hid ((c !=0)=b):=V (by
  rw [<- eb,dD];simp only [bne_iff_ne,ne_eq];refine not_congr ⟨fun h=>by rw [h];rfl,fun h=>dC.1 (by show c.toNat=0;omega)⟩)
 clear eb;go_wp2_with fail;have hx:=HX.out.uS (.bool b) (.int .i64 v.kind) (.int .i64 v.n);have Np:=kZ w3 w.heap.size (.bool b) (.int .i64 v.kind) (.int .i64 v.n);refine aF (eH rfl _ _ rfl hx.Gi) rfl ?_;refine⟨⟨b,v⟩,rfl,Oj.out,?_,?_,HK.out.jg Np (ag _)⟩
 ·rw [vE, <- EB.out, <- EC.out]
  exact fO (f:=fun x:Int × UInt8 × fi=>jY.mk (x.2.1 !=0) x.2.2) (iE (yB st) (iE (ni _) HW.out))
 ·rw [vE,fG,hU,hU]
  exact HH.out.keeps Np (by omega) (fun i hi=>by omega)
end Go.Proofs.YtjmeglibedbljaaGreatDoor
