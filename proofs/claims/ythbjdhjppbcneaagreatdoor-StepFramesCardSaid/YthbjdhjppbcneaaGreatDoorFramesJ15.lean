import Derived.Test.YthbjdhjppbcneaaGreatDoorFramesJ14
namespace Go.Proofs.YthbjdhjppbcneaaGreatDoor
set_option maxRecDepth 100000
set_option maxHeartbeats 20000000
open Go.RowKit Tryz
open Lib renaming hid->V
set_option linter.all false
theorem wj (w:World) (v:fa):eg 2 gb (w.alloc (.cells #[.int .i64 v.kind, .int .i64 v.n] 42)) (.slice (some ⟨w.heap.size,0,none⟩) 1 1) [v]:=by
 refine⟨_,1,rfl,ag _,by simp [maxLen],fun i y hy=>⟨w.heap.size,0,rfl,by simp,fun j x hx=>?_⟩⟩;rw [bQ]
 match i,hy with
 | 0,hy=>
  simp at hy;subst hy
  match j,hx with
  | 0,hx | 1,hx=>simp [gb]at hx;subst hx;rfl
  | j+2,hx=>simp [gb]at hx
 | i+1,hy=>simp at hy
theorem Cx (w:World) (v:kR):eg 2 kp (w.alloc (.cells #[.int .i64 v.pos, .int .i64 v.eM] 46)) (.slice (some ⟨w.heap.size,0,none⟩) 1 1) [v]:=by
 refine⟨_,1,rfl,ag _,by simp [maxLen],fun i y hy=>⟨w.heap.size,0,rfl,by simp,fun j x hx=>?_⟩⟩;rw [bQ]
 match i,hy with
 | 0,hy=>
  simp at hy;subst hy
  match j,hx with
  | 0,hx | 1,hx=>simp [kp]at hx;subst hx;rfl
  | j+2,hx=>simp [kp]at hx
 | i+1,hy=>simp at hy
theorem zX (w:World) (f:eV) (u x:Value) (hf:f.ok) (hu:eg 2 gb w u f.locals) (hx:eg 2 kp w x f.labels):
  fY (w.alloc (.cells #[.int .i64 f.fn, .int .i64 f.pc,u, .int .i64 f.base,x] 40)) (.slice (some ⟨w.heap.size,0,none⟩) 1 1) [f]:=by
 have hb:=(an w.heap.size w).alloc (ag _) (.cells #[.int .i64 f.fn, .int .i64 f.pc,u, .int .i64 f.base,x] 40);refine⟨[(u,x)],rfl,⟨_,1,rfl,ag _,by simp [maxLen],fun i y hy=>⟨w.heap.size,0,rfl,by simp,fun j v hv=>?_⟩⟩,fun i e v he hv=>?_,fun e he=>?_⟩
 ·rw [bQ]
  match i,hy with
  | 0,hy=>
   simp at hy;subst hy
   match j,hv with
   | 0,hv | 1,hv | 2,hv | 3,hv | 4,hv=>simp [lZ]at hv;subst hv;rfl
   | j+5,hv=>simp [lZ]at hv
  | i+1,hy=>simp at hy
 ·match i,he,hv with
  | 0,he,hv=>
   simp at he hv;subst he hv;exact⟨hu.below hb,hx.below hb⟩
  | i+1,he,hv=>simp at he
 ·simp at he
  rw [he];exact hf
def JO:gL:=⟨[⟨1,-5⟩],[⟨2,7,[⟨2,0⟩],0,[⟨1,1⟩]⟩],-1⟩
theorem Bo:JO.ok:=by
 refine⟨⟨by decide,by decide⟩,fun v hv=>?_,fun f hf=>?_⟩
 ·obtain rfl:=aV.1 hv
  exact⟨⟨by decide,by decide⟩,by decide,by decide⟩
 ·obtain rfl:=aV.1 hf
  refine⟨⟨by decide,by decide⟩,⟨by decide,by decide⟩,⟨by decide,by decide⟩,fun v hv=>?_,fun v hv=>?_⟩
  ·obtain rfl:=aV.1 hv
   exact⟨⟨by decide,by decide⟩,by decide,by decide⟩
  ·obtain rfl:=aV.1 hv
   exact⟨⟨by decide,by decide⟩,by decide,by decide⟩
theorem Hs:JO.may:=by decide
theorem uu (w:World):Calls prog 40 #[] w (ko w):=by
 obtain⟨s,hs⟩:∃s,s=JO:=⟨_,rfl⟩;have HM:=V (show s.may by rw [hs];exact Hs);have LH:=V (show s.ok by rw [hs];exact Bo);have HSE:=V hs;have Na:s.asks= -1:=by rw [hs];rfl
 clear hs;go_enter func40,ntmps40;go_wp2_with fail;obtain⟨w1,Ps⟩:∃w1,w1=w.alloc (.cells #[.int .i64 1, .int .i64 (-5)] 42):=⟨_,rfl⟩;obtain⟨w2,MV⟩:∃w2,w2=w1.alloc (.cells #[.int .i64 2, .int .i64 0] 42):=⟨_,rfl⟩;obtain⟨w3,hw3⟩:∃w3,w3=w2.alloc (.cells #[.int .i64 1, .int .i64 1] 46):=⟨_,rfl⟩;have LZ:w1.heap.size=w.heap.size+1:=by rw [Ps];exact aE _ _
 have KG:w2.heap.size=w.heap.size+1+1:=by rw [MV,aE,LZ]
 have Md:w3.heap.size=w.heap.size+1+1+1:=by rw [hw3,aE,KG]
 obtain⟨w4,hw4⟩:∃w4,w4=w3.alloc (.cells #[.int .i64 2, .int .i64 7, .slice (some ⟨w.heap.size+1,0,none⟩) 1 1, .int .i64 0, .slice (some ⟨w.heap.size+1+1,0,none⟩) 1 1] 40):=⟨_,rfl⟩;have Mb:w4.heap.size=w.heap.size+1+1+1+1:=by rw [hw4,aE,Md]
 have h1:eg 2 gb w1 (.slice (some ⟨w.heap.size,0,none⟩) 1 1) [⟨1,-5⟩]:=by rw [Ps];exact wj w ⟨1,-5⟩
 have h2:eg 2 gb w2 (.slice (some ⟨w.heap.size+1,0,none⟩) 1 1) [⟨2,0⟩]:=by rw [MV, <- LZ];exact wj w1 ⟨2,0⟩
 have h3:eg 2 kp w3 (.slice (some ⟨w.heap.size+1+1,0,none⟩) 1 1) [⟨1,1⟩]:=by rw [hw3, <- KG];exact Cx w2 ⟨1,1⟩
 have b1:Below w.heap.size w w1:=by rw [Ps];exact(an _ _).alloc (ag _) _
 have b2:Below w1.heap.size w1 w2:=by rw [MV];exact(an _ _).alloc (ag _) _
 have b3:Below w2.heap.size w2 w3:=by rw [hw3];exact(an _ _).alloc (ag _) _
 have b4:Below w3.heap.size w3 w4:=by rw [hw4];exact(an _ _).alloc (ag _) _
 have h4:fY w4 (.slice (some ⟨w.heap.size+1+1+1,0,none⟩) 1 1) [⟨2,7,[⟨2,0⟩],0,[⟨1,1⟩]⟩]:=by
  rw [hw4, <- Md];exact zX w3 ⟨2,7,[⟨2,0⟩],0,[⟨1,1⟩]⟩ _ _ (Bo.2.2 _ (by simp [JO])) (h2.below b3) h3
 have b14:Below w1.heap.size w1 w4:=dY (dY b2 b3) b4;have hst4:jA w4 (.slice (some ⟨w.heap.size,0,none⟩) 1 1) (.slice (some ⟨w.heap.size+1+1+1,0,none⟩) 1 1) s:=by
  rw [HSE.out];exact⟨h1.below b14,h4,Bo⟩
 have Mr:Below w.heap.size w w4:=dY b1 b14;have Pf:=eG.new w4 #[.slice (some ⟨w.heap.size,0,none⟩) 1 1, .slice (some ⟨w.heap.size+1+1+1,0,none⟩) 1 1, .int .i64 (-1)] 37;have b5:=(an w4.heap.size w4).alloc (ag _) (.cells #[.slice (some ⟨w.heap.size,0,none⟩) 1 1, .slice (some ⟨w.heap.size+1+1+1,0,none⟩) 1 1, .int .i64 (-1)] 37);rw [Mb]at Pf;rw [<- Ps, <- MV, <- hw3, <- hw4];have KS:=hst4.below b5;have hb:=dY Mr b5;clear h1 h2 h3 h4 b1 b2 b3 b4 b14 hst4 Mr b5 LZ KG Md Mb Ps MV hw3 hw4;obtain⟨X,hX⟩:∃X,w.heap.size+1+1+1+1=X:=⟨_,rfl⟩;obtain⟨D,hD⟩:∃D,w.heap.size+1+1+1=D:=⟨_,rfl⟩;rw [hX,hD]at Pf⊢;rw [hD]at KS hb;clear hX hD;generalize w4.alloc (.cells #[.slice (some ⟨w.heap.size,0,none⟩) 1 1, .slice (some ⟨D,0,none⟩) 1 1, .int .i64 (-1)] 37)=w0 at KS hb Pf⊢;have Ky:=V KS;have HX:=V Pf;have E1:=mf _ _ s w0 KS;rw [Na]at E1;have E1:=V E1;clear KS Pf;refine E1.out.mono ?_;rintro x w5 ⟨c,rfl,Ly,hc⟩;rcases hc with⟨-,hc⟩ | ⟨h,-⟩;rotate_left
 ·exact absurd HM.out h
 obtain⟨Mj,Lj⟩:=Bj HM.out LH.out;obtain⟨C,hC⟩:∃C,C=iP s:=⟨_,rfl⟩;rw [<- hC]at hc Mj Lj;have HCI:=V hc.fp;have HC:=V hC;have Ky:=V (Ky.out.below Ly);have HX:=V (HX.out.below Ly HX.out.lt);replace hb:=dY hb Ly;have O8:C.length <=400000:=by omega
 clear Ly hc hC E1 Mj Lj;go_wp2_with fail;refine(qM _ _ _ HCI.out O8).mono ?_;rintro x w6 ⟨Ny,uv2,uf2,s2,err,rfl,hst2,hd⟩;rcases hd with⟨rfl,hm2,heq⟩ | ⟨-,-,h⟩;rotate_left
 ·exact absurd ⟨s,HM.out,LH.out,HC.out.symm⟩ h
 obtain rfl:=Bp hm2 hst2.2.2 HM.out LH.out (heq.trans HC.out);obtain⟨Mf,hf2,-⟩:=id hst2;obtain⟨Pd,NP,rfl,_,_,_⟩:=Mf;obtain⟨af2,NQ,rfl,_,_⟩:=hf2.slice;rw [Na];have N4:=eG.new w6 #[.slice Pd s2.dZ.length NP, .slice af2 s2.eh.length NQ, .int .i64 (-1)] 37;have MK:=(an w6.heap.size w6).alloc (ag _) (.cells #[.slice Pd s2.dZ.length NP, .slice af2 s2.eh.length NQ, .int .i64 (-1)] 37);have b6:=dY Ny MK;have Ky:=V (Ky.out.below b6);have HX:=V (HX.out.below b6 HX.out.lt);have L7:=V (hst2.below MK);replace hb:=dY hb b6;clear b6 Ny MK hm2 heq hst2 HCI HC O8 hf2;go_wp2_with fail;obtain⟨X2,hX2⟩:∃X2,X2=w6.heap.size:=⟨_,rfl⟩;rw [<- hX2]at N4⊢;clear hX2;have KI:=V N4;clear N4;generalize w6.alloc (.cells #[.slice Pd s2.dZ.length NP, .slice af2 s2.eh.length NQ, .int .i64 (-1)] 37)=w7 at hb Ky HX L7 KI⊢;refine(qM _ [] _ (eJ.nil _) (by simp)).mono ?_;rintro x w8 ⟨hb8,uv3,uf3,s3,err,rfl,hst3,hd⟩;rcases hd with⟨-,-,heq⟩ | ⟨rfl,rfl,-⟩
 ·exact absurd heq (vN s3)
 obtain⟨hv3,hf3,-⟩:=id hst3;obtain⟨av3,capv3,rfl,_,_,_⟩:=hv3;obtain⟨af3,capf3,rfl,_,_⟩:=hf3.slice;clear hf3 hst3;have MK:=(an w8.heap.size w8).alloc (ag _) (.cells #[.slice av3 ([]:List fa).length capv3, .slice af3 ([]:List eV).length capf3, .int .i64 0] 37);have b8:=dY hb8 MK;have Ky:=V (Ky.out.below b8);have HX:=V (HX.out.below b8 HX.out.lt);have L7:=V (L7.out.below b8);have KI:=V (KI.out.below b8 KI.out.lt);replace hb:=dY hb b8;obtain⟨x0,x1,x2⟩:=HX.out.three;clear b8 hb8 MK;simp only [aK]at*;go_wp2_with fail;clear x0 x1 x2;generalize w8.alloc (.cells #[.slice av3 0 capv3, .slice af3 0 capf3, .int .i64 0] 37)=w9 at hb Ky HX L7 KI⊢;have MN:s2.dZ.length=1:=by rw [HSE.out];rfl
 have hfl:s2.eh.length=1:=by rw [HSE.out];rfl
 have E2:=uW _ _ s2 w9 Ky.out (by omega) (by omega) (by rw [HSE.out];intro f hf;obtain rfl:=aV.1 hf;exact⟨by decide,by decide⟩);rw [Na]at E2;have E2:=V E2;refine E2.out.mono ?_;clear E2;rintro x w10 ⟨uv4,uf4,M,rfl,hb10,hM1,hM2,QN,hovM,Pq⟩;rw [Na];have P4:=HX.out.lt;have hXl2:=KI.out.lt;obtain⟨g,N5,cur,rfl,OJ,M7,hg3,hc4,hm4⟩:=QN.open (by intro h;rw [h]at MN;simp at MN);obtain⟨af4,Nd,rfl,_,_⟩:=Pq.jX.slice;have Mv:s2.dZ[0]?=some ⟨1,-5⟩:=by rw [HSE.out];rfl
 have hgM:g < M:=hovM g rfl;have fl:((s2.dZ.length:Int) !=(1:Int))=false:=jN (by omega);have Pj:0 < s2.dZ.length:=by omega
 have MK:=(an w10.heap.size w10).alloc (ag _) (.cells #[.slice (some ⟨g,0,none⟩) s2.dZ.length N5, .slice af4 s2.eh.length Nd, .int .i64 (-1)] 37);have hx6:=eG.new w10 #[.slice (some ⟨g,0,none⟩) s2.dZ.length N5, .slice af4 s2.eh.length Nd, .int .i64 (-1)] 37;have hovb:=QN.below MK;have hcfb:=Pq.keeps (dU.dW (S:=fun _=>False) MK) (fun i h=>h.elim);have bwb:=dY hb10 MK;have hg3b:(w10.alloc (.cells #[.slice (some ⟨g,0,none⟩) s2.dZ.length N5, .slice af4 s2.eh.length Nd, .int .i64 (-1)] 37)).heap[g]?=some (.cells cur 42):=(MK.block g M7).trans hg3;have c1:(w10.alloc (.cells #[.slice (some ⟨g,0,none⟩) s2.dZ.length N5, .slice af4 s2.eh.length Nd, .int .i64 (-1)] 37)).cell? ⟨g,1,none⟩=some (.int .i64 (-5)):=hovb.cell fK (i:=0) (j:=1) Mv rfl;have z1:(w10.alloc (.cells #[.slice (some ⟨g,0,none⟩) s2.dZ.length N5, .slice af4 s2.eh.length Nd, .int .i64 (-1)] 37)).frozen? ⟨g,1,none⟩=false:=cY _ g 1 cur _ hg3b;have hbs:=jb w10 g 1 (.int .i64 (-4));have hov9:=QN.set fK (i:=0) (j:=1) (u:= .int .i64 (-4)) (y:=⟨1,-4⟩) Mv (by omega) rfl;have Lr:(w10.setCell ⟨g,1,none⟩ (.int .i64 (-4))).heap.size=w10.heap.size:=by simp
 have hals:=(an (w10.setCell ⟨g,1,none⟩ (.int .i64 (-4))).heap.size (w10.setCell ⟨g,1,none⟩ (.int .i64 (-4)))).alloc (ag _) (.cells #[.slice (some ⟨g,0,none⟩) s2.dZ.length N5, .slice af4 s2.eh.length Nd, .int .i64 (-1)] 37);have hx6':eG ((w10.setCell ⟨g,1,none⟩ (.int .i64 (-4))).alloc (.cells #[.slice (some ⟨g,0,none⟩) s2.dZ.length N5, .slice af4 s2.eh.length Nd, .int .i64 (-1)] 37)) w10.heap.size #[.slice (some ⟨g,0,none⟩) s2.dZ.length N5, .slice af4 s2.eh.length Nd, .int .i64 (-1)] 37:=by
  have:=eG.new (w10.setCell ⟨g,1,none⟩ (.int .i64 (-4))) #[.slice (some ⟨g,0,none⟩) s2.dZ.length N5, .slice af4 s2.eh.length Nd, .int .i64 (-1)] 37;rw [Lr]at this;exact this
 have bwx:=(hb10.trans (hbs.below hb10.size (fun i h=>by omega))).trans (hals.mono (by rw [Lr];exact hb10.size));have HOV:=V (hov9.below hals);have HCF:=V ((Pq.keeps hbs (fun i h=>by omega)).keeps (dU.dW (S:=fun _=>False) hals) (fun i h=>h.elim));have Qx:=V hx6';have Lb:=V bwx;have HVL:=V MN;obtain⟨p0,p1,p2⟩:=hx6.three;obtain⟨x0,x1,x2⟩:=(HX.out.below bwx P4).three;clear QN Pq hovb hcfb hovM MK hg3 hb10 Mv hov9 MN hfl bwb bwx hg3b hx6' hx6 hbs hals Lr;unfold maxLen at hm4;go_wp2_with fail;obtain⟨X6,hX6⟩:∃X6,X6=w10.heap.size:=⟨_,rfl⟩;rw [<- hX6]at Qx⊢;clear hX6 c1 z1 p0 p1 p2 x0 x1 x2;generalize(w10.setCell ⟨g,1,none⟩ (.int .i64 (-4))).alloc (.cells #[.slice (some ⟨g,0,none⟩) s2.dZ.length N5, .slice af4 s2.eh.length Nd, .int .i64 (-1)] 37)=P5 at HOV HCF Qx Lb⊢;have Ky:=V (Ky.out.below Lb.out);have HX:=V (HX.out.below Lb.out HX.out.lt);have L7:=V (L7.out.below Lb.out);have KI:=V (KI.out.below Lb.out KI.out.lt);have HSC:=V (show jA P5 (.slice (some ⟨g,0,none⟩) s2.dZ.length N5) (.slice af4 s2.eh.length Nd) ⟨s2.dZ.set 0 ⟨1,-4⟩,s2.eh,-1⟩from
  ⟨HOV.out.fy fK,HCF.out.jX,⟨by show(-9223372036854775808:Int) <= -1;omega,by show(-1:Int) <=9223372036854775807;omega⟩,by
   show∀v∈s2.dZ.set 0 ⟨1,-4⟩,v.ok;rw [HSE.out];intro v hv;obtain rfl:=aV.1 (show v∈[(⟨1,-4⟩:fa)]from hv);exact⟨⟨by decide,by decide⟩,by decide,by decide⟩,LH.out.2.2⟩)
 replace hb:=dY hb Lb.out;clear HOV HCF Lb OJ M7 hgM hM1 hM2 hc4 hm4 fl Pj P4 hXl2;have E:=oB _ _ s2 P5 Ky.out;rw [Na]at E;have E:=V E;refine E.out.mono ?_;clear E;rintro x w12 ⟨rfl,KT⟩;have Ky:=V (Ky.out.below KT);have HX:=V (HX.out.below KT HX.out.lt);have L7:=V (L7.out.below KT);have KI:=V (KI.out.below KT KI.out.lt);have HSC:=V (HSC.out.below KT);have Qx:=V (Qx.out.below KT Qx.out.lt);replace hb:=dY hb KT;clear KT;rw [aA HM.out];obtain⟨x0,x1,x2⟩:=HX.out.three;go_wp2_with fail;refine(oB _ _ ⟨[],[],-2⟩ w12 ⟨eg.nil _,fY.nil _,⟨by show(-9223372036854775808:Int) <= -2;omega,by show(-2:Int) <=9223372036854775807;omega⟩,by simp,by simp⟩).mono ?_;rintro x w13 ⟨rfl,KT⟩;rw [az (show ¬ (⟨[],[],-2⟩:gL).may from fun h=>by have:(-1:Int) <= -2:=h.2.2.1;omega)];clear x0 x1 x2;have Ky:=V (Ky.out.below KT);have HX:=V (HX.out.below KT HX.out.lt);have L7:=V (L7.out.below KT);have KI:=V (KI.out.below KT KI.out.lt);have HSC:=V (HSC.out.below KT);have Qx:=V (Qx.out.below KT Qx.out.lt);replace hb:=dY hb KT;clear KT;obtain⟨x0,x1,x2⟩:=HX.out.three;obtain⟨y0,y1,y2⟩:=KI.out.three;go_wp2_with fail;have E:=sg _ _ _ _ s2 s2 w13 L7.out Ky.out;rw [Na]at E;have E:=V E;refine E.out.mono ?_;clear E;rintro x w14 ⟨r,rfl,hr,KT⟩;obtain rfl:=hr.2 rfl;clear hr x0 x1 x2 y0 y1 y2;have Ky:=V (Ky.out.below KT);have HX:=V (HX.out.below KT HX.out.lt);have L7:=V (L7.out.below KT);have KI:=V (KI.out.below KT KI.out.lt);have HSC:=V (HSC.out.below KT);have Qx:=V (Qx.out.below KT Qx.out.lt);replace hb:=dY hb KT;clear KT;obtain⟨x0,x1,x2⟩:=HX.out.three;obtain⟨y0,y1,y2⟩:=Qx.out.three;go_wp2_with fail;have E:=sg _ _ _ _ ⟨s2.dZ.set 0 ⟨1,-4⟩,s2.eh,-1⟩ s2 w14 HSC.out Ky.out;rw [Na]at E;have E:=V E;refine E.out.mono ?_;clear E;rintro x w15 ⟨r,rfl,hr,KT⟩;obtain rfl:r=false:=by
  cases r
  ·rfl
  ·have:=hr.1 rfl
   rw [HSE.out]at this;exact absurd this (by decide)
 clear hr x0 x1 x2 y0 y1 y2;have Ky:=V (Ky.out.below KT);have HX:=V (HX.out.below KT HX.out.lt);have L7:=V (L7.out.below KT);have KI:=V (KI.out.below KT KI.out.lt);have HSC:=V (HSC.out.below KT);have Qx:=V (Qx.out.below KT Qx.out.lt);replace hb:=dY hb KT;clear KT;go_wp2_with fail;go_ret;exact⟨rfl,hb⟩
theorem iT.new {w:World} {FX:Nat ->Bool} {X:Nat} {iv:pG} {m:ez} (h:jg w FX X iv m) (n:Int):
  iT (w.alloc (.cells #[.slice none 0 0, .slice none 0 0, .int .i64 n] 37)) (fun g=>decide (g < w.heap.size)) FX X w.heap.size iv m [] [] 37 ⟨[],[],n⟩:=by
 have hb:=(an w.heap.size w).alloc (ag _) (.cells #[.slice none 0 0, .slice none 0 0, .int .i64 n] 37);refine⟨⟨⟨.slice none 0 0, .slice none 0 0,[]⟩,⟨eG.new w _ _,dT.nil _ _,dT.nil _ _,trivial,by simp,List.Pairwise.nil,by decide⟩,fun g hg=>?_⟩,h.below hb,fun g hg=>by simp [h.lt g hg],fun g hg=>?_⟩
 ·rcases hg with rfl | hg | hg | ⟨u,hu,-⟩
  ·simp
  ·cases hg
  ·cases hg
  ·cases hu
 ·simp only [dm]at hg
  rw [aE];omega
theorem BN (w:World) (n:Int):Calls prog 12 #[.int .i64 n] w (jn (.agg #[.int .i64 1, .int .i64 n]) w):=by
 have hb:=(an w.heap.size w).alloc (ag _) (.cells #[.int .i64 1, .int .i64 n] 42);have HX:=V (eG.new w #[.int .i64 1, .int .i64 n] 42);have HB:=V hb;clear hb;go_enter func12,ntmps12;go_wp2_with fail;refine aM (ey rfl _ _ rfl HX.out.mq) rfl ?_;exact⟨rfl,HB.out⟩
theorem xy (w:World) (p:Value) (b:Nat) (n a:Int) (h:w.cell? ⟨b,2,none⟩=some (.int .i64 n)) (hn:n < 0):Calls prog 15 #[p, .pointer (some ⟨b,0,none⟩), .int .i64 a] w (jn (.bool false) w):=by
 have f1:decide (n < 0)=true:=aA hn;clear hn;go_enter func15,ntmps15;go_wp2_with fail;go_ret;exact⟨rfl,an _ _⟩
theorem zl (w:World):Calls prog 14 #[] w (ko w):=by
 go_enter func14,ntmps14;go_wp2_with fail;refine(uu w).mono ?_;rintro x w1 ⟨rfl,hb⟩;go_wp2_with fail;go_ret;exact⟨rfl,hb⟩
theorem GN:lW (fg 0 gX) 0 ⟨[1,1],[1]⟩:= .inr ⟨0,0,rfl,rfl,rfl⟩
theorem zk (w:World):Calls prog 6 #[] w (ko w):=by
 have HF:=V oQ;go_enter func6,ntmps6;go_wp2_with fail;refine(iK w).mono ?_;rintro x w1 ⟨rfl,hs,hb,-⟩;have HB:=V hb;have HI:=V (hs.is (hs.body 3 (ag _)) (by simp [iI]));clear hs hb;go_wp2_with fail;refine(lU (fg 0 gX) (ia w.heap.size) _ HI.out (kP _ _) (fun c hc=>fun x hx=>((iq 0 gX lq c hc).2 x hx).2) (by decide) rfl).mono ?_;rintro x w2 ⟨hb,⟨hr,-⟩ | ⟨-,hr,-⟩ | ⟨X,FX,_,_,iv,_,-,-,rfl,Li,-,-,-,-⟩⟩
 ·exact absurd HF.out.1 hr
 ·exact absurd (sv.symm.trans hr) (by simp)
 have HB:=V (dY HB.out hb);obtain⟨m,Ox⟩:∃m,m=fg 0 gX:=⟨_,rfl⟩;rw [<- Ox]at Li;have HC:=V (show m.ej[0]?=some ⟨[],gX⟩by rw [Ox];rfl);have HTY:=V (show lW m 0 ⟨[1,1],[1]⟩by rw [Ox];exact GN);have PZ:=V (show m.imports.length=0/\m.funcs.length=1 by rw [Ox];exact⟨rfl,rfl⟩);have HR:=V (iT.new Li (-1));obtain⟨F,hF⟩:∃F:Nat ->Bool,F=fun g=>decide (g < w2.heap.size):=⟨_,rfl⟩;rw [<- hF]at HR;have P9:=V (show∀i,F i=false ->w.heap.size <=i by
  intro i hi;rw [hF]at hi;have:=of_decide_eq_false hi;have:=HB.out.size;omega)
 have KJ:=(an w2.heap.size w2).alloc (ag _) (.cells #[.slice none 0 0, .slice none 0 0, .int .i64 (-1)] 37);have HB:=V (dY HB.out KJ);obtain⟨b,L9⟩:∃b,b=w2.heap.size:=⟨_,rfl⟩;rw [<- L9]at HR;clear Ox Li hb HI hF KJ;go_wp2_with fail;rw [<- L9];clear L9;refine(BN _ 2).mono ?_;rintro x w3 ⟨rfl,hb⟩;have HR:=V (iT.below HR.out hb);have HB:=V (dY HB.out hb);clear hb;go_wp2_with fail;refine(BN _ 3).mono ?_;rintro x w4 ⟨rfl,hb⟩;have HR:=V (iT.below HR.out hb);have HB:=V (dY HB.out hb);clear hb;have hb:=(an w4.heap.size w4).alloc (ag _) (.cells #[.int .i64 1, .int .i64 2, .int .i64 1, .int .i64 3] 42);have HR:=V (iT.below HR.out hb);have HB:=V (dY HB.out hb);clear hb;have HA:=V ((eG.new w4 #[.int .i64 1, .int .i64 2, .int .i64 1, .int .i64 3] 42).rws fK [⟨1,2⟩,⟨1,3⟩] [] rfl 2 (ag _) (by decide));go_wp2_with fail;have E:=iT.call _ F FX X b iv m [] [] _ _ HR.out 0 ⟨[],gX⟩ ⟨[1,1],[1]⟩ 0 [⟨1,2⟩,⟨1,3⟩] _ HC.out (by rw [PZ.out.1];rfl) HTY.out (by rw [PZ.out.1,PZ.out.2];decide) (by decide) (by decide) HA.out (by decide) (by decide) (by decide);rw [show nn (([1,1]:List Int)++[]) ⟨[],[],-1⟩ 0 [⟨1,2⟩,⟨1,3⟩]=(iV.more,⟨[],[⟨0,0,[⟨1,2⟩,⟨1,3⟩],0,[]⟩],-1⟩)from rfl]at E;refine bV E ?_;clear E;rintro x w5 ⟨vv,rfl,KH,Oe,hk⟩;obtain⟨av,cv,rfl,-,-⟩:=Oe.slice;have HB:=V (HB.out.trans (hk.below HB.out.size P9.out));have hb:=(an w5.heap.size w5).alloc (ag _) (.cells #[.int .i64 1, .int .i64 0, .int .i64 0, .slice av 0 cv] 32);have HR:=V (KH.add hb w5.heap.size (ag _) (by simp));have HY:=V (eG.new w5 #[.int .i64 1, .int .i64 0, .int .i64 0, .slice av 0 cv] 32);have HL5:=V (show w.heap.size <=w5.heap.size from HB.out.size);have HFX:=V (show FX w5.heap.size=false by
  cases hf:FX w5.heap.size with
  | false=>rfl
  | true=>have:=KH.inst.lt _ hf;omega)
 obtain⟨F',Qy⟩:∃F':Nat ->Bool,F'=fun g=>F g || decide (g=w5.heap.size):=⟨_,rfl⟩;rw [<- Qy]at HR;have P9:=V (show∀i,F' i=false ->w.heap.size <=i by
  intro i hi;rw [Qy,dq]at hi;exact P9.out i hi.1)
 have Qz:=V (show F' w5.heap.size=true by rw [Qy];simp);have HB:=V (dY HB.out hb);clear Oe hk KH hb Qy HA;simp only [nd,iV.more,aK];obtain⟨g1,cp1,q1,-,-,-,-⟩:=iT.c1 (lo:=[]) HR.out;have q1':World.cell? _ ⟨b,1,none⟩=some (.slice (some ⟨g1,0,none⟩) 1 cp1):=q1;clear q1;go_wp2_with fail;refine cU 4 ?_;rw [cN];clear q1';go_wp2_with fail;have E:=iT.local _ F' FX X b iv m [] [] _ [] [] ⟨0,0,[⟨1,2⟩,⟨1,3⟩],0,[]⟩ (-1) 0 0 ⟨[],gX⟩ HR.out HC.out (by rw [PZ.out.1];rfl) (by rw [PZ.out.1];decide) rfl 0 ⟨1,2⟩ rfl rfl (by decide) (by decide);rw [show jo [] [⟨1,2⟩] ⟨[],[]++[⟨0,0,[⟨1,2⟩,⟨1,3⟩],0,[]⟩],-1⟩ [] ⟨0,0,[⟨1,2⟩,⟨1,3⟩],0,[]⟩=(iV.more,⟨[⟨1,2⟩],[⟨0,1,[⟨1,2⟩,⟨1,3⟩],0,[]⟩],-1⟩)from rfl]at E;refine bV E ?_;clear E;rintro x w6 ⟨vv,rfl,KH,Oe,hk⟩;obtain⟨a6,c6,rfl,-,-⟩:=Oe.slice;have HR:=V KH;have HB:=V (HB.out.trans (hk.below HB.out.size P9.out));have HY:=V (HY.out.keeps hk (by simp [Qz.out]));clear Oe hk KH;simp only [nd,iV.more,aK];obtain⟨⟨y0,y1,y2,y3⟩,z0,z1,z2,z3⟩:=HY.out.four;go_wp2_with fail;clear y0 y1 y2 y3 z0 z1 z2 z3;obtain⟨w7,hw⟩:∃wx,wx=ll w6 w5.heap.size 1 0 0 (.slice a6 0 c6):=⟨_,rfl⟩;have HR:=V (show iT w7 F' FX X b iv m [] [] _ _ by rw [hw];exact HR.out.keeps (gy w6 w5.heap.size 1 0 0 (.slice a6 0 c6)) (fun g hg=>by rw [hg];exact⟨HFX.out, .inl Qz.out⟩));have HY:=V (show eG w7 w5.heap.size _ _ by rw [hw];exact HY.out.ry (.int .i64 1) (.int .i64 0) (.int .i64 0) (.slice a6 0 c6));have HB:=V (show Below w.heap.size w w7 by rw [hw];exact HB.out.trans ((gy w6 w5.heap.size 1 0 0 (.slice a6 0 c6)).below HB.out.size (fun i hi=>by rw [hi];exact HL5.out)));unfold ll at hw;rw [<- hw];clear hw;rw [cN];go_wp2_with fail;have E:=iT.local _ F' FX X b iv m [] [] _ [⟨1,2⟩] [] ⟨0,1,[⟨1,2⟩,⟨1,3⟩],0,[]⟩ (-1) 0 1 ⟨[],gX⟩ HR.out HC.out (by rw [PZ.out.1];rfl) (by rw [PZ.out.1];decide) rfl 1 ⟨1,3⟩ rfl rfl (by decide) (by decide);rw [show jo [⟨1,2⟩] [⟨1,3⟩] ⟨[⟨1,2⟩],[]++[⟨0,1,[⟨1,2⟩,⟨1,3⟩],0,[]⟩],-1⟩ [] ⟨0,1,[⟨1,2⟩,⟨1,3⟩],0,[]⟩=(iV.more,⟨[⟨1,2⟩,⟨1,3⟩],[⟨0,2,[⟨1,2⟩,⟨1,3⟩],0,[]⟩],-1⟩)from rfl]at E;refine bV E ?_;clear E;rintro x w8 ⟨vv,rfl,KH,Oe,hk⟩;obtain⟨a8,c8,rfl,-,-⟩:=Oe.slice;have HR:=V KH;have HB:=V (HB.out.trans (hk.below HB.out.size P9.out));have HY:=V (HY.out.keeps hk (by simp [Qz.out]));clear Oe hk KH;simp only [nd,iV.more,aK];obtain⟨⟨y0,y1,y2,y3⟩,z0,z1,z2,z3⟩:=HY.out.four;go_wp2_with fail;clear y0 y1 y2 y3 z0 z1 z2 z3;obtain⟨w9,hw⟩:∃wx,wx=ll w8 w5.heap.size 1 0 0 (.slice a8 0 c8):=⟨_,rfl⟩;have HR:=V (show iT w9 F' FX X b iv m [] [] _ _ by rw [hw];exact HR.out.keeps (gy w8 w5.heap.size 1 0 0 (.slice a8 0 c8)) (fun g hg=>by rw [hg];exact⟨HFX.out, .inl Qz.out⟩));have HY:=V (show eG w9 w5.heap.size _ _ by rw [hw];exact HY.out.ry (.int .i64 1) (.int .i64 0) (.int .i64 0) (.slice a8 0 c8));have HB:=V (show Below w.heap.size w w9 by rw [hw];exact HB.out.trans ((gy w8 w5.heap.size 1 0 0 (.slice a8 0 c8)).below HB.out.size (fun i hi=>by rw [hi];exact HL5.out)));unfold ll at hw;rw [<- hw];clear hw;rw [cN];go_wp2_with fail;have E:=iT.Kn _ F' FX X b iv m [] [] _ [] [] ⟨0,2,[⟨1,2⟩,⟨1,3⟩],0,[]⟩ (-1) 0 2 ⟨[],gX⟩ HR.out HC.out (by rw [PZ.out.1];rfl) (by rw [PZ.out.1];decide) rfl rfl (by decide) (by decide);rw [show uN [] ⟨1,5⟩ 0 ⟨[]++[⟨1,2⟩,⟨1,3⟩],[]++[⟨0,2,[⟨1,2⟩,⟨1,3⟩],0,[]⟩],-1⟩ [] ⟨0,2,[⟨1,2⟩,⟨1,3⟩],0,[]⟩=(iV.more,⟨[⟨1,5⟩],[⟨0,3,[⟨1,2⟩,⟨1,3⟩],0,[]⟩],-1⟩)from rfl]at E;refine bV E ?_;clear E;rintro x w10 ⟨vv,rfl,KH,Oe,hk⟩;obtain⟨a10,c10,rfl,-,-⟩:=Oe.slice;have HR:=V KH;have HB:=V (HB.out.trans (hk.below HB.out.size P9.out));have HY:=V (HY.out.keeps hk (by simp [Qz.out]));clear Oe hk KH;simp only [nd,iV.more,aK];obtain⟨⟨y0,y1,y2,y3⟩,z0,z1,z2,z3⟩:=HY.out.four;go_wp2_with fail;clear y0 y1 y2 y3 z0 z1 z2 z3;obtain⟨P5,hw⟩:∃wx,wx=ll w10 w5.heap.size 1 0 0 (.slice a10 0 c10):=⟨_,rfl⟩;have HR:=V (show iT P5 F' FX X b iv m [] [] _ _ by rw [hw];exact HR.out.keeps (gy w10 w5.heap.size 1 0 0 (.slice a10 0 c10)) (fun g hg=>by rw [hg];exact⟨HFX.out, .inl Qz.out⟩));have HY:=V (show eG P5 w5.heap.size _ _ by rw [hw];exact HY.out.ry (.int .i64 1) (.int .i64 0) (.int .i64 0) (.slice a10 0 c10));have HB:=V (show Below w.heap.size w P5 by rw [hw];exact HB.out.trans ((gy w10 w5.heap.size 1 0 0 (.slice a10 0 c10)).below HB.out.size (fun i hi=>by rw [hi];exact HL5.out)));unfold ll at hw;rw [<- hw];clear hw;rw [cN];go_wp2_with fail;have E:=iT.ret _ F' FX X b iv m [] [] _ [] [⟨1,5⟩] [] ⟨0,3,[⟨1,2⟩,⟨1,3⟩],0,[]⟩ (-1) 0 3 ⟨[],gX⟩ ⟨[1,1],[1]⟩ HR.out HC.out (by rw [PZ.out.1];rfl) (by rw [PZ.out.1];decide) rfl (by decide) HTY.out (by rw [PZ.out.1,PZ.out.2];decide) rfl (by simp) (by decide);rw [show qI (ka [] [⟨1,5⟩] (decide (0 < ([1]:List Int).length))) [] (-1)=(⟨3,0,0,[⟨1,5⟩]⟩,⟨[⟨1,5⟩],[],-1⟩)from rfl]at E;refine bV E ?_;clear E;rintro x w12 ⟨vv,rfl,KH,Oe,hk⟩;obtain⟨b5,o5,c5,rfl,Lk,My,KC,Ln⟩:=eg.at (Oe.fy fK) (i:=0) (x:=⟨1,5⟩) rfl;have HB:=V (HB.out.trans (hk.below HB.out.size P9.out));have hb:=(an w12.heap.size w12).alloc (ag _) (.cells #[.int .i64 3, .int .i64 0, .int .i64 0, .slice (some ⟨b5,o5,none⟩) 1 c5] 32);have HP:=V (eG.new w12 #[.int .i64 3, .int .i64 0, .int .i64 0, .slice (some ⟨b5,o5,none⟩) 1 c5] 32);have HR:=V (KH.below hb);have HV:=V (show World.cell? (w12.alloc (.cells #[.int .i64 3, .int .i64 0, .int .i64 0, .slice (some ⟨b5,o5,none⟩) 1 c5] 32)) ⟨b5,o5+1,none⟩=some (.int .i64 5)/\b5 < (w12.alloc (.cells #[.int .i64 3, .int .i64 0, .int .i64 0, .slice (some ⟨b5,o5,none⟩) 1 c5] 32)).heap.size from⟨by rw [bm (hb.block b5 KC)];exact Ln 1 _ rfl,by simp;omega⟩);have HB:=V (dY HB.out hb);have hcap1:1 <=c5:=Lk;clear Oe hk KH Ln hb KC Lk;simp only [nd,aI,aK];go_wp2_with fail;refine(zY _).mono ?_;rintro x w13 ⟨rfl,hb⟩;have HP:=V (HP.out.below hb HP.out.lt);have HV:=V (show World.cell? _ ⟨b5,o5+1,none⟩=some (.int .i64 5)/\b5 < _ from⟨(bm (Below.block hb b5 HV.out.2)).trans HV.out.1,bH HV.out.2 (Below.size hb)⟩);have HR:=V (iT.below HR.out hb);have HB:=V (dY HB.out hb);clear hb;go_wp2_with fail;refine(zl _).mono ?_;rintro x w14 ⟨rfl,hb⟩;have HP:=V (HP.out.below hb HP.out.lt);have HV:=V (show World.cell? _ ⟨b5,o5+1,none⟩=some (.int .i64 5)/\b5 < _ from⟨(bm (Below.block hb b5 HV.out.2)).trans HV.out.1,bH HV.out.2 (Below.size hb)⟩);have HR:=V (iT.below HR.out hb);have HB:=V (dY HB.out hb);clear hb;obtain⟨⟨y0,y1,y2,y3⟩,-,-,-,-⟩:=HP.out.four;have v1:=HV.out.1;obtain⟨ae,ce,q1⟩:=iT.Kr HR.out;have q1':World.cell? _ ⟨b,1,none⟩=some (.slice ae 0 ce):=q1;clear q1;go_wp2_with fail;refine(xy w14 _ b (-1) 1 (iT.c2 HR.out) (by decide)).mono ?_;rintro x w15 ⟨rfl,hb⟩;have HB:=V (dY HB.out hb);clear hb y0 y1 y2 y3 v1 q1';go_wp2_with fail;go_ret;exact⟨rfl,HB.out⟩
def Ge:gL:=⟨[],[⟨2,0,[],0,[]⟩],-1⟩
def zw (body:List eK) (s:gL) (w:World) (e:Ending) (w':World):Prop:=
 ∃X b F FX iv a c,e= .returned (.tuple #[.pointer (some ⟨X,0,none⟩), .pointer (some ⟨b,0,none⟩), .agg #[.int .i64 1, .int .i64 0, .int .i64 0, .slice a 0 c]])/\
  iT w' F FX X b iv (eQ body) [] [] 37 s/\(∀i,F i=false ->w.heap.size <=i)/\Below w.heap.size w w'
structure I1 (w0:World) (F FX:Nat ->Bool) (X b RB Y:Nat) (iv:pG) (m:ez) (st:Nat ->gL) (N:Nat) (w:World) (i:Nat):Prop where
 le:i <=N
 run:iT w F FX X b iv m [] [] 37 (st i)
 below:Below w0.heap.size w0 w
 Kl:∃a c,eG w Y #[.int .i64 1, .int .i64 0, .int .i64 0, .slice a 0 c] 32
 res:eG w RB #[.int .i64 0, .int .i64 0, .int .i64 0, .slice none 0 0] 32
theorem uD {P:Program} {fn:Func} {t0 u0 u1:Tmp} {ty:TypeId} (h:fn.results=#[.tmp u0, .tmp u1, .cell t0 ty]) (tmps:Array Value) (w:World) {a:Addr} {v:Value} (ht:tmps.getD t0 undef= .pointer (some a))
  (hl:(loadVar ty a).run P w= .ok v w):(results fn tmps).run P w= .ok (.tuple #[tmps.getD u0 undef,tmps.getD u1 undef,v]) w:=by
 have ht':tmps[t0]?.getD undef= .pointer (some a):=by simpa using ht
 simp [results,h,ht',asAddr,hl]
theorem Dl (body:List eK) (h:∀x∈body,x.mi):∀c∈(eQ body).ej,∀x∈c.body,x.mi:=by
 intro c hc x hx;simp only [eQ,bB,bJ,cM]at hc;rcases hc with rfl | rfl
 ·exact h x hx
 ·simp only [bB,bJ,cM]at hx
  subst hx;unfold eK.mi
  decide
theorem C5 (body:List eK) (vb:Value) (st:Nat ->gL) (N:Nat) (w:World) (hb:gd w vb body) (hN:N <=100000) (he:∀x∈body,x.mi) (hfault:iA (eQ body)= -1) (h0:st 0=Ge)
  (hsteps:∀i,i < N ->∀(w:World) (F FX:Nat ->Bool) (X b:Nat) (iv:pG),iT w F FX X b iv (eQ body) [] [] 37 (st i) ->Calls prog 8 #[.pointer (some ⟨X,0,none⟩), .pointer (some ⟨b,0,none⟩)] w (lk F FX X b iv (eQ body) [] [] 37 (iV.more,st (i+1)) w)):
  Calls prog 7 #[vb, .int .i64 0, .int .i64 (N:Int)] w (zw body (st N) w):=by
 have Pw:=V hb;have HE:=V he;have HFA:=V hfault;have H0:=V h0;have Ky:=V hsteps;obtain⟨ab,cb,rfl,-,hcb⟩:=ee.slice hb;clear hb he hfault h0 hsteps;have hb:=(an w.heap.size w).alloc (ag _) (.cells #[.int .i64 0, .int .i64 0, .int .i64 0, .slice none 0 0] 32);have M4:=V (eG.new w #[.int .i64 0, .int .i64 0, .int .i64 0, .slice none 0 0] 32);have HB:=V hb;clear hb;go_enter func7,ntmps7;go_wp2_with fail;refine(sB _).mono ?_;rintro x w1 ⟨rfl,hs,hb,hz⟩;rw [aE]at hs hz⊢;obtain⟨B,hB⟩:∃B,B=w.heap.size+1:=⟨_,rfl⟩;rw [<- hB]at hs hz⊢;have HN:=V (show w.heap.size < B/\w1.heap.size=B+15 from⟨by omega,hz⟩);have M4:=V (M4.out.below hb M4.out.lt);have HB:=V (dY HB.out hb);clear hz hB hb;have HX:=V (eG.new w1 ((rk B).cells (eQ [])) 62);have hb:=(an w1.heap.size w1).alloc (ag _) (.cells ((rk B).cells (eQ [])) 62);have HS:=V (hs.below hb);have M4:=V (M4.out.below hb M4.out.lt);have HB:=V (dY HB.out hb);clear hb hs;simp only [eD.cells,rk,eQ,rowAt]at HX HS HB M4⊢;have c1:=HX.out.cell 12;have c2:=HS.out.2.2.2.2.cell 1;have z1:=HS.out.2.2.2.2.free 1;have hx:=HX.out.other ⟨B+14,1,none⟩ (.slice ab body.length cb) (by have:=HN.out;simp;omega);obtain⟨g0,g1,g2,g3,g4,g5,g6,g7,g8,g9,Ld,Le,Lf,Lg⟩:=hx.mod;clear hx;go_wp2_with fail;have M4:=V (M4.out.other ⟨B+14,1,none⟩ (.slice ab body.length cb) (by have:=HN.out;simp;omega));have HB:=V (HB.out.setCell (p:=⟨B+14,1,none⟩) (by have:=HN.out;simp;omega) (.slice ab body.length cb));have HI:=V ((HS.out.setBody (.slice ab body.length cb)).is (gd.below Pw.out HB.out));clear c1 c2 z1 g0 g1 g2 g3 g4 g5 g6 g7 g8 g9 Ld Le Lf Lg HX HS;refine(lU (eQ body) (rk B) _ HI.out (sZ _) (Dl body HE.out) (by show(2:Nat)+2 <=1000000;omega) rfl).mono ?_;rintro x w2 ⟨hb,⟨hr,-⟩ | ⟨-,hr,-⟩ | ⟨X,FX,_,_,iv,_,-,-,rfl,Li,-,-,hge,-⟩⟩
 ·exact absurd HFA.out hr
 ·exact absurd ((tl body).symm.trans hr) (by simp)
 have HFXR:=V (show FX w.heap.size=false by
  cases hf:FX w.heap.size with
  | false=>rfl
  | true=>
   have h1:=(hge _ (.inl hf)).1;have h2:=M4.out.lt;omega)
 have M4:=V (M4.out.below hb M4.out.lt);have HB:=V (dY HB.out hb);clear hb HI HN hge;obtain⟨m,Ox⟩:∃m,m=eQ body:=⟨_,rfl⟩;rw [<- Ox]at Li;have HM:=V Ox;have HC:=V (show m.ej[0]?=some ⟨[],body⟩by rw [Ox];rfl);have HTY:=V (show lW m 2 ⟨[],[]⟩by rw [Ox];exact .inr ⟨0,0,rfl,rfl,rfl⟩);have PZ:=V (show m.imports.length=2/\m.funcs.length=2 by rw [Ox];exact⟨rfl,rfl⟩);have Nu:=V (iT.new Li (-1));obtain⟨F,hF⟩:∃F:Nat ->Bool,F=fun g=>decide (g < w2.heap.size):=⟨_,rfl⟩;rw [<- hF]at Nu;have P9:=V (show∀i,F i=false ->w.heap.size <=i by
  intro i hi;rw [hF]at hi;have:=of_decide_eq_false hi;have:=HB.out.size;omega)
 have HFR:=V (show F w.heap.size=true by
  rw [hF];exact aA M4.out.lt)
 have hb:=(an w2.heap.size w2).alloc (ag _) (.cells #[.slice none 0 0, .slice none 0 0, .int .i64 (-1)] 37);have HB:=V (dY HB.out hb);have M4:=V (M4.out.below hb M4.out.lt);obtain⟨b,L9⟩:∃b,b=w2.heap.size:=⟨_,rfl⟩;rw [<- L9]at Nu;clear Ox Li hF hb;go_wp2_with fail;rw [<- L9];clear L9;have E:=iT.call _ F FX X b iv m [] [] _ _ Nu.out 0 ⟨[],body⟩ ⟨[],[]⟩ 2 [] (.slice none 0 0) HC.out (by rw [PZ.out.1];rfl) HTY.out (by rw [PZ.out.1,PZ.out.2];decide) (by decide) (by simp) (eg.nil _) (by simp) (by simp) (by simp);rw [show nn (([]:List Int)++[]) ⟨[],[],-1⟩ 2 []=(iV.more,Ge)from rfl]at E;refine bV E ?_;clear E;rintro x w3 ⟨vv,rfl,KH,Oe,hk⟩;obtain⟨av,cv,rfl,-,-⟩:=Oe.slice;have HB:=V (HB.out.trans (hk.below HB.out.size P9.out));have M4:=V (M4.out.keeps hk (by simp [HFR.out]));have hb:=(an w3.heap.size w3).alloc (ag _) (.cells #[.int .i64 1, .int .i64 0, .int .i64 0, .slice av 0 cv] 32);obtain⟨Y,hY⟩:∃Y,Y=w3.heap.size:=⟨_,rfl⟩;have Nu:=V (KH.add hb Y (by omega) (by simp;omega));have HY:=V (eG.new w3 #[.int .i64 1, .int .i64 0, .int .i64 0, .slice av 0 cv] 32);rw [<- hY]at HY;have HFX:=V (show FX Y=false by
  cases hf:FX Y with
  | false=>rfl
  | true=>have:=KH.inst.lt _ hf;omega)
 have QT:=V (show w.heap.size < Y by rw [hY];exact M4.out.lt);have M4:=V (M4.out.below hb M4.out.lt);obtain⟨F',Qy⟩:∃F':Nat ->Bool,F'=fun g=>F g || decide (g=Y):=⟨_,rfl⟩;rw [<- Qy]at Nu;have P9:=V (show∀i,F' i=false ->w.heap.size <=i by
  intro i hi;rw [Qy,dq]at hi;exact P9.out i hi.1)
 have Qz:=V (show F' Y=true by rw [Qy];simp);have HFR:=V (show F' w.heap.size=true by rw [Qy];simp [HFR.out]);have HB:=V (dY HB.out hb);clear Oe hk KH hb Qy;simp only [nd,iV.more,aK];go_wp2_with fail;rw [<- hY];have HJ0:=V (show I1 w F' FX X b w.heap.size Y iv m st N _ 0 from⟨bK _,by rw [H0.out];exact Nu.out,HB.out,⟨av,cv,HY.out⟩,M4.out⟩);clear hY;refine eB (fun a' w'=>∃(i:Nat),a'=fr (gs a' 0 2 (.int .i64 N::gs a' 3 5 (.pointer (some ⟨w.heap.size,0,none⟩)::gs a' 9 1 (.pointer (some ⟨X,0,none⟩)::gs a' 11 1 (.pointer (some ⟨b,0,none⟩):: .pointer (some ⟨Y,0,none⟩):: .int .i64 i::gs a' 15 36 [])))))/\I1 w F' FX X b w.heap.size Y iv m st N w' i) (fun a' _=>(N - (intOf (a'.tmps.getD 14 undef)).toNat)) ?_ ?_
 ·exact⟨0,rfl,HJ0.out⟩
 ·skip
  clear HJ0 Nu M4 HY HB;rintro R a' w1 ⟨i,Kw,hJ⟩ HR;dsimp only [fr,gs]at Kw;generalize slot a'=f at Kw;subst Kw;have HJ:=V hJ;have hiN:=hJ.le;obtain⟨ay,cy,hy⟩:=hJ.Kl;have HY:=V hy;clear hJ;by_cases q:i < N
  ·have f1:decide ((i:Int) < (N:Int))=true:=aA (by omega)
   obtain⟨⟨y0,y1,y2,y3⟩,-,-,-,-⟩:=hy.four;clear hy;go_wp2_with fail;clear y0 y1 y2 y3 f1;have E:=Ky.out i q w1 F' FX X b iv (by rw [<- HM.out];exact HJ.out.run);rw [<- HM.out]at E;refine bV E ?_;clear E;rintro x w2 ⟨vv,rfl,KH,Oe,hk⟩;obtain⟨a2,c2,rfl,-,-⟩:=Oe.slice;have Nu:=V KH;have HB:=V (HJ.out.below.trans (hk.below HJ.out.below.size P9.out));have M4:=V (HJ.out.res.keeps hk (by simp [HFR.out]));have HY:=V (HY.out.keeps hk (by simp [Qz.out]));clear Oe hk KH;simp only [nd,iV.more,aK];obtain⟨⟨y0,y1,y2,y3⟩,z0,z1,z2,z3⟩:=HY.out.four;go_wp2_with fail;have Kz:=gy w2 Y 1 0 0 (.slice a2 0 c2);refine HR.out _ _ ⟨i+1,rfl,⟨by omega,?_,?_,?_,?_⟩⟩ ?_
   ·exact Nu.out.keeps Kz (fun g hg=>by rw [hg];exact⟨HFX.out, .inl Qz.out⟩)
   ·exact HB.out.trans (Kz.below HB.out.size (fun g hg=>by rw [hg];exact Nat.le_of_lt QT.out))
   ·exact⟨a2,c2,HY.out.ry _ _ _ _⟩
   ·exact M4.out.keeps Kz (by have:=QT.out;omega)
   ·simp [intOf]
    omega
  ·have f1:decide ((i:Int) < (N:Int))=false:=az (by omega)
   obtain rfl:i=N:=by omega
   go_wp2_with fail;obtain⟨⟨y0,y1,y2,y3⟩,-,-,-,-⟩:=hy.drew.four;clear hy;refine eO (fun w'=>w'.cell? ⟨Y,0,none⟩=some (.int .i64 1)/\w'.cell? ⟨Y,1,none⟩=some (.int .i64 0)/\w'.cell? ⟨Y,2,none⟩=some (.int .i64 0)/\w'.cell? ⟨Y,3,none⟩=some (.slice ay 0 cy)) 4 (up 0 4 []) (by kernel_rfl) (by kernel_rfl) ⟨y0,y1,y2,y3⟩ ?_;clear y0 y1 y2 y3;iterate 4 (first | (apply sk rfl rfl;simp only [pt]) | (apply dV rfl rfl rfl;·(rintro w' ⟨t0,t1,t2,t3⟩;go_wp2;exact⟨rfl,rfl,rfl⟩)))
   refine fG rfl rfl ?_;have M4:=V HJ.out.res.drew;obtain⟨⟨x0,x1,x2,x3⟩,-,-,-,-⟩:=M4.out.four;obtain⟨⟨n0,n1,n2,n3⟩,z0,z1,z2,z3⟩:=HJ.out.res.four;go_wp2_with fail;refine⟨trivial,?_⟩;refine aD ?_;clear x0 x1 x2 x3 z0 z1 z2 z3 n0 n1 n2 n3;go_wp2_with fail;have Kz:=gy w1 w.heap.size 1 0 0 (.slice ay 0 cy);have hl:=(HJ.out.res.ry (.int .i64 1) (.int .i64 0) (.int .i64 0) (.slice ay 0 cy)).drew;refine aM (uD rfl _ _ rfl hl.pF) rfl ?_;refine⟨X,b,F',FX,iv,ay,cy,rfl,?_,P9.out,?_⟩
   ·rw [<- HM.out]
    exact HJ.out.run.keeps Kz.drew (fun g hg=>by rw [hg];exact⟨HFXR.out, .inl HFR.out⟩)
   ·exact HJ.out.below.trans (Kz.drew.below HJ.out.below.size (fun g hg=>by rw [hg];exact ag _))
theorem mm (b:List eK):(eQ b).imports.length=2/\(eQ b).funcs.length=2:=⟨rfl,rfl⟩
section
def sf (a:Int):List eK:=[⟨66,a,0,[]⟩,iR 7,⟨16,3,0,[]⟩,⟨0,0,0,[]⟩]
def pX (a:Int) (v:Nat):List eK:=List.replicate v (iR 0)++sf a
theorem qN {a:Int} {v:Nat} {x:eK} (h:x∈pX a v):x=iR 0\/x=⟨66,a,0,[]⟩\/x=iR 7\/x=⟨16,3,0,[]⟩\/x=⟨0,0,0,[]⟩:=by
 rcases bx.1 h with h | h
 ·exact .inl (dg.1 h).2
 ·simp only [sf,bB,bJ,cM]at h
  exact .inr h
theorem Hb (a:Int) (v:Nat):(pX a v).length=v+4:=by simp [pX,sf]
theorem Dt {a:Int} {v:Nat}:∀x∈pX a v,x.mi:=by
 intro x hx;rcases qN hx with rfl | rfl | rfl | rfl | rfl <;>simp [eK.mi,iR]
theorem Jy {a:Int} {v:Nat}:∀x∈pX a v,x.l=[]:=by
 intro x hx;rcases qN hx with rfl | rfl | rfl | rfl | rfl <;>rfl
theorem AS {a:Int} {v:Nat} (ha:iI a):qs (pX a v):=by
 intro x hx;rcases qN hx with rfl | rfl | rfl | rfl | rfl
 ·simp [iR,iI]
 ·exact⟨rfl,by simp [iI],ha,by simp [iI]⟩
 ·simp [iR,iI]
 ·simp [iI]
 ·simp [iI]
theorem BK {a:Int} {v:Nat} (hv:v <=20):gF.may ⟨[],pX a v⟩:=by
 have hl:=Hb a v;have hm:fC (pX a v)=some []:=wZ _ (by omega) (by
  intro x hx;rcases qN hx with rfl | rfl | rfl | rfl | rfl <;>simp [iR])
 refine⟨by rw [hm];rfl,⟨by simp,by simp⟩,by show(pX a v).length <=300;omega,fun x hx=>?_⟩;rcases qN hx with rfl | rfl | rfl | rfl | rfl
 ·decide
 ·refine⟨fun _=>rfl,fun _=>rfl,?_⟩
  have:fJ 66=9:=by decide
  simp [this]
 ·decide
 ·decide
 ·decide
theorem zq (q:List Int) (k:Int) (hk:k≠0) (d:Bool):(⟨q++[k],[⟨2,0,0,d⟩],false⟩:eI).pop k=(k,⟨q,[⟨2,0,0,d⟩],false⟩):=by
 unfold eI.pop;rw [aC (by simp [eI.top]),aC (by simpa using hk)];simp [eI.need]
theorem Fq (a:Int) (B:List eK) (p:List Int):eI.run (eQ B) [] ⟨p,[⟨2,0,0,false⟩],false⟩ (sf a)=some ⟨[],[⟨2,0,0,true⟩],false⟩:=by
 have e1:(⟨p,[⟨2,0,0,false⟩],false⟩:eI).step (eQ B) [] ⟨66,a,0,[]⟩=⟨p++[2],[⟨2,0,0,false⟩],false⟩:=rfl;have e2:(⟨p++[2],[⟨2,0,0,false⟩],false⟩:eI).step (eQ B) [] (iR 7)=⟨p++[2]++[1],[⟨2,0,0,false⟩],false⟩:=rfl;have e3:(⟨p++[2]++[1],[⟨2,0,0,false⟩],false⟩:eI).step (eQ B) [] ⟨16,3,0,[]⟩=⟨p++[2],[⟨2,0,0,false⟩],false⟩:=by
  show(((⟨p++[2]++[1],[⟨2,0,0,false⟩],false⟩:eI).pop 1).2.pop 2).2.push [2]=_;rw [zq _ 1 (by decide),zq _ 2 (by decide)];rfl
 have e4:(⟨p++[2],[⟨2,0,0,false⟩],false⟩:eI).step (eQ B) [] ⟨0,0,0,[]⟩=⟨[],[⟨2,0,0,true⟩],false⟩:=rfl;unfold sf;rw [eI.run,e1,aC dO,eI.run,e2,aC dO,eI.run,e3,aC dO,eI.run,e4,aC dO,eI.run]
theorem C6 {a:Int} {v:Nat} (hv:v <=20):iA (eQ (pX a v))= -1:=by
 refine vr _ (BK hv) Jy (CF _ ⟨[],[⟨2,0,0,true⟩],false⟩ (BK hv).1 ?_ (by decide));have h:=uq (eQ (pX a v)) (List.replicate v (0:Int)) ⟨[],[⟨2,0,0,false⟩],false⟩ rfl (sf a);rw [show(List.replicate v (0:Int)).map iR=List.replicate v (iR 0)by simp]at h;exact h.trans (Fq a _ _)
def Eu (a:Int) (v:Nat):List fa:=List.replicate v ⟨1,0⟩++[⟨2,a⟩,⟨1,7⟩]
def B9 (v:Nat):eV:=⟨2,((v+3:Nat):Int),[],0,[]⟩
def Ax (a:Int) (v i:Nat):gL:=if i <=v+2 then⟨(Eu a v).take i,[⟨2,(i:Int),[],0,[]⟩],-1⟩else⟨List.replicate v ⟨1,0⟩,[B9 v,⟨3,0,[⟨2,a⟩,⟨1,7⟩],(v:Int),[]⟩],-1⟩
theorem Hm (a:Int) (v:Nat):(Eu a v).length=v+2:=by simp [Eu]
theorem xT (b:List eK):lW (eQ b) 3 ⟨[2,1],[2]⟩:= .inr ⟨1,3,rfl,rfl,rfl⟩
section
variable {a:Int} {v:Nat} (hv:v <=20)
include hv
theorem Hc (i:Nat) (hi:i < v+3) (w:World) (F FX:Nat ->Bool) (X b:Nat) (iv:pG) (h:iT w F FX X b iv (eQ (pX a v)) [] [] 37 (Ax a v i)):
  Calls prog 8 #[.pointer (some ⟨X,0,none⟩), .pointer (some ⟨b,0,none⟩)] w (lk F FX X b iv (eQ (pX a v)) [] [] 37 (iV.more,Ax a v (i+1)) w):=by
 have hl:=Hm a v;unfold Ax at h;rw [aJ (by omega)]at h;by_cases q:i < v+2
 ·obtain⟨x,hx⟩:∃x,(Eu a v)[i]?=some x:=⟨_,aq (by omega)⟩
  have hS:Ax a v (i+1)=⟨(Eu a v).take i++[x],[⟨2,(i:Int)+1,[],0,[]⟩],-1⟩:=by
   unfold Ax;rw [aJ (by omega),aQ,hx];rfl
  have KC:((Eu a v).take i).length=i:=by rw [aS];omega
  have hr:jo ((Eu a v).take i) [x] ⟨(Eu a v).take i,[]++[⟨2,(i:Int),[],0,[]⟩],-1⟩ [] ⟨2,(i:Int),[],0,[]⟩=(iV.more,Ax a v (i+1)):=by
   unfold jo;rw [aC (by rw [KC,aB];omega),hS];rfl
  have hc:(pX a v)[i]?=some ⟨x.kind+64,x.n,0,[]⟩:=by
   unfold Eu at hx;unfold pX sf iR;by_cases q1:i < v
   ·rw [bu (by simpa using q1),dw,aJ q1]at hx
    injection hx with hx;rw [<- hx,bu (by simpa using q1),dw,aJ q1];rfl
   ·rw [bg (by simpa using Nat.le_of_not_lt q1),aY]at hx⊢
    obtain h1 | h1:i - v=0\/i - v=1:=by omega
    ·rw [h1]at hx⊢
     injection hx with hx;rw [<- hx];rfl
    ·rw [h1]at hx⊢
     injection hx with hx;rw [<- hx];rfl
  have hk:x.kind=1\/x.kind=2:=by
   rcases bx.1 (aO hx)with h1 | h1
   ·rw [(dg.1 h1).2];exact .inl rfl
   ·simp only [bB,bJ,cM]at h1
    rcases h1 with rfl | rfl
    ·exact .inr rfl
    ·exact .inl rfl
  obtain⟨xk,xn⟩:=x;simp only at hk hc;rw [<- hr];rcases hk with rfl | rfl
  ·exact iT.const w F FX X b iv (eQ (pX a v)) [] [] _ ((Eu a v).take i) [] ⟨2,(i:Int),[],0,[]⟩ (-1) 0 i ⟨[],pX a v⟩ h rfl rfl (by rw [(mm _).1];decide) rfl xn hc (by omega) (by omega)
  ·exact iT.Hv w F FX X b iv (eQ (pX a v)) [] [] _ ((Eu a v).take i) [] ⟨2,(i:Int),[],0,[]⟩ (-1) 0 i ⟨[],pX a v⟩ h rfl rfl (by rw [(mm _).1];decide) rfl xn hc (by omega) (by omega)
 ·obtain rfl:i=v+2:=by omega
  rw [cE (by omega)]at h;have hS:Ax a v (v+2+1)=⟨List.replicate v ⟨1,0⟩,[B9 v,⟨3,0,[⟨2,a⟩,⟨1,7⟩],(v:Int),[]⟩],-1⟩:=by
   unfold Ax;rw [aC (by omega)]
  have E:=iT.I4 w F FX X b iv (eQ (pX a v)) [] [] 37 (List.replicate v ⟨1,0⟩) [⟨2,a⟩,⟨1,7⟩] [] ⟨2,((v+2:Nat):Int),[],0,[]⟩ (-1) 0 (v+2) ⟨[],pX a v⟩ h rfl rfl (by rw [(mm _).1];decide) rfl 3 (by
    show(pX a v)[v+2]?=_;unfold pX;rw [bg (by simp),aY,Nat.add_sub_cancel_left];rfl) 1 ⟨[],[⟨32,0,0,[]⟩]⟩ ⟨[2,1],[2]⟩ rfl rfl (xT _) (by rw [(mm _).1,(mm _).2];decide) (by decide) (by decide) rfl (by simp) (by decide) (by rw [aY];show v+2 <=50000;omega) (by omega)
  have hr:nn (([2,1]:List Int)++[]) ⟨List.replicate v ⟨1,0⟩,[]++[{(⟨2,((v+2:Nat):Int),[],0,[]⟩:eV)with pc:=((v+2:Nat):Int)+1}],-1⟩ 3 [⟨2,a⟩,⟨1,7⟩]=(iV.more,Ax a v (v+2+1)):=by
   unfold nn;rw [aC (by show ¬ 32 <=1;decide),hS];simp [B9];omega
  rw [<- hr];exact E
theorem Dw (vb:Value) (w:World) (hb:gd w vb (pX a v)):
  Calls prog 7 #[vb, .int .i64 0, .int .i64 ((v+3:Nat):Int)] w (zw (pX a v) (Ax a v (v+3)) w):=
 C5 (pX a v) vb (Ax a v) (v+3) w hb (by omega) Dt (C6 hv) (by simp [Ax,Ge]) (fun i hi w F FX X b iv hr=>Hc hv i hi w F FX X b iv hr)
omit hv in
theorem BI:Ax a v (v+3)=⟨List.replicate v ⟨1,0⟩,[B9 v]++[⟨3,0,[⟨2,a⟩,⟨1,7⟩],(v:Int),[]⟩],-1⟩:=by
 unfold Ax;rw [aC (by omega)];rfl
theorem DG (w:World) (F FX:Nat ->Bool) (X b:Nat) (iv:pG) (h:iT w F FX X b iv (eQ (pX a v)) [] [] 37 (Ax a v (v+3))):
  Calls prog 8 #[.pointer (some ⟨X,0,none⟩), .pointer (some ⟨b,0,none⟩)] w (lk F FX X b iv (eQ (pX a v)) [] [] 37 (iV.more,⟨List.replicate v ⟨1,0⟩++[⟨2,a⟩],[B9 v]++[⟨3,1,[⟨2,a⟩,⟨1,7⟩],(v:Int),[]⟩],-1⟩) w):=by
 rw [BI]at h;have E:=iT.local w F FX X b iv (eQ (pX a v)) [] [] 37 (List.replicate v ⟨1,0⟩) [B9 v] ⟨3,0,[⟨2,a⟩,⟨1,7⟩],(v:Int),[]⟩ (-1) 1 0 ⟨[],[⟨32,0,0,[]⟩]⟩ h rfl rfl (by rw [(mm _).1];decide) rfl 0 ⟨2,a⟩ rfl rfl (by rw [aY];omega) (by omega);have hr:jo (List.replicate v (⟨1,0⟩:fa)) [⟨2,a⟩] ⟨List.replicate v ⟨1,0⟩,[B9 v]++[⟨3,0,[⟨2,a⟩,⟨1,7⟩],(v:Int),[]⟩],-1⟩ [B9 v] ⟨3,0,[⟨2,a⟩,⟨1,7⟩],(v:Int),[]⟩=(iV.more,⟨List.replicate v ⟨1,0⟩++[⟨2,a⟩],[B9 v]++[⟨3,1,[⟨2,a⟩,⟨1,7⟩],(v:Int),[]⟩],-1⟩):=by
  unfold jo;rw [aC (by rw [aY,aB];omega)];rfl
 rw [<- hr];exact E
theorem IS (w:World) (F FX:Nat ->Bool) (X b:Nat) (iv:pG) (h:iT w F FX X b iv (eQ (pX a v)) [] [] 37 ⟨List.replicate v ⟨1,0⟩++[⟨2,a⟩],[B9 v]++[⟨3,1,[⟨2,a⟩,⟨1,7⟩],(v:Int),[]⟩],-1⟩):
  Calls prog 8 #[.pointer (some ⟨X,0,none⟩), .pointer (some ⟨b,0,none⟩)] w (lk F FX X b iv (eQ (pX a v)) [] [] 37 (iV.more,⟨List.replicate v ⟨1,0⟩++[⟨2,a⟩],[]++[B9 v],-1⟩) w):=by
 have E:=iT.ret w F FX X b iv (eQ (pX a v)) [] [] 37 (List.replicate v ⟨1,0⟩) [⟨2,a⟩] [B9 v] ⟨3,1,[⟨2,a⟩,⟨1,7⟩],(v:Int),[]⟩ (-1) 1 1 ⟨[],[⟨32,0,0,[]⟩]⟩ ⟨[2,1],[2]⟩ h rfl rfl (by rw [(mm _).1];decide) rfl (by decide) (xT _) (by rw [(mm _).1,(mm _).2];decide) (by rw [aY]) (by simp) (by rw [aY];show v+1 <=50000;omega);have hr:qI (ka (List.replicate v (⟨1,0⟩:fa)) [⟨2,a⟩] (decide (0 < ([2]:List Int).length))) [B9 v] (-1)=(iV.more,⟨List.replicate v ⟨1,0⟩++[⟨2,a⟩],[]++[B9 v],-1⟩):=by
  unfold qI ka;simp [iV.more]
 rw [<- hr];exact E
end
end

section
set_option linter.unusedSectionVars false
section
variable {n k v:Nat} (hn:n <=30) (hn1:1 <=n) (hk:k < n) (hv:v <=3)
include hn hv
include hk
include hn1
end
end
def pJ (x:eK):List Value:=[.int .i64 x.op, .int .i64 x.a, .int .i64 x.b, .slice none 0 0]
theorem qY (x:eK):(pJ x).length=4:=rfl
theorem zM (x:eK):∀u∈pJ x,u.oneCell'=true:=by
 intro u hu;simp only [pJ,bB,bJ,cM]at hu;rcases hu with rfl | rfl | rfl | rfl <;>rfl
theorem DS {w:World} {v:Value} {l:List eK} (h:eg 4 pJ w v l) (hl:qs l):gd w v l:=by
 refine⟨l.map fun _=> .slice none 0 0,by simp,?_,qW w l hl⟩;have hz:(l.zip (l.map fun _=>Value.slice none 0 0)).length=l.length:=by simp
 obtain⟨a,cap,h1,h2,h3,h4⟩:=h;refine⟨a,cap,by rw [hz];exact h1,by rw [hz];exact h2,h3,fun i x hx=>?_⟩;obtain⟨hx1,N4⟩:=cI.1 hx;rw [cQ,hx1]at N4;injection N4 with N4;obtain⟨b,off,e1,e2,e3⟩:=h4 i x.1 hx1;refine⟨b,off,e1,e2,fun j u hu=>e3 j u ?_⟩;rw [<- hu];show(pJ x.1)[j]?=(pI x)[j]?;unfold pI pJ;rw [<- N4]
def BJ (l:List eK) (w0 w:World) (v:Value):Prop:=dT 27 4 pJ w w0.heap.size v l/\Below w0.heap.size w0 w
theorem xG {ops:Array Oper} {rest:List Oper} {o:Oper} {a:Act} {Q:Exit ->Act ->World ->Prop} (w0 w:World) (N0:o.guard=none) (s x:Operand)
  (ho:o.op= .call {callee:= .builtin .append,args:=#[s,x],argTypes:=#[24,24]}) (v:Value) (l:List eK) (hs:a.eval s=v) (hJ:BJ l w0 w v) (y:eK) (cs:Array Value) (QA:cs=(pJ y).toArray) (hx:a.eval x= .slice (some ⟨w.heap.size,0,none⟩) 1 1) (hl:l.length <=1000)
  (h:∀av cv w',BJ (l++[y]) w0 w' (.slice av (l.length+1) cv) ->wpList prog ops Q rest (a.put o.dst (.slice av (l.length+1) cv)) w'):
  wpList prog ops Q (o::rest) a (w.alloc (.cells cs 27)):=by
 refine eT w N0 s x 24 ho _ 48 (by kernel_rfl) mY rfl (by decide) (by decide) w0.heap.size v l hs hJ.1 y cs QA rfl (zM _) hx (by omega) hJ.2.size ?_;intro v' w' h1 h2 _;obtain⟨av,cv,hv,-,-⟩:=h1.slice;rw [ah,aB]at hv;subst hv;exact h av cv w' ⟨h1,hJ.2.trans (h2.below hJ.2.size (fun g hg=>(et hJ.1 hg).1))⟩
theorem Fl (w:World) (l:List eK) (n:Nat) (hn:l.length=n) (h1:n <=1000):eg 4 pJ (w.alloc (.cells (l.flatMap pJ).toArray 27)) (.slice (some ⟨w.heap.size,0,none⟩) n n) l:=by
 subst hn;have hx:=eG.new w (l.flatMap pJ).toArray 27;have hl:(l.flatMap pJ).length=l.length*4:=by
  induction l with
  | nil=>rfl
  | cons x l ih=>
   rw [bP,ah,qY,ih (by simp only [aI]at h1;omega) (eG.new _ _ _),aI];omega
 have ho:dT 27 4 pJ (w.alloc (.cells (l.flatMap pJ).toArray 27)) w.heap.size (.slice (some ⟨w.heap.size,0,none⟩) l.length l.length) l:=
  ⟨by rw [hl], .inr ⟨w.heap.size,l.length,_,rfl,ag _,hx,ag _,by simp only [maxLen];omega,by simp [hl],by simp;exact cE (df hl)⟩⟩
 exact ho.fy qY
theorem vq {ops:Array Oper} {rest:List Oper} {o:Oper} {a:Act} {Q:Exit ->Act ->World ->Prop} (w0 w:World) (N0:o.guard=none) (s x:Operand)
  (ho:o.op= .call {callee:= .builtin .append,args:=#[s,x],argTypes:=#[24,24]}) (v:Value) (l:List eK) (hs:a.eval s=v) (hJ:BJ l w0 w v) (m:List eK) (cs:Array Value) (QA:cs=(m.flatMap pJ).toArray) (n:Nat) (hm:m.length=n) (hx:a.eval x= .slice (some ⟨w.heap.size,0,none⟩) n n) (hl:l.length+n <=1000)
  (h:∀av cv w',BJ (l++m) w0 w' (.slice av (l.length+n) cv) ->wpList prog ops Q rest (a.put o.dst (.slice av (l.length+n) cv)) w'):
  wpList prog ops Q (o::rest) a (w.alloc (.cells cs 27)):=by
 subst QA;have hb:=(an w.heap.size w).alloc (ag _) (.cells (m.flatMap pJ).toArray 27);have Kx:=hJ.2.trans (hb.mono hJ.2.size);have hJ1:=hJ.1.below hb;refine rm _ N0 s x 24 ho _ 48 (by kernel_rfl) mY rfl (by decide) (by decide) w0.heap.size v l hs hJ1 qY _ m hx (Fl w m n hm (by omega)) (fun y _=>zM y) (by omega) Kx.size ?_;intro v' w' h1 h2 _;obtain⟨av,cv,hv,-,-⟩:=h1.slice;rw [ah,hm]at hv;subst hv;exact h av cv w' ⟨h1,Kx.trans (h2.below Kx.size (fun g hg=>(et hJ1 hg).1))⟩
theorem iT.Je {w:World} {F FX:Nat ->Bool} {X b:Nat} {iv:pG} {m:ez} {pre post:List Value} {t:TypeId} {dZ:List fa} {lo:List eV} {fq:eV} {asks:Int} (h:iT w F FX X b iv m pre post t ⟨dZ,lo++[fq],asks⟩):
  ∃g cap al cl la lc,(F b=false/\F g=false)/\w.cell? ⟨b,pre.length+1,none⟩=some (.slice (some ⟨g,0,none⟩) (lo.length+1) cap)/\lo.length+1 <=cap/\cap <=9223372036854775807/\
   (w.cell? ⟨g,lo.length*5,none⟩=some (.int .i64 fq.fn)/\w.cell? ⟨g,lo.length*5+1,none⟩=some (.int .i64 fq.pc)/\w.cell? ⟨g,lo.length*5+2,none⟩=some (.slice al fq.locals.length cl)/\w.cell? ⟨g,lo.length*5+3,none⟩=some (.int .i64 fq.base)/\w.cell? ⟨g,lo.length*5+4,none⟩=some (.slice la fq.labels.length lc))/\fq.locals.length <=cl/\cl <=9223372036854775807/\
   ∀j l,fq.locals[j]?=some l ->∃bl ol,al=some ⟨bl,ol,none⟩/\w.cell? ⟨bl,ol+j*2+1,none⟩=some (.int .i64 l.n):=by
 obtain⟨uv,g,cap,us,u,h1,h2⟩:=h.shape;obtain⟨⟨p0,p1,p2,p3,p4⟩,hf,-,-,-,Mj,Lj⟩:=h1.cells;have hl:=hf.1.fy fK;obtain⟨al,cl,hu,h3,h4⟩:=hl.sl;rw [hu]at p2 hl;obtain⟨la,lc,MG,-,-⟩:=(hf.2.fy lK).sl;rw [MG]at p4;refine⟨g,cap,al,cl,la,lc,⟨h2 b (.inl rfl),h2 g (.inr (.inr (.inl (by simp [eA,Value.ownBlock]))))⟩,h1.c1,Mj,Lj,⟨p0,p1,p2,p3,p4⟩,h3,h4,fun j l hj=>?_⟩;obtain⟨bl,ol,cl',he,-,-,-,hc⟩:=eg.at hl hj;injection he with he;exact⟨bl,ol,he,hc 1 _ rfl⟩
theorem uL (a v:Int) (w:World) (ha1:(Lit.int .i64 a).wf=true) (_:(Lit.int .i64 v).wf=true):Calls prog 5 #[.int .i64 a, .int .i64 v] w (ko w):=by
 have ha:iI a:=by
  simp [Lit.wf,IntKind.min,IntKind.max,IntKind.signed,IntKind.bits]at ha1;unfold iI;omega
 clear ha1;go_enter func5,ntmps5;go_wp2_with fail;refine(zk w).mono ?_;rintro x WS ⟨rfl,hb⟩;have HW0:=V hb;have HA:=V ha;clear hb ha;by_cases q1:v < 0
 ·have f1:decide (v < 0)=true:=aA q1
  go_wp2_with fail;go_ret;exact⟨rfl,HW0.out⟩
 by_cases q2:20 < v
 ·have f1:decide (v < 0)=false:=az q1
  have f2:decide (20 < v)=true:=aA q2;go_wp2_with fail;go_ret;exact⟨rfl,HW0.out⟩
 obtain⟨v,rfl⟩:=Int.eq_ofNat_of_zero_le (show 0 <=v by omega);have hv:v <=20:=by omega
 have f1:decide ((v:Int) < 0)=false:=az q1;have f2:decide (20 < (v:Int))=false:=az q2;clear q1 q2;go_wp2_with fail;clear f1 f2;refine CY (fun a' w'=>∃(i:Nat) (x:Value),a'=fr (.int .i64 a:: .int .i64 v::gs a' 2 4 (x:: .int .i64 i::gs a' 8 167 []))/\i <=v/\BJ (List.replicate i (iR 0)) WS w' x) (fun a' _=>(v - (intOf (a'.tmps.getD 7 undef)).toNat))
  (fun a' w'=>∃(x:Value),a'=fr (.int .i64 a:: .int .i64 v::gs a' 2 4 (x::gs a' 7 168 []))/\BJ (List.replicate v (iR 0)) WS w' x) ?_ ?_ ?_
 ·exact⟨0, .slice none 0 0,rfl,bK _,dT.nil _ _,an _ _⟩
 ·skip
  rintro R Y a' w1 ⟨i,x,Kw,hJ⟩ HR HY;dsimp only [fr,gs]at Kw;generalize slot a'=f at Kw;subst Kw;obtain⟨hi,hB⟩:=hJ;have HB:=V hB;by_cases q:i < v;rotate_left
  ·have f1:decide ((i:Int) < (v:Int))=false:=az (by omega)
   obtain rfl:v=i:=by omega
   clear hB;go_wp2_with fail;exact HY.out _ _ ⟨x,rfl,HB.out⟩
  have f1:decide ((i:Int) < (v:Int))=true:=aA (by omega);obtain⟨av,cv,LV,-,-⟩:=hB.1.slice;subst LV;clear hB;go_wp2_with (first | (at_builtin;refine xG WS w1 rfl _ _ rfl _ _ rfl HB.out (iR 0) _ rfl rfl (by rw [aY];omega) ?_));intro Pd cv2 w2 Oj;have K6:=V (show BJ (List.replicate (i+1) (iR 0)) WS w2 _ by rw [List.replicate_succ'];exact Oj);clear Oj f1;go_wp2_with fail;refine HR.out _ _ ⟨i+1,_,rfl,by omega,K6.out⟩ ?_;simp [intOf];omega
 ·skip
  rintro a' w1 ⟨x,Kw,hJ⟩;dsimp only [fr,gs]at Kw;generalize slot a'=f at Kw;subst Kw;have HB:=V hJ;obtain⟨av,cv,LV,-,-⟩:=hJ.1.slice;subst LV;clear hJ;go_wp2_with (first | (at_builtin;refine vq WS w1 rfl _ _ rfl _ _ rfl HB.out (sf a) _ rfl 4 rfl rfl (by rw [aY];omega) ?_));intro Pd cv2 w2 Oj;have HB:=V Oj.2;have Pw:=V (DS (Oj.1.fy qY) (AS HA.out));clear Oj;go_wp2_with fail;have E:=Dw hv _ w2 Pw.out;rw [show((v+3:Nat):Int)=(v:Int)+3 by omega]at E;refine bV E ?_;clear E Pw;rintro x w3 ⟨X,b,F,FX,iv,ao,co,rfl,KH,hf,hb⟩;have KJ:=(an w3.heap.size w3).alloc (ag _) (.cells #[.int .i64 1, .int .i64 0, .int .i64 0, .slice ao 0 co] 32);obtain⟨Y,hY⟩:∃Y,Y=w3.heap.size:=⟨_,rfl⟩;have Nu:=V (KH.add KJ Y (by omega) (by simp;omega));have HY:=V (eG.new w3 #[.int .i64 1, .int .i64 0, .int .i64 0, .slice ao 0 co] 32);rw [<- hY]at HY;have HW:=V HB.out.size;have HYW:=V (show WS.heap.size <=Y by rw [hY];exact(dY HB.out hb).size);have HB:=V (dY (dY HB.out hb) KJ);obtain⟨F',Qy⟩:∃F':Nat ->Bool,F'=fun g=>F g || decide (g=Y):=⟨_,rfl⟩;rw [<- Qy]at Nu;have P9:=V (show∀i,F' i=false ->WS.heap.size <=i by
   intro i hi;rw [Qy,dq]at hi;have:=hf i hi.1;have:=HW.out;omega)
  have Qz:=V (show F' Y=true by rw [Qy];simp);clear KH hf hb KJ Qy;have M4:=V Nu.out;rw [BI]at Nu;obtain⟨a0,k0,x0,-,Po⟩:=iT.c0 Nu.out;obtain⟨g1,k1,al,cl,la,lc,-,x1,LN,hk1m,⟨p0,p1,p2,p3,p4⟩,O8,hclm,hat⟩:=iT.Je Nu.out;obtain⟨bl,ol,rfl,y0⟩:=hat 0 _ rfl;obtain⟨bl2,ol2,he,y1⟩:=hat 1 _ rfl;injection he with he;injection he with Mi Mu;subst Mi Mu;have MN:(List.replicate v (⟨1,0⟩:fa)).length=v:=aY;replace x0:World.cell? _ ⟨b,0,none⟩=some (.slice a0 (List.replicate v (⟨1,0⟩:fa)).length k0):=x0;rw [MN]at x0;replace x1:World.cell? _ ⟨b,1,none⟩=some (.slice (some ⟨g1,0,none⟩) 2 k1):=x1;replace p0:World.cell? _ ⟨g1,5,none⟩=some (.int .i64 3):=p0;replace p1:World.cell? _ ⟨g1,6,none⟩=some (.int .i64 0):=p1;replace p2:World.cell? _ ⟨g1,7,none⟩=some (.slice (some ⟨bl,ol,none⟩) 2 cl):=p2;replace p3:World.cell? _ ⟨g1,8,none⟩=some (.int .i64 (v:Int)):=p3;replace p4:World.cell? _ ⟨g1,9,none⟩=some (.slice la 0 lc):=p4;replace y0:World.cell? _ ⟨bl,ol+1,none⟩=some (.int .i64 a):=y0;replace y1:World.cell? _ ⟨bl,ol+3,none⟩=some (.int .i64 7):=y1;have hk1':2 <=k1:=LN;have hcl':2 <=cl:=O8;have f1:((v:Int) !=(v:Int))=false:=jN rfl;have f2:(a !=a)=false:=jN rfl;have HYE:=V hY;have hbF:=(an _ (w3.alloc (.cells #[.int .i64 1, .int .i64 0, .int .i64 0, .slice ao 0 co] 32))).alloc (ag _) (.cells #[.int .i64 3, .int .i64 0, .slice (some ⟨bl,ol,none⟩) 2 cl, .int .i64 (v:Int), .slice la 0 lc] 40);have y2:=(Ext.dW hbF).1 _ _ y0;have y3:=(Ext.dW hbF).1 _ _ y1;have M4:=V (M4.out.below hbF);have HY:=V (HY.out.below hbF HY.out.lt);have HB:=V (dY HB.out hbF);clear hY LN O8 hat MN hbF;go_wp2_with fail;rw [<- HYE.out];clear x0 x1 p0 p1 p2 p3 p4 y0 y1 y2 y3 Nu;generalize(w3.alloc (.cells #[.int .i64 1, .int .i64 0, .int .i64 0, .slice ao 0 co] 32)).alloc (.cells #[.int .i64 3, .int .i64 0, .slice (some ⟨bl,ol,none⟩) 2 cl, .int .i64 (v:Int), .slice la 0 lc] 40)=WA at M4 HY HB⊢;refine(DG hv WA F' FX X b iv M4.out).mono ?_;rintro x w4 ⟨vv,rfl,KH,Oe,hkp⟩;obtain⟨a5,c5,rfl,-,-⟩:=Oe.slice;have HY:=V (HY.out.keeps hkp (by simp [Qz.out]));have HB:=V (HB.out.trans (hkp.below HB.out.size P9.out));have M4:=V KH;clear Oe hkp KH;simp only [nd,iV.more,aK];go_wp2_with fail;refine(IS hv w4 F' FX X b iv M4.out).mono ?_;rintro x w5 ⟨vv,rfl,KH,Oe,hkp⟩;obtain⟨a6,c6,rfl,-,-⟩:=Oe.slice;have HY:=V (HY.out.keeps hkp (by simp [Qz.out]));have HBZ:=V (HB.out.trans (hkp.below HB.out.size P9.out));obtain⟨a0,k0,x0,hvals,Po⟩:=iT.c0 KH;obtain⟨g1,k1,al,cl,la,lc,⟨hFb,hFg⟩,x1,LN,hk1m,⟨p0,p1,p2,p3,p4⟩,-,-,-⟩:=iT.Je KH;have MN:(List.replicate v (⟨1,0⟩:fa)++[(⟨2,a⟩:fa)]).length=v+1:=by simp
  have hvi:(List.replicate v (⟨1,0⟩:fa)++[(⟨2,a⟩:fa)])[v]?=some ⟨2,a⟩:=by rw [bg (by simp)];simp
  obtain⟨bv,ov,cv2,hvv2,LC,hcv2,-,Ln⟩:=eg.at hvals hvi;rw [MN]at hvv2 LC;replace x0:w5.cell? ⟨b,0,none⟩=some (.slice a0 (List.replicate v (⟨1,0⟩:fa)++[(⟨2,a⟩:fa)]).length k0):=x0;rw [MN]at x0;injection hvv2 with e4 e5 e6;subst e4 e6;have d0:w5.cell? ⟨bv,ov+v*2,none⟩=some (.int .i64 2):=Ln 0 _ rfl;have d1:w5.cell? ⟨bv,ov+v*2+1,none⟩=some (.int .i64 a):=Ln 1 _ rfl;replace x0:w5.cell? ⟨b,0,none⟩=some (.slice (some ⟨bv,ov,none⟩) (v+1) k0):=x0;replace x1:w5.cell? ⟨b,1,none⟩=some (.slice (some ⟨g1,0,none⟩) 1 k1):=x1;replace p1:w5.cell? ⟨g1,1,none⟩=some (.int .i64 ((v:Int)+3)):=by
   rw [show(v:Int)+3=((v+3:Nat):Int)by omega];exact p1
  have Ma:b≠Y:=by
   intro e;rw [e,Qz.out]at hFb;cases hFb
  have hne2:g1≠Y:=by
   intro e;rw [e,Qz.out]at hFg;cases hFg
  have hne3:bv≠Y:=by
   intro e;obtain⟨vS,h1,h2⟩:=KH.st;obtain⟨g,cap,cur,hu,-⟩:=h1.dZ.open (by simp);have h3:=h1.c0.symm.trans x0;have h4:=h2 g (.inr (.inl (by rw [hu];simp [eA,Value.ownBlock])));rw [hu]at h3;injection h3 with h3;injection h3 with h3;injection h3 with h3;injection h3 with h3;rw [h3,e,Qz.out]at h4;cases h4
  have hk1':1 <=k1:=LN;have f3:((v:Int)+1==(v:Int)+1)=true:=eH rfl;have f4:((v:Int)+3==(v:Int)+3)=true:=eH rfl;have f5:(a==a)=true:=eH rfl;clear Oe hkp KH hvals MN hvi Ln p0 p2 p3 p4 e5 LN;simp only [nd,iV.more,aK];obtain⟨⟨y0,y1,y2,y3⟩,z0,z1,z2,z3⟩:=HY.out.four;go_wp2_with fail;go_ret;have Kz:=gy w5 Y 1 0 0 (.slice a6 0 c6);exact⟨rfl,dY HW0.out (HBZ.out.trans (Kz.below HBZ.out.size (fun g hg=>by rw [hg];exact HYW.out)))⟩
end Go.Proofs.YthbjdhjppbcneaaGreatDoor
