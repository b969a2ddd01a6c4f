import Derived.Test.YthbjdhjppbcneaaGreatDoorBlocksJ14
namespace Go.Proofs.YthbjdhjppbcneaaGreatDoor
set_option maxRecDepth 100000
set_option maxHeartbeats 20000000
open Go.RowKit Tryz
open Lib renaming hid->V
set_option linter.all false
theorem zM (w:World):Calls prog 39 #[] w (kF w):=by
 have HF:=V po;go_enter func39,ntmps39;go_wp2_with fail;refine(iW w).mono ?_;rintro x w1 ⟨rfl,hs,hb,-⟩;have HB:=V hb;have HI:=V (hs.is (hs.body 3 (ag _)) (by simp [iP]));clear hs hb;go_wp2_with fail;refine(mm (fy 0 ij) (iu w.heap.size) _ HI.out (lu _ _) (fun c hc=>fun x hx=>((iG 0 ij lQ c hc).2 x hx).2) (by decide) rfl).mono ?_;rintro x w2 ⟨hb,⟨hr,-⟩ | ⟨-,hr,-⟩ | ⟨X,FX,FM,FSs,iv,sp,-,hr,rfl,Mh,hm,Rw,-,-⟩⟩
 ·exact absurd HF.out.1 hr
 ·exact absurd (sV.symm.trans hr) (by simp)
 have LW:=V Mh;have HB:=V (ei HB.out hb);obtain⟨m,Pq⟩:∃m,m=fy 0 ij:=⟨_,rfl⟩;have hvm:iv.vm= .pointer none:=by
  rcases hm with⟨-,h⟩ | ⟨x,_,_,_,h,-⟩
  ·exact h
  ·exact absurd ((show jy (fy 0 ij).mem=none from rfl).symm.trans h) (by simp)
 obtain⟨XS,hvs⟩:∃XS,iv.vs= .pointer (some ⟨XS,0,none⟩):=by
  obtain⟨XS,_,_,h,-⟩:=Rw;exact⟨XS,h⟩
 have HVM:=V hvm;have HVS:=V hvs;clear Mh hm Rw hr hb HI hvm hvs;rw [<- Pq]at LW;have HM:=V Pq;clear Pq;go_wp2_with fail;refine(mm sj _ _ (xN w2) qT (fun c hc=>by cases hc) (by decide) rfl).mono ?_;rintro x w3 ⟨hb,⟨-,rfl⟩ | ⟨hr,-⟩ | ⟨_,_,_,_,_,_,hr,-⟩⟩;rotate_left
 ·exact absurd (HF.out.2.2.symm.trans hr) (by decide)
 ·exact absurd (HF.out.2.2.symm.trans hr) (by decide)
 have LC:=(an w2.heap.size w2).alloc (ag _) (.cells #[.int .i64 0] 3);have LW:=V (ju.below LW.out LC);have HB:=V (ei HB.out LC);clear LC;have LW:=V (ju.below LW.out hb);have HB:=V (ei HB.out hb);clear hb;go_wp2_with fail;refine(ru w3 FX X iv m LW.out ⟨[1,1],[1]⟩ 0 (.inr ⟨0,0,by rw [HM.out];rfl,by rw [HM.out];rfl,by rw [HM.out];rfl⟩) (by rw [HM.out];decide)).mono ?_;rintro x w4 ⟨u1,u2,rfl,h1,h2,hb⟩;obtain⟨a1,k1,rfl,-,-⟩:=h1.sl;obtain⟨a2,k2,rfl,-,-⟩:=h2.sl;clear h1 h2;have LW:=V (ju.below LW.out hb);have HB:=V (ei HB.out hb);clear hb;have HX:=V (eP.new w4 #[.slice a1 2 k1, .slice a2 1 k2] 109);have hb:=(an w4.heap.size w4).alloc (ag _) (.cells #[.slice a1 2 k1, .slice a2 1 k2] 109);have LW:=V (ju.below LW.out hb);have HB:=V (ei HB.out hb);clear hb;go_wp2_with fail;obtain⟨be,oe,ke,Mx,hke,hkm,-,hce⟩:=ew.at LW.out.is.2.2.2.2.1 (i:=0) (x:=⟨nF,0⟩) (by rw [HM.out];rfl);have Ro:m.ep.length=1:=by rw [HM.out];rfl
 rw [Ro]at Mx hke;have x10:_=some iv.u.ep:=LW.out.km.cell 10;rw [Mx]at x10;have e0:World.cell? _ ⟨be,oe,none⟩=_:=hce 0 _ rfl;have e1:World.cell? _ ⟨be,oe+1,none⟩=_:=hce 1 _ rfl;clear hce Ro Mx;refine(vT _ X be oe ke 0 nF x10 ⟨hke,hkm⟩ e0 e1).mono ?_;rintro x w5 ⟨rfl,hb⟩;have HX:=V (HX.out.below hb HX.out.lt);have LW:=V (ju.below LW.out hb);have HB:=V (ei HB.out hb);clear hb;go_wp2_with fail;obtain⟨be,oe,ke,Mx,hke,hkm,-,hce⟩:=ew.at LW.out.is.2.2.2.2.1 (i:=0) (x:=⟨nF,0⟩) (by rw [HM.out];rfl);have Ro:m.ep.length=1:=by rw [HM.out];rfl
 rw [Ro]at Mx hke;have x10:_=some iv.u.ep:=LW.out.km.cell 10;rw [Mx]at x10;have e0:World.cell? _ ⟨be,oe,none⟩=_:=hce 0 _ rfl;have e1:World.cell? _ ⟨be,oe+1,none⟩=_:=hce 1 _ rfl;clear hce Ro Mx;refine(vn _ X be oe ke 0 nF ⟨#[120]⟩ x10 ⟨hke,hkm⟩ e0 e1 (by rw [dB,dB];rfl)).mono ?_;rintro x w6 ⟨rfl,hb⟩;have HX:=V (HX.out.below hb HX.out.lt);have LW:=V (ju.below LW.out hb);have HB:=V (ei HB.out hb);clear hb;go_wp2_with fail;refine(sD _).mono ?_;rintro x w7 ⟨rfl,hs,hb,-⟩;have HI:=V (hs.is (et.nil _));clear hs;have HX:=V (HX.out.below hb HX.out.lt);have LW:=V (ju.below LW.out hb);have HB:=V (ei HB.out hb);clear hb;go_wp2_with fail;refine(mm (fe []) (rh w6.heap.size) _ HI.out (tY _) (by unfold eS.mE;decide) (by decide) rfl).mono ?_;rintro x w8 ⟨hb,⟨hr,-⟩ | ⟨-,hr,-⟩ | ⟨Y,FY,_,_,iv2,_,-,-,rfl,hin2,-,-,-,-⟩⟩
 ·exact absurd AS hr
 ·exact absurd ((tM []).symm.trans hr) (by simp)
 have NL:=V hin2;clear hin2 HI;have HX:=V (HX.out.below hb HX.out.lt);have LW:=V (ju.below LW.out hb);have HB:=V (ei HB.out hb);clear hb;go_wp2_with fail;refine(Bx _).mono ?_;rintro x w9 ⟨rfl,hb⟩;have NL:=V (ju.below NL.out hb);have HX:=V (HX.out.below hb HX.out.lt);have LW:=V (ju.below LW.out hb);have HB:=V (ei HB.out hb);clear hb;have t1:=HX.out.cell 0;go_wp2_with fail;refine(zb _ X (.pointer none) (by rw [<- HVM.out];exact LW.out.km.cell 14)).mono ?_;rintro x w10 ⟨rfl,hb⟩;have NL:=V (ju.below NL.out hb);clear t1;have HX:=V (HX.out.below hb HX.out.lt);have LW:=V (ju.below LW.out hb);have HB:=V (ei HB.out hb);clear hb;go_wp2_with fail;refine(vY _ X (.pointer (some ⟨XS,0,none⟩)) (by rw [<- HVS.out];exact LW.out.km.cell 15)).mono ?_;rintro x Sc ⟨rfl,hb⟩;have NL:=V (ju.below NL.out hb);have HX:=V (HX.out.below hb HX.out.lt);have LW:=V (ju.below LW.out hb);have HB:=V (ei HB.out hb);clear hb;go_wp2_with fail;refine(mU _ FX X iv m LW.out 0).mono ?_;rintro x w12 ⟨rfl,hb⟩;rw [show nw m 0=false by rw [HM.out];rfl];have NL:=V (ju.below NL.out hb);have HX:=V (HX.out.below hb HX.out.lt);have LW:=V (ju.below LW.out hb);have HB:=V (ei HB.out hb);clear hb;go_wp2_with fail;refine(mU _ FY Y iv2 (fe []) NL.out 0).mono ?_;rintro x w13 ⟨rfl,hb⟩;rw [show nw (fe []) 0=true by rfl];have HX:=V (HX.out.below hb HX.out.lt);have LW:=V (ju.below LW.out hb);have HB:=V (ei HB.out hb);clear hb;go_wp2_with fail;go_ret;exact⟨rfl,HB.out⟩
theorem zR (w:World):Calls prog 13 #[] w (kF w):=by
 go_enter func13,ntmps13;go_wp2_with fail;refine(zM w).mono ?_;rintro x w1 ⟨rfl,hb⟩;go_wp2_with fail;go_ret;exact⟨rfl,hb⟩
theorem xr (w:World) (v:fm):ew 2 gw (w.alloc (.cells #[.int .i64 v.kind, .int .i64 v.n] 42)) (.slice (some ⟨w.heap.size,0,none⟩) 1 1) [v]:=by
 refine⟨_,1,rfl,ag _,by simp [maxLen],fun i y hy=>⟨w.heap.size,0,rfl,by simp,fun j x hx=>?_⟩⟩;rw [bQ]
 match i,hy with
 | 0,hy=>
  simp at hy;subst hy
  match j,hx with
  | 0,hx | 1,hx=>simp [gw]at hx;subst hx;rfl
  | j+2,hx=>simp [gw]at hx
 | i+1,hy=>simp at hy
theorem C9 (w:World) (v:jD):ew 2 kq (w.alloc (.cells #[.int .i64 v.pos, .int .i64 v.eR] 46)) (.slice (some ⟨w.heap.size,0,none⟩) 1 1) [v]:=by
 refine⟨_,1,rfl,ag _,by simp [maxLen],fun i y hy=>⟨w.heap.size,0,rfl,by simp,fun j x hx=>?_⟩⟩;rw [bQ]
 match i,hy with
 | 0,hy=>
  simp at hy;subst hy
  match j,hx with
  | 0,hx | 1,hx=>simp [kq]at hx;subst hx;rfl
  | j+2,hx=>simp [kq]at hx
 | i+1,hy=>simp at hy
theorem yS (w:World) (f:fc) (u x:Value) (hf:f.ok) (hu:ew 2 gw w u f.locals) (hx:ew 2 kq w x f.labels):
  gr (w.alloc (.cells #[.int .i64 f.fn, .int .i64 f.pc,u, .int .i64 f.base,x] 40)) (.slice (some ⟨w.heap.size,0,none⟩) 1 1) [f]:=by
 have hb:=(an w.heap.size w).alloc (ag _) (.cells #[.int .i64 f.fn, .int .i64 f.pc,u, .int .i64 f.base,x] 40);refine⟨[(u,x)],rfl,⟨_,1,rfl,ag _,by simp [maxLen],fun i y hy=>⟨w.heap.size,0,rfl,by simp,fun j v hv=>?_⟩⟩,fun i e v he hv=>?_,fun e he=>?_⟩
 ·rw [bQ]
  match i,hy with
  | 0,hy=>
   simp at hy;subst hy
   match j,hv with
   | 0,hv | 1,hv | 2,hv | 3,hv | 4,hv=>simp [mg]at hv;subst hv;rfl
   | j+5,hv=>simp [mg]at hv
  | i+1,hy=>simp at hy
 ·match i,he,hv with
  | 0,he,hv=>
   simp at he hv;subst he hv;exact⟨hu.below hb,hx.below hb⟩
  | i+1,he,hv=>simp at he
 ·simp at he
  rw [he];exact hf
def KJ:gV:=⟨[⟨1,-5⟩],[⟨2,7,[⟨2,0⟩],0,[⟨1,1⟩]⟩],-1⟩
theorem Ba:KJ.ok:=by
 refine⟨⟨by decide,by decide⟩,fun v hv=>?_,fun f hf=>?_⟩
 ·obtain rfl:=aQ.1 hv
  exact⟨⟨by decide,by decide⟩,by decide,by decide⟩
 ·obtain rfl:=aQ.1 hf
  refine⟨⟨by decide,by decide⟩,⟨by decide,by decide⟩,⟨by decide,by decide⟩,fun v hv=>?_,fun v hv=>?_⟩
  ·obtain rfl:=aQ.1 hv
   exact⟨⟨by decide,by decide⟩,by decide,by decide⟩
  ·obtain rfl:=aQ.1 hv
   exact⟨⟨by decide,by decide⟩,by decide,by decide⟩
theorem ID:KJ.may:=by decide
theorem uC (w:World):Calls prog 40 #[] w (kF w):=by
 obtain⟨s,hs⟩:∃s,s=KJ:=⟨_,rfl⟩;have HM:=V (show s.may by rw [hs];exact ID);have ME:=V (show s.ok by rw [hs];exact Ba);have HSE:=V hs;have N1:s.asks= -1:=by rw [hs];rfl
 clear hs;go_enter func40,ntmps40;go_wp2_with fail;obtain⟨w1,Qn⟩:∃w1,w1=w.alloc (.cells #[.int .i64 1, .int .i64 (-5)] 42):=⟨_,rfl⟩;obtain⟨w2,N8⟩:∃w2,w2=w1.alloc (.cells #[.int .i64 2, .int .i64 0] 42):=⟨_,rfl⟩;obtain⟨w3,hw3⟩:∃w3,w3=w2.alloc (.cells #[.int .i64 1, .int .i64 1] 46):=⟨_,rfl⟩;have MU:w1.heap.size=w.heap.size+1:=by rw [Qn];exact aE _ _
 have LB:w2.heap.size=w.heap.size+1+1:=by rw [N8,aE,MU]
 have M0:w3.heap.size=w.heap.size+1+1+1:=by rw [hw3,aE,LB]
 obtain⟨w4,hw4⟩:∃w4,w4=w3.alloc (.cells #[.int .i64 2, .int .i64 7, .slice (some ⟨w.heap.size+1,0,none⟩) 1 1, .int .i64 0, .slice (some ⟨w.heap.size+1+1,0,none⟩) 1 1] 40):=⟨_,rfl⟩;have Nr:w4.heap.size=w.heap.size+1+1+1+1:=by rw [hw4,aE,M0]
 have h1:ew 2 gw w1 (.slice (some ⟨w.heap.size,0,none⟩) 1 1) [⟨1,-5⟩]:=by rw [Qn];exact xr w ⟨1,-5⟩
 have h2:ew 2 gw w2 (.slice (some ⟨w.heap.size+1,0,none⟩) 1 1) [⟨2,0⟩]:=by rw [N8, <- MU];exact xr w1 ⟨2,0⟩
 have h3:ew 2 kq w3 (.slice (some ⟨w.heap.size+1+1,0,none⟩) 1 1) [⟨1,1⟩]:=by rw [hw3, <- LB];exact C9 w2 ⟨1,1⟩
 have b1:Below w.heap.size w w1:=by rw [Qn];exact(an _ _).alloc (ag _) _
 have b2:Below w1.heap.size w1 w2:=by rw [N8];exact(an _ _).alloc (ag _) _
 have b3:Below w2.heap.size w2 w3:=by rw [hw3];exact(an _ _).alloc (ag _) _
 have b4:Below w3.heap.size w3 w4:=by rw [hw4];exact(an _ _).alloc (ag _) _
 have h4:gr w4 (.slice (some ⟨w.heap.size+1+1+1,0,none⟩) 1 1) [⟨2,7,[⟨2,0⟩],0,[⟨1,1⟩]⟩]:=by
  rw [hw4, <- M0];exact yS w3 ⟨2,7,[⟨2,0⟩],0,[⟨1,1⟩]⟩ _ _ (Ba.2.2 _ (by simp [KJ])) (h2.below b3) h3
 have b14:Below w1.heap.size w1 w4:=ei (ei b2 b3) b4;have hst4:jP w4 (.slice (some ⟨w.heap.size,0,none⟩) 1 1) (.slice (some ⟨w.heap.size+1+1+1,0,none⟩) 1 1) s:=by
  rw [HSE.out];exact⟨h1.below b14,h4,Ba⟩
 have Nl:Below w.heap.size w w4:=ei b1 b14;have P8:=eP.new w4 #[.slice (some ⟨w.heap.size,0,none⟩) 1 1, .slice (some ⟨w.heap.size+1+1+1,0,none⟩) 1 1, .int .i64 (-1)] 37;have b5:=(an w4.heap.size w4).alloc (ag _) (.cells #[.slice (some ⟨w.heap.size,0,none⟩) 1 1, .slice (some ⟨w.heap.size+1+1+1,0,none⟩) 1 1, .int .i64 (-1)] 37);rw [Nr]at P8;rw [<- Qn, <- N8, <- hw3, <- hw4];have LI:=hst4.below b5;have hb:=ei Nl b5;clear h1 h2 h3 h4 b1 b2 b3 b4 b14 hst4 Nl b5 MU LB M0 Nr Qn N8 hw3 hw4;obtain⟨X,hX⟩:∃X,w.heap.size+1+1+1+1=X:=⟨_,rfl⟩;obtain⟨D,hD⟩:∃D,w.heap.size+1+1+1=D:=⟨_,rfl⟩;rw [hX,hD]at P8⊢;rw [hD]at LI hb;clear hX hD;generalize w4.alloc (.cells #[.slice (some ⟨w.heap.size,0,none⟩) 1 1, .slice (some ⟨D,0,none⟩) 1 1, .int .i64 (-1)] 37)=w0 at LI hb P8⊢;have Ls:=V LI;have HX:=V P8;have E1:=mF _ _ s w0 LI;rw [N1]at E1;have E1:=V E1;clear LI P8;refine E1.out.mono ?_;rintro x w5 ⟨c,rfl,Mw,hc⟩;rcases hc with⟨-,hc⟩ | ⟨h,-⟩;rotate_left
 ·exact absurd HM.out h
 obtain⟨M9,Mj⟩:=B7 HM.out ME.out;obtain⟨C,hC⟩:∃C,C=jd s:=⟨_,rfl⟩;rw [<- hC]at hc M9 Mj;have HCI:=V hc.fF;have HC:=V hC;have Ls:=V (Ls.out.below Mw);have HX:=V (HX.out.below Mw HX.out.lt);replace hb:=ei hb Mw;have PD:C.length <=400000:=by omega
 clear Mw hc hC E1 M9 Mj;go_wp2_with fail;refine(rA _ _ _ HCI.out PD).mono ?_;rintro x w6 ⟨Ov,uv2,uf2,s2,err,rfl,hst2,hd⟩;rcases hd with⟨rfl,hm2,heq⟩ | ⟨-,-,h⟩;rotate_left
 ·exact absurd ⟨s,HM.out,ME.out,HC.out.symm⟩ h
 obtain rfl:=AN hm2 hst2.2.2 HM.out ME.out (heq.trans HC.out);obtain⟨M4,hf2,-⟩:=id hst2;obtain⟨PK,OK,rfl,_,_,_⟩:=M4;obtain⟨af2,OL,rfl,_,_⟩:=hf2.slice;rw [N1];have OX:=eP.new w6 #[.slice PK s2.ej.length OK, .slice af2 s2.ey.length OL, .int .i64 (-1)] 37;have NN:=(an w6.heap.size w6).alloc (ag _) (.cells #[.slice PK s2.ej.length OK, .slice af2 s2.ey.length OL, .int .i64 (-1)] 37);have b6:=ei Ov NN;have Ls:=V (Ls.out.below b6);have HX:=V (HX.out.below b6 HX.out.lt);have MY:=V (hst2.below NN);replace hb:=ei hb b6;clear b6 Ov NN hm2 heq hst2 HCI HC PD hf2;go_wp2_with fail;obtain⟨X2,hX2⟩:∃X2,X2=w6.heap.size:=⟨_,rfl⟩;rw [<- hX2]at OX⊢;clear hX2;have LD:=V OX;clear OX;generalize w6.alloc (.cells #[.slice PK s2.ej.length OK, .slice af2 s2.ey.length OL, .int .i64 (-1)] 37)=w7 at hb Ls HX MY LD⊢;refine(rA _ [] _ (eW.nil _) (by simp)).mono ?_;rintro x w8 ⟨hb8,uv3,uf3,s3,err,rfl,hst3,hd⟩;rcases hd with⟨-,-,heq⟩ | ⟨rfl,rfl,-⟩
 ·exact absurd heq (xe s3)
 obtain⟨hv3,hf3,-⟩:=id hst3;obtain⟨av3,capv3,rfl,_,_,_⟩:=hv3;obtain⟨af3,capf3,rfl,_,_⟩:=hf3.slice;clear hf3 hst3;have NN:=(an w8.heap.size w8).alloc (ag _) (.cells #[.slice av3 ([]:List fm).length capv3, .slice af3 ([]:List fc).length capf3, .int .i64 0] 37);have b8:=ei hb8 NN;have Ls:=V (Ls.out.below b8);have HX:=V (HX.out.below b8 HX.out.lt);have MY:=V (MY.out.below b8);have LD:=V (LD.out.below b8 LD.out.lt);replace hb:=ei hb b8;obtain⟨x0,x1,x2⟩:=HX.out.three;clear b8 hb8 NN;simp only [aL]at*;go_wp2_with fail;clear x0 x1 x2;generalize w8.alloc (.cells #[.slice av3 0 capv3, .slice af3 0 capf3, .int .i64 0] 37)=w9 at hb Ls HX MY LD⊢;have Oo:s2.ej.length=1:=by rw [HSE.out];rfl
 have hfl:s2.ey.length=1:=by rw [HSE.out];rfl
 have E2:=wi _ _ s2 w9 Ls.out (by omega) (by omega) (by rw [HSE.out];intro f hf;obtain rfl:=aQ.1 hf;exact⟨by decide,by decide⟩);rw [N1]at E2;have E2:=V E2;refine E2.out.mono ?_;clear E2;rintro x w10 ⟨uv4,uf4,M,rfl,hb10,hM1,hM2,RV,hovM,Qk⟩;rw [N1];have QZ:=HX.out.lt;have hXl2:=LD.out.lt;obtain⟨g,OY,cur,rfl,PE,NY,hg3,hc4,hm4⟩:=RV.open (by intro h;rw [h]at Oo;simp at Oo);obtain⟨af4,N6,rfl,_,_⟩:=Qk.kp.slice;have Nq:s2.ej[0]?=some ⟨1,-5⟩:=by rw [HSE.out];rfl
 have hgM:g < M:=hovM g rfl;have fl:((s2.ej.length:Int) !=(1:Int))=false:=jI (by omega);have Pd:0 < s2.ej.length:=by omega
 have NN:=(an w10.heap.size w10).alloc (ag _) (.cells #[.slice (some ⟨g,0,none⟩) s2.ej.length OY, .slice af4 s2.ey.length N6, .int .i64 (-1)] 37);have hx6:=eP.new w10 #[.slice (some ⟨g,0,none⟩) s2.ej.length OY, .slice af4 s2.ey.length N6, .int .i64 (-1)] 37;have hovb:=RV.below NN;have hcfb:=Qk.keeps (ee.eh (S:=fun _=>False) NN) (fun i h=>h.elim);have bwb:=ei hb10 NN;have hg3b:(w10.alloc (.cells #[.slice (some ⟨g,0,none⟩) s2.ej.length OY, .slice af4 s2.ey.length N6, .int .i64 (-1)] 37)).heap[g]?=some (.cells cur 42):=(NN.block g NY).trans hg3;have c1:(w10.alloc (.cells #[.slice (some ⟨g,0,none⟩) s2.ej.length OY, .slice af4 s2.ey.length N6, .int .i64 (-1)] 37)).cell? ⟨g,1,none⟩=some (.int .i64 (-5)):=hovb.cell gB (i:=0) (j:=1) Nq rfl;have z1:(w10.alloc (.cells #[.slice (some ⟨g,0,none⟩) s2.ej.length OY, .slice af4 s2.ey.length N6, .int .i64 (-1)] 37)).frozen? ⟨g,1,none⟩=false:=dd _ g 1 cur _ hg3b;have hbs:=jh w10 g 1 (.int .i64 (-4));have hov9:=RV.set gB (i:=0) (j:=1) (u:= .int .i64 (-4)) (y:=⟨1,-4⟩) Nq (by omega) rfl;have Mr:(w10.setCell ⟨g,1,none⟩ (.int .i64 (-4))).heap.size=w10.heap.size:=by simp
 have hals:=(an (w10.setCell ⟨g,1,none⟩ (.int .i64 (-4))).heap.size (w10.setCell ⟨g,1,none⟩ (.int .i64 (-4)))).alloc (ag _) (.cells #[.slice (some ⟨g,0,none⟩) s2.ej.length OY, .slice af4 s2.ey.length N6, .int .i64 (-1)] 37);have hx6':eP ((w10.setCell ⟨g,1,none⟩ (.int .i64 (-4))).alloc (.cells #[.slice (some ⟨g,0,none⟩) s2.ej.length OY, .slice af4 s2.ey.length N6, .int .i64 (-1)] 37)) w10.heap.size #[.slice (some ⟨g,0,none⟩) s2.ej.length OY, .slice af4 s2.ey.length N6, .int .i64 (-1)] 37:=by
  have:=eP.new (w10.setCell ⟨g,1,none⟩ (.int .i64 (-4))) #[.slice (some ⟨g,0,none⟩) s2.ej.length OY, .slice af4 s2.ey.length N6, .int .i64 (-1)] 37;rw [Mr]at this;exact this
 have bwx:=(hb10.trans (hbs.below hb10.size (fun i h=>by omega))).trans (hals.mono (by rw [Mr];exact hb10.size));have HOV:=V (hov9.below hals);have HCF:=V ((Qk.keeps hbs (fun i h=>by omega)).keeps (ee.eh (S:=fun _=>False) hals) (fun i h=>h.elim));have RD:=V hx6';have L9:=V bwx;have HVL:=V Oo;obtain⟨p0,p1,p2⟩:=hx6.three;obtain⟨x0,x1,x2⟩:=(HX.out.below bwx QZ).three;clear RV Qk hovb hcfb hovM NN hg3 hb10 Nq hov9 Oo hfl bwb bwx hg3b hx6' hx6 hbs hals Mr;unfold maxLen at hm4;go_wp2_with fail;obtain⟨X6,hX6⟩:∃X6,X6=w10.heap.size:=⟨_,rfl⟩;rw [<- hX6]at RD⊢;clear hX6 c1 z1 p0 p1 p2 x0 x1 x2;generalize(w10.setCell ⟨g,1,none⟩ (.int .i64 (-4))).alloc (.cells #[.slice (some ⟨g,0,none⟩) s2.ej.length OY, .slice af4 s2.ey.length N6, .int .i64 (-1)] 37)=Sc at HOV HCF RD L9⊢;have Ls:=V (Ls.out.below L9.out);have HX:=V (HX.out.below L9.out HX.out.lt);have MY:=V (MY.out.below L9.out);have LD:=V (LD.out.below L9.out LD.out.lt);have HSC:=V (show jP Sc (.slice (some ⟨g,0,none⟩) s2.ej.length OY) (.slice af4 s2.ey.length N6) ⟨s2.ej.set 0 ⟨1,-4⟩,s2.ey,-1⟩from
  ⟨HOV.out.fR gB,HCF.out.kp,⟨by show(-9223372036854775808:Int) <= -1;omega,by show(-1:Int) <=9223372036854775807;omega⟩,by
   show∀v∈s2.ej.set 0 ⟨1,-4⟩,v.ok;rw [HSE.out];intro v hv;obtain rfl:=aQ.1 (show v∈[(⟨1,-4⟩:fm)]from hv);exact⟨⟨by decide,by decide⟩,by decide,by decide⟩,ME.out.2.2⟩)
 replace hb:=ei hb L9.out;clear HOV HCF L9 PE NY hgM hM1 hM2 hc4 hm4 fl Pd QZ hXl2;have E:=ow _ _ s2 Sc Ls.out;rw [N1]at E;have E:=V E;refine E.out.mono ?_;clear E;rintro x w12 ⟨rfl,LP⟩;have Ls:=V (Ls.out.below LP);have HX:=V (HX.out.below LP HX.out.lt);have MY:=V (MY.out.below LP);have LD:=V (LD.out.below LP LD.out.lt);have HSC:=V (HSC.out.below LP);have RD:=V (RD.out.below LP RD.out.lt);replace hb:=ei hb LP;clear LP;rw [aA HM.out];obtain⟨x0,x1,x2⟩:=HX.out.three;go_wp2_with fail;refine(ow _ _ ⟨[],[],-2⟩ w12 ⟨ew.nil _,gr.nil _,⟨by show(-9223372036854775808:Int) <= -2;omega,by show(-2:Int) <=9223372036854775807;omega⟩,by simp,by simp⟩).mono ?_;rintro x w13 ⟨rfl,LP⟩;rw [aq (show ¬ (⟨[],[],-2⟩:gV).may from fun h=>by have:(-1:Int) <= -2:=h.2.2.1;omega)];clear x0 x1 x2;have Ls:=V (Ls.out.below LP);have HX:=V (HX.out.below LP HX.out.lt);have MY:=V (MY.out.below LP);have LD:=V (LD.out.below LP LD.out.lt);have HSC:=V (HSC.out.below LP);have RD:=V (RD.out.below LP RD.out.lt);replace hb:=ei hb LP;clear LP;obtain⟨x0,x1,x2⟩:=HX.out.three;obtain⟨y0,y1,y2⟩:=LD.out.three;go_wp2_with fail;have E:=sy _ _ _ _ s2 s2 w13 MY.out Ls.out;rw [N1]at E;have E:=V E;refine E.out.mono ?_;clear E;rintro x w14 ⟨r,rfl,hr,LP⟩;obtain rfl:=hr.2 rfl;clear hr x0 x1 x2 y0 y1 y2;have Ls:=V (Ls.out.below LP);have HX:=V (HX.out.below LP HX.out.lt);have MY:=V (MY.out.below LP);have LD:=V (LD.out.below LP LD.out.lt);have HSC:=V (HSC.out.below LP);have RD:=V (RD.out.below LP RD.out.lt);replace hb:=ei hb LP;clear LP;obtain⟨x0,x1,x2⟩:=HX.out.three;obtain⟨y0,y1,y2⟩:=RD.out.three;go_wp2_with fail;have E:=sy _ _ _ _ ⟨s2.ej.set 0 ⟨1,-4⟩,s2.ey,-1⟩ s2 w14 HSC.out Ls.out;rw [N1]at E;have E:=V E;refine E.out.mono ?_;clear E;rintro x w15 ⟨r,rfl,hr,LP⟩;obtain rfl:r=false:=by
  cases r
  ·rfl
  ·have:=hr.1 rfl
   rw [HSE.out]at this;exact absurd this (by decide)
 clear hr x0 x1 x2 y0 y1 y2;have Ls:=V (Ls.out.below LP);have HX:=V (HX.out.below LP HX.out.lt);have MY:=V (MY.out.below LP);have LD:=V (LD.out.below LP LD.out.lt);have HSC:=V (HSC.out.below LP);have RD:=V (RD.out.below LP RD.out.lt);replace hb:=ei hb LP;clear LP;go_wp2_with fail;go_ret;exact⟨rfl,hb⟩
theorem jn.new {w:World} {FX:Nat ->Bool} {X:Nat} {iv:qg} {m:eI} (h:ju w FX X iv m) (n:Int):
  jn (w.alloc (.cells #[.slice none 0 0, .slice none 0 0, .int .i64 n] 37)) (fun g=>decide (g < w.heap.size)) FX X w.heap.size iv m [] [] 37 ⟨[],[],n⟩:=by
 have hb:=(an w.heap.size w).alloc (ag _) (.cells #[.slice none 0 0, .slice none 0 0, .int .i64 n] 37);refine⟨⟨⟨.slice none 0 0, .slice none 0 0,[]⟩,⟨eP.new w _ _,ea.nil _ _,ea.nil _ _,trivial,by simp,List.Pairwise.nil,by decide⟩,fun g hg=>?_⟩,h.below hb,fun g hg=>by simp [h.lt g hg],fun g hg=>?_⟩
 ·rcases hg with rfl | hg | hg | ⟨u,hu,-⟩
  ·simp
  ·cases hg
  ·cases hg
  ·cases hu
 ·simp only [db]at hg
  rw [aE];omega
theorem CZ (w:World) (n:Int):Calls prog 12 #[.int .i64 n] w (jB (.agg #[.int .i64 1, .int .i64 n]) w):=by
 have hb:=(an w.heap.size w).alloc (ag _) (.cells #[.int .i64 1, .int .i64 n] 42);have HX:=V (eP.new w #[.int .i64 1, .int .i64 n] 42);have HB:=V hb;clear hb;go_enter func12,ntmps12;go_wp2_with fail;refine aN (eG rfl _ _ rfl HX.out.mN) rfl ?_;exact⟨rfl,HB.out⟩
theorem xX (w:World) (p:Value) (b:Nat) (n a:Int) (h:w.cell? ⟨b,2,none⟩=some (.int .i64 n)) (hn:n < 0):Calls prog 15 #[p, .pointer (some ⟨b,0,none⟩), .int .i64 a] w (jB (.bool false) w):=by
 have f1:decide (n < 0)=true:=aA hn;clear hn;go_enter func15,ntmps15;go_wp2_with fail;go_ret;exact⟨rfl,an _ _⟩
theorem Aq (w:World):Calls prog 14 #[] w (kF w):=by
 go_enter func14,ntmps14;go_wp2_with fail;refine(uC w).mono ?_;rintro x w1 ⟨rfl,hb⟩;go_wp2_with fail;go_ret;exact⟨rfl,hb⟩
theorem Hw:ox (fy 0 ij) 0 ⟨[1,1],[1]⟩:= .inr ⟨0,0,rfl,rfl,rfl⟩
theorem zw (w:World):Calls prog 6 #[] w (kF w):=by
 have HF:=V po;go_enter func6,ntmps6;go_wp2_with fail;refine(iW w).mono ?_;rintro x w1 ⟨rfl,hs,hb,-⟩;have HB:=V hb;have HI:=V (hs.is (hs.body 3 (ag _)) (by simp [iP]));clear hs hb;go_wp2_with fail;refine(mm (fy 0 ij) (iu w.heap.size) _ HI.out (lu _ _) (fun c hc=>fun x hx=>((iG 0 ij lQ c hc).2 x hx).2) (by decide) rfl).mono ?_;rintro x w2 ⟨hb,⟨hr,-⟩ | ⟨-,hr,-⟩ | ⟨X,FX,_,_,iv,_,-,-,rfl,Mh,-,-,-,-⟩⟩
 ·exact absurd HF.out.1 hr
 ·exact absurd (sV.symm.trans hr) (by simp)
 have HB:=V (ei HB.out hb);obtain⟨m,Pq⟩:∃m,m=fy 0 ij:=⟨_,rfl⟩;rw [<- Pq]at Mh;have HC:=V (show m.eA[0]?=some ⟨[],ij⟩by rw [Pq];rfl);have HTY:=V (show ox m 0 ⟨[1,1],[1]⟩by rw [Pq];exact Hw);have QV:=V (show m.imports.length=0/\m.funcs.length=1 by rw [Pq];exact⟨rfl,rfl⟩);have HR:=V (jn.new Mh (-1));obtain⟨F,hF⟩:∃F:Nat ->Bool,F=fun g=>decide (g < w2.heap.size):=⟨_,rfl⟩;rw [<- hF]at HR;have RE:=V (show∀i,F i=false ->w.heap.size <=i by
  intro i hi;rw [hF]at hi;have:=of_decide_eq_false hi;have:=HB.out.size;omega)
 have LC:=(an w2.heap.size w2).alloc (ag _) (.cells #[.slice none 0 0, .slice none 0 0, .int .i64 (-1)] 37);have HB:=V (ei HB.out LC);obtain⟨b,M5⟩:∃b,b=w2.heap.size:=⟨_,rfl⟩;rw [<- M5]at HR;clear Pq Mh hb HI hF LC;go_wp2_with fail;rw [<- M5];clear M5;refine(CZ _ 2).mono ?_;rintro x w3 ⟨rfl,hb⟩;have HR:=V (jn.below HR.out hb);have HB:=V (ei HB.out hb);clear hb;go_wp2_with fail;refine(CZ _ 3).mono ?_;rintro x w4 ⟨rfl,hb⟩;have HR:=V (jn.below HR.out hb);have HB:=V (ei HB.out hb);clear hb;have hb:=(an w4.heap.size w4).alloc (ag _) (.cells #[.int .i64 1, .int .i64 2, .int .i64 1, .int .i64 3] 42);have HR:=V (jn.below HR.out hb);have HB:=V (ei HB.out hb);clear hb;have HA:=V ((eP.new w4 #[.int .i64 1, .int .i64 2, .int .i64 1, .int .i64 3] 42).rws gB [⟨1,2⟩,⟨1,3⟩] [] rfl 2 (ag _) (by decide));go_wp2_with fail;have E:=jn.call _ F FX X b iv m [] [] _ _ HR.out 0 ⟨[],ij⟩ ⟨[1,1],[1]⟩ 0 [⟨1,2⟩,⟨1,3⟩] _ HC.out (by rw [QV.out.1];rfl) HTY.out (by rw [QV.out.1,QV.out.2];decide) (by decide) (by decide) HA.out (by decide) (by decide) (by decide);rw [show qZ (([1,1]:List Int)++[]) ⟨[],[],-1⟩ 0 [⟨1,2⟩,⟨1,3⟩]=(jv.more,⟨[],[⟨0,0,[⟨1,2⟩,⟨1,3⟩],0,[]⟩],-1⟩)from rfl]at E;refine bU E ?_;clear E;rintro x w5 ⟨vv,rfl,LA,PB,hk⟩;obtain⟨av,cv,rfl,-,-⟩:=PB.slice;have HB:=V (HB.out.trans (hk.below HB.out.size RE.out));have hb:=(an w5.heap.size w5).alloc (ag _) (.cells #[.int .i64 1, .int .i64 0, .int .i64 0, .slice av 0 cv] 32);have HR:=V (LA.add hb w5.heap.size (ag _) (by simp));have HY:=V (eP.new w5 #[.int .i64 1, .int .i64 0, .int .i64 0, .slice av 0 cv] 32);have HL5:=V (show w.heap.size <=w5.heap.size from HB.out.size);have HFX:=V (show FX w5.heap.size=false by
  cases hf:FX w5.heap.size with
  | false=>rfl
  | true=>have:=LA.inst.lt _ hf;omega)
 obtain⟨F',RF⟩:∃F':Nat ->Bool,F'=fun g=>F g || decide (g=w5.heap.size):=⟨_,rfl⟩;rw [<- RF]at HR;have RE:=V (show∀i,F' i=false ->w.heap.size <=i by
  intro i hi;rw [RF,dM]at hi;exact RE.out i hi.1)
 have HFY:=V (show F' w5.heap.size=true by rw [RF];simp);have HB:=V (ei HB.out hb);clear PB hk LA hb RF HA;simp only [oy,jv.more,aL];obtain⟨g1,cp1,q1,-,-,-,-⟩:=jn.c1 (lo:=[]) HR.out;have q1':World.cell? _ ⟨b,1,none⟩=some (.slice (some ⟨g1,0,none⟩) 1 cp1):=q1;clear q1;go_wp2_with fail;refine c9 4 ?_;rw [cO];clear q1';go_wp2_with fail;have E:=jn.local _ F' FX X b iv m [] [] _ [] [] ⟨0,0,[⟨1,2⟩,⟨1,3⟩],0,[]⟩ (-1) 0 0 ⟨[],ij⟩ HR.out HC.out (by rw [QV.out.1];rfl) (by rw [QV.out.1];decide) rfl 0 ⟨1,2⟩ rfl rfl (by decide) (by decide);rw [show kP [] [⟨1,2⟩] ⟨[],[]++[⟨0,0,[⟨1,2⟩,⟨1,3⟩],0,[]⟩],-1⟩ [] ⟨0,0,[⟨1,2⟩,⟨1,3⟩],0,[]⟩=(jv.more,⟨[⟨1,2⟩],[⟨0,1,[⟨1,2⟩,⟨1,3⟩],0,[]⟩],-1⟩)from rfl]at E;refine bU E ?_;clear E;rintro x w6 ⟨vv,rfl,LA,PB,hk⟩;obtain⟨a6,c6,rfl,-,-⟩:=PB.slice;have HR:=V LA;have HB:=V (HB.out.trans (hk.below HB.out.size RE.out));have HY:=V (HY.out.keeps hk (by simp [HFY.out]));clear PB hk LA;simp only [oy,jv.more,aL];obtain⟨⟨y0,y1,y2,y3⟩,z0,z1,z2,z3⟩:=HY.out.four;go_wp2_with fail;clear y0 y1 y2 y3 z0 z1 z2 z3;obtain⟨w7,hw⟩:∃wx,wx=lK w6 w5.heap.size 1 0 0 (.slice a6 0 c6):=⟨_,rfl⟩;have HR:=V (show jn w7 F' FX X b iv m [] [] _ _ by rw [hw];exact HR.out.keeps (gJ w6 w5.heap.size 1 0 0 (.slice a6 0 c6)) (fun g hg=>by rw [hg];exact⟨HFX.out, .inl HFY.out⟩));have HY:=V (show eP w7 w5.heap.size _ _ by rw [hw];exact HY.out.sx (.int .i64 1) (.int .i64 0) (.int .i64 0) (.slice a6 0 c6));have HB:=V (show Below w.heap.size w w7 by rw [hw];exact HB.out.trans ((gJ w6 w5.heap.size 1 0 0 (.slice a6 0 c6)).below HB.out.size (fun i hi=>by rw [hi];exact HL5.out)));unfold lK at hw;rw [<- hw];clear hw;rw [cO];go_wp2_with fail;have E:=jn.local _ F' FX X b iv m [] [] _ [⟨1,2⟩] [] ⟨0,1,[⟨1,2⟩,⟨1,3⟩],0,[]⟩ (-1) 0 1 ⟨[],ij⟩ HR.out HC.out (by rw [QV.out.1];rfl) (by rw [QV.out.1];decide) rfl 1 ⟨1,3⟩ rfl rfl (by decide) (by decide);rw [show kP [⟨1,2⟩] [⟨1,3⟩] ⟨[⟨1,2⟩],[]++[⟨0,1,[⟨1,2⟩,⟨1,3⟩],0,[]⟩],-1⟩ [] ⟨0,1,[⟨1,2⟩,⟨1,3⟩],0,[]⟩=(jv.more,⟨[⟨1,2⟩,⟨1,3⟩],[⟨0,2,[⟨1,2⟩,⟨1,3⟩],0,[]⟩],-1⟩)from rfl]at E;refine bU E ?_;clear E;rintro x w8 ⟨vv,rfl,LA,PB,hk⟩;obtain⟨a8,c8,rfl,-,-⟩:=PB.slice;have HR:=V LA;have HB:=V (HB.out.trans (hk.below HB.out.size RE.out));have HY:=V (HY.out.keeps hk (by simp [HFY.out]));clear PB hk LA;simp only [oy,jv.more,aL];obtain⟨⟨y0,y1,y2,y3⟩,z0,z1,z2,z3⟩:=HY.out.four;go_wp2_with fail;clear y0 y1 y2 y3 z0 z1 z2 z3;obtain⟨w9,hw⟩:∃wx,wx=lK w8 w5.heap.size 1 0 0 (.slice a8 0 c8):=⟨_,rfl⟩;have HR:=V (show jn w9 F' FX X b iv m [] [] _ _ by rw [hw];exact HR.out.keeps (gJ w8 w5.heap.size 1 0 0 (.slice a8 0 c8)) (fun g hg=>by rw [hg];exact⟨HFX.out, .inl HFY.out⟩));have HY:=V (show eP w9 w5.heap.size _ _ by rw [hw];exact HY.out.sx (.int .i64 1) (.int .i64 0) (.int .i64 0) (.slice a8 0 c8));have HB:=V (show Below w.heap.size w w9 by rw [hw];exact HB.out.trans ((gJ w8 w5.heap.size 1 0 0 (.slice a8 0 c8)).below HB.out.size (fun i hi=>by rw [hi];exact HL5.out)));unfold lK at hw;rw [<- hw];clear hw;rw [cO];go_wp2_with fail;have E:=jn.Lb _ F' FX X b iv m [] [] _ [] [] ⟨0,2,[⟨1,2⟩,⟨1,3⟩],0,[]⟩ (-1) 0 2 ⟨[],ij⟩ HR.out HC.out (by rw [QV.out.1];rfl) (by rw [QV.out.1];decide) rfl rfl (by decide) (by decide);rw [show vA [] ⟨1,5⟩ 0 ⟨[]++[⟨1,2⟩,⟨1,3⟩],[]++[⟨0,2,[⟨1,2⟩,⟨1,3⟩],0,[]⟩],-1⟩ [] ⟨0,2,[⟨1,2⟩,⟨1,3⟩],0,[]⟩=(jv.more,⟨[⟨1,5⟩],[⟨0,3,[⟨1,2⟩,⟨1,3⟩],0,[]⟩],-1⟩)from rfl]at E;refine bU E ?_;clear E;rintro x w10 ⟨vv,rfl,LA,PB,hk⟩;obtain⟨a10,c10,rfl,-,-⟩:=PB.slice;have HR:=V LA;have HB:=V (HB.out.trans (hk.below HB.out.size RE.out));have HY:=V (HY.out.keeps hk (by simp [HFY.out]));clear PB hk LA;simp only [oy,jv.more,aL];obtain⟨⟨y0,y1,y2,y3⟩,z0,z1,z2,z3⟩:=HY.out.four;go_wp2_with fail;clear y0 y1 y2 y3 z0 z1 z2 z3;obtain⟨Sc,hw⟩:∃wx,wx=lK w10 w5.heap.size 1 0 0 (.slice a10 0 c10):=⟨_,rfl⟩;have HR:=V (show jn Sc F' FX X b iv m [] [] _ _ by rw [hw];exact HR.out.keeps (gJ w10 w5.heap.size 1 0 0 (.slice a10 0 c10)) (fun g hg=>by rw [hg];exact⟨HFX.out, .inl HFY.out⟩));have HY:=V (show eP Sc w5.heap.size _ _ by rw [hw];exact HY.out.sx (.int .i64 1) (.int .i64 0) (.int .i64 0) (.slice a10 0 c10));have HB:=V (show Below w.heap.size w Sc by rw [hw];exact HB.out.trans ((gJ w10 w5.heap.size 1 0 0 (.slice a10 0 c10)).below HB.out.size (fun i hi=>by rw [hi];exact HL5.out)));unfold lK at hw;rw [<- hw];clear hw;rw [cO];go_wp2_with fail;have E:=jn.ret _ F' FX X b iv m [] [] _ [] [⟨1,5⟩] [] ⟨0,3,[⟨1,2⟩,⟨1,3⟩],0,[]⟩ (-1) 0 3 ⟨[],ij⟩ ⟨[1,1],[1]⟩ HR.out HC.out (by rw [QV.out.1];rfl) (by rw [QV.out.1];decide) rfl (by decide) HTY.out (by rw [QV.out.1,QV.out.2];decide) rfl (by simp) (by decide);rw [show tP (kS [] [⟨1,5⟩] (decide (0 < ([1]:List Int).length))) [] (-1)=(⟨3,0,0,[⟨1,5⟩]⟩,⟨[⟨1,5⟩],[],-1⟩)from rfl]at E;refine bU E ?_;clear E;rintro x w12 ⟨vv,rfl,LA,PB,hk⟩;obtain⟨b5,o5,c5,rfl,Mk,NC,Lw,MF⟩:=ew.at (PB.fR gB) (i:=0) (x:=⟨1,5⟩) rfl;have HB:=V (HB.out.trans (hk.below HB.out.size RE.out));have hb:=(an w12.heap.size w12).alloc (ag _) (.cells #[.int .i64 3, .int .i64 0, .int .i64 0, .slice (some ⟨b5,o5,none⟩) 1 c5] 32);have HP:=V (eP.new w12 #[.int .i64 3, .int .i64 0, .int .i64 0, .slice (some ⟨b5,o5,none⟩) 1 c5] 32);have HR:=V (LA.below hb);have HV:=V (show World.cell? (w12.alloc (.cells #[.int .i64 3, .int .i64 0, .int .i64 0, .slice (some ⟨b5,o5,none⟩) 1 c5] 32)) ⟨b5,o5+1,none⟩=some (.int .i64 5)/\b5 < (w12.alloc (.cells #[.int .i64 3, .int .i64 0, .int .i64 0, .slice (some ⟨b5,o5,none⟩) 1 c5] 32)).heap.size from⟨by rw [bg (hb.block b5 Lw)];exact MF 1 _ rfl,by simp;omega⟩);have HB:=V (ei HB.out hb);have hcap1:1 <=c5:=Mk;clear PB hk LA MF hb Lw Mk;simp only [oy,aF,aL];go_wp2_with fail;refine(zR _).mono ?_;rintro x w13 ⟨rfl,hb⟩;have HP:=V (HP.out.below hb HP.out.lt);have HV:=V (show World.cell? _ ⟨b5,o5+1,none⟩=some (.int .i64 5)/\b5 < _ from⟨(bg (Below.block hb b5 HV.out.2)).trans HV.out.1,bK HV.out.2 (Below.size hb)⟩);have HR:=V (jn.below HR.out hb);have HB:=V (ei HB.out hb);clear hb;go_wp2_with fail;refine(Aq _).mono ?_;rintro x w14 ⟨rfl,hb⟩;have HP:=V (HP.out.below hb HP.out.lt);have HV:=V (show World.cell? _ ⟨b5,o5+1,none⟩=some (.int .i64 5)/\b5 < _ from⟨(bg (Below.block hb b5 HV.out.2)).trans HV.out.1,bK HV.out.2 (Below.size hb)⟩);have HR:=V (jn.below HR.out hb);have HB:=V (ei HB.out hb);clear hb;obtain⟨⟨y0,y1,y2,y3⟩,-,-,-,-⟩:=HP.out.four;have v1:=HV.out.1;obtain⟨ae,ce,q1⟩:=jn.Lj HR.out;have q1':World.cell? _ ⟨b,1,none⟩=some (.slice ae 0 ce):=q1;clear q1;go_wp2_with fail;refine(xX w14 _ b (-1) 1 (jn.c2 HR.out) (by decide)).mono ?_;rintro x w15 ⟨rfl,hb⟩;have HB:=V (ei HB.out hb);clear hb y0 y1 y2 y3 v1 q1';go_wp2_with fail;go_ret;exact⟨rfl,HB.out⟩
def Ig:gV:=⟨[],[⟨2,0,[],0,[]⟩],-1⟩
def AB (body:List eS) (s:gV) (w:World) (e:Ending) (w':World):Prop:=
 ∃X b F FX iv a c,e= .returned (.tuple #[.pointer (some ⟨X,0,none⟩), .pointer (some ⟨b,0,none⟩), .agg #[.int .i64 1, .int .i64 0, .int .i64 0, .slice a 0 c]])/\
  jn w' F FX X b iv (fe body) [] [] 37 s/\(∀i,F i=false ->w.heap.size <=i)/\Below w.heap.size w w'
structure Kq (w0:World) (F FX:Nat ->Bool) (X b RB Y:Nat) (iv:qg) (m:eI) (st:Nat ->gV) (N:Nat) (w:World) (i:Nat):Prop where
 le:i <=N
 run:jn w F FX X b iv m [] [] 37 (st i)
 below:Below w0.heap.size w0 w
 KT:∃a c,eP w Y #[.int .i64 1, .int .i64 0, .int .i64 0, .slice a 0 c] 32
 res:eP w RB #[.int .i64 0, .int .i64 0, .int .i64 0, .slice none 0 0] 32
theorem vI {P:Program} {fn:Func} {t0 u0 u1:Tmp} {ty:TypeId} (h:fn.results=#[.tmp u0, .tmp u1, .cell t0 ty]) (tmps:Array Value) (w:World) {a:Addr} {v:Value} (ht:tmps.getD t0 undef= .pointer (some a))
  (hl:(loadVar ty a).run P w= .ok v w):(results fn tmps).run P w= .ok (.tuple #[tmps.getD u0 undef,tmps.getD u1 undef,v]) w:=by
 have ht':tmps[t0]?.getD undef= .pointer (some a):=by simpa using ht
 simp [results,h,ht',asAddr,hl]
theorem DT (body:List eS) (h:∀x∈body,x.mE):∀c∈(fe body).eA,∀x∈c.body,x.mE:=by
 intro c hc x hx;simp only [fe,bB,bN,cY]at hc;rcases hc with rfl | rfl
 ·exact h x hx
 ·simp only [bB,bN,cY]at hx
  subst hx;unfold eS.mE
  decide
theorem Ea (body:List eS) (vb:Value) (st:Nat ->gV) (N:Nat) (w:World) (hb:gx w vb body) (hN:N <=100000) (he:∀x∈body,x.mE) (hfault:iM (fe body)= -1) (h0:st 0=Ig)
  (hsteps:∀i,i < N ->∀(w:World) (F FX:Nat ->Bool) (X b:Nat) (iv:qg),jn w F FX X b iv (fe body) [] [] 37 (st i) ->Calls prog 8 #[.pointer (some ⟨X,0,none⟩), .pointer (some ⟨b,0,none⟩)] w (mA F FX X b iv (fe body) [] [] 37 (jv.more,st (i+1)) w)):
  Calls prog 7 #[vb, .int .i64 0, .int .i64 (N:Int)] w (AB body (st N) w):=by
 have Qq:=V hb;have HE:=V he;have HFA:=V hfault;have H0:=V h0;have Ls:=V hsteps;obtain⟨ab,cb,rfl,-,hcb⟩:=et.slice hb;clear hb he hfault h0 hsteps;have hb:=(an w.heap.size w).alloc (ag _) (.cells #[.int .i64 0, .int .i64 0, .int .i64 0, .slice none 0 0] 32);have Ou:=V (eP.new w #[.int .i64 0, .int .i64 0, .int .i64 0, .slice none 0 0] 32);have HB:=V hb;clear hb;go_enter func7,ntmps7;go_wp2_with fail;refine(sD _).mono ?_;rintro x w1 ⟨rfl,hs,hb,hz⟩;rw [aE]at hs hz⊢;obtain⟨B,hB⟩:∃B,B=w.heap.size+1:=⟨_,rfl⟩;rw [<- hB]at hs hz⊢;have HN:=V (show w.heap.size < B/\w1.heap.size=B+15 from⟨by omega,hz⟩);have Ou:=V (Ou.out.below hb Ou.out.lt);have HB:=V (ei HB.out hb);clear hz hB hb;have HX:=V (eP.new w1 ((rh B).cells (fe [])) 62);have hb:=(an w1.heap.size w1).alloc (ag _) (.cells ((rh B).cells (fe [])) 62);have HS:=V (hs.below hb);have Ou:=V (Ou.out.below hb Ou.out.lt);have HB:=V (ei HB.out hb);clear hb hs;simp only [eL.cells,rh,fe,rowAt]at HX HS HB Ou⊢;have c1:=HX.out.cell 12;have c2:=HS.out.2.2.2.2.cell 1;have z1:=HS.out.2.2.2.2.free 1;have hx:=HX.out.other ⟨B+14,1,none⟩ (.slice ab body.length cb) (by have:=HN.out;simp;omega);obtain⟨g0,g1,g2,g3,g4,g5,g6,g7,g8,g9,Mb,Mc,Md,Me⟩:=hx.mod;clear hx;go_wp2_with fail;have Ou:=V (Ou.out.other ⟨B+14,1,none⟩ (.slice ab body.length cb) (by have:=HN.out;simp;omega));have HB:=V (HB.out.setCell (p:=⟨B+14,1,none⟩) (by have:=HN.out;simp;omega) (.slice ab body.length cb));have HI:=V ((HS.out.setBody (.slice ab body.length cb)).is (gx.below Qq.out HB.out));clear c1 c2 z1 g0 g1 g2 g3 g4 g5 g6 g7 g8 g9 Mb Mc Md Me HX HS;refine(mm (fe body) (rh B) _ HI.out (tY _) (DT body HE.out) (by show(2:Nat)+2 <=1000000;omega) rfl).mono ?_;rintro x w2 ⟨hb,⟨hr,-⟩ | ⟨-,hr,-⟩ | ⟨X,FX,_,_,iv,_,-,-,rfl,Mh,-,-,hge,-⟩⟩
 ·exact absurd HFA.out hr
 ·exact absurd ((tM body).symm.trans hr) (by simp)
 have HFXR:=V (show FX w.heap.size=false by
  cases hf:FX w.heap.size with
  | false=>rfl
  | true=>
   have h1:=(hge _ (.inl hf)).1;have h2:=Ou.out.lt;omega)
 have Ou:=V (Ou.out.below hb Ou.out.lt);have HB:=V (ei HB.out hb);clear hb HI HN hge;obtain⟨m,Pq⟩:∃m,m=fe body:=⟨_,rfl⟩;rw [<- Pq]at Mh;have HM:=V Pq;have HC:=V (show m.eA[0]?=some ⟨[],body⟩by rw [Pq];rfl);have HTY:=V (show ox m 2 ⟨[],[]⟩by rw [Pq];exact .inr ⟨0,0,rfl,rfl,rfl⟩);have QV:=V (show m.imports.length=2/\m.funcs.length=2 by rw [Pq];exact⟨rfl,rfl⟩);have NM:=V (jn.new Mh (-1));obtain⟨F,hF⟩:∃F:Nat ->Bool,F=fun g=>decide (g < w2.heap.size):=⟨_,rfl⟩;rw [<- hF]at NM;have RE:=V (show∀i,F i=false ->w.heap.size <=i by
  intro i hi;rw [hF]at hi;have:=of_decide_eq_false hi;have:=HB.out.size;omega)
 have HFR:=V (show F w.heap.size=true by
  rw [hF];exact aA Ou.out.lt)
 have hb:=(an w2.heap.size w2).alloc (ag _) (.cells #[.slice none 0 0, .slice none 0 0, .int .i64 (-1)] 37);have HB:=V (ei HB.out hb);have Ou:=V (Ou.out.below hb Ou.out.lt);obtain⟨b,M5⟩:∃b,b=w2.heap.size:=⟨_,rfl⟩;rw [<- M5]at NM;clear Pq Mh hF hb;go_wp2_with fail;rw [<- M5];clear M5;have E:=jn.call _ F FX X b iv m [] [] _ _ NM.out 0 ⟨[],body⟩ ⟨[],[]⟩ 2 [] (.slice none 0 0) HC.out (by rw [QV.out.1];rfl) HTY.out (by rw [QV.out.1,QV.out.2];decide) (by decide) (by simp) (ew.nil _) (by simp) (by simp) (by simp);rw [show qZ (([]:List Int)++[]) ⟨[],[],-1⟩ 2 []=(jv.more,Ig)from rfl]at E;refine bU E ?_;clear E;rintro x w3 ⟨vv,rfl,LA,PB,hk⟩;obtain⟨av,cv,rfl,-,-⟩:=PB.slice;have HB:=V (HB.out.trans (hk.below HB.out.size RE.out));have Ou:=V (Ou.out.keeps hk (by simp [HFR.out]));have hb:=(an w3.heap.size w3).alloc (ag _) (.cells #[.int .i64 1, .int .i64 0, .int .i64 0, .slice av 0 cv] 32);obtain⟨Y,hY⟩:∃Y,Y=w3.heap.size:=⟨_,rfl⟩;have NM:=V (LA.add hb Y (by omega) (by simp;omega));have HY:=V (eP.new w3 #[.int .i64 1, .int .i64 0, .int .i64 0, .slice av 0 cv] 32);rw [<- hY]at HY;have HFX:=V (show FX Y=false by
  cases hf:FX Y with
  | false=>rfl
  | true=>have:=LA.inst.lt _ hf;omega)
 have R9:=V (show w.heap.size < Y by rw [hY];exact Ou.out.lt);have Ou:=V (Ou.out.below hb Ou.out.lt);obtain⟨F',RF⟩:∃F':Nat ->Bool,F'=fun g=>F g || decide (g=Y):=⟨_,rfl⟩;rw [<- RF]at NM;have RE:=V (show∀i,F' i=false ->w.heap.size <=i by
  intro i hi;rw [RF,dM]at hi;exact RE.out i hi.1)
 have HFY:=V (show F' Y=true by rw [RF];simp);have HFR:=V (show F' w.heap.size=true by rw [RF];simp [HFR.out]);have HB:=V (ei HB.out hb);clear PB hk LA hb RF;simp only [oy,jv.more,aL];go_wp2_with fail;rw [<- hY];have HJ0:=V (show Kq w F' FX X b w.heap.size Y iv m st N _ 0 from⟨bA _,by rw [H0.out];exact NM.out,HB.out,⟨av,cv,HY.out⟩,Ou.out⟩);clear hY;refine eJ (fun a' w'=>∃(i:Nat),a'=fr (gs a' 0 2 (.int .i64 N::gs a' 3 5 (.pointer (some ⟨w.heap.size,0,none⟩)::gs a' 9 1 (.pointer (some ⟨X,0,none⟩)::gs a' 11 1 (.pointer (some ⟨b,0,none⟩):: .pointer (some ⟨Y,0,none⟩):: .int .i64 i::gs a' 15 36 [])))))/\Kq w F' FX X b w.heap.size Y iv m st N w' i) (fun a' _=>(N - (intOf (a'.tmps.getD 14 undef)).toNat)) ?_ ?_
 ·exact⟨0,rfl,HJ0.out⟩
 ·skip
  clear HJ0 NM Ou HY HB;rintro R a' w1 ⟨i,Lp,hJ⟩ HR;dsimp only [fr,gs]at Lp;generalize slot a'=f at Lp;subst Lp;have HJ:=V hJ;have hiN:=hJ.le;obtain⟨ay,cy,hy⟩:=hJ.KT;have HY:=V hy;clear hJ;by_cases q:i < N
  ·have f1:decide ((i:Int) < (N:Int))=true:=aA (by omega)
   obtain⟨⟨y0,y1,y2,y3⟩,-,-,-,-⟩:=hy.four;clear hy;go_wp2_with fail;clear y0 y1 y2 y3 f1;have E:=Ls.out i q w1 F' FX X b iv (by rw [<- HM.out];exact HJ.out.run);rw [<- HM.out]at E;refine bU E ?_;clear E;rintro x w2 ⟨vv,rfl,LA,PB,hk⟩;obtain⟨a2,c2,rfl,-,-⟩:=PB.slice;have NM:=V LA;have HB:=V (HJ.out.below.trans (hk.below HJ.out.below.size RE.out));have Ou:=V (HJ.out.res.keeps hk (by simp [HFR.out]));have HY:=V (HY.out.keeps hk (by simp [HFY.out]));clear PB hk LA;simp only [oy,jv.more,aL];obtain⟨⟨y0,y1,y2,y3⟩,z0,z1,z2,z3⟩:=HY.out.four;go_wp2_with fail;have Lt:=gJ w2 Y 1 0 0 (.slice a2 0 c2);refine HR.out _ _ ⟨i+1,rfl,⟨by omega,?_,?_,?_,?_⟩⟩ ?_
   ·exact NM.out.keeps Lt (fun g hg=>by rw [hg];exact⟨HFX.out, .inl HFY.out⟩)
   ·exact HB.out.trans (Lt.below HB.out.size (fun g hg=>by rw [hg];exact Nat.le_of_lt R9.out))
   ·exact⟨a2,c2,HY.out.sx _ _ _ _⟩
   ·exact Ou.out.keeps Lt (by have:=R9.out;omega)
   ·simp [intOf]
    omega
  ·have f1:decide ((i:Int) < (N:Int))=false:=aq (by omega)
   obtain rfl:i=N:=by omega
   go_wp2_with fail;obtain⟨⟨y0,y1,y2,y3⟩,-,-,-,-⟩:=hy.drew.four;clear hy;refine eX (fun w'=>w'.cell? ⟨Y,0,none⟩=some (.int .i64 1)/\w'.cell? ⟨Y,1,none⟩=some (.int .i64 0)/\w'.cell? ⟨Y,2,none⟩=some (.int .i64 0)/\w'.cell? ⟨Y,3,none⟩=some (.slice ay 0 cy)) 4 (up 0 4 []) (by kernel_rfl) (by kernel_rfl) ⟨y0,y1,y2,y3⟩ ?_;clear y0 y1 y2 y3;iterate 4 (first | (apply sk rfl rfl;simp only [pt]) | (apply ef rfl rfl rfl;·(rintro w' ⟨t0,t1,t2,t3⟩;go_wp2;exact⟨rfl,rfl,rfl⟩)))
   refine fP rfl rfl ?_;have Ou:=V HJ.out.res.drew;obtain⟨⟨x0,x1,x2,x3⟩,-,-,-,-⟩:=Ou.out.four;obtain⟨⟨n0,n1,n2,n3⟩,z0,z1,z2,z3⟩:=HJ.out.res.four;go_wp2_with fail;refine⟨trivial,?_⟩;refine aD ?_;clear x0 x1 x2 x3 z0 z1 z2 z3 n0 n1 n2 n3;go_wp2_with fail;have Lt:=gJ w1 w.heap.size 1 0 0 (.slice ay 0 cy);have hl:=(HJ.out.res.sx (.int .i64 1) (.int .i64 0) (.int .i64 0) (.slice ay 0 cy)).drew;refine aN (vI rfl _ _ rfl hl.pQ) rfl ?_;refine⟨X,b,F',FX,iv,ay,cy,rfl,?_,RE.out,?_⟩
   ·rw [<- HM.out]
    exact HJ.out.run.keeps Lt.drew (fun g hg=>by rw [hg];exact⟨HFXR.out, .inl HFR.out⟩)
   ·exact HJ.out.below.trans (Lt.drew.below HJ.out.below.size (fun g hg=>by rw [hg];exact ag _))
theorem yf (b:List eS):(fe b).imports.length=2/\(fe b).funcs.length=2:=⟨rfl,rfl⟩
def Cc (hs:List (Nat × Nat)):Nat:=(hs.head?.map Prod.snd).getD 0
def xR (x:eS) (i v:Nat) (hs:List (Nat × Nat)):Option (Nat × List (Nat × Nat)):=
 if x.op=2 then(if x.a=0/\hs.length < 40 then some (v,(i,v)::hs)else none)
 else if x.op=65 then some (v+1,hs)
 else if x.op=26 then(if Cc hs < v then some (v - 1,hs)else none)
 else if x.op=12 then(if 0 <=x.a/\x.a <=hs.length/\Cc hs <=v then some (Cc hs,hs)else none)
 else if x.op=11 then(match hs with | []=>none | p::hs=>if v=p.2 then some (v,hs)else none)
 else none
def qb:List eS ->Nat ->Nat ->List (Nat × Nat) ->Option (Nat × List (Nat × Nat))
 | [],_,v,hs=>some (v,hs)
 | x::l,i,v,hs=>match xR x i v hs with
  | none=>none
  | some r=>qb l (i+1) r.1 r.2
theorem sH:∀(a b:List eS) (i v:Nat) (hs:List (Nat × Nat)) (r:Nat × List (Nat × Nat)),qb a i v hs=some r ->qb (a++b) i v hs=qb b (i+a.length) r.1 r.2
 | [],b,i,v,hs,r,h=>by
  injection h with h;subst h;rfl
 | x::a,b,i,v,hs,r,h=>by
  rw [bI,qb];rw [qb]at h;cases hx:xR x i v hs with
  | none=>rw [hx]at h;cases h
  | some q=>
   rw [hx]at h;simp only at h⊢;rw [sH a b (i+1) q.1 q.2 r h,aF,show i+1+a.length=i+(a.length+1)by omega]
structure zH (c:eU) (v:Nat) (hs:List (Nat × Nat)):Prop where
 ok:c.bad=false
 ej:c.ej=List.replicate v 1
 len:c.eT.length=hs.length+1
 all:∀x∈c.eT,x.op=2/\x.kind=0
 Kh:c.eT.map lG.eR=(hs.map Prod.snd++[0]).reverse
theorem zH.top {c:eU} {v:Nat} {hs:List (Nat × Nat)} (h:zH c v hs):∃l t,c.eT=l++[t]/\c.top=t/\t.op=2/\t.kind=0/\t.eR=Cc hs/\l.map lG.eR=((hs.map Prod.snd++[0]).tail).reverse:=by
 have hn:c.eT≠[]:=fun e=>by have:=h.len;rw [e]at this;cases this
 obtain⟨l,t,hl⟩:∃l t,c.eT=l++[t]:=⟨c.eT.dropLast,c.eT.getLast hn,(cS hn).symm⟩;have h1:=h.all t (by rw [hl];simp);have h2:=h.Kh;rw [hl,bY,List.map_singleton]at h2;obtain⟨x,r,hr⟩:∃x r,hs.map Prod.snd++[0]=x::r:=by cases hs <;>simp
 rw [hr,List.reverse_cons]at h2;obtain⟨h3,h4⟩:=dz h2 rfl;injection h4 with h4;refine⟨l,t,hl,by unfold eU.top;rw [hl];simp,h1.1,h1.2,?_,by rw [hr];exact h3⟩;rw [h4];unfold Cc;cases hs with
 | nil=>injection hr with h5;exact h5.symm
 | cons p hs=>injection hr with h5;exact h5.symm
theorem zH.JA {c:eU}:c.gb []=c:=rfl
theorem Fg {m:eI} {c:eU} {x:eS} {i v:Nat} {hs:List (Nat × Nat)} {r:Nat × List (Nat × Nat)} (h:zH c v hs) (hr:xR x i v hs=some r):zH (c.step m [] x) r.1 r.2:=by
 obtain⟨l,t,hl,ht,h1,h2,h3,h4⟩:=h.top;have hlen:c.ej.length=v:=by rw [h.ej];simp
 unfold xR at hr;unfold eU.step;by_cases q:x.op=2
 ·rw [aJ q]at hr
  split at hr
  ·rename_i hc
   injection hr with hr;subst hr;rw [show c.control m x=some (c.begin x.op x.a)by simp [eU.control,q],cN,q,hc.1];refine⟨h.ok,h.ej,by simp [eU.begin,h.len],fun y hy=>?_,?_⟩
   ·rcases aZ.1 hy with hy | hy
    ·exact h.all y hy
    ·rw [aQ.1 hy];exact⟨rfl,rfl⟩
   ·show(c.eT++[_]).map lG.eR=_
    rw [bY,h.Kh];simp [hlen]
  ·cases hr
 rw [aC q]at hr;by_cases q2:x.op=65
 ·rw [aJ q2]at hr
  injection hr with hr;subst hr;rw [show c.control m x=none by simp [eU.control,q2],Option.getD_none,show c.plain m [] x=c.push [1]by simp [eU.plain,q2]];exact⟨h.ok,by show c.ej++[1]=_;rw [h.ej];exact List.replicate_succ'.symm,h.len,h.all,h.Kh⟩
 rw [aC q2]at hr;by_cases q3:x.op=26
 ·rw [aJ q3]at hr
  split at hr
  ·rename_i hc
   injection hr with hr;subst hr;rw [show c.control m x=none by simp [eU.control,q3],Option.getD_none,show c.plain m [] x=(c.pop 0).2 by simp [eU.plain,q3]];have hg:c.ej.getLast?.getD 0=1:=by rw [h.ej,List.getLast?_replicate,aC (by omega)];rfl
   have hp:(c.pop 0).2=({c with ej:=c.ej.dropLast}:eU).need true:=by
    unfold eU.pop;rw [aC (by rw [hlen,ht,h3];omega),hg,aC (by decide)];rfl
   rw [hp];exact⟨by show(c.bad || !true)=false;rw [h.ok];rfl,by show c.ej.dropLast=_;rw [h.ej,List.dropLast_replicate],h.len,h.all,h.Kh⟩
  ·cases hr
 rw [aC q3]at hr;by_cases q4:x.op=12
 ·rw [aJ q4]at hr
  split at hr
  ·rename_i hc
   injection hr with hr;subst hr;obtain⟨M9,Mj,Rc⟩:=hc;have QE:c.label x.a=([],c):=by
    unfold eU.label;have hx:c.eT.length - 1 - x.a.toNat < c.eT.length:=by have:=h.len;omega
    have hk:=h.all _ (List.getElem_mem hx);have he:c.rL x.a=c.eT[c.eT.length - 1 - x.a.toNat]:=by unfold eU.rL;rw [List.getElem?_eq_getElem hx];rfl
    rw [aC (by have:=h.len;omega),he,hk.2,hk.1];rfl
   rw [show c.control m x=some ((c.label x.a).2.gb (c.label x.a).1).dead by simp [eU.control,q4],cN,QE,zH.JA];unfold eU.dead;rw [ht];refine⟨h.ok,by show c.ej.take t.eR=_;rw [h.ej,h3,List.take_replicate,cD Rc],by show(c.eT.dropLast++[_]).length=_;rw [hl];have:=h.len;rw [hl]at this;simpa using this,fun y hy=>?_,?_⟩
   ·rcases aZ.1 hy with hy | hy
    ·exact h.all y (dO _ hy)
    ·rw [aQ.1 hy];exact⟨h1,h2⟩
   ·show(c.eT.dropLast++[_]).map lG.eR=_
    rw [<- h.Kh,hl];simp
  ·cases hr
 rw [aC q4]at hr;by_cases q5:x.op=11
 ·rw [aJ q5]at hr
  cases hs with
  | nil=>cases hr
  | cons p hs=>
   simp only at hr;split at hr
   ·rename_i hc
    injection hr with hr;subst hr;have MU:c.uV=c.need true:=by
     unfold eU.uV;rw [ht,h2];show c.need (c.ej.length==t.eR)=_;rw [hlen,h3];have:(v==Cc (p::hs))=true:=by simp [Cc,hc]
     rw [this]
    have LI:(c.shut.2.need (c.shut.1.op !=4 || c.shut.1.kind==0)).push (gF c.shut.1.kind)={ej:=c.ej++[],eT:=c.eT.dropLast,bad:=(c.bad || !true) || !true}:=by
     unfold eU.shut;simp only;rw [MU,ht,h1,h2];rfl
    rw [show c.control m x=some ((c.shut.2.need (c.shut.1.op !=4 || c.shut.1.kind==0)).push (gF c.shut.1.kind))by simp [eU.control,q5],cN,LI];refine⟨by show((c.bad || !true) || !true)=false;rw [h.ok];rfl,by show c.ej++[]=_;rw [bO];exact h.ej,?_,fun y hy=>h.all y (dO _ hy),?_⟩
    ·show c.eT.dropLast.length=_
     have:=h.len;simp only [cR,aF]at this⊢;omega
    ·show c.eT.dropLast.map lG.eR=_
     rw [hl,List.dropLast_concat,h4];rfl
   ·cases hr
 rw [aC q5]at hr;cases hr
theorem zs {m:eI}:∀(l:List eS) (c:eU) (i v:Nat) (hs:List (Nat × Nat)) (r:Nat × List (Nat × Nat)),zH c v hs ->qb l i v hs=some r ->∃c',eU.run m [] c l=some c'/\zH c' r.1 r.2
 | [],c,i,v,hs,r,h,hr=>by
  injection hr with hr;subst hr;exact⟨c,rfl,h⟩
 | x::l,c,i,v,hs,r,h,hr=>by
  unfold qb at hr;cases hx:xR x i v hs with
  | none=>rw [hx]at hr;cases hr
  | some q=>
   rw [hx]at hr;have h1:=Fg (m:=m) h hx;obtain⟨c',h2,h3⟩:=zs (m:=m) l _ _ _ _ r h1 hr;exact⟨c',by unfold eU.run;rw [if_neg (by rw [h1.ok];decide)];exact h2,h3⟩
theorem oD (b:List eS):∀(l:List eS) (i v:Nat) (hs:List (Nat × Nat)) (r:Nat × List (Nat × Nat)) (st:List iR × List Nat),qb l i v hs=some r ->st.2.length=hs.length ->(∀k∈st.2,k < st.1.length) ->(∀y∈st.1,-1 <=y.fin/\y.fin <=i) ->
  ∃Ob,gH b l i st=some Ob/\Ob.2.length=r.2.length/\∀y∈Ob.1,-1 <=y.fin/\y.fin <=((i+l.length:Nat):Int)
 | [],i,v,hs,r,st,hr,h1,h2,h3=>by
  injection hr with hr;subst hr;exact⟨st,rfl,h1,h3⟩
 | x::l,i,v,hs,r,st,hr,h1,h2,h3=>by
  unfold qb at hr;cases hx:xR x i v hs with
  | none=>rw [hx]at hr;cases hr
  | some q=>
   rw [hx]at hr;simp only at hr;have hl:((i+(x::l).length:Nat):Int)=((i+1+l.length:Nat):Int):=by rw [aF];congr 1;omega
   rw [hl];unfold gH;unfold xR at hx;by_cases q1:x.op=2
   ·rw [aJ q1]at hx
    split at hx
    ·rename_i hc
     injection hx with hx;subst hx;have hm:fO b i x st=some (st.1++[⟨i,-1,-1⟩],st.2++[st.1.length]):=by
      unfold fO;rw [aJ (by rw [q1];rfl),aC (by omega)]
     rw [hm];refine oD b l (i+1) _ _ r _ hr (by simp [h1]) (fun k hk=>?_) (fun y hy=>?_)
     ·rw [ah,aB]
      rcases aZ.1 hk with hk | hk
      ·have:=h2 k hk;omega
      ·rw [aQ.1 hk];omega
     ·rcases aZ.1 hy with hy | hy
      ·have:=h3 y hy;omega
      ·rw [aQ.1 hy];simp only;omega
    ·cases hx
   rw [aC q1]at hx;by_cases q2:x.op=11
   ·rw [aC (by omega),aC (by omega),aC (by omega),aJ q2]at hx
    cases hs with
    | nil=>cases hx
    | cons p hs=>
     simp only at hx;split at hx
     ·injection hx with hx
      subst hx;have hn:st.2≠[]:=fun e=>by rw [e]at h1;cases h1
      obtain⟨k,hk⟩:∃k,st.2.getLast?=some k:=⟨_,List.getLast?_eq_some_getLast hn⟩;have hkm:=h2 k (List.mem_of_getLast? hk);have hm:fO b i x st=some (st.1.set k {st.1[k]with fin:=i},st.2.dropLast):=by
       unfold fO;rw [aC (by rw [q2];decide),aC (by omega),hk];simp only;rw [aw hkm];simp only;rw [aJ q2]
      rw [hm];refine oD b l (i+1) _ _ r _ hr (by rw [cR,h1,aF];rfl) (fun j hj=>by rw [da];exact h2 j (dO _ hj)) (fun y hy=>?_);rcases dv hy with hy | hy
      ·have:=h3 y hy;omega
      ·rw [hy];simp only;omega
     ·cases hx
   have hm:fO b i x st=some st:=by
    have h5:¬ (kJ x.op=true)/\x.op≠5:=by
     by_cases q3:x.op=65
     ·rw [q3];decide
     by_cases q4:x.op=26
     ·rw [q4];decide
     by_cases q5:x.op=12
     ·rw [q5];decide
     rw [aC q3,aC q4,aC q5,aC q2]at hx;cases hx
    unfold fO;rw [aC h5.1,aJ ⟨h5.2,q2⟩]
   have hq:q.2.length=hs.length:=by
    split at hx
    ·injection hx with hx;rw [<- hx]
    split at hx
    ·split at hx
     ·injection hx with hx;rw [<- hx]
     ·cases hx
    split at hx
    ·split at hx
     ·injection hx with hx;rw [<- hx]
     ·cases hx
    cases hx
   rw [hm];exact oD b l (i+1) _ _ r st hr (by omega) h2 (fun y hy=>by have:=h3 y hy;omega)
theorem rS {body:List eS} {v:Nat} (hl:body.length <=300) (h:qb body 0 0 []=some (v,[])):∃js,fI body=some js/\∀y∈js,-1 <=y.fin/\y.fin <=300:=by
 obtain⟨st,h1,h2,h3⟩:=oD body body 0 0 [] _ ([],[]) h rfl (fun k hk=>by cases hk) (fun y hy=>by cases hy);have h4:st.2=[]:=aH h2;refine⟨st.1,by unfold fI;rw [if_neg (by omega),h1];simp [h4],fun y hy=>?_⟩;have:=h3 y hy;omega
theorem Fe {body:List eS} (hl:body.length <=300) (h:qb body 0 0 []=some (0,[])):fW (fe body) 0=true:=by
 obtain⟨js,h1,-⟩:=rS hl h;obtain⟨c,h2,h3⟩:=zs (m:=fe body) body ⟨[],[⟨2,0,0,false⟩],false⟩ 0 0 [] _ ⟨rfl,rfl,rfl,fun x hx=>by rw [aQ.1 hx];exact⟨rfl,rfl⟩,rfl⟩ h;refine DA body c (by rw [h1];rfl) h2 ?_;obtain⟨l,t,hc,ht,k1,k2,k3,-⟩:=h3.top;unfold eU.shut eU.uV;simp only;rw [ht,k2];show(c.need (c.ej.length==t.eR)).bad=false;have:(c.ej.length==t.eR)=true:=by rw [h3.ej,k3];rfl
 rw [this];show(c.bad || !true)=false;rw [h3.ok];rfl
theorem Gs {c:gS} {js:List iR} (h:fI c.body=some js) (hf:∀y∈js,-1 <=y.fin/\y.fin <=300) (n:Int): -1 <=(lN (jf c) n).fin/\(lN (jf c) n).fin <=300:=by
 unfold lN jf;rw [h,cN];cases hq:js.reverse.find? fun b=>b.pos==n with
 | none=>decide
 | some y=>exact hf y (List.mem_reverse.1 (List.mem_of_find?_eq_some hq))
section
def xQ:eS:=⟨2,0,0,[]⟩
def preB (v:Nat):Nat ->List eS
 | 0=>[]
 | n+1=>preB v n++(xQ::List.replicate v (oR n))
def yq (v:Nat):Nat ->List eS
 | 0=>[]
 | n+1=>⟨11,0,0,[]⟩::((if n=0 then []else List.replicate v ⟨26,0,0,[]⟩)++yq v n)
def kC (n k v:Nat):List eS:=preB v n++⟨12,k,0,[]⟩::yq v n
def Jg (v:Nat):Nat ->List (Nat × Nat)
 | 0=>[]
 | n+1=>(n*(1+v),n*v)::Jg v n
def py (v:Nat):Nat ->List jD
 | 0=>[]
 | n+1=>py v n++[⟨(n*(1+v):Nat),(n*v:Nat)⟩]
theorem iS (v:Nat):∀n,(preB v n).length=n*(1+v)
 | 0=>by simp [preB]
 | n+1=>by
  rw [preB,ah,iS v n,aF,bo,cU];omega
theorem mY (v:Nat):∀n,(py v n).length=n
 | 0=>rfl
 | n+1=>by rw [py,ah,mY v n];rfl
theorem xP (v:Nat):∀n j,j < n ->(py v n)[j]?=some ⟨(j*(1+v):Nat),(j*v:Nat)⟩
 | 0,j,h=>by omega
 | n+1,j,h=>by
  by_cases q:j < n
  ·rw [py,bm (by rw [mY];exact q)]
   exact xP v n j q
  ·obtain rfl:j=n:=by omega
   rw [py,bp (by rw [mY];exact ag _),mY,dk];rfl
theorem Cy (v:Nat):∀n j,j < n ->(preB v n)[j*(1+v)]?=some xQ
 | 0,j,h=>by omega
 | n+1,j,h=>by
  by_cases q:j < n
  ·rw [preB,bm (by rw [iS];exact Nat.mul_lt_mul_of_pos_right q (by omega))]
   exact Cy v n j q
  ·obtain rfl:j=n:=by omega
   rw [preB,bp (by rw [iS];exact ag _),iS,dk];rfl
theorem uE (v:Nat):∀(n:Nat) (x:eS),x∈preB v n ->x=xQ\/∃a:Nat,a < n/\x=oR a
 | 0,x,h=>by cases h
 | n+1,x,h=>by
  rcases aZ.1 h with h | h
  ·exact(uE v n x h).imp id (fun⟨a,h1,h2⟩=>⟨a,by omega,h2⟩)
  ·rcases bB.1 h with h | h
   ·exact .inl h
   ·exact .inr ⟨n,by omega,(dm.1 h).2⟩
theorem zz (v:Nat):∀(n:Nat) (x:eS),x∈yq v n ->x=⟨11,0,0,[]⟩\/x=⟨26,0,0,[]⟩
 | 0,x,h=>by cases h
 | n+1,x,h=>by
  rcases bB.1 h with h | h
  ·exact .inl h
  ·rcases aZ.1 h with h | h
   ·split at h
    ·cases h
    ·exact .inr (dm.1 h).2
   ·exact zz v n x h
theorem rO {n k v:Nat} {x:eS} (h:x∈kC n k v):x=xQ\/(∃a:Nat,a < n/\x=oR a)\/x=⟨12,k,0,[]⟩\/x=⟨11,0,0,[]⟩\/x=⟨26,0,0,[]⟩:=by
 rcases aZ.1 h with h | h
 ·exact(uE v n x h).imp id .inl
 ·rcases bB.1 h with h | h
  ·exact .inr (.inr (.inl h))
  ·exact .inr (.inr (.inr (zz v n x h)))
theorem Hv:∀n:Fin 31,∀v:Fin 4,qb (preB v n) 0 0 []=some (n.val*v.val,Jg v n):=by decide+kernel
theorem G6:∀n:Fin 31,∀v:Fin 4,0 < n.val ->qb (yq v n) (n.val*(1+v.val)+1) ((n.val - 1)*v.val) (Jg v n)=some (0,[]):=by decide+kernel
theorem Cn:∀n:Fin 31,∀v:Fin 4,(yq v n).length <=150:=by decide+kernel
theorem uq {n k v:Nat} (hn:n <=30) (Pf:1 <=n) (hk:k < n) (hv:v <=3):qb (kC n k v) 0 0 []=some (0,[]):=by
 have h1:=Hv ⟨n,by omega⟩ ⟨v,by omega⟩;have h2:=G6 ⟨n,by omega⟩ ⟨v,by omega⟩ (by show 0 < n;omega);simp only at h1 h2;unfold kC;rw [sH _ _ _ _ _ _ h1,iS,bP];obtain⟨m,rfl⟩:∃m,n=m+1:=⟨n - 1,by omega⟩;have hl:(Jg v (m+1)).length=m+1:=by
  have:∀n,(Jg v n).length=n:=fun n=>by induction n with
   | zero=>rfl
   | succ n ih=>rw [Jg,aF,ih]
  exact this _
 have h3:xR ⟨12,(k:Int),0,[]⟩ ((m+1)*(1+v)) ((m+1)*v) (Jg v (m+1))=some (m*v,Jg v (m+1)):=by
  unfold xR;rw [aC (show ¬ (12:Int)=2 by decide),aC (show ¬ (12:Int)=65 by decide),aC (show ¬ (12:Int)=26 by decide),aJ rfl,aJ ⟨by show(0:Int) <=k;omega,by rw [hl];show(k:Int) <=_;omega,by show m*v <=(m+1)*v;exact cz v (dP m)⟩];rfl
 rw [qb,h3];exact h2
def Jx (x:eS) (i:Nat) (s:List fm × List jD):List fm × List jD:=if x.op=2 then(s.1,s.2++[⟨i,s.1.length⟩])else(s.1++[⟨1,x.a⟩],s.2)
def yE:List eS ->Nat ->List fm × List jD ->List fm × List jD
 | [],_,s=>s
 | x::l,i,s=>yE l (i+1) (Jx x i s)
theorem Ae (x:eS):∀(l:List eS) (i:Nat) (s:List fm × List jD),yE (l++[x]) i s=Jx x (i+l.length) (yE l i s)
 | [],i,s=>rfl
 | y::l,i,s=>by
  rw [bI,yE,Ae x l,yE,aF,show i+1+l.length=i+(l.length+1)by omega]
theorem Cw:∀(l:List eS) (i:Nat) (s:List fm × List jD),(yE l i s).1.length <=s.1.length+l.length/\(yE l i s).2.length <=s.2.length+l.length
 | [],i,s=>⟨ag _,ag _⟩
 | x::l,i,s=>by
  have h:=Cw l (i+1) (Jx x i s);have h2:(Jx x i s).1.length <=s.1.length+1/\(Jx x i s).2.length <=s.2.length+1:=by
   unfold Jx;split <;>simp
  rw [yE,aF];omega
theorem JK:∀n:Fin 31,∀v:Fin 4,(yE (preB v n) 0 ([],[])).1.length=n.val*v.val/\(yE (preB v n) 0 ([],[])).2=py v n:=by decide+kernel
def yt (n v i:Nat):gV:=⟨(yE ((preB v n).take i) 0 ([],[])).1,[⟨2,(i:Int),[],0,(yE ((preB v n).take i) 0 ([],[])).2⟩],-1⟩
theorem DK {n k v:Nat}:∀x∈kC n k v,x.mE:=by
 intro x hx;rcases rO hx with rfl | ⟨a,-,rfl⟩ | rfl | rfl | rfl <;>simp [eS.mE,oR,xQ]
theorem Jr {n k v:Nat}:∀x∈kC n k v,x.l=[]:=by
 intro x hx;rcases rO hx with rfl | ⟨a,-,rfl⟩ | rfl | rfl | rfl <;>rfl
set_option linter.unusedSectionVars false
section
variable {n k v:Nat} (hn:n <=30) (Pf:1 <=n) (hk:k < n) (hv:v <=3)
include hn hv
theorem tZ:n*(1+v) <=120:=aW (dx hn (show 1+v <=4 by omega)) (by decide)
theorem rP:(kC n k v).length <=300:=by
 have h1:=Cn ⟨n,by omega⟩ ⟨v,by omega⟩;have h2:=tZ hn hv;simp only at h1;unfold kC;rw [ah,iS,aF];omega
include hk
theorem zT:qX (kC n k v):=by
 intro x hx;rcases rO hx with rfl | ⟨a,ha,rfl⟩ | rfl | rfl | rfl
 ·simp [xQ,iP]
 ·refine⟨rfl,?_,?_,?_⟩
  ·simp [oR,iP]
  ·show iP (a:Int)
   unfold iP;omega
  ·simp [oR,iP]
 ·refine⟨rfl,?_,?_,?_⟩
  ·simp [iP]
  ·show iP (k:Int)
   unfold iP;omega
  ·simp [iP]
 ·simp [iP]
 ·simp [iP]
include Pf
theorem GV:gS.may ⟨[],kC n k v⟩:=by
 obtain⟨js,h1,-⟩:=rS (rP hn hv) (uq hn Pf hk hv);refine⟨by rw [h1];rfl,⟨by simp,by simp⟩,rP hn hv,fun x hx=>?_⟩;rcases rO hx with rfl | ⟨a,ha,rfl⟩ | rfl | rfl | rfl
 ·decide
 ·exact Ex (by omega) (by omega)
 ·refine⟨fun _=>rfl,fun _=>rfl, .inr (.inr (.inl ⟨by show fT 12=3;decide,?_⟩))⟩
  unfold gp;simp only;omega
 ·decide
 ·decide
theorem A8:iM (fe (kC n k v))= -1:=vW _ (GV hn Pf hk hv) Jr (Fe (rP hn hv) (uq hn Pf hk hv))
theorem FG (i:Nat) (hi:i < n*(1+v)) (w:World) (F FX:Nat ->Bool) (X b:Nat) (iv:qg) (h:jn w F FX X b iv (fe (kC n k v)) [] [] 37 (yt n v i)):
  Calls prog 8 #[.pointer (some ⟨X,0,none⟩), .pointer (some ⟨b,0,none⟩)] w (mA F FX X b iv (fe (kC n k v)) [] [] 37 (jv.more,yt n v (i+1)) w):=by
 have hN:=tZ hn hv;have hl:=iS v n;obtain⟨x,hx⟩:∃x,(preB v n)[i]?=some x:=⟨_,aw (by omega)⟩;have MQ:(kC n k v)[i]?=some x:=by unfold kC;rw [List.getElem?_append_left (by omega)];exact hx
 have Lw:((preB v n).take i).length=i:=by rw [aS];omega
 have hS:yE ((preB v n).take (i+1)) 0 ([],[])=Jx x i (yE ((preB v n).take i) 0 ([],[])):=by
  rw [aR,hx];show yE (_++[x]) _ _=_;rw [Ae,Lw,bP]
 have hlen:=Cw ((preB v n).take i) 0 ([],[]);rw [Lw]at hlen;simp only [aL,bP]at hlen;unfold yt at h⊢;rw [hS];generalize yE ((preB v n).take i) 0 ([],[])=s at h hlen⊢;rcases uE v n x (aO hx)with rfl | ⟨a,-,rfl⟩
 ·exact jn.block w F FX X b iv (fe (kC n k v)) [] [] _ s.1 [] ⟨2,(i:Int),[],0,s.2⟩ (-1) 0 i ⟨[],kC n k v⟩ h rfl rfl (by rw [(yf _).1];decide) rfl MQ (by show s.2.length <=50000;omega) (by omega)
 ·have E:=jn.const w F FX X b iv (fe (kC n k v)) [] [] 37 s.1 [] ⟨2,(i:Int),[],0,s.2⟩ (-1) 0 i ⟨[],kC n k v⟩ h rfl rfl (by rw [(yf _).1];decide) rfl a MQ (by omega) (by omega)
  have hr:kP s.1 [⟨1,a⟩] ⟨s.1,[]++[⟨2,(i:Int),[],0,s.2⟩],-1⟩ [] ⟨2,(i:Int),[],0,s.2⟩=(jv.more,⟨s.1++[⟨1,a⟩],[⟨2,(i:Int)+1,[],0,s.2⟩],-1⟩):=by
   unfold kP;rw [aC (by simp only [aB];omega)];rfl
  rw [hr]at E;exact E
theorem DH (vb:Value) (w:World) (hb:gx w vb (kC n k v)):
  Calls prog 7 #[vb, .int .i64 0, .int .i64 ((n*(1+v):Nat):Int)] w (AB (kC n k v) (yt n v (n*(1+v))) w):=
 Ea (kC n k v) vb (yt n v) (n*(1+v)) w hb (by have:=tZ hn hv;omega) DK (A8 hn Pf hk hv) (by simp [yt,yE,Ig]) (fun i hi w F FX X b iv hr=>FG hn Pf hk hv i hi w F FX X b iv hr)
theorem zy:∃l,yt n v (n*(1+v))=⟨l,[⟨2,((n*(1+v):Nat):Int),[],0,py v n⟩],-1⟩/\l.length=n*v:=by
 have h:=JK ⟨n,by omega⟩ ⟨v,by omega⟩;simp only at h;refine⟨(yE (preB v n) 0 ([],[])).1,?_,h.1⟩;unfold yt;rw [cW (by rw [iS];exact ag _),h.2]
theorem Jj (w:World) (F FX:Nat ->Bool) (X b:Nat) (iv:qg) (h:jn w F FX X b iv (fe (kC n k v)) [] [] 37 (yt n v (n*(1+v)))):
  ∃(l:List fm) (f:fc),l.length=(n - 1 - k)*v/\f.labels.length=n - 1 - k/\Calls prog 8 #[.pointer (some ⟨X,0,none⟩), .pointer (some ⟨b,0,none⟩)] w (mA F FX X b iv (fe (kC n k v)) [] [] 37 (jv.more,⟨l,[f],-1⟩) w):=by
 have hN:=tZ hn hv;obtain⟨l,he,hl⟩:=zy hn Pf hk hv;rw [he]at h;obtain⟨j,hj⟩:∃j,j=n - 1 - k:=⟨_,rfl⟩;have hjv:j*v <=l.length:=by rw [hl];exact cz v (by omega)
 have hlv:l.length <=90:=by rw [hl];exact aW (dx hn hv) (by decide)
 have Lw:(l.take (j*v)).length=j*v:=by rw [aS];omega
 have hjN:j*(1+v) <=120:=aW (cz _ (by omega)) hN;rw [<- cn (j*v) l]at h;obtain⟨js,hm,hf⟩:=rS (rP hn hv) (uq hn Pf hk hv);have hfi:=Gs (c:=⟨[],kC n k v⟩) hm hf ((j*(1+v):Nat):Int);have Pa:=mY v n;refine⟨l.take (j*v),tq ⟨2,((n*(1+v):Nat):Int),[],0,py v n⟩ j ((lN (jf ⟨[],kC n k v⟩) ((j*(1+v):Nat):Int)).fin+1),by rw [Lw,hj],by show((py v n).take j).length=_;rw [aS];omega,?_⟩;refine jn.br w F FX X b iv (fe (kC n k v)) [] [] _ (l.take (j*v)) (l.drop (j*v)) [] ⟨2,((n*(1+v):Nat):Int),[],0,py v n⟩ (-1) 0 (n*(1+v)) ⟨[],kC n k v⟩ h rfl rfl (by rw [(yf _).1];decide) rfl k j (j*(1+v)) _ ?_ (by show j+1+k=(py v n).length;omega) ?_ ?_ rfl ⟨hfi.1,by omega⟩ (by omega) (by rw [Lw,bu];omega)
 ·show(kC n k v)[_]?=_
  unfold kC;rw [bp (by rw [iS];exact ag _),iS,dk];rfl
 ·show(py v n)[j]?=_
  rw [xP v n j (by omega),Lw]
 ·show(kC n k v)[_]?=_
  unfold kC;rw [bm (by rw [iS];exact Nat.mul_lt_mul_of_pos_right (by omega) (by omega))];exact Cy v n j (by omega)
end
end
def zx (x:eS):List Value:=[.int .i64 x.op, .int .i64 x.a, .int .i64 x.b, .slice none 0 0]
theorem F7 (x:eS):(zx x).length=4:=rfl
theorem GZ (x:eS):∀u∈zx x,u.oneCell'=true:=by
 intro u hu;simp only [zx,bB,bN,cY]at hu;rcases hu with rfl | rfl | rfl | rfl <;>rfl
theorem GD {w:World} {v:Value} {l:List eS} (h:ew 4 zx w v l) (hl:qX l):gx w v l:=by
 refine⟨l.map fun _=> .slice none 0 0,by simp,?_,rJ w l hl⟩;have hz:(l.zip (l.map fun _=>Value.slice none 0 0)).length=l.length:=by simp
 obtain⟨a,cap,h1,h2,h3,h4⟩:=h;refine⟨a,cap,by rw [hz];exact h1,by rw [hz];exact h2,h3,fun i x hx=>?_⟩;obtain⟨hx1,OX⟩:=cJ.1 hx;rw [cT,hx1]at OX;injection OX with OX;obtain⟨b,off,e1,e2,e3⟩:=h4 i x.1 hx1;refine⟨b,off,e1,e2,fun j u hu=>e3 j u ?_⟩;rw [<- hu];show(zx x.1)[j]?=(qf x)[j]?;unfold qf zx;rw [<- OX]
def Ko (n:Nat) (w0 w:World) (i:Nat):Prop:=i <=n/\Below w0.heap.size w0 w
def BJ (l:List eS) (w0 w:World) (v:Value):Prop:=ea 27 4 zx w w0.heap.size v l/\Below w0.heap.size w0 w
theorem lz {ops:Array Oper} {rest:List Oper} {o:Oper} {a:Act} {Q:Exit ->Act ->World ->Prop} (w0 w:World) (O9:o.guard=none) (s x:Operand)
  (ho:o.op= .call {callee:= .builtin .append,args:=#[s,x],argTypes:=#[24,24]}) (v:Value) (l:List eS) (hs:a.eval s=v) (hJ:BJ l w0 w v) (y:eS) (cs:Array Value) (RG:cs=(zx y).toArray) (hx:a.eval x= .slice (some ⟨w.heap.size,0,none⟩) 1 1) (hl:l.length <=1000)
  (h:∀av cv w',BJ (l++[y]) w0 w' (.slice av (l.length+1) cv) ->wpList prog ops Q rest (a.put o.dst (.slice av (l.length+1) cv)) w'):
  wpList prog ops Q (o::rest) a (w.alloc (.cells cs 27)):=by
 refine fb w O9 s x 24 ho _ 48 (by kernel_rfl) oQ rfl (by decide) (by decide) w0.heap.size v l hs hJ.1 y cs RG rfl (GZ _) hx (by omega) hJ.2.size ?_;intro v' w' h1 h2 _;obtain⟨av,cv,hv,-,-⟩:=h1.slice;rw [ah,aB]at hv;subst hv;exact h av cv w' ⟨h1,hJ.2.trans (h2.below hJ.2.size (fun g hg=>(eE hJ.1 hg).1))⟩
theorem jn.xL {w:World} {F FX:Nat ->Bool} {X b:Nat} {iv:qg} {m:eI} {pre post:List Value} {t:TypeId} {ej:List fm} {lo:List fc} {fq:fc} {asks:Int} (h:jn w F FX X b iv m pre post t ⟨ej,lo++[fq],asks⟩):
  ∃g cap al cl,(F b=false/\F g=false)/\w.cell? ⟨b,pre.length+1,none⟩=some (.slice (some ⟨g,0,none⟩) (lo.length+1) cap)/\lo.length+1 <=cap/\cap <=9223372036854775807/\w.cell? ⟨g,lo.length*5+4,none⟩=some (.slice al fq.labels.length cl)/\fq.labels.length <=cl/\cl <=9223372036854775807/\
   ∀j l,fq.labels[j]?=some l ->∃bl ol,al=some ⟨bl,ol,none⟩/\w.cell? ⟨bl,ol+j*2,none⟩=some (.int .i64 l.pos)/\w.cell? ⟨bl,ol+j*2+1,none⟩=some (.int .i64 l.eR):=by
 obtain⟨uv,g,cap,us,u,h1,h2⟩:=h.shape;obtain⟨⟨-,-,-,-,p4⟩,hf,-,-,-,M9,Mj⟩:=h1.cells;have hl:=hf.2.fR jS;obtain⟨al,cl,hu,h3,h4⟩:=hl.sl;rw [hu]at p4 hl;refine⟨g,cap,al,cl,⟨h2 b (.inl rfl),h2 g (.inr (.inr (.inl (by simp [eH,Value.ownBlock]))))⟩,h1.c1,M9,Mj,p4,h3,h4,fun j l hj=>?_⟩;obtain⟨bl,ol,cl',he,-,-,-,hc⟩:=ew.at hl hj;injection he with he;refine⟨bl,ol,he,?_,hc 1 _ rfl⟩;have:=hc 0 _ rfl
 rwa [aK]at this
theorem vk (n k v:Int) (w:World):Calls prog 4 #[.int .i64 n, .int .i64 k, .int .i64 v] w (kF w):=by
 go_enter func4,ntmps4;go_wp2_with fail;refine(zw w).mono ?_;rintro x WS ⟨rfl,hb⟩;have HW0:=V hb;clear hb;by_cases q1:n < 1
 ·have f1:decide (n < 1)=true:=aA q1
  go_wp2_with fail;go_ret;exact⟨rfl,HW0.out⟩
 by_cases q2:30 < n
 ·have f1:decide (n < 1)=false:=aq q1
  have f2:decide (30 < n)=true:=aA q2;go_wp2_with fail;go_ret;exact⟨rfl,HW0.out⟩
 by_cases q3:k < 0
 ·have f1:decide (n < 1)=false:=aq q1
  have f2:decide (30 < n)=false:=aq q2;have f3:decide (k < 0)=true:=aA q3;go_wp2_with fail;go_ret;exact⟨rfl,HW0.out⟩
 by_cases q4:n <=k
 ·have f1:decide (n < 1)=false:=aq q1
  have f2:decide (30 < n)=false:=aq q2;have f3:decide (k < 0)=false:=aq q3;have f4:decide (n <=k)=true:=aA q4;go_wp2_with fail;go_ret;exact⟨rfl,HW0.out⟩
 by_cases q5:v < 0
 ·have f1:decide (n < 1)=false:=aq q1
  have f2:decide (30 < n)=false:=aq q2;have f3:decide (k < 0)=false:=aq q3;have f4:decide (n <=k)=false:=aq q4;have f5:decide (v < 0)=true:=aA q5;go_wp2_with fail;go_ret;exact⟨rfl,HW0.out⟩
 by_cases q6:3 < v
 ·have f1:decide (n < 1)=false:=aq q1
  have f2:decide (30 < n)=false:=aq q2;have f3:decide (k < 0)=false:=aq q3;have f4:decide (n <=k)=false:=aq q4;have f5:decide (v < 0)=false:=aq q5;have f6:decide (3 < v)=true:=aA q6;go_wp2_with fail;go_ret;exact⟨rfl,HW0.out⟩
 obtain⟨n,rfl⟩:=Int.eq_ofNat_of_zero_le (show 0 <=n by omega);obtain⟨k,rfl⟩:=Int.eq_ofNat_of_zero_le (show 0 <=k by omega);obtain⟨v,rfl⟩:=Int.eq_ofNat_of_zero_le (show 0 <=v by omega);have hn:n <=30:=by omega
 have Pf:1 <=n:=by omega
 have hk:k < n:=by omega
 have hv:v <=3:=by omega
 have hN:=tZ hn hv;have Ns:=V (show∀i,i <=n ->i*(1+v) <=120 from fun i hi=>aW (cz _ hi) hN);have f1:decide ((n:Int) < 1)=false:=aq q1;have f2:decide (30 < (n:Int))=false:=aq q2;have f3:decide ((k:Int) < 0)=false:=aq q3;have f4:decide ((n:Int) <=(k:Int))=false:=aq q4;have f5:decide ((v:Int) < 0)=false:=aq q5;have f6:decide (3 < (v:Int))=false:=aq q6;clear q1 q2 q3 q4 q5 q6;go_wp2_with fail;clear f1 f2 f3 f4 f5 f6;refine xH (fun a' w'=>∃(i:Nat) (x:Value),a'=fr (.int .i64 n:: .int .i64 k:: .int .i64 v::gs a' 3 5 (x:: .int .i64 i::gs a' 10 197 []))/\i <=n/\BJ (preB v i) WS w' x) (fun a' _=>(n - (intOf (a'.tmps.getD 9 undef)).toNat))
  (fun a' w'=>∃(x:Value),a'=fr (.int .i64 n:: .int .i64 k:: .int .i64 v::gs a' 3 5 (x::gs a' 9 198 []))/\BJ (preB v n) WS w' x) ?_ ?_ ?_
 ·exact⟨0, .slice none 0 0,rfl,bA _,ea.nil _ _,an _ _⟩
 ·skip
  rintro R Y a' w1 ⟨i,x,Lp,hJ⟩ HR HY;dsimp only [fr,gs]at Lp;generalize slot a'=f at Lp;subst Lp;obtain⟨hi,hB⟩:=hJ;have HB:=V hB;by_cases q:i < n;rotate_left
  ·have f1:decide ((i:Int) < (n:Int))=false:=aq (by omega)
   obtain rfl:i=n:=by omega
   clear hB;go_wp2_with fail;exact HY.out _ _ ⟨x,rfl,HB.out⟩
  have f1:decide ((i:Int) < (n:Int))=true:=aA (by omega);have hiN:=Ns.out i hi;obtain⟨av,cv,Mx,-,-⟩:=hB.1.slice;subst Mx;clear hB;go_wp2_with (first | (at_builtin;refine lz WS w1 rfl _ _ rfl _ _ rfl HB.out xQ _ rfl rfl (by rw [iS];omega) ?_));intro PK cv2 w2 OI;have LS:=V OI;clear OI f1;go_wp2_with fail;have HRO:=HR;have HYO:=HY;clear HR HY HB;refine eJ (fun a' w'=>∃(j:Nat) (x:Value),a'=fr (.int .i64 n:: .int .i64 k:: .int .i64 v::gs a' 3 5 (x:: .int .i64 i:: .int .i64 j::gs a' 11 196 []))/\j <=v/\BJ (preB v i++(xQ::List.replicate j (oR i))) WS w' x) (fun a' _=>(v - (intOf (a'.tmps.getD 10 undef)).toNat)) ?_ ?_
  ·exact⟨0,_,rfl,bA _,LS.out⟩
  ·clear LS
   rintro R a' w1 ⟨j,x,Lp,hJ⟩ HR;dsimp only [fr,gs]at Lp;generalize slot a'=f at Lp;subst Lp;obtain⟨hj,hB⟩:=hJ;have HB:=V hB;by_cases q2:j < v;rotate_left
   ·have f1:decide ((j:Int) < (v:Int))=false:=aq (by omega)
    obtain rfl:j=v:=by omega
    clear hB;go_wp2_with fail;refine HRO.out _ _ ⟨i+1,x,rfl,by omega,HB.out⟩ ?_;simp [intOf];omega
   have f1:decide ((j:Int) < (v:Int))=true:=aA (by omega);obtain⟨av,cv,Mx,-,-⟩:=hB.1.slice;subst Mx;clear hB;go_wp2_with (first | (at_builtin;refine lz WS w1 rfl _ _ rfl _ _ rfl HB.out (oR i) _ rfl rfl (by rw [ah,iS,aF,bo];omega) ?_));intro PK cv2 w2 OI;have LS:=V (show BJ (preB v i++(xQ::List.replicate (j+1) (oR i))) WS w2 _ by
    rw [List.replicate_succ'];simpa using OI)
   clear OI f1;go_wp2_with fail;refine HR.out _ _ ⟨j+1,_,rfl,by omega,LS.out⟩ ?_;simp [intOf];omega
 ·skip
  rintro a' w1 ⟨x,Lp,hJ⟩;dsimp only [fr,gs]at Lp;generalize slot a'=f at Lp;subst Lp;have HB:=V hJ;obtain⟨av,cv,Mx,-,-⟩:=hJ.1.slice;subst Mx;clear hJ;have hpl:=iS v n;obtain⟨L,hL⟩:∃L,(preB v n).length=L:=⟨_,rfl⟩;rw [hL]at HB⊢;have HLL:=V (show L=n*(1+v)by omega);have HPL:=V hL;have hL9:L <=120:=by omega
  clear hpl hL;go_wp2_with (first | (at_builtin;refine lz WS w1 rfl _ _ rfl (.slice av L cv) (preB v n) rfl HB.out (⟨12,(k:Int),0,[]⟩:eS) _ rfl rfl (by rw [HPL.out];omega) ?_));intro PK cv2 w2 OI;have LS:=V OI;rw [HPL.out];rw [HPL.out]at LS;clear OI HB;go_wp2_with fail;refine xH (fun a' w'=>∃(i:Nat) (x:Value) (Z:List eS),a'=fr (.int .i64 n:: .int .i64 k:: .int .i64 v::gs a' 3 5 (x::gs a' 9 2 (.int .i64 L:: .int .i64 i::gs a' 13 194 [])))/\i <=n/\Z++yq v (n - i)=yq v n/\BJ (preB v n++⟨12,(k:Int),0,[]⟩::Z) WS w' x) (fun a' _=>(n - (intOf (a'.tmps.getD 12 undef)).toNat))
   (fun a' w'=>∃(x:Value),a'=fr (.int .i64 n:: .int .i64 k:: .int .i64 v::gs a' 3 5 (x::gs a' 9 2 (.int .i64 L::gs a' 12 195 [])))/\BJ (kC n k v) WS w' x) ?_ ?_ ?_
  ·exact⟨0,_,[],rfl,bA _,rfl,LS.out⟩
  ·clear LS
   rintro R Y a' w1 ⟨i,x,Z,Lp,hJ⟩ HR HY;dsimp only [fr,gs]at Lp;generalize slot a'=f at Lp;subst Lp;obtain⟨hi,hz,hB⟩:=hJ;have HB:=V hB;have HZ:=V hz;have hzl:Z.length <=150:=by
    have h1:=Cn ⟨n,by omega⟩ ⟨v,by omega⟩;have h2:=cX List.length hz;simp only [ah]at h1 h2;omega
   clear hz;by_cases q:i < n;rotate_left
   ·have f1:decide ((i:Int) < (n:Int))=false:=aq (by omega)
    obtain rfl:i=n:=by omega
    have h:=HZ.out;rw [dk,yq,bO]at h;clear hB;subst h;go_wp2_with fail;exact HY.out _ _ ⟨x,rfl,HB.out⟩
   have f1:decide ((i:Int) < (n:Int))=true:=aA (by omega);obtain⟨m,hm⟩:∃m,n - i=m+1:=⟨n - i - 1,by omega⟩;have hs:=HZ.out;rw [hm,yq]at hs;have HZ1:=V hs;obtain⟨av,cv,Mx,-,-⟩:=hB.1.slice;subst Mx;have hln:(preB v n++(⟨12,(k:Int),0,[]⟩:eS)::Z).length <=300:=by rw [ah,HPL.out,aF];omega
   clear hB hs;go_wp2_with (first | (at_builtin;refine lz WS w1 rfl _ _ rfl _ _ rfl HB.out (⟨11,0,0,[]⟩:eS) _ rfl rfl (by omega) ?_));intro PK cv2 w2 OI;have LS:=V OI;clear OI f1;by_cases q2:m=0
   ·have f1:decide ((i:Int) < (n:Int) - 1)=false:=aq (by omega)
    go_wp2_with fail;refine HR.out _ _ ⟨i+1,_,Z++[⟨11,0,0,[]⟩],rfl,by omega,?_,?_⟩ ?_
    ·rw [<- HZ1.out,aJ q2,show n - (i+1)=m by omega]
     simp
    ·simpa using LS.out
    ·simp [intOf]
     omega
   have f1:decide ((i:Int) < (n:Int) - 1)=true:=aA (by omega);have HZ2:=V HZ1.out;rw [aC q2]at HZ2;go_wp2_with fail;have HRO:=HR;clear HR HY HB;refine eJ (fun a' w'=>∃(j:Nat) (x:Value),a'=fr (.int .i64 n:: .int .i64 k:: .int .i64 v::gs a' 3 5 (x::gs a' 9 2 (.int .i64 L:: .int .i64 i:: .int .i64 j::gs a' 14 193 [])))/\j <=v/\BJ (preB v n++⟨12,(k:Int),0,[]⟩::(Z++⟨11,0,0,[]⟩::List.replicate j ⟨26,0,0,[]⟩)) WS w' x) (fun a' _=>(v - (intOf (a'.tmps.getD 13 undef)).toNat)) ?_ ?_
   ·exact⟨0,_,rfl,bA _,by simpa using LS.out⟩
   ·clear LS f1
    rintro R a' w1 ⟨j,x,Lp,hJ⟩ HR;dsimp only [fr,gs]at Lp;generalize slot a'=f at Lp;subst Lp;obtain⟨hj,hB⟩:=hJ;have HB:=V hB;by_cases q3:j < v;rotate_left
    ·have f1:decide ((j:Int) < (v:Int))=false:=aq (by omega)
     obtain rfl:j=v:=by omega
     clear hB;go_wp2_with fail;refine HRO.out _ _ ⟨i+1,x,_,rfl,by omega,?_,HB.out⟩ ?_
     ·rw [<- HZ2.out,show n - (i+1)=m by omega]
      simp
     ·simp [intOf]
      omega
    have f1:decide ((j:Int) < (v:Int))=true:=aA (by omega);obtain⟨av,cv,Mx,-,-⟩:=hB.1.slice;subst Mx;have hln2:(preB v n++(⟨12,(k:Int),0,[]⟩:eS)::(Z++(⟨11,0,0,[]⟩:eS)::List.replicate j (⟨26,0,0,[]⟩:eS))).length <=400:=by
     simp only [ah,HPL.out,aF,bo];omega
    clear hB;go_wp2_with (first | (at_builtin;refine lz WS w1 rfl _ _ rfl _ _ rfl HB.out (⟨26,0,0,[]⟩:eS) _ rfl rfl (by omega) ?_));intro av3 cv3 w3 hB3;have Q7:=V (show BJ (preB v n++⟨12,(k:Int),0,[]⟩::(Z++⟨11,0,0,[]⟩::List.replicate (j+1) ⟨26,0,0,[]⟩)) WS w3 _ by
     rw [List.replicate_succ'];simpa using hB3)
    clear hB3 f1;go_wp2_with fail;refine HR.out _ _ ⟨j+1,_,rfl,by omega,Q7.out⟩ ?_;simp [intOf];omega
  ·skip
   rintro a' w1 ⟨x,Lp,hJ⟩;dsimp only [fr,gs]at Lp;generalize slot a'=f at Lp;subst Lp;have HB:=V hJ;have Qq:=V (GD (hJ.1.fR F7) (zT hn hk hv));obtain⟨av,cv,Mx,-,-⟩:=hJ.1.slice;subst Mx;clear hJ;go_wp2_with fail;have E:=DH hn Pf hk hv _ w1 Qq.out;rw [<- HLL.out]at E;refine bU E ?_;clear E Qq;rintro x w3 ⟨X,b,F,FX,iv,ao,co,rfl,LA,hf,hb⟩;have LC:=(an w3.heap.size w3).alloc (ag _) (.cells #[.int .i64 1, .int .i64 0, .int .i64 0, .slice ao 0 co] 32);obtain⟨Y,hY⟩:∃Y,Y=w3.heap.size:=⟨_,rfl⟩;have NM:=V (LA.add LC Y (by omega) (by simp;omega));have HY:=V (eP.new w3 #[.int .i64 1, .int .i64 0, .int .i64 0, .slice ao 0 co] 32);rw [<- hY]at HY;have HFX:=V (show FX Y=false by
    cases hg:FX Y with
    | false=>rfl
    | true=>have:=LA.inst.lt _ hg;omega)
   have HW:=V HB.out.2.size;have HYW:=V (show WS.heap.size <=Y by rw [hY];exact(ei HB.out.2 hb).size);have HB:=V (ei (ei HB.out.2 hb) LC);obtain⟨F',RF⟩:∃F':Nat ->Bool,F'=fun g=>F g || decide (g=Y):=⟨_,rfl⟩;rw [<- RF]at NM;have RE:=V (show∀i,F' i=false ->WS.heap.size <=i by
    intro i hi;rw [RF,dM]at hi;have:=hf i hi.1;have:=HW.out;omega)
   have HFY:=V (show F' Y=true by rw [RF];simp);clear LA hf hb LC RF;obtain⟨l,hS,hlv⟩:=zy hn Pf hk hv;rw [HLL.out]at NM;have Ou:=V NM.out;rw [hS]at NM;have HLV:=V hlv;clear hS hlv;obtain⟨g1,k1,al,cl,-,x1,MA,hk1m,x4,PD,Ry,-⟩:=jn.xL (lo:=[]) NM.out;have Mm:((py v n).length:Nat)=n:=mY v n;replace x1:World.cell? _ ⟨b,1,none⟩=some (.slice (some ⟨g1,0,none⟩) 1 k1):=x1;replace x4:World.cell? _ ⟨g1,4,none⟩=some (.slice al (py v n).length cl):=x4;rw [Mm]at x4;have hk1':1 <=k1:=MA;have f1:((n:Int) !=(n:Int))=false:=jI rfl;have HYE:=V hY;clear hY MA Mm PD;go_wp2_with fail;rw [<- HYE.out];have HBR:=V HB.out;generalize(w3.alloc (.cells #[.int .i64 1, .int .i64 0, .int .i64 0, .slice ao 0 co] 32))=WA at NM Ou HY HBR⊢;clear x1 x4 f1 HB;refine eJ (fun a' w'=>∃(i:Nat),a'=fr (.int .i64 n:: .int .i64 k:: .int .i64 v::gs a' 3 11 (.pointer (some ⟨X,0,none⟩):: .pointer (some ⟨b,0,none⟩):: .pointer (some ⟨Y,0,none⟩):: .int .i64 i::gs a' 18 189 []))/\Ko n WA w' i) (fun a' _=>(n - (intOf (a'.tmps.getD 17 undef)).toNat)) ?_ ?_
   ·exact⟨0,rfl,bA _,an _ _⟩
   ·skip
    clear f;rintro R a' w1 ⟨i,Lp,hJ⟩ HR;dsimp only [fr,gs]at Lp;generalize slot a'=f at Lp;subst Lp;obtain⟨hi,hb⟩:=hJ;have NM:=V (NM.out.below hb);have HY:=V (HY.out.below hb HY.out.lt);have LG:=V (ei HBR.out hb);by_cases q:i < n
    ·have f1:decide ((i:Int) < (n:Int))=true:=aA (by omega)
     obtain⟨g1,k1,al,cl,-,x1,MA,hk1m,x4,PD,Ry,hat⟩:=jn.xL (lo:=[]) NM.out;obtain⟨bl,ol,rfl,y0,y1⟩:=hat i _ (xP v n i q);have Mm:((py v n).length:Nat)=n:=mY v n;replace x1:w1.cell? ⟨b,1,none⟩=some (.slice (some ⟨g1,0,none⟩) 1 k1):=x1;replace x4:w1.cell? ⟨g1,4,none⟩=some (.slice (some ⟨bl,ol,none⟩) (py v n).length cl):=x4;rw [Mm]at x4 PD;have hm1:i*v <=90:=aW (dx (show i <=30 by omega) hv) (by decide);have hm2:i*(1+v) <=120:=Ns.out i hi;simp only [dr,Int.natCast_add,Int.natCast_one]at y0 y1;have hm3:(i:Int)*(v:Int) <=90:=by rw [<- dr];omega
     have hm4:(0:Int) <=(i:Int)*(v:Int):=by rw [<- dr];omega
     have hm5:(i:Int)*(1+(v:Int)) <=120:=by have:((i*(1+v):Nat):Int) <=120:=(by omega);simpa using this
     have hm6:(0:Int) <=(i:Int)*(1+(v:Int)):=by have:(0:Int) <=((i*(1+v):Nat):Int):=(by omega);simpa using this
     have f2:((i:Int)*(v:Int) !=(i:Int)*(v:Int))=false:=jI rfl;have f3:((i:Int)*(1+(v:Int)) !=(i:Int)*(1+(v:Int)))=false:=jI rfl;have hk1':1 <=k1:=MA;clear hat Mm MA hm1 hm2;go_wp2_with fail;refine HR.out _ _ ⟨i+1,rfl,by omega,hb⟩ ?_;simp [intOf];omega
    ·have f1:decide ((i:Int) < (n:Int))=false:=aq (by omega)
     obtain rfl:n=i:=by omega
     obtain⟨l2,f9,hl2,hf2,E⟩:=Jj hn Pf hk hv w1 F' FX X b iv (Ou.out.below hb);go_wp2_with fail;clear f1;refine bU E ?_;clear E;rintro x w2 ⟨vv,rfl,LA,PB,hkp⟩;obtain⟨a5,c5,rfl,-,-⟩:=PB.slice;have HY:=V (HY.out.keeps hkp (by simp [HFY.out]));obtain⟨a0,k0,x0,-,Qw⟩:=jn.c0 LA;obtain⟨g1,k1,al,cl,⟨hFb,hFg⟩,x1,MA,hk1m,x4,PD,Ry,-⟩:=jn.xL (lo:=[]) LA;have Nm:b≠Y:=by
      intro e;rw [e,HFY.out]at hFb;cases hFb
     have hne2:g1≠Y:=by
      intro e;rw [e,HFY.out]at hFg;cases hFg
     replace x0:w2.cell? ⟨b,0,none⟩=some (.slice a0 l2.length k0):=x0;replace x1:w2.cell? ⟨b,1,none⟩=some (.slice (some ⟨g1,0,none⟩) 1 k1):=x1;replace x4:w2.cell? ⟨g1,4,none⟩=some (.slice al f9.labels.length cl):=x4;have hc:((n - 1 - k:Nat):Int)=(n:Int) - 1 - (k:Int):=by omega
     have hm:(n - 1 - k)*v <=90:=aW (dx (show n - 1 - k <=30 by omega) hv) (by decide);have hm3:((n:Int) - 1 - (k:Int))*(v:Int) <=90:=by rw [<- hc, <- dr];omega
     have hm4:(0:Int) <=((n:Int) - 1 - (k:Int))*(v:Int):=by rw [<- hc, <- dr];omega
     have f4:(((f9.labels.length:Nat):Int)==(n:Int) - 1 - (k:Int))=true:=eQ (by rw [hf2];exact hc);have f5:(((l2.length:Nat):Int)==((n:Int) - 1 - (k:Int))*(v:Int))=true:=eQ (by rw [hl2,dr,hc]);have hk1':1 <=k1:=MA;have HBZ:=V (LG.out.trans (hkp.below LG.out.size RE.out));clear PB hkp LA hl2 hf2 hc hm MA;simp only [oy,jv.more,aL];obtain⟨⟨y0,y1,y2,y3⟩,z0,z1,z2,z3⟩:=HY.out.four;go_wp2_with fail;go_ret;have Lt:=gJ w2 Y 1 0 0 (.slice a5 0 c5);exact⟨rfl,ei HW0.out (HBZ.out.trans (Lt.below HBZ.out.size (fun g hg=>by rw [hg];exact HYW.out)))⟩
end Go.Proofs.YthbjdhjppbcneaaGreatDoor
