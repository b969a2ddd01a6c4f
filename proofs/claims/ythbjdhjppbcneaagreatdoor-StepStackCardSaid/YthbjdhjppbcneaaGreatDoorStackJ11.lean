import Derived.Test.YthbjdhjppbcneaaGreatDoorStackJ10
import Derived.Laws.EntriesVeiled
namespace Go.Proofs.YthbjdhjppbcneaaGreatDoor
set_option maxRecDepth 100000
set_option maxHeartbeats 20000000
open Go.RowKit Tryz
open Lib renaming hid->V
set_option linter.all false
theorem eE.Ia {w:World} {X:Nat} {x0 x1 x2:Int} {b:Bool} {t:TypeId} (h:eE w X #[.int .i64 x0, .int .i64 x1, .int .i64 x2, .bool b] t):
  (loadVar 186 ⟨X,0,none⟩).run prog w= .ok (.agg #[.int .i64 x0, .int .i64 x1, .int .i64 x2, .bool b]) w:=by
 have hs:(prog.underlying 186).map (fun d=>match d with | .struct _ | .array _ _=>true | _=>false)=some true:=by kernel_rfl
 obtain⟨d,h1,h2⟩:=bB.1 hs;exact bZ w X t 186 _ _ d h h1 (by cases d <;>first | rfl | (exfalso;simp at h2)) (by kernel_rfl)
def DP (t:mI):Value:= .agg #[.int .i64 t.op, .int .i64 t.kind, .int .i64 t.eJ, .bool t.dead]
theorem pU (a:Option Addr) (len cap k:Nat) (h:k <=cap) (wx:World):
  (Instr.slice 179 (.slice a len cap) none (some (.int .i64 k)) none).run prog wx= .ok (.slice a k cap) wx:=by
 have hu:prog.underlying 179=some (.slice 186):=by kernel_rfl
 obtain⟨i0,hi,MY,LG,Mm⟩:=cd wq;simp [Instr.slice,bo hu,Instr.sliceBounds,Instr.sliceBound,sizeOf,typeInfo,hi,asIntOf,h];cases a <;>simp [Addr.add]
theorem dR.gw {α:Type} {t t':TypeId} {k:Nat} {enc:α ->List Value} {w:World} {B X:Nat} {v:Value} {l:List α} {xs:Array Value} (h:dR t k enc w B v l) (hb:eE w X xs t') (Mf:t≠t'):∀i,ey v i ->¬ i=X:=by
 intro i hi he;subst he;obtain⟨_,⟨hv,_⟩ | ⟨g,cap,cur,hv,_,hg,_⟩⟩:=h
 ·rw [hv]at hi;simp [ey,Value.ownBlock]at hi
 ·rw [hv]at hi
  simp [ey,Value.ownBlock]at hi;subst hi;have:=hb.symm.trans hg;injection this with this;injection this with e1 e2;exact Mf e2.symm
theorem Dm (w1:World) (C:Nat) (u:eB) (m:ew) (lv:Value) (w:World) (c:eG) (h:gf w1 C u m lv w c) (Kt:gQ c):
  Calls prog 106 #[.pointer (some ⟨C,0,none⟩)] w (fun e w'=>e= .returned (DP c.top)/\gf w1 C u m lv w' c.shut.2/\dS (fun i=>i=C) w w'):=by
 have Lu:=V Kt;have Kq:=h.lt;obtain⟨dX,eO,bad⟩:=c;obtain⟨cs,t,rfl⟩:=qZ Kt.2;rw [mv];have HSH:Hid ((eG.shut ⟨dX,cs++[t],bad⟩).2={(eG.fO ⟨dX,cs++[t],bad⟩ (gF t.kind)).need ((eG.fO ⟨dX,cs++[t],bad⟩ (gF t.kind)).dX.length==t.eJ)with eO:=cs}):=V (by
  unfold eG.shut eG.BW;rw [mv];simp only [eG.mF,eG.il,List.dropLast_concat])
 have HK0:dS (fun i=>i=C) w (w.alloc (.cells #[.int .i64 0, .int .i64 0, .int .i64 0, .bool false] 186)):=(dS.refl _ _).alloc _;have OE:=eE.new w #[.int .i64 0, .int .i64 0, .int .i64 0, .bool false] 186;obtain⟨v,v',hb,hv,hc,hk,hC⟩:=h;obtain⟨g,cap,rfl,K7,Mr,Ov,MQ,M5⟩:=AN.of hb rfl hc;have C16:=V M5.1;have H:=V ((show gf w1 C u m lv w ⟨dX,cs++[t],bad⟩from⟨v,_,hb,hv,hc,hk,hC⟩).alloc (.cells #[.int .i64 0, .int .i64 0, .int .i64 0, .bool false] 186));have hCl:=hb.lt;have hsw:=hk.size;have Om:=V (AN.keeps (S:=fun _=>False) M5 ((dS.refl (fun _=>False) w).alloc (.cells #[.int .i64 0, .int .i64 0, .int .i64 0, .bool false] 186)) ⟨hCl,fun h=>h⟩ ⟨MQ,fun h=>h⟩);have HQ:Hid ((w.alloc (.cells #[.int .i64 0, .int .i64 0, .int .i64 0, .bool false] 186)).cell? ⟨C,16,none⟩=w.cell? ⟨C,16,none⟩):=V (((an w.heap.size w).alloc (ag _) _).cell hCl);have hsA:(w.alloc (.cells #[.int .i64 0, .int .i64 0, .int .i64 0, .bool false] 186)).heap.size=w.heap.size+1:=aE _ _;have hlA:=H.out.lt.1;clear hb hv hc hk M5 Kt Kq;go_enter func106,ntmps106;go_wp2_with fail;obtain⟨wA,OQ⟩:∃wA,wA=w.alloc (.cells #[.int .i64 0, .int .i64 0, .int .i64 0, .bool false] 186):=⟨_,rfl⟩;rw [<- OQ]at HK0 OE H Om HQ hsA hlA⊢;clear OQ;have HSA:=V hsA;have hgA:g < wA.heap.size:=by omega
 have hYA:wA.heap.size=w.heap.size+1:=hsA;refine ed (AN C g cs.length cap t) (up 0 12 ((12,false)::(13,false)::[])) (by kernel_rfl) (by kernel_rfl) Om.out ?_;clear hsA hYA;iterate 12 (first | (apply sk rfl rfl;simp only [pt]) | (apply dT rfl rfl rfl;·(rintro w' ⟨t0,t1,t2,t3,t4⟩;go_wp2;exact⟨rfl,rfl,rfl⟩)))
 refine dZ rfl rfl ?_;go_wp2_with fail;refine⟨Om.out.keeps ((dS.refl (fun _=>False) wA).drew.alloc _) ⟨hlA,fun h=>h⟩ ⟨hgA,fun h=>h⟩,?_⟩;refine dZ rfl rfl ?_;go_wp2_with fail;have KR:=V (qt wA t);have HX:=V (tH wA t);unfold E4 at KR HX;rw [HSA.out];have HX:=V (show eE _ (w.heap.size+1) _ _ by have:=HX.out;rw [HSA.out]at this;exact this);have HS:=V (H.out.below KR.out);have HR:=V (OE.below KR.out OE.lt);have HK:=V (HK0.trans (dS.dV (S:=fun _=>False) KR.out) (fun _ h=>h.elim));have HQ:=V ((KR.out.cell (p:=⟨C,16,none⟩) hlA).trans HQ.out);refine⟨Om.out.keeps (dS.dV (S:=fun _=>False) KR.out) ⟨hlA,fun h=>h⟩ ⟨hgA,fun h=>h⟩,?_⟩;refine eH ?_;refine aD ?_;generalize(wA.alloc (.cells #[.int .i64 t.op, .int .i64 t.kind, .int .i64 t.eJ, .bool t.dead] 186)).drew=wb at HX HS HR HK HQ⊢;clear KR Om H HK0 OE HSA hlA hgA;have HXL:=V (show w.heap.size+1 < wb.heap.size from HX.out.lt);have x1:=HX.out.cell 1;simp only [aG,aF,aT]at x1;go_wp2_with fail;refine(mU t.kind wb C HS.out.lt.1).mono ?_;rintro e w2 ⟨kv,rfl,hl,hb⟩;have HL:=V hl;have HS:=V (HS.out.below hb);have HX:=V (HX.out.below hb HX.out.lt);have HR:=V (HR.out.below hb HR.out.lt);have HK:=V (HK.out.trans (dS.dV (S:=fun _=>False) hb) (fun _ h=>h.elim));have HQ:=V ((hb.cell (p:=⟨C,16,none⟩) (bK hCl (aW (dO _) (Nat.le_of_lt HXL.out)))).trans HQ.out);clear hl hb x1;go_wp2_with fail;refine(nY w1 C u m lv w2 _ kv (gF t.kind) HS.out Lu.out HL.out (by unfold gF;split <;>simp)).mono ?_;rintro e w3 ⟨rfl,hs,hk,hq⟩;have HS:=V hs;have HX:=V (HX.out.keeps hk (by omega));have HR:=V (HR.out.keeps hk (by omega));have HK:=V (HK.out.trans hk (fun _ h=> .inl h));have HQ:=V (hq.trans HQ.out);clear hs hk hq;obtain⟨L,hL⟩:∃L,(eG.fO ⟨dX,cs++[t],bad⟩ (gF t.kind)).dX.length=L:=⟨_,rfl⟩;obtain⟨v,v',hb,hv,-,-,-⟩:=HS.out;obtain⟨av,cv,rfl,-,-⟩:=hv.slice;rw [hL]at hb hv HSH;have NK:w3.cell? ⟨C,15,none⟩=some (.slice av L cv):=hb.cell 15;have x2:w3.cell? ⟨w.heap.size+1,2,none⟩=some (.int .i64 t.eJ):=HX.out.cell 2;clear hb hv hL;by_cases q:L=t.eJ
 ·have f1:((L:Int)==(t.eJ:Int))=true:=eF (by omega)
  have f2:(L==t.eJ)=true:=by simp [q]
  have HND:=V f2;clear q;go_wp2_with fail;refine eP (fun w'=>w'.cell? ⟨C,15,none⟩=some (.slice av L cv)/\w'.cell? ⟨w.heap.size+1,2,none⟩=some (.int .i64 t.eJ)) 9 (up 0 9 []) (by kernel_rfl) (by kernel_rfl) ⟨NK,x2⟩ ?_;clear NK x2;iterate 9 (first | (apply sk rfl rfl;simp only [pt]) | (apply dT rfl rfl rfl;·(rintro w' ⟨t0,t1⟩;go_wp2;exact⟨rfl,rfl,rfl⟩)))
  refine fI rfl rfl ?_;have HS:=V HS.out.drew;have HX:=V HX.out.drew;have HR:=V HR.out.drew;have HK:=V HK.out.drew;have HQ:=V (show w3.drew.cell? ⟨C,16,none⟩=w.cell? ⟨C,16,none⟩from HQ.out);generalize w3.drew=w4 at HS HX HR HK HQ⊢;go_wp2_with fail;refine(jD w1 C u m lv w4 _ true HS.out).mono ?_;rintro e w5 ⟨rfl,hs,hk,hq⟩;have HS:=V hs;have HX:=V (HX.out.keeps hk (by omega));have HR:=V (HR.out.keeps hk (by omega));have HK:=V (HK.out.trans hk (fun _ h=> .inl h));have HQ:=V (hq.trans HQ.out);clear hs hk hq;go_wp2_with fail;refine⟨trivial,?_⟩;refine aD ?_;have HX:=V HX.out.drew;have HR:=V HR.out.drew;have HK:=V HK.out.drew;obtain⟨v,v',hb,hv,hc,hk,-⟩:=HS.out.drew;have KH:dR 186 4 xI w5.drew w1.heap.size v' (cs++[t]):=by
   have LY:=hc;rw [show((eG.fO ⟨dX,cs++[t],bad⟩ (gF t.kind)).need true).eO=cs++[t]from by rw [eG.mF,eG.il]]at LY;exact LY
  obtain⟨g2,Kn,rfl,hcap2,hcm2,hg3,hg4,M5⟩:=AN.of hb rfl KH;have Qb:w5.drew.cell? ⟨C,16,none⟩=some (.slice (some ⟨g2,0,none⟩) (cs.length+1) Kn):=M5.1;have hgg:g2 < w.heap.size:=by
   have h1:w5.cell? ⟨C,16,none⟩=some (.slice (some ⟨g2,0,none⟩) (cs.length+1) Kn):=M5.1;have h2:=HQ.out;rw [h1,C16.out]at h2;injection h2 with h2;injection h2 with h2;injection h2 with h2;injection h2 with h2;omega
  have z16:=hb.free 16;have LV:=pU (some ⟨g2,0,none⟩) (cs.length+1) Kn cs.length (by omega);have Kz:=V hb;have PD:=V hv;have HCC:=V KH;have OZ:=V hk;clear hb hv hc KH hk M5;go_wp2_with fail;refine eP (fun w'=>w'.cell? ⟨C,16,none⟩=some (.slice (some ⟨g2,0,none⟩) (cs.length+1) Kn)) 14 (up 0 14 []) (by kernel_rfl) (by kernel_rfl) Qb ?_;iterate 14 (first | (apply sk rfl rfl;simp only [pt]) | (apply dT rfl rfl rfl;·(rintro w' t0;go_wp2;exact⟨rfl,rfl,rfl⟩)))
  refine fI rfl rfl ?_;generalize w5.drew=w7 at HX HR HK Kz PD HCC OZ Qb z16 hg4⊢;go_wp2_with fail;have Km:=ep w7 C 16 (.slice (some ⟨g2,0,none⟩) cs.length Kn);have hT:=dR.take jC HCC.out cs.length (by simp);rw [dx rfl]at hT;have HT:=V (hT.keeps Km (fun i hi h=>by have:=(eo hT hi).1;omega));have PD:=V (PD.out.keeps Km (fun i hi h=>by have:=(eo PD.out hi).1;omega));have Kz:=V (show eE _ C (sF u m lv v (.slice (some ⟨g2,0,none⟩) cs.length Kn) ((eG.fO ⟨dX,cs++[t],bad⟩ (gF t.kind)).need true).bad) 181 from Kz.out.set 16 (.slice (some ⟨g2,0,none⟩) cs.length Kn));have OZ:=V (OZ.out.trans Km (fun _ h=> .inl h));have HX:=V (HX.out.keeps Km (by omega));have HR:=V (HR.out.keeps Km (by omega));have HK:=V (HK.out.trans Km (fun _ h=> .inl h));refine⟨trivial,?_⟩;refine aD ?_;clear Km hT Qb z16 LV;generalize w7.setCell ⟨C,16,none⟩ (.slice (some ⟨g2,0,none⟩) cs.length Kn)=w8 at HX HR HK HT PD Kz OZ⊢;obtain⟨⟨x0,x1,x2,x3⟩,-,-,-,-⟩:=HX.out.four;obtain⟨⟨r0,r1,r2,r3⟩,zr0,zr1,zr2,zr3⟩:=HR.out.four;go_wp2_with fail;have hx:=HR.out.rS (.int .i64 t.op) (.int .i64 t.kind) (.int .i64 t.eJ) (.bool t.dead);have Km:=ml w8 w.heap.size (.int .i64 t.op) (.int .i64 t.kind) (.int .i64 t.eJ) (.bool t.dead);refine aN (eu rfl _ _ rfl hx.Ia) rfl ?_;refine⟨rfl,?_,HK.out.trans Km (fun i hi=> .inr (by omega))⟩;rw [HSH.out,HND.out];exact⟨v,_,Kz.out.keeps Km (by omega),PD.out.keeps Km (PD.out.gw HR.out (by decide)),HT.out.keeps Km (fun i hi h=>absurd (show g2=i by simpa [ey,Value.ownBlock] using hi) (by omega)),OZ.out.trans Km (fun i hi=> .inr (by omega)),hC⟩
 ·have f1:((L:Int)==(t.eJ:Int))=false:=dQ (by omega)
  have f2:(L==t.eJ)=false:=by simp [q]
  have HND:=V f2;clear q;go_wp2_with fail;refine eP (fun w'=>w'.cell? ⟨C,15,none⟩=some (.slice av L cv)/\w'.cell? ⟨w.heap.size+1,2,none⟩=some (.int .i64 t.eJ)) 9 (up 0 9 []) (by kernel_rfl) (by kernel_rfl) ⟨NK,x2⟩ ?_;clear NK x2;iterate 9 (first | (apply sk rfl rfl;simp only [pt]) | (apply dT rfl rfl rfl;·(rintro w' ⟨t0,t1⟩;go_wp2;exact⟨rfl,rfl,rfl⟩)))
  refine fI rfl rfl ?_;have HS:=V HS.out.drew;have HX:=V HX.out.drew;have HR:=V HR.out.drew;have HK:=V HK.out.drew;have HQ:=V (show w3.drew.cell? ⟨C,16,none⟩=w.cell? ⟨C,16,none⟩from HQ.out);generalize w3.drew=w4 at HS HX HR HK HQ⊢;go_wp2_with fail;refine(jD w1 C u m lv w4 _ false HS.out).mono ?_;rintro e w5 ⟨rfl,hs,hk,hq⟩;have HS:=V hs;have HX:=V (HX.out.keeps hk (by omega));have HR:=V (HR.out.keeps hk (by omega));have HK:=V (HK.out.trans hk (fun _ h=> .inl h));have HQ:=V (hq.trans HQ.out);clear hs hk hq;go_wp2_with fail;refine⟨trivial,?_⟩;refine aD ?_;have HX:=V HX.out.drew;have HR:=V HR.out.drew;have HK:=V HK.out.drew;obtain⟨v,v',hb,hv,hc,hk,-⟩:=HS.out.drew;have KH:dR 186 4 xI w5.drew w1.heap.size v' (cs++[t]):=by
   have LY:=hc;rw [show((eG.fO ⟨dX,cs++[t],bad⟩ (gF t.kind)).need false).eO=cs++[t]from by rw [eG.mF,eG.il]]at LY;exact LY
  obtain⟨g2,Kn,rfl,hcap2,hcm2,hg3,hg4,M5⟩:=AN.of hb rfl KH;have Qb:w5.drew.cell? ⟨C,16,none⟩=some (.slice (some ⟨g2,0,none⟩) (cs.length+1) Kn):=M5.1;have hgg:g2 < w.heap.size:=by
   have h1:w5.cell? ⟨C,16,none⟩=some (.slice (some ⟨g2,0,none⟩) (cs.length+1) Kn):=M5.1;have h2:=HQ.out;rw [h1,C16.out]at h2;injection h2 with h2;injection h2 with h2;injection h2 with h2;injection h2 with h2;omega
  have z16:=hb.free 16;have LV:=pU (some ⟨g2,0,none⟩) (cs.length+1) Kn cs.length (by omega);have Kz:=V hb;have PD:=V hv;have HCC:=V KH;have OZ:=V hk;clear hb hv hc KH hk M5;go_wp2_with fail;refine eP (fun w'=>w'.cell? ⟨C,16,none⟩=some (.slice (some ⟨g2,0,none⟩) (cs.length+1) Kn)) 14 (up 0 14 []) (by kernel_rfl) (by kernel_rfl) Qb ?_;iterate 14 (first | (apply sk rfl rfl;simp only [pt]) | (apply dT rfl rfl rfl;·(rintro w' t0;go_wp2;exact⟨rfl,rfl,rfl⟩)))
  refine fI rfl rfl ?_;generalize w5.drew=w7 at HX HR HK Kz PD HCC OZ Qb z16 hg4⊢;go_wp2_with fail;have Km:=ep w7 C 16 (.slice (some ⟨g2,0,none⟩) cs.length Kn);have hT:=dR.take jC HCC.out cs.length (by simp);rw [dx rfl]at hT;have HT:=V (hT.keeps Km (fun i hi h=>by have:=(eo hT hi).1;omega));have PD:=V (PD.out.keeps Km (fun i hi h=>by have:=(eo PD.out hi).1;omega));have Kz:=V (show eE _ C (sF u m lv v (.slice (some ⟨g2,0,none⟩) cs.length Kn) ((eG.fO ⟨dX,cs++[t],bad⟩ (gF t.kind)).need false).bad) 181 from Kz.out.set 16 (.slice (some ⟨g2,0,none⟩) cs.length Kn));have OZ:=V (OZ.out.trans Km (fun _ h=> .inl h));have HX:=V (HX.out.keeps Km (by omega));have HR:=V (HR.out.keeps Km (by omega));have HK:=V (HK.out.trans Km (fun _ h=> .inl h));refine⟨trivial,?_⟩;refine aD ?_;clear Km hT Qb z16 LV;generalize w7.setCell ⟨C,16,none⟩ (.slice (some ⟨g2,0,none⟩) cs.length Kn)=w8 at HX HR HK HT PD Kz OZ⊢;obtain⟨⟨x0,x1,x2,x3⟩,-,-,-,-⟩:=HX.out.four;obtain⟨⟨r0,r1,r2,r3⟩,zr0,zr1,zr2,zr3⟩:=HR.out.four;go_wp2_with fail;have hx:=HR.out.rS (.int .i64 t.op) (.int .i64 t.kind) (.int .i64 t.eJ) (.bool t.dead);have Km:=ml w8 w.heap.size (.int .i64 t.op) (.int .i64 t.kind) (.int .i64 t.eJ) (.bool t.dead);refine aN (eu rfl _ _ rfl hx.Ia) rfl ?_;refine⟨rfl,?_,HK.out.trans Km (fun i hi=> .inr (by omega))⟩;rw [HSH.out,HND.out];exact⟨v,_,Kz.out.keeps Km (by omega),PD.out.keeps Km (PD.out.gw HR.out (by decide)),HT.out.keeps Km (fun i hi h=>absurd (show g2=i by simpa [ey,Value.ownBlock] using hi) (by omega)),OZ.out.trans Km (fun i hi=> .inr (by omega)),hC⟩
def Gp (w1:World) (C:Nat) (u:eB) (m:ew) (lv:Value) (c:eG) (w:World) (e:Ending) (w':World):Prop:=e= .returned (DP c.top)/\gf w1 C u m lv w' c.shut.2/\dS (fun i=>i=C) w w'
theorem sU (w1:World) (C:Nat) (u:eB) (m:ew) (lv:Value) (w:World) (c:eG) (h:gf w1 C u m lv w c) (Kt:gQ c):
  Calls prog 106 #[.pointer (some ⟨C,0,none⟩)] w (Gp w1 C u m lv c w):=Dm w1 C u m lv w c h Kt
def oX (w1:World) (C:Nat) (u:eB) (m:ew) (lv:Value) (ls:List Int):Prop:=ej (rR C w1) u m/\ee 1 eZ (rR C w1) lv ls
theorem gf.ext {w1 w:World} {C:Nat} {u:eB} {m:ew} {lv:Value} {c:eG} (h:gf w1 C u m lv w c):Ext (rR C w1) (rR C w):=pq h.old
theorem gf.ext' {w1 w:World} {C:Nat} {u:eB} {m:ew} {lv:Value} {c:eG} (h:gf w1 C u m lv w c):Ext (rR C w1) w:=sP h.old
theorem gf.cell {w1 w:World} {C:Nat} {u:eB} {m:ew} {lv:Value} {c:eG} (h:gf w1 C u m lv w c):w.cell? ⟨C,0,none⟩=some u.types/\w.cell? ⟨C,1,none⟩=some u.imports/\w.cell? ⟨C,2,none⟩=some u.funcs/\w.cell? ⟨C,3,none⟩=some (.bool m.table.has)/\w.cell? ⟨C,6,none⟩=some (.bool m.mem.has)/\w.cell? ⟨C,9,none⟩=some u.globals/\w.cell? ⟨C,14,none⟩=some lv/\w.cell? ⟨C,17,none⟩=some (.bool c.bad)/\w.frozen? ⟨C,17,none⟩=false:=by
 obtain⟨v,v',hb,-,-,-,-⟩:=h;exact⟨hb.cell 0,hb.cell 1,hb.cell 2,hb.cell 3,hb.cell 6,hb.cell 9,hb.cell 14,hb.cell 17,hb.free 17⟩
theorem gf.fail {w1 w:World} {C:Nat} {u:eB} {m:ew} {lv:Value} {c:eG} (h:gf w1 C u m lv w c):gf w1 C u m lv (w.setCell ⟨C,17,none⟩ (.bool true)) {c with bad:=true}:=by
 obtain⟨v,v',hb,hv,hc,hk,hC⟩:=h;have Km:=ep w C 17 (.bool true);exact⟨v,v',hb.set 17 _,hv.keeps Km (fun i hi h=>by have:=(eo hv hi).1;omega),hc.keeps Km (fun i hi h=>by have:=(eo hc hi).1;omega),hk.trans Km (fun _ h=> .inl h),hC⟩
def Hv (w1:World) (C:Nat) (t:gy × Bool) (w:World) (e:Ending) (w':World):Prop:=
 ∃v1 v2,e= .returned (.tuple #[.agg #[v1,v2], .bool t.2])/\ee 1 eZ (rR C w1) v1 t.1.params/\ee 1 eZ (rR C w1) v2 t.1.results/\Below w.heap.size w w'
theorem oa (w1:World) (C:Nat) (u:eB) (m:ew) (lv:Value) (ls:List Int) (w:World) (c:eG) (t:Int) (h:gf w1 C u m lv w c) (hr:oX w1 C u m lv ls):
  Calls prog 102 #[.pointer (some ⟨C,0,none⟩), .int .i64 t] w (Hv w1 C (typeOf m t) w):=by
 have HX:=V (eE.new w #[.slice none 0 0, .slice none 0 0] 109);have HB:=V ((an w.heap.size w).alloc (ag _) (.cells #[.slice none 0 0, .slice none 0 0] 109));have Kq:=h.lt;have H:=V (h.alloc (.cells #[.slice none 0 0, .slice none 0 0] 109));obtain⟨a0,c0,a1,c1,a2,c2,a3,c3,a4,c4,a5,c5,a6,c6,a7,c7,rfl⟩:=ej.open hr.1;have g0:=H.out.cell.1;obtain⟨x0,x1,z0,z1⟩:=HX.out.two;clear h;by_cases q1:t < 0
 ·have f1:decide (t < 0)=true:=az q1
  have HT:Hid (typeOf m t=(⟨[],[]⟩,false)):=V (by unfold typeOf;rw [if_pos (.inl q1)]);clear q1;go_enter func102,ntmps102;go_wp2_with fail;refine aN (fa rfl _ _ rfl HX.out.kN) rfl ?_;rw [HT.out];exact⟨_,_,rfl,ee.nil _,ee.nil _,HB.out⟩
 obtain⟨k,rfl⟩:∃k:Nat,t=k:=⟨t.toNat,by omega⟩;have f1:decide ((k:Int) < 0)=false:=aA q1;by_cases q2:m.types.length <=k
 ·have f2:decide ((m.types.length:Int) <=(k:Int))=true:=az (by omega)
  have f3:decide (m.types.length <=k)=true:=az q2;have HT:Hid (typeOf m k=(⟨[],[]⟩,false)):=V (by unfold typeOf;rw [if_pos (.inr (by omega))]);clear q1 q2;go_enter func102,ntmps102;go_wp2_with fail;refine aN (fa rfl _ _ rfl HX.out.kN) rfl ?_;rw [HT.out];exact⟨_,_,rfl,ee.nil _,ee.nil _,HB.out⟩
 ·have f2:decide ((m.types.length:Int) <=(k:Int))=false:=aA (by omega)
  have f3:decide (m.types.length <=k)=false:=aA q2;have hk:k < m.types.length:=by omega
  obtain⟨e,he⟩:∃e,m.types[k]?=some e:=⟨_,aq hk⟩;have HT:Hid (typeOf m k=(e,true)):=V (by unfold typeOf;rw [if_neg (by omega),Int.toNat_natCast,he];rfl);obtain⟨b,off,v,rfl,-,KH,K8⟩:=ea.get hr.1.1 he;have y0:=H.out.ext'.1 _ _ (KH 0 _ rfl);have y1:=H.out.ext'.1 _ _ (KH 1 _ rfl);rw [aK]at y0;obtain⟨v1,v2⟩:=v;obtain⟨⟨b1,k1,e1,-,-,-⟩,⟨b2,k2,e2,-,-,-⟩⟩:=id K8.1;simp only at e1 e2;subst e1 e2;have KV:=V K8;clear q1 q2 KH K8 he;go_enter func102,ntmps102;go_wp2_with fail;have hx:=eE.new w #[.slice b1 e.params.length k1, .slice b2 e.results.length k2] 109;have Kl:=(an w.heap.size w).alloc (ag _) (.cells #[.slice b1 e.params.length k1, .slice b2 e.results.length k2] 109);refine aN (fa rfl _ _ rfl hx.kN) rfl ?_;rw [HT.out];exact⟨_,_,rfl,KV.out.1.1,KV.out.1.2,Kl⟩
theorem vq (w1:World) (C:Nat) (u:eB) (m:ew) (lv:Value) (ls:List Int) (w:World) (c:eG) (f:Nat) (hf:f <=100000) (h:gf w1 C u m lv w c) (hr:oX w1 C u m lv ls):
  Calls prog 203 #[.pointer (some ⟨C,0,none⟩), .int .i64 f] w (Hv w1 C (gz m f) w):=by
 have HX:=V (eE.new w #[.slice none 0 0, .slice none 0 0] 109);have HB:=V ((an w.heap.size w).alloc (ag _) (.cells #[.slice none 0 0, .slice none 0 0] 109));have H:=V (h.alloc (.cells #[.slice none 0 0, .slice none 0 0] 109));obtain⟨a0,c0,a1,c1,a2,c2,a3,c3,a4,c4,a5,c5,a6,c6,a7,c7,rfl⟩:=ej.open hr.1;have HR:=V hr;have g1:=H.out.cell.2.1;have g2:=H.out.cell.2.2.1;have hil:m.imports.length <=9223372036854775807:=by
  obtain⟨_,_,_,h1,h2⟩:=eT hr.1.2.1;omega
 have hfl:m.funcs.length <=9223372036854775807:=by
  obtain⟨_,_,_,h1,h2⟩:=eT hr.1.2.2.1;omega
 have Kq:=h.lt;clear h;by_cases q1:f < m.imports.length
 ·have f1:decide ((f:Int) < (m.imports.length:Int))=true:=az (by omega)
  have f2:decide (f < m.imports.length)=true:=az q1;obtain⟨e,he⟩:∃e,m.imports[f]?=some e:=⟨_,aq q1⟩;have HF:Hid (gz m f=typeOf m e.type):=V (by unfold gz;rw [if_pos (by omega),Int.toNat_natCast,he];rfl);obtain⟨_,_,hv,_,_,Kh⟩:=hr.1.2.1;injection hv with e1 e2 e3;subst e1;obtain⟨b,off,rfl,-,KH⟩:=Kh f e he;have y2:=H.out.ext'.1 _ _ (KH 2 _ rfl);clear e2 e3 Kh KH he hr;go_enter func203,ntmps203;go_wp2_with fail;refine(oa w1 C _ m lv ls _ c e.type H.out HR.out).mono ?_;rintro e' w2 ⟨v1,v2,rfl,Nx,LW,hb⟩;obtain⟨b1,k1,rfl,-,-,-⟩:=id Nx;obtain⟨b2,k2,rfl,-,-,-⟩:=id LW;have HV1:=V Nx;have Nr:=V LW;have HX:=V (HX.out.below hb HX.out.lt);have HB:=V (HB.out.trans (hb.mono HB.out.size));clear Nx LW hb;obtain⟨x0,x1,z0,z1⟩:=HX.out.two;go_wp2_with fail;have hx:=HX.out.mX (.slice b1 (typeOf m e.type).1.params.length k1) (.slice b2 (typeOf m e.type).1.results.length k2);have Km:=fC w2 w.heap.size (.slice b1 (typeOf m e.type).1.params.length k1) (.slice b2 (typeOf m e.type).1.results.length k2);refine aN (fa rfl _ _ rfl hx.kN) rfl ?_;rw [HF.out];exact⟨_,_,rfl,HV1.out,Nr.out,HB.out.trans (Km.below HB.out.size (fun i hi=>by omega))⟩
 ·have f1:decide ((f:Int) < (m.imports.length:Int))=false:=aA (by omega)
  have f2:decide (f < m.imports.length)=false:=aA q1;obtain⟨k,hk⟩:∃k,f - m.imports.length=k:=⟨_,rfl⟩;have f5:(f:Int) - (m.imports.length:Int)=(k:Int):=by omega
  have Kp:k <=100000:=by omega
  by_cases q2:k < m.funcs.length
  ·have f3:decide ((k:Int) < (m.funcs.length:Int))=true:=az (by omega)
   have f4:decide (k < m.funcs.length)=true:=az q2;obtain⟨e,he⟩:∃e,m.funcs[k]?=some e:=⟨_,aq q2⟩;have HF:Hid (gz m f=typeOf m e):=V (by
    unfold gz;rw [aC (by omega),aJ (by omega),show((f:Int) - (m.imports.length:Int)).toNat=k by omega,he];rfl)
   obtain⟨_,_,hv,_,_,Kh⟩:=hr.1.2.2.1;injection hv with e1 e2 e3;subst e1;obtain⟨b,off,rfl,-,KH⟩:=Kh k e he;have y0:=H.out.ext'.1 _ _ (KH 0 _ rfl);rw [aK,bj]at y0;clear e2 e3 Kh KH he hr hk;go_enter func203,ntmps203;go_wp2_with fail;refine(oa w1 C _ m lv ls _ c e H.out HR.out).mono ?_;rintro e' w2 ⟨v1,v2,rfl,Nx,LW,hb⟩;obtain⟨b1,k1,rfl,-,-,-⟩:=id Nx;obtain⟨b2,k2,rfl,-,-,-⟩:=id LW;have HV1:=V Nx;have Nr:=V LW;have HX:=V (HX.out.below hb HX.out.lt);have HB:=V (HB.out.trans (hb.mono HB.out.size));clear Nx LW hb;obtain⟨x0,x1,z0,z1⟩:=HX.out.two;go_wp2_with fail;have hx:=HX.out.mX (.slice b1 (typeOf m e).1.params.length k1) (.slice b2 (typeOf m e).1.results.length k2);have Km:=fC w2 w.heap.size (.slice b1 (typeOf m e).1.params.length k1) (.slice b2 (typeOf m e).1.results.length k2);refine aN (fa rfl _ _ rfl hx.kN) rfl ?_;rw [HF.out];exact⟨_,_,rfl,HV1.out,Nr.out,HB.out.trans (Km.below HB.out.size (fun i hi=>by omega))⟩
  ·have f3:decide ((k:Int) < (m.funcs.length:Int))=false:=aA (by omega)
   have f4:decide (k < m.funcs.length)=false:=aA q2;have HF:Hid (gz m f=typeOf m (-1)):=V (by
    unfold gz;rw [aC (by omega),aC (by omega)])
   clear hr hk;go_enter func203,ntmps203;go_wp2_with fail;refine(oa w1 C _ m lv ls _ c (-1) H.out HR.out).mono ?_;rintro e' w2 ⟨v1,v2,rfl,Nx,LW,hb⟩;obtain⟨b1,k1,rfl,-,-,-⟩:=id Nx;obtain⟨b2,k2,rfl,-,-,-⟩:=id LW;have HV1:=V Nx;have Nr:=V LW;have HX:=V (HX.out.below hb HX.out.lt);have HB:=V (HB.out.trans (hb.mono HB.out.size));clear Nx LW hb;obtain⟨x0,x1,z0,z1⟩:=HX.out.two;go_wp2_with fail;have hx:=HX.out.mX (.slice b1 (typeOf m (-1)).1.params.length k1) (.slice b2 (typeOf m (-1)).1.results.length k2);have Km:=fC w2 w.heap.size (.slice b1 (typeOf m (-1)).1.params.length k1) (.slice b2 (typeOf m (-1)).1.results.length k2);refine aN (fa rfl _ _ rfl hx.kN) rfl ?_;rw [HF.out];exact⟨_,_,rfl,HV1.out,Nr.out,HB.out.trans (Km.below HB.out.size (fun i hi=>by omega))⟩
theorem C6 (w1:World) (C:Nat) (u:eB) (m:ew) (lv:Value) (ls:List Int) (w:World) (c:eG) (n:Nat) (h:gf w1 C u m lv w c) (hr:oX w1 C u m lv ls):
  Calls prog 204 #[.pointer (some ⟨C,0,none⟩), .int .i64 n] w (B8 w1 C u m lv (.int .i64 (eG.local ls c n).1) (eG.local ls c n).2 w):=by
 have H:=V h;obtain⟨a,cap,rfl,Me,La,Kh⟩:=id hr.2;have g14:=h.cell.2.2.2.2.2.2.1;have g17:=h.cell.2.2.2.2.2.2.2.1;have z17:=h.cell.2.2.2.2.2.2.2.2;by_cases q:n < ls.length
 ·have f1:decide ((ls.length:Int) <=(n:Int))=false:=aA (by omega)
  have f2:decide (ls.length <=n)=false:=aA (by omega);obtain⟨x,hx⟩:∃x,ls[n]?=some x:=⟨_,aq q⟩;have HL:Hid (eG.local ls c n=(x,c)):=V (by unfold eG.local;rw [if_neg (by omega),Int.toNat_natCast,hx];rfl);obtain⟨b,off,rfl,-,KH⟩:=Kh n x hx;have y0:=h.ext'.1 _ _ (KH 0 _ rfl);rw [aK,bj]at y0;clear Kh KH hx h hr;go_enter func204,ntmps204;go_wp2_with fail;go_ret;rw [HL.out];exact⟨rfl,H.out,dS.refl _ _,rfl⟩
 ·have f1:decide ((ls.length:Int) <=(n:Int))=true:=az (by omega)
  have f2:decide (ls.length <=n)=true:=az (by omega);have HL:Hid (eG.local ls c n=(0,{c with bad:=true})):=V (by unfold eG.local;rw [if_pos (by omega)]);clear Kh h hr q;go_enter func204,ntmps204;go_wp2_with fail;go_ret;rw [HL.out];exact⟨rfl,H.out.fail,ep w C 17 _,cB _ _ _ _ (by simp)⟩
theorem CL (w1:World) (C:Nat) (u:eB) (m:ew) (lv:Value) (w:World) (c:eG) (t:gy) (ok:Bool) (v1 v2:Value) (h:gf w1 C u m lv w c) (Kt:gQ c) (h1:ee 1 eZ (rR C w1) v1 t.params) (h2:ee 1 eZ (rR C w1) v2 t.results)
  (hp:t.params.length <=1000000) (hn:((c.need ok).fO t.params).dX.length+t.results.length <=100000):
  Calls prog 202 #[.pointer (some ⟨C,0,none⟩), .agg #[v1,v2], .bool ok] w (nw w1 C u m lv (.tuple #[]) (c.calls (t,ok))):=by
 obtain⟨a1,k1,rfl,-,-,-⟩:=id h1;obtain⟨a2,k2,rfl,-,-,-⟩:=id h2;have hb:=(an w.heap.size w).alloc (ag _) (.cells #[.slice a1 t.params.length k1, .slice a2 t.results.length k2] 109);have Kq:=h.lt;have H:=V (h.below hb);have HX:=V (eE.new w #[.slice a1 t.params.length k1, .slice a2 t.results.length k2] 109);have H1:=V h1;have H2:=V h2;have Lu:=V (show gQ (c.need ok)from⟨⟨Kt.1.1,Kt.1.2⟩,Kt.2⟩);clear h h1 h2 Kt hb;go_enter func202,ntmps202;go_wp2_with fail;refine(jD w1 C u m lv _ c ok H.out).mono ?_;rintro e w2 ⟨rfl,hs,hk,-⟩;have HS:=V hs;have HX:=V (HX.out.keeps hk (by omega));clear hs hk;have x0:=HX.out.cell 0;simp only [aG,aF]at x0;go_wp2_with fail;refine(nY w1 C u m lv w2 _ _ t.params HS.out Lu.out (H1.out.ext HS.out.ext) hp).mono ?_;rintro e w3 ⟨rfl,hs,hk,-⟩;have HS:=V hs;have HX:=V (HX.out.keeps hk (by omega));clear hs hk x0;have x1:=HX.out.cell 1;simp only [aG,aF,aT]at x1;go_wp2_with fail;refine(lH w1 C u m lv w3 _ _ t.results HS.out (H2.out.ext HS.out.ext) hn).mono ?_;rintro e w4 ⟨rfl,hs⟩;have HS:=V hs;clear hs x1;go_wp2_with fail
 go_end0
 exact⟨rfl,HS.out⟩
def qx (w1:World) (C:Nat) (u:eB) (m:ew) (lv:Value) (x:eK) (c:eG) (w:World) (e:Ending) (w':World):Prop:=
 (∃c',c.control m x=some c'/\e= .returned (.bool true)/\gf w1 C u m lv w' c')\/(c.control m x=none/\e= .returned (.bool false)/\gf w1 C u m lv w' c/\dS (fun i=>i=C) w w')
def ew.short (m:ew):Prop:=∀t∈m.types,t.params.length <=1000/\t.results.length <=10
theorem qH {m:ew} (h:m.short) (t:Int):(typeOf m t).1.params.length <=1000/\(typeOf m t).1.results.length <=10:=by
 unfold typeOf;split
 ·simp
 ·simp only
  cases hx:m.types[t.toNat]? with
  | none=>simp
  | some x=>exact h x (aO hx)
theorem nR {m:ew} (h:m.short) (f:Int):(gz m f).1.params.length <=1000/\(gz m f).1.results.length <=10:=qH h _
theorem n5 (k:Int):(gF k).length <=1:=by unfold gF;split <;>simp
theorem J3 (w1:World) (C:Nat) (u:eB) (m:ew) (lv:Value) (ls:List Int) (w:World) (c:eG) (a b:Int) (al:Option Addr) (nl cl:Nat) (l:List Int) (h:gf w1 C u m lv w c) (Kt:gQ c) (hr:oX w1 C u m lv ls) (Nt:m.short) (hv:c.dX.length <=50000) (hc:c.eO.length <=50000):
  Calls prog 104 #[.pointer (some ⟨C,0,none⟩), .agg #[.int .i64 0, .int .i64 a, .int .i64 b, .slice al nl cl]] w (qx w1 C u m lv ⟨0,a,b,l⟩ c w):=by
 have hu:=And.intro hr (And.intro Nt (And.intro hv hc));clear hu;have hb:=(an w.heap.size w).alloc (ag _) (.cells #[.int .i64 0, .int .i64 a, .int .i64 b, .slice al nl cl] 27);have Kq:=h.lt;have HS:=V (h.below hb);have HX:=V (eE.new w #[.int .i64 0, .int .i64 a, .int .i64 b, .slice al nl cl] 27);have HK:=V (dS.dV (S:=fun i=>i=C) hb);have Lu:=V Kt;have y0:=HX.out.cell 0;have y1:=HX.out.cell 1;simp only [aG,aF,aT]at y0 y1;clear h hb Kt;go_enter func104,ntmps104;go_wp2_with fail;refine(zl w1 C u m lv _ _ HS.out Lu.out).mono ?_;rintro e w9 ⟨rfl,hs⟩;have HS:=V hs;clear hs;go_wp2_with fail;go_ret;exact .inl ⟨_,rfl,rfl,HS.out⟩
theorem JP (w1:World) (C:Nat) (u:eB) (m:ew) (lv:Value) (ls:List Int) (w:World) (c:eG) (a b:Int) (al:Option Addr) (nl cl:Nat) (l:List Int) (h:gf w1 C u m lv w c) (Kt:gQ c) (hr:oX w1 C u m lv ls) (Nt:m.short) (hv:c.dX.length <=50000) (hc:c.eO.length <=50000):
  Calls prog 104 #[.pointer (some ⟨C,0,none⟩), .agg #[.int .i64 2, .int .i64 a, .int .i64 b, .slice al nl cl]] w (qx w1 C u m lv ⟨2,a,b,l⟩ c w):=by
 have hu:=And.intro hr (And.intro Nt (And.intro hv hc));clear hu;have hb:=(an w.heap.size w).alloc (ag _) (.cells #[.int .i64 2, .int .i64 a, .int .i64 b, .slice al nl cl] 27);have Kq:=h.lt;have HS:=V (h.below hb);have HX:=V (eE.new w #[.int .i64 2, .int .i64 a, .int .i64 b, .slice al nl cl] 27);have HK:=V (dS.dV (S:=fun i=>i=C) hb);have Lu:=V Kt;have y0:=HX.out.cell 0;have y1:=HX.out.cell 1;simp only [aG,aF,aT]at y0 y1;clear h hb Kt;go_enter func104,ntmps104;go_wp2_with fail;refine(sW w1 C u m lv _ c 2 a HS.out (by omega)).mono ?_;rintro e w9 ⟨rfl,hs⟩;have HS:=V hs;clear hs y0 y1;go_wp2_with fail;go_ret;exact .inl ⟨_,rfl,rfl,HS.out⟩
theorem IS (w1:World) (C:Nat) (u:eB) (m:ew) (lv:Value) (ls:List Int) (w:World) (c:eG) (a b:Int) (al:Option Addr) (nl cl:Nat) (l:List Int) (h:gf w1 C u m lv w c) (Kt:gQ c) (hr:oX w1 C u m lv ls) (Nt:m.short) (hv:c.dX.length <=50000) (hc:c.eO.length <=50000):
  Calls prog 104 #[.pointer (some ⟨C,0,none⟩), .agg #[.int .i64 11, .int .i64 a, .int .i64 b, .slice al nl cl]] w (qx w1 C u m lv ⟨11,a,b,l⟩ c w):=by
 have hu:=And.intro hr (And.intro Nt (And.intro hv hc));clear hu;have hb:=(an w.heap.size w).alloc (ag _) (.cells #[.int .i64 11, .int .i64 a, .int .i64 b, .slice al nl cl] 27);have Kq:=h.lt;have HS:=V (h.below hb);have HX:=V (eE.new w #[.int .i64 11, .int .i64 a, .int .i64 b, .slice al nl cl] 27);have HK:=V (dS.dV (S:=fun i=>i=C) hb);have Lu:=V Kt;have y0:=HX.out.cell 0;have y1:=HX.out.cell 1;simp only [aG,aF,aT]at y0 y1;clear h hb Kt;go_enter func104,ntmps104;go_wp2_with fail;refine(sU w1 C u m lv _ c HS.out Lu.out).mono ?_;rintro e w2 ⟨rfl,hs,hk⟩;unfold DP;have hb:=(an w2.heap.size w2).alloc (ag _) (.cells #[.int .i64 c.top.op, .int .i64 c.top.kind, .int .i64 c.top.eJ, .bool c.top.dead] 186);have HS:=V (hs.below hb);have HT:=V (eE.new w2 #[.int .i64 c.top.op, .int .i64 c.top.kind, .int .i64 c.top.eJ, .bool c.top.dead] 186);have hl2:=hs.lt;clear hs hk y0 y1 hb;obtain⟨⟨t0,t1,t2,t3⟩,-,-,-,-⟩:=HT.out.four;clear t2 t3;by_cases q1:c.top.op=4
 ·have f1:(c.top.op !=4)=false:=by simp [q1]
  by_cases q2:c.top.kind=0
  ·have f2:=eF q2
   have HQ:=V (show(c.top.op !=4 || c.top.kind==0)=true by rw [f1,f2];rfl);clear q1 q2;go_wp2_with fail;refine(jD w1 C u m lv _ c.shut.2 true HS.out).mono ?_;rintro e w3 ⟨rfl,hs,hk,-⟩;have HS:=V hs;have HT:=V (HT.out.keeps hk (by omega));clear hs hk t0 t1;have t1:=HT.out.cell 1;simp only [aG,aF,aT]at t1;go_wp2_with fail;refine(mU c.top.kind w3 C HS.out.lt.1).mono ?_;rintro e w4 ⟨kv,rfl,hl,hb⟩;have HL:=V hl;have HS:=V (HS.out.below hb);clear hl hb t1;have N7:=n5 c.top.kind;have MH:=qN c;go_wp2_with fail;refine(lH w1 C u m lv w4 _ _ _ HS.out HL.out (by show c.shut.2.dX.length+_ <=_;omega)).mono ?_;rintro e w5 ⟨rfl,hs⟩;have HS:=V hs;clear hs;go_wp2_with fail;go_ret;refine .inl ⟨_,rfl,rfl,?_⟩;show gf w1 C u m lv w5 ((c.shut.2.need (c.top.op !=4 || c.top.kind==0)).push (gF c.top.kind));rw [HQ.out];exact HS.out
  ·have f2:=dQ q2
   have HQ:=V (show(c.top.op !=4 || c.top.kind==0)=false by rw [f1,f2];rfl);clear q1 q2;go_wp2_with fail;refine(jD w1 C u m lv _ c.shut.2 false HS.out).mono ?_;rintro e w3 ⟨rfl,hs,hk,-⟩;have HS:=V hs;have HT:=V (HT.out.keeps hk (by omega));clear hs hk t0 t1;have t1:=HT.out.cell 1;simp only [aG,aF,aT]at t1;go_wp2_with fail;refine(mU c.top.kind w3 C HS.out.lt.1).mono ?_;rintro e w4 ⟨kv,rfl,hl,hb⟩;have HL:=V hl;have HS:=V (HS.out.below hb);clear hl hb t1;have N7:=n5 c.top.kind;have MH:=qN c;go_wp2_with fail;refine(lH w1 C u m lv w4 _ _ _ HS.out HL.out (by show c.shut.2.dX.length+_ <=_;omega)).mono ?_;rintro e w5 ⟨rfl,hs⟩;have HS:=V hs;clear hs;go_wp2_with fail;go_ret;refine .inl ⟨_,rfl,rfl,?_⟩;show gf w1 C u m lv w5 ((c.shut.2.need (c.top.op !=4 || c.top.kind==0)).push (gF c.top.kind));rw [HQ.out];exact HS.out
 ·have f1:(c.top.op !=4)=true:=by simp [q1]
  have HQ:=V (show(c.top.op !=4 || c.top.kind==0)=true by rw [f1];rfl);clear q1;go_wp2_with fail;refine(jD w1 C u m lv _ c.shut.2 true HS.out).mono ?_;rintro e w3 ⟨rfl,hs,hk,-⟩;have HS:=V hs;have HT:=V (HT.out.keeps hk (by omega));clear hs hk t0 t1;have t1:=HT.out.cell 1;simp only [aG,aF,aT]at t1;go_wp2_with fail;refine(mU c.top.kind w3 C HS.out.lt.1).mono ?_;rintro e w4 ⟨kv,rfl,hl,hb⟩;have HL:=V hl;have HS:=V (HS.out.below hb);clear hl hb t1;have N7:=n5 c.top.kind;have MH:=qN c;go_wp2_with fail;refine(lH w1 C u m lv w4 _ _ _ HS.out HL.out (by show c.shut.2.dX.length+_ <=_;omega)).mono ?_;rintro e w5 ⟨rfl,hs⟩;have HS:=V hs;clear hs;go_wp2_with fail;go_ret;refine .inl ⟨_,rfl,rfl,?_⟩;show gf w1 C u m lv w5 ((c.shut.2.need (c.top.op !=4 || c.top.kind==0)).push (gF c.top.kind));rw [HQ.out];exact HS.out
theorem Jj (w1:World) (C:Nat) (u:eB) (m:ew) (lv:Value) (ls:List Int) (w:World) (c:eG) (a b:Int) (al:Option Addr) (nl cl:Nat) (l:List Int) (h:gf w1 C u m lv w c) (Kt:gQ c) (hr:oX w1 C u m lv ls) (Nt:m.short) (hv:c.dX.length <=50000) (hc:c.eO.length <=50000) (ha:0 <=a/\a <=1000):
  Calls prog 104 #[.pointer (some ⟨C,0,none⟩), .agg #[.int .i64 12, .int .i64 a, .int .i64 b, .slice al nl cl]] w (qx w1 C u m lv ⟨12,a,b,l⟩ c w):=by
 obtain⟨k,rfl⟩:∃k:Nat,a=k:=⟨a.toNat,by omega⟩;have hu:=And.intro hr (And.intro Nt (And.intro hv hc));clear hu;have hb:=(an w.heap.size w).alloc (ag _) (.cells #[.int .i64 12, .int .i64 k, .int .i64 b, .slice al nl cl] 27);have Kq:=h.lt;have HS:=V (h.below hb);have HX:=V (eE.new w #[.int .i64 12, .int .i64 k, .int .i64 b, .slice al nl cl] 27);have HK:=V (dS.dV (S:=fun i=>i=C) hb);have Lu:=V Kt;have y0:=HX.out.cell 0;have y1:=HX.out.cell 1;simp only [aG,aF,aT]at y0 y1;clear h hb Kt;go_enter func104,ntmps104;go_wp2_with fail;refine(CH w1 C u m lv _ _ k HS.out).mono ?_;rintro e w2 ⟨kv,rfl,hl,hs,hk⟩;have HS:=V hs;have HL:=V hl;have HX:=V (HX.out.keeps hk (by omega));clear hs hk y0 y1 hl;have hok2:gQ (c.label k).2:=Lu.out.label _;have N7:=Ce c k;go_wp2_with fail;refine(nY w1 C u m lv w2 _ kv _ HS.out hok2 HL.out (by omega)).mono ?_;rintro e w3 ⟨rfl,hs,hk,-⟩;have HS:=V hs;clear hs hk;go_wp2_with fail;refine(zl w1 C u m lv _ _ HS.out (hok2.fO _)).mono ?_;rintro e w9 ⟨rfl,hs⟩;have HS:=V hs;clear hs;go_wp2_with fail;go_ret;exact .inl ⟨_,rfl,rfl,HS.out⟩
theorem Jv (w1:World) (C:Nat) (u:eB) (m:ew) (lv:Value) (ls:List Int) (w:World) (c:eG) (a b:Int) (al:Option Addr) (nl cl:Nat) (l:List Int) (h:gf w1 C u m lv w c) (Kt:gQ c) (hr:oX w1 C u m lv ls) (Nt:m.short) (hv:c.dX.length <=50000) (hc:c.eO.length <=50000) (ha:0 <=a/\a <=1000):
  Calls prog 104 #[.pointer (some ⟨C,0,none⟩), .agg #[.int .i64 16, .int .i64 a, .int .i64 b, .slice al nl cl]] w (qx w1 C u m lv ⟨16,a,b,l⟩ c w):=by
 obtain⟨k,rfl⟩:∃k:Nat,a=k:=⟨a.toNat,by omega⟩;have hu:=And.intro hr (And.intro Nt (And.intro hv hc));clear hu;have hb:=(an w.heap.size w).alloc (ag _) (.cells #[.int .i64 16, .int .i64 k, .int .i64 b, .slice al nl cl] 27);have Kq:=h.lt;have HS:=V (h.below hb);have HX:=V (eE.new w #[.int .i64 16, .int .i64 k, .int .i64 b, .slice al nl cl] 27);have HK:=V (dS.dV (S:=fun i=>i=C) hb);have Lu:=V Kt;have y0:=HX.out.cell 0;have y1:=HX.out.cell 1;simp only [aG,aF,aT]at y0 y1;clear h hb Kt;go_enter func104,ntmps104;go_wp2_with fail;refine(vq w1 C u m lv ls _ c k (by omega) HS.out hr).mono ?_;rintro e w2 ⟨v1,v2,rfl,Nx,LW,hb⟩;have HS:=V (HS.out.below hb);have HV1:=V Nx;have Nr:=V LW;clear hb Nx LW y0 y1;have hsh:=nR Nt (k:Int);have MH:((c.need (gz m k).2).fO (gz m k).1.params).dX.length <=50000:=aW (eG.lp _ _) hv;go_wp2_with fail;refine(CL w1 C u m lv w2 c (gz m k).1 (gz m k).2 _ _ HS.out Lu.out HV1.out Nr.out (by omega) (by omega)).mono ?_;rintro e w3 ⟨rfl,hs⟩;have HS:=V hs;clear hs;go_wp2_with fail;go_ret;exact .inl ⟨_,rfl,rfl,HS.out⟩
theorem J0 (w1:World) (C:Nat) (u:eB) (m:ew) (lv:Value) (w:World) (c:eG) (op a b:Int) (al:Option Addr) (nl cl:Nat) (l:List Int) (h:gf w1 C u m lv w c) (MK:¬ (op=0\/op=1\/op=2\/op=3\/op=4\/op=5\/op=11\/op=12\/op=13\/op=14\/op=15\/op=16\/op=17)):
  Calls prog 104 #[.pointer (some ⟨C,0,none⟩), .agg #[.int .i64 op, .int .i64 a, .int .i64 b, .slice al nl cl]] w (qx w1 C u m lv ⟨op,a,b,l⟩ c w):=by
 have HN:Hid (c.control m ⟨op,a,b,l⟩=none):=V (by
  unfold eG.control;simp only
  repeat (rw [aC (by omega)]))
 have f0:(op==0)=false:=dQ (by omega);have f1:(op==1)=false:=dQ (by omega);have f2:(op==2)=false:=dQ (by omega);have f3:(op==3)=false:=dQ (by omega);have f4:(op==4)=false:=dQ (by omega);have f5:(op==5)=false:=dQ (by omega);have f11:(op==11)=false:=dQ (by omega);have f12:(op==12)=false:=dQ (by omega);have f13:(op==13)=false:=dQ (by omega);have f14:(op==14)=false:=dQ (by omega);have f15:(op==15)=false:=dQ (by omega);have f16:(op==16)=false:=dQ (by omega);have f17:(op==17)=false:=dQ (by omega);have hb:=(an w.heap.size w).alloc (ag _) (.cells #[.int .i64 op, .int .i64 a, .int .i64 b, .slice al nl cl] 27);have HS:=V (h.below hb);have HX:=V (eE.new w #[.int .i64 op, .int .i64 a, .int .i64 b, .slice al nl cl] 27);have HK:=V (dS.dV (S:=fun i=>i=C) hb);have y0:=HX.out.cell 0;simp only [aG,aF]at y0;clear h hb MK;go_enter func104,ntmps104;go_wp2_with fail;go_ret;exact .inr ⟨HN.out,rfl,HS.out,HK.out⟩
theorem ee.rd {α:Type} {k:Nat} {enc:α ->List Value} {w:World} {C:Nat} {v:Value} {l:List α} (h:ee k enc w v l) (hv:∀a n cap,v= .slice (some a) n cap ->a.block≠C):ee k enc (rR C w) v l:=by
 obtain⟨a,cap,rfl,h1,h2,h3⟩:=h;refine⟨a,cap,rfl,h1,h2,fun i x hx=>?_⟩;obtain⟨b,off,ha,Kq,hc⟩:=h3 i x hx;have hb:b≠C:=by
  subst ha;exact hv _ _ _ rfl
 refine⟨b,off,ha,by unfold rR;rw [gX];exact Kq,fun j u hu=>?_⟩;rw [<- hc j u hu];exact bg (jn w (by simp [hb]))
theorem kE (w:World) (x:Int) (t:TypeId) {C:Nat} (hC:C < w.heap.size):ee 1 eZ (rR C (w.alloc (.cells #[.int .i64 x] t))) (.slice (some ⟨w.heap.size,0,none⟩) 1 1) [x]:=
 (lu w x t).rd (fun a n cap he=>by injection he with e1;injection e1 with e1;subst e1;simp;omega)
theorem yr (w:World) (x y:Int) (t:TypeId) {C:Nat} (hC:C < w.heap.size):ee 1 eZ (rR C (w.alloc (.cells #[.int .i64 x, .int .i64 y] t))) (.slice (some ⟨w.heap.size,0,none⟩) 2 2) [x,y]:=
 (pD w x y t).rd (fun a n cap he=>by injection he with e1;injection e1 with e1;subst e1;simp;omega)
def CR (C:Nat) (op:Int) (w:World) (e:Ending) (w':World):Prop:=
 ∃v,e= .returned (.tuple #[v, .int .i64 (eU op).2.1, .bool (eU op).2.2])/\ee 1 eZ (rR C w') v (eU op).1/\Below w.heap.size w w'
theorem qs (op:Int) (w:World) (C:Nat) (hC:C < w.heap.size):Calls prog 86 #[.int .i64 op] w (CR C op w):=by
 have hb:=an w.heap.size w;have MB:∀w1:World,Below w1.heap.size w1 w1:=fun w1=>an _ _;by_cases q1:op=167
 ·subst q1
  go_enter func86,ntmps86;go_wp2_with fail
  go_ret3
  exact⟨_,rfl,kE w 2 _ hC,hb.alloc (ag _) _⟩
 have f1:(op==167)=false:=dQ q1;by_cases q2:op=172
 ·subst q2
  go_enter func86,ntmps86;go_wp2_with fail
  go_ret3
  exact⟨_,rfl,kE w 1 _ hC,hb.alloc (ag _) _⟩
 have f2:(op==172)=false:=dQ q2;by_cases q3:op=173
 ·subst q3
  go_enter func86,ntmps86;go_wp2_with fail
  go_ret3
  exact⟨_,rfl,kE w 1 _ hC,hb.alloc (ag _) _⟩
 have f3:(op==173)=false:=dQ q3;have HQ:Hid (op≠167/\op≠172/\op≠173):=V ⟨q1,q2,q3⟩;clear q1 q2 q3 MB;go_enter func86,ntmps86;go_wp2_with fail;refine(qv op _).mono ?_;rintro x w1 ⟨rfl,Kw⟩;obtain⟨k,hk⟩:∃k,(sw op).1=k:=⟨_,rfl⟩;obtain⟨l,hl⟩:∃l,(sw op).2=l:=⟨_,rfl⟩;rw [hk,hl];have HK:=V hk;have HL:=V hl;replace hb:=dW hb Kw;clear hk hl Kw f1 f2 f3;by_cases q4:k=0
 ·have f4:(k==0)=true:=eF q4
  have H4:=V q4;clear q4;go_wp2_with fail
  go_ret3
  have:eU op=([],0,false):=by rw [eU,aC HQ.out.1,aC HQ.out.2.1,aC HQ.out.2.2,HK.out,aJ H4.out]
  exact⟨_,by rw [this];rfl,by rw [this];exact ee.nil _,hb⟩
 have f4:(k==0)=false:=dQ q4;have H4:=V (show k≠0 from q4);clear q4;by_cases q5:l=69
 ·have f5:(l==69)=true:=eF q5
  have H5:=V q5;clear q5;go_wp2_with fail
  go_ret3
  have:eU op=([k],1,true):=by rw [eU,aC HQ.out.1,aC HQ.out.2.1,aC HQ.out.2.2,HK.out,HL.out,aC H4.out,aJ H5.out]
  exact⟨_,by rw [this];rfl,by rw [this];exact kE _ k _ (by have:=hb.size;omega),hb.alloc hb.size _⟩
 have f5:(l==69)=false:=dQ q5;have H5:=V (show l≠69 from q5);clear q5;go_wp2_with fail;refine(iE l 70 79 _).mono ?_;rintro x w2 ⟨rfl,KF⟩;replace hb:=dW hb KF;clear KF f4 f5;cases h6:lG l 70 79 with
 | true=>
  have H6:=V h6;clear h6;go_wp2_with fail
  go_ret3
  have:eU op=([k,k],1,true):=by rw [eU,aC HQ.out.1,aC HQ.out.2.1,aC HQ.out.2.2,HK.out,HL.out,aC H4.out,aC H5.out,H6.out];rfl
  exact⟨_,by rw [this];rfl,by rw [this];exact yr _ k k _ (by have:=hb.size;omega),hb.alloc hb.size _⟩
 | false=>
  have H6:=V h6;clear h6;go_wp2_with fail;refine(iE l 103 105 _).mono ?_;rintro x w3 ⟨rfl,KF⟩;replace hb:=dW hb KF;clear KF;cases h7:lG l 103 105 with
  | true=>
   have H7:=V h7;clear h7;go_wp2_with fail
   go_ret3
   have:eU op=([k],k,true):=by rw [eU,aC HQ.out.1,aC HQ.out.2.1,aC HQ.out.2.2,HK.out,HL.out,aC H4.out,aC H5.out,H6.out,H7.out];rfl
   exact⟨_,by rw [this];rfl,by rw [this];exact kE _ k _ (by have:=hb.size;omega),hb.alloc hb.size _⟩
  | false=>
   have H7:=V h7;clear h7;go_wp2_with fail
   go_ret3
   have:eU op=([k,k],k,true):=by rw [eU,aC HQ.out.1,aC HQ.out.2.1,aC HQ.out.2.2,HK.out,HL.out,aC H4.out,aC H5.out,H6.out,H7.out];rfl
   exact⟨_,by rw [this];rfl,by rw [this];exact yr _ k k _ (by have:=hb.size;omega),hb.alloc hb.size _⟩
theorem yX (op:Int):(eU op).1.length <=2:=by
 unfold eU;split
 ·simp
 split
 ·simp
 split
 ·simp
 split
 ·simp
 split
 ·simp
 split
 ·simp
 split <;>simp
theorem JR (w1:World) (C:Nat) (u:eB) (m:ew) (lv:Value) (ls:List Int) (w:World) (c:eG) (a b:Int) (al:Option Addr) (nl cl:Nat) (l:List Int) (h:gf w1 C u m lv w c) (Kt:gQ c) (hr:oX w1 C u m lv ls) (hv:c.dX.length <=50000):
  Calls prog 105 #[.pointer (some ⟨C,0,none⟩), .agg #[.int .i64 26, .int .i64 a, .int .i64 b, .slice al nl cl]] w (nw w1 C u m lv (.tuple #[]) (eG.plain m ls c ⟨26,a,b,l⟩)):=by
 have hu:=And.intro Kt (And.intro hr hv);clear hu;have Kw:=(an w.heap.size w).alloc (ag _) (.cells #[.int .i64 26, .int .i64 a, .int .i64 b, .slice al nl cl] 27);have hX:=eE.new w #[.int .i64 26, .int .i64 a, .int .i64 b, .slice al nl cl] 27;have Kl:=(Kw.alloc Kw.size (.cells #[.int .i64 1] 3)).alloc (by rw [aE];exact aW Kw.size (dO _)) (.cells #[.int .i64 2] 3);have HX:=V ((hX.alloc (.cells #[.int .i64 1] 3)).alloc (.cells #[.int .i64 2] 3));have Kq:=h.lt;have HS:=V (h.below Kl);have Lu:=V Kt;have y0:=hX.cell 0;have y0':=HX.out.cell 0;have y1:=HX.out.cell 1;simp only [aG,aF,aT]at y0 y0' y1;clear h Kw Kl hX Kt;go_enter func105,ntmps105;go_wp2_with fail;refine(BA w1 C u m lv _ c 0 HS.out Lu.out.2 Lu.out.top).mono ?_;rintro e w2 ⟨rfl,hs,hk,-⟩;have HS:=V hs;have HX:=V (HX.out.keeps hk (by omega));clear hs hk y0 y0' y1;have y0:=HX.out.cell 0;have y1:=HX.out.cell 1;simp only [aG,aF,aT]at y0 y1;go_wp2_with fail
 go_end0
 exact⟨rfl,HS.out⟩
theorem JQ (w1:World) (C:Nat) (u:eB) (m:ew) (lv:Value) (ls:List Int) (w:World) (c:eG) (a b:Int) (al:Option Addr) (nl cl:Nat) (l:List Int) (h:gf w1 C u m lv w c) (Kt:gQ c) (hr:oX w1 C u m lv ls) (hv:c.dX.length <=50000) (ha:0 <=a/\a <=1000):
  Calls prog 105 #[.pointer (some ⟨C,0,none⟩), .agg #[.int .i64 32, .int .i64 a, .int .i64 b, .slice al nl cl]] w (nw w1 C u m lv (.tuple #[]) (eG.plain m ls c ⟨32,a,b,l⟩)):=by
 obtain⟨k,rfl⟩:∃k:Nat,a=k:=⟨a.toNat,by omega⟩;have hu:=And.intro Kt (And.intro hr hv);clear hu;have Kw:=(an w.heap.size w).alloc (ag _) (.cells #[.int .i64 32, .int .i64 k, .int .i64 b, .slice al nl cl] 27);have hX:=eE.new w #[.int .i64 32, .int .i64 k, .int .i64 b, .slice al nl cl] 27;have Kl:=(Kw.alloc Kw.size (.cells #[.int .i64 1] 3)).alloc (by rw [aE];exact aW Kw.size (dO _)) (.cells #[.int .i64 2] 3);have HX:=V ((hX.alloc (.cells #[.int .i64 1] 3)).alloc (.cells #[.int .i64 2] 3));have Kq:=h.lt;have HS:=V (h.below Kl);have Lu:=V Kt;have y0:=hX.cell 0;have y0':=HX.out.cell 0;have y1:=HX.out.cell 1;simp only [aG,aF,aT]at y0 y0' y1;clear h Kw Kl hX Kt;go_enter func105,ntmps105;go_wp2_with fail;refine(C6 w1 C u m lv ls _ c k HS.out hr).mono ?_;rintro e w2 ⟨rfl,hs,hk,-⟩;have HS:=V hs;have HX:=V (HX.out.keeps hk (by omega));clear hs hk y0 y0' y1;have y0:=HX.out.cell 0;have y1:=HX.out.cell 1;simp only [aG,aF,aT]at y0 y1;have l1:(eG.local ls c k).2.dX.length <=50000:=by rw [(pk c ls k).2];exact hv
 have hb:=(an w2.heap.size w2).alloc (ag _) (.cells #[.int .i64 (eG.local ls c k).1] 3);have HL:=V (kE w2 (eG.local ls c k).1 3 HS.out.lt.1);have HS:=V (HS.out.below hb);clear hb;go_wp2_with fail;refine(lH w1 C u m lv _ _ _ [(eG.local ls c k).1] HS.out HL.out (by simp only [aB];omega)).mono ?_;rintro e w9 ⟨rfl,hs⟩;have HS:=V hs;clear hs;go_wp2_with fail
 go_end0
 exact⟨rfl,HS.out⟩
theorem JK (w1:World) (C:Nat) (u:eB) (m:ew) (lv:Value) (ls:List Int) (w:World) (c:eG) (a b:Int) (al:Option Addr) (nl cl:Nat) (l:List Int) (h:gf w1 C u m lv w c) (Kt:gQ c) (hr:oX w1 C u m lv ls) (hv:c.dX.length <=50000):
  Calls prog 105 #[.pointer (some ⟨C,0,none⟩), .agg #[.int .i64 65, .int .i64 a, .int .i64 b, .slice al nl cl]] w (nw w1 C u m lv (.tuple #[]) (eG.plain m ls c ⟨65,a,b,l⟩)):=by
 have hu:=And.intro Kt (And.intro hr hv);clear hu;have Kw:=(an w.heap.size w).alloc (ag _) (.cells #[.int .i64 65, .int .i64 a, .int .i64 b, .slice al nl cl] 27);have hX:=eE.new w #[.int .i64 65, .int .i64 a, .int .i64 b, .slice al nl cl] 27;have Kl:=(Kw.alloc Kw.size (.cells #[.int .i64 1] 3)).alloc (by rw [aE];exact aW Kw.size (dO _)) (.cells #[.int .i64 2] 3);have HX:=V ((hX.alloc (.cells #[.int .i64 1] 3)).alloc (.cells #[.int .i64 2] 3));have Kq:=h.lt;have HS:=V (h.below Kl);have Lu:=V Kt;have y0:=hX.cell 0;have y0':=HX.out.cell 0;have y1:=HX.out.cell 1;simp only [aG,aF,aT]at y0 y0' y1;clear h Kw Kl hX Kt;go_enter func105,ntmps105;go_wp2_with fail;have HL:=V (kE (((w.alloc (.cells #[.int .i64 65, .int .i64 a, .int .i64 b, .slice al nl cl] 27)).alloc (.cells #[.int .i64 1] 3)).alloc (.cells #[.int .i64 2] 3)) 1 3 HS.out.lt.1);have HS:=V (HS.out.alloc (.cells #[.int .i64 1] 3));simp only [aE]at HL;refine(lH w1 C u m lv _ _ _ [1] HS.out HL.out (by simp only [aB];omega)).mono ?_;rintro e w9 ⟨rfl,hs⟩;have HS:=V hs;clear hs;go_wp2_with fail
 go_end0
 exact⟨rfl,HS.out⟩
theorem JW (w1:World) (C:Nat) (u:eB) (m:ew) (lv:Value) (ls:List Int) (w:World) (c:eG) (a b:Int) (al:Option Addr) (nl cl:Nat) (l:List Int) (h:gf w1 C u m lv w c) (Kt:gQ c) (hr:oX w1 C u m lv ls) (hv:c.dX.length <=50000):
  Calls prog 105 #[.pointer (some ⟨C,0,none⟩), .agg #[.int .i64 66, .int .i64 a, .int .i64 b, .slice al nl cl]] w (nw w1 C u m lv (.tuple #[]) (eG.plain m ls c ⟨66,a,b,l⟩)):=by
 have hu:=And.intro Kt (And.intro hr hv);clear hu;have Kw:=(an w.heap.size w).alloc (ag _) (.cells #[.int .i64 66, .int .i64 a, .int .i64 b, .slice al nl cl] 27);have hX:=eE.new w #[.int .i64 66, .int .i64 a, .int .i64 b, .slice al nl cl] 27;have Kl:=(Kw.alloc Kw.size (.cells #[.int .i64 1] 3)).alloc (by rw [aE];exact aW Kw.size (dO _)) (.cells #[.int .i64 2] 3);have HX:=V ((hX.alloc (.cells #[.int .i64 1] 3)).alloc (.cells #[.int .i64 2] 3));have Kq:=h.lt;have HS:=V (h.below Kl);have Lu:=V Kt;have y0:=hX.cell 0;have y0':=HX.out.cell 0;have y1:=HX.out.cell 1;simp only [aG,aF,aT]at y0 y0' y1;clear h Kw Kl hX Kt;go_enter func105,ntmps105;go_wp2_with fail;have HL:=V (kE (((w.alloc (.cells #[.int .i64 66, .int .i64 a, .int .i64 b, .slice al nl cl] 27)).alloc (.cells #[.int .i64 1] 3)).alloc (.cells #[.int .i64 2] 3)) 2 3 HS.out.lt.1);have HS:=V (HS.out.alloc (.cells #[.int .i64 2] 3));simp only [aE]at HL;refine(lH w1 C u m lv _ _ _ [2] HS.out HL.out (by simp only [aB];omega)).mono ?_;rintro e w9 ⟨rfl,hs⟩;have HS:=V hs;clear hs;go_wp2_with fail
 go_end0
 exact⟨rfl,HS.out⟩
theorem Kg (w1:World) (C:Nat) (u:eB) (m:ew) (lv:Value) (ls:List Int) (w:World) (c:eG) (op a b:Int) (al:Option Addr) (nl cl:Nat) (l:List Int) (h:gf w1 C u m lv w c) (Kt:gQ c) (hr:oX w1 C u m lv ls) (hv:c.dX.length <=50000) (MK:¬ (op=26\/op=27\/op=32\/op=33\/op=34\/op=35\/op=36\/op=40\/op=41\/op=44\/op=45\/op=54\/op=55\/op=58\/op=63\/op=64\/op=65\/op=66)):
  Calls prog 105 #[.pointer (some ⟨C,0,none⟩), .agg #[.int .i64 op, .int .i64 a, .int .i64 b, .slice al nl cl]] w (nw w1 C u m lv (.tuple #[]) (eG.plain m ls c ⟨op,a,b,l⟩)):=by
 have HN:Hid (eG.plain m ls c ⟨op,a,b,l⟩=((c.need (eU op).2.2).fO (eU op).1).push [(eU op).2.1]):=V (by
  unfold eG.plain;simp only
  repeat (rw [aC (by omega)]))
 have f26:(op==26)=false:=dQ (by omega);have f27:(op==27)=false:=dQ (by omega);have f32:(op==32)=false:=dQ (by omega);have f33:(op==33)=false:=dQ (by omega);have f34:(op==34)=false:=dQ (by omega);have f35:(op==35)=false:=dQ (by omega);have f36:(op==36)=false:=dQ (by omega);have f40:(op==40)=false:=dQ (by omega);have f41:(op==41)=false:=dQ (by omega);have f44:(op==44)=false:=dQ (by omega);have f45:(op==45)=false:=dQ (by omega);have f54:(op==54)=false:=dQ (by omega);have f55:(op==55)=false:=dQ (by omega);have f58:(op==58)=false:=dQ (by omega);have f63:(op==63)=false:=dQ (by omega);have f64:(op==64)=false:=dQ (by omega);have f65:(op==65)=false:=dQ (by omega);have f66:(op==66)=false:=dQ (by omega);clear MK;have hu:=And.intro Kt (And.intro hr hv);clear hu;have Kw:=(an w.heap.size w).alloc (ag _) (.cells #[.int .i64 op, .int .i64 a, .int .i64 b, .slice al nl cl] 27);have hX:=eE.new w #[.int .i64 op, .int .i64 a, .int .i64 b, .slice al nl cl] 27;have Kl:=(Kw.alloc Kw.size (.cells #[.int .i64 1] 3)).alloc (by rw [aE];exact aW Kw.size (dO _)) (.cells #[.int .i64 2] 3);have HX:=V ((hX.alloc (.cells #[.int .i64 1] 3)).alloc (.cells #[.int .i64 2] 3));have Kq:=h.lt;have HS:=V (h.below Kl);have Lu:=V Kt;have y0:=hX.cell 0;have y0':=HX.out.cell 0;have y1:=HX.out.cell 1;simp only [aG,aF,aT]at y0 y0' y1;clear h Kw Kl hX Kt;go_enter func105,ntmps105;go_wp2_with fail;refine(qs op _ C HS.out.lt.1).mono ?_;rintro e w2 ⟨v,rfl,hl,hb⟩;have HS:=V (HS.out.below hb);have HL:=V hl;have Lg:=yX op;clear hl hb y0 y0' y1 f26 f27 f32 f33 f34 f35 f36 f40 f41 f44 f45 f54 f55 f58 f63 f64 f65 f66;go_wp2_with fail;refine(jD w1 C u m lv w2 c (eU op).2.2 HS.out).mono ?_;rintro e w3 ⟨rfl,hs,hk,-⟩;have HS:=V hs;have HL:=V (HL.out.ext (pq hk));clear hs hk;go_wp2_with fail;refine(nY w1 C u m lv w3 _ v (eU op).1 HS.out (Lu.out.need _) HL.out (by omega)).mono ?_;rintro e w4 ⟨rfl,hs,hk,-⟩;have HS:=V hs;have l1:=eG.lp (c.need (eU op).2.2) (eU op).1;rw [eG.vO]at l1;clear hs hk;have hb:=(an w4.heap.size w4).alloc (ag _) (.cells #[.int .i64 (eU op).2.1] 3);have HL:=V (kE w4 (eU op).2.1 3 HS.out.lt.1);have HS:=V (HS.out.below hb);clear hb;go_wp2_with fail;refine(lH w1 C u m lv _ _ _ [(eU op).2.1] HS.out HL.out (by simp only [aB];omega)).mono ?_;rintro e w9 ⟨rfl,hs⟩;have HS:=V hs;clear hs;go_wp2_with fail
 go_end0
 rw [HN.out];exact⟨rfl,HS.out⟩
def eK.mg (x:eK):Prop:=x.op=0\/x.op=2\/x.op=11\/x.op=12\/x.op=16\/x.op=26\/x.op=32\/x.op=65\/x.op=66\/x.op=106
def uM (c c':eG) (op:Int):Prop:=c'.sound/\(c'.eO.length:Int)=hI op c.eO.length/\c'.dX.length <=c.dX.length+10
theorem sc {op d:Int} (h:¬ (op=2\/op=3\/op=4\/op=11)):hI op d=d:=by
 unfold hI jS;rw [aC (by omega)];have h2:¬ op=2:=by omega
 have h3:¬ op=3:=by omega
 have h4:¬ op=4:=by omega
 simp [h2,h3,h4]
theorem nF {c d:eG} {l:List Int} {op:Int} (hd:gQ d) (hc:d.eO.length=c.eO.length) (hv:d.dX.length <=c.dX.length) (hl:l.length <=10) (ho:¬ (op=2\/op=3\/op=4\/op=11)):uM c (d.push l) op:=
 ⟨(hd.push l).1,by rw [sc ho,eG.tb,hc],by simp only [eG.push,ah];omega⟩
theorem wz {c d:eG} {op:Int} (hd:gQ d) (hc:d.eO.length=c.eO.length) (hv:d.dX.length <=c.dX.length) (ho:¬ (op=2\/op=3\/op=4\/op=11)):uM c d op:=
 ⟨hd.1,by rw [sc ho,hc],by omega⟩
theorem wu {c d:eG} {op:Int} (hd:gQ d) (hc:d.eO.length=c.eO.length) (hv:d.dX.length <=c.dX.length) (ho:¬ (op=2\/op=3\/op=4\/op=11)):uM c d.dead op:=
 wz hd.dead (by rw [Bk hd.2,hc]) (aW (EF d) hv) ho
theorem z5 {c d:eG} {op k:Int} (hd:gQ d) (hc:d.eO.length=c.eO.length) (hv:d.dX.length <=c.dX.length) (ho:op=2\/op=3\/op=4):uM c (d.begin op k) op:=by
 refine⟨(hd.begin op k).1,?_,by simp only [eG.begin];omega⟩;have:hI op (c.eO.length:Int)=c.eO.length+1:=by
  rcases ho with rfl | rfl | rfl <;>rfl
 rw [this];simp [eG.begin,hc]
theorem Hc {m:ew} (Nt:m.short) {ls:List Int} {c:eG} (h:gQ c) (x:eK) (hx:x.mg):uM c (c.step m ls x) x.op:=by
 unfold eG.step;rcases hx with q | q | q | q | q | q | q | q | q | q
 ·rw [show c.control m x=some c.dead by simp [eG.control,q]]
  exact wu h rfl (ag _) (by omega)
 ·rw [show c.control m x=some (c.begin x.op x.a)by simp [eG.control,q]]
  exact z5 h rfl (ag _) (by omega)
 ·rw [show c.control m x=some ((c.shut.2.need (c.shut.1.op !=4 || c.shut.1.kind==0)).push (gF c.shut.1.kind))by simp [eG.control,q]]
  have hp:=List.length_pos_iff.2 h.2;have hs:=As h;refine⟨eG.sound.push ⟨hs.1,hs.2⟩ _,?_,?_⟩
  ·rw [show hI x.op (c.eO.length:Int)=c.eO.length - 1 by rw [q];rfl]
   rw [dD,eG.tb,eG.mF,qk,dn];omega
  ·have:=qN c
   have:=n5 c.shut.1.kind;simp only [dD,eG.push,eG.vO,ah];omega
 ·rw [show c.control m x=some ((c.label x.a).2.fO (c.label x.a).1).dead by simp [eG.control,q]]
  exact wu ((h.label _).fO _) (by rw [eG.il,(so _ _).1]) (aW (eG.lp _ _) (by rw [(so _ _).2];exact ag _)) (by omega)
 ·rw [show c.control m x=some (c.calls (gz m x.a))by simp [eG.control,q]]
  exact nF ((h.need _).fO _) (by rw [eG.il];rfl) (eG.lp _ _) (nR Nt _).2 (by omega)
 all_goals rw [show c.control m x=none by simp [eG.control,q],Option.getD_none]
 ·rw [show c.plain m ls x=(c.pop 0).2 by simp [eG.plain,q]]
  exact wz (h.pop 0) (by rw [eG.pz]) (eG.BM c 0) (by omega)
 ·rw [show c.plain m ls x=(c.local ls x.a).2.push [(c.local ls x.a).1]by simp [eG.plain,q]]
  exact nF (h.local ls _) (by rw [(pk _ _ _).1]) (by rw [(pk _ _ _).2];exact ag _) (by simp) (by omega)
 ·rw [show c.plain m ls x=c.push [1]by simp [eG.plain,q]]
  exact nF h rfl (ag _) (by simp) (by omega)
 ·rw [show c.plain m ls x=c.push [2]by simp [eG.plain,q]]
  exact nF h rfl (ag _) (by simp) (by omega)
 ·rw [show c.plain m ls x=((c.need (eU x.op).2.2).fO (eU x.op).1).push [(eU x.op).2.1]by simp [eG.plain,q]]
  exact nF ((h.need _).fO _) (by rw [eG.il];rfl) (eG.lp _ _) (by simp) (by omega)
theorem Iz {x:eK} (h:x.may) (hf:fG x.op=3):0 <=x.a/\x.a <=1000:=by
 obtain⟨_,_,h⟩:=h;rw [hf]at h;have h:fR x.a:=by simpa using h
 exact h
theorem sj (w1:World) (C:Nat) (u:eB) (m:ew) (lv:Value) (ls:List Int) (w:World) (c:eG) (x:eK) (al:Option Addr) (nl cl:Nat) (h:gf w1 C u m lv w c) (Kt:gQ c) (hr:oX w1 C u m lv ls) (Nt:m.short) (hv:c.dX.length <=50000) (hc:c.eO.length <=50000) (hm:x.may) (hx:x.mg):
  Calls prog 104 #[.pointer (some ⟨C,0,none⟩), .agg #[.int .i64 x.op, .int .i64 x.a, .int .i64 x.b, .slice al nl cl]] w (qx w1 C u m lv x c w):=by
 obtain⟨op,a,b,l⟩:=x;unfold eK.mg at hx;simp only at hx⊢;by_cases q0:op=0
 ·subst q0;exact J3 w1 C u m lv ls w c a b al nl cl l h Kt hr Nt hv hc
 by_cases q1:op=2
 ·subst q1;exact JP w1 C u m lv ls w c a b al nl cl l h Kt hr Nt hv hc
 by_cases q2:op=11
 ·subst q2;exact IS w1 C u m lv ls w c a b al nl cl l h Kt hr Nt hv hc
 by_cases q3:op=12
 ·subst q3;exact Jj w1 C u m lv ls w c a b al nl cl l h Kt hr Nt hv hc (Iz hm rfl)
 by_cases q4:op=16
 ·subst q4;exact Jv w1 C u m lv ls w c a b al nl cl l h Kt hr Nt hv hc (Iz hm rfl)
 exact J0 w1 C u m lv w c op a b al nl cl l h (by omega)
theorem wL (w1:World) (C:Nat) (u:eB) (m:ew) (lv:Value) (ls:List Int) (w:World) (c:eG) (x:eK) (al:Option Addr) (nl cl:Nat) (h:gf w1 C u m lv w c) (Kt:gQ c) (hr:oX w1 C u m lv ls) (hv:c.dX.length <=50000) (hm:x.may) (hx:x.mg):
  Calls prog 105 #[.pointer (some ⟨C,0,none⟩), .agg #[.int .i64 x.op, .int .i64 x.a, .int .i64 x.b, .slice al nl cl]] w (nw w1 C u m lv (.tuple #[]) (eG.plain m ls c x)):=by
 obtain⟨op,a,b,l⟩:=x;unfold eK.mg at hx;simp only at hx⊢;by_cases q1:op=26
 ·subst q1;exact JR w1 C u m lv ls w c a b al nl cl l h Kt hr hv
 by_cases q2:op=32
 ·subst q2;exact JQ w1 C u m lv ls w c a b al nl cl l h Kt hr hv (Iz hm rfl)
 by_cases q5:op=65
 ·subst q5;exact JK w1 C u m lv ls w c a b al nl cl l h Kt hr hv
 by_cases q6:op=66
 ·subst q6;exact JW w1 C u m lv ls w c a b al nl cl l h Kt hr hv
 exact Kg w1 C u m lv ls w c op a b al nl cl l h Kt hr hv (by omega)
theorem z7 {C:Nat} {w w':World} (h:Below w.heap.size w w') (hC:w.heap.size <=C):Ext w (rR C w'):=by
 refine⟨fun a v e=>?_,by unfold rR;rw [gX];exact h.size⟩;have Kq:=aS w a e;have hb:(fun k=>k==C) a.block=false:=by
  have:a.block≠C:=by omega
  simp [this]
 have h2:(mask (fun k=>k==C) w').cell? a=w'.cell? a:=bg (jn w' hb);show(mask (fun k=>k==C) w').cell? a=some v;rw [h2,h.cell Kq];exact e
theorem gf.new {w1:World} {C:Nat} {u:eB} {m:ew} {lv:Value} (h:eE w1 C (sF u m lv (.slice none 0 0) (.slice none 0 0) false) 181):gf w1 C u m lv w1 ⟨[],[],false⟩:=
 ⟨_,_,h,dR.nil _ _,dR.nil _ _,dS.refl _ _,h.lt⟩
def Jl (m:ew) (ls:List Int) (c0:eG) (body:List eK) (c:eG) (i:Nat):Prop:=
 i <=body.length/\eG.run m ls c0 body=eG.run m ls c (body.drop i)/\gQ c/\c.dX.length <=10*i/\c.eO.length <=i+1/\∃st Nw,gq body (body.drop i) i st=some Nw/\st.2.length+1=c.eO.length
theorem Dd (op n:Int):hI op (n+1)=hI op n+1/\hI op n <=n+1:=by
 unfold hI;split
 ·omega
 ·split <;>omega
theorem yy {m:ew} (Nt:m.short) {ls:List Int} {c0:eG} {body:List eK} {c:eG} {i:Nat} {x:eK} (h:Jl m ls c0 body c i) (hx:body[i]?=some x) (he:x.mg):
  ((c.step m ls x).bad=true ->eG.run m ls c0 body=none)/\((c.step m ls x).bad=false ->Jl m ls c0 body (c.step m ls x) (i+1)):=by
 obtain⟨h1,h2,h3,h4,h5,st,Nw,h6,h7⟩:=h;obtain⟨hk,rfl⟩:=aL.1 hx;rw [cA hk]at h2 h6;rw [eG.run]at h2;rw [gq]at h6;obtain⟨s1,s2,s3⟩:=Hc Nt (ls:=ls) h3 body[i] he;refine⟨fun hb=>by rw [h2,aJ hb],fun hb=>?_⟩;rw [aC (by rw [hb];simp)]at h2;cases hs:gb body i body[i] st with
 | none=>rw [hs]at h6;cases h6
 | some Qw=>
  rw [hs]at h6;simp only [aw]at h6;obtain⟨d0,d1⟩:=pR hs;have hd:=Dd body[i].op st.2.length;rw [<- h7]at s2;rw [show((st.2.length+1:Nat):Int)=(st.2.length:Int)+1 by omega]at s2;refine⟨by omega,h2,⟨s1,?_⟩,by omega,by omega,Qw,Nw,h6,by omega⟩;intro e;rw [e]at s2;simp only [aM]at s2;omega
def qF (t:gy):eG:=({dX:=[],eO:=[],bad:=false}:eG).begin 2 (t.results.head?.getD 0)
theorem CQ {m:ew} {ls:List Int} {t:gy} {body:List eK} {bs:List jU} (h:fu body=some bs):Jl m ls (qF t) body (qF t) 0/\body.length <=300:=by
 unfold fu at h;split at h
 ·cases h
 ·cases hg:gq body body 0 ([],[])with
  | none=>rw [hg]at h;cases h
  | some st=>exact⟨⟨bG _,rfl,⟨⟨by simp [qF,eG.begin],by simp [qF,eG.begin]⟩,by simp [qF,eG.begin]⟩,by simp [qF,eG.begin],by simp [qF,eG.begin],([],[]),st,hg,by simp [qF,eG.begin]⟩,by omega⟩
theorem nC (m:ew) (u:eB) (k:Int) (w:World) (hm:ej w u m) (Nt:m.short) (hx:∀c∈m.eh,c.locals.length <=100000/\∀x∈c.body,x.may/\x.mg):Calls prog 67 #[.agg (u.cells m), .int .i64 k] w (et (fN m k) w):=by
 have HI:=V hm;have HSM:=V Nt;have PS:=V hx;obtain⟨a0,c0,a1,c1,a2,c2,a3,c3,a4,c4,a5,c5,a6,c6,a7,c7,rfl⟩:=ej.open hm;simp only [eB.cells];clear hm Nt hx;have KK:=(an w.heap.size w).alloc (ag _) (.cells #[.slice a0 m.types.length c0, .slice a1 m.imports.length c1, .slice a2 m.funcs.length c2, .bool m.table.has, .int .i64 m.table.min, .int .i64 m.table.max, .bool m.mem.has, .int .i64 m.mem.min, .int .i64 m.mem.max, .slice a3 m.globals.length c3, .slice a4 m.dY.length c4, .slice a5 m.elems.length c5, .slice a6 m.eh.length c6, .slice a7 m.eA.length c7] 62);have HB:=V (KK.alloc (by rw [aE];omega) (.cells #[.slice a0 m.types.length c0, .slice a1 m.imports.length c1, .slice a2 m.funcs.length c2, .bool m.table.has, .int .i64 m.table.min, .int .i64 m.table.max, .bool m.mem.has, .int .i64 m.mem.min, .int .i64 m.mem.max, .slice a3 m.globals.length c3, .slice a4 m.dY.length c4, .slice a5 m.elems.length c5, .slice a6 m.eh.length c6, .slice a7 m.eA.length c7, .slice none 0 0, .slice none 0 0, .slice none 0 0, .bool false] 181));clear KK;by_cases q1:k < 0
 ·have f1:decide (k < 0)=true:=az q1
  have HF:Hid (fN m k=false):=V (by unfold fN;rw [if_pos (.inl q1)]);clear q1 HI;go_enter func67,ntmps67;go_wp2_with fail;go_ret;exact⟨by rw [HF.out];rfl,HB.out⟩
 obtain⟨k,rfl⟩:∃n:Nat,k=n:=⟨k.toNat,by omega⟩;have f1:decide ((k:Int) < 0)=false:=aA q1;by_cases q2:k < m.eh.length;rotate_left
 ·have f2:decide ((m.eh.length:Int) <=(k:Int))=true:=az (by omega)
  have f3:decide (m.eh.length <=k)=true:=az (by omega);have HF:Hid (fN m k=false):=V (by unfold fN;rw [if_pos (.inr (.inl (by omega)))]);clear q1 HI;go_enter func67,ntmps67;go_wp2_with fail;go_ret;exact⟨by rw [HF.out];rfl,HB.out⟩
 have f2:decide ((m.eh.length:Int) <=(k:Int))=false:=aA (by omega);have f3:decide (m.eh.length <=k)=false:=aA (by omega);by_cases q3:k < m.funcs.length;rotate_left
 ·have f4:decide ((m.funcs.length:Int) <=(k:Int))=true:=az (by omega)
  have f5:decide (m.funcs.length <=k)=true:=az (by omega);have HF:Hid (fN m k=false):=V (by unfold fN;rw [if_pos (.inr (.inr (by omega)))]);clear q1 HI;go_enter func67,ntmps67;go_wp2_with fail;go_ret;exact⟨by rw [HF.out];rfl,HB.out⟩
 have f4:decide ((m.funcs.length:Int) <=(k:Int))=false:=aA (by omega);have f5:decide (m.funcs.length <=k)=false:=aA (by omega);obtain⟨code,PE⟩:∃x,m.eh[k]?=some x:=⟨_,aq q2⟩;obtain⟨ft,hft⟩:∃x,m.funcs[k]?=some x:=⟨_,aq q3⟩;have HLL:=V (PS.out code (aO PE)).1;have PS:=V (PS.out code (aO PE)).2;have HF:=V (show fN m k=(if(typeOf m ft).2=false\/(fu code.body).isSome=false then false
  else match eG.run m ((typeOf m ft).1.params++code.locals) (qF (typeOf m ft).1) code.body with
   | none=>false
   | some c=> !c.shut.2.bad&&decide (((typeOf m ft).1.params++code.locals).length <=32))by
  unfold fN qF;rw [aC (by omega),cI,PE,hft];rfl)
 obtain⟨_,_,hv,_,_,Kh⟩:=HI.out.2.2.1;injection hv with e1 e2 e3;subst e1;obtain⟨b,off,rfl,-,KH⟩:=Kh k ft hft;have y0:=(Ext.dV HB.out).1 _ _ (KH 0 _ rfl);rw [aK,bj]at y0;clear e2 e3 Kh KH hft;have KL:=V ((eE.new w #[.slice a0 m.types.length c0, .slice a1 m.imports.length c1, .slice (some ⟨b,off,none⟩) m.funcs.length c2, .bool m.table.has, .int .i64 m.table.min, .int .i64 m.table.max, .bool m.mem.has, .int .i64 m.mem.min, .int .i64 m.mem.max, .slice a3 m.globals.length c3, .slice a4 m.dY.length c4, .slice a5 m.elems.length c5, .slice a6 m.eh.length c6, .slice a7 m.eA.length c7] 62).alloc (.cells #[.slice a0 m.types.length c0, .slice a1 m.imports.length c1, .slice (some ⟨b,off,none⟩) m.funcs.length c2, .bool m.table.has, .int .i64 m.table.min, .int .i64 m.table.max, .bool m.mem.has, .int .i64 m.mem.min, .int .i64 m.mem.max, .slice a3 m.globals.length c3, .slice a4 m.dY.length c4, .slice a5 m.elems.length c5, .slice a6 m.eh.length c6, .slice a7 m.eA.length c7, .slice none 0 0, .slice none 0 0, .slice none 0 0, .bool false] 181));have HCB0:=eE.new (w.alloc (.cells #[.slice a0 m.types.length c0, .slice a1 m.imports.length c1, .slice (some ⟨b,off,none⟩) m.funcs.length c2, .bool m.table.has, .int .i64 m.table.min, .int .i64 m.table.max, .bool m.mem.has, .int .i64 m.mem.min, .int .i64 m.mem.max, .slice a3 m.globals.length c3, .slice a4 m.dY.length c4, .slice a5 m.elems.length c5, .slice a6 m.eh.length c6, .slice a7 m.eA.length c7] 62)) #[.slice a0 m.types.length c0, .slice a1 m.imports.length c1, .slice (some ⟨b,off,none⟩) m.funcs.length c2, .bool m.table.has, .int .i64 m.table.min, .int .i64 m.table.max, .bool m.mem.has, .int .i64 m.mem.min, .int .i64 m.mem.max, .slice a3 m.globals.length c3, .slice a4 m.dY.length c4, .slice a5 m.elems.length c5, .slice a6 m.eh.length c6, .slice a7 m.eA.length c7, .slice none 0 0, .slice none 0 0, .slice none 0 0, .bool false] 181;rw [aE]at HCB0;have On:=V HCB0;clear HCB0;go_enter func67,ntmps67;go_wp2_with fail;obtain⟨wA,OQ⟩:∃wA,wA=(w.alloc (.cells #[.slice a0 m.types.length c0, .slice a1 m.imports.length c1, .slice (some ⟨b,off,none⟩) m.funcs.length c2, .bool m.table.has, .int .i64 m.table.min, .int .i64 m.table.max, .bool m.mem.has, .int .i64 m.mem.min, .int .i64 m.mem.max, .slice a3 m.globals.length c3, .slice a4 m.dY.length c4, .slice a5 m.elems.length c5, .slice a6 m.eh.length c6, .slice a7 m.eA.length c7] 62)).alloc (.cells #[.slice a0 m.types.length c0, .slice a1 m.imports.length c1, .slice (some ⟨b,off,none⟩) m.funcs.length c2, .bool m.table.has, .int .i64 m.table.min, .int .i64 m.table.max, .bool m.mem.has, .int .i64 m.mem.min, .int .i64 m.mem.max, .slice a3 m.globals.length c3, .slice a4 m.dY.length c4, .slice a5 m.elems.length c5, .slice a6 m.eh.length c6, .slice a7 m.eA.length c7, .slice none 0 0, .slice none 0 0, .slice none 0 0, .bool false] 181):=⟨_,rfl⟩;rw [<- OQ]at HB KL On⊢;have hAS:wA.heap.size=w.heap.size+2:=by rw [OQ];simp
 clear OQ y0;have HS:=V (gf.new (u:=⟨.slice a0 m.types.length c0, .slice a1 m.imports.length c1, .slice (some ⟨b,off,none⟩) m.funcs.length c2, .slice a3 m.globals.length c3, .slice a4 m.dY.length c4, .slice a5 m.elems.length c5, .slice a6 m.eh.length c6, .slice a7 m.eA.length c7⟩) (m:=m) (lv:= .slice none 0 0) On.out);have KQ:=V (show oX wA (w.heap.size+1) ⟨.slice a0 m.types.length c0, .slice a1 m.imports.length c1, .slice (some ⟨b,off,none⟩) m.funcs.length c2, .slice a3 m.globals.length c3, .slice a4 m.dY.length c4, .slice a5 m.elems.length c5, .slice a6 m.eh.length c6, .slice a7 m.eA.length c7⟩ m (.slice none 0 0) []from⟨HI.out.ext (z7 HB.out (by omega)),ee.nil _⟩);refine(oa wA (w.heap.size+1) _ m _ [] wA _ ft HS.out KQ.out).mono ?_;rintro e w2 ⟨v1,v2,rfl,Nx,LW,hb⟩;have hsh:=qH HSM.out ft;obtain⟨T,hT⟩:∃T,typeOf m ft=T:=⟨_,rfl⟩;rw [hT]at HF Nx LW hsh⊢;clear hT;obtain⟨⟨ps,rs⟩,ok⟩:=T;simp only at HF Nx LW hsh⊢;obtain⟨b1,k1,rfl,LH,-,-⟩:=id Nx;obtain⟨b2,k2,rfl,Kp,-,-⟩:=id LW;have HV1:=V Nx;have Nr:=V LW;have HSH:=V hsh;have Kl:=(an w2.heap.size w2).alloc (ag _) (.cells #[.slice b1 ps.length k1, .slice b2 rs.length k2] 109);have NM:=hb.size;have hb:=hb.trans (Kl.mono hb.size);have OH:=V (eE.new w2 #[.slice b1 ps.length k1, .slice b2 rs.length k2] 109);have KL:=V (KL.out.below hb KL.out.lt);have On:=V (On.out.below hb On.out.lt);have HB:=V (HB.out.trans (hb.mono HB.out.size));have Qc:=V hb;have hT2:w.heap.size+2 <=w2.heap.size:=by omega
 clear Nx LW hsh hb Kl;obtain⟨bc,OI,⟨va,vb⟩,rfl,-,KH,K8⟩:=ea.get HI.out.2.2.2.2.2.2.1 PE;have y0:=(Ext.dV HB.out).1 _ _ (KH 0 _ rfl);have y1:=(Ext.dV HB.out).1 _ _ (KH 1 _ rfl);rw [aK]at y0;have y2:=KL.out.mod.2.2.2.2.2.2.2.2.2.2.2.2.1;have KV:=V K8;clear KH K8;go_wp2_with fail;refine(pC _ code.body _ (gd.below KV.out.1.2 HB.out)).mono ?_;rintro e w3 ⟨hb,hmt⟩;have OH:=V (OH.out.below hb OH.out.lt);have KL:=V (KL.out.below hb KL.out.lt);have On:=V (On.out.below hb On.out.lt);have HB:=V (HB.out.trans (hb.mono HB.out.size));have Qc:=V (Qc.out.trans (hb.mono Qc.out.size));clear y0 y1 y2;have NN:w2.heap.size < w3.heap.size:=OH.out.lt;rcases hmt with⟨bs,bv,Pb,rfl,-⟩ | ⟨Pb,rfl⟩;rotate_left
 ·have HF2:=V (HF.out.trans (aJ (.inr (by rw [Pb];rfl))))
  clear Pb hb;cases ok
  ·go_wp2_with fail
   go_ret;exact⟨by rw [HF2.out];rfl,HB.out⟩
  ·go_wp2_with fail
   go_ret;exact⟨by rw [HF2.out];rfl,HB.out⟩
 cases ok
 ·have HF:=V (HF.out.trans (aJ (.inl rfl)))
  clear Pb hb;go_wp2_with fail;go_ret;exact⟨by rw [HF.out];rfl,HB.out⟩
 have HF:=V (HF.out.trans (aC (by rw [Pb];simp)));have HJ0:=V (fun ls=>CQ (m:=m) (ls:=ls) (t:=⟨ps,rs⟩) Pb);clear Pb hb;have hml:m.eh.length <=9223372036854775807:=by
  obtain⟨_,_,_,h1,h2⟩:=ea.slice HI.out.2.2.2.2.2.2.1;omega
 obtain⟨bc',offc',⟨va',vb'⟩,Pn,-,KH,K8⟩:=ea.get HI.out.2.2.2.2.2.2.1 PE;injection Pn with Pn;injection Pn with hab1 hab2;subst hab1 hab2;have KV:=V K8;have y0:=(Ext.dV HB.out.drew).1 _ _ (KH 0 _ rfl);have y1:=KH 1 _ rfl;rw [aK]at y0;have Y1:=V y1;have Y0:=V (KH 0 _ rfl);clear KH K8 y1;have y2:=KL.out.drew.mod.2.2.2.2.2.2.2.2.2.2.2.2.1;have y3:=OH.out.drew.two.1;have y4:w3.drew.cell? ⟨w.heap.size+1,14,none⟩=some (.slice none 0 0):=On.out.drew.cell 14;go_wp2_with fail;refine eP (fun w'=>w'.cell? ⟨w.heap.size+1,14,none⟩=some (.slice none 0 0)/\w'.cell? ⟨w2.heap.size,0,none⟩=some (.slice b1 ps.length k1)/\w'.cell? ⟨w.heap.size,12,none⟩=some (.slice (some ⟨bc,OI,none⟩) m.eh.length c6)/\w'.cell? ⟨bc,OI+k*2,none⟩=some va') 17 (up 0 7 (up 8 6 ((7,false)::(14,false)::(15,true)::(16,true)::[]))) (by kernel_rfl) (by kernel_rfl) ⟨y4,y3,y2,y0⟩ ?_;clear y0 y2 y3 y4;have HB:=V HB.out.drew;have Qc:=V Qc.out.drew;have KL:=V KL.out.drew;have OH:=V OH.out.drew;have On:=V On.out.drew;have hsz4:w2.heap.size < w3.drew.heap.size:=NN;clear NN;generalize w3.drew=w4 at HB Qc KL OH On hsz4⊢;iterate 13 (first | (apply sk rfl rfl;simp only [pt]) | (apply dT rfl rfl rfl;·(rintro w' ⟨t0,t1,t2,t3⟩;go_wp2;exact⟨rfl,rfl,rfl⟩)))
 refine dZ rfl rfl ?_;go_wp2_with (first | (at_builtin;refine lN w4 rfl _ _ rfl rfl w4.heap.size (.slice none 0 0) [] rfl (dR.nil _ _) (.slice b1 ps.length k1) ps rfl (HV1.out.ext ((vA Qc.out).trans (xX _ _))) (by have:=HSH.out.1;simp only [aM];omega) (ag _) ?_));intro v5 w5 ho5 NA Pu;have Lm:Below w4.heap.size w4 w5:=NA.below (ag _) (fun i hi=>by simp [ey,Value.ownBlock]at hi);have Qc:=V (Qc.out.trans (Lm.mono Qc.out.size));have HB:=V (HB.out.trans (Lm.mono HB.out.size));have KL:=V (KL.out.below Lm KL.out.lt);have OH:=V (OH.out.below Lm OH.out.lt);have On:=V (On.out.below Lm On.out.lt);have H45:=V Lm;have HO5:=V (show dR 3 1 eZ w5 w4.heap.size v5 ps from ho5);clear ho5 NA Pu Lm;go_wp2_with fail;refine⟨⟨On.out.cell 14,OH.out.two.1,KL.out.mod.2.2.2.2.2.2.2.2.2.2.2.2.1,(Ext.dV HB.out).1 _ _ Y0.out⟩,?_⟩;refine dZ rfl rfl ?_;go_wp2_with (first | (at_builtin;refine lN w5 rfl _ _ rfl rfl w4.heap.size v5 ps rfl HO5.out va' code.locals rfl (KV.out.1.1.ext (Ext.dV HB.out)) (by have:=HSH.out.1;have:=HLL.out;omega) H45.out.size ?_));intro v6 w6 ho6 OM hs6;have Nk:Below w4.heap.size w5 w6:=OM.below H45.out.size (fun i hi=>(eo HO5.out hi).1);have Qc:=V (Qc.out.trans (Nk.mono (by have:=Qc.out.size;omega)));have HB:=V (HB.out.trans (Nk.mono (by omega)));have KL:=V (KL.out.below Nk (by omega));have OH:=V (OH.out.below Nk (by omega));have On:=V (On.out.below Nk (by omega));obtain⟨ls,hls⟩:∃ls,ps++code.locals=ls:=⟨_,rfl⟩;rw [hls]at ho6 HF;clear hls;obtain⟨av,cw,rfl,-,-⟩:=ho6.slice;have HO6:=V ho6;clear ho6 OM hs6 Nk;go_wp2_with fail;refine⟨⟨On.out.cell 14,OH.out.two.1,KL.out.mod.2.2.2.2.2.2.2.2.2.2.2.2.1,(Ext.dV HB.out).1 _ _ Y0.out⟩,?_⟩;iterate 2 (first | (apply sk rfl rfl;simp only [pt]) | (apply dT rfl rfl rfl;·(rintro w' ⟨t0,t1,t2,t3⟩;go_wp2;exact⟨rfl,rfl,rfl⟩)))
 refine fI rfl rfl ?_;have c14:w6.cell? ⟨w.heap.size+1,14,none⟩=some (.slice none 0 0):=On.out.cell 14;have z14:=On.out.free 14;go_wp2_with fail;refine⟨trivial,?_⟩;refine aD ?_;have Km:=ep w6 (w.heap.size+1) 14 (.slice av ls.length cw);have KQ:=V (show oX _ (w.heap.size+1) ⟨.slice a0 m.types.length c0, .slice a1 m.imports.length c1, .slice (some ⟨b,off,none⟩) m.funcs.length c2, .slice a3 m.globals.length c3, .slice a4 m.dY.length c4, .slice a5 m.elems.length c5, .slice (some ⟨bc,OI,none⟩) m.eh.length c6, .slice a7 m.eA.length c7⟩ m (.slice av ls.length cw) ls from⟨(HI.out.ext (z7 HB.out (by omega))).ext (pq Km),(BB fp HO6.out (by omega)).ext (pq Km)⟩);have KL:=V (KL.out.keeps Km (by omega));have OH:=V (OH.out.keeps Km (by omega));have HB:=V (HB.out.trans (Km.below HB.out.size (fun i hi=>by omega)));have Nr:=V ((Nr.out.ext (vA Qc.out)).ext (sP Km));have HS:=V (gf.new (u:=⟨.slice a0 m.types.length c0, .slice a1 m.imports.length c1, .slice (some ⟨b,off,none⟩) m.funcs.length c2, .slice a3 m.globals.length c3, .slice a4 m.dY.length c4, .slice a5 m.elems.length c5, .slice (some ⟨bc,OI,none⟩) m.eh.length c6, .slice a7 m.eA.length c7⟩) (m:=m) (lv:= .slice av ls.length cw) (On.out.set 14 (.slice av ls.length cw)));clear c14 z14 Km;generalize w6.setCell ⟨w.heap.size+1,14,none⟩ (.slice av ls.length cw)=w7 at KQ KL OH HB Nr HS⊢;clear On HO5 HO6 H45 Qc HSH HLL HV1 hsz4;have y3:=OH.out.two.2.1;obtain⟨ab,cb,rfl,Lk,OV⟩:=ea.slice KV.out.1.2;obtain⟨k0,OR⟩:∃k0,rs.head?.getD 0=k0:=⟨_,rfl⟩;have HC0:=V (show qF ⟨ps,rs⟩=(⟨[],[],false⟩:eG).begin 2 k0 by unfold qF;rw [OR]);obtain⟨OD,hb300⟩:=HJ0.out ls;have OD:=V OD;have HEX:=V (z7 (C:=w.heap.size+1) HB.out (by omega));have HNB:=V (KV.out.1.2.ext HEX.out);clear HJ0 KV;have f8:(0:Int) <=(rs.length:Int):=by omega
 by_cases q:rs.length=0
 ·have f6:decide ((0:Int) < (rs.length:Int))=false:=aA (by omega)
  have f7:decide (0 < rs.length)=false:=aA (by omega);have LH:0=k0:=by rw [aH q]at OR;exact OR
  subst LH;clear f8 q OR;go_wp2_with fail;refine(sW w7 (w.heap.size+1) _ m _ w7 _ 2 0 HS.out (by simp)).mono ?_;rintro e w8 ⟨rfl,hs⟩;rw [<- HC0.out]at hs;have hold:=hs.old;have KL:=V (KL.out.keeps hold (by omega));have HS:=V hs;have y2:=KL.out.mod.2.2.2.2.2.2.2.2.2.2.2.2.1;have y5:=hs.ext'.1 _ _ (HEX.out.1 _ _ Y1.out);clear hs y3 hold;go_wp2_with fail;clear y2 y5;refine ez (fun a' w'=>∃(c:eG) (i:Nat),a'=fr (gs a' 0 2 (.pointer (some ⟨w.heap.size,0,none⟩)::gs a' 3 2 (.pointer (some ⟨w.heap.size+1,0,none⟩)::gs a' 6 85 (.slice ab code.body.length cb:: .int .i64 code.body.length:: .int .i64 i::gs a' 94 30 []))))/\Jl m ls (qF ⟨ps,rs⟩) code.body c i/\gf w7 (w.heap.size+1) ⟨.slice a0 m.types.length c0, .slice a1 m.imports.length c1, .slice (some ⟨b,off,none⟩) m.funcs.length c2, .slice a3 m.globals.length c3, .slice a4 m.dY.length c4, .slice a5 m.elems.length c5, .slice (some ⟨bc,OI,none⟩) m.eh.length c6, .slice a7 m.eA.length c7⟩ m (.slice av ls.length cw) w' c) (fun a' _=>(code.body.length - (intOf (a'.tmps.getD 93 undef)).toNat)) ?_ ?_
  ·exact⟨_,0,rfl,OD.out,HS.out⟩
  ·skip
   rintro R a' w1 ⟨c,i,Kk,hJ⟩ HR;dsimp only [fr,gs]at Kk;generalize slot a'=f at Kk;subst Kk;obtain⟨hfn,hs⟩:=hJ;have OD:=V hfn;have HS:=V hs;obtain⟨hi1,Kx,Kt,MH,PM,-⟩:=hfn;have Lu:=V Kt;have hold:=hs.old;have MG:=V (HB.out.trans (hold.below HB.out.size (fun i hi=>by omega)));clear hold Kt;by_cases q:i < code.body.length;rotate_left
   ·obtain rfl:i=code.body.length:=by omega
    rw [List.drop_length,eG.run]at Kx;have HF:=V (show fN m k=(!c.shut.2.bad&&decide (ls.length <=32))by rw [HF.out,Kx]);clear Kx hs;go_wp2_with fail;refine(sU w7 (w.heap.size+1) _ m _ w1 c HS.out Lu.out).mono ?_;rintro e w10 ⟨rfl,Ku,Kp⟩;have MG:=V (MG.out.trans (Kp.below MG.out.size (fun i hi=>by omega)));obtain⟨-,-,-,-,-,-,c14,c17,-⟩:=Ku.cell;obtain⟨bd,NJ⟩:∃bd,c.shut.2.bad=bd:=⟨_,rfl⟩;rw [NJ]at c17 HF;clear Ku Kp NJ;cases bd
    ·by_cases q32:ls.length <=32
     ·have g1:decide ((ls.length:Int) <=32)=true:=az (by omega)
      have g2:decide (ls.length <=32)=true:=az q32;rw [g2]at HF;clear q32;go_wp2_with fail;go_ret;exact⟨by rw [HF.out];rfl,MG.out⟩
     ·have g1:decide ((ls.length:Int) <=32)=false:=aA (by omega)
      have g2:decide (ls.length <=32)=false:=aA q32;rw [g2]at HF;clear q32;go_wp2_with fail;go_ret;exact⟨by rw [HF.out];rfl,MG.out⟩
    ·go_wp2_with fail
     go_ret;exact⟨by rw [HF.out];rfl,MG.out⟩
   obtain⟨x,hx⟩:∃x,code.body[i]?=some x:=⟨_,aq q⟩;obtain⟨LX,Oo⟩:=PS.out x (aO hx);have Ko:=V (yy HSM.out OD.out hx Oo);obtain⟨bb,ob,un,rfl,-,hc,hu⟩:=ea.get HNB.out hx;obtain⟨⟨au,Kr,rfl,-,-,-⟩,-⟩:=id hu;have y0:=hs.ext'.1 _ _ (hc 0 _ rfl);have y1:=hs.ext'.1 _ _ (hc 1 _ rfl);have y2:=hs.ext'.1 _ _ (hc 2 _ rfl);have y3:=hs.ext'.1 _ _ (hc 3 _ rfl);rw [aK]at y0;obtain⟨op,xa,xb,xl⟩:=x;have Mp:=V LX;have PF:=V Oo;have HX:=V (eE.new w1 #[.int .i64 op, .int .i64 xa, .int .i64 xb, .slice au xl.length Kr] 27);have hC1:w.heap.size+1 < w1.heap.size:=hs.lt.1;clear hc hu LX Oo hx Kx hs OD;go_wp2_with fail;refine(sj w7 (w.heap.size+1) _ m _ ls _ c ⟨op,xa,xb,xl⟩ au xl.length Kr (HS.out.alloc _) Lu.out KQ.out HSM.out (by omega) (by omega) Mp.out PF.out).mono ?_;rintro e w10 (⟨c',LY,rfl,Ku⟩ | ⟨LY,rfl,Ku,Kp⟩)
   ·have MV:c.step m ls ⟨op,xa,xb,xl⟩=c':=by unfold eG.step;rw [LY];rfl
    rw [MV]at Ko;clear LY MV y0 y1 y2 y3 hC1;have hold:=Ku.old;have MG:=V (HB.out.trans (hold.below HB.out.size (fun i hi=>by omega)));have HS:=V Ku;have c17:=Ku.cell.2.2.2.2.2.2.2.1;obtain⟨bd,NJ⟩:∃bd,c'.bad=bd:=⟨_,rfl⟩;rw [NJ]at c17 Ko;clear Ku hold NJ;cases bd
    ·have OD:=V (Ko.out.2 rfl)
     clear Ko HX;go_wp2_with fail;refine HR.out _ _ ⟨_,i+1,rfl,OD.out,HS.out⟩ ?_;simp [intOf];omega
    ·have hF:=HF.out
     rw [Ko.out.1 rfl]at hF;have HF:=V hF;clear hF;go_wp2_with fail;go_ret;exact⟨by rw [HF.out];rfl,MG.out⟩
   ·have MV:c.step m ls ⟨op,xa,xb,xl⟩=c.plain m ls ⟨op,xa,xb,xl⟩:=by unfold eG.step;rw [LY];rfl
    rw [MV]at Ko;clear LY MV y0 y1 y2 y3;have HX:=V (HX.out.keeps Kp (by omega));have HS:=V Ku;have y0:=HX.out.cell 0;have y1:=HX.out.cell 1;have y2:=HX.out.cell 2;have y3:=HX.out.cell 3;simp only [aG,aF,aT]at y0 y1 y2 y3;clear Ku Kp hC1;go_wp2_with fail;refine(wL w7 (w.heap.size+1) _ m _ ls _ c ⟨op,xa,xb,xl⟩ au xl.length Kr HS.out Lu.out KQ.out (by omega) Mp.out PF.out).mono ?_;rintro e QH ⟨rfl,Ku⟩;clear y0 y1 y2 y3;obtain⟨c',LY⟩:∃c',c.plain m ls ⟨op,xa,xb,xl⟩=c':=⟨_,rfl⟩;rw [LY]at Ku Ko;clear LY;have hold:=Ku.old;have MG:=V (HB.out.trans (hold.below HB.out.size (fun i hi=>by omega)));have HS:=V Ku;have c17:=Ku.cell.2.2.2.2.2.2.2.1;obtain⟨bd,NJ⟩:∃bd,c'.bad=bd:=⟨_,rfl⟩;rw [NJ]at c17 Ko;clear Ku hold NJ;cases bd
    ·have OD:=V (Ko.out.2 rfl)
     clear Ko HX;go_wp2_with fail;refine HR.out _ _ ⟨_,i+1,rfl,OD.out,HS.out⟩ ?_;simp [intOf];omega
    ·have hF:=HF.out
     rw [Ko.out.1 rfl]at hF;have HF:=V hF;clear hF;go_wp2_with fail;go_ret;exact⟨by rw [HF.out];rfl,MG.out⟩
 ·have f6:decide ((0:Int) < (rs.length:Int))=true:=az (by omega)
  have f7:decide (0 < rs.length)=true:=az (by omega);have f9:0 < rs.length:=by omega
  have hr0:rs[0]?=some k0:=by
   rw [List.head?_eq_getElem?]at OR;rw [<- OR,aq f9];rfl
  obtain⟨_,_,hv,_,_,Kh⟩:=Nr.out;injection hv with e1 e2 e3;subst e1;have HMB9:=KL;have HB9:=HB;obtain⟨br,offr,rfl,-,KH⟩:=Kh 0 k0 hr0;have y6:=KH 0 _ rfl;rw [aK]at y6;have KL:=HMB9;have HB:=HB9;clear e2 e3 Kh KH hr0 f8 q OR;go_wp2_with fail;refine(sW w7 (w.heap.size+1) _ m _ w7 _ 2 k0 HS.out (by simp)).mono ?_;rintro e w8 ⟨rfl,hs⟩;rw [<- HC0.out]at hs;have hold:=hs.old;have KL:=V (KL.out.keeps hold (by omega));have HS:=V hs;have y2:=KL.out.mod.2.2.2.2.2.2.2.2.2.2.2.2.1;have y5:=hs.ext'.1 _ _ (HEX.out.1 _ _ Y1.out);clear hs y3 hold;go_wp2_with fail;clear y2 y5;refine ez (fun a' w'=>∃(c:eG) (i:Nat),a'=fr (gs a' 0 2 (.pointer (some ⟨w.heap.size,0,none⟩)::gs a' 3 2 (.pointer (some ⟨w.heap.size+1,0,none⟩)::gs a' 6 85 (.slice ab code.body.length cb:: .int .i64 code.body.length:: .int .i64 i::gs a' 94 30 []))))/\Jl m ls (qF ⟨ps,rs⟩) code.body c i/\gf w7 (w.heap.size+1) ⟨.slice a0 m.types.length c0, .slice a1 m.imports.length c1, .slice (some ⟨b,off,none⟩) m.funcs.length c2, .slice a3 m.globals.length c3, .slice a4 m.dY.length c4, .slice a5 m.elems.length c5, .slice (some ⟨bc,OI,none⟩) m.eh.length c6, .slice a7 m.eA.length c7⟩ m (.slice av ls.length cw) w' c) (fun a' _=>(code.body.length - (intOf (a'.tmps.getD 93 undef)).toNat)) ?_ ?_
  ·exact⟨_,0,rfl,OD.out,HS.out⟩
  ·skip
   rintro R a' w1 ⟨c,i,Kk,hJ⟩ HR;dsimp only [fr,gs]at Kk;generalize slot a'=f at Kk;subst Kk;obtain⟨hfn,hs⟩:=hJ;have OD:=V hfn;have HS:=V hs;obtain⟨hi1,Kx,Kt,MH,PM,-⟩:=hfn;have Lu:=V Kt;have hold:=hs.old;have MG:=V (HB.out.trans (hold.below HB.out.size (fun i hi=>by omega)));clear hold Kt;by_cases q:i < code.body.length;rotate_left
   ·obtain rfl:i=code.body.length:=by omega
    rw [List.drop_length,eG.run]at Kx;have HF:=V (show fN m k=(!c.shut.2.bad&&decide (ls.length <=32))by rw [HF.out,Kx]);clear Kx hs;go_wp2_with fail;refine(sU w7 (w.heap.size+1) _ m _ w1 c HS.out Lu.out).mono ?_;rintro e w10 ⟨rfl,Ku,Kp⟩;have MG:=V (MG.out.trans (Kp.below MG.out.size (fun i hi=>by omega)));obtain⟨-,-,-,-,-,-,c14,c17,-⟩:=Ku.cell;obtain⟨bd,NJ⟩:∃bd,c.shut.2.bad=bd:=⟨_,rfl⟩;rw [NJ]at c17 HF;clear Ku Kp NJ;cases bd
    ·by_cases q32:ls.length <=32
     ·have g1:decide ((ls.length:Int) <=32)=true:=az (by omega)
      have g2:decide (ls.length <=32)=true:=az q32;rw [g2]at HF;clear q32;go_wp2_with fail;go_ret;exact⟨by rw [HF.out];rfl,MG.out⟩
     ·have g1:decide ((ls.length:Int) <=32)=false:=aA (by omega)
      have g2:decide (ls.length <=32)=false:=aA q32;rw [g2]at HF;clear q32;go_wp2_with fail;go_ret;exact⟨by rw [HF.out];rfl,MG.out⟩
    ·go_wp2_with fail
     go_ret;exact⟨by rw [HF.out];rfl,MG.out⟩
   obtain⟨x,hx⟩:∃x,code.body[i]?=some x:=⟨_,aq q⟩;obtain⟨LX,Oo⟩:=PS.out x (aO hx);have Ko:=V (yy HSM.out OD.out hx Oo);obtain⟨bb,ob,un,rfl,-,hc,hu⟩:=ea.get HNB.out hx;obtain⟨⟨au,Kr,rfl,-,-,-⟩,-⟩:=id hu;have y0:=hs.ext'.1 _ _ (hc 0 _ rfl);have y1:=hs.ext'.1 _ _ (hc 1 _ rfl);have y2:=hs.ext'.1 _ _ (hc 2 _ rfl);have y3:=hs.ext'.1 _ _ (hc 3 _ rfl);rw [aK]at y0;obtain⟨op,xa,xb,xl⟩:=x;have Mp:=V LX;have PF:=V Oo;have HX:=V (eE.new w1 #[.int .i64 op, .int .i64 xa, .int .i64 xb, .slice au xl.length Kr] 27);have hC1:w.heap.size+1 < w1.heap.size:=hs.lt.1;clear hc hu LX Oo hx Kx hs OD;go_wp2_with fail;refine(sj w7 (w.heap.size+1) _ m _ ls _ c ⟨op,xa,xb,xl⟩ au xl.length Kr (HS.out.alloc _) Lu.out KQ.out HSM.out (by omega) (by omega) Mp.out PF.out).mono ?_;rintro e w10 (⟨c',LY,rfl,Ku⟩ | ⟨LY,rfl,Ku,Kp⟩)
   ·have MV:c.step m ls ⟨op,xa,xb,xl⟩=c':=by unfold eG.step;rw [LY];rfl
    rw [MV]at Ko;clear LY MV y0 y1 y2 y3 hC1;have hold:=Ku.old;have MG:=V (HB.out.trans (hold.below HB.out.size (fun i hi=>by omega)));have HS:=V Ku;have c17:=Ku.cell.2.2.2.2.2.2.2.1;obtain⟨bd,NJ⟩:∃bd,c'.bad=bd:=⟨_,rfl⟩;rw [NJ]at c17 Ko;clear Ku hold NJ;cases bd
    ·have OD:=V (Ko.out.2 rfl)
     clear Ko HX;go_wp2_with fail;refine HR.out _ _ ⟨_,i+1,rfl,OD.out,HS.out⟩ ?_;simp [intOf];omega
    ·have hF:=HF.out
     rw [Ko.out.1 rfl]at hF;have HF:=V hF;clear hF;go_wp2_with fail;go_ret;exact⟨by rw [HF.out];rfl,MG.out⟩
   ·have MV:c.step m ls ⟨op,xa,xb,xl⟩=c.plain m ls ⟨op,xa,xb,xl⟩:=by unfold eG.step;rw [LY];rfl
    rw [MV]at Ko;clear LY MV y0 y1 y2 y3;have HX:=V (HX.out.keeps Kp (by omega));have HS:=V Ku;have y0:=HX.out.cell 0;have y1:=HX.out.cell 1;have y2:=HX.out.cell 2;have y3:=HX.out.cell 3;simp only [aG,aF,aT]at y0 y1 y2 y3;clear Ku Kp hC1;go_wp2_with fail;refine(wL w7 (w.heap.size+1) _ m _ ls _ c ⟨op,xa,xb,xl⟩ au xl.length Kr HS.out Lu.out KQ.out (by omega) Mp.out PF.out).mono ?_;rintro e QH ⟨rfl,Ku⟩;clear y0 y1 y2 y3;obtain⟨c',LY⟩:∃c',c.plain m ls ⟨op,xa,xb,xl⟩=c':=⟨_,rfl⟩;rw [LY]at Ku Ko;clear LY;have hold:=Ku.old;have MG:=V (HB.out.trans (hold.below HB.out.size (fun i hi=>by omega)));have HS:=V Ku;have c17:=Ku.cell.2.2.2.2.2.2.2.1;obtain⟨bd,NJ⟩:∃bd,c'.bad=bd:=⟨_,rfl⟩;rw [NJ]at c17 Ko;clear Ku hold NJ;cases bd
    ·have OD:=V (Ko.out.2 rfl)
     clear Ko HX;go_wp2_with fail;refine HR.out _ _ ⟨_,i+1,rfl,OD.out,HS.out⟩ ?_;simp [intOf];omega
    ·have hF:=HF.out
     rw [Ko.out.1 rfl]at hF;have HF:=V hF;clear hF;go_wp2_with fail;go_ret;exact⟨by rw [HF.out];rfl,MG.out⟩
theorem mw {m:ew} {j:Nat} (h:jl m j=false):∀n,j <=n ->jl m n=false
 | 0,hn=>by
  obtain rfl:j=0:=by omega
  exact h
 | n+1,hn=>by
  rcases bq n j with h1 | h1
  ·obtain rfl:j=n+1:=by omega
   exact h
  ·rw [jl,mw h n h1]
   rfl
theorem ew.may.short {m:ew} (h:m.may):m.short:=fun t ht=>by
 obtain⟨h1,h2,-⟩:=h.1.2.1.1.1.2 t ht;omega
theorem ew.may.eh {m:ew} (h:m.may) (he:∀c∈m.eh,∀x∈c.body,x.mg):∀c∈m.eh,c.locals.length <=100000/\∀x∈c.body,x.may/\x.mg:=fun c hc=>by
 obtain⟨-,⟨h1,-⟩,-,h2⟩:=h.1.1.2.2 c hc;exact⟨by omega,fun x hx=>⟨h2 x hx,he c hc x hx⟩⟩
def ja (m:ew) (w:World) (e:Ending) (w':World):Prop:=e= .returned (.tuple #[.int .i64 (iz m), .bool (decide (iz m= -1))])/\Below w.heap.size w w'
theorem ja.mk {m:ew} {n:Int} {b:Bool} {w w':World} {e:Ending} (hf:iz m=n) (hb:decide (n= -1)=b) (h:Below w.heap.size w w') (he:e= .returned (.tuple #[.int .i64 n, .bool b])):ja m w e w':=⟨by rw [he,hf,hb],h⟩
theorem ee.take {α:Type} {k:Nat} {enc:α ->List Value} {w:World} {a:Option Addr} {n cap:Nat} {l:List α} (h:ee k enc w (.slice a n cap) l) (i:Nat) (hi:i <=l.length):ee k enc w (.slice a i cap) (l.take i):=by
 obtain⟨a',KE,hv,h1,h2,h3⟩:=h;injection hv with e1 e2 e3;subst e1 e3;refine⟨a,cap,by rw [aR,cJ hi],by rw [aR];omega,h2,fun j x hx=>h3 j x ?_⟩;rw [cG]at hx;split at hx
 ·exact hx
 ·cases hx
theorem vk (a:Option Addr) (len cap k:Nat) (h:k <=cap) (wx:World):
  (Instr.slice 57 (.slice a len cap) none (some (.int .i64 k)) none).run prog wx= .ok (.slice a k cap) wx:=by
 have hu:prog.underlying 57=some (.slice 111):=by kernel_rfl
 obtain⟨i0,hi,MY,LG,Mm⟩:=cd yM;simp [Instr.slice,bo hu,Instr.sliceBounds,Instr.sliceBound,sizeOf,typeInfo,hi,asIntOf,h];cases a <;>simp [Addr.add]
theorem px (m:ew) (u:eB) (w:World) (hm:ej w u m) (hs:m.words) (hn:m.imports.length+m.funcs.length <=1000000) (he:∀c∈m.eh,∀x∈c.body,x.mg):Calls prog 26 #[.agg (u.cells m)] w (ja m w):=by
 have HI:=V hm;have HWD:=V hs;have HE:=V he;obtain⟨a0,c0,a1,c1,a2,c2,a3,c3,a4,c4,a5,c5,a6,c6,a7,c7,rfl⟩:=ej.open hm;simp only [eB.cells];have hxl:m.dY.length <=9223372036854775807:=by
  obtain⟨_,_,_,h1,h2⟩:=eT hm.2.2.2.2.1;omega
 have hxc:m.dY.length <=c4:=by
  obtain⟨_,_,e,h1,h2⟩:=eT hm.2.2.2.2.1;injection e with e1 e2 e3;omega
 have Lg:m.eh.length <=9223372036854775807:=by
  obtain⟨_,_,_,h1,h2⟩:=ea.slice hm.2.2.2.2.2.2.1;omega
 clear hm hs he;have HX0:=eE.new w #[.slice a0 m.types.length c0, .slice a1 m.imports.length c1, .slice a2 m.funcs.length c2, .bool m.table.has, .int .i64 m.table.min, .int .i64 m.table.max, .bool m.mem.has, .int .i64 m.mem.min, .int .i64 m.mem.max, .slice a3 m.globals.length c3, .slice a4 m.dY.length c4, .slice a5 m.elems.length c5, .slice a6 m.eh.length c6, .slice a7 m.eA.length c7] 62;have KK:=(an w.heap.size w).alloc (ag _) (.cells #[.slice a0 m.types.length c0, .slice a1 m.imports.length c1, .slice a2 m.funcs.length c2, .bool m.table.has, .int .i64 m.table.min, .int .i64 m.table.max, .bool m.mem.has, .int .i64 m.mem.min, .int .i64 m.mem.max, .slice a3 m.globals.length c3, .slice a4 m.dY.length c4, .slice a5 m.elems.length c5, .slice a6 m.eh.length c6, .slice a7 m.eA.length c7] 62);have Kw:=KK.alloc (by rw [aE];omega) (.cells #[.func (.func 56) #[] #[.pointer (some ⟨w.heap.size,0,none⟩)]] 122);have HS:=V (Kw.alloc (by rw [aE,aE];omega) (.cells #[.func (.func 57) #[] #[.pointer (some ⟨w.heap.size,0,none⟩)]] 122));have HX:=V ((HX0.alloc (.cells #[.func (.func 56) #[] #[.pointer (some ⟨w.heap.size,0,none⟩)]] 122)).alloc (.cells #[.func (.func 57) #[] #[.pointer (some ⟨w.heap.size,0,none⟩)]] 122));have h4:=(eE.new (w.alloc (.cells #[.slice a0 m.types.length c0, .slice a1 m.imports.length c1, .slice a2 m.funcs.length c2, .bool m.table.has, .int .i64 m.table.min, .int .i64 m.table.max, .bool m.mem.has, .int .i64 m.mem.min, .int .i64 m.mem.max, .slice a3 m.globals.length c3, .slice a4 m.dY.length c4, .slice a5 m.elems.length c5, .slice a6 m.eh.length c6, .slice a7 m.eA.length c7] 62)) #[.func (.func 56) #[] #[.pointer (some ⟨w.heap.size,0,none⟩)]] 122).alloc (.cells #[.func (.func 57) #[] #[.pointer (some ⟨w.heap.size,0,none⟩)]] 122);have h5:=eE.new ((w.alloc (.cells #[.slice a0 m.types.length c0, .slice a1 m.imports.length c1, .slice a2 m.funcs.length c2, .bool m.table.has, .int .i64 m.table.min, .int .i64 m.table.max, .bool m.mem.has, .int .i64 m.mem.min, .int .i64 m.mem.max, .slice a3 m.globals.length c3, .slice a4 m.dY.length c4, .slice a5 m.elems.length c5, .slice a6 m.eh.length c6, .slice a7 m.eA.length c7] 62)).alloc (.cells #[.func (.func 56) #[] #[.pointer (some ⟨w.heap.size,0,none⟩)]] 122)) #[.func (.func 57) #[] #[.pointer (some ⟨w.heap.size,0,none⟩)]] 122;simp only [aE]at h4 h5;have H4:=V (show World.cell? _ ⟨w.heap.size+1,0,none⟩=some (.func (.func 56) #[] #[.pointer (some ⟨w.heap.size,0,none⟩)])from h4.cell 0);have H5:=V (show World.cell? _ ⟨w.heap.size+2,0,none⟩=some (.func (.func 57) #[] #[.pointer (some ⟨w.heap.size,0,none⟩)])from h5.cell 0);clear KK Kw h4 h5 HX0;have HF:=V (iz.eq_1 m);go_enter func26,ntmps26;go_wp2_with fail;obtain⟨wB,hwB⟩:∃wB,wB=(((w.alloc (.cells #[.slice a0 m.types.length c0, .slice a1 m.imports.length c1, .slice a2 m.funcs.length c2, .bool m.table.has, .int .i64 m.table.min, .int .i64 m.table.max, .bool m.mem.has, .int .i64 m.mem.min, .int .i64 m.mem.max, .slice a3 m.globals.length c3, .slice a4 m.dY.length c4, .slice a5 m.elems.length c5, .slice a6 m.eh.length c6, .slice a7 m.eA.length c7] 62)).alloc (.cells #[.func (.func 56) #[] #[.pointer (some ⟨w.heap.size,0,none⟩)]] 122)).alloc (.cells #[.func (.func 57) #[] #[.pointer (some ⟨w.heap.size,0,none⟩)]] 122)):=⟨_,rfl⟩;rw [<- hwB]at HS HX H4 H5⊢;clear hwB;refine ez (fun a' w'=>∃(tw:Bool) (i:Nat),a'=fr (gs a' 0 1 (.pointer (some ⟨w.heap.size,0,none⟩)::gs a' 2 2 (.pointer (some ⟨w.heap.size+1,0,none⟩):: .pointer (some ⟨w.heap.size+2,0,none⟩):: .bool tw::gs a' 7 6 (.slice a4 m.dY.length c4:: .int .i64 m.dY.length:: .int .i64 i::gs a' 16 80 []))))/\i <=m.dY.length/\tw=mb m [] (m.dY.take i)/\Below wB.heap.size wB w') (fun a' _=>(m.dY.length - (intOf (a'.tmps.getD 15 undef)).toNat)) ?_ ?_
 ·exact⟨false,0,rfl,bG _,rfl,an _ _⟩
 ·skip
  rintro R a' w1 ⟨tw,i,Kk,hJ⟩ HR;dsimp only [fr,gs]at Kk;generalize slot a'=f at Kk;subst Kk;obtain⟨hi,htw,hb⟩:=hJ;replace HX:=V (HX.out.below hb HX.out.lt);replace HS:=V (HS.out.trans (hb.mono HS.out.size));replace H4:=V ((Ext.dV hb).1 _ _ H4.out);replace H5:=V ((Ext.dV hb).1 _ _ H5.out);have Kz:=V hb;have HTW:=V htw;clear hb htw;by_cases q:i < m.dY.length;rotate_left
  ·obtain rfl:i=m.dY.length:=by omega
   replace HTW:=V (show tw=wS m by rw [HTW.out,aU];rfl);clear q hi;obtain⟨g0,g1,g2,g3,g4,g5,g6,g7,g8,g9,KY,KZ,K0,K3⟩:=HX.out.mod;go_wp2_with fail;refine(sQ m ⟨.slice a0 m.types.length c0, .slice a1 m.imports.length c1, .slice a2 m.funcs.length c2, .slice a3 m.globals.length c3, .slice a4 m.dY.length c4, .slice a5 m.elems.length c5, .slice a6 m.eh.length c6, .slice a7 m.eA.length c7⟩ w1 (ej.below HI.out HS.out) HWD.out).mono ?_;rintro x w2 ⟨rfl,hb⟩;replace HX:=V (HX.out.below hb HX.out.lt);replace HS:=V (HS.out.trans (hb.mono HS.out.size));replace H4:=V ((Ext.dV hb).1 _ _ H4.out);replace H5:=V ((Ext.dV hb).1 _ _ H5.out);clear hb;clear g0 g1 g2 g3 g4 g5 g6 g7 g8 g9 KY KZ K0 K3;obtain⟨g0,g1,g2,g3,g4,g5,g6,g7,g8,g9,KY,KZ,K0,K3⟩:=HX.out.mod;by_cases q:m.may;rotate_left
   ·have f1:decide m.may=false:=aA q
    replace HF:=V (HF.out.trans (aJ f1));rw [f1];clear q;go_wp2_with fail
    go_ret2
    exact ja.mk HF.out (by decide) HS.out rfl
   have Mp:=V q;have f1:decide m.may=true:=az q;replace HF:=V (HF.out.trans (aC (by rw [f1];simp)));rw [f1];clear q f1;go_wp2_with fail;refine(zw (fun x=>lF m x.type) _ m.imports _ (HI.out.2.1.ext (Ext.dV HS.out)) 62 #[.pointer (some ⟨w.heap.size+1,0,none⟩)] (fun _ _=>by rfl) (fun e _ w' hb=>yA m w.heap.size (w.heap.size+1) e w' a0 c0 ((Ext.dV hb).1 _ _ HX.out.mod.1) ((Ext.dV hb).1 _ _ H4.out))).mono ?_;rintro x w3 ⟨rfl,hb⟩;replace HX:=V (HX.out.below hb HX.out.lt);replace HS:=V (HS.out.trans (hb.mono HS.out.size));replace H4:=V ((Ext.dV hb).1 _ _ H4.out);replace H5:=V ((Ext.dV hb).1 _ _ H5.out);clear hb;clear g0 g1 g2 g3 g4 g5 g6 g7 g8 g9 KY KZ K0 K3;obtain⟨g0,g1,g2,g3,g4,g5,g6,g7,g8,g9,KY,KZ,K0,K3⟩:=HX.out.mod;obtain⟨r,hr⟩:∃r,(m.imports.any fun x=>lF m x.type)=r:=⟨_,rfl⟩;rw [hr];cases r;rotate_left
   ·replace HF:=V (HF.out.trans (aJ hr))
    clear hr;go_wp2_with fail
    go_ret2
    exact ja.mk HF.out (by decide) HS.out rfl
   replace HF:=V (HF.out.trans (aC (fun h=>absurd (hr.symm.trans h) (by decide))));clear hr;have h4:=H4.out;go_wp2_with fail;clear h4;refine(qc (fun t=>lF m t) _ m.funcs _ (HI.out.2.2.1.ext (Ext.dV HS.out)) 56 #[.pointer (some ⟨w.heap.size,0,none⟩)] (fun _ _=>by rfl) (fun e _ w' hb=>tD m w.heap.size a0 c0 e w' ((Ext.dV hb).1 _ _ HX.out.mod.1))).mono ?_;rintro x w4 ⟨rfl,hb⟩;replace HX:=V (HX.out.below hb HX.out.lt);replace HS:=V (HS.out.trans (hb.mono HS.out.size));replace H4:=V ((Ext.dV hb).1 _ _ H4.out);replace H5:=V ((Ext.dV hb).1 _ _ H5.out);clear hb;clear g0 g1 g2 g3 g4 g5 g6 g7 g8 g9 KY KZ K0 K3;obtain⟨g0,g1,g2,g3,g4,g5,g6,g7,g8,g9,KY,KZ,K0,K3⟩:=HX.out.mod;obtain⟨r,hr⟩:∃r,(m.funcs.any fun t=>lF m t)=r:=⟨_,rfl⟩;rw [hr];cases r;rotate_left
   ·replace HF:=V (HF.out.trans (aJ hr))
    clear hr;go_wp2_with fail
    go_ret2
    exact ja.mk HF.out (by decide) HS.out rfl
   replace HF:=V (HF.out.trans (aC (fun h=>absurd (hr.symm.trans h) (by decide))));clear hr;go_wp2_with fail;refine(tp m.table _).mono ?_;rintro x w5 ⟨rfl,hb⟩;replace HX:=V (HX.out.below hb HX.out.lt);replace HS:=V (HS.out.trans (hb.mono HS.out.size));replace H4:=V ((Ext.dV hb).1 _ _ H4.out);replace H5:=V ((Ext.dV hb).1 _ _ H5.out);clear hb;clear g0 g1 g2 g3 g4 g5 g6 g7 g8 g9 KY KZ K0 K3;obtain⟨g0,g1,g2,g3,g4,g5,g6,g7,g8,g9,KY,KZ,K0,K3⟩:=HX.out.mod;obtain⟨r,hr⟩:∃r,kP m.table=r:=⟨_,rfl⟩;rw [hr];cases r;rotate_left
   ·replace HF:=V (HF.out.trans (aJ hr))
    clear hr;go_wp2_with fail
    go_ret2
    exact ja.mk HF.out (by decide) HS.out rfl
   replace HF:=V (HF.out.trans (aC (fun h=>absurd (hr.symm.trans h) (by decide))));clear hr;go_wp2_with fail;refine(tp m.mem _).mono ?_;rintro x w6 ⟨rfl,hb⟩;replace HX:=V (HX.out.below hb HX.out.lt);replace HS:=V (HS.out.trans (hb.mono HS.out.size));replace H4:=V ((Ext.dV hb).1 _ _ H4.out);replace H5:=V ((Ext.dV hb).1 _ _ H5.out);clear hb;clear g0 g1 g2 g3 g4 g5 g6 g7 g8 g9 KY KZ K0 K3;obtain⟨g0,g1,g2,g3,g4,g5,g6,g7,g8,g9,KY,KZ,K0,K3⟩:=HX.out.mod;obtain⟨r,hr⟩:∃r,kP m.mem=r:=⟨_,rfl⟩;rw [hr];cases r;rotate_left
   ·replace HF:=V (HF.out.trans (aJ hr))
    clear hr;go_wp2_with fail
    go_ret2
    exact ja.mk HF.out (by decide) HS.out rfl
   replace HF:=V (HF.out.trans (aC (fun h=>absurd (hr.symm.trans h) (by decide))));clear hr;rw [HTW.out];obtain⟨r,hr⟩:∃r,wS m=r:=⟨_,rfl⟩;rw [hr];cases r;rotate_left
   ·replace HF:=V (HF.out.trans (aJ hr))
    clear hr;go_wp2_with fail
    go_ret2
    exact ja.mk HF.out (by decide) HS.out rfl
   replace HF:=V (HF.out.trans (aC (fun h=>absurd (hr.symm.trans h) (by decide))));clear hr;by_cases qe:m.elems.length≠0/\m.table.has=false
   ·replace HF:=V (HF.out.trans (aJ qe))
    have f1:decide ((0:Int) < (m.elems.length:Int))=true:=az (by have:=qe.1;omega);have f2:decide (0 < m.elems.length)=true:=az (by have:=qe.1;omega);rw [qe.2]at g3;clear qe;go_wp2_with fail
    go_ret2
    exact ja.mk HF.out (by decide) HS.out rfl
   replace HF:=V (HF.out.trans (aC qe));by_cases q0:m.elems.length=0
   ·have f1:decide ((0:Int) < (m.elems.length:Int))=false:=aA (by omega)
    have f2:decide (0 < m.elems.length)=false:=aA (by omega);clear qe q0;go_wp2_with fail;clear f1 f2;refine(tJ (fun x=>x.funcs.any fun f=>lD m f) _ m.elems _ (HI.out.2.2.2.2.2.1.ext (Ext.dV HS.out) (fun _ _ h=>h.ext (Ext.dV HS.out))) 66 #[.pointer (some ⟨w.heap.size+2,0,none⟩)] (fun _ _=>by rfl) (fun e _ u w' hb hu=>pO m w.heap.size (w.heap.size+2) e u w' a1 a2 c1 c2 ((Ext.dV hb).1 _ _ HX.out.mod.2.1) ((Ext.dV hb).1 _ _ HX.out.mod.2.2.1) hn ((Ext.dV hb).1 _ _ H5.out) hu)).mono ?_;rintro x w7 ⟨rfl,hb⟩;replace HX:=V (HX.out.below hb HX.out.lt);replace HS:=V (HS.out.trans (hb.mono HS.out.size));replace H4:=V ((Ext.dV hb).1 _ _ H4.out);replace H5:=V ((Ext.dV hb).1 _ _ H5.out);clear hb;clear g0 g1 g2 g4 g5 g6 g7 g8 g9 KY KZ K0 K3;obtain⟨g0,g1,g2,g3',g4,g5,g6,g7,g8,g9,KY,KZ,K0,K3⟩:=HX.out.mod;clear g3;have g3:=g3';clear g3';obtain⟨r,hr⟩:∃r,(m.elems.any fun x=>x.funcs.any fun f=>lD m f)=r:=⟨_,rfl⟩;rw [hr];cases r;rotate_left
    ·replace HF:=V (HF.out.trans (aJ hr))
     clear hr;go_wp2_with fail
     go_ret2
     exact ja.mk HF.out (by decide) HS.out rfl
    replace HF:=V (HF.out.trans (aC (fun h=>absurd (hr.symm.trans h) (by decide))));clear hr;go_wp2_with fail;clear g0 g1 g2 g3 g4 g5 g6 g7 g8 g9 KY KZ K0 K3;refine ez (fun a' w'=>∃(i:Nat),a'=fr (gs a' 0 1 (.pointer (some ⟨w.heap.size,0,none⟩)::gs a' 2 75 (.int .i64 m.eh.length:: .int .i64 i::gs a' 79 17 [])))/\i <=m.eh.length/\jl m i=true/\Below w7.heap.size w7 w') (fun a' _=>(m.eh.length - (intOf (a'.tmps.getD 78 undef)).toNat)) ?_ ?_
    ·exact⟨0,rfl,bG _,rfl,an _ _⟩
    ·skip
     rintro R a' w8 ⟨i,Kk,hJ⟩ HR;dsimp only [fr,gs]at Kk;generalize slot a'=f at Kk;subst Kk;obtain⟨hi,O6,hb⟩:=hJ;replace HX:=V (HX.out.below hb HX.out.lt);replace HS:=V (HS.out.trans (hb.mono HS.out.size));replace H4:=V ((Ext.dV hb).1 _ _ H4.out);replace H5:=V ((Ext.dV hb).1 _ _ H5.out);have Kz:=V hb;have HCF:=V O6;clear hb O6;obtain⟨g0,g1,g2,g3,g4,g5,g6,g7,g8,g9,KY,KZ,K0,K3⟩:=HX.out.mod;by_cases q:i < m.eh.length
     ·go_wp2_with fail
      refine(nC m ⟨.slice a0 m.types.length c0, .slice a1 m.imports.length c1, .slice a2 m.funcs.length c2, .slice a3 m.globals.length c3, .slice a4 m.dY.length c4, .slice a5 m.elems.length c5, .slice a6 m.eh.length c6, .slice a7 m.eA.length c7⟩ i w8 (ej.below HI.out HS.out) Mp.out.short (Mp.out.eh HE.out)).mono ?_;rintro x w9 ⟨rfl,hb⟩;replace HX:=V (HX.out.below hb HX.out.lt);replace HS:=V (HS.out.trans (hb.mono HS.out.size));replace H4:=V ((Ext.dV hb).1 _ _ H4.out);replace H5:=V ((Ext.dV hb).1 _ _ H5.out);replace Kz:=V (Kz.out.trans (hb.mono Kz.out.size));clear hb g0 g1 g2 g3 g4 g5 g6 g7 g8 g9 KY KZ K0 K3;obtain⟨r,hr⟩:∃r,fN m i=r:=⟨_,rfl⟩;rw [hr];have HCN:=V (show jl m (i+1)=r by rw [jl,HCF.out,hr];rfl);clear hr;cases r
      ·replace HF:=V (HF.out.trans (aJ (mw HCN.out _ (by omega))))
       go_wp2_with fail
       go_ret2
       exact ja.mk HF.out (by decide) HS.out rfl
      ·go_wp2_with fail
       refine HR.out _ _ ⟨i+1,rfl,by omega,HCN.out,Kz.out⟩ ?_;simp [intOf];omega
     ·obtain rfl:i=m.eh.length:=by omega
      replace HF:=V (HF.out.trans (aC (by rw [HCF.out];simp)));clear q hi HCF;by_cases qe:m.eA.length≠0/\m.mem.has=false
      ·replace HF:=V (HF.out.trans (aJ qe))
       have f1:decide ((0:Int) < (m.eA.length:Int))=true:=az (by have:=qe.1;omega);have f2:decide (0 < m.eA.length)=true:=az (by have:=qe.1;omega);rw [qe.2]at g6;clear qe;go_wp2_with fail
       go_ret2
       exact ja.mk HF.out (by decide) HS.out rfl
      replace HF:=V (HF.out.trans (aC qe));by_cases q0:m.eA.length=0
      ·have f1:decide ((0:Int) < (m.eA.length:Int))=false:=aA (by omega)
       have f2:decide (0 < m.eA.length)=false:=aA (by omega);clear qe q0;go_wp2_with fail
       go_ret2
       exact ja.mk HF.out (by decide) HS.out rfl
      ·have f1:decide ((0:Int) < (m.eA.length:Int))=true:=az (by omega)
       have f2:decide (0 < m.eA.length)=true:=az (by omega);have f3:m.mem.has=true:=by
        cases hh:m.mem.has with
        | true=>rfl
        | false=>exact absurd ⟨q0,hh⟩ qe
       rw [f3]at g6;clear qe q0 f3;go_wp2_with fail
       go_ret2
       exact ja.mk HF.out (by decide) HS.out rfl
   ·have f1:decide ((0:Int) < (m.elems.length:Int))=true:=az (by omega)
    have f2:decide (0 < m.elems.length)=true:=az (by omega);have f3:m.table.has=true:=by
     cases hh:m.table.has with
     | true=>rfl
     | false=>exact absurd ⟨q0,hh⟩ qe
    rw [f3]at g3;clear qe q0 f3;go_wp2_with fail;clear f1 f2;refine(tJ (fun x=>x.funcs.any fun f=>lD m f) _ m.elems _ (HI.out.2.2.2.2.2.1.ext (Ext.dV HS.out) (fun _ _ h=>h.ext (Ext.dV HS.out))) 66 #[.pointer (some ⟨w.heap.size+2,0,none⟩)] (fun _ _=>by rfl) (fun e _ u w' hb hu=>pO m w.heap.size (w.heap.size+2) e u w' a1 a2 c1 c2 ((Ext.dV hb).1 _ _ HX.out.mod.2.1) ((Ext.dV hb).1 _ _ HX.out.mod.2.2.1) hn ((Ext.dV hb).1 _ _ H5.out) hu)).mono ?_;rintro x w7 ⟨rfl,hb⟩;replace HX:=V (HX.out.below hb HX.out.lt);replace HS:=V (HS.out.trans (hb.mono HS.out.size));replace H4:=V ((Ext.dV hb).1 _ _ H4.out);replace H5:=V ((Ext.dV hb).1 _ _ H5.out);clear hb;clear g0 g1 g2 g4 g5 g6 g7 g8 g9 KY KZ K0 K3;obtain⟨g0,g1,g2,g3',g4,g5,g6,g7,g8,g9,KY,KZ,K0,K3⟩:=HX.out.mod;clear g3;have g3:=g3';clear g3';obtain⟨r,hr⟩:∃r,(m.elems.any fun x=>x.funcs.any fun f=>lD m f)=r:=⟨_,rfl⟩;rw [hr];cases r;rotate_left
    ·replace HF:=V (HF.out.trans (aJ hr))
     clear hr;go_wp2_with fail
     go_ret2
     exact ja.mk HF.out (by decide) HS.out rfl
    replace HF:=V (HF.out.trans (aC (fun h=>absurd (hr.symm.trans h) (by decide))));clear hr;go_wp2_with fail;clear g0 g1 g2 g3 g4 g5 g6 g7 g8 g9 KY KZ K0 K3;refine ez (fun a' w'=>∃(i:Nat),a'=fr (gs a' 0 1 (.pointer (some ⟨w.heap.size,0,none⟩)::gs a' 2 75 (.int .i64 m.eh.length:: .int .i64 i::gs a' 79 17 [])))/\i <=m.eh.length/\jl m i=true/\Below w7.heap.size w7 w') (fun a' _=>(m.eh.length - (intOf (a'.tmps.getD 78 undef)).toNat)) ?_ ?_
    ·exact⟨0,rfl,bG _,rfl,an _ _⟩
    ·skip
     rintro R a' w8 ⟨i,Kk,hJ⟩ HR;dsimp only [fr,gs]at Kk;generalize slot a'=f at Kk;subst Kk;obtain⟨hi,O6,hb⟩:=hJ;replace HX:=V (HX.out.below hb HX.out.lt);replace HS:=V (HS.out.trans (hb.mono HS.out.size));replace H4:=V ((Ext.dV hb).1 _ _ H4.out);replace H5:=V ((Ext.dV hb).1 _ _ H5.out);have Kz:=V hb;have HCF:=V O6;clear hb O6;obtain⟨g0,g1,g2,g3,g4,g5,g6,g7,g8,g9,KY,KZ,K0,K3⟩:=HX.out.mod;by_cases q:i < m.eh.length
     ·go_wp2_with fail
      refine(nC m ⟨.slice a0 m.types.length c0, .slice a1 m.imports.length c1, .slice a2 m.funcs.length c2, .slice a3 m.globals.length c3, .slice a4 m.dY.length c4, .slice a5 m.elems.length c5, .slice a6 m.eh.length c6, .slice a7 m.eA.length c7⟩ i w8 (ej.below HI.out HS.out) Mp.out.short (Mp.out.eh HE.out)).mono ?_;rintro x w9 ⟨rfl,hb⟩;replace HX:=V (HX.out.below hb HX.out.lt);replace HS:=V (HS.out.trans (hb.mono HS.out.size));replace H4:=V ((Ext.dV hb).1 _ _ H4.out);replace H5:=V ((Ext.dV hb).1 _ _ H5.out);replace Kz:=V (Kz.out.trans (hb.mono Kz.out.size));clear hb g0 g1 g2 g3 g4 g5 g6 g7 g8 g9 KY KZ K0 K3;obtain⟨r,hr⟩:∃r,fN m i=r:=⟨_,rfl⟩;rw [hr];have HCN:=V (show jl m (i+1)=r by rw [jl,HCF.out,hr];rfl);clear hr;cases r
      ·replace HF:=V (HF.out.trans (aJ (mw HCN.out _ (by omega))))
       go_wp2_with fail
       go_ret2
       exact ja.mk HF.out (by decide) HS.out rfl
      ·go_wp2_with fail
       refine HR.out _ _ ⟨i+1,rfl,by omega,HCN.out,Kz.out⟩ ?_;simp [intOf];omega
     ·obtain rfl:i=m.eh.length:=by omega
      replace HF:=V (HF.out.trans (aC (by rw [HCF.out];simp)));clear q hi HCF;by_cases qe:m.eA.length≠0/\m.mem.has=false
      ·replace HF:=V (HF.out.trans (aJ qe))
       have f1:decide ((0:Int) < (m.eA.length:Int))=true:=az (by have:=qe.1;omega);have f2:decide (0 < m.eA.length)=true:=az (by have:=qe.1;omega);rw [qe.2]at g6;clear qe;go_wp2_with fail
       go_ret2
       exact ja.mk HF.out (by decide) HS.out rfl
      replace HF:=V (HF.out.trans (aC qe));by_cases q0:m.eA.length=0
      ·have f1:decide ((0:Int) < (m.eA.length:Int))=false:=aA (by omega)
       have f2:decide (0 < m.eA.length)=false:=aA (by omega);clear qe q0;go_wp2_with fail
       go_ret2
       exact ja.mk HF.out (by decide) HS.out rfl
      ·have f1:decide ((0:Int) < (m.eA.length:Int))=true:=az (by omega)
       have f2:decide (0 < m.eA.length)=true:=az (by omega);have f3:m.mem.has=true:=by
        cases hh:m.mem.has with
        | true=>rfl
        | false=>exact absurd ⟨q0,hh⟩ qe
       rw [f3]at g6;clear qe q0 f3;go_wp2_with fail
       go_ret2
       exact ja.mk HF.out (by decide) HS.out rfl
  obtain⟨x,hx⟩:∃x,m.dY[i]?=some x:=⟨_,aq q⟩;have HTN:=V (show mb m [] (m.dY.take (i+1))=(tw || xd m (m.dY.take i) x)by
   rw [aQ,hx,HTW.out];exact rf m x _ _)
  obtain⟨_,_,hv,_,_,Kh⟩:=HI.out.2.2.2.2.1.ext (Ext.dV HS.out);injection hv with e1 e2 e3;subst e1;obtain⟨b,off,rfl,-,KH⟩:=Kh i x hx;have y0:=KH 0 _ rfl;have y1:=KH 1 _ rfl;rw [aK]at y0;clear e2 e3 Kh KH hx;obtain⟨xn,xf⟩:=x;have HXB:=V (eE.new w1 #[.string xn, .int .i64 xf] 111);have Kw:=(an w1.heap.size w1).alloc (ag _) (.cells #[.string xn, .int .i64 xf] 111);cases tw
  ·have h5:=(Ext.dV Kw).1 _ _ H5.out
   have hb:=Kw;replace HX:=V (HX.out.below hb HX.out.lt);replace HS:=V (HS.out.trans (hb.mono HS.out.size));replace H4:=V ((Ext.dV hb).1 _ _ H4.out);replace H5:=V ((Ext.dV hb).1 _ _ H5.out);replace Kz:=V (Kz.out.trans (hb.mono Kz.out.size));clear hb Kw;go_wp2_with fail;refine(tK m w.heap.size a1 a2 c1 c2 xf _ HX.out.mod.2.1 HX.out.mod.2.2.1 hn).mono ?_;rintro e w2 ⟨rfl,hb⟩;replace HX:=V (HX.out.below hb HX.out.lt);replace HS:=V (HS.out.trans (hb.mono HS.out.size));replace H4:=V ((Ext.dV hb).1 _ _ H4.out);replace H5:=V ((Ext.dV hb).1 _ _ H5.out);replace Kz:=V (Kz.out.trans (hb.mono Kz.out.size));replace HXB:=V (HXB.out.below hb HXB.out.lt);clear hb h5 y0 y1;obtain⟨r,hr⟩:∃r,lD m xf=r:=⟨_,rfl⟩;rw [hr];replace HTN:=V (show mb m [] (m.dY.take (i+1))=(r || (m.dY.take i).any fun y=>xn.toList==y.name.toList)by rw [HTN.out, <- hr];rfl);clear hr;cases r
   ·have KY:=HX.out.mod.2.2.2.2.2.2.2.2.2.2.1
    have LV:=vk (some ⟨b,off,none⟩) m.dY.length c4 i (by omega);go_wp2_with fail;refine(xN (fun y=>xn.toList==y.name.toList) _ (m.dY.take i) _ (ee.take (HI.out.2.2.2.2.1.ext (Ext.dV HS.out)) i hi) 59 #[.pointer (some ⟨w1.heap.size,0,none⟩)] (fun _ _=>by rfl) (fun e _ w' hb=>xE ⟨xn,xf⟩ e w1.heap.size w' ((Ext.dV hb).1 _ _ (HXB.out.cell 0)))).mono ?_;rintro e w3 ⟨rfl,hb⟩;replace Kz:=V (Kz.out.trans (hb.mono Kz.out.size));clear hb KY LV;obtain⟨r,hr⟩:∃r,((m.dY.take i).any fun y=>xn.toList==y.name.toList)=r:=⟨_,rfl⟩;rw [hr]at HTN⊢;clear hr;go_wp2_with fail;refine HR.out _ _ ⟨r,i+1,rfl,by omega,HTN.out.symm,Kz.out⟩ ?_;simp [intOf];omega
   ·go_wp2_with fail
    refine HR.out _ _ ⟨true,i+1,rfl,by omega,HTN.out.symm,Kz.out⟩ ?_;simp [intOf];omega
  ·replace Kz:=V (Kz.out.trans (Kw.mono Kz.out.size))
   clear Kw;go_wp2_with fail;refine HR.out _ _ ⟨true,i+1,rfl,by omega,HTN.out.symm,Kz.out⟩ ?_;simp [intOf];omega
end Go.Proofs.YthbjdhjppbcneaaGreatDoor
