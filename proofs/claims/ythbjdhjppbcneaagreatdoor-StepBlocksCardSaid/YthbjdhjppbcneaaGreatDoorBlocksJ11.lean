import Derived.Test.YthbjdhjppbcneaaGreatDoorBlocksJ10
import Derived.Laws.EntriesVeiled
namespace Go.Proofs.YthbjdhjppbcneaaGreatDoor
set_option maxRecDepth 100000
set_option maxHeartbeats 20000000
open Go.RowKit Tryz
open Lib renaming hid->V
set_option linter.all false
theorem eP.Ja {w:World} {X:Nat} {x0 x1 x2:Int} {b:Bool} {t:TypeId} (h:eP w X #[.int .i64 x0, .int .i64 x1, .int .i64 x2, .bool b] t):
  (loadVar 186 ⟨X,0,none⟩).run prog w= .ok (.agg #[.int .i64 x0, .int .i64 x1, .int .i64 x2, .bool b]) w:=by
 have hs:(prog.underlying 186).map (fun d=>match d with | .struct _ | .array _ _=>true | _=>false)=some true:=by kernel_rfl
 obtain⟨d,h1,h2⟩:=bC.1 hs;exact bZ w X t 186 _ _ d h h1 (by cases d <;>first | rfl | (exfalso;simp at h2)) (by kernel_rfl)
def EW (t:lG):Value:= .agg #[.int .i64 t.op, .int .i64 t.kind, .int .i64 t.eR, .bool t.dead]
theorem qv (a:Option Addr) (len cap k:Nat) (h:k <=cap) (wx:World):
  (Instr.slice 179 (.slice a len cap) none (some (.int .i64 k)) none).run prog wx= .ok (.slice a k cap) wx:=by
 have hu:prog.underlying 179=some (.slice 186):=by kernel_rfl
 obtain⟨i0,hi,NW,MP,Nu⟩:=bX wG;simp [Instr.slice,bx hu,Instr.sliceBounds,Instr.sliceBound,sizeOf,typeInfo,hi,asIntOf,h];cases a <;>simp [Addr.add]
theorem ea.gK {α:Type} {t t':TypeId} {k:Nat} {enc:α ->List Value} {w:World} {B X:Nat} {v:Value} {l:List α} {xs:Array Value} (h:ea t k enc w B v l) (hb:eP w X xs t') (Nm:t≠t'):∀i,eH v i ->¬ i=X:=by
 intro i hi he;subst he;obtain⟨_,⟨hv,_⟩ | ⟨g,cap,cur,hv,_,hg,_⟩⟩:=h
 ·rw [hv]at hi;simp [eH,Value.ownBlock]at hi
 ·rw [hv]at hi
  simp [eH,Value.ownBlock]at hi;subst hi;have:=hb.symm.trans hg;injection this with this;injection this with e1 e2;exact Nm e2.symm
theorem Di (w1:World) (C:Nat) (u:eL) (m:eI) (lv:Value) (w:World) (c:eU) (h:gA w1 C u m lv w c) (Ly:ia c):
  Calls prog 106 #[.pointer (some ⟨C,0,none⟩)] w (fun e w'=>e= .returned (EW c.top)/\gA w1 C u m lv w' c.shut.2/\ee (fun i=>i=C) w w'):=by
 have ME:=V Ly;have Lw:=h.lt;obtain⟨ej,eT,bad⟩:=c;obtain⟨cs,t,rfl⟩:=rf Ly.2;rw [nz];have HSH:Hid ((eU.shut ⟨ej,cs++[t],bad⟩).2={(eU.gb ⟨ej,cs++[t],bad⟩ (gF t.kind)).need ((eU.gb ⟨ej,cs++[t],bad⟩ (gF t.kind)).ej.length==t.eR)with eT:=cs}):=V (by
  unfold eU.shut eU.uV;rw [nz];simp only [eU.ni,eU.iD,List.dropLast_concat])
 have HK0:ee (fun i=>i=C) w (w.alloc (.cells #[.int .i64 0, .int .i64 0, .int .i64 0, .bool false] 186)):=(ee.refl _ _).alloc _;have PR:=eP.new w #[.int .i64 0, .int .i64 0, .int .i64 0, .bool false] 186;obtain⟨v,v',hb,hv,hc,hk,hC⟩:=h;obtain⟨g,cap,rfl,Mk,NC,PE,NY,Od⟩:=BQ.of hb rfl hc;have C16:=V Od.1;have H:=V ((show gA w1 C u m lv w ⟨ej,cs++[t],bad⟩from⟨v,_,hb,hv,hc,hk,hC⟩).alloc (.cells #[.int .i64 0, .int .i64 0, .int .i64 0, .bool false] 186));have hCl:=hb.lt;have hsw:=hk.size;have Pw:=V (BQ.keeps (S:=fun _=>False) Od ((ee.refl (fun _=>False) w).alloc (.cells #[.int .i64 0, .int .i64 0, .int .i64 0, .bool false] 186)) ⟨hCl,fun h=>h⟩ ⟨NY,fun h=>h⟩);have HQ:Hid ((w.alloc (.cells #[.int .i64 0, .int .i64 0, .int .i64 0, .bool false] 186)).cell? ⟨C,16,none⟩=w.cell? ⟨C,16,none⟩):=V (((an w.heap.size w).alloc (ag _) _).cell hCl);have hsA:(w.alloc (.cells #[.int .i64 0, .int .i64 0, .int .i64 0, .bool false] 186)).heap.size=w.heap.size+1:=aE _ _;have hlA:=H.out.lt.1;clear hb hv hc hk Od Ly Lw;go_enter func106,ntmps106;go_wp2_with fail;obtain⟨wA,P1⟩:∃wA,wA=w.alloc (.cells #[.int .i64 0, .int .i64 0, .int .i64 0, .bool false] 186):=⟨_,rfl⟩;rw [<- P1]at HK0 PR H Pw HQ hsA hlA⊢;clear P1;have HSA:=V hsA;have hgA:g < wA.heap.size:=by omega
 have hYA:wA.heap.size=w.heap.size+1:=hsA;refine eu (BQ C g cs.length cap t) (up 0 12 ((12,false)::(13,false)::[])) (by kernel_rfl) (by kernel_rfl) Pw.out ?_;clear hsA hYA;iterate 12 (first | (apply sk rfl rfl;simp only [pt]) | (apply ef rfl rfl rfl;·(rintro w' ⟨t0,t1,t2,t3,t4⟩;go_wp2;exact⟨rfl,rfl,rfl⟩)))
 refine eo rfl rfl ?_;go_wp2_with fail;refine⟨Pw.out.keeps ((ee.refl (fun _=>False) wA).drew.alloc _) ⟨hlA,fun h=>h⟩ ⟨hgA,fun h=>h⟩,?_⟩;refine eo rfl rfl ?_;go_wp2_with fail;have LS:=V (qB wA t);have HX:=V (vz wA t);unfold E8 at LS HX;rw [HSA.out];have HX:=V (show eP _ (w.heap.size+1) _ _ by have:=HX.out;rw [HSA.out]at this;exact this);have HS:=V (H.out.below LS.out);have HR:=V (PR.below LS.out PR.lt);have HK:=V (HK0.trans (ee.eh (S:=fun _=>False) LS.out) (fun _ h=>h.elim));have HQ:=V ((LS.out.cell (p:=⟨C,16,none⟩) hlA).trans HQ.out);refine⟨Pw.out.keeps (ee.eh (S:=fun _=>False) LS.out) ⟨hlA,fun h=>h⟩ ⟨hgA,fun h=>h⟩,?_⟩;refine eV ?_;refine aD ?_;generalize(wA.alloc (.cells #[.int .i64 t.op, .int .i64 t.kind, .int .i64 t.eR, .bool t.dead] 186)).drew=wb at HX HS HR HK HQ⊢;clear LS Pw H HK0 PR HSA hlA hgA;have HXL:=V (show w.heap.size+1 < wb.heap.size from HX.out.lt);have x1:=HX.out.cell 1;simp only [aI,aG,aU]at x1;go_wp2_with fail;refine(mS t.kind wb C HS.out.lt.1).mono ?_;rintro e w2 ⟨kv,rfl,hl,hb⟩;have HL:=V hl;have HS:=V (HS.out.below hb);have HX:=V (HX.out.below hb HX.out.lt);have HR:=V (HR.out.below hb HR.out.lt);have HK:=V (HK.out.trans (ee.eh (S:=fun _=>False) hb) (fun _ h=>h.elim));have HQ:=V ((hb.cell (p:=⟨C,16,none⟩) (bK hCl (aW (dP _) (Nat.le_of_lt HXL.out)))).trans HQ.out);clear hl hb x1;go_wp2_with fail;refine(oT w1 C u m lv w2 _ kv (gF t.kind) HS.out ME.out HL.out (by unfold gF;split <;>simp)).mono ?_;rintro e w3 ⟨rfl,hs,hk,hq⟩;have HS:=V hs;have HX:=V (HX.out.keeps hk (by omega));have HR:=V (HR.out.keeps hk (by omega));have HK:=V (HK.out.trans hk (fun _ h=> .inl h));have HQ:=V (hq.trans HQ.out);clear hs hk hq;obtain⟨L,hL⟩:∃L,(eU.gb ⟨ej,cs++[t],bad⟩ (gF t.kind)).ej.length=L:=⟨_,rfl⟩;obtain⟨v,v',hb,hv,-,-,-⟩:=HS.out;obtain⟨av,cv,rfl,-,-⟩:=hv.slice;rw [hL]at hb hv HSH;have OS:w3.cell? ⟨C,15,none⟩=some (.slice av L cv):=hb.cell 15;have x2:w3.cell? ⟨w.heap.size+1,2,none⟩=some (.int .i64 t.eR):=HX.out.cell 2;clear hb hv hL;by_cases q:L=t.eR
 ·have f1:((L:Int)==(t.eR:Int))=true:=eQ (by omega)
  have f2:(L==t.eR)=true:=by simp [q]
  have HND:=V f2;clear q;go_wp2_with fail;refine eX (fun w'=>w'.cell? ⟨C,15,none⟩=some (.slice av L cv)/\w'.cell? ⟨w.heap.size+1,2,none⟩=some (.int .i64 t.eR)) 9 (up 0 9 []) (by kernel_rfl) (by kernel_rfl) ⟨OS,x2⟩ ?_;clear OS x2;iterate 9 (first | (apply sk rfl rfl;simp only [pt]) | (apply ef rfl rfl rfl;·(rintro w' ⟨t0,t1⟩;go_wp2;exact⟨rfl,rfl,rfl⟩)))
  refine fP rfl rfl ?_;have HS:=V HS.out.drew;have HX:=V HX.out.drew;have HR:=V HR.out.drew;have HK:=V HK.out.drew;have HQ:=V (show w3.drew.cell? ⟨C,16,none⟩=w.cell? ⟨C,16,none⟩from HQ.out);generalize w3.drew=w4 at HS HX HR HK HQ⊢;go_wp2_with fail;refine(jW w1 C u m lv w4 _ true HS.out).mono ?_;rintro e w5 ⟨rfl,hs,hk,hq⟩;have HS:=V hs;have HX:=V (HX.out.keeps hk (by omega));have HR:=V (HR.out.keeps hk (by omega));have HK:=V (HK.out.trans hk (fun _ h=> .inl h));have HQ:=V (hq.trans HQ.out);clear hs hk hq;go_wp2_with fail;refine⟨trivial,?_⟩;refine aD ?_;have HX:=V HX.out.drew;have HR:=V HR.out.drew;have HK:=V HK.out.drew;obtain⟨v,v',hb,hv,hc,hk,-⟩:=HS.out.drew;have LN:ea 186 4 yp w5.drew w1.heap.size v' (cs++[t]):=by
   have Na:=hc;rw [show((eU.gb ⟨ej,cs++[t],bad⟩ (gF t.kind)).need true).eT=cs++[t]from by rw [eU.ni,eU.iD]]at Na;exact Na
  obtain⟨g2,Lu,rfl,hcap2,hcm2,hg3,hg4,Od⟩:=BQ.of hb rfl LN;have Ru:w5.drew.cell? ⟨C,16,none⟩=some (.slice (some ⟨g2,0,none⟩) (cs.length+1) Lu):=Od.1;have hgg:g2 < w.heap.size:=by
   have h1:w5.cell? ⟨C,16,none⟩=some (.slice (some ⟨g2,0,none⟩) (cs.length+1) Lu):=Od.1;have h2:=HQ.out;rw [h1,C16.out]at h2;injection h2 with h2;injection h2 with h2;injection h2 with h2;injection h2 with h2;omega
  have z16:=hb.free 16;have MU:=qv (some ⟨g2,0,none⟩) (cs.length+1) Lu cs.length (by omega);have LG:=V hb;have QO:=V hv;have HCC:=V LN;have Qa:=V hk;clear hb hv hc LN hk Od;go_wp2_with fail;refine eX (fun w'=>w'.cell? ⟨C,16,none⟩=some (.slice (some ⟨g2,0,none⟩) (cs.length+1) Lu)) 14 (up 0 14 []) (by kernel_rfl) (by kernel_rfl) Ru ?_;iterate 14 (first | (apply sk rfl rfl;simp only [pt]) | (apply ef rfl rfl rfl;·(rintro w' t0;go_wp2;exact⟨rfl,rfl,rfl⟩)))
  refine fP rfl rfl ?_;generalize w5.drew=w7 at HX HR HK LG QO HCC Qa Ru z16 hg4⊢;go_wp2_with fail;have Lt:=eC w7 C 16 (.slice (some ⟨g2,0,none⟩) cs.length Lu);have hT:=ea.take jZ HCC.out cs.length (by simp);rw [dF rfl]at hT;have HT:=V (hT.keeps Lt (fun i hi h=>by have:=(eE hT hi).1;omega));have QO:=V (QO.out.keeps Lt (fun i hi h=>by have:=(eE QO.out hi).1;omega));have LG:=V (show eP _ C (tm u m lv v (.slice (some ⟨g2,0,none⟩) cs.length Lu) ((eU.gb ⟨ej,cs++[t],bad⟩ (gF t.kind)).need true).bad) 181 from LG.out.set 16 (.slice (some ⟨g2,0,none⟩) cs.length Lu));have Qa:=V (Qa.out.trans Lt (fun _ h=> .inl h));have HX:=V (HX.out.keeps Lt (by omega));have HR:=V (HR.out.keeps Lt (by omega));have HK:=V (HK.out.trans Lt (fun _ h=> .inl h));refine⟨trivial,?_⟩;refine aD ?_;clear Lt hT Ru z16 MU;generalize w7.setCell ⟨C,16,none⟩ (.slice (some ⟨g2,0,none⟩) cs.length Lu)=w8 at HX HR HK HT QO LG Qa⊢;obtain⟨⟨x0,x1,x2,x3⟩,-,-,-,-⟩:=HX.out.four;obtain⟨⟨r0,r1,r2,r3⟩,zr0,zr1,zr2,zr3⟩:=HR.out.four;go_wp2_with fail;have hx:=HR.out.sx (.int .i64 t.op) (.int .i64 t.kind) (.int .i64 t.eR) (.bool t.dead);have Lt:=mQ w8 w.heap.size (.int .i64 t.op) (.int .i64 t.kind) (.int .i64 t.eR) (.bool t.dead);refine aN (eG rfl _ _ rfl hx.Ja) rfl ?_;refine⟨rfl,?_,HK.out.trans Lt (fun i hi=> .inr (by omega))⟩;rw [HSH.out,HND.out];exact⟨v,_,LG.out.keeps Lt (by omega),QO.out.keeps Lt (QO.out.gK HR.out (by decide)),HT.out.keeps Lt (fun i hi h=>absurd (show g2=i by simpa [eH,Value.ownBlock] using hi) (by omega)),Qa.out.trans Lt (fun i hi=> .inr (by omega)),hC⟩
 ·have f1:((L:Int)==(t.eR:Int))=false:=ed (by omega)
  have f2:(L==t.eR)=false:=by simp [q]
  have HND:=V f2;clear q;go_wp2_with fail;refine eX (fun w'=>w'.cell? ⟨C,15,none⟩=some (.slice av L cv)/\w'.cell? ⟨w.heap.size+1,2,none⟩=some (.int .i64 t.eR)) 9 (up 0 9 []) (by kernel_rfl) (by kernel_rfl) ⟨OS,x2⟩ ?_;clear OS x2;iterate 9 (first | (apply sk rfl rfl;simp only [pt]) | (apply ef rfl rfl rfl;·(rintro w' ⟨t0,t1⟩;go_wp2;exact⟨rfl,rfl,rfl⟩)))
  refine fP rfl rfl ?_;have HS:=V HS.out.drew;have HX:=V HX.out.drew;have HR:=V HR.out.drew;have HK:=V HK.out.drew;have HQ:=V (show w3.drew.cell? ⟨C,16,none⟩=w.cell? ⟨C,16,none⟩from HQ.out);generalize w3.drew=w4 at HS HX HR HK HQ⊢;go_wp2_with fail;refine(jW w1 C u m lv w4 _ false HS.out).mono ?_;rintro e w5 ⟨rfl,hs,hk,hq⟩;have HS:=V hs;have HX:=V (HX.out.keeps hk (by omega));have HR:=V (HR.out.keeps hk (by omega));have HK:=V (HK.out.trans hk (fun _ h=> .inl h));have HQ:=V (hq.trans HQ.out);clear hs hk hq;go_wp2_with fail;refine⟨trivial,?_⟩;refine aD ?_;have HX:=V HX.out.drew;have HR:=V HR.out.drew;have HK:=V HK.out.drew;obtain⟨v,v',hb,hv,hc,hk,-⟩:=HS.out.drew;have LN:ea 186 4 yp w5.drew w1.heap.size v' (cs++[t]):=by
   have Na:=hc;rw [show((eU.gb ⟨ej,cs++[t],bad⟩ (gF t.kind)).need false).eT=cs++[t]from by rw [eU.ni,eU.iD]]at Na;exact Na
  obtain⟨g2,Lu,rfl,hcap2,hcm2,hg3,hg4,Od⟩:=BQ.of hb rfl LN;have Ru:w5.drew.cell? ⟨C,16,none⟩=some (.slice (some ⟨g2,0,none⟩) (cs.length+1) Lu):=Od.1;have hgg:g2 < w.heap.size:=by
   have h1:w5.cell? ⟨C,16,none⟩=some (.slice (some ⟨g2,0,none⟩) (cs.length+1) Lu):=Od.1;have h2:=HQ.out;rw [h1,C16.out]at h2;injection h2 with h2;injection h2 with h2;injection h2 with h2;injection h2 with h2;omega
  have z16:=hb.free 16;have MU:=qv (some ⟨g2,0,none⟩) (cs.length+1) Lu cs.length (by omega);have LG:=V hb;have QO:=V hv;have HCC:=V LN;have Qa:=V hk;clear hb hv hc LN hk Od;go_wp2_with fail;refine eX (fun w'=>w'.cell? ⟨C,16,none⟩=some (.slice (some ⟨g2,0,none⟩) (cs.length+1) Lu)) 14 (up 0 14 []) (by kernel_rfl) (by kernel_rfl) Ru ?_;iterate 14 (first | (apply sk rfl rfl;simp only [pt]) | (apply ef rfl rfl rfl;·(rintro w' t0;go_wp2;exact⟨rfl,rfl,rfl⟩)))
  refine fP rfl rfl ?_;generalize w5.drew=w7 at HX HR HK LG QO HCC Qa Ru z16 hg4⊢;go_wp2_with fail;have Lt:=eC w7 C 16 (.slice (some ⟨g2,0,none⟩) cs.length Lu);have hT:=ea.take jZ HCC.out cs.length (by simp);rw [dF rfl]at hT;have HT:=V (hT.keeps Lt (fun i hi h=>by have:=(eE hT hi).1;omega));have QO:=V (QO.out.keeps Lt (fun i hi h=>by have:=(eE QO.out hi).1;omega));have LG:=V (show eP _ C (tm u m lv v (.slice (some ⟨g2,0,none⟩) cs.length Lu) ((eU.gb ⟨ej,cs++[t],bad⟩ (gF t.kind)).need false).bad) 181 from LG.out.set 16 (.slice (some ⟨g2,0,none⟩) cs.length Lu));have Qa:=V (Qa.out.trans Lt (fun _ h=> .inl h));have HX:=V (HX.out.keeps Lt (by omega));have HR:=V (HR.out.keeps Lt (by omega));have HK:=V (HK.out.trans Lt (fun _ h=> .inl h));refine⟨trivial,?_⟩;refine aD ?_;clear Lt hT Ru z16 MU;generalize w7.setCell ⟨C,16,none⟩ (.slice (some ⟨g2,0,none⟩) cs.length Lu)=w8 at HX HR HK HT QO LG Qa⊢;obtain⟨⟨x0,x1,x2,x3⟩,-,-,-,-⟩:=HX.out.four;obtain⟨⟨r0,r1,r2,r3⟩,zr0,zr1,zr2,zr3⟩:=HR.out.four;go_wp2_with fail;have hx:=HR.out.sx (.int .i64 t.op) (.int .i64 t.kind) (.int .i64 t.eR) (.bool t.dead);have Lt:=mQ w8 w.heap.size (.int .i64 t.op) (.int .i64 t.kind) (.int .i64 t.eR) (.bool t.dead);refine aN (eG rfl _ _ rfl hx.Ja) rfl ?_;refine⟨rfl,?_,HK.out.trans Lt (fun i hi=> .inr (by omega))⟩;rw [HSH.out,HND.out];exact⟨v,_,LG.out.keeps Lt (by omega),QO.out.keeps Lt (QO.out.gK HR.out (by decide)),HT.out.keeps Lt (fun i hi h=>absurd (show g2=i by simpa [eH,Value.ownBlock] using hi) (by omega)),Qa.out.trans Lt (fun i hi=> .inr (by omega)),hC⟩
def IM (w1:World) (C:Nat) (u:eL) (m:eI) (lv:Value) (c:eU) (w:World) (e:Ending) (w':World):Prop:=e= .returned (EW c.top)/\gA w1 C u m lv w' c.shut.2/\ee (fun i=>i=C) w w'
theorem uG (w1:World) (C:Nat) (u:eL) (m:eI) (lv:Value) (w:World) (c:eU) (h:gA w1 C u m lv w c) (Ly:ia c):
  Calls prog 106 #[.pointer (some ⟨C,0,none⟩)] w (IM w1 C u m lv c w):=Di w1 C u m lv w c h Ly
def pJ (w1:World) (C:Nat) (u:eL) (m:eI) (lv:Value) (ls:List Int):Prop:=eD (rW C w1) u m/\ew 1 fp (rW C w1) lv ls
theorem gA.ext {w1 w:World} {C:Nat} {u:eL} {m:eI} {lv:Value} {c:eU} (h:gA w1 C u m lv w c):Ext (rW C w1) (rW C w):=pX h.old
theorem gA.ext' {w1 w:World} {C:Nat} {u:eL} {m:eI} {lv:Value} {c:eU} (h:gA w1 C u m lv w c):Ext (rW C w1) w:=tk h.old
theorem gA.cell {w1 w:World} {C:Nat} {u:eL} {m:eI} {lv:Value} {c:eU} (h:gA w1 C u m lv w c):w.cell? ⟨C,0,none⟩=some u.types/\w.cell? ⟨C,1,none⟩=some u.imports/\w.cell? ⟨C,2,none⟩=some u.funcs/\w.cell? ⟨C,3,none⟩=some (.bool m.table.has)/\w.cell? ⟨C,6,none⟩=some (.bool m.mem.has)/\w.cell? ⟨C,9,none⟩=some u.globals/\w.cell? ⟨C,14,none⟩=some lv/\w.cell? ⟨C,17,none⟩=some (.bool c.bad)/\w.frozen? ⟨C,17,none⟩=false:=by
 obtain⟨v,v',hb,-,-,-,-⟩:=h;exact⟨hb.cell 0,hb.cell 1,hb.cell 2,hb.cell 3,hb.cell 6,hb.cell 9,hb.cell 14,hb.cell 17,hb.free 17⟩
theorem gA.fail {w1 w:World} {C:Nat} {u:eL} {m:eI} {lv:Value} {c:eU} (h:gA w1 C u m lv w c):gA w1 C u m lv (w.setCell ⟨C,17,none⟩ (.bool true)) {c with bad:=true}:=by
 obtain⟨v,v',hb,hv,hc,hk,hC⟩:=h;have Lt:=eC w C 17 (.bool true);exact⟨v,v',hb.set 17 _,hv.keeps Lt (fun i hi h=>by have:=(eE hv hi).1;omega),hc.keeps Lt (fun i hi h=>by have:=(eE hc hi).1;omega),hk.trans Lt (fun _ h=> .inl h),hC⟩
def Jh (w1:World) (C:Nat) (t:gN × Bool) (w:World) (e:Ending) (w':World):Prop:=
 ∃v1 v2,e= .returned (.tuple #[.agg #[v1,v2], .bool t.2])/\ew 1 fp (rW C w1) v1 t.1.params/\ew 1 fp (rW C w1) v2 t.1.results/\Below w.heap.size w w'
theorem ot (w1:World) (C:Nat) (u:eL) (m:eI) (lv:Value) (ls:List Int) (w:World) (c:eU) (t:Int) (h:gA w1 C u m lv w c) (hr:pJ w1 C u m lv ls):
  Calls prog 102 #[.pointer (some ⟨C,0,none⟩), .int .i64 t] w (Jh w1 C (typeOf m t) w):=by
 have HX:=V (eP.new w #[.slice none 0 0, .slice none 0 0] 109);have HB:=V ((an w.heap.size w).alloc (ag _) (.cells #[.slice none 0 0, .slice none 0 0] 109));have Lw:=h.lt;have H:=V (h.alloc (.cells #[.slice none 0 0, .slice none 0 0] 109));obtain⟨a0,c0,a1,c1,a2,c2,a3,c3,a4,c4,a5,c5,a6,c6,a7,c7,rfl⟩:=eD.open hr.1;have g0:=H.out.cell.1;obtain⟨x0,x1,z0,z1⟩:=HX.out.two;clear h;by_cases q1:t < 0
 ·have f1:decide (t < 0)=true:=aA q1
  have HT:Hid (typeOf m t=(⟨[],[]⟩,false)):=V (by unfold typeOf;rw [if_pos (.inl q1)]);clear q1;go_enter func102,ntmps102;go_wp2_with fail;refine aN (fu rfl _ _ rfl HX.out.ln) rfl ?_;rw [HT.out];exact⟨_,_,rfl,ew.nil _,ew.nil _,HB.out⟩
 obtain⟨k,rfl⟩:∃k:Nat,t=k:=⟨t.toNat,by omega⟩;have f1:decide ((k:Int) < 0)=false:=aq q1;by_cases q2:m.types.length <=k
 ·have f2:decide ((m.types.length:Int) <=(k:Int))=true:=aA (by omega)
  have f3:decide (m.types.length <=k)=true:=aA q2;have HT:Hid (typeOf m k=(⟨[],[]⟩,false)):=V (by unfold typeOf;rw [if_pos (.inr (by omega))]);clear q1 q2;go_enter func102,ntmps102;go_wp2_with fail;refine aN (fu rfl _ _ rfl HX.out.ln) rfl ?_;rw [HT.out];exact⟨_,_,rfl,ew.nil _,ew.nil _,HB.out⟩
 ·have f2:decide ((m.types.length:Int) <=(k:Int))=false:=aq (by omega)
  have f3:decide (m.types.length <=k)=false:=aq q2;have hk:k < m.types.length:=by omega
  obtain⟨e,he⟩:∃e,m.types[k]?=some e:=⟨_,aw hk⟩;have HT:Hid (typeOf m k=(e,true)):=V (by unfold typeOf;rw [if_neg (by omega),Int.toNat_natCast,he];rfl);obtain⟨b,off,v,rfl,-,LN,Mh⟩:=et.get hr.1.1 he;have y0:=H.out.ext'.1 _ _ (LN 0 _ rfl);have y1:=H.out.ext'.1 _ _ (LN 1 _ rfl);rw [aK]at y0;obtain⟨v1,v2⟩:=v;obtain⟨⟨b1,k1,e1,-,-,-⟩,⟨b2,k2,e2,-,-,-⟩⟩:=id Mh.1;simp only at e1 e2;subst e1 e2;have LW:=V Mh;clear q1 q2 LN Mh he;go_enter func102,ntmps102;go_wp2_with fail;have hx:=eP.new w #[.slice b1 e.params.length k1, .slice b2 e.results.length k2] 109;have Lr:=(an w.heap.size w).alloc (ag _) (.cells #[.slice b1 e.params.length k1, .slice b2 e.results.length k2] 109);refine aN (fu rfl _ _ rfl hx.ln) rfl ?_;rw [HT.out];exact⟨_,_,rfl,LW.out.1.1,LW.out.1.2,Lr⟩
theorem vU (w1:World) (C:Nat) (u:eL) (m:eI) (lv:Value) (ls:List Int) (w:World) (c:eU) (f:Nat) (hf:f <=100000) (h:gA w1 C u m lv w c) (hr:pJ w1 C u m lv ls):
  Calls prog 203 #[.pointer (some ⟨C,0,none⟩), .int .i64 f] w (Jh w1 C (gM m f) w):=by
 have HX:=V (eP.new w #[.slice none 0 0, .slice none 0 0] 109);have HB:=V ((an w.heap.size w).alloc (ag _) (.cells #[.slice none 0 0, .slice none 0 0] 109));have H:=V (h.alloc (.cells #[.slice none 0 0, .slice none 0 0] 109));obtain⟨a0,c0,a1,c1,a2,c2,a3,c3,a4,c4,a5,c5,a6,c6,a7,c7,rfl⟩:=eD.open hr.1;have HR:=V hr;have g1:=H.out.cell.2.1;have g2:=H.out.cell.2.2.1;have hil:m.imports.length <=9223372036854775807:=by
  obtain⟨_,_,_,h1,h2⟩:=fg hr.1.2.1;omega
 have hfl:m.funcs.length <=9223372036854775807:=by
  obtain⟨_,_,_,h1,h2⟩:=fg hr.1.2.2.1;omega
 have Lw:=h.lt;clear h;by_cases q1:f < m.imports.length
 ·have f1:decide ((f:Int) < (m.imports.length:Int))=true:=aA (by omega)
  have f2:decide (f < m.imports.length)=true:=aA q1;obtain⟨e,he⟩:∃e,m.imports[f]?=some e:=⟨_,aw q1⟩;have HF:Hid (gM m f=typeOf m e.type):=V (by unfold gM;rw [if_pos (by omega),Int.toNat_natCast,he];rfl);obtain⟨_,_,hv,_,_,Ln⟩:=hr.1.2.1;injection hv with e1 e2 e3;subst e1;obtain⟨b,off,rfl,-,LN⟩:=Ln f e he;have y2:=H.out.ext'.1 _ _ (LN 2 _ rfl);clear e2 e3 Ln LN he hr;go_enter func203,ntmps203;go_wp2_with fail;refine(ot w1 C _ m lv ls _ c e.type H.out HR.out).mono ?_;rintro e' w2 ⟨v1,v2,rfl,OJ,M4,hb⟩;obtain⟨b1,k1,rfl,-,-,-⟩:=id OJ;obtain⟨b2,k2,rfl,-,-,-⟩:=id M4;have HV1:=V OJ;have OD:=V M4;have HX:=V (HX.out.below hb HX.out.lt);have HB:=V (HB.out.trans (hb.mono HB.out.size));clear OJ M4 hb;obtain⟨x0,x1,z0,z1⟩:=HX.out.two;go_wp2_with fail;have hx:=HX.out.nx (.slice b1 (typeOf m e.type).1.params.length k1) (.slice b2 (typeOf m e.type).1.results.length k2);have Lt:=fN w2 w.heap.size (.slice b1 (typeOf m e.type).1.params.length k1) (.slice b2 (typeOf m e.type).1.results.length k2);refine aN (fu rfl _ _ rfl hx.ln) rfl ?_;rw [HF.out];exact⟨_,_,rfl,HV1.out,OD.out,HB.out.trans (Lt.below HB.out.size (fun i hi=>by omega))⟩
 ·have f1:decide ((f:Int) < (m.imports.length:Int))=false:=aq (by omega)
  have f2:decide (f < m.imports.length)=false:=aq q1;obtain⟨k,hk⟩:∃k,f - m.imports.length=k:=⟨_,rfl⟩;have f5:(f:Int) - (m.imports.length:Int)=(k:Int):=by omega
  have Lv:k <=100000:=by omega
  by_cases q2:k < m.funcs.length
  ·have f3:decide ((k:Int) < (m.funcs.length:Int))=true:=aA (by omega)
   have f4:decide (k < m.funcs.length)=true:=aA q2;obtain⟨e,he⟩:∃e,m.funcs[k]?=some e:=⟨_,aw q2⟩;have HF:Hid (gM m f=typeOf m e):=V (by
    unfold gM;rw [aC (by omega),aJ (by omega),show((f:Int) - (m.imports.length:Int)).toNat=k by omega,he];rfl)
   obtain⟨_,_,hv,_,_,Ln⟩:=hr.1.2.2.1;injection hv with e1 e2 e3;subst e1;obtain⟨b,off,rfl,-,LN⟩:=Ln k e he;have y0:=H.out.ext'.1 _ _ (LN 0 _ rfl);rw [aK,bq]at y0;clear e2 e3 Ln LN he hr hk;go_enter func203,ntmps203;go_wp2_with fail;refine(ot w1 C _ m lv ls _ c e H.out HR.out).mono ?_;rintro e' w2 ⟨v1,v2,rfl,OJ,M4,hb⟩;obtain⟨b1,k1,rfl,-,-,-⟩:=id OJ;obtain⟨b2,k2,rfl,-,-,-⟩:=id M4;have HV1:=V OJ;have OD:=V M4;have HX:=V (HX.out.below hb HX.out.lt);have HB:=V (HB.out.trans (hb.mono HB.out.size));clear OJ M4 hb;obtain⟨x0,x1,z0,z1⟩:=HX.out.two;go_wp2_with fail;have hx:=HX.out.nx (.slice b1 (typeOf m e).1.params.length k1) (.slice b2 (typeOf m e).1.results.length k2);have Lt:=fN w2 w.heap.size (.slice b1 (typeOf m e).1.params.length k1) (.slice b2 (typeOf m e).1.results.length k2);refine aN (fu rfl _ _ rfl hx.ln) rfl ?_;rw [HF.out];exact⟨_,_,rfl,HV1.out,OD.out,HB.out.trans (Lt.below HB.out.size (fun i hi=>by omega))⟩
  ·have f3:decide ((k:Int) < (m.funcs.length:Int))=false:=aq (by omega)
   have f4:decide (k < m.funcs.length)=false:=aq q2;have HF:Hid (gM m f=typeOf m (-1)):=V (by
    unfold gM;rw [aC (by omega),aC (by omega)])
   clear hr hk;go_enter func203,ntmps203;go_wp2_with fail;refine(ot w1 C _ m lv ls _ c (-1) H.out HR.out).mono ?_;rintro e' w2 ⟨v1,v2,rfl,OJ,M4,hb⟩;obtain⟨b1,k1,rfl,-,-,-⟩:=id OJ;obtain⟨b2,k2,rfl,-,-,-⟩:=id M4;have HV1:=V OJ;have OD:=V M4;have HX:=V (HX.out.below hb HX.out.lt);have HB:=V (HB.out.trans (hb.mono HB.out.size));clear OJ M4 hb;obtain⟨x0,x1,z0,z1⟩:=HX.out.two;go_wp2_with fail;have hx:=HX.out.nx (.slice b1 (typeOf m (-1)).1.params.length k1) (.slice b2 (typeOf m (-1)).1.results.length k2);have Lt:=fN w2 w.heap.size (.slice b1 (typeOf m (-1)).1.params.length k1) (.slice b2 (typeOf m (-1)).1.results.length k2);refine aN (fu rfl _ _ rfl hx.ln) rfl ?_;rw [HF.out];exact⟨_,_,rfl,HV1.out,OD.out,HB.out.trans (Lt.below HB.out.size (fun i hi=>by omega))⟩
theorem Dt (w1:World) (C:Nat) (u:eL) (m:eI) (lv:Value) (ls:List Int) (w:World) (c:eU) (n:Nat) (h:gA w1 C u m lv w c) (hr:pJ w1 C u m lv ls):
  Calls prog 204 #[.pointer (some ⟨C,0,none⟩), .int .i64 n] w (CW w1 C u m lv (.int .i64 (eU.local ls c n).1) (eU.local ls c n).2 w):=by
 have H:=V h;obtain⟨a,cap,rfl,M9,Mj,Ln⟩:=id hr.2;have g14:=h.cell.2.2.2.2.2.2.1;have g17:=h.cell.2.2.2.2.2.2.2.1;have z17:=h.cell.2.2.2.2.2.2.2.2;by_cases q:n < ls.length
 ·have f1:decide ((ls.length:Int) <=(n:Int))=false:=aq (by omega)
  have f2:decide (ls.length <=n)=false:=aq (by omega);obtain⟨x,hx⟩:∃x,ls[n]?=some x:=⟨_,aw q⟩;have HL:Hid (eU.local ls c n=(x,c)):=V (by unfold eU.local;rw [if_neg (by omega),Int.toNat_natCast,hx];rfl);obtain⟨b,off,rfl,-,LN⟩:=Ln n x hx;have y0:=h.ext'.1 _ _ (LN 0 _ rfl);rw [aK,bq]at y0;clear Ln LN hx h hr;go_enter func204,ntmps204;go_wp2_with fail;go_ret;rw [HL.out];exact⟨rfl,H.out,ee.refl _ _,rfl⟩
 ·have f1:decide ((ls.length:Int) <=(n:Int))=true:=aA (by omega)
  have f2:decide (ls.length <=n)=true:=aA (by omega);have HL:Hid (eU.local ls c n=(0,{c with bad:=true})):=V (by unfold eU.local;rw [if_pos (by omega)]);clear Ln h hr q;go_enter func204,ntmps204;go_wp2_with fail;go_ret;rw [HL.out];exact⟨rfl,H.out.fail,eC w C 17 _,cB _ _ _ _ (by simp)⟩
theorem Dd (w1:World) (C:Nat) (u:eL) (m:eI) (lv:Value) (w:World) (c:eU) (t:gN) (ok:Bool) (v1 v2:Value) (h:gA w1 C u m lv w c) (Ly:ia c) (h1:ew 1 fp (rW C w1) v1 t.params) (h2:ew 1 fp (rW C w1) v2 t.results)
  (hp:t.params.length <=1000000) (hn:((c.need ok).gb t.params).ej.length+t.results.length <=100000):
  Calls prog 202 #[.pointer (some ⟨C,0,none⟩), .agg #[v1,v2], .bool ok] w (nP w1 C u m lv (.tuple #[]) (c.calls (t,ok))):=by
 obtain⟨a1,k1,rfl,-,-,-⟩:=id h1;obtain⟨a2,k2,rfl,-,-,-⟩:=id h2;have hb:=(an w.heap.size w).alloc (ag _) (.cells #[.slice a1 t.params.length k1, .slice a2 t.results.length k2] 109);have Lw:=h.lt;have H:=V (h.below hb);have HX:=V (eP.new w #[.slice a1 t.params.length k1, .slice a2 t.results.length k2] 109);have H1:=V h1;have H2:=V h2;have ME:=V (show ia (c.need ok)from⟨⟨Ly.1.1,Ly.1.2⟩,Ly.2⟩);clear h h1 h2 Ly hb;go_enter func202,ntmps202;go_wp2_with fail;refine(jW w1 C u m lv _ c ok H.out).mono ?_;rintro e w2 ⟨rfl,hs,hk,-⟩;have HS:=V hs;have HX:=V (HX.out.keeps hk (by omega));clear hs hk;have x0:=HX.out.cell 0;simp only [aI,aG]at x0;go_wp2_with fail;refine(oT w1 C u m lv w2 _ _ t.params HS.out ME.out (H1.out.ext HS.out.ext) hp).mono ?_;rintro e w3 ⟨rfl,hs,hk,-⟩;have HS:=V hs;have HX:=V (HX.out.keeps hk (by omega));clear hs hk x0;have x1:=HX.out.cell 1;simp only [aI,aG,aU]at x1;go_wp2_with fail;refine(mj w1 C u m lv w3 _ _ t.results HS.out (H2.out.ext HS.out.ext) hn).mono ?_;rintro e w4 ⟨rfl,hs⟩;have HS:=V hs;clear hs x1;go_wp2_with fail
 go_end0
 exact⟨rfl,HS.out⟩
def qQ (w1:World) (C:Nat) (u:eL) (m:eI) (lv:Value) (x:eS) (c:eU) (w:World) (e:Ending) (w':World):Prop:=
 (∃c',c.control m x=some c'/\e= .returned (.bool true)/\gA w1 C u m lv w' c')\/(c.control m x=none/\e= .returned (.bool false)/\gA w1 C u m lv w' c/\ee (fun i=>i=C) w w')
def eI.short (m:eI):Prop:=∀t∈m.types,t.params.length <=1000/\t.results.length <=10
theorem rD {m:eI} (h:m.short) (t:Int):(typeOf m t).1.params.length <=1000/\(typeOf m t).1.results.length <=10:=by
 unfold typeOf;split
 ·simp
 ·simp only
  cases hx:m.types[t.toNat]? with
  | none=>simp
  | some x=>exact h x (aO hx)
theorem nX {m:eI} (h:m.short) (f:Int):(gM m f).1.params.length <=1000/\(gM m f).1.results.length <=10:=rD h _
theorem oU (k:Int):(gF k).length <=1:=by unfold gF;split <;>simp
theorem K3 (w1:World) (C:Nat) (u:eL) (m:eI) (lv:Value) (ls:List Int) (w:World) (c:eU) (a b:Int) (al:Option Addr) (nl cl:Nat) (l:List Int) (h:gA w1 C u m lv w c) (Ly:ia c) (hr:pJ w1 C u m lv ls) (OF:m.short) (hv:c.ej.length <=50000) (hc:c.eT.length <=50000):
  Calls prog 104 #[.pointer (some ⟨C,0,none⟩), .agg #[.int .i64 0, .int .i64 a, .int .i64 b, .slice al nl cl]] w (qQ w1 C u m lv ⟨0,a,b,l⟩ c w):=by
 have hu:=And.intro hr (And.intro OF (And.intro hv hc));clear hu;have hb:=(an w.heap.size w).alloc (ag _) (.cells #[.int .i64 0, .int .i64 a, .int .i64 b, .slice al nl cl] 27);have Lw:=h.lt;have HS:=V (h.below hb);have HX:=V (eP.new w #[.int .i64 0, .int .i64 a, .int .i64 b, .slice al nl cl] 27);have HK:=V (ee.eh (S:=fun i=>i=C) hb);have ME:=V Ly;have y0:=HX.out.cell 0;have y1:=HX.out.cell 1;simp only [aI,aG,aU]at y0 y1;clear h hb Ly;go_enter func104,ntmps104;go_wp2_with fail;refine(Aw w1 C u m lv _ _ HS.out ME.out).mono ?_;rintro e w9 ⟨rfl,hs⟩;have HS:=V hs;clear hs;go_wp2_with fail;go_ret;exact .inl ⟨_,rfl,rfl,HS.out⟩
theorem KL (w1:World) (C:Nat) (u:eL) (m:eI) (lv:Value) (ls:List Int) (w:World) (c:eU) (a b:Int) (al:Option Addr) (nl cl:Nat) (l:List Int) (h:gA w1 C u m lv w c) (Ly:ia c) (hr:pJ w1 C u m lv ls) (OF:m.short) (hv:c.ej.length <=50000) (hc:c.eT.length <=50000):
  Calls prog 104 #[.pointer (some ⟨C,0,none⟩), .agg #[.int .i64 2, .int .i64 a, .int .i64 b, .slice al nl cl]] w (qQ w1 C u m lv ⟨2,a,b,l⟩ c w):=by
 have hu:=And.intro hr (And.intro OF (And.intro hv hc));clear hu;have hb:=(an w.heap.size w).alloc (ag _) (.cells #[.int .i64 2, .int .i64 a, .int .i64 b, .slice al nl cl] 27);have Lw:=h.lt;have HS:=V (h.below hb);have HX:=V (eP.new w #[.int .i64 2, .int .i64 a, .int .i64 b, .slice al nl cl] 27);have HK:=V (ee.eh (S:=fun i=>i=C) hb);have ME:=V Ly;have y0:=HX.out.cell 0;have y1:=HX.out.cell 1;simp only [aI,aG,aU]at y0 y1;clear h hb Ly;go_enter func104,ntmps104;go_wp2_with fail;refine(uL w1 C u m lv _ c 2 a HS.out (by omega)).mono ?_;rintro e w9 ⟨rfl,hs⟩;have HS:=V hs;clear hs y0 y1;go_wp2_with fail;go_ret;exact .inl ⟨_,rfl,rfl,HS.out⟩
theorem J8 (w1:World) (C:Nat) (u:eL) (m:eI) (lv:Value) (ls:List Int) (w:World) (c:eU) (a b:Int) (al:Option Addr) (nl cl:Nat) (l:List Int) (h:gA w1 C u m lv w c) (Ly:ia c) (hr:pJ w1 C u m lv ls) (OF:m.short) (hv:c.ej.length <=50000) (hc:c.eT.length <=50000):
  Calls prog 104 #[.pointer (some ⟨C,0,none⟩), .agg #[.int .i64 11, .int .i64 a, .int .i64 b, .slice al nl cl]] w (qQ w1 C u m lv ⟨11,a,b,l⟩ c w):=by
 have hu:=And.intro hr (And.intro OF (And.intro hv hc));clear hu;have hb:=(an w.heap.size w).alloc (ag _) (.cells #[.int .i64 11, .int .i64 a, .int .i64 b, .slice al nl cl] 27);have Lw:=h.lt;have HS:=V (h.below hb);have HX:=V (eP.new w #[.int .i64 11, .int .i64 a, .int .i64 b, .slice al nl cl] 27);have HK:=V (ee.eh (S:=fun i=>i=C) hb);have ME:=V Ly;have y0:=HX.out.cell 0;have y1:=HX.out.cell 1;simp only [aI,aG,aU]at y0 y1;clear h hb Ly;go_enter func104,ntmps104;go_wp2_with fail;refine(uG w1 C u m lv _ c HS.out ME.out).mono ?_;rintro e w2 ⟨rfl,hs,hk⟩;unfold EW;have hb:=(an w2.heap.size w2).alloc (ag _) (.cells #[.int .i64 c.top.op, .int .i64 c.top.kind, .int .i64 c.top.eR, .bool c.top.dead] 186);have HS:=V (hs.below hb);have HT:=V (eP.new w2 #[.int .i64 c.top.op, .int .i64 c.top.kind, .int .i64 c.top.eR, .bool c.top.dead] 186);have hl2:=hs.lt;clear hs hk y0 y1 hb;obtain⟨⟨t0,t1,t2,t3⟩,-,-,-,-⟩:=HT.out.four;clear t2 t3;by_cases q1:c.top.op=4
 ·have f1:(c.top.op !=4)=false:=by simp [q1]
  by_cases q2:c.top.kind=0
  ·have f2:=eQ q2
   have HQ:=V (show(c.top.op !=4 || c.top.kind==0)=true by rw [f1,f2];rfl);clear q1 q2;go_wp2_with fail;refine(jW w1 C u m lv _ c.shut.2 true HS.out).mono ?_;rintro e w3 ⟨rfl,hs,hk,-⟩;have HS:=V hs;have HT:=V (HT.out.keeps hk (by omega));clear hs hk t0 t1;have t1:=HT.out.cell 1;simp only [aI,aG,aU]at t1;go_wp2_with fail;refine(mS c.top.kind w3 C HS.out.lt.1).mono ?_;rintro e w4 ⟨kv,rfl,hl,hb⟩;have HL:=V hl;have HS:=V (HS.out.below hb);clear hl hb t1;have Pa:=oU c.top.kind;have Oo:=rv c;go_wp2_with fail;refine(mj w1 C u m lv w4 _ _ _ HS.out HL.out (by show c.shut.2.ej.length+_ <=_;omega)).mono ?_;rintro e w5 ⟨rfl,hs⟩;have HS:=V hs;clear hs;go_wp2_with fail;go_ret;refine .inl ⟨_,rfl,rfl,?_⟩;show gA w1 C u m lv w5 ((c.shut.2.need (c.top.op !=4 || c.top.kind==0)).push (gF c.top.kind));rw [HQ.out];exact HS.out
  ·have f2:=ed q2
   have HQ:=V (show(c.top.op !=4 || c.top.kind==0)=false by rw [f1,f2];rfl);clear q1 q2;go_wp2_with fail;refine(jW w1 C u m lv _ c.shut.2 false HS.out).mono ?_;rintro e w3 ⟨rfl,hs,hk,-⟩;have HS:=V hs;have HT:=V (HT.out.keeps hk (by omega));clear hs hk t0 t1;have t1:=HT.out.cell 1;simp only [aI,aG,aU]at t1;go_wp2_with fail;refine(mS c.top.kind w3 C HS.out.lt.1).mono ?_;rintro e w4 ⟨kv,rfl,hl,hb⟩;have HL:=V hl;have HS:=V (HS.out.below hb);clear hl hb t1;have Pa:=oU c.top.kind;have Oo:=rv c;go_wp2_with fail;refine(mj w1 C u m lv w4 _ _ _ HS.out HL.out (by show c.shut.2.ej.length+_ <=_;omega)).mono ?_;rintro e w5 ⟨rfl,hs⟩;have HS:=V hs;clear hs;go_wp2_with fail;go_ret;refine .inl ⟨_,rfl,rfl,?_⟩;show gA w1 C u m lv w5 ((c.shut.2.need (c.top.op !=4 || c.top.kind==0)).push (gF c.top.kind));rw [HQ.out];exact HS.out
 ·have f1:(c.top.op !=4)=true:=by simp [q1]
  have HQ:=V (show(c.top.op !=4 || c.top.kind==0)=true by rw [f1];rfl);clear q1;go_wp2_with fail;refine(jW w1 C u m lv _ c.shut.2 true HS.out).mono ?_;rintro e w3 ⟨rfl,hs,hk,-⟩;have HS:=V hs;have HT:=V (HT.out.keeps hk (by omega));clear hs hk t0 t1;have t1:=HT.out.cell 1;simp only [aI,aG,aU]at t1;go_wp2_with fail;refine(mS c.top.kind w3 C HS.out.lt.1).mono ?_;rintro e w4 ⟨kv,rfl,hl,hb⟩;have HL:=V hl;have HS:=V (HS.out.below hb);clear hl hb t1;have Pa:=oU c.top.kind;have Oo:=rv c;go_wp2_with fail;refine(mj w1 C u m lv w4 _ _ _ HS.out HL.out (by show c.shut.2.ej.length+_ <=_;omega)).mono ?_;rintro e w5 ⟨rfl,hs⟩;have HS:=V hs;clear hs;go_wp2_with fail;go_ret;refine .inl ⟨_,rfl,rfl,?_⟩;show gA w1 C u m lv w5 ((c.shut.2.need (c.top.op !=4 || c.top.kind==0)).push (gF c.top.kind));rw [HQ.out];exact HS.out
theorem Kd (w1:World) (C:Nat) (u:eL) (m:eI) (lv:Value) (ls:List Int) (w:World) (c:eU) (a b:Int) (al:Option Addr) (nl cl:Nat) (l:List Int) (h:gA w1 C u m lv w c) (Ly:ia c) (hr:pJ w1 C u m lv ls) (OF:m.short) (hv:c.ej.length <=50000) (hc:c.eT.length <=50000) (ha:0 <=a/\a <=1000):
  Calls prog 104 #[.pointer (some ⟨C,0,none⟩), .agg #[.int .i64 12, .int .i64 a, .int .i64 b, .slice al nl cl]] w (qQ w1 C u m lv ⟨12,a,b,l⟩ c w):=by
 obtain⟨k,rfl⟩:∃k:Nat,a=k:=⟨a.toNat,by omega⟩;have hu:=And.intro hr (And.intro OF (And.intro hv hc));clear hu;have hb:=(an w.heap.size w).alloc (ag _) (.cells #[.int .i64 12, .int .i64 k, .int .i64 b, .slice al nl cl] 27);have Lw:=h.lt;have HS:=V (h.below hb);have HX:=V (eP.new w #[.int .i64 12, .int .i64 k, .int .i64 b, .slice al nl cl] 27);have HK:=V (ee.eh (S:=fun i=>i=C) hb);have ME:=V Ly;have y0:=HX.out.cell 0;have y1:=HX.out.cell 1;simp only [aI,aG,aU]at y0 y1;clear h hb Ly;go_enter func104,ntmps104;go_wp2_with fail;refine(D0 w1 C u m lv _ _ k HS.out).mono ?_;rintro e w2 ⟨kv,rfl,hl,hs,hk⟩;have HS:=V hs;have HL:=V hl;have HX:=V (HX.out.keeps hk (by omega));clear hs hk y0 y1 hl;have hok2:ia (c.label k).2:=ME.out.label _;have Pa:=DB c k;go_wp2_with fail;refine(oT w1 C u m lv w2 _ kv _ HS.out hok2 HL.out (by omega)).mono ?_;rintro e w3 ⟨rfl,hs,hk,-⟩;have HS:=V hs;clear hs hk;go_wp2_with fail;refine(Aw w1 C u m lv _ _ HS.out (hok2.gb _)).mono ?_;rintro e w9 ⟨rfl,hs⟩;have HS:=V hs;clear hs;go_wp2_with fail;go_ret;exact .inl ⟨_,rfl,rfl,HS.out⟩
theorem Kb (w1:World) (C:Nat) (u:eL) (m:eI) (lv:Value) (ls:List Int) (w:World) (c:eU) (a b:Int) (al:Option Addr) (nl cl:Nat) (l:List Int) (h:gA w1 C u m lv w c) (Ly:ia c) (hr:pJ w1 C u m lv ls) (OF:m.short) (hv:c.ej.length <=50000) (hc:c.eT.length <=50000) (ha:0 <=a/\a <=1000):
  Calls prog 104 #[.pointer (some ⟨C,0,none⟩), .agg #[.int .i64 16, .int .i64 a, .int .i64 b, .slice al nl cl]] w (qQ w1 C u m lv ⟨16,a,b,l⟩ c w):=by
 obtain⟨k,rfl⟩:∃k:Nat,a=k:=⟨a.toNat,by omega⟩;have hu:=And.intro hr (And.intro OF (And.intro hv hc));clear hu;have hb:=(an w.heap.size w).alloc (ag _) (.cells #[.int .i64 16, .int .i64 k, .int .i64 b, .slice al nl cl] 27);have Lw:=h.lt;have HS:=V (h.below hb);have HX:=V (eP.new w #[.int .i64 16, .int .i64 k, .int .i64 b, .slice al nl cl] 27);have HK:=V (ee.eh (S:=fun i=>i=C) hb);have ME:=V Ly;have y0:=HX.out.cell 0;have y1:=HX.out.cell 1;simp only [aI,aG,aU]at y0 y1;clear h hb Ly;go_enter func104,ntmps104;go_wp2_with fail;refine(vU w1 C u m lv ls _ c k (by omega) HS.out hr).mono ?_;rintro e w2 ⟨v1,v2,rfl,OJ,M4,hb⟩;have HS:=V (HS.out.below hb);have HV1:=V OJ;have OD:=V M4;clear hb OJ M4 y0 y1;have hsh:=nX OF (k:Int);have Oo:((c.need (gM m k).2).gb (gM m k).1.params).ej.length <=50000:=aW (eU.lJ _ _) hv;go_wp2_with fail;refine(Dd w1 C u m lv w2 c (gM m k).1 (gM m k).2 _ _ HS.out ME.out HV1.out OD.out (by omega) (by omega)).mono ?_;rintro e w3 ⟨rfl,hs⟩;have HS:=V hs;clear hs;go_wp2_with fail;go_ret;exact .inl ⟨_,rfl,rfl,HS.out⟩
theorem KK (w1:World) (C:Nat) (u:eL) (m:eI) (lv:Value) (w:World) (c:eU) (op a b:Int) (al:Option Addr) (nl cl:Nat) (l:List Int) (h:gA w1 C u m lv w c) (NK:¬ (op=0\/op=1\/op=2\/op=3\/op=4\/op=5\/op=11\/op=12\/op=13\/op=14\/op=15\/op=16\/op=17)):
  Calls prog 104 #[.pointer (some ⟨C,0,none⟩), .agg #[.int .i64 op, .int .i64 a, .int .i64 b, .slice al nl cl]] w (qQ w1 C u m lv ⟨op,a,b,l⟩ c w):=by
 have HN:Hid (c.control m ⟨op,a,b,l⟩=none):=V (by
  unfold eU.control;simp only
  repeat (rw [aC (by omega)]))
 have f0:(op==0)=false:=ed (by omega);have f1:(op==1)=false:=ed (by omega);have f2:(op==2)=false:=ed (by omega);have f3:(op==3)=false:=ed (by omega);have f4:(op==4)=false:=ed (by omega);have f5:(op==5)=false:=ed (by omega);have f11:(op==11)=false:=ed (by omega);have f12:(op==12)=false:=ed (by omega);have f13:(op==13)=false:=ed (by omega);have f14:(op==14)=false:=ed (by omega);have f15:(op==15)=false:=ed (by omega);have f16:(op==16)=false:=ed (by omega);have f17:(op==17)=false:=ed (by omega);have hb:=(an w.heap.size w).alloc (ag _) (.cells #[.int .i64 op, .int .i64 a, .int .i64 b, .slice al nl cl] 27);have HS:=V (h.below hb);have HX:=V (eP.new w #[.int .i64 op, .int .i64 a, .int .i64 b, .slice al nl cl] 27);have HK:=V (ee.eh (S:=fun i=>i=C) hb);have y0:=HX.out.cell 0;simp only [aI,aG]at y0;clear h hb NK;go_enter func104,ntmps104;go_wp2_with fail;go_ret;exact .inr ⟨HN.out,rfl,HS.out,HK.out⟩
theorem ew.rd {α:Type} {k:Nat} {enc:α ->List Value} {w:World} {C:Nat} {v:Value} {l:List α} (h:ew k enc w v l) (hv:∀a n cap,v= .slice (some a) n cap ->a.block≠C):ew k enc (rW C w) v l:=by
 obtain⟨a,cap,rfl,h1,h2,h3⟩:=h;refine⟨a,cap,rfl,h1,h2,fun i x hx=>?_⟩;obtain⟨b,off,ha,Lw,hc⟩:=h3 i x hx;have hb:b≠C:=by
  subst ha;exact hv _ _ _ rfl
 refine⟨b,off,ha,by unfold rW;rw [iq];exact Lw,fun j u hu=>?_⟩;rw [<- hc j u hu];exact bg (jE w (by simp [hb]))
theorem lB (w:World) (x:Int) (t:TypeId) {C:Nat} (hC:C < w.heap.size):ew 1 fp (rW C (w.alloc (.cells #[.int .i64 x] t))) (.slice (some ⟨w.heap.size,0,none⟩) 1 1) [x]:=
 (lP w x t).rd (fun a n cap he=>by injection he with e1;injection e1 with e1;subst e1;simp;omega)
theorem zS (w:World) (x y:Int) (t:TypeId) {C:Nat} (hC:C < w.heap.size):ew 1 fp (rW C (w.alloc (.cells #[.int .i64 x, .int .i64 y] t))) (.slice (some ⟨w.heap.size,0,none⟩) 2 2) [x,y]:=
 (pR w x y t).rd (fun a n cap he=>by injection he with e1;injection e1 with e1;subst e1;simp;omega)
def Eb (C:Nat) (op:Int) (w:World) (e:Ending) (w':World):Prop:=
 ∃v,e= .returned (.tuple #[v, .int .i64 (fh op).2.1, .bool (fh op).2.2])/\ew 1 fp (rW C w') v (fh op).1/\Below w.heap.size w w'
theorem qE (op:Int) (w:World) (C:Nat) (hC:C < w.heap.size):Calls prog 86 #[.int .i64 op] w (Eb C op w):=by
 have hb:=an w.heap.size w;have NN:∀w1:World,Below w1.heap.size w1 w1:=fun w1=>an _ _;by_cases q1:op=167
 ·subst q1
  go_enter func86,ntmps86;go_wp2_with fail
  go_ret3
  exact⟨_,rfl,lB w 2 _ hC,hb.alloc (ag _) _⟩
 have f1:(op==167)=false:=ed q1;by_cases q2:op=172
 ·subst q2
  go_enter func86,ntmps86;go_wp2_with fail
  go_ret3
  exact⟨_,rfl,lB w 1 _ hC,hb.alloc (ag _) _⟩
 have f2:(op==172)=false:=ed q2;by_cases q3:op=173
 ·subst q3
  go_enter func86,ntmps86;go_wp2_with fail
  go_ret3
  exact⟨_,rfl,lB w 1 _ hC,hb.alloc (ag _) _⟩
 have f3:(op==173)=false:=ed q3;have HQ:Hid (op≠167/\op≠172/\op≠173):=V ⟨q1,q2,q3⟩;clear q1 q2 q3 NN;go_enter func86,ntmps86;go_wp2_with fail;refine(qN op _).mono ?_;rintro x w1 ⟨rfl,LC⟩;obtain⟨k,hk⟩:∃k,(sO op).1=k:=⟨_,rfl⟩;obtain⟨l,hl⟩:∃l,(sO op).2=l:=⟨_,rfl⟩;rw [hk,hl];have HK:=V hk;have HL:=V hl;replace hb:=ei hb LC;clear hk hl LC f1 f2 f3;by_cases q4:k=0
 ·have f4:(k==0)=true:=eQ q4
  have H4:=V q4;clear q4;go_wp2_with fail
  go_ret3
  have:fh op=([],0,false):=by rw [fh,aC HQ.out.1,aC HQ.out.2.1,aC HQ.out.2.2,HK.out,aJ H4.out]
  exact⟨_,by rw [this];rfl,by rw [this];exact ew.nil _,hb⟩
 have f4:(k==0)=false:=ed q4;have H4:=V (show k≠0 from q4);clear q4;by_cases q5:l=69
 ·have f5:(l==69)=true:=eQ q5
  have H5:=V q5;clear q5;go_wp2_with fail
  go_ret3
  have:fh op=([k],1,true):=by rw [fh,aC HQ.out.1,aC HQ.out.2.1,aC HQ.out.2.2,HK.out,HL.out,aC H4.out,aJ H5.out]
  exact⟨_,by rw [this];rfl,by rw [this];exact lB _ k _ (by have:=hb.size;omega),hb.alloc hb.size _⟩
 have f5:(l==69)=false:=ed q5;have H5:=V (show l≠69 from q5);clear q5;go_wp2_with fail;refine(ja l 70 79 _).mono ?_;rintro x w2 ⟨rfl,LP⟩;replace hb:=ei hb LP;clear LP f4 f5;cases h6:ml l 70 79 with
 | true=>
  have H6:=V h6;clear h6;go_wp2_with fail
  go_ret3
  have:fh op=([k,k],1,true):=by rw [fh,aC HQ.out.1,aC HQ.out.2.1,aC HQ.out.2.2,HK.out,HL.out,aC H4.out,aC H5.out,H6.out];rfl
  exact⟨_,by rw [this];rfl,by rw [this];exact zS _ k k _ (by have:=hb.size;omega),hb.alloc hb.size _⟩
 | false=>
  have H6:=V h6;clear h6;go_wp2_with fail;refine(ja l 103 105 _).mono ?_;rintro x w3 ⟨rfl,LP⟩;replace hb:=ei hb LP;clear LP;cases h7:ml l 103 105 with
  | true=>
   have H7:=V h7;clear h7;go_wp2_with fail
   go_ret3
   have:fh op=([k],k,true):=by rw [fh,aC HQ.out.1,aC HQ.out.2.1,aC HQ.out.2.2,HK.out,HL.out,aC H4.out,aC H5.out,H6.out,H7.out];rfl
   exact⟨_,by rw [this];rfl,by rw [this];exact lB _ k _ (by have:=hb.size;omega),hb.alloc hb.size _⟩
  | false=>
   have H7:=V h7;clear h7;go_wp2_with fail
   go_ret3
   have:fh op=([k,k],k,true):=by rw [fh,aC HQ.out.1,aC HQ.out.2.1,aC HQ.out.2.2,HK.out,HL.out,aC H4.out,aC H5.out,H6.out,H7.out];rfl
   exact⟨_,by rw [this];rfl,by rw [this];exact zS _ k k _ (by have:=hb.size;omega),hb.alloc hb.size _⟩
theorem Aj (op:Int):(fh op).1.length <=2:=by
 unfold fh;split
 ·simp
 split
 ·simp
 split
 ·simp
 split
 ·simp
 split
 ·simp
 split
 ·simp
 split <;>simp
theorem Le (w1:World) (C:Nat) (u:eL) (m:eI) (lv:Value) (ls:List Int) (w:World) (c:eU) (a b:Int) (al:Option Addr) (nl cl:Nat) (l:List Int) (h:gA w1 C u m lv w c) (Ly:ia c) (hr:pJ w1 C u m lv ls) (hv:c.ej.length <=50000):
  Calls prog 105 #[.pointer (some ⟨C,0,none⟩), .agg #[.int .i64 26, .int .i64 a, .int .i64 b, .slice al nl cl]] w (nP w1 C u m lv (.tuple #[]) (eU.plain m ls c ⟨26,a,b,l⟩)):=by
 have hu:=And.intro Ly (And.intro hr hv);clear hu;have LC:=(an w.heap.size w).alloc (ag _) (.cells #[.int .i64 26, .int .i64 a, .int .i64 b, .slice al nl cl] 27);have hX:=eP.new w #[.int .i64 26, .int .i64 a, .int .i64 b, .slice al nl cl] 27;have Lr:=(LC.alloc LC.size (.cells #[.int .i64 1] 3)).alloc (by rw [aE];exact aW LC.size (dP _)) (.cells #[.int .i64 2] 3);have HX:=V ((hX.alloc (.cells #[.int .i64 1] 3)).alloc (.cells #[.int .i64 2] 3));have Lw:=h.lt;have HS:=V (h.below Lr);have ME:=V Ly;have y0:=hX.cell 0;have y0':=HX.out.cell 0;have y1:=HX.out.cell 1;simp only [aI,aG,aU]at y0 y0' y1;clear h LC Lr hX Ly;go_enter func105,ntmps105;go_wp2_with fail;refine(CA w1 C u m lv _ c 0 HS.out ME.out.2 ME.out.top).mono ?_;rintro e w2 ⟨rfl,hs,hk,-⟩;have HS:=V hs;have HX:=V (HX.out.keeps hk (by omega));clear hs hk y0 y0' y1;have y0:=HX.out.cell 0;have y1:=HX.out.cell 1;simp only [aI,aG,aU]at y0 y1;go_wp2_with fail
 go_end0
 exact⟨rfl,HS.out⟩
theorem KP (w1:World) (C:Nat) (u:eL) (m:eI) (lv:Value) (ls:List Int) (w:World) (c:eU) (a b:Int) (al:Option Addr) (nl cl:Nat) (l:List Int) (h:gA w1 C u m lv w c) (Ly:ia c) (hr:pJ w1 C u m lv ls) (hv:c.ej.length <=50000) (ha:0 <=a/\a <=1000):
  Calls prog 105 #[.pointer (some ⟨C,0,none⟩), .agg #[.int .i64 32, .int .i64 a, .int .i64 b, .slice al nl cl]] w (nP w1 C u m lv (.tuple #[]) (eU.plain m ls c ⟨32,a,b,l⟩)):=by
 obtain⟨k,rfl⟩:∃k:Nat,a=k:=⟨a.toNat,by omega⟩;have hu:=And.intro Ly (And.intro hr hv);clear hu;have LC:=(an w.heap.size w).alloc (ag _) (.cells #[.int .i64 32, .int .i64 k, .int .i64 b, .slice al nl cl] 27);have hX:=eP.new w #[.int .i64 32, .int .i64 k, .int .i64 b, .slice al nl cl] 27;have Lr:=(LC.alloc LC.size (.cells #[.int .i64 1] 3)).alloc (by rw [aE];exact aW LC.size (dP _)) (.cells #[.int .i64 2] 3);have HX:=V ((hX.alloc (.cells #[.int .i64 1] 3)).alloc (.cells #[.int .i64 2] 3));have Lw:=h.lt;have HS:=V (h.below Lr);have ME:=V Ly;have y0:=hX.cell 0;have y0':=HX.out.cell 0;have y1:=HX.out.cell 1;simp only [aI,aG,aU]at y0 y0' y1;clear h LC Lr hX Ly;go_enter func105,ntmps105;go_wp2_with fail;refine(Dt w1 C u m lv ls _ c k HS.out hr).mono ?_;rintro e w2 ⟨rfl,hs,hk,-⟩;have HS:=V hs;have HX:=V (HX.out.keeps hk (by omega));clear hs hk y0 y0' y1;have y0:=HX.out.cell 0;have y1:=HX.out.cell 1;simp only [aI,aG,aU]at y0 y1;have l1:(eU.local ls c k).2.ej.length <=50000:=by rw [(pz c ls k).2];exact hv
 have hb:=(an w2.heap.size w2).alloc (ag _) (.cells #[.int .i64 (eU.local ls c k).1] 3);have HL:=V (lB w2 (eU.local ls c k).1 3 HS.out.lt.1);have HS:=V (HS.out.below hb);clear hb;go_wp2_with fail;refine(mj w1 C u m lv _ _ _ [(eU.local ls c k).1] HS.out HL.out (by simp only [aB];omega)).mono ?_;rintro e w9 ⟨rfl,hs⟩;have HS:=V hs;clear hs;go_wp2_with fail
 go_end0
 exact⟨rfl,HS.out⟩
theorem KU (w1:World) (C:Nat) (u:eL) (m:eI) (lv:Value) (ls:List Int) (w:World) (c:eU) (a b:Int) (al:Option Addr) (nl cl:Nat) (l:List Int) (h:gA w1 C u m lv w c) (Ly:ia c) (hr:pJ w1 C u m lv ls) (hv:c.ej.length <=50000):
  Calls prog 105 #[.pointer (some ⟨C,0,none⟩), .agg #[.int .i64 65, .int .i64 a, .int .i64 b, .slice al nl cl]] w (nP w1 C u m lv (.tuple #[]) (eU.plain m ls c ⟨65,a,b,l⟩)):=by
 have hu:=And.intro Ly (And.intro hr hv);clear hu;have LC:=(an w.heap.size w).alloc (ag _) (.cells #[.int .i64 65, .int .i64 a, .int .i64 b, .slice al nl cl] 27);have hX:=eP.new w #[.int .i64 65, .int .i64 a, .int .i64 b, .slice al nl cl] 27;have Lr:=(LC.alloc LC.size (.cells #[.int .i64 1] 3)).alloc (by rw [aE];exact aW LC.size (dP _)) (.cells #[.int .i64 2] 3);have HX:=V ((hX.alloc (.cells #[.int .i64 1] 3)).alloc (.cells #[.int .i64 2] 3));have Lw:=h.lt;have HS:=V (h.below Lr);have ME:=V Ly;have y0:=hX.cell 0;have y0':=HX.out.cell 0;have y1:=HX.out.cell 1;simp only [aI,aG,aU]at y0 y0' y1;clear h LC Lr hX Ly;go_enter func105,ntmps105;go_wp2_with fail;have HL:=V (lB (((w.alloc (.cells #[.int .i64 65, .int .i64 a, .int .i64 b, .slice al nl cl] 27)).alloc (.cells #[.int .i64 1] 3)).alloc (.cells #[.int .i64 2] 3)) 1 3 HS.out.lt.1);have HS:=V (HS.out.alloc (.cells #[.int .i64 1] 3));simp only [aE]at HL;refine(mj w1 C u m lv _ _ _ [1] HS.out HL.out (by simp only [aB];omega)).mono ?_;rintro e w9 ⟨rfl,hs⟩;have HS:=V hs;clear hs;go_wp2_with fail
 go_end0
 exact⟨rfl,HS.out⟩
theorem KR (w1:World) (C:Nat) (u:eL) (m:eI) (lv:Value) (ls:List Int) (w:World) (c:eU) (a b:Int) (al:Option Addr) (nl cl:Nat) (l:List Int) (h:gA w1 C u m lv w c) (Ly:ia c) (hr:pJ w1 C u m lv ls) (hv:c.ej.length <=50000):
  Calls prog 105 #[.pointer (some ⟨C,0,none⟩), .agg #[.int .i64 66, .int .i64 a, .int .i64 b, .slice al nl cl]] w (nP w1 C u m lv (.tuple #[]) (eU.plain m ls c ⟨66,a,b,l⟩)):=by
 have hu:=And.intro Ly (And.intro hr hv);clear hu;have LC:=(an w.heap.size w).alloc (ag _) (.cells #[.int .i64 66, .int .i64 a, .int .i64 b, .slice al nl cl] 27);have hX:=eP.new w #[.int .i64 66, .int .i64 a, .int .i64 b, .slice al nl cl] 27;have Lr:=(LC.alloc LC.size (.cells #[.int .i64 1] 3)).alloc (by rw [aE];exact aW LC.size (dP _)) (.cells #[.int .i64 2] 3);have HX:=V ((hX.alloc (.cells #[.int .i64 1] 3)).alloc (.cells #[.int .i64 2] 3));have Lw:=h.lt;have HS:=V (h.below Lr);have ME:=V Ly;have y0:=hX.cell 0;have y0':=HX.out.cell 0;have y1:=HX.out.cell 1;simp only [aI,aG,aU]at y0 y0' y1;clear h LC Lr hX Ly;go_enter func105,ntmps105;go_wp2_with fail;have HL:=V (lB (((w.alloc (.cells #[.int .i64 66, .int .i64 a, .int .i64 b, .slice al nl cl] 27)).alloc (.cells #[.int .i64 1] 3)).alloc (.cells #[.int .i64 2] 3)) 2 3 HS.out.lt.1);have HS:=V (HS.out.alloc (.cells #[.int .i64 2] 3));simp only [aE]at HL;refine(mj w1 C u m lv _ _ _ [2] HS.out HL.out (by simp only [aB];omega)).mono ?_;rintro e w9 ⟨rfl,hs⟩;have HS:=V hs;clear hs;go_wp2_with fail
 go_end0
 exact⟨rfl,HS.out⟩
theorem Lm (w1:World) (C:Nat) (u:eL) (m:eI) (lv:Value) (ls:List Int) (w:World) (c:eU) (op a b:Int) (al:Option Addr) (nl cl:Nat) (l:List Int) (h:gA w1 C u m lv w c) (Ly:ia c) (hr:pJ w1 C u m lv ls) (hv:c.ej.length <=50000) (NK:¬ (op=26\/op=27\/op=32\/op=33\/op=34\/op=35\/op=36\/op=40\/op=41\/op=44\/op=45\/op=54\/op=55\/op=58\/op=63\/op=64\/op=65\/op=66)):
  Calls prog 105 #[.pointer (some ⟨C,0,none⟩), .agg #[.int .i64 op, .int .i64 a, .int .i64 b, .slice al nl cl]] w (nP w1 C u m lv (.tuple #[]) (eU.plain m ls c ⟨op,a,b,l⟩)):=by
 have HN:Hid (eU.plain m ls c ⟨op,a,b,l⟩=((c.need (fh op).2.2).gb (fh op).1).push [(fh op).2.1]):=V (by
  unfold eU.plain;simp only
  repeat (rw [aC (by omega)]))
 have f26:(op==26)=false:=ed (by omega);have f27:(op==27)=false:=ed (by omega);have f32:(op==32)=false:=ed (by omega);have f33:(op==33)=false:=ed (by omega);have f34:(op==34)=false:=ed (by omega);have f35:(op==35)=false:=ed (by omega);have f36:(op==36)=false:=ed (by omega);have f40:(op==40)=false:=ed (by omega);have f41:(op==41)=false:=ed (by omega);have f44:(op==44)=false:=ed (by omega);have f45:(op==45)=false:=ed (by omega);have f54:(op==54)=false:=ed (by omega);have f55:(op==55)=false:=ed (by omega);have f58:(op==58)=false:=ed (by omega);have f63:(op==63)=false:=ed (by omega);have f64:(op==64)=false:=ed (by omega);have f65:(op==65)=false:=ed (by omega);have f66:(op==66)=false:=ed (by omega);clear NK;have hu:=And.intro Ly (And.intro hr hv);clear hu;have LC:=(an w.heap.size w).alloc (ag _) (.cells #[.int .i64 op, .int .i64 a, .int .i64 b, .slice al nl cl] 27);have hX:=eP.new w #[.int .i64 op, .int .i64 a, .int .i64 b, .slice al nl cl] 27;have Lr:=(LC.alloc LC.size (.cells #[.int .i64 1] 3)).alloc (by rw [aE];exact aW LC.size (dP _)) (.cells #[.int .i64 2] 3);have HX:=V ((hX.alloc (.cells #[.int .i64 1] 3)).alloc (.cells #[.int .i64 2] 3));have Lw:=h.lt;have HS:=V (h.below Lr);have ME:=V Ly;have y0:=hX.cell 0;have y0':=HX.out.cell 0;have y1:=HX.out.cell 1;simp only [aI,aG,aU]at y0 y0' y1;clear h LC Lr hX Ly;go_enter func105,ntmps105;go_wp2_with fail;refine(qE op _ C HS.out.lt.1).mono ?_;rintro e w2 ⟨v,rfl,hl,hb⟩;have HS:=V (HS.out.below hb);have HL:=V hl;have Mm:=Aj op;clear hl hb y0 y0' y1 f26 f27 f32 f33 f34 f35 f36 f40 f41 f44 f45 f54 f55 f58 f63 f64 f65 f66;go_wp2_with fail;refine(jW w1 C u m lv w2 c (fh op).2.2 HS.out).mono ?_;rintro e w3 ⟨rfl,hs,hk,-⟩;have HS:=V hs;have HL:=V (HL.out.ext (pX hk));clear hs hk;go_wp2_with fail;refine(oT w1 C u m lv w3 _ v (fh op).1 HS.out (ME.out.need _) HL.out (by omega)).mono ?_;rintro e w4 ⟨rfl,hs,hk,-⟩;have HS:=V hs;have l1:=eU.lJ (c.need (fh op).2.2) (fh op).1;rw [eU.xv]at l1;clear hs hk;have hb:=(an w4.heap.size w4).alloc (ag _) (.cells #[.int .i64 (fh op).2.1] 3);have HL:=V (lB w4 (fh op).2.1 3 HS.out.lt.1);have HS:=V (HS.out.below hb);clear hb;go_wp2_with fail;refine(mj w1 C u m lv _ _ _ [(fh op).2.1] HS.out HL.out (by simp only [aB];omega)).mono ?_;rintro e w9 ⟨rfl,hs⟩;have HS:=V hs;clear hs;go_wp2_with fail
 go_end0
 rw [HN.out];exact⟨rfl,HS.out⟩
def eS.mE (x:eS):Prop:=x.op=0\/x.op=2\/x.op=11\/x.op=12\/x.op=16\/x.op=26\/x.op=32\/x.op=65\/x.op=66\/x.op=106
def tL (c c':eU) (op:Int):Prop:=c'.sound/\(c'.eT.length:Int)=iw op c.eT.length/\c'.ej.length <=c.ej.length+10
theorem sA {op d:Int} (h:¬ (op=2\/op=3\/op=4\/op=11)):iw op d=d:=by
 unfold iw kJ;rw [aC (by omega)];have h2:¬ op=2:=by omega
 have h3:¬ op=3:=by omega
 have h4:¬ op=4:=by omega
 simp [h2,h3,h4]
theorem og {c d:eU} {l:List Int} {op:Int} (hd:ia d) (hc:d.eT.length=c.eT.length) (hv:d.ej.length <=c.ej.length) (hl:l.length <=10) (ho:¬ (op=2\/op=3\/op=4\/op=11)):tL c (d.push l) op:=
 ⟨(hd.push l).1,by rw [sA ho,eU.vE,hc],by simp only [eU.push,ah];omega⟩
theorem wR {c d:eU} {op:Int} (hd:ia d) (hc:d.eT.length=c.eT.length) (hv:d.ej.length <=c.ej.length) (ho:¬ (op=2\/op=3\/op=4\/op=11)):tL c d op:=
 ⟨hd.1,by rw [sA ho,hc],by omega⟩
theorem xh {c d:eU} {op:Int} (hd:ia d) (hc:d.eT.length=c.eT.length) (hv:d.ej.length <=c.ej.length) (ho:¬ (op=2\/op=3\/op=4\/op=11)):tL c d.dead op:=
 wR hd.dead (by rw [BG hd.2,hc]) (aW (GC d) hv) ho
theorem BU {c d:eU} {op k:Int} (hd:ia d) (hc:d.eT.length=c.eT.length) (hv:d.ej.length <=c.ej.length) (ho:op=2\/op=3\/op=4):tL c (d.begin op k) op:=by
 refine⟨(hd.begin op k).1,?_,by simp only [eU.begin];omega⟩;have:iw op (c.eT.length:Int)=c.eT.length+1:=by
  rcases ho with rfl | rfl | rfl <;>rfl
 rw [this];simp [eU.begin,hc]
theorem IX {m:eI} (OF:m.short) {ls:List Int} {c:eU} (h:ia c) (x:eS) (hx:x.mE):tL c (c.step m ls x) x.op:=by
 unfold eU.step;rcases hx with q | q | q | q | q | q | q | q | q | q
 ·rw [show c.control m x=some c.dead by simp [eU.control,q]]
  exact xh h rfl (ag _) (by omega)
 ·rw [show c.control m x=some (c.begin x.op x.a)by simp [eU.control,q]]
  exact BU h rfl (ag _) (by omega)
 ·rw [show c.control m x=some ((c.shut.2.need (c.shut.1.op !=4 || c.shut.1.kind==0)).push (gF c.shut.1.kind))by simp [eU.control,q]]
  have hp:=List.length_pos_iff.2 h.2;have hs:=AV h;refine⟨eU.sound.push ⟨hs.1,hs.2⟩ _,?_,?_⟩
  ·rw [show iw x.op (c.eT.length:Int)=c.eT.length - 1 by rw [q];rfl]
   rw [cN,eU.vE,eU.ni,qH,cR];omega
  ·have:=rv c
   have:=oU c.shut.1.kind;simp only [cN,eU.push,eU.xv,ah];omega
 ·rw [show c.control m x=some ((c.label x.a).2.gb (c.label x.a).1).dead by simp [eU.control,q]]
  exact xh ((h.label _).gb _) (by rw [eU.iD,(sM _ _).1]) (aW (eU.lJ _ _) (by rw [(sM _ _).2];exact ag _)) (by omega)
 ·rw [show c.control m x=some (c.calls (gM m x.a))by simp [eU.control,q]]
  exact og ((h.need _).gb _) (by rw [eU.iD];rfl) (eU.lJ _ _) (nX OF _).2 (by omega)
 all_goals rw [show c.control m x=none by simp [eU.control,q],Option.getD_none]
 ·rw [show c.plain m ls x=(c.pop 0).2 by simp [eU.plain,q]]
  exact wR (h.pop 0) (by rw [eU.pV]) (eU.CQ c 0) (by omega)
 ·rw [show c.plain m ls x=(c.local ls x.a).2.push [(c.local ls x.a).1]by simp [eU.plain,q]]
  exact og (h.local ls _) (by rw [(pz _ _ _).1]) (by rw [(pz _ _ _).2];exact ag _) (by simp) (by omega)
 ·rw [show c.plain m ls x=c.push [1]by simp [eU.plain,q]]
  exact og h rfl (ag _) (by simp) (by omega)
 ·rw [show c.plain m ls x=c.push [2]by simp [eU.plain,q]]
  exact og h rfl (ag _) (by simp) (by omega)
 ·rw [show c.plain m ls x=((c.need (fh x.op).2.2).gb (fh x.op).1).push [(fh x.op).2.1]by simp [eU.plain,q]]
  exact og ((h.need _).gb _) (by rw [eU.iD];rfl) (eU.lJ _ _) (by simp) (by omega)
theorem Jm {x:eS} (h:x.may) (hf:fT x.op=3):0 <=x.a/\x.a <=1000:=by
 obtain⟨_,_,h⟩:=h;rw [hf]at h;have h:gp x.a:=by simpa using h
 exact h
theorem sL (w1:World) (C:Nat) (u:eL) (m:eI) (lv:Value) (ls:List Int) (w:World) (c:eU) (x:eS) (al:Option Addr) (nl cl:Nat) (h:gA w1 C u m lv w c) (Ly:ia c) (hr:pJ w1 C u m lv ls) (OF:m.short) (hv:c.ej.length <=50000) (hc:c.eT.length <=50000) (hm:x.may) (hx:x.mE):
  Calls prog 104 #[.pointer (some ⟨C,0,none⟩), .agg #[.int .i64 x.op, .int .i64 x.a, .int .i64 x.b, .slice al nl cl]] w (qQ w1 C u m lv x c w):=by
 obtain⟨op,a,b,l⟩:=x;unfold eS.mE at hx;simp only at hx⊢;by_cases q0:op=0
 ·subst q0;exact K3 w1 C u m lv ls w c a b al nl cl l h Ly hr OF hv hc
 by_cases q1:op=2
 ·subst q1;exact KL w1 C u m lv ls w c a b al nl cl l h Ly hr OF hv hc
 by_cases q2:op=11
 ·subst q2;exact J8 w1 C u m lv ls w c a b al nl cl l h Ly hr OF hv hc
 by_cases q3:op=12
 ·subst q3;exact Kd w1 C u m lv ls w c a b al nl cl l h Ly hr OF hv hc (Jm hm rfl)
 by_cases q4:op=16
 ·subst q4;exact Kb w1 C u m lv ls w c a b al nl cl l h Ly hr OF hv hc (Jm hm rfl)
 exact KK w1 C u m lv w c op a b al nl cl l h (by omega)
theorem wX (w1:World) (C:Nat) (u:eL) (m:eI) (lv:Value) (ls:List Int) (w:World) (c:eU) (x:eS) (al:Option Addr) (nl cl:Nat) (h:gA w1 C u m lv w c) (Ly:ia c) (hr:pJ w1 C u m lv ls) (hv:c.ej.length <=50000) (hm:x.may) (hx:x.mE):
  Calls prog 105 #[.pointer (some ⟨C,0,none⟩), .agg #[.int .i64 x.op, .int .i64 x.a, .int .i64 x.b, .slice al nl cl]] w (nP w1 C u m lv (.tuple #[]) (eU.plain m ls c x)):=by
 obtain⟨op,a,b,l⟩:=x;unfold eS.mE at hx;simp only at hx⊢;by_cases q1:op=26
 ·subst q1;exact Le w1 C u m lv ls w c a b al nl cl l h Ly hr hv
 by_cases q2:op=32
 ·subst q2;exact KP w1 C u m lv ls w c a b al nl cl l h Ly hr hv (Jm hm rfl)
 by_cases q5:op=65
 ·subst q5;exact KU w1 C u m lv ls w c a b al nl cl l h Ly hr hv
 by_cases q6:op=66
 ·subst q6;exact KR w1 C u m lv ls w c a b al nl cl l h Ly hr hv
 exact Lm w1 C u m lv ls w c op a b al nl cl l h Ly hr hv (by omega)
theorem AU {C:Nat} {w w':World} (h:Below w.heap.size w w') (hC:w.heap.size <=C):Ext w (rW C w'):=by
 refine⟨fun a v e=>?_,by unfold rW;rw [iq];exact h.size⟩;have Lw:=aT w a e;have hb:(fun k=>k==C) a.block=false:=by
  have:a.block≠C:=by omega
  simp [this]
 have h2:(mask (fun k=>k==C) w').cell? a=w'.cell? a:=bg (jE w' hb);show(mask (fun k=>k==C) w').cell? a=some v;rw [h2,h.cell Lw];exact e
theorem gA.new {w1:World} {C:Nat} {u:eL} {m:eI} {lv:Value} (h:eP w1 C (tm u m lv (.slice none 0 0) (.slice none 0 0) false) 181):gA w1 C u m lv w1 ⟨[],[],false⟩:=
 ⟨_,_,h,ea.nil _ _,ea.nil _ _,ee.refl _ _,h.lt⟩
def KA (m:eI) (ls:List Int) (c0:eU) (body:List eS) (c:eU) (i:Nat):Prop:=
 i <=body.length/\eU.run m ls c0 body=eU.run m ls c (body.drop i)/\ia c/\c.ej.length <=10*i/\c.eT.length <=i+1/\∃st Ob,gH body (body.drop i) i st=some Ob/\st.2.length+1=c.eT.length
theorem Dp (op n:Int):iw op (n+1)=iw op n+1/\iw op n <=n+1:=by
 unfold iw;split
 ·omega
 ·split <;>omega
theorem yN {m:eI} (OF:m.short) {ls:List Int} {c0:eU} {body:List eS} {c:eU} {i:Nat} {x:eS} (h:KA m ls c0 body c i) (hx:body[i]?=some x) (he:x.mE):
  ((c.step m ls x).bad=true ->eU.run m ls c0 body=none)/\((c.step m ls x).bad=false ->KA m ls c0 body (c.step m ls x) (i+1)):=by
 obtain⟨h1,h2,h3,h4,h5,st,Ob,h6,h7⟩:=h;obtain⟨hk,rfl⟩:=aM.1 hx;rw [cA hk]at h2 h6;rw [eU.run]at h2;rw [gH]at h6;obtain⟨s1,s2,s3⟩:=IX OF (ls:=ls) h3 body[i] he;refine⟨fun hb=>by rw [h2,aJ hb],fun hb=>?_⟩;rw [aC (by rw [hb];simp)]at h2;cases hs:fO body i body[i] st with
 | none=>rw [hs]at h6;cases h6
 | some RQ=>
  rw [hs]at h6;simp only [az]at h6;obtain⟨d0,d1⟩:=qj hs;have hd:=Dp body[i].op st.2.length;rw [<- h7]at s2;rw [show((st.2.length+1:Nat):Int)=(st.2.length:Int)+1 by omega]at s2;refine⟨by omega,h2,⟨s1,?_⟩,by omega,by omega,RQ,Ob,h6,by omega⟩;intro e;rw [e]at s2;simp only [aL]at s2;omega
def rB (t:gN):eU:=({ej:=[],eT:=[],bad:=false}:eU).begin 2 (t.results.head?.getD 0)
theorem Db {m:eI} {ls:List Int} {t:gN} {body:List eS} {bs:List iR} (h:fI body=some bs):KA m ls (rB t) body (rB t) 0/\body.length <=300:=by
 unfold fI at h;split at h
 ·cases h
 ·cases hg:gH body body 0 ([],[])with
  | none=>rw [hg]at h;cases h
  | some st=>exact⟨⟨bA _,rfl,⟨⟨by simp [rB,eU.begin],by simp [rB,eU.begin]⟩,by simp [rB,eU.begin]⟩,by simp [rB,eU.begin],by simp [rB,eU.begin],([],[]),st,hg,by simp [rB,eU.begin]⟩,by omega⟩
theorem nY (m:eI) (u:eL) (k:Int) (w:World) (hm:eD w u m) (OF:m.short) (hx:∀c∈m.eA,c.locals.length <=100000/\∀x∈c.body,x.may/\x.mE):Calls prog 67 #[.agg (u.cells m), .int .i64 k] w (eF (fW m k) w):=by
 have HI:=V hm;have HSM:=V OF;have QP:=V hx;obtain⟨a0,c0,a1,c1,a2,c2,a3,c3,a4,c4,a5,c5,a6,c6,a7,c7,rfl⟩:=eD.open hm;simp only [eL.cells];clear hm OF hx;have LQ:=(an w.heap.size w).alloc (ag _) (.cells #[.slice a0 m.types.length c0, .slice a1 m.imports.length c1, .slice a2 m.funcs.length c2, .bool m.table.has, .int .i64 m.table.min, .int .i64 m.table.max, .bool m.mem.has, .int .i64 m.mem.min, .int .i64 m.mem.max, .slice a3 m.globals.length c3, .slice a4 m.ep.length c4, .slice a5 m.elems.length c5, .slice a6 m.eA.length c6, .slice a7 m.eK.length c7] 62);have HB:=V (LQ.alloc (by rw [aE];omega) (.cells #[.slice a0 m.types.length c0, .slice a1 m.imports.length c1, .slice a2 m.funcs.length c2, .bool m.table.has, .int .i64 m.table.min, .int .i64 m.table.max, .bool m.mem.has, .int .i64 m.mem.min, .int .i64 m.mem.max, .slice a3 m.globals.length c3, .slice a4 m.ep.length c4, .slice a5 m.elems.length c5, .slice a6 m.eA.length c6, .slice a7 m.eK.length c7, .slice none 0 0, .slice none 0 0, .slice none 0 0, .bool false] 181));clear LQ;by_cases q1:k < 0
 ·have f1:decide (k < 0)=true:=aA q1
  have HF:Hid (fW m k=false):=V (by unfold fW;rw [if_pos (.inl q1)]);clear q1 HI;go_enter func67,ntmps67;go_wp2_with fail;go_ret;exact⟨by rw [HF.out];rfl,HB.out⟩
 obtain⟨k,rfl⟩:∃n:Nat,k=n:=⟨k.toNat,by omega⟩;have f1:decide ((k:Int) < 0)=false:=aq q1;by_cases q2:k < m.eA.length;rotate_left
 ·have f2:decide ((m.eA.length:Int) <=(k:Int))=true:=aA (by omega)
  have f3:decide (m.eA.length <=k)=true:=aA (by omega);have HF:Hid (fW m k=false):=V (by unfold fW;rw [if_pos (.inr (.inl (by omega)))]);clear q1 HI;go_enter func67,ntmps67;go_wp2_with fail;go_ret;exact⟨by rw [HF.out];rfl,HB.out⟩
 have f2:decide ((m.eA.length:Int) <=(k:Int))=false:=aq (by omega);have f3:decide (m.eA.length <=k)=false:=aq (by omega);by_cases q3:k < m.funcs.length;rotate_left
 ·have f4:decide ((m.funcs.length:Int) <=(k:Int))=true:=aA (by omega)
  have f5:decide (m.funcs.length <=k)=true:=aA (by omega);have HF:Hid (fW m k=false):=V (by unfold fW;rw [if_pos (.inr (.inr (by omega)))]);clear q1 HI;go_enter func67,ntmps67;go_wp2_with fail;go_ret;exact⟨by rw [HF.out];rfl,HB.out⟩
 have f4:decide ((m.funcs.length:Int) <=(k:Int))=false:=aq (by omega);have f5:decide (m.funcs.length <=k)=false:=aq (by omega);obtain⟨code,QQ⟩:∃x,m.eA[k]?=some x:=⟨_,aw q2⟩;obtain⟨ft,hft⟩:∃x,m.funcs[k]?=some x:=⟨_,aw q3⟩;have HLL:=V (QP.out code (aO QQ)).1;have QP:=V (QP.out code (aO QQ)).2;have HF:=V (show fW m k=(if(typeOf m ft).2=false\/(fI code.body).isSome=false then false
  else match eU.run m ((typeOf m ft).1.params++code.locals) (rB (typeOf m ft).1) code.body with
   | none=>false
   | some c=> !c.shut.2.bad&&decide (((typeOf m ft).1.params++code.locals).length <=32))by
  unfold fW rB;rw [aC (by omega),cI,QQ,hft];rfl)
 obtain⟨_,_,hv,_,_,Ln⟩:=HI.out.2.2.1;injection hv with e1 e2 e3;subst e1;obtain⟨b,off,rfl,-,LN⟩:=Ln k ft hft;have y0:=(Ext.eh HB.out).1 _ _ (LN 0 _ rfl);rw [aK,bq]at y0;clear e2 e3 Ln LN hft;have LU:=V ((eP.new w #[.slice a0 m.types.length c0, .slice a1 m.imports.length c1, .slice (some ⟨b,off,none⟩) m.funcs.length c2, .bool m.table.has, .int .i64 m.table.min, .int .i64 m.table.max, .bool m.mem.has, .int .i64 m.mem.min, .int .i64 m.mem.max, .slice a3 m.globals.length c3, .slice a4 m.ep.length c4, .slice a5 m.elems.length c5, .slice a6 m.eA.length c6, .slice a7 m.eK.length c7] 62).alloc (.cells #[.slice a0 m.types.length c0, .slice a1 m.imports.length c1, .slice (some ⟨b,off,none⟩) m.funcs.length c2, .bool m.table.has, .int .i64 m.table.min, .int .i64 m.table.max, .bool m.mem.has, .int .i64 m.mem.min, .int .i64 m.mem.max, .slice a3 m.globals.length c3, .slice a4 m.ep.length c4, .slice a5 m.elems.length c5, .slice a6 m.eA.length c6, .slice a7 m.eK.length c7, .slice none 0 0, .slice none 0 0, .slice none 0 0, .bool false] 181));have HCB0:=eP.new (w.alloc (.cells #[.slice a0 m.types.length c0, .slice a1 m.imports.length c1, .slice (some ⟨b,off,none⟩) m.funcs.length c2, .bool m.table.has, .int .i64 m.table.min, .int .i64 m.table.max, .bool m.mem.has, .int .i64 m.mem.min, .int .i64 m.mem.max, .slice a3 m.globals.length c3, .slice a4 m.ep.length c4, .slice a5 m.elems.length c5, .slice a6 m.eA.length c6, .slice a7 m.eK.length c7] 62)) #[.slice a0 m.types.length c0, .slice a1 m.imports.length c1, .slice (some ⟨b,off,none⟩) m.funcs.length c2, .bool m.table.has, .int .i64 m.table.min, .int .i64 m.table.max, .bool m.mem.has, .int .i64 m.mem.min, .int .i64 m.mem.max, .slice a3 m.globals.length c3, .slice a4 m.ep.length c4, .slice a5 m.elems.length c5, .slice a6 m.eA.length c6, .slice a7 m.eK.length c7, .slice none 0 0, .slice none 0 0, .slice none 0 0, .bool false] 181;rw [aE]at HCB0;have Px:=V HCB0;clear HCB0;go_enter func67,ntmps67;go_wp2_with fail;obtain⟨wA,P1⟩:∃wA,wA=(w.alloc (.cells #[.slice a0 m.types.length c0, .slice a1 m.imports.length c1, .slice (some ⟨b,off,none⟩) m.funcs.length c2, .bool m.table.has, .int .i64 m.table.min, .int .i64 m.table.max, .bool m.mem.has, .int .i64 m.mem.min, .int .i64 m.mem.max, .slice a3 m.globals.length c3, .slice a4 m.ep.length c4, .slice a5 m.elems.length c5, .slice a6 m.eA.length c6, .slice a7 m.eK.length c7] 62)).alloc (.cells #[.slice a0 m.types.length c0, .slice a1 m.imports.length c1, .slice (some ⟨b,off,none⟩) m.funcs.length c2, .bool m.table.has, .int .i64 m.table.min, .int .i64 m.table.max, .bool m.mem.has, .int .i64 m.mem.min, .int .i64 m.mem.max, .slice a3 m.globals.length c3, .slice a4 m.ep.length c4, .slice a5 m.elems.length c5, .slice a6 m.eA.length c6, .slice a7 m.eK.length c7, .slice none 0 0, .slice none 0 0, .slice none 0 0, .bool false] 181):=⟨_,rfl⟩;rw [<- P1]at HB LU Px⊢;have hAS:wA.heap.size=w.heap.size+2:=by rw [P1];simp
 clear P1 y0;have HS:=V (gA.new (u:=⟨.slice a0 m.types.length c0, .slice a1 m.imports.length c1, .slice (some ⟨b,off,none⟩) m.funcs.length c2, .slice a3 m.globals.length c3, .slice a4 m.ep.length c4, .slice a5 m.elems.length c5, .slice a6 m.eA.length c6, .slice a7 m.eK.length c7⟩) (m:=m) (lv:= .slice none 0 0) Px.out);have L4:=V (show pJ wA (w.heap.size+1) ⟨.slice a0 m.types.length c0, .slice a1 m.imports.length c1, .slice (some ⟨b,off,none⟩) m.funcs.length c2, .slice a3 m.globals.length c3, .slice a4 m.ep.length c4, .slice a5 m.elems.length c5, .slice a6 m.eA.length c6, .slice a7 m.eK.length c7⟩ m (.slice none 0 0) []from⟨HI.out.ext (AU HB.out (by omega)),ew.nil _⟩);refine(ot wA (w.heap.size+1) _ m _ [] wA _ ft HS.out L4.out).mono ?_;rintro e w2 ⟨v1,v2,rfl,OJ,M4,hb⟩;have hsh:=rD HSM.out ft;obtain⟨T,hT⟩:∃T,typeOf m ft=T:=⟨_,rfl⟩;rw [hT]at HF OJ M4 hsh⊢;clear hT;obtain⟨⟨ps,rs⟩,ok⟩:=T;simp only at HF OJ M4 hsh⊢;obtain⟨b1,k1,rfl,MA,-,-⟩:=id OJ;obtain⟨b2,k2,rfl,Lv,-,-⟩:=id M4;have HV1:=V OJ;have OD:=V M4;have HSH:=V hsh;have Lr:=(an w2.heap.size w2).alloc (ag _) (.cells #[.slice b1 ps.length k1, .slice b2 rs.length k2] 109);have OU:=hb.size;have hb:=hb.trans (Lr.mono hb.size);have PU:=V (eP.new w2 #[.slice b1 ps.length k1, .slice b2 rs.length k2] 109);have LU:=V (LU.out.below hb LU.out.lt);have Px:=V (Px.out.below hb Px.out.lt);have HB:=V (HB.out.trans (hb.mono HB.out.size));have Rv:=V hb;have hT2:w.heap.size+2 <=w2.heap.size:=by omega
 clear OJ M4 hsh hb Lr;obtain⟨bc,PV,⟨va,vb⟩,rfl,-,LN,Mh⟩:=et.get HI.out.2.2.2.2.2.2.1 QQ;have y0:=(Ext.eh HB.out).1 _ _ (LN 0 _ rfl);have y1:=(Ext.eh HB.out).1 _ _ (LN 1 _ rfl);rw [aK]at y0;have y2:=LU.out.mod.2.2.2.2.2.2.2.2.2.2.2.2.1;have LW:=V Mh;clear LN Mh;go_wp2_with fail;refine(pW _ code.body _ (gx.below LW.out.1.2 HB.out)).mono ?_;rintro e w3 ⟨hb,hmt⟩;have PU:=V (PU.out.below hb PU.out.lt);have LU:=V (LU.out.below hb LU.out.lt);have Px:=V (Px.out.below hb Px.out.lt);have HB:=V (HB.out.trans (hb.mono HB.out.size));have Rv:=V (Rv.out.trans (hb.mono Rv.out.size));clear y0 y1 y2;have OV:w2.heap.size < w3.heap.size:=PU.out.lt;rcases hmt with⟨bs,bv,Qo,rfl,-⟩ | ⟨Qo,rfl⟩;rotate_left
 ·have HF2:=V (HF.out.trans (aJ (.inr (by rw [Qo];rfl))))
  clear Qo hb;cases ok
  ·go_wp2_with fail
   go_ret;exact⟨by rw [HF2.out];rfl,HB.out⟩
  ·go_wp2_with fail
   go_ret;exact⟨by rw [HF2.out];rfl,HB.out⟩
 cases ok
 ·have HF:=V (HF.out.trans (aJ (.inl rfl)))
  clear Qo hb;go_wp2_with fail;go_ret;exact⟨by rw [HF.out];rfl,HB.out⟩
 have HF:=V (HF.out.trans (aC (by rw [Qo];simp)));have HJ0:=V (fun ls=>Db (m:=m) (ls:=ls) (t:=⟨ps,rs⟩) Qo);clear Qo hb;have hml:m.eA.length <=9223372036854775807:=by
  obtain⟨_,_,_,h1,h2⟩:=et.slice HI.out.2.2.2.2.2.2.1;omega
 obtain⟨bc',offc',⟨va',vb'⟩,Qy,-,LN,Mh⟩:=et.get HI.out.2.2.2.2.2.2.1 QQ;injection Qy with Qy;injection Qy with hab1 hab2;subst hab1 hab2;have LW:=V Mh;have y0:=(Ext.eh HB.out.drew).1 _ _ (LN 0 _ rfl);have y1:=LN 1 _ rfl;rw [aK]at y0;have Y1:=V y1;have Y0:=V (LN 0 _ rfl);clear LN Mh y1;have y2:=LU.out.drew.mod.2.2.2.2.2.2.2.2.2.2.2.2.1;have y3:=PU.out.drew.two.1;have y4:w3.drew.cell? ⟨w.heap.size+1,14,none⟩=some (.slice none 0 0):=Px.out.drew.cell 14;go_wp2_with fail;refine eX (fun w'=>w'.cell? ⟨w.heap.size+1,14,none⟩=some (.slice none 0 0)/\w'.cell? ⟨w2.heap.size,0,none⟩=some (.slice b1 ps.length k1)/\w'.cell? ⟨w.heap.size,12,none⟩=some (.slice (some ⟨bc,PV,none⟩) m.eA.length c6)/\w'.cell? ⟨bc,PV+k*2,none⟩=some va') 17 (up 0 7 (up 8 6 ((7,false)::(14,false)::(15,true)::(16,true)::[]))) (by kernel_rfl) (by kernel_rfl) ⟨y4,y3,y2,y0⟩ ?_;clear y0 y2 y3 y4;have HB:=V HB.out.drew;have Rv:=V Rv.out.drew;have LU:=V LU.out.drew;have PU:=V PU.out.drew;have Px:=V Px.out.drew;have hsz4:w2.heap.size < w3.drew.heap.size:=OV;clear OV;generalize w3.drew=w4 at HB Rv LU PU Px hsz4⊢;iterate 13 (first | (apply sk rfl rfl;simp only [pt]) | (apply ef rfl rfl rfl;·(rintro w' ⟨t0,t1,t2,t3⟩;go_wp2;exact⟨rfl,rfl,rfl⟩)))
 refine eo rfl rfl ?_;go_wp2_with (first | (at_builtin;refine mo w4 rfl _ _ rfl rfl w4.heap.size (.slice none 0 0) [] rfl (ea.nil _ _) (.slice b1 ps.length k1) ps rfl (HV1.out.ext ((xj Rv.out).trans (yZ _ _))) (by have:=HSH.out.1;simp only [aL];omega) (ag _) ?_));intro v5 w5 ho5 OM QG;have Mw:Below w4.heap.size w4 w5:=OM.below (ag _) (fun i hi=>by simp [eH,Value.ownBlock]at hi);have Rv:=V (Rv.out.trans (Mw.mono Rv.out.size));have HB:=V (HB.out.trans (Mw.mono HB.out.size));have LU:=V (LU.out.below Mw LU.out.lt);have PU:=V (PU.out.below Mw PU.out.lt);have Px:=V (Px.out.below Mw Px.out.lt);have H45:=V Mw;have HO5:=V (show ea 3 1 fp w5 w4.heap.size v5 ps from ho5);clear ho5 OM QG Mw;go_wp2_with fail;refine⟨⟨Px.out.cell 14,PU.out.two.1,LU.out.mod.2.2.2.2.2.2.2.2.2.2.2.2.1,(Ext.eh HB.out).1 _ _ Y0.out⟩,?_⟩;refine eo rfl rfl ?_;go_wp2_with (first | (at_builtin;refine mo w5 rfl _ _ rfl rfl w4.heap.size v5 ps rfl HO5.out va' code.locals rfl (LW.out.1.1.ext (Ext.eh HB.out)) (by have:=HSH.out.1;have:=HLL.out;omega) H45.out.size ?_));intro v6 w6 ho6 PZ hs6;have Ov:Below w4.heap.size w5 w6:=PZ.below H45.out.size (fun i hi=>(eE HO5.out hi).1);have Rv:=V (Rv.out.trans (Ov.mono (by have:=Rv.out.size;omega)));have HB:=V (HB.out.trans (Ov.mono (by omega)));have LU:=V (LU.out.below Ov (by omega));have PU:=V (PU.out.below Ov (by omega));have Px:=V (Px.out.below Ov (by omega));obtain⟨ls,hls⟩:∃ls,ps++code.locals=ls:=⟨_,rfl⟩;rw [hls]at ho6 HF;clear hls;obtain⟨av,cw,rfl,-,-⟩:=ho6.slice;have HO6:=V ho6;clear ho6 PZ hs6 Ov;go_wp2_with fail;refine⟨⟨Px.out.cell 14,PU.out.two.1,LU.out.mod.2.2.2.2.2.2.2.2.2.2.2.2.1,(Ext.eh HB.out).1 _ _ Y0.out⟩,?_⟩;iterate 2 (first | (apply sk rfl rfl;simp only [pt]) | (apply ef rfl rfl rfl;·(rintro w' ⟨t0,t1,t2,t3⟩;go_wp2;exact⟨rfl,rfl,rfl⟩)))
 refine fP rfl rfl ?_;have c14:w6.cell? ⟨w.heap.size+1,14,none⟩=some (.slice none 0 0):=Px.out.cell 14;have z14:=Px.out.free 14;go_wp2_with fail;refine⟨trivial,?_⟩;refine aD ?_;have Lt:=eC w6 (w.heap.size+1) 14 (.slice av ls.length cw);have L4:=V (show pJ _ (w.heap.size+1) ⟨.slice a0 m.types.length c0, .slice a1 m.imports.length c1, .slice (some ⟨b,off,none⟩) m.funcs.length c2, .slice a3 m.globals.length c3, .slice a4 m.ep.length c4, .slice a5 m.elems.length c5, .slice (some ⟨bc,PV,none⟩) m.eA.length c6, .slice a7 m.eK.length c7⟩ m (.slice av ls.length cw) ls from⟨(HI.out.ext (AU HB.out (by omega))).ext (pX Lt),(CD fH HO6.out (by omega)).ext (pX Lt)⟩);have LU:=V (LU.out.keeps Lt (by omega));have PU:=V (PU.out.keeps Lt (by omega));have HB:=V (HB.out.trans (Lt.below HB.out.size (fun i hi=>by omega)));have OD:=V ((OD.out.ext (xj Rv.out)).ext (tk Lt));have HS:=V (gA.new (u:=⟨.slice a0 m.types.length c0, .slice a1 m.imports.length c1, .slice (some ⟨b,off,none⟩) m.funcs.length c2, .slice a3 m.globals.length c3, .slice a4 m.ep.length c4, .slice a5 m.elems.length c5, .slice (some ⟨bc,PV,none⟩) m.eA.length c6, .slice a7 m.eK.length c7⟩) (m:=m) (lv:= .slice av ls.length cw) (Px.out.set 14 (.slice av ls.length cw)));clear c14 z14 Lt;generalize w6.setCell ⟨w.heap.size+1,14,none⟩ (.slice av ls.length cw)=w7 at L4 LU PU HB OD HS⊢;clear Px HO5 HO6 H45 Rv HSH HLL HV1 hsz4;have y3:=PU.out.two.2.1;obtain⟨ab,cb,rfl,Mu,P5⟩:=et.slice LW.out.1.2;obtain⟨k0,Qw⟩:∃k0,rs.head?.getD 0=k0:=⟨_,rfl⟩;have HC0:=V (show rB ⟨ps,rs⟩=(⟨[],[],false⟩:eU).begin 2 k0 by unfold rB;rw [Qw]);obtain⟨PQ,hb300⟩:=HJ0.out ls;have PQ:=V PQ;have HEX:=V (AU (C:=w.heap.size+1) HB.out (by omega));have HNB:=V (LW.out.1.2.ext HEX.out);clear HJ0 LW;have f8:(0:Int) <=(rs.length:Int):=by omega
 by_cases q:rs.length=0
 ·have f6:decide ((0:Int) < (rs.length:Int))=false:=aq (by omega)
  have f7:decide (0 < rs.length)=false:=aq (by omega);have MA:0=k0:=by rw [aH q]at Qw;exact Qw
  subst MA;clear f8 q Qw;go_wp2_with fail;refine(uL w7 (w.heap.size+1) _ m _ w7 _ 2 0 HS.out (by simp)).mono ?_;rintro e w8 ⟨rfl,hs⟩;rw [<- HC0.out]at hs;have hold:=hs.old;have LU:=V (LU.out.keeps hold (by omega));have HS:=V hs;have y2:=LU.out.mod.2.2.2.2.2.2.2.2.2.2.2.2.1;have y5:=hs.ext'.1 _ _ (HEX.out.1 _ _ Y1.out);clear hs y3 hold;go_wp2_with fail;clear y2 y5;refine eJ (fun a' w'=>∃(c:eU) (i:Nat),a'=fr (gs a' 0 2 (.pointer (some ⟨w.heap.size,0,none⟩)::gs a' 3 2 (.pointer (some ⟨w.heap.size+1,0,none⟩)::gs a' 6 85 (.slice ab code.body.length cb:: .int .i64 code.body.length:: .int .i64 i::gs a' 94 30 []))))/\KA m ls (rB ⟨ps,rs⟩) code.body c i/\gA w7 (w.heap.size+1) ⟨.slice a0 m.types.length c0, .slice a1 m.imports.length c1, .slice (some ⟨b,off,none⟩) m.funcs.length c2, .slice a3 m.globals.length c3, .slice a4 m.ep.length c4, .slice a5 m.elems.length c5, .slice (some ⟨bc,PV,none⟩) m.eA.length c6, .slice a7 m.eK.length c7⟩ m (.slice av ls.length cw) w' c) (fun a' _=>(code.body.length - (intOf (a'.tmps.getD 93 undef)).toNat)) ?_ ?_
  ·exact⟨_,0,rfl,PQ.out,HS.out⟩
  ·skip
   rintro R a' w1 ⟨c,i,Lp,hJ⟩ HR;dsimp only [fr,gs]at Lp;generalize slot a'=f at Lp;subst Lp;obtain⟨hfn,hs⟩:=hJ;have PQ:=V hfn;have HS:=V hs;obtain⟨hi1,LA,Ly,Oo,PD,-⟩:=hfn;have ME:=V Ly;have hold:=hs.old;have NQ:=V (HB.out.trans (hold.below HB.out.size (fun i hi=>by omega)));clear hold Ly;by_cases q:i < code.body.length;rotate_left
   ·obtain rfl:i=code.body.length:=by omega
    rw [List.drop_length,eU.run]at LA;have HF:=V (show fW m k=(!c.shut.2.bad&&decide (ls.length <=32))by rw [HF.out,LA]);clear LA hs;go_wp2_with fail;refine(uG w7 (w.heap.size+1) _ m _ w1 c HS.out ME.out).mono ?_;rintro e w10 ⟨rfl,LB,Lv⟩;have NQ:=V (NQ.out.trans (Lv.below NQ.out.size (fun i hi=>by omega)));obtain⟨-,-,-,-,-,-,c14,c17,-⟩:=LB.cell;obtain⟨bd,Ox⟩:∃bd,c.shut.2.bad=bd:=⟨_,rfl⟩;rw [Ox]at c17 HF;clear LB Lv Ox;cases bd
    ·by_cases q32:ls.length <=32
     ·have g1:decide ((ls.length:Int) <=32)=true:=aA (by omega)
      have g2:decide (ls.length <=32)=true:=aA q32;rw [g2]at HF;clear q32;go_wp2_with fail;go_ret;exact⟨by rw [HF.out];rfl,NQ.out⟩
     ·have g1:decide ((ls.length:Int) <=32)=false:=aq (by omega)
      have g2:decide (ls.length <=32)=false:=aq q32;rw [g2]at HF;clear q32;go_wp2_with fail;go_ret;exact⟨by rw [HF.out];rfl,NQ.out⟩
    ·go_wp2_with fail
     go_ret;exact⟨by rw [HF.out];rfl,NQ.out⟩
   obtain⟨x,hx⟩:∃x,code.body[i]?=some x:=⟨_,aw q⟩;obtain⟨M8,Py⟩:=QP.out x (aO hx);have Ls:=V (yN HSM.out PQ.out hx Py);obtain⟨bb,ob,un,rfl,-,hc,hu⟩:=et.get HNB.out hx;obtain⟨⟨au,Lx,rfl,-,-,-⟩,-⟩:=id hu;have y0:=hs.ext'.1 _ _ (hc 0 _ rfl);have y1:=hs.ext'.1 _ _ (hc 1 _ rfl);have y2:=hs.ext'.1 _ _ (hc 2 _ rfl);have y3:=hs.ext'.1 _ _ (hc 3 _ rfl);rw [aK]at y0;obtain⟨op,xa,xb,xl⟩:=x;have Nz:=V M8;have QR:=V Py;have HX:=V (eP.new w1 #[.int .i64 op, .int .i64 xa, .int .i64 xb, .slice au xl.length Lx] 27);have hC1:w.heap.size+1 < w1.heap.size:=hs.lt.1;clear hc hu M8 Py hx LA hs PQ;go_wp2_with fail;refine(sL w7 (w.heap.size+1) _ m _ ls _ c ⟨op,xa,xb,xl⟩ au xl.length Lx (HS.out.alloc _) ME.out L4.out HSM.out (by omega) (by omega) Nz.out QR.out).mono ?_;rintro e w10 (⟨c',Na,rfl,LB⟩ | ⟨Na,rfl,LB,Lv⟩)
   ·have N4:c.step m ls ⟨op,xa,xb,xl⟩=c':=by unfold eU.step;rw [Na];rfl
    rw [N4]at Ls;clear Na N4 y0 y1 y2 y3 hC1;have hold:=LB.old;have NQ:=V (HB.out.trans (hold.below HB.out.size (fun i hi=>by omega)));have HS:=V LB;have c17:=LB.cell.2.2.2.2.2.2.2.1;obtain⟨bd,Ox⟩:∃bd,c'.bad=bd:=⟨_,rfl⟩;rw [Ox]at c17 Ls;clear LB hold Ox;cases bd
    ·have PQ:=V (Ls.out.2 rfl)
     clear Ls HX;go_wp2_with fail;refine HR.out _ _ ⟨_,i+1,rfl,PQ.out,HS.out⟩ ?_;simp [intOf];omega
    ·have hF:=HF.out
     rw [Ls.out.1 rfl]at hF;have HF:=V hF;clear hF;go_wp2_with fail;go_ret;exact⟨by rw [HF.out];rfl,NQ.out⟩
   ·have N4:c.step m ls ⟨op,xa,xb,xl⟩=c.plain m ls ⟨op,xa,xb,xl⟩:=by unfold eU.step;rw [Na];rfl
    rw [N4]at Ls;clear Na N4 y0 y1 y2 y3;have HX:=V (HX.out.keeps Lv (by omega));have HS:=V LB;have y0:=HX.out.cell 0;have y1:=HX.out.cell 1;have y2:=HX.out.cell 2;have y3:=HX.out.cell 3;simp only [aI,aG,aU]at y0 y1 y2 y3;clear LB Lv hC1;go_wp2_with fail;refine(wX w7 (w.heap.size+1) _ m _ ls _ c ⟨op,xa,xb,xl⟩ au xl.length Lx HS.out ME.out L4.out (by omega) Nz.out QR.out).mono ?_;rintro e Sc ⟨rfl,LB⟩;clear y0 y1 y2 y3;obtain⟨c',Na⟩:∃c',c.plain m ls ⟨op,xa,xb,xl⟩=c':=⟨_,rfl⟩;rw [Na]at LB Ls;clear Na;have hold:=LB.old;have NQ:=V (HB.out.trans (hold.below HB.out.size (fun i hi=>by omega)));have HS:=V LB;have c17:=LB.cell.2.2.2.2.2.2.2.1;obtain⟨bd,Ox⟩:∃bd,c'.bad=bd:=⟨_,rfl⟩;rw [Ox]at c17 Ls;clear LB hold Ox;cases bd
    ·have PQ:=V (Ls.out.2 rfl)
     clear Ls HX;go_wp2_with fail;refine HR.out _ _ ⟨_,i+1,rfl,PQ.out,HS.out⟩ ?_;simp [intOf];omega
    ·have hF:=HF.out
     rw [Ls.out.1 rfl]at hF;have HF:=V hF;clear hF;go_wp2_with fail;go_ret;exact⟨by rw [HF.out];rfl,NQ.out⟩
 ·have f6:decide ((0:Int) < (rs.length:Int))=true:=aA (by omega)
  have f7:decide (0 < rs.length)=true:=aA (by omega);have f9:0 < rs.length:=by omega
  have hr0:rs[0]?=some k0:=by
   rw [List.head?_eq_getElem?]at Qw;rw [<- Qw,aw f9];rfl
  obtain⟨_,_,hv,_,_,Ln⟩:=OD.out;injection hv with e1 e2 e3;subst e1;have HMB9:=LU;have HB9:=HB;obtain⟨br,offr,rfl,-,LN⟩:=Ln 0 k0 hr0;have y6:=LN 0 _ rfl;rw [aK]at y6;have LU:=HMB9;have HB:=HB9;clear e2 e3 Ln LN hr0 f8 q Qw;go_wp2_with fail;refine(uL w7 (w.heap.size+1) _ m _ w7 _ 2 k0 HS.out (by simp)).mono ?_;rintro e w8 ⟨rfl,hs⟩;rw [<- HC0.out]at hs;have hold:=hs.old;have LU:=V (LU.out.keeps hold (by omega));have HS:=V hs;have y2:=LU.out.mod.2.2.2.2.2.2.2.2.2.2.2.2.1;have y5:=hs.ext'.1 _ _ (HEX.out.1 _ _ Y1.out);clear hs y3 hold;go_wp2_with fail;clear y2 y5;refine eJ (fun a' w'=>∃(c:eU) (i:Nat),a'=fr (gs a' 0 2 (.pointer (some ⟨w.heap.size,0,none⟩)::gs a' 3 2 (.pointer (some ⟨w.heap.size+1,0,none⟩)::gs a' 6 85 (.slice ab code.body.length cb:: .int .i64 code.body.length:: .int .i64 i::gs a' 94 30 []))))/\KA m ls (rB ⟨ps,rs⟩) code.body c i/\gA w7 (w.heap.size+1) ⟨.slice a0 m.types.length c0, .slice a1 m.imports.length c1, .slice (some ⟨b,off,none⟩) m.funcs.length c2, .slice a3 m.globals.length c3, .slice a4 m.ep.length c4, .slice a5 m.elems.length c5, .slice (some ⟨bc,PV,none⟩) m.eA.length c6, .slice a7 m.eK.length c7⟩ m (.slice av ls.length cw) w' c) (fun a' _=>(code.body.length - (intOf (a'.tmps.getD 93 undef)).toNat)) ?_ ?_
  ·exact⟨_,0,rfl,PQ.out,HS.out⟩
  ·skip
   rintro R a' w1 ⟨c,i,Lp,hJ⟩ HR;dsimp only [fr,gs]at Lp;generalize slot a'=f at Lp;subst Lp;obtain⟨hfn,hs⟩:=hJ;have PQ:=V hfn;have HS:=V hs;obtain⟨hi1,LA,Ly,Oo,PD,-⟩:=hfn;have ME:=V Ly;have hold:=hs.old;have NQ:=V (HB.out.trans (hold.below HB.out.size (fun i hi=>by omega)));clear hold Ly;by_cases q:i < code.body.length;rotate_left
   ·obtain rfl:i=code.body.length:=by omega
    rw [List.drop_length,eU.run]at LA;have HF:=V (show fW m k=(!c.shut.2.bad&&decide (ls.length <=32))by rw [HF.out,LA]);clear LA hs;go_wp2_with fail;refine(uG w7 (w.heap.size+1) _ m _ w1 c HS.out ME.out).mono ?_;rintro e w10 ⟨rfl,LB,Lv⟩;have NQ:=V (NQ.out.trans (Lv.below NQ.out.size (fun i hi=>by omega)));obtain⟨-,-,-,-,-,-,c14,c17,-⟩:=LB.cell;obtain⟨bd,Ox⟩:∃bd,c.shut.2.bad=bd:=⟨_,rfl⟩;rw [Ox]at c17 HF;clear LB Lv Ox;cases bd
    ·by_cases q32:ls.length <=32
     ·have g1:decide ((ls.length:Int) <=32)=true:=aA (by omega)
      have g2:decide (ls.length <=32)=true:=aA q32;rw [g2]at HF;clear q32;go_wp2_with fail;go_ret;exact⟨by rw [HF.out];rfl,NQ.out⟩
     ·have g1:decide ((ls.length:Int) <=32)=false:=aq (by omega)
      have g2:decide (ls.length <=32)=false:=aq q32;rw [g2]at HF;clear q32;go_wp2_with fail;go_ret;exact⟨by rw [HF.out];rfl,NQ.out⟩
    ·go_wp2_with fail
     go_ret;exact⟨by rw [HF.out];rfl,NQ.out⟩
   obtain⟨x,hx⟩:∃x,code.body[i]?=some x:=⟨_,aw q⟩;obtain⟨M8,Py⟩:=QP.out x (aO hx);have Ls:=V (yN HSM.out PQ.out hx Py);obtain⟨bb,ob,un,rfl,-,hc,hu⟩:=et.get HNB.out hx;obtain⟨⟨au,Lx,rfl,-,-,-⟩,-⟩:=id hu;have y0:=hs.ext'.1 _ _ (hc 0 _ rfl);have y1:=hs.ext'.1 _ _ (hc 1 _ rfl);have y2:=hs.ext'.1 _ _ (hc 2 _ rfl);have y3:=hs.ext'.1 _ _ (hc 3 _ rfl);rw [aK]at y0;obtain⟨op,xa,xb,xl⟩:=x;have Nz:=V M8;have QR:=V Py;have HX:=V (eP.new w1 #[.int .i64 op, .int .i64 xa, .int .i64 xb, .slice au xl.length Lx] 27);have hC1:w.heap.size+1 < w1.heap.size:=hs.lt.1;clear hc hu M8 Py hx LA hs PQ;go_wp2_with fail;refine(sL w7 (w.heap.size+1) _ m _ ls _ c ⟨op,xa,xb,xl⟩ au xl.length Lx (HS.out.alloc _) ME.out L4.out HSM.out (by omega) (by omega) Nz.out QR.out).mono ?_;rintro e w10 (⟨c',Na,rfl,LB⟩ | ⟨Na,rfl,LB,Lv⟩)
   ·have N4:c.step m ls ⟨op,xa,xb,xl⟩=c':=by unfold eU.step;rw [Na];rfl
    rw [N4]at Ls;clear Na N4 y0 y1 y2 y3 hC1;have hold:=LB.old;have NQ:=V (HB.out.trans (hold.below HB.out.size (fun i hi=>by omega)));have HS:=V LB;have c17:=LB.cell.2.2.2.2.2.2.2.1;obtain⟨bd,Ox⟩:∃bd,c'.bad=bd:=⟨_,rfl⟩;rw [Ox]at c17 Ls;clear LB hold Ox;cases bd
    ·have PQ:=V (Ls.out.2 rfl)
     clear Ls HX;go_wp2_with fail;refine HR.out _ _ ⟨_,i+1,rfl,PQ.out,HS.out⟩ ?_;simp [intOf];omega
    ·have hF:=HF.out
     rw [Ls.out.1 rfl]at hF;have HF:=V hF;clear hF;go_wp2_with fail;go_ret;exact⟨by rw [HF.out];rfl,NQ.out⟩
   ·have N4:c.step m ls ⟨op,xa,xb,xl⟩=c.plain m ls ⟨op,xa,xb,xl⟩:=by unfold eU.step;rw [Na];rfl
    rw [N4]at Ls;clear Na N4 y0 y1 y2 y3;have HX:=V (HX.out.keeps Lv (by omega));have HS:=V LB;have y0:=HX.out.cell 0;have y1:=HX.out.cell 1;have y2:=HX.out.cell 2;have y3:=HX.out.cell 3;simp only [aI,aG,aU]at y0 y1 y2 y3;clear LB Lv hC1;go_wp2_with fail;refine(wX w7 (w.heap.size+1) _ m _ ls _ c ⟨op,xa,xb,xl⟩ au xl.length Lx HS.out ME.out L4.out (by omega) Nz.out QR.out).mono ?_;rintro e Sc ⟨rfl,LB⟩;clear y0 y1 y2 y3;obtain⟨c',Na⟩:∃c',c.plain m ls ⟨op,xa,xb,xl⟩=c':=⟨_,rfl⟩;rw [Na]at LB Ls;clear Na;have hold:=LB.old;have NQ:=V (HB.out.trans (hold.below HB.out.size (fun i hi=>by omega)));have HS:=V LB;have c17:=LB.cell.2.2.2.2.2.2.2.1;obtain⟨bd,Ox⟩:∃bd,c'.bad=bd:=⟨_,rfl⟩;rw [Ox]at c17 Ls;clear LB hold Ox;cases bd
    ·have PQ:=V (Ls.out.2 rfl)
     clear Ls HX;go_wp2_with fail;refine HR.out _ _ ⟨_,i+1,rfl,PQ.out,HS.out⟩ ?_;simp [intOf];omega
    ·have hF:=HF.out
     rw [Ls.out.1 rfl]at hF;have HF:=V hF;clear hF;go_wp2_with fail;go_ret;exact⟨by rw [HF.out];rfl,NQ.out⟩
theorem nj {m:eI} {j:Nat} (h:jG m j=false):∀n,j <=n ->jG m n=false
 | 0,hn=>by
  obtain rfl:j=0:=by omega
  exact h
 | n+1,hn=>by
  rcases bD n j with h1 | h1
  ·obtain rfl:j=n+1:=by omega
   exact h
  ·rw [jG,nj h n h1]
   rfl
theorem eI.may.short {m:eI} (h:m.may):m.short:=fun t ht=>by
 obtain⟨h1,h2,-⟩:=h.1.2.1.1.1.2 t ht;omega
theorem eI.may.eA {m:eI} (h:m.may) (he:∀c∈m.eA,∀x∈c.body,x.mE):∀c∈m.eA,c.locals.length <=100000/\∀x∈c.body,x.may/\x.mE:=fun c hc=>by
 obtain⟨-,⟨h1,-⟩,-,h2⟩:=h.1.1.2.2 c hc;exact⟨by omega,fun x hx=>⟨h2 x hx,he c hc x hx⟩⟩
def jm (m:eI) (w:World) (e:Ending) (w':World):Prop:=e= .returned (.tuple #[.int .i64 (iM m), .bool (decide (iM m= -1))])/\Below w.heap.size w w'
theorem jm.mk {m:eI} {n:Int} {b:Bool} {w w':World} {e:Ending} (hf:iM m=n) (hb:decide (n= -1)=b) (h:Below w.heap.size w w') (he:e= .returned (.tuple #[.int .i64 n, .bool b])):jm m w e w':=⟨by rw [he,hf,hb],h⟩
theorem ew.take {α:Type} {k:Nat} {enc:α ->List Value} {w:World} {a:Option Addr} {n cap:Nat} {l:List α} (h:ew k enc w (.slice a n cap) l) (i:Nat) (hi:i <=l.length):ew k enc w (.slice a i cap) (l.take i):=by
 obtain⟨a',LO,hv,h1,h2,h3⟩:=h;injection hv with e1 e2 e3;subst e1 e3;refine⟨a,cap,by rw [aS,cD hi],by rw [aS];omega,h2,fun j x hx=>h3 j x ?_⟩;rw [cZ]at hx;split at hx
 ·exact hx
 ·cases hx
theorem vO (a:Option Addr) (len cap k:Nat) (h:k <=cap) (wx:World):
  (Instr.slice 57 (.slice a len cap) none (some (.int .i64 k)) none).run prog wx= .ok (.slice a k cap) wx:=by
 have hu:prog.underlying 57=some (.slice 111):=by kernel_rfl
 obtain⟨i0,hi,NW,MP,Nu⟩:=bX AA;simp [Instr.slice,bx hu,Instr.sliceBounds,Instr.sliceBound,sizeOf,typeInfo,hi,asIntOf,h];cases a <;>simp [Addr.add]
theorem pZ (m:eI) (u:eL) (w:World) (hm:eD w u m) (hs:m.words) (hn:m.imports.length+m.funcs.length <=1000000) (he:∀c∈m.eA,∀x∈c.body,x.mE):Calls prog 26 #[.agg (u.cells m)] w (jm m w):=by
 have HI:=V hm;have HWD:=V hs;have HE:=V he;obtain⟨a0,c0,a1,c1,a2,c2,a3,c3,a4,c4,a5,c5,a6,c6,a7,c7,rfl⟩:=eD.open hm;simp only [eL.cells];have hxl:m.ep.length <=9223372036854775807:=by
  obtain⟨_,_,_,h1,h2⟩:=fg hm.2.2.2.2.1;omega
 have hxc:m.ep.length <=c4:=by
  obtain⟨_,_,e,h1,h2⟩:=fg hm.2.2.2.2.1;injection e with e1 e2 e3;omega
 have Mm:m.eA.length <=9223372036854775807:=by
  obtain⟨_,_,_,h1,h2⟩:=et.slice hm.2.2.2.2.2.2.1;omega
 clear hm hs he;have HX0:=eP.new w #[.slice a0 m.types.length c0, .slice a1 m.imports.length c1, .slice a2 m.funcs.length c2, .bool m.table.has, .int .i64 m.table.min, .int .i64 m.table.max, .bool m.mem.has, .int .i64 m.mem.min, .int .i64 m.mem.max, .slice a3 m.globals.length c3, .slice a4 m.ep.length c4, .slice a5 m.elems.length c5, .slice a6 m.eA.length c6, .slice a7 m.eK.length c7] 62;have LQ:=(an w.heap.size w).alloc (ag _) (.cells #[.slice a0 m.types.length c0, .slice a1 m.imports.length c1, .slice a2 m.funcs.length c2, .bool m.table.has, .int .i64 m.table.min, .int .i64 m.table.max, .bool m.mem.has, .int .i64 m.mem.min, .int .i64 m.mem.max, .slice a3 m.globals.length c3, .slice a4 m.ep.length c4, .slice a5 m.elems.length c5, .slice a6 m.eA.length c6, .slice a7 m.eK.length c7] 62);have LC:=LQ.alloc (by rw [aE];omega) (.cells #[.func (.func 56) #[] #[.pointer (some ⟨w.heap.size,0,none⟩)]] 122);have HS:=V (LC.alloc (by rw [aE,aE];omega) (.cells #[.func (.func 57) #[] #[.pointer (some ⟨w.heap.size,0,none⟩)]] 122));have HX:=V ((HX0.alloc (.cells #[.func (.func 56) #[] #[.pointer (some ⟨w.heap.size,0,none⟩)]] 122)).alloc (.cells #[.func (.func 57) #[] #[.pointer (some ⟨w.heap.size,0,none⟩)]] 122));have h4:=(eP.new (w.alloc (.cells #[.slice a0 m.types.length c0, .slice a1 m.imports.length c1, .slice a2 m.funcs.length c2, .bool m.table.has, .int .i64 m.table.min, .int .i64 m.table.max, .bool m.mem.has, .int .i64 m.mem.min, .int .i64 m.mem.max, .slice a3 m.globals.length c3, .slice a4 m.ep.length c4, .slice a5 m.elems.length c5, .slice a6 m.eA.length c6, .slice a7 m.eK.length c7] 62)) #[.func (.func 56) #[] #[.pointer (some ⟨w.heap.size,0,none⟩)]] 122).alloc (.cells #[.func (.func 57) #[] #[.pointer (some ⟨w.heap.size,0,none⟩)]] 122);have h5:=eP.new ((w.alloc (.cells #[.slice a0 m.types.length c0, .slice a1 m.imports.length c1, .slice a2 m.funcs.length c2, .bool m.table.has, .int .i64 m.table.min, .int .i64 m.table.max, .bool m.mem.has, .int .i64 m.mem.min, .int .i64 m.mem.max, .slice a3 m.globals.length c3, .slice a4 m.ep.length c4, .slice a5 m.elems.length c5, .slice a6 m.eA.length c6, .slice a7 m.eK.length c7] 62)).alloc (.cells #[.func (.func 56) #[] #[.pointer (some ⟨w.heap.size,0,none⟩)]] 122)) #[.func (.func 57) #[] #[.pointer (some ⟨w.heap.size,0,none⟩)]] 122;simp only [aE]at h4 h5;have H4:=V (show World.cell? _ ⟨w.heap.size+1,0,none⟩=some (.func (.func 56) #[] #[.pointer (some ⟨w.heap.size,0,none⟩)])from h4.cell 0);have H5:=V (show World.cell? _ ⟨w.heap.size+2,0,none⟩=some (.func (.func 57) #[] #[.pointer (some ⟨w.heap.size,0,none⟩)])from h5.cell 0);clear LQ LC h4 h5 HX0;have HF:=V (iM.eq_1 m);go_enter func26,ntmps26;go_wp2_with fail;obtain⟨wB,hwB⟩:∃wB,wB=(((w.alloc (.cells #[.slice a0 m.types.length c0, .slice a1 m.imports.length c1, .slice a2 m.funcs.length c2, .bool m.table.has, .int .i64 m.table.min, .int .i64 m.table.max, .bool m.mem.has, .int .i64 m.mem.min, .int .i64 m.mem.max, .slice a3 m.globals.length c3, .slice a4 m.ep.length c4, .slice a5 m.elems.length c5, .slice a6 m.eA.length c6, .slice a7 m.eK.length c7] 62)).alloc (.cells #[.func (.func 56) #[] #[.pointer (some ⟨w.heap.size,0,none⟩)]] 122)).alloc (.cells #[.func (.func 57) #[] #[.pointer (some ⟨w.heap.size,0,none⟩)]] 122)):=⟨_,rfl⟩;rw [<- hwB]at HS HX H4 H5⊢;clear hwB;refine eJ (fun a' w'=>∃(tw:Bool) (i:Nat),a'=fr (gs a' 0 1 (.pointer (some ⟨w.heap.size,0,none⟩)::gs a' 2 2 (.pointer (some ⟨w.heap.size+1,0,none⟩):: .pointer (some ⟨w.heap.size+2,0,none⟩):: .bool tw::gs a' 7 6 (.slice a4 m.ep.length c4:: .int .i64 m.ep.length:: .int .i64 i::gs a' 16 80 []))))/\i <=m.ep.length/\tw=mI m [] (m.ep.take i)/\Below wB.heap.size wB w') (fun a' _=>(m.ep.length - (intOf (a'.tmps.getD 15 undef)).toNat)) ?_ ?_
 ·exact⟨false,0,rfl,bA _,rfl,an _ _⟩
 ·skip
  rintro R a' w1 ⟨tw,i,Lp,hJ⟩ HR;dsimp only [fr,gs]at Lp;generalize slot a'=f at Lp;subst Lp;obtain⟨hi,htw,hb⟩:=hJ;replace HX:=V (HX.out.below hb HX.out.lt);replace HS:=V (HS.out.trans (hb.mono HS.out.size));replace H4:=V ((Ext.eh hb).1 _ _ H4.out);replace H5:=V ((Ext.eh hb).1 _ _ H5.out);have LG:=V hb;have HTW:=V htw;clear hb htw;by_cases q:i < m.ep.length;rotate_left
  ·obtain rfl:i=m.ep.length:=by omega
   replace HTW:=V (show tw=xW m by rw [HTW.out,aV];rfl);clear q hi;obtain⟨g0,g1,g2,g3,g4,g5,g6,g7,g8,g9,Mb,Mc,Md,Me⟩:=HX.out.mod;go_wp2_with fail;refine(tt m ⟨.slice a0 m.types.length c0, .slice a1 m.imports.length c1, .slice a2 m.funcs.length c2, .slice a3 m.globals.length c3, .slice a4 m.ep.length c4, .slice a5 m.elems.length c5, .slice a6 m.eA.length c6, .slice a7 m.eK.length c7⟩ w1 (eD.below HI.out HS.out) HWD.out).mono ?_;rintro x w2 ⟨rfl,hb⟩;replace HX:=V (HX.out.below hb HX.out.lt);replace HS:=V (HS.out.trans (hb.mono HS.out.size));replace H4:=V ((Ext.eh hb).1 _ _ H4.out);replace H5:=V ((Ext.eh hb).1 _ _ H5.out);clear hb;clear g0 g1 g2 g3 g4 g5 g6 g7 g8 g9 Mb Mc Md Me;obtain⟨g0,g1,g2,g3,g4,g5,g6,g7,g8,g9,Mb,Mc,Md,Me⟩:=HX.out.mod;by_cases q:m.may;rotate_left
   ·have f1:decide m.may=false:=aq q
    replace HF:=V (HF.out.trans (aJ f1));rw [f1];clear q;go_wp2_with fail
    go_ret2
    exact jm.mk HF.out (by decide) HS.out rfl
   have Nz:=V q;have f1:decide m.may=true:=aA q;replace HF:=V (HF.out.trans (aC (by rw [f1];simp)));rw [f1];clear q f1;go_wp2_with fail;refine(Ak (fun x=>ma m x.type) _ m.imports _ (HI.out.2.1.ext (Ext.eh HS.out)) 62 #[.pointer (some ⟨w.heap.size+1,0,none⟩)] (fun _ _=>by rfl) (fun e _ w' hb=>AG m w.heap.size (w.heap.size+1) e w' a0 c0 ((Ext.eh hb).1 _ _ HX.out.mod.1) ((Ext.eh hb).1 _ _ H4.out))).mono ?_;rintro x w3 ⟨rfl,hb⟩;replace HX:=V (HX.out.below hb HX.out.lt);replace HS:=V (HS.out.trans (hb.mono HS.out.size));replace H4:=V ((Ext.eh hb).1 _ _ H4.out);replace H5:=V ((Ext.eh hb).1 _ _ H5.out);clear hb;clear g0 g1 g2 g3 g4 g5 g6 g7 g8 g9 Mb Mc Md Me;obtain⟨g0,g1,g2,g3,g4,g5,g6,g7,g8,g9,Mb,Mc,Md,Me⟩:=HX.out.mod;obtain⟨r,hr⟩:∃r,(m.imports.any fun x=>ma m x.type)=r:=⟨_,rfl⟩;rw [hr];cases r;rotate_left
   ·replace HF:=V (HF.out.trans (aJ hr))
    clear hr;go_wp2_with fail
    go_ret2
    exact jm.mk HF.out (by decide) HS.out rfl
   replace HF:=V (HF.out.trans (aC (fun h=>absurd (hr.symm.trans h) (by decide))));clear hr;have h4:=H4.out;go_wp2_with fail;clear h4;refine(qW (fun t=>ma m t) _ m.funcs _ (HI.out.2.2.1.ext (Ext.eh HS.out)) 56 #[.pointer (some ⟨w.heap.size,0,none⟩)] (fun _ _=>by rfl) (fun e _ w' hb=>tG m w.heap.size a0 c0 e w' ((Ext.eh hb).1 _ _ HX.out.mod.1))).mono ?_;rintro x w4 ⟨rfl,hb⟩;replace HX:=V (HX.out.below hb HX.out.lt);replace HS:=V (HS.out.trans (hb.mono HS.out.size));replace H4:=V ((Ext.eh hb).1 _ _ H4.out);replace H5:=V ((Ext.eh hb).1 _ _ H5.out);clear hb;clear g0 g1 g2 g3 g4 g5 g6 g7 g8 g9 Mb Mc Md Me;obtain⟨g0,g1,g2,g3,g4,g5,g6,g7,g8,g9,Mb,Mc,Md,Me⟩:=HX.out.mod;obtain⟨r,hr⟩:∃r,(m.funcs.any fun t=>ma m t)=r:=⟨_,rfl⟩;rw [hr];cases r;rotate_left
   ·replace HF:=V (HF.out.trans (aJ hr))
    clear hr;go_wp2_with fail
    go_ret2
    exact jm.mk HF.out (by decide) HS.out rfl
   replace HF:=V (HF.out.trans (aC (fun h=>absurd (hr.symm.trans h) (by decide))));clear hr;go_wp2_with fail;refine(vi m.table _).mono ?_;rintro x w5 ⟨rfl,hb⟩;replace HX:=V (HX.out.below hb HX.out.lt);replace HS:=V (HS.out.trans (hb.mono HS.out.size));replace H4:=V ((Ext.eh hb).1 _ _ H4.out);replace H5:=V ((Ext.eh hb).1 _ _ H5.out);clear hb;clear g0 g1 g2 g3 g4 g5 g6 g7 g8 g9 Mb Mc Md Me;obtain⟨g0,g1,g2,g3,g4,g5,g6,g7,g8,g9,Mb,Mc,Md,Me⟩:=HX.out.mod;obtain⟨r,hr⟩:∃r,lp m.table=r:=⟨_,rfl⟩;rw [hr];cases r;rotate_left
   ·replace HF:=V (HF.out.trans (aJ hr))
    clear hr;go_wp2_with fail
    go_ret2
    exact jm.mk HF.out (by decide) HS.out rfl
   replace HF:=V (HF.out.trans (aC (fun h=>absurd (hr.symm.trans h) (by decide))));clear hr;go_wp2_with fail;refine(vi m.mem _).mono ?_;rintro x w6 ⟨rfl,hb⟩;replace HX:=V (HX.out.below hb HX.out.lt);replace HS:=V (HS.out.trans (hb.mono HS.out.size));replace H4:=V ((Ext.eh hb).1 _ _ H4.out);replace H5:=V ((Ext.eh hb).1 _ _ H5.out);clear hb;clear g0 g1 g2 g3 g4 g5 g6 g7 g8 g9 Mb Mc Md Me;obtain⟨g0,g1,g2,g3,g4,g5,g6,g7,g8,g9,Mb,Mc,Md,Me⟩:=HX.out.mod;obtain⟨r,hr⟩:∃r,lp m.mem=r:=⟨_,rfl⟩;rw [hr];cases r;rotate_left
   ·replace HF:=V (HF.out.trans (aJ hr))
    clear hr;go_wp2_with fail
    go_ret2
    exact jm.mk HF.out (by decide) HS.out rfl
   replace HF:=V (HF.out.trans (aC (fun h=>absurd (hr.symm.trans h) (by decide))));clear hr;rw [HTW.out];obtain⟨r,hr⟩:∃r,xW m=r:=⟨_,rfl⟩;rw [hr];cases r;rotate_left
   ·replace HF:=V (HF.out.trans (aJ hr))
    clear hr;go_wp2_with fail
    go_ret2
    exact jm.mk HF.out (by decide) HS.out rfl
   replace HF:=V (HF.out.trans (aC (fun h=>absurd (hr.symm.trans h) (by decide))));clear hr;by_cases qe:m.elems.length≠0/\m.table.has=false
   ·replace HF:=V (HF.out.trans (aJ qe))
    have f1:decide ((0:Int) < (m.elems.length:Int))=true:=aA (by have:=qe.1;omega);have f2:decide (0 < m.elems.length)=true:=aA (by have:=qe.1;omega);rw [qe.2]at g3;clear qe;go_wp2_with fail
    go_ret2
    exact jm.mk HF.out (by decide) HS.out rfl
   replace HF:=V (HF.out.trans (aC qe));by_cases q0:m.elems.length=0
   ·have f1:decide ((0:Int) < (m.elems.length:Int))=false:=aq (by omega)
    have f2:decide (0 < m.elems.length)=false:=aq (by omega);clear qe q0;go_wp2_with fail;clear f1 f2;refine(vy (fun x=>x.funcs.any fun f=>mb m f) _ m.elems _ (HI.out.2.2.2.2.2.1.ext (Ext.eh HS.out) (fun _ _ h=>h.ext (Ext.eh HS.out))) 66 #[.pointer (some ⟨w.heap.size+2,0,none⟩)] (fun _ _=>by rfl) (fun e _ u w' hb hu=>qi m w.heap.size (w.heap.size+2) e u w' a1 a2 c1 c2 ((Ext.eh hb).1 _ _ HX.out.mod.2.1) ((Ext.eh hb).1 _ _ HX.out.mod.2.2.1) hn ((Ext.eh hb).1 _ _ H5.out) hu)).mono ?_;rintro x w7 ⟨rfl,hb⟩;replace HX:=V (HX.out.below hb HX.out.lt);replace HS:=V (HS.out.trans (hb.mono HS.out.size));replace H4:=V ((Ext.eh hb).1 _ _ H4.out);replace H5:=V ((Ext.eh hb).1 _ _ H5.out);clear hb;clear g0 g1 g2 g4 g5 g6 g7 g8 g9 Mb Mc Md Me;obtain⟨g0,g1,g2,g3',g4,g5,g6,g7,g8,g9,Mb,Mc,Md,Me⟩:=HX.out.mod;clear g3;have g3:=g3';clear g3';obtain⟨r,hr⟩:∃r,(m.elems.any fun x=>x.funcs.any fun f=>mb m f)=r:=⟨_,rfl⟩;rw [hr];cases r;rotate_left
    ·replace HF:=V (HF.out.trans (aJ hr))
     clear hr;go_wp2_with fail
     go_ret2
     exact jm.mk HF.out (by decide) HS.out rfl
    replace HF:=V (HF.out.trans (aC (fun h=>absurd (hr.symm.trans h) (by decide))));clear hr;go_wp2_with fail;clear g0 g1 g2 g3 g4 g5 g6 g7 g8 g9 Mb Mc Md Me;refine eJ (fun a' w'=>∃(i:Nat),a'=fr (gs a' 0 1 (.pointer (some ⟨w.heap.size,0,none⟩)::gs a' 2 75 (.int .i64 m.eA.length:: .int .i64 i::gs a' 79 17 [])))/\i <=m.eA.length/\jG m i=true/\Below w7.heap.size w7 w') (fun a' _=>(m.eA.length - (intOf (a'.tmps.getD 78 undef)).toNat)) ?_ ?_
    ·exact⟨0,rfl,bA _,rfl,an _ _⟩
    ·skip
     rintro R a' w8 ⟨i,Lp,hJ⟩ HR;dsimp only [fr,gs]at Lp;generalize slot a'=f at Lp;subst Lp;obtain⟨hi,Qk,hb⟩:=hJ;replace HX:=V (HX.out.below hb HX.out.lt);replace HS:=V (HS.out.trans (hb.mono HS.out.size));replace H4:=V ((Ext.eh hb).1 _ _ H4.out);replace H5:=V ((Ext.eh hb).1 _ _ H5.out);have LG:=V hb;have HCF:=V Qk;clear hb Qk;obtain⟨g0,g1,g2,g3,g4,g5,g6,g7,g8,g9,Mb,Mc,Md,Me⟩:=HX.out.mod;by_cases q:i < m.eA.length
     ·go_wp2_with fail
      refine(nY m ⟨.slice a0 m.types.length c0, .slice a1 m.imports.length c1, .slice a2 m.funcs.length c2, .slice a3 m.globals.length c3, .slice a4 m.ep.length c4, .slice a5 m.elems.length c5, .slice a6 m.eA.length c6, .slice a7 m.eK.length c7⟩ i w8 (eD.below HI.out HS.out) Nz.out.short (Nz.out.eA HE.out)).mono ?_;rintro x w9 ⟨rfl,hb⟩;replace HX:=V (HX.out.below hb HX.out.lt);replace HS:=V (HS.out.trans (hb.mono HS.out.size));replace H4:=V ((Ext.eh hb).1 _ _ H4.out);replace H5:=V ((Ext.eh hb).1 _ _ H5.out);replace LG:=V (LG.out.trans (hb.mono LG.out.size));clear hb g0 g1 g2 g3 g4 g5 g6 g7 g8 g9 Mb Mc Md Me;obtain⟨r,hr⟩:∃r,fW m i=r:=⟨_,rfl⟩;rw [hr];have HCN:=V (show jG m (i+1)=r by rw [jG,HCF.out,hr];rfl);clear hr;cases r
      ·replace HF:=V (HF.out.trans (aJ (nj HCN.out _ (by omega))))
       go_wp2_with fail
       go_ret2
       exact jm.mk HF.out (by decide) HS.out rfl
      ·go_wp2_with fail
       refine HR.out _ _ ⟨i+1,rfl,by omega,HCN.out,LG.out⟩ ?_;simp [intOf];omega
     ·obtain rfl:i=m.eA.length:=by omega
      replace HF:=V (HF.out.trans (aC (by rw [HCF.out];simp)));clear q hi HCF;by_cases qe:m.eK.length≠0/\m.mem.has=false
      ·replace HF:=V (HF.out.trans (aJ qe))
       have f1:decide ((0:Int) < (m.eK.length:Int))=true:=aA (by have:=qe.1;omega);have f2:decide (0 < m.eK.length)=true:=aA (by have:=qe.1;omega);rw [qe.2]at g6;clear qe;go_wp2_with fail
       go_ret2
       exact jm.mk HF.out (by decide) HS.out rfl
      replace HF:=V (HF.out.trans (aC qe));by_cases q0:m.eK.length=0
      ·have f1:decide ((0:Int) < (m.eK.length:Int))=false:=aq (by omega)
       have f2:decide (0 < m.eK.length)=false:=aq (by omega);clear qe q0;go_wp2_with fail
       go_ret2
       exact jm.mk HF.out (by decide) HS.out rfl
      ·have f1:decide ((0:Int) < (m.eK.length:Int))=true:=aA (by omega)
       have f2:decide (0 < m.eK.length)=true:=aA (by omega);have f3:m.mem.has=true:=by
        cases hh:m.mem.has with
        | true=>rfl
        | false=>exact absurd ⟨q0,hh⟩ qe
       rw [f3]at g6;clear qe q0 f3;go_wp2_with fail
       go_ret2
       exact jm.mk HF.out (by decide) HS.out rfl
   ·have f1:decide ((0:Int) < (m.elems.length:Int))=true:=aA (by omega)
    have f2:decide (0 < m.elems.length)=true:=aA (by omega);have f3:m.table.has=true:=by
     cases hh:m.table.has with
     | true=>rfl
     | false=>exact absurd ⟨q0,hh⟩ qe
    rw [f3]at g3;clear qe q0 f3;go_wp2_with fail;clear f1 f2;refine(vy (fun x=>x.funcs.any fun f=>mb m f) _ m.elems _ (HI.out.2.2.2.2.2.1.ext (Ext.eh HS.out) (fun _ _ h=>h.ext (Ext.eh HS.out))) 66 #[.pointer (some ⟨w.heap.size+2,0,none⟩)] (fun _ _=>by rfl) (fun e _ u w' hb hu=>qi m w.heap.size (w.heap.size+2) e u w' a1 a2 c1 c2 ((Ext.eh hb).1 _ _ HX.out.mod.2.1) ((Ext.eh hb).1 _ _ HX.out.mod.2.2.1) hn ((Ext.eh hb).1 _ _ H5.out) hu)).mono ?_;rintro x w7 ⟨rfl,hb⟩;replace HX:=V (HX.out.below hb HX.out.lt);replace HS:=V (HS.out.trans (hb.mono HS.out.size));replace H4:=V ((Ext.eh hb).1 _ _ H4.out);replace H5:=V ((Ext.eh hb).1 _ _ H5.out);clear hb;clear g0 g1 g2 g4 g5 g6 g7 g8 g9 Mb Mc Md Me;obtain⟨g0,g1,g2,g3',g4,g5,g6,g7,g8,g9,Mb,Mc,Md,Me⟩:=HX.out.mod;clear g3;have g3:=g3';clear g3';obtain⟨r,hr⟩:∃r,(m.elems.any fun x=>x.funcs.any fun f=>mb m f)=r:=⟨_,rfl⟩;rw [hr];cases r;rotate_left
    ·replace HF:=V (HF.out.trans (aJ hr))
     clear hr;go_wp2_with fail
     go_ret2
     exact jm.mk HF.out (by decide) HS.out rfl
    replace HF:=V (HF.out.trans (aC (fun h=>absurd (hr.symm.trans h) (by decide))));clear hr;go_wp2_with fail;clear g0 g1 g2 g3 g4 g5 g6 g7 g8 g9 Mb Mc Md Me;refine eJ (fun a' w'=>∃(i:Nat),a'=fr (gs a' 0 1 (.pointer (some ⟨w.heap.size,0,none⟩)::gs a' 2 75 (.int .i64 m.eA.length:: .int .i64 i::gs a' 79 17 [])))/\i <=m.eA.length/\jG m i=true/\Below w7.heap.size w7 w') (fun a' _=>(m.eA.length - (intOf (a'.tmps.getD 78 undef)).toNat)) ?_ ?_
    ·exact⟨0,rfl,bA _,rfl,an _ _⟩
    ·skip
     rintro R a' w8 ⟨i,Lp,hJ⟩ HR;dsimp only [fr,gs]at Lp;generalize slot a'=f at Lp;subst Lp;obtain⟨hi,Qk,hb⟩:=hJ;replace HX:=V (HX.out.below hb HX.out.lt);replace HS:=V (HS.out.trans (hb.mono HS.out.size));replace H4:=V ((Ext.eh hb).1 _ _ H4.out);replace H5:=V ((Ext.eh hb).1 _ _ H5.out);have LG:=V hb;have HCF:=V Qk;clear hb Qk;obtain⟨g0,g1,g2,g3,g4,g5,g6,g7,g8,g9,Mb,Mc,Md,Me⟩:=HX.out.mod;by_cases q:i < m.eA.length
     ·go_wp2_with fail
      refine(nY m ⟨.slice a0 m.types.length c0, .slice a1 m.imports.length c1, .slice a2 m.funcs.length c2, .slice a3 m.globals.length c3, .slice a4 m.ep.length c4, .slice a5 m.elems.length c5, .slice a6 m.eA.length c6, .slice a7 m.eK.length c7⟩ i w8 (eD.below HI.out HS.out) Nz.out.short (Nz.out.eA HE.out)).mono ?_;rintro x w9 ⟨rfl,hb⟩;replace HX:=V (HX.out.below hb HX.out.lt);replace HS:=V (HS.out.trans (hb.mono HS.out.size));replace H4:=V ((Ext.eh hb).1 _ _ H4.out);replace H5:=V ((Ext.eh hb).1 _ _ H5.out);replace LG:=V (LG.out.trans (hb.mono LG.out.size));clear hb g0 g1 g2 g3 g4 g5 g6 g7 g8 g9 Mb Mc Md Me;obtain⟨r,hr⟩:∃r,fW m i=r:=⟨_,rfl⟩;rw [hr];have HCN:=V (show jG m (i+1)=r by rw [jG,HCF.out,hr];rfl);clear hr;cases r
      ·replace HF:=V (HF.out.trans (aJ (nj HCN.out _ (by omega))))
       go_wp2_with fail
       go_ret2
       exact jm.mk HF.out (by decide) HS.out rfl
      ·go_wp2_with fail
       refine HR.out _ _ ⟨i+1,rfl,by omega,HCN.out,LG.out⟩ ?_;simp [intOf];omega
     ·obtain rfl:i=m.eA.length:=by omega
      replace HF:=V (HF.out.trans (aC (by rw [HCF.out];simp)));clear q hi HCF;by_cases qe:m.eK.length≠0/\m.mem.has=false
      ·replace HF:=V (HF.out.trans (aJ qe))
       have f1:decide ((0:Int) < (m.eK.length:Int))=true:=aA (by have:=qe.1;omega);have f2:decide (0 < m.eK.length)=true:=aA (by have:=qe.1;omega);rw [qe.2]at g6;clear qe;go_wp2_with fail
       go_ret2
       exact jm.mk HF.out (by decide) HS.out rfl
      replace HF:=V (HF.out.trans (aC qe));by_cases q0:m.eK.length=0
      ·have f1:decide ((0:Int) < (m.eK.length:Int))=false:=aq (by omega)
       have f2:decide (0 < m.eK.length)=false:=aq (by omega);clear qe q0;go_wp2_with fail
       go_ret2
       exact jm.mk HF.out (by decide) HS.out rfl
      ·have f1:decide ((0:Int) < (m.eK.length:Int))=true:=aA (by omega)
       have f2:decide (0 < m.eK.length)=true:=aA (by omega);have f3:m.mem.has=true:=by
        cases hh:m.mem.has with
        | true=>rfl
        | false=>exact absurd ⟨q0,hh⟩ qe
       rw [f3]at g6;clear qe q0 f3;go_wp2_with fail
       go_ret2
       exact jm.mk HF.out (by decide) HS.out rfl
  obtain⟨x,hx⟩:∃x,m.ep[i]?=some x:=⟨_,aw q⟩;have HTN:=V (show mI m [] (m.ep.take (i+1))=(tw || xO m (m.ep.take i) x)by
   rw [aR,hx,HTW.out];exact rM m x _ _)
  obtain⟨_,_,hv,_,_,Ln⟩:=HI.out.2.2.2.2.1.ext (Ext.eh HS.out);injection hv with e1 e2 e3;subst e1;obtain⟨b,off,rfl,-,LN⟩:=Ln i x hx;have y0:=LN 0 _ rfl;have y1:=LN 1 _ rfl;rw [aK]at y0;clear e2 e3 Ln LN hx;obtain⟨xn,xf⟩:=x;have HXB:=V (eP.new w1 #[.string xn, .int .i64 xf] 111);have LC:=(an w1.heap.size w1).alloc (ag _) (.cells #[.string xn, .int .i64 xf] 111);cases tw
  ·have h5:=(Ext.eh LC).1 _ _ H5.out
   have hb:=LC;replace HX:=V (HX.out.below hb HX.out.lt);replace HS:=V (HS.out.trans (hb.mono HS.out.size));replace H4:=V ((Ext.eh hb).1 _ _ H4.out);replace H5:=V ((Ext.eh hb).1 _ _ H5.out);replace LG:=V (LG.out.trans (hb.mono LG.out.size));clear hb LC;go_wp2_with fail;refine(uu m w.heap.size a1 a2 c1 c2 xf _ HX.out.mod.2.1 HX.out.mod.2.2.1 hn).mono ?_;rintro e w2 ⟨rfl,hb⟩;replace HX:=V (HX.out.below hb HX.out.lt);replace HS:=V (HS.out.trans (hb.mono HS.out.size));replace H4:=V ((Ext.eh hb).1 _ _ H4.out);replace H5:=V ((Ext.eh hb).1 _ _ H5.out);replace LG:=V (LG.out.trans (hb.mono LG.out.size));replace HXB:=V (HXB.out.below hb HXB.out.lt);clear hb h5 y0 y1;obtain⟨r,hr⟩:∃r,mb m xf=r:=⟨_,rfl⟩;rw [hr];replace HTN:=V (show mI m [] (m.ep.take (i+1))=(r || (m.ep.take i).any fun y=>xn.toList==y.name.toList)by rw [HTN.out, <- hr];rfl);clear hr;cases r
   ·have Mb:=HX.out.mod.2.2.2.2.2.2.2.2.2.2.1
    have MU:=vO (some ⟨b,off,none⟩) m.ep.length c4 i (by omega);go_wp2_with fail;refine(zA (fun y=>xn.toList==y.name.toList) _ (m.ep.take i) _ (ew.take (HI.out.2.2.2.2.1.ext (Ext.eh HS.out)) i hi) 59 #[.pointer (some ⟨w1.heap.size,0,none⟩)] (fun _ _=>by rfl) (fun e _ w' hb=>yi ⟨xn,xf⟩ e w1.heap.size w' ((Ext.eh hb).1 _ _ (HXB.out.cell 0)))).mono ?_;rintro e w3 ⟨rfl,hb⟩;replace LG:=V (LG.out.trans (hb.mono LG.out.size));clear hb Mb MU;obtain⟨r,hr⟩:∃r,((m.ep.take i).any fun y=>xn.toList==y.name.toList)=r:=⟨_,rfl⟩;rw [hr]at HTN⊢;clear hr;go_wp2_with fail;refine HR.out _ _ ⟨r,i+1,rfl,by omega,HTN.out.symm,LG.out⟩ ?_;simp [intOf];omega
   ·go_wp2_with fail
    refine HR.out _ _ ⟨true,i+1,rfl,by omega,HTN.out.symm,LG.out⟩ ?_;simp [intOf];omega
  ·replace LG:=V (LG.out.trans (LC.mono LG.out.size))
   clear LC;go_wp2_with fail;refine HR.out _ _ ⟨true,i+1,rfl,by omega,HTN.out.symm,LG.out⟩ ?_;simp [intOf];omega
end Go.Proofs.YthbjdhjppbcneaaGreatDoor
