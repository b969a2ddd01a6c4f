import Derived.Test.YtjmeglibedbljaaGreatDoorRunNoneJ8
import Derived.Maps.OwnSet
namespace Go.Proofs.YtjmeglibedbljaaGreatDoor
set_option maxRecDepth 100000
set_option maxHeartbeats 20000000
open Go.RowKit Tryz
open Lib renaming hid->V
set_option linter.all false
theorem eD.Jh {w:World} {X:Nat} {x0 x1 x2:Int} {b:Bool} {t:TypeId} (h:eD w X #[.int .i64 x0, .int .i64 x1, .int .i64 x2, .bool b] t):
  (loadVar 191 ⟨X,0,none⟩).run prog w= .ok (.agg #[.int .i64 x0, .int .i64 x1, .int .i64 x2, .bool b]) w:=by
 have hs:(prog.underlying 191).map (fun d=>match d with | .struct _ | .array _ _=>true | _=>false)=some true:=by kernel_rfl
 obtain⟨d,h1,h2⟩:=bu.1 hs;exact bU w X t 191 _ _ d h h1 (by cases d <;>first | rfl | (exfalso;simp at h2)) (by kernel_rfl)
def GQ (t:mJ):Value:= .agg #[.int .i64 t.op, .int .i64 t.kind, .int .i64 t.eJ, .bool t.dead]
theorem pV (a:Option Addr) (len cap k:Nat) (h:k <=cap) (wx:World):
  (Instr.slice 184 (.slice a len cap) none (some (.int .i64 k)) none).run prog wx= .ok (.slice a k cap) wx:=by
 have hu:prog.underlying 184=some (.slice 191):=by kernel_rfl
 obtain⟨i0,hi,NM,ME,Nd⟩:=bV vZ;simp [Instr.slice,bj hu,Instr.sliceBounds,Instr.sliceBound,sizeOf,typeInfo,hi,asIntOf,h];cases a <;>simp [Addr.add]
theorem dS.fV {α:Type} {t t':TypeId} {k:Nat} {enc:α ->List Value} {w:World} {B X:Nat} {v:Value} {l:List α} {xs:Array Value} (h:dS t k enc w B v l) (hb:eD w X xs t') (MO:t≠t'):∀i,ez v i ->¬ i=X:=by
 intro i hi he;subst he;obtain⟨_,⟨hv,_⟩ | ⟨g,cap,cur,hv,_,hg,_⟩⟩:=h
 ·rw [hv]at hi;simp [ez,Value.ownBlock]at hi
 ·rw [hv]at hi
  simp [ez,Value.ownBlock]at hi;subst hi;have:=hb.symm.trans hg;injection this with this;injection this with e1 e2;exact MO e2.symm
theorem D4 (w1:World) (C:Nat) (u:eE) (m:eu) (lv:Value) (w:World) (c:eH) (h:fU w1 C u m lv w c) (LF:gN c):
  Calls prog 118 #[.pointer (some ⟨C,0,none⟩)] w (fun e w'=>e= .returned (GQ c.top)/\fU w1 C u m lv w' c.shut.2/\dU (fun i=>i=C) w w'):=by
 have Mv:=V LF;have LD:=h.lt;obtain⟨dX,eM,bad⟩:=c;obtain⟨cs,t,rfl⟩:=qQ LF.2;rw [mz];have HSH:Hid ((eH.shut ⟨dX,cs++[t],bad⟩).2={(eH.fL ⟨dX,cs++[t],bad⟩ (gx t.kind)).need ((eH.fL ⟨dX,cs++[t],bad⟩ (gx t.kind)).dX.length==t.eJ)with eM:=cs}):=V (by
  unfold eH.shut eH.Cr;rw [mz];simp only [eH.mR,eH.ik,List.dropLast_concat])
 have HK0:dU (fun i=>i=C) w (w.alloc (.cells #[.int .i64 0, .int .i64 0, .int .i64 0, .bool false] 191)):=(dU.refl _ _).alloc _;have Pv:=eD.new w #[.int .i64 0, .int .i64 0, .int .i64 0, .bool false] 191;obtain⟨v,v',hb,hv,hc,hk,hC⟩:=h;obtain⟨g,cap,rfl,L7,Nc,Pm,NC,NS⟩:=BM.of hb rfl hc;have C16:=V NS.1;have H:=V ((show fU w1 C u m lv w ⟨dX,cs++[t],bad⟩from⟨v,_,hb,hv,hc,hk,hC⟩).alloc (.cells #[.int .i64 0, .int .i64 0, .int .i64 0, .bool false] 191));have hCl:=hb.lt;have hsw:=hk.size;have Pa:=V (BM.keeps (S:=fun _=>False) NS ((dU.refl (fun _=>False) w).alloc (.cells #[.int .i64 0, .int .i64 0, .int .i64 0, .bool false] 191)) ⟨hCl,fun h=>h⟩ ⟨NC,fun h=>h⟩);have HQ:Hid ((w.alloc (.cells #[.int .i64 0, .int .i64 0, .int .i64 0, .bool false] 191)).cell? ⟨C,16,none⟩=w.cell? ⟨C,16,none⟩):=V (((an w.heap.size w).alloc (ag _) _).cell hCl);have hsA:(w.alloc (.cells #[.int .i64 0, .int .i64 0, .int .i64 0, .bool false] 191)).heap.size=w.heap.size+1:=aC _ _;have hlA:=H.out.lt.1;clear hb hv hc hk NS LF LD;go_enter func118,ntmps118;go_wp2_with fail;obtain⟨wA,PL⟩:∃wA,wA=w.alloc (.cells #[.int .i64 0, .int .i64 0, .int .i64 0, .bool false] 191):=⟨_,rfl⟩;rw [<- PL]at HK0 Pv H Pa HQ hsA hlA⊢;clear PL;have HSA:=V hsA;have hgA:g < wA.heap.size:=by omega
 have hYA:wA.heap.size=w.heap.size+1:=hsA;refine ea (BM C g cs.length cap t) (up 0 12 ((12,false)::(13,false)::[])) (by kernel_rfl) (by kernel_rfl) Pa.out ?_;clear hsA hYA;iterate 12 (first | (apply sk rfl rfl;simp only [pt]) | (apply dV rfl rfl rfl;·(rintro w' ⟨t0,t1,t2,t3,t4⟩;go_wp2;exact⟨rfl,rfl,rfl⟩)))
 refine dZ rfl rfl ?_;go_wp2_with fail;refine⟨Pa.out.keeps ((dU.refl (fun _=>False) wA).drew.alloc _) ⟨hlA,fun h=>h⟩ ⟨hgA,fun h=>h⟩,?_⟩;refine dZ rfl rfl ?_;go_wp2_with fail;have LY:=V (qp wA t);have HX:=V (tH wA t);unfold Ej at LY HX;rw [HSA.out];have HX:=V (show eD _ (w.heap.size+1) _ _ by have:=HX.out;rw [HSA.out]at this;exact this);have HS:=V (H.out.below LY.out);have HR:=V (Pv.below LY.out Pv.lt);have HK:=V (HK0.trans (dU.dW (S:=fun _=>False) LY.out) (fun _ h=>h.elim));have HQ:=V ((LY.out.cell (p:=⟨C,16,none⟩) hlA).trans HQ.out);refine⟨Pa.out.keeps (dU.dW (S:=fun _=>False) LY.out) ⟨hlA,fun h=>h⟩ ⟨hgA,fun h=>h⟩,?_⟩;refine eF ?_;refine aA ?_;generalize(wA.alloc (.cells #[.int .i64 t.op, .int .i64 t.kind, .int .i64 t.eJ, .bool t.dead] 191)).drew=wb at HX HS HR HK HQ⊢;clear LY Pa H HK0 Pv HSA hlA hgA;have HXL:=V (show w.heap.size+1 < wb.heap.size from HX.out.lt);have x1:=HX.out.cell 1;simp only [aM,aJ,aT]at x1;go_wp2_with fail;refine(mN t.kind wb C HS.out.lt.1).mono ?_;rintro e w2 ⟨kv,rfl,hl,hb⟩;have HL:=V hl;have HS:=V (HS.out.below hb);have HX:=V (HX.out.below hb HX.out.lt);have HR:=V (HR.out.below hb HR.out.lt);have HK:=V (HK.out.trans (dU.dW (S:=fun _=>False) hb) (fun _ h=>h.elim));have HQ:=V ((hb.cell (p:=⟨C,16,none⟩) (bo hCl (aQ (dP _) (Nat.le_of_lt HXL.out)))).trans HQ.out);clear hl hb x1;go_wp2_with fail;refine(oE w1 C u m lv w2 _ kv (gx t.kind) HS.out Mv.out HL.out (by unfold gx;split <;>simp)).mono ?_;rintro e w3 ⟨rfl,hs,hk,hq⟩;have HS:=V hs;have HX:=V (HX.out.keeps hk (by omega));have HR:=V (HR.out.keeps hk (by omega));have HK:=V (HK.out.trans hk (fun _ h=> .inl h));have HQ:=V (hq.trans HQ.out);clear hs hk hq;obtain⟨L,hL⟩:∃L,(eH.fL ⟨dX,cs++[t],bad⟩ (gx t.kind)).dX.length=L:=⟨_,rfl⟩;obtain⟨v,v',hb,hv,-,-,-⟩:=HS.out;obtain⟨av,cv,rfl,-,-⟩:=hv.slice;rw [hL]at hb hv HSH;have Oz:w3.cell? ⟨C,15,none⟩=some (.slice av L cv):=hb.cell 15;have x2:w3.cell? ⟨w.heap.size+1,2,none⟩=some (.int .i64 t.eJ):=HX.out.cell 2;clear hb hv hL;by_cases q:L=t.eJ
 ·have f1:((L:Int)==(t.eJ:Int))=true:=eI (by omega)
  have f2:(L==t.eJ)=true:=by simp [q]
  have HND:=V f2;clear q;go_wp2_with fail;refine eK (fun w'=>w'.cell? ⟨C,15,none⟩=some (.slice av L cv)/\w'.cell? ⟨w.heap.size+1,2,none⟩=some (.int .i64 t.eJ)) 9 (up 0 9 []) (by kernel_rfl) (by kernel_rfl) ⟨Oz,x2⟩ ?_;clear Oz x2;iterate 9 (first | (apply sk rfl rfl;simp only [pt]) | (apply dV rfl rfl rfl;·(rintro w' ⟨t0,t1⟩;go_wp2;exact⟨rfl,rfl,rfl⟩)))
  refine fu rfl rfl ?_;have HS:=V HS.out.drew;have HX:=V HX.out.drew;have HR:=V HR.out.drew;have HK:=V HK.out.drew;have HQ:=V (show w3.drew.cell? ⟨C,16,none⟩=w.cell? ⟨C,16,none⟩from HQ.out);generalize w3.drew=w4 at HS HX HR HK HQ⊢;go_wp2_with fail;refine(jw w1 C u m lv w4 _ true HS.out).mono ?_;rintro e w5 ⟨rfl,hs,hk,hq⟩;have HS:=V hs;have HX:=V (HX.out.keeps hk (by omega));have HR:=V (HR.out.keeps hk (by omega));have HK:=V (HK.out.trans hk (fun _ h=> .inl h));have HQ:=V (hq.trans HQ.out);clear hs hk hq;go_wp2;refine⟨trivial,?_⟩;refine aA ?_;have HX:=V HX.out.drew;have HR:=V HR.out.drew;have HK:=V HK.out.drew;obtain⟨v,v',hb,hv,hc,hk,-⟩:=HS.out.drew;have LM:dS 191 4 xV w5.drew w1.heap.size v' (cs++[t]):=by
   have MV:=hc;rw [show((eH.fL ⟨dX,cs++[t],bad⟩ (gx t.kind)).need true).eM=cs++[t]from by rw [eH.mR,eH.ik]]at MV;exact MV
  obtain⟨g2,LA,rfl,hcap2,hcm2,hg3,hg4,NS⟩:=BM.of hb rfl LM;have Q9:w5.drew.cell? ⟨C,16,none⟩=some (.slice (some ⟨g2,0,none⟩) (cs.length+1) LA):=NS.1;have hgg:g2 < w.heap.size:=by
   have h1:w5.cell? ⟨C,16,none⟩=some (.slice (some ⟨g2,0,none⟩) (cs.length+1) LA):=NS.1;have h2:=HQ.out;rw [h1,C16.out]at h2;injection h2 with h2;injection h2 with h2;injection h2 with h2;injection h2 with h2;omega
  have z16:=hb.free 16;have MQ:=pV (some ⟨g2,0,none⟩) (cs.length+1) LA cs.length (by omega);have LK:=V hb;have OS:=V hv;have HCC:=V LM;have PV:=V hk;clear hb hv hc LM hk NS;go_wp2_with fail;refine eK (fun w'=>w'.cell? ⟨C,16,none⟩=some (.slice (some ⟨g2,0,none⟩) (cs.length+1) LA)) 14 (up 0 14 []) (by kernel_rfl) (by kernel_rfl) Q9 ?_;iterate 14 (first | (apply sk rfl rfl;simp only [pt]) | (apply dV rfl rfl rfl;·(rintro w' t0;go_wp2;exact⟨rfl,rfl,rfl⟩)))
  refine fu rfl rfl ?_;generalize w5.drew=w7 at HX HR HK LK OS HCC PV Q9 z16 hg4⊢;go_wp2_with fail;have Lx:=ei w7 C 16 (.slice (some ⟨g2,0,none⟩) cs.length LA);have hT:=dS.take jt HCC.out cs.length (by simp);rw [dw rfl]at hT;have HT:=V (hT.keeps Lx (fun i hi h=>by have:=(ey hT hi).1;omega));have OS:=V (OS.out.keeps Lx (fun i hi h=>by have:=(ey OS.out hi).1;omega));have LK:=V (show eD _ C (s8 u m lv v (.slice (some ⟨g2,0,none⟩) cs.length LA) ((eH.fL ⟨dX,cs++[t],bad⟩ (gx t.kind)).need true).bad) 186 from LK.out.set 16 (.slice (some ⟨g2,0,none⟩) cs.length LA));have PV:=V (PV.out.trans Lx (fun _ h=> .inl h));have HX:=V (HX.out.keeps Lx (by omega));have HR:=V (HR.out.keeps Lx (by omega));have HK:=V (HK.out.trans Lx (fun _ h=> .inl h));refine⟨trivial,?_⟩;refine aA ?_;clear Lx hT Q9 z16 MQ;generalize w7.setCell ⟨C,16,none⟩ (.slice (some ⟨g2,0,none⟩) cs.length LA)=w8 at HX HR HK HT OS LK PV⊢;obtain⟨⟨x0,x1,x2,x3⟩,-,-,-,-⟩:=HX.out.four;obtain⟨⟨r0,r1,r2,r3⟩,zr0,zr1,zr2,zr3⟩:=HR.out.four;go_wp2_with fail;have hx:=HR.out.tN (.int .i64 t.op) (.int .i64 t.kind) (.int .i64 t.eJ) (.bool t.dead);have Lx:=mq w8 w.heap.size (.int .i64 t.op) (.int .i64 t.kind) (.int .i64 t.eJ) (.bool t.dead);refine aF (ej rfl _ _ rfl hx.Jh) rfl ?_;refine⟨rfl,?_,HK.out.trans Lx (fun i hi=> .inr (by omega))⟩;rw [HSH.out,HND.out];exact⟨v,_,LK.out.keeps Lx (by omega),OS.out.keeps Lx (OS.out.fV HR.out (by decide)),HT.out.keeps Lx (fun i hi h=>absurd (show g2=i by simpa [ez,Value.ownBlock] using hi) (by omega)),PV.out.trans Lx (fun i hi=> .inr (by omega)),hC⟩
 ·have f1:((L:Int)==(t.eJ:Int))=false:=dR (by omega)
  have f2:(L==t.eJ)=false:=by simp [q]
  have HND:=V f2;clear q;go_wp2_with fail;refine eK (fun w'=>w'.cell? ⟨C,15,none⟩=some (.slice av L cv)/\w'.cell? ⟨w.heap.size+1,2,none⟩=some (.int .i64 t.eJ)) 9 (up 0 9 []) (by kernel_rfl) (by kernel_rfl) ⟨Oz,x2⟩ ?_;clear Oz x2;iterate 9 (first | (apply sk rfl rfl;simp only [pt]) | (apply dV rfl rfl rfl;·(rintro w' ⟨t0,t1⟩;go_wp2;exact⟨rfl,rfl,rfl⟩)))
  refine fu rfl rfl ?_;have HS:=V HS.out.drew;have HX:=V HX.out.drew;have HR:=V HR.out.drew;have HK:=V HK.out.drew;have HQ:=V (show w3.drew.cell? ⟨C,16,none⟩=w.cell? ⟨C,16,none⟩from HQ.out);generalize w3.drew=w4 at HS HX HR HK HQ⊢;go_wp2_with fail;refine(jw w1 C u m lv w4 _ false HS.out).mono ?_;rintro e w5 ⟨rfl,hs,hk,hq⟩;have HS:=V hs;have HX:=V (HX.out.keeps hk (by omega));have HR:=V (HR.out.keeps hk (by omega));have HK:=V (HK.out.trans hk (fun _ h=> .inl h));have HQ:=V (hq.trans HQ.out);clear hs hk hq;go_wp2;refine⟨trivial,?_⟩;refine aA ?_;have HX:=V HX.out.drew;have HR:=V HR.out.drew;have HK:=V HK.out.drew;obtain⟨v,v',hb,hv,hc,hk,-⟩:=HS.out.drew;have LM:dS 191 4 xV w5.drew w1.heap.size v' (cs++[t]):=by
   have MV:=hc;rw [show((eH.fL ⟨dX,cs++[t],bad⟩ (gx t.kind)).need false).eM=cs++[t]from by rw [eH.mR,eH.ik]]at MV;exact MV
  obtain⟨g2,LA,rfl,hcap2,hcm2,hg3,hg4,NS⟩:=BM.of hb rfl LM;have Q9:w5.drew.cell? ⟨C,16,none⟩=some (.slice (some ⟨g2,0,none⟩) (cs.length+1) LA):=NS.1;have hgg:g2 < w.heap.size:=by
   have h1:w5.cell? ⟨C,16,none⟩=some (.slice (some ⟨g2,0,none⟩) (cs.length+1) LA):=NS.1;have h2:=HQ.out;rw [h1,C16.out]at h2;injection h2 with h2;injection h2 with h2;injection h2 with h2;injection h2 with h2;omega
  have z16:=hb.free 16;have MQ:=pV (some ⟨g2,0,none⟩) (cs.length+1) LA cs.length (by omega);have LK:=V hb;have OS:=V hv;have HCC:=V LM;have PV:=V hk;clear hb hv hc LM hk NS;go_wp2_with fail;refine eK (fun w'=>w'.cell? ⟨C,16,none⟩=some (.slice (some ⟨g2,0,none⟩) (cs.length+1) LA)) 14 (up 0 14 []) (by kernel_rfl) (by kernel_rfl) Q9 ?_;iterate 14 (first | (apply sk rfl rfl;simp only [pt]) | (apply dV rfl rfl rfl;·(rintro w' t0;go_wp2;exact⟨rfl,rfl,rfl⟩)))
  refine fu rfl rfl ?_;generalize w5.drew=w7 at HX HR HK LK OS HCC PV Q9 z16 hg4⊢;go_wp2_with fail;have Lx:=ei w7 C 16 (.slice (some ⟨g2,0,none⟩) cs.length LA);have hT:=dS.take jt HCC.out cs.length (by simp);rw [dw rfl]at hT;have HT:=V (hT.keeps Lx (fun i hi h=>by have:=(ey hT hi).1;omega));have OS:=V (OS.out.keeps Lx (fun i hi h=>by have:=(ey OS.out hi).1;omega));have LK:=V (show eD _ C (s8 u m lv v (.slice (some ⟨g2,0,none⟩) cs.length LA) ((eH.fL ⟨dX,cs++[t],bad⟩ (gx t.kind)).need false).bad) 186 from LK.out.set 16 (.slice (some ⟨g2,0,none⟩) cs.length LA));have PV:=V (PV.out.trans Lx (fun _ h=> .inl h));have HX:=V (HX.out.keeps Lx (by omega));have HR:=V (HR.out.keeps Lx (by omega));have HK:=V (HK.out.trans Lx (fun _ h=> .inl h));refine⟨trivial,?_⟩;refine aA ?_;clear Lx hT Q9 z16 MQ;generalize w7.setCell ⟨C,16,none⟩ (.slice (some ⟨g2,0,none⟩) cs.length LA)=w8 at HX HR HK HT OS LK PV⊢;obtain⟨⟨x0,x1,x2,x3⟩,-,-,-,-⟩:=HX.out.four;obtain⟨⟨r0,r1,r2,r3⟩,zr0,zr1,zr2,zr3⟩:=HR.out.four;go_wp2_with fail;have hx:=HR.out.tN (.int .i64 t.op) (.int .i64 t.kind) (.int .i64 t.eJ) (.bool t.dead);have Lx:=mq w8 w.heap.size (.int .i64 t.op) (.int .i64 t.kind) (.int .i64 t.eJ) (.bool t.dead);refine aF (ej rfl _ _ rfl hx.Jh) rfl ?_;refine⟨rfl,?_,HK.out.trans Lx (fun i hi=> .inr (by omega))⟩;rw [HSH.out,HND.out];exact⟨v,_,LK.out.keeps Lx (by omega),OS.out.keeps Lx (OS.out.fV HR.out (by decide)),HT.out.keeps Lx (fun i hi h=>absurd (show g2=i by simpa [ez,Value.ownBlock] using hi) (by omega)),PV.out.trans Lx (fun i hi=> .inr (by omega)),hC⟩
def Hx (w1:World) (C:Nat) (u:eE) (m:eu) (lv:Value) (c:eH) (w:World) (e:Ending) (w':World):Prop:=e= .returned (GQ c.top)/\fU w1 C u m lv w' c.shut.2/\dU (fun i=>i=C) w w'
theorem uR (w1:World) (C:Nat) (u:eE) (m:eu) (lv:Value) (w:World) (c:eH) (h:fU w1 C u m lv w c) (LF:gN c):
  Calls prog 118 #[.pointer (some ⟨C,0,none⟩)] w (Hx w1 C u m lv c w):=D4 w1 C u m lv w c h LF
structure yr where
 table:List Int
 globals:List eX
def nx (w:World) (B X:Nat) (e:yr):Prop:=∃v v',eD w X #[v,v'] 161/\dS 3 1 eU w B v e.table/\dS 52 2 fD w B v' e.globals
def gr (m:eu):yr:=⟨if m.table.has=true then List.replicate m.table.min.toNat (-1)else [],m.globals.map jz.init⟩
def F6 (m:eu) (w:World) (e:Ending) (w':World):Prop:=∃X,e= .returned (.pointer (some ⟨X,0,none⟩))/\nx w' w.heap.size X (gr m)/\w.heap.size <=X/\Below w.heap.size w w'
theorem xH (m:eu) (u:eE) (w:World) (hm:eo w u m) (ht:m.table.has=true ->0 <=m.table.min/\m.table.min <=1000) (hg:m.globals.length <=1000):Calls prog 37 #[.agg (u.cells m)] w (F6 m w):=by
 have HI:=V hm;obtain⟨a0,c0,a1,c1,a2,c2,a3,c3,a4,c4,a5,c5,a6,c6,a7,c7,rfl⟩:=eo.open hm;clear hm;simp only [eE.cells];have LR:=(an w.heap.size w).alloc (ag _) (.cells #[.slice a0 m.types.length c0, .slice a1 m.imports.length c1, .slice a2 m.funcs.length c2, .bool m.table.has, .int .i64 m.table.min, .int .i64 m.table.max, .bool m.mem.has, .int .i64 m.mem.min, .int .i64 m.mem.max, .slice a3 m.globals.length c3, .slice a4 m.dY.length c4, .slice a5 m.elems.length c5, .slice a6 m.eh.length c6, .slice a7 m.eA.length c7] 35);have HS:=V (LR.alloc (by rw [aC];omega) (.cells #[.slice none 0 0, .slice none 0 0] 161));have HX:=V ((eD.new w #[.slice a0 m.types.length c0, .slice a1 m.imports.length c1, .slice a2 m.funcs.length c2, .bool m.table.has, .int .i64 m.table.min, .int .i64 m.table.max, .bool m.mem.has, .int .i64 m.mem.min, .int .i64 m.mem.max, .slice a3 m.globals.length c3, .slice a4 m.dY.length c4, .slice a5 m.elems.length c5, .slice a6 m.eh.length c6, .slice a7 m.eA.length c7] 35).alloc (.cells #[.slice none 0 0, .slice none 0 0] 161));have hy:=eD.new (w.alloc (.cells #[.slice a0 m.types.length c0, .slice a1 m.imports.length c1, .slice a2 m.funcs.length c2, .bool m.table.has, .int .i64 m.table.min, .int .i64 m.table.max, .bool m.mem.has, .int .i64 m.mem.min, .int .i64 m.mem.max, .slice a3 m.globals.length c3, .slice a4 m.dY.length c4, .slice a5 m.elems.length c5, .slice a6 m.eh.length c6, .slice a7 m.eA.length c7] 35)) #[.slice none 0 0, .slice none 0 0] 161;rw [aC]at hy;have HY:=V hy;clear LR hy;obtain⟨has,hhas⟩:∃has,m.table.has=has:=⟨_,rfl⟩;rw [hhas]at HS HX HY ht⊢;cases has
 ·go_enter func37,ntmps37
  go_wp2_with fail;obtain⟨w5,PL⟩:∃w5,w5=(w.alloc (.cells #[.slice a0 m.types.length c0, .slice a1 m.imports.length c1, .slice a2 m.funcs.length c2, .bool false, .int .i64 m.table.min, .int .i64 m.table.max, .bool m.mem.has, .int .i64 m.mem.min, .int .i64 m.mem.max, .slice a3 m.globals.length c3, .slice a4 m.dY.length c4, .slice a5 m.elems.length c5, .slice a6 m.eh.length c6, .slice a7 m.eA.length c7] 35)).alloc (.cells #[.slice none 0 0, .slice none 0 0] 161):=⟨_,rfl⟩;rw [<- PL]at HS HX HY⊢;clear PL;have HP:=V (show nx w5 w.heap.size (w.heap.size+1) ⟨[],[]⟩from⟨_,_,HY.out,dS.nil _ _,dS.nil _ _⟩);have HT:=V (show gr m=⟨[],m.globals.map jz.init⟩by unfold gr;rw [hhas];rfl);clear HX HY;refine eC (fun a' w'=>∃(i:Nat),a'=fr (gs a' 0 3 (.pointer (some ⟨w.heap.size+1,0,none⟩)::gs a' 4 17 (.slice a3 m.globals.length c3:: .int .i64 m.globals.length:: .int .i64 i::gs a' 24 16 [])))/\i <=m.globals.length/\nx w' w.heap.size (w.heap.size+1) ⟨[],(m.globals.take i).map jz.init⟩/\Below w.heap.size w w') (fun a' _=>(m.globals.length - (intOf (a'.tmps.getD 23 undef)).toNat)) ?_ ?_
  ·exact⟨0,rfl,bB _,HP.out,HS.out⟩
  ·skip
   rintro R a' w1 ⟨i,Lv,hJ⟩ HR;dsimp only [fr,gs]at Lv;generalize slot a'=f at Lv;subst Lv;obtain⟨hi,Qc,hb⟩:=hJ;have Qw:=V Qc;have HB:=V hb;clear Qc hb;by_cases q:i < m.globals.length;rotate_left
   ·obtain rfl:i=m.globals.length:=by omega
    go_wp2;go_ret;exact⟨_,rfl,by rw [HT.out];have:=Qw.out;rwa [aU]at this,by omega,HB.out⟩
   obtain⟨x,hx⟩:∃x,m.globals[i]?=some x:=⟨_,aq q⟩;have HXI:=V hx;obtain⟨_,_,hv,_,_,Lt⟩:=HI.out.2.2.2.1.ext (Ext.dW HB.out);injection hv with e1 e2 e3;subst e1;obtain⟨b,off,rfl,-,LM⟩:=Lt i x hx;have y0:=LM 0 _ rfl;have y1:=LM 1 _ rfl;have y2:=LM 2 _ rfl;rw [aI]at y0;obtain⟨gv,⟨gk,gn⟩⟩:=x;obtain⟨v,v',LN,Og,L4⟩:=Qw.out;have Ru:((m.globals.take i).map jz.init).length=i:=by rw [bD,aP];omega
   obtain⟨av,cv,MK,-,-⟩:=L4.slice;rw [Ru]at MK;subst MK;have LG:=(an w1.heap.size w1).alloc (ag _) (.cells #[.bool gv, .int .i64 gk, .int .i64 gn] 73);have HG:=V (eD.new w1 #[.bool gv, .int .i64 gk, .int .i64 gn] 73).drew;have MA:=V (LN.below LG LN.lt).drew;have M4:=V (show dS _ _ _ (w1.alloc (.cells #[.bool gv, .int .i64 gk, .int .i64 gn] 73)).drew _ _ _ from Og.below LG.drew);have MX:=V (show dS _ _ _ (w1.alloc (.cells #[.bool gv, .int .i64 gk, .int .i64 gn] 73)).drew _ _ _ from L4.below LG.drew);have LY:=V (HB.out.trans (LG.mono HB.out.size)).drew;have s1:World.cell? _ ⟨w.heap.size+1,1,none⟩=some (.slice av i cv):=MA.out.cell 1;have s2:World.cell? _ ⟨w1.heap.size,1,none⟩=some (.int .i64 gk):=HG.out.cell 1;have s3:World.cell? _ ⟨w1.heap.size,2,none⟩=some (.int .i64 gn):=HG.out.cell 2;clear e2 e3 Lt LM hx LN Og L4 LG;go_wp2_with fail;refine eK (fun w'=>w'.cell? ⟨w.heap.size+1,1,none⟩=some (.slice av i cv)/\w'.cell? ⟨w1.heap.size,1,none⟩=some (.int .i64 gk)/\w'.cell? ⟨w1.heap.size,2,none⟩=some (.int .i64 gn)) 11 (up 0 7 ((7,false)::(8,false)::(9,true)::(10,true)::[])) (by kernel_rfl) (by kernel_rfl) ⟨s1,s2,s3⟩ ?_;clear s1 s2 s3 y0 y1 y2;generalize(w1.alloc (.cells #[.bool gv, .int .i64 gk, .int .i64 gn] 73)).drew=w2 at HG MA M4 MX LY⊢;iterate 7 (first | (apply sk rfl rfl;simp only [pt]) | (apply dV rfl rfl rfl;·(rintro w' ⟨t0,t1,t2⟩;go_wp2;exact⟨rfl,rfl,rfl⟩)))
   refine dZ rfl rfl ?_;go_wp2_with fail;refine⟨⟨(MA.out.alloc _).cell 1,(HG.out.alloc _).cell 1,(HG.out.alloc _).cell 2⟩,?_⟩;refine dZ rfl rfl ?_;go_wp2_with (first | (at_builtin;refine fb w2 rfl _ _ 47 rfl _ 16 (by kernel_rfl) kL rfl (by decide) (by decide) w.heap.size (.slice av i cv) ((m.globals.take i).map jz.init) rfl MX.out (⟨gk,gn⟩:eX) _ rfl rfl (lD _) rfl (by rw [Ru];omega) LY.out.size ?_));intro v2 w3 Nl Mz N4;obtain⟨a3',c3',MK,-,-⟩:=Nl.slice;replace MK:v2= .slice a3' (i+1) c3':=by rw [MK];congr 1;simp;omega
   subst MK;have hnb:=dS.fV MX.out MA.out (by decide);have hng:=dS.fV MX.out HG.out (by decide);replace MA:=V (MA.out.keeps Mz (fun h=>hnb _ h rfl));replace HG:=V (HG.out.keeps Mz (fun h=>hng _ h rfl));replace M4:=V (M4.out.keeps Mz (fun i hi=>dS.ne M4.out MX.out (by decide) i hi));replace LY:=V (LY.out.trans (Mz.below LY.out.size (fun i hi=>(ey MX.out hi).1)));replace MX:=V Nl;clear hnb hng Mz N4 Nl;go_wp2_with fail;refine⟨⟨MA.out.cell 1,HG.out.cell 1,HG.out.cell 2⟩,?_⟩;iterate 2 (first | (apply sk rfl rfl;simp only [pt]) | (apply dV rfl rfl rfl;·(rintro w' ⟨t0,t1,t2⟩;go_wp2;exact⟨rfl,rfl,rfl⟩)))
   refine fu rfl rfl ?_;have c1:w3.cell? ⟨w.heap.size+1,1,none⟩=some (.slice av i cv):=MA.out.cell 1;have z1:=MA.out.free 1;go_wp2;refine⟨trivial,?_⟩;refine aA ?_;clear c1 z1;go_wp2_with fail;have Lx:=ei w3 (w.heap.size+1) 1 (.slice a3' (i+1) c3');refine HR.out _ _ ⟨i+1,rfl,by omega,⟨_,_,MA.out.set 1 _,M4.out.keeps Lx (dS.fV M4.out MA.out (by decide)),?_⟩,LY.out.trans (Lx.below LY.out.size (fun i hi=>by omega))⟩ ?_
   ·rw [aR,HXI.out,cn,List.map_take]
    exact MX.out.keeps Lx (dS.fV MX.out MA.out (by decide))
   ·simp [intOf]
    omega
 ·obtain⟨n,hn⟩:∃n:Nat,m.table.min=n:=⟨m.table.min.toNat,by have:=(ht rfl).1;omega⟩
  have hn2:n <=1000:=by have:=(ht rfl).2;omega
  rw [hn]at HS HX HY⊢;rcases aZ n with hz | PX
  ·subst hz
   have e0:((0:Nat):Int)=0:=rfl;rw [e0]at HS HX HY⊢;go_enter func37,ntmps37;go_wp2_with fail;obtain⟨wA,PL⟩:∃wA,wA=(w.alloc (.cells #[.slice a0 m.types.length c0, .slice a1 m.imports.length c1, .slice a2 m.funcs.length c2, .bool true, .int .i64 0, .int .i64 m.table.max, .bool m.mem.has, .int .i64 m.mem.min, .int .i64 m.mem.max, .slice a3 m.globals.length c3, .slice a4 m.dY.length c4, .slice a5 m.elems.length c5, .slice a6 m.eh.length c6, .slice a7 m.eA.length c7] 35)).alloc (.cells #[.slice none 0 0, .slice none 0 0] 161):=⟨_,rfl⟩;rw [<- PL]at HS HX HY⊢;have hAS:wA.heap.size=w.heap.size+2:=by rw [PL];simp
   clear PL;have LZ:=(an wA.heap.size wA).alloc (ag _) (.cells #[.int .i64 (-1)] 3);have Nl:dS 3 1 eU (wA.alloc (.cells #[.int .i64 (-1)] 3)) wA.heap.size (.slice (some ⟨wA.heap.size,0,none⟩) 1 1) [-1]:=⟨by simp [eU], .inr ⟨wA.heap.size,1,_,rfl,ag _,eD.new wA _ _,by simp,by simp [maxLen],by simp,by simp [eU]⟩⟩;have hi3:=Nl.fH fm;rw [hAS]at hi3;refine(qo _ 1 (-1) 0 (by omega) _ hi3).mono ?_;rintro e w4 ⟨g,rfl,ho,hb⟩;have MN:=LZ.trans (hb.mono LZ.size);have HY4:=V (HY.out.below MN HY.out.lt);replace HX:=V (HX.out.below MN HX.out.lt);replace HS:=V (HS.out.trans (MN.mono HS.out.size));have RE:wA.heap.size <=(wA.alloc (.cells #[.int .i64 (-1)] 3)).heap.size:=LZ.size;have HO:=V (ho.lower (show w.heap.size <=_ by omega));clear hb LZ MN ho Nl hi3 RE;have y0:=HY4.out.two.1;have z0:=HY4.out.two.2.2.1;obtain⟨g0,g1,g2,g3,g4,g5,g6,g7,g8,g9,L8,Mb,Mc,Md⟩:=HX.out.mod;go_wp2_with fail;clear g0 g1 g2 g3 g4 g5 g6 g7 g8 g9 L8 Mb Mc Md y0 z0;have Lx:=ei w4 (w.heap.size+1) 0 (.slice (some ⟨g,0,none⟩) 0 0);replace HS:=V (HS.out.trans (Lx.below HS.out.size (fun i hi=>by omega)));have HP:=V (show nx _ w.heap.size (w.heap.size+1) ⟨List.replicate 0 (-1),[]⟩from⟨_,_,HY4.out.set 0 (.slice (some ⟨g,0,none⟩) 0 0),HO.out.keeps Lx (dS.fV HO.out HY4.out (by decide)),dS.nil _ _⟩);have HT:=V (show gr m=⟨List.replicate 0 (-1),m.globals.map jz.init⟩by unfold gr;rw [hhas,hn];rfl);clear Lx HO HY4 HX;generalize w4.setCell ⟨w.heap.size+1,0,none⟩ (.slice (some ⟨g,0,none⟩) 0 0)=w5 at HS HP⊢;refine eC (fun a' w'=>∃(i:Nat),a'=fr (gs a' 0 3 (.pointer (some ⟨w.heap.size+1,0,none⟩)::gs a' 4 17 (.slice a3 m.globals.length c3:: .int .i64 m.globals.length:: .int .i64 i::gs a' 24 16 [])))/\i <=m.globals.length/\nx w' w.heap.size (w.heap.size+1) ⟨List.replicate 0 (-1),(m.globals.take i).map jz.init⟩/\Below w.heap.size w w') (fun a' _=>(m.globals.length - (intOf (a'.tmps.getD 23 undef)).toNat)) ?_ ?_
   ·exact⟨0,rfl,bB _,HP.out,HS.out⟩
   ·skip
    rintro R a' w1 ⟨i,Lv,hJ⟩ HR;dsimp only [fr,gs]at Lv;generalize slot a'=f at Lv;subst Lv;obtain⟨hi,Qc,hb⟩:=hJ;have Qw:=V Qc;have HB:=V hb;clear Qc hb;by_cases q:i < m.globals.length;rotate_left
    ·obtain rfl:i=m.globals.length:=by omega
     go_wp2;go_ret;exact⟨_,rfl,by rw [HT.out];have:=Qw.out;rwa [aU]at this,by omega,HB.out⟩
    obtain⟨x,hx⟩:∃x,m.globals[i]?=some x:=⟨_,aq q⟩;have HXI:=V hx;obtain⟨_,_,hv,_,_,Lt⟩:=HI.out.2.2.2.1.ext (Ext.dW HB.out);injection hv with e1 e2 e3;subst e1;obtain⟨b,off,rfl,-,LM⟩:=Lt i x hx;have y0:=LM 0 _ rfl;have y1:=LM 1 _ rfl;have y2:=LM 2 _ rfl;rw [aI]at y0;obtain⟨gv,⟨gk,gn⟩⟩:=x;obtain⟨v,v',LN,Og,L4⟩:=Qw.out;have Ru:((m.globals.take i).map jz.init).length=i:=by rw [bD,aP];omega
    obtain⟨av,cv,MK,-,-⟩:=L4.slice;rw [Ru]at MK;subst MK;have LG:=(an w1.heap.size w1).alloc (ag _) (.cells #[.bool gv, .int .i64 gk, .int .i64 gn] 73);have HG:=V (eD.new w1 #[.bool gv, .int .i64 gk, .int .i64 gn] 73).drew;have MA:=V (LN.below LG LN.lt).drew;have M4:=V (show dS _ _ _ (w1.alloc (.cells #[.bool gv, .int .i64 gk, .int .i64 gn] 73)).drew _ _ _ from Og.below LG.drew);have MX:=V (show dS _ _ _ (w1.alloc (.cells #[.bool gv, .int .i64 gk, .int .i64 gn] 73)).drew _ _ _ from L4.below LG.drew);have LY:=V (HB.out.trans (LG.mono HB.out.size)).drew;have s1:World.cell? _ ⟨w.heap.size+1,1,none⟩=some (.slice av i cv):=MA.out.cell 1;have s2:World.cell? _ ⟨w1.heap.size,1,none⟩=some (.int .i64 gk):=HG.out.cell 1;have s3:World.cell? _ ⟨w1.heap.size,2,none⟩=some (.int .i64 gn):=HG.out.cell 2;clear e2 e3 Lt LM hx LN Og L4 LG;go_wp2_with fail;refine eK (fun w'=>w'.cell? ⟨w.heap.size+1,1,none⟩=some (.slice av i cv)/\w'.cell? ⟨w1.heap.size,1,none⟩=some (.int .i64 gk)/\w'.cell? ⟨w1.heap.size,2,none⟩=some (.int .i64 gn)) 11 (up 0 7 ((7,false)::(8,false)::(9,true)::(10,true)::[])) (by kernel_rfl) (by kernel_rfl) ⟨s1,s2,s3⟩ ?_;clear s1 s2 s3 y0 y1 y2;generalize(w1.alloc (.cells #[.bool gv, .int .i64 gk, .int .i64 gn] 73)).drew=w2 at HG MA M4 MX LY⊢;iterate 7 (first | (apply sk rfl rfl;simp only [pt]) | (apply dV rfl rfl rfl;·(rintro w' ⟨t0,t1,t2⟩;go_wp2;exact⟨rfl,rfl,rfl⟩)))
    refine dZ rfl rfl ?_;go_wp2_with fail;refine⟨⟨(MA.out.alloc _).cell 1,(HG.out.alloc _).cell 1,(HG.out.alloc _).cell 2⟩,?_⟩;refine dZ rfl rfl ?_;go_wp2_with (first | (at_builtin;refine fb w2 rfl _ _ 47 rfl _ 16 (by kernel_rfl) kL rfl (by decide) (by decide) w.heap.size (.slice av i cv) ((m.globals.take i).map jz.init) rfl MX.out (⟨gk,gn⟩:eX) _ rfl rfl (lD _) rfl (by rw [Ru];omega) LY.out.size ?_));intro v2 w3 Nl Mz N4;obtain⟨a3',c3',MK,-,-⟩:=Nl.slice;replace MK:v2= .slice a3' (i+1) c3':=by rw [MK];congr 1;simp;omega
    subst MK;have hnb:=dS.fV MX.out MA.out (by decide);have hng:=dS.fV MX.out HG.out (by decide);replace MA:=V (MA.out.keeps Mz (fun h=>hnb _ h rfl));replace HG:=V (HG.out.keeps Mz (fun h=>hng _ h rfl));replace M4:=V (M4.out.keeps Mz (fun i hi=>dS.ne M4.out MX.out (by decide) i hi));replace LY:=V (LY.out.trans (Mz.below LY.out.size (fun i hi=>(ey MX.out hi).1)));replace MX:=V Nl;clear hnb hng Mz N4 Nl;go_wp2_with fail;refine⟨⟨MA.out.cell 1,HG.out.cell 1,HG.out.cell 2⟩,?_⟩;iterate 2 (first | (apply sk rfl rfl;simp only [pt]) | (apply dV rfl rfl rfl;·(rintro w' ⟨t0,t1,t2⟩;go_wp2;exact⟨rfl,rfl,rfl⟩)))
    refine fu rfl rfl ?_;have c1:w3.cell? ⟨w.heap.size+1,1,none⟩=some (.slice av i cv):=MA.out.cell 1;have z1:=MA.out.free 1;go_wp2;refine⟨trivial,?_⟩;refine aA ?_;clear c1 z1;go_wp2_with fail;have Lx:=ei w3 (w.heap.size+1) 1 (.slice a3' (i+1) c3');refine HR.out _ _ ⟨i+1,rfl,by omega,⟨_,_,MA.out.set 1 _,M4.out.keeps Lx (dS.fV M4.out MA.out (by decide)),?_⟩,LY.out.trans (Lx.below LY.out.size (fun i hi=>by omega))⟩ ?_
    ·rw [aR,HXI.out,cn,List.map_take]
     exact MX.out.keeps Lx (dS.fV MX.out MA.out (by decide))
    ·simp [intOf]
     omega
  ·skip
   go_enter func37,ntmps37;go_wp2_with fail;obtain⟨wA,PL⟩:∃wA,wA=(w.alloc (.cells #[.slice a0 m.types.length c0, .slice a1 m.imports.length c1, .slice a2 m.funcs.length c2, .bool true, .int .i64 n, .int .i64 m.table.max, .bool m.mem.has, .int .i64 m.mem.min, .int .i64 m.mem.max, .slice a3 m.globals.length c3, .slice a4 m.dY.length c4, .slice a5 m.elems.length c5, .slice a6 m.eh.length c6, .slice a7 m.eA.length c7] 35)).alloc (.cells #[.slice none 0 0, .slice none 0 0] 161):=⟨_,rfl⟩;rw [<- PL]at HS HX HY⊢;have hAS:wA.heap.size=w.heap.size+2:=by rw [PL];simp
   clear PL;have LZ:=(an wA.heap.size wA).alloc (ag _) (.cells #[.int .i64 (-1)] 3);have Nl:dS 3 1 eU (wA.alloc (.cells #[.int .i64 (-1)] 3)) wA.heap.size (.slice (some ⟨wA.heap.size,0,none⟩) 1 1) [-1]:=⟨by simp [eU], .inr ⟨wA.heap.size,1,_,rfl,ag _,eD.new wA _ _,by simp,by simp [maxLen],by simp,by simp [eU]⟩⟩;have hi3:=Nl.fH fm;rw [hAS]at hi3;refine(qo _ 1 (-1) n (by omega) _ hi3).mono ?_;rintro e w4 ⟨g,rfl,ho,hb⟩;have MN:=LZ.trans (hb.mono LZ.size);have HY4:=V (HY.out.below MN HY.out.lt);replace HX:=V (HX.out.below MN HX.out.lt);replace HS:=V (HS.out.trans (MN.mono HS.out.size));have RE:wA.heap.size <=(wA.alloc (.cells #[.int .i64 (-1)] 3)).heap.size:=LZ.size;have HO:=V (ho.lower (show w.heap.size <=_ by omega));clear hb LZ MN ho Nl hi3 RE;have y0:=HY4.out.two.1;have z0:=HY4.out.two.2.2.1;obtain⟨g0,g1,g2,g3,g4,g5,g6,g7,g8,g9,L8,Mb,Mc,Md⟩:=HX.out.mod;go_wp2_with fail;clear g0 g1 g2 g3 g4 g5 g6 g7 g8 g9 L8 Mb Mc Md y0 z0;have Lx:=ei w4 (w.heap.size+1) 0 (.slice (some ⟨g,0,none⟩) n n);replace HS:=V (HS.out.trans (Lx.below HS.out.size (fun i hi=>by omega)));have HP:=V (show nx _ w.heap.size (w.heap.size+1) ⟨List.replicate n (-1),[]⟩from⟨_,_,HY4.out.set 0 (.slice (some ⟨g,0,none⟩) n n),HO.out.keeps Lx (dS.fV HO.out HY4.out (by decide)),dS.nil _ _⟩);have HT:=V (show gr m=⟨List.replicate n (-1),m.globals.map jz.init⟩by unfold gr;rw [hhas,hn];rfl);clear Lx HO HY4 HX;generalize w4.setCell ⟨w.heap.size+1,0,none⟩ (.slice (some ⟨g,0,none⟩) n n)=w5 at HS HP⊢;refine eC (fun a' w'=>∃(i:Nat),a'=fr (gs a' 0 3 (.pointer (some ⟨w.heap.size+1,0,none⟩)::gs a' 4 17 (.slice a3 m.globals.length c3:: .int .i64 m.globals.length:: .int .i64 i::gs a' 24 16 [])))/\i <=m.globals.length/\nx w' w.heap.size (w.heap.size+1) ⟨List.replicate n (-1),(m.globals.take i).map jz.init⟩/\Below w.heap.size w w') (fun a' _=>(m.globals.length - (intOf (a'.tmps.getD 23 undef)).toNat)) ?_ ?_
   ·exact⟨0,rfl,bB _,HP.out,HS.out⟩
   ·skip
    rintro R a' w1 ⟨i,Lv,hJ⟩ HR;dsimp only [fr,gs]at Lv;generalize slot a'=f at Lv;subst Lv;obtain⟨hi,Qc,hb⟩:=hJ;have Qw:=V Qc;have HB:=V hb;clear Qc hb;by_cases q:i < m.globals.length;rotate_left
    ·obtain rfl:i=m.globals.length:=by omega
     go_wp2;go_ret;exact⟨_,rfl,by rw [HT.out];have:=Qw.out;rwa [aU]at this,by omega,HB.out⟩
    obtain⟨x,hx⟩:∃x,m.globals[i]?=some x:=⟨_,aq q⟩;have HXI:=V hx;obtain⟨_,_,hv,_,_,Lt⟩:=HI.out.2.2.2.1.ext (Ext.dW HB.out);injection hv with e1 e2 e3;subst e1;obtain⟨b,off,rfl,-,LM⟩:=Lt i x hx;have y0:=LM 0 _ rfl;have y1:=LM 1 _ rfl;have y2:=LM 2 _ rfl;rw [aI]at y0;obtain⟨gv,⟨gk,gn⟩⟩:=x;obtain⟨v,v',LN,Og,L4⟩:=Qw.out;have Ru:((m.globals.take i).map jz.init).length=i:=by rw [bD,aP];omega
    obtain⟨av,cv,MK,-,-⟩:=L4.slice;rw [Ru]at MK;subst MK;have LG:=(an w1.heap.size w1).alloc (ag _) (.cells #[.bool gv, .int .i64 gk, .int .i64 gn] 73);have HG:=V (eD.new w1 #[.bool gv, .int .i64 gk, .int .i64 gn] 73).drew;have MA:=V (LN.below LG LN.lt).drew;have M4:=V (show dS _ _ _ (w1.alloc (.cells #[.bool gv, .int .i64 gk, .int .i64 gn] 73)).drew _ _ _ from Og.below LG.drew);have MX:=V (show dS _ _ _ (w1.alloc (.cells #[.bool gv, .int .i64 gk, .int .i64 gn] 73)).drew _ _ _ from L4.below LG.drew);have LY:=V (HB.out.trans (LG.mono HB.out.size)).drew;have s1:World.cell? _ ⟨w.heap.size+1,1,none⟩=some (.slice av i cv):=MA.out.cell 1;have s2:World.cell? _ ⟨w1.heap.size,1,none⟩=some (.int .i64 gk):=HG.out.cell 1;have s3:World.cell? _ ⟨w1.heap.size,2,none⟩=some (.int .i64 gn):=HG.out.cell 2;clear e2 e3 Lt LM hx LN Og L4 LG;go_wp2_with fail;refine eK (fun w'=>w'.cell? ⟨w.heap.size+1,1,none⟩=some (.slice av i cv)/\w'.cell? ⟨w1.heap.size,1,none⟩=some (.int .i64 gk)/\w'.cell? ⟨w1.heap.size,2,none⟩=some (.int .i64 gn)) 11 (up 0 7 ((7,false)::(8,false)::(9,true)::(10,true)::[])) (by kernel_rfl) (by kernel_rfl) ⟨s1,s2,s3⟩ ?_;clear s1 s2 s3 y0 y1 y2;generalize(w1.alloc (.cells #[.bool gv, .int .i64 gk, .int .i64 gn] 73)).drew=w2 at HG MA M4 MX LY⊢;iterate 7 (first | (apply sk rfl rfl;simp only [pt]) | (apply dV rfl rfl rfl;·(rintro w' ⟨t0,t1,t2⟩;go_wp2;exact⟨rfl,rfl,rfl⟩)))
    refine dZ rfl rfl ?_;go_wp2_with fail;refine⟨⟨(MA.out.alloc _).cell 1,(HG.out.alloc _).cell 1,(HG.out.alloc _).cell 2⟩,?_⟩;refine dZ rfl rfl ?_;go_wp2_with (first | (at_builtin;refine fb w2 rfl _ _ 47 rfl _ 16 (by kernel_rfl) kL rfl (by decide) (by decide) w.heap.size (.slice av i cv) ((m.globals.take i).map jz.init) rfl MX.out (⟨gk,gn⟩:eX) _ rfl rfl (lD _) rfl (by rw [Ru];omega) LY.out.size ?_));intro v2 w3 Nl Mz N4;obtain⟨a3',c3',MK,-,-⟩:=Nl.slice;replace MK:v2= .slice a3' (i+1) c3':=by rw [MK];congr 1;simp;omega
    subst MK;have hnb:=dS.fV MX.out MA.out (by decide);have hng:=dS.fV MX.out HG.out (by decide);replace MA:=V (MA.out.keeps Mz (fun h=>hnb _ h rfl));replace HG:=V (HG.out.keeps Mz (fun h=>hng _ h rfl));replace M4:=V (M4.out.keeps Mz (fun i hi=>dS.ne M4.out MX.out (by decide) i hi));replace LY:=V (LY.out.trans (Mz.below LY.out.size (fun i hi=>(ey MX.out hi).1)));replace MX:=V Nl;clear hnb hng Mz N4 Nl;go_wp2_with fail;refine⟨⟨MA.out.cell 1,HG.out.cell 1,HG.out.cell 2⟩,?_⟩;iterate 2 (first | (apply sk rfl rfl;simp only [pt]) | (apply dV rfl rfl rfl;·(rintro w' ⟨t0,t1,t2⟩;go_wp2;exact⟨rfl,rfl,rfl⟩)))
    refine fu rfl rfl ?_;have c1:w3.cell? ⟨w.heap.size+1,1,none⟩=some (.slice av i cv):=MA.out.cell 1;have z1:=MA.out.free 1;go_wp2;refine⟨trivial,?_⟩;refine aA ?_;clear c1 z1;go_wp2_with fail;have Lx:=ei w3 (w.heap.size+1) 1 (.slice a3' (i+1) c3');refine HR.out _ _ ⟨i+1,rfl,by omega,⟨_,_,MA.out.set 1 _,M4.out.keeps Lx (dS.fV M4.out MA.out (by decide)),?_⟩,LY.out.trans (Lx.below LY.out.size (fun i hi=>by omega))⟩ ?_
    ·rw [aR,HXI.out,cn,List.map_take]
     exact MX.out.keeps Lx (dS.fV MX.out MA.out (by decide))
    ·simp [intOf]
     omega
theorem oH (a:Option Addr) (len cap:Nat) (h2:len <=cap) (ha:a=none ->cap=0):
  ∃dp,∀wx,(Instr.slice 26 (.slice a len cap) (some (.int .i64 len)) none none).run prog wx= .ok (.slice dp 0 (cap - len)) wx:=by
 have hu:prog.underlying 26=some (.slice 3):=by kernel_rfl
 obtain⟨i0,hi,NM,ME,Nd⟩:=bV jA;cases a with
 | none=>
  have:=ha rfl;subst this;obtain rfl:len=0:=by omega
  exact⟨none,fun wx=>by simp [Instr.slice,bj hu,Instr.sliceBounds,Instr.sliceBound,sizeOf,typeInfo,hi,asIntOf,Addr.add]⟩
 | some a=>
  by_cases q:cap=len
  ·exact⟨some a,fun wx=>by simp [Instr.slice,bj hu,Instr.sliceBounds,Instr.sliceBound,sizeOf,typeInfo,hi,asIntOf,Addr.add,q]⟩
  ·exact⟨some (a.add len),fun wx=>by simp [Instr.slice,bj hu,Instr.sliceBounds,Instr.sliceBound,sizeOf,typeInfo,hi,ME,asIntOf,Addr.add,q]⟩
theorem Jl (l:List Int):l.flatMap eU=l.map (Value.int .i64):=by
 induction l with
 | nil=>rfl
 | cons x l ih=>rw [bL,ih];rfl
theorem yF {α:Type} (cur T fs:List α) (k len:Nat) (ht:cur.take len=T) (hl:k+fs.length <=len) (hT:T.length=len):(cur.take k++(fs++cur.drop (k+fs.length))).take len=T.take k++fs++T.drop (k+fs.length):=by
 have hc:len <=cur.length:=by rw [<- ht,aP]at hT;omega
 have h1:T.take k=cur.take k:=by rw [<- ht,List.take_take,cm (by omega)]
 have h2:T.drop (k+fs.length)=(cur.drop (k+fs.length)).take (len - (k+fs.length)):=by rw [<- ht,List.drop_take]
 rw [h1,h2,List.take_append,List.take_append,aK,aP,cm (by omega),dd (by rw [aP];omega),dd (l:=fs) (by omega),show len - k - fs.length=len - (k+fs.length)by omega]
theorem yX (w:World) (g:Nat) (cs:Array Value):dU (fun i=>i=g) w (w.setRow g cs):=⟨rfl,rfl,rfl,by simp [World.setRow],fun k _ hk=>setRow_other w g k cs hk⟩
def iD (e:yr) (off:Int) (fs:List Int):Option yr:=
 if off < 0\/(e.table.length:Int) - fs.length < off then none else some {e with table:=e.table.take off.toNat++fs++e.table.drop (off.toNat+fs.length)}
def F9 (w:World) (B:Nat) (i:Nat):Prop:=B <=i/\∃xs,eD w i xs 3
def Iq (B X:Nat) (e:yr) (off:Int) (fs:List Int) (w:World) (en:Ending) (w':World):Prop:=
 en= .returned (.bool (iD e off fs).isSome)/\nx w' B X ((iD e off fs).getD e)/\dU (F9 w B) w w'
theorem xC (w:World) (B X:Nat) (e:yr) (fv:Value) (off:Int) (fs:List Int) (h:nx w B X e) (hf:ee 1 eU w fv fs):Calls prog 38 #[.pointer (some ⟨X,0,none⟩), .int .i64 off,fv] w (Iq B X e off fs w):=by
 have Qw:=V h;obtain⟨v,v',hx,Og,L4⟩:=h;obtain⟨av,cv,rfl,M6,Nc⟩:=Og.slice;obtain⟨af,cf,rfl,P7,hcfm⟩:=fk hf;have x0:w.cell? ⟨X,0,none⟩=some (.slice av e.table.length cv):=hx.cell 0;have HFS:=V hf;have HX:=V hx;have M4:=V Og;have MX:=V L4;clear hf hx Og L4;by_cases q1:off < 0
 ·have f1:decide (off < 0)=true:=ay q1
  have HE:=V (show iD e off fs=none by unfold iD;rw [if_pos (.inl q1)]);go_enter func38,ntmps38;go_wp2;go_ret;exact⟨by rw [HE.out];rfl,by rw [HE.out];exact Qw.out,dU.refl _ _⟩
 have f1:decide (off < 0)=false:=aw q1;by_cases q2:(e.table.length:Int) - fs.length < off
 ·have f2:decide ((e.table.length:Int) - (fs.length:Int) < off)=true:=ay q2
  have HE:=V (show iD e off fs=none by unfold iD;rw [if_pos (.inr q2)]);go_enter func38,ntmps38;go_wp2;go_ret;exact⟨by rw [HE.out];rfl,by rw [HE.out];exact Qw.out,dU.refl _ _⟩
 have f2:decide ((e.table.length:Int) - (fs.length:Int) < off)=false:=aw q2;obtain⟨k,rfl⟩:∃k:Nat,off=k:=⟨off.toNat,by omega⟩;have Mi:k+fs.length <=e.table.length:=by omega
 have HE:=V (show iD e k fs=some {e with table:=e.table.take k++fs++e.table.drop (k+fs.length)}by unfold iD;rw [if_neg (by omega),Int.toNat_natCast]);have NN:cv <=9223372036854775807:=Nc;clear q1 q2;by_cases q:fs.length=0
 ·have hE:iD e k fs=some e:=by
   rw [HE.out,aH q,bO,aL,aI,cB]
  obtain⟨dp,MQ⟩:∃dp,∀wx,(Instr.slice 26 (.slice av e.table.length cv) (some (.int .i64 k)) none none).run prog wx= .ok (.slice dp (e.table.length - k) (cv - k)) wx:=by
   by_cases ql:k < e.table.length
   ·obtain⟨g,cap,cur,hv,-⟩:=M4.out.open (by intro h;rw [h]at ql;simp at ql)
    injection hv with e1 e2 e3;subst e1;exact⟨_,fun wx=>jX g _ cv k ql M6 wx⟩
   ·obtain rfl:k=e.table.length:=by omega
    have ha:av=none ->cv=0:=by
     intro h;obtain⟨_,hv | ⟨g,cap,cur,hv,-⟩⟩:=M4.out
     ·have:=hv.1
      injection this
     ·rw [h]at hv
      injection hv with e1;cases e1
    obtain⟨dp,h⟩:=oH av e.table.length cv M6 ha;exact⟨dp,fun wx=>by rw [h wx,Nat.sub_self]⟩
  have HE2:=V hE;clear hE HE;go_enter func38,ntmps38;go_wp2_with (first | (refine wpList_copy_nothing rfl (.tmp 30) (.tmp 31) 26 26 rfl 3 (by kernel_rfl) (by kernel_rfl) dp af (e.table.length - k) (cv - k) fs.length cf rfl rfl (by rw [q];exact Nat.zero_min _) ?_));go_ret;exact⟨by rw [HE2.out];rfl,by rw [HE2.out];exact Qw.out,dU.refl _ _⟩
 have MO:e.table≠[]:=by
  intro h;rw [h,aL]at Mi;omega
 obtain⟨hlen,hv | ⟨g,cap,cur,hv,hBg,hg,hn,hm,Mq,ht⟩⟩:=id M4.out
 ·exact absurd (aH hv.2) MO
 injection hv with e1 e2 e3;subst e1 e3;rw [aY]at Mq ht;rw [Jl]at ht;obtain⟨_,_,hvf,_,_,Lt⟩:=HFS.out;injection hvf with e1 e3 e4;subst e1;have hf0:0 < fs.length:=by omega
 obtain⟨bf,off,rfl,hltf,-⟩:=Lt 0 _ (aq hf0);have hsrc:∀j v,(fs.map (Value.int .i64))[j]?=some v ->w.cell? (Addr.add ⟨bf,off,none⟩ j)=some v:=by
  intro j v hj;rw [cM]at hj;cases hx:fs[j]? with
  | none=>rw [hx]at hj;cases hj
  | some y=>
   rw [hx]at hj;injection hj with hj;subst hj;obtain⟨b',off',PR,-,hc⟩:=Lt j y hx;injection PR with PR;injection PR with h1 h2;subst h1 h2;have:=hc 0 _ rfl;rw [aI,aY]at this;by_cases hj0:j=0
   ·subst hj0
    simpa [Addr.add] using this
   ·simpa [Addr.add,hj0] using this
 have MQ:=fun wx=>jX g e.table.length cv k (by omega) M6 wx;have HTT:=V (yF cur.toList (e.table.map (Value.int .i64)) (fs.map (Value.int .i64)) k e.table.length ht (by rw [bD];exact Mi) (by rw [bD]));have hcur:k+fs.length <=cur.size:=by omega
 have HSZ:=V Mq;clear e2 Lt ht Mq hlen;go_enter func38,ntmps38;go_wp2_with (first | (refine wpList_copy_own rfl (.tmp 30) (.tmp 31) 26 26 rfl 3 (by kernel_rfl) (by kernel_rfl) g k (e.table.length - k) (cv - k) ⟨bf,off,none⟩ fs.length cf rfl rfl cur 3 hg (fs.map (Value.int .i64)) (by rw [bD];exact(cm (by omega)).symm) hsrc (by rw [bD];exact hcur) (fun v hv=>by obtain⟨_,_,rfl⟩:=List.mem_map.1 hv;rfl) ?_));go_wp2;go_ret;have Lx:=yX w g (cur.toList.take k++(fs.map (Value.int .i64)++cur.toList.drop (k+fs.length))).toArray;have MC:=setRow_heap w g cur (cur.toList.take k++(fs.map (Value.int .i64)++cur.toList.drop (k+fs.length))).toArray 3 _ hg;refine⟨by rw [HE.out];rfl,?_,?_⟩
 ·rw [HE.out]
  show nx _ B X ⟨e.table.take k++fs++e.table.drop (k+fs.length),e.globals⟩;refine⟨_,_,HX.out.keeps Lx ?_,?_,MX.out.keeps Lx ?_⟩
  ·intro h
   exact dS.fV M4.out HX.out (by decide) g (by simp [ez,Value.ownBlock]) h.symm
  ·have hl:(e.table.take k++fs++e.table.drop (k+fs.length)).length=e.table.length:=by
    simp only [ah,aP,bg];omega
   have h2:=HTT.out;rw [bD]at h2;show dS _ _ _ _ _ _ (e.table.take k++fs++e.table.drop (k+fs.length));refine⟨by rw [jH fm], .inr ⟨g,cv,_,by rw [hl],hBg,MC,by rw [hl];exact hn,hm,?_,?_⟩⟩
   ·simp only [dx,ah,aP,bg,bD,Array.length_toList]
    have:=HSZ.out;omega
   ·rw [hl,aY,Jl]
    simp only [cn,List.map_take,List.map_drop];exact h2
  ·intro i hi h
   subst h;have:=dS.ne MX.out M4.out (by decide) i hi;exact this (by simp [ez,Value.ownBlock])
 ·exact Lx.mono (fun i hi=>by subst hi;exact⟨hBg,_,hg⟩)
structure gT where
 kind:Int
 ky:Int
 fn:Int
 dX:List eX
deriving DecidableEq
def gT.more:gT:=⟨1,0,0,[]⟩
def gT.full:gT:=⟨5,0,0,[]⟩
def gT.CO (n:Int):gT:=⟨4,n,0,[]⟩
def oa (c:hI):List jP:=(fJ c.body).getD []
def ki (m:eu) (f:Int):Bool:=decide (0 <=f)&&decide (f < m.imports.length)
section
def mW (w:World) (f:eR) (u:Value × Value):Prop:=dS 52 2 fD w 0 u.1 f.locals/\dS 144 2 kg w 0 u.2 f.labels
def gL (w:World):List eR ->List (Value × Value) ->Prop
 | [],[]=>True
 | f::l,u::us=>mW w f u/\gL w l us
 | [],_::_=>False
 | _::_,[]=>False
theorem gL.len {w:World}:∀{l:List eR} {us:List (Value × Value)},gL w l us ->us.length=l.length
 | [],[],_=>rfl
 | _::l,_::us,h=>by rw [aE,aE,gL.len (l:=l) (us:=us) h.2]
 | [],_::_,h=>h.elim
 | _::_,[],h=>h.elim
theorem gL.snoc {w:World} {f:eR} {u:Value × Value}:∀{l:List eR} {us:List (Value × Value)},gL w l us ->mW w f u ->gL w (l++[f]) (us++[u])
 | [],[],_,h=>⟨h,trivial⟩
 | _::l,_::us,h,k=>⟨h.1,gL.snoc (l:=l) (us:=us) h.2 k⟩
 | [],_::_,h,_=>h.elim
 | _::_,[],h,_=>h.elim
theorem gL.open {w:World} {f:eR}:∀{l:List eR} {us:List (Value × Value)},gL w (l++[f]) us ->∃PH u,us=PH++[u]/\gL w l PH/\mW w f u
 | [],[],h=>h.elim
 | [],[u],h=>⟨[],u,rfl,trivial,h.1⟩
 | [],_::_::_,h=>h.2.elim
 | _::_,[],h=>h.elim
 | x::l,v::us,h=>by
  obtain⟨PH,u,rfl,h1,h2⟩:=gL.open (l:=l) (us:=us) h.2;exact⟨v::PH,u,rfl,⟨h.1,h1⟩,h2⟩
theorem gL.to {w w':World}:∀{l:List eR} {us:List (Value × Value)},gL w l us ->(∀f u,u∈us ->mW w f u ->mW w' f u) ->gL w' l us
 | [],[],_,_=>trivial
 | f::l,u::us,h,k=>⟨k f u (by simp) h.1,gL.to (l:=l) (us:=us) h.2 (fun g v hv=>k g v (by simp [hv]))⟩
 | [],_::_,h,_=>h.elim
 | _::_,[],h,_=>h.elim
theorem gL.mem {w:World}:∀{l:List eR} {us:List (Value × Value)} {u:Value × Value},gL w l us ->u∈us ->∃f,mW w f u
 | [],[],_,_,hu=>by simp at hu
 | f::l,v::us,u,h,hu=>by
  rcases bH.1 hu with rfl | hu
  ·exact⟨f,h.1⟩
  ·exact gL.mem (l:=l) (us:=us) h.2 hu
 | [],_::_,_,h,_=>h.elim
 | _::_,[],_,h,_=>h.elim
structure rI where
 uv:Value
 uf:Value
 us:List (Value × Value)
def rI.own (v:rI) (b g:Nat):Prop:=g=b\/ez v.uv g\/ez v.uf g\/∃u∈v.us,ez u.1 g\/ez u.2 g
def fY (pre:List Value) (v:rI) (asks:Int) (post:List Value):Array Value:=(pre++v.uv::v.uf:: .int .i64 asks::post).toArray
def Au (us:List (Value × Value)):Prop:=us.Pairwise fun a b=>(∀g,ez a.1 g ->¬ ez b.1 g)/\(∀g,ez a.2 g ->¬ ez b.2 g)
structure fM (w:World) (b:Nat) (pre post:List Value) (t:TypeId) (v:rI) (s:fy):Prop where
 jq:eD w b (fY pre v s.asks post) t
 dX:dS 52 2 fD w 0 v.uv s.dX
 eg:dS 124 5 lT w 0 v.uf (s.eg.zip v.us)
 rows:gL w s.eg v.us
 JJ:∀u∈v.us,∀g,ez v.uv g ->¬ ez u.1 g
 apart:Au v.us
 ty:t≠52/\t≠124/\t≠144/\t≠133
section
variable {w w':World} {b:Nat} {pre post:List Value} {t:TypeId} {v:rI} {s:fy}
theorem dS.has {α:Type} {t:TypeId} {k:Nat} {enc:α ->List Value} {B:Nat} {v:Value} {l:List α} (h:dS t k enc w B v l) {g:Nat} (hg:ez v g):∃cur,eD w g cur t:=by
 obtain⟨_,⟨hv,_⟩ | ⟨g',cap,cur,hv,_,hb,_⟩⟩:=h
 ·rw [hv]at hg;simp [ez,Value.ownBlock]at hg
 ·rw [hv]at hg
  simp [ez,Value.ownBlock]at hg;subst hg;exact⟨cur,hb⟩
theorem eD.uniq {X:Nat} {xs ys:Array Value} {t t':TypeId} (h:eD w X xs t) (k:eD w X ys t'):t=t':=by
 have:=h.symm.trans k;injection this with this;injection this
theorem fM.kinds (h:fM w b pre post t v s) {g:Nat} (hg:v.own b g):(g=b)\/∃cur t',eD w g cur t'/\(t'=52\/t'=124\/t'=144):=by
 rcases hg with rfl | hg | hg | ⟨u,hu,hg⟩
 ·exact .inl rfl
 ·obtain⟨cur,hb⟩:=h.dX.has hg
  exact .inr ⟨cur,_,hb, .inl rfl⟩
 ·obtain⟨cur,hb⟩:=h.eg.has hg
  exact .inr ⟨cur,_,hb, .inr (.inl rfl)⟩
 ·obtain⟨f,hf⟩:=h.rows.mem hu
  rcases hg with hg | hg
  ·obtain⟨cur,hb⟩:=hf.1.has hg
   exact .inr ⟨cur,_,hb, .inl rfl⟩
  ·obtain⟨cur,hb⟩:=hf.2.has hg
   exact .inr ⟨cur,_,hb, .inr (.inr rfl)⟩
theorem fM.lt (h:fM w b pre post t v s) {g:Nat} (hg:v.own b g):g < w.heap.size:=by
 rcases h.kinds hg with rfl | ⟨cur,t',hb,_⟩
 ·exact h.jq.lt
 ·exact hb.lt
theorem fM.not (h:fM w b pre post t v s) {X:Nat} {xs:Array Value} {t':TypeId} (hX:eD w X xs t') (hb:X≠b) (ht:t'≠52/\t'≠124/\t'≠144):¬ v.own b X:=by
 intro hg;rcases h.kinds hg with rfl | ⟨cur,t2,Lw,h2⟩
 ·exact hb rfl
 ·have:=Lw.uniq hX
  subst this;rcases h2 with h2 | h2 | h2
  ·exact ht.1 h2
  ·exact ht.2.1 h2
  ·exact ht.2.2 h2
theorem mW.keeps {P:Nat ->Prop} {f:eR} {u:Value × Value} (h:mW w f u) (hk:dU P w w') (hP:∀g,ez u.1 g\/ez u.2 g ->¬ P g):mW w' f u:=
 ⟨h.1.keeps hk (fun g hg=>hP g (.inl hg)),h.2.keeps hk (fun g hg=>hP g (.inr hg))⟩
theorem fM.keeps {P:Nat ->Prop} (h:fM w b pre post t v s) (hk:dU P w w') (hP:∀g,v.own b g ->¬ P g):fM w' b pre post t v s:=
 ⟨h.jq.keeps hk (hP b (.inl rfl)),h.dX.keeps hk (fun g hg=>hP g (.inr (.inl hg))),h.eg.keeps hk (fun g hg=>hP g (.inr (.inr (.inl hg)))),
  h.rows.to (fun _ u hu hf=>hf.keeps hk (fun g hg=>hP g (.inr (.inr (.inr ⟨u,hu,hg⟩))))),h.JJ,h.apart,h.ty⟩
theorem fM.below (h:fM w b pre post t v s) (hb:Below w.heap.size w w'):fM w' b pre post t v s:=h.keeps (P:=fun _=>False) (dU.dW hb) (fun _ _ h=>h)
theorem fM.drew (h:fM w b pre post t v s):fM w.drew b pre post t v s:=h.below (an _ _).drew
theorem fM.alloc (h:fM w b pre post t v s) (o:Obj):fM (w.alloc o) b pre post t v s:=h.below ((an _ _).alloc (ag _) o)
def kP (v v':rI) (b:Nat) (w w':World):Prop:=dU (v.own b) w w'/\∀g,v'.own b g ->v.own b g\/w.heap.size <=g
theorem kP.refl (v:rI) (b:Nat) (w:World):kP v v b w w:=⟨dU.refl _ _,fun _ h=> .inl h⟩
theorem kP.trans {v v' v2:rI} {w2:World} (h:kP v v' b w w') (k:kP v' v2 b w' w2):kP v v2 b w w2:=
 ⟨h.1.trans k.1 (fun g hg=>h.2 g hg),fun g hg=>(k.2 g hg).elim (h.2 g) (fun hg=> .inr (aQ h.1.size hg))⟩
theorem kP.below {v v':rI} {w2:World} (h:kP v v' b w w') (k:Below w'.heap.size w' w2):kP v v' b w w2:=
 ⟨h.1.trans (dU.dW (S:=fun _=>False) k) (fun _ h=>h.elim),h.2⟩
theorem kP.dW {v:rI} (k:Below w.heap.size w w'):kP v v b w w':=(kP.refl v b w).below k
theorem kP.drew {v v':rI} (h:kP v v' b w w'):kP v v' b w w'.drew:=h.below (an _ _).drew
theorem rC (pre:List Value) (v:rI) (n:Int) (post:List Value):(fY pre v n post)[pre.length]?=some v.uv:=by simp [fY]
theorem Aa (pre:List Value) (v:rI) (n:Int) (post:List Value):(fY pre v n post)[pre.length+1]?=some v.uf:=by simp [fY]
theorem Fh (pre:List Value) (v:rI) (n:Int) (post:List Value):(fY pre v n post)[pre.length+2]?=some (.int .i64 n):=by simp [fY]
theorem Jb (pre:List Value) (v:rI) (n:Int) (post:List Value) (x:Value):(fY pre v n post).setIfInBounds pre.length x=fY pre {v with uv:=x} n post:=by simp [fY]
theorem CA (pre:List Value) (v:rI) (n:Int) (post:List Value) (x:Value):(fY pre v n post).setIfInBounds (pre.length+1) x=fY pre {v with uf:=x} n post:=by simp [fY]
theorem fM.c0 (h:fM w b pre post t v s):w.cell? ⟨b,pre.length,none⟩=some v.uv:=(h.jq.cell _).trans (rC _ _ _ _)
theorem fM.c1 (h:fM w b pre post t v s):w.cell? ⟨b,pre.length+1,none⟩=some v.uf:=(h.jq.cell _).trans (Aa _ _ _ _)
theorem fM.c2 (h:fM w b pre post t v s):w.cell? ⟨b,pre.length+2,none⟩=some (.int .i64 s.asks):=(h.jq.cell _).trans (Fh _ _ _ _)
theorem fM.By {α:Type} {t':TypeId} {k:Nat} {enc:α ->List Value} {B:Nat} {u:Value} {l:List α} (h:fM w b pre post t v s) (ho:dS t' k enc w B u l) (ht:t'=52\/t'=124\/t'=144):¬ ez u b:=by
 intro hg;obtain⟨cur,hb⟩:=ho.has hg;have:=hb.uniq h.jq;subst this;rcases ht with ht | ht | ht
 ·exact h.ty.1 ht
 ·exact h.ty.2.1 ht
 ·exact h.ty.2.2.1 ht
theorem fM.GB {w1:World} (h:fM w b pre post t v s) (hk:dU (ez v.uv) w w1):
  eD w1 b (fY pre v s.asks post) t/\dS 124 5 lT w1 0 v.uf (s.eg.zip v.us)/\gL w1 s.eg v.us:=by
 refine⟨h.jq.keeps hk (h.By h.dX (.inl rfl)),h.eg.keeps hk (fun g hg=>dS.ne h.eg h.dX (by decide) g hg),h.rows.to (fun f u hu hf=>?_)⟩;exact hf.keeps hk (fun g hg h2=>by
  rcases hg with hg | hg
  ·exact h.JJ u hu g h2 hg
  ·exact dS.ne hf.2 h.dX (by decide) g hg h2)
theorem fM.xF {w1:World} {uv':Value} {RF:List eX} (h:fM w b pre post t v s) (ho:dS 52 2 fD w1 0 uv' RF) (hk:dU (ez v.uv) w w1) (hs:eB w v.uv uv'):
  fM (w1.setCell ⟨b,pre.length,none⟩ uv') b pre post t {v with uv:=uv'} {s with dX:=RF}/\kP v {v with uv:=uv'} b w (w1.setCell ⟨b,pre.length,none⟩ uv'):=by
 obtain⟨h1,h2,h3⟩:=fM.GB h hk;have Lx:=ei w1 b pre.length uv';have hb:∀{α:Type} {t':TypeId} {k:Nat} {enc:α ->List Value} {B:Nat} {u:Value} {l:List α},dS t' k enc w1 B u l ->(t'=52\/t'=124\/t'=144) ->∀g,ez u g ->¬ g=b:=by
  intro α t' k enc B u l ho ht g hg he;subst he;obtain⟨cur,hb⟩:=ho.has hg;have:=hb.uniq h1;subst this;rcases ht with ht | ht | ht
  ·exact h.ty.1 ht
  ·exact h.ty.2.1 ht
  ·exact h.ty.2.2.1 ht
 refine⟨⟨?_,ho.keeps Lx (hb ho (.inl rfl)),h2.keeps Lx (hb h2 (.inr (.inl rfl))),h3.to (fun f u hu hf=>hf.keeps Lx (fun g hg=>?_)),?_,h.apart,h.ty⟩,?_,?_⟩
 ·have:=h1.set pre.length uv'
  rw [Jb]at this;exact this
 ·rcases hg with hg | hg
  ·exact hb hf.1 (.inl rfl) g hg
  ·exact hb hf.2 (.inr (.inr rfl)) g hg
 ·intro u hu g hg h4
  rcases hs g hg with h5 | h5
  ·exact h.JJ u hu g h5 h4
  ·obtain⟨f,hf⟩:=h.rows.mem hu
   have:=(ey hf.1 h4).2;omega
 ·exact(hk.mono (fun g hg=> .inr (.inl hg))).trans Lx (fun g hg=> .inl (.inl hg))
 ·intro g hg
  rcases hg with hg | hg | hg | hg
  ·exact .inl (.inl hg)
  ·exact(hs g hg).imp (fun h=> .inr (.inl h)) id
  ·exact .inl (.inr (.inr (.inl hg)))
  ·exact .inl (.inr (.inr (.inr hg)))
theorem fM.top {lo:List eR} {f:eR} (h:fM w b pre post t v s) (hs:s.eg=lo++[f]):
  ∃us u g cap,v.us=us++[u]/\us.length=lo.length/\v.uf= .slice (some ⟨g,0,none⟩) (lo.length+1) cap/\lo.length+1 <=cap/\cap <=9223372036854775807/\g < w.heap.size/\
   (w.cell? ⟨g,lo.length*5,none⟩=some (.int .i64 f.fn)/\w.cell? ⟨g,lo.length*5+1,none⟩=some (.int .i64 f.pc)/\w.cell? ⟨g,lo.length*5+2,none⟩=some u.1/\w.cell? ⟨g,lo.length*5+3,none⟩=some (.int .i64 f.base)/\w.cell? ⟨g,lo.length*5+4,none⟩=some u.2)/\
   gL w lo us/\mW w f u/\∀i,w.frozen? ⟨g,i,none⟩=false:=by
 have hr:=h.rows;rw [hs]at hr;obtain⟨us,u,hu,h1,h2⟩:=hr.open;have hlen:=h1.len;have hf:=h.eg;rw [hs,hu,di hlen.symm]at hf;obtain⟨g,cap,cur,he,-,hg,hb,L7,hm⟩:=hf.open (by simp);have hl:(lo.zip us++[f].zip [u]).length=lo.length+1:=by simp [hlen]
 rw [hl]at he L7;rw [he]at hf;have hx:(lo.zip us++[f].zip [u])[lo.length]?=some (f,u):=by
  rw [bA (by simp [hlen])];simp [hlen]
 exact⟨us,u,g,cap,hu,hlen,he,L7,by simpa [maxLen] using hm,hg,⟨by have:=dS.cell iq hf (j:=0) hx rfl;rwa [aI]at this,dS.cell iq hf (j:=1) hx rfl,dS.cell iq hf (j:=2) hx rfl,dS.cell iq hf (j:=3) hx rfl,dS.cell iq hf (j:=4) hx rfl⟩,h1,h2,dS.free hf⟩
theorem IA {uv:Value} {dX:List eX} {asks:Int} {lo:List eR} {f f':eR} {us:List (Value × Value)} {u u':Value × Value} {g cap:Nat} {x:Value} {j:Nat}
  (hb:eD w b (fY pre ⟨uv, .slice (some ⟨g,0,none⟩) (lo.length+1) cap,us++[u']⟩ asks post) t) (hv:dS 52 2 fD w 0 uv dX)
  (Lv:dS 124 5 lT w 0 (.slice (some ⟨g,0,none⟩) (lo.length+1) cap) ((lo++[f]).zip (us++[u]))) (RE:gL w lo us) (hr:mW w f' u')
  (hj:j < 5) (he:lT (f',u')=(lT (f,u)).set j x) (hfar:∀u2∈us++[u'],∀g,ez uv g ->¬ ez u2.1 g) (hap:Au (us++[u'])) (ht:t≠52/\t≠124/\t≠144/\t≠133):
  fM (w.setCell ⟨g,lo.length*5+j,none⟩ x) b pre post t ⟨uv, .slice (some ⟨g,0,none⟩) (lo.length+1) cap,us++[u']⟩ ⟨dX,lo++[f'],asks⟩:=by
 have hlen:=RE.len;have hfr2:=Lv;rw [di hlen.symm]at Lv;have hx:(lo.zip us++[f].zip [u])[lo.length]?=some (f,u):=by
  rw [bA (by simp [hlen])];simp [hlen]
 have O8:=dS.set iq Lv hx hj he;have e4:(lo.zip us++[f].zip [u]).set lo.length (f',u')=lo.zip us++[f'].zip [u']:=by
  rw [List.set_append_right _ _ (by simp [hlen])];simp [hlen]
 rw [e4, <- di hlen.symm]at O8;have Lx:=ei w g (lo.length*5+j) x;have hg:ez (.slice (some ⟨g,0,none⟩) (lo.length+1) cap) g:=by simp [ez,Value.ownBlock]
 refine⟨hb.keeps Lx (fun e=>?_),hv.keeps Lx (fun i hi e=>dS.ne hv Lv (by decide) i hi (by rw [e];exact hg)),O8,
  (gL.snoc RE hr).to (fun f2 u2 _ h3=>h3.keeps Lx (fun i hi e=>?_)),hfar,hap,ht⟩
 ·obtain⟨cur,hc⟩:=hfr2.has hg
  rw [<- e]at hc;exact ht.2.1 (hb.uniq hc)
 ·rcases hi with hi | hi
  ·exact dS.ne h3.1 Lv (by decide) i hi (by rw [e];exact hg)
  ·exact dS.ne h3.2 Lv (by decide) i hi (by rw [e];exact hg)
theorem fM.JN {uv:Value} {dX:List eX} {asks:Int} {lo:List eR} {f:eR} (f':eR) {us:List (Value × Value)} {u:Value × Value} {g cap:Nat} {x:Value} (j:Nat) (h:fM w b pre post t ⟨uv, .slice (some ⟨g,0,none⟩) (lo.length+1) cap,us++[u]⟩ ⟨dX,lo++[f],asks⟩)
  (hj:j < 5) (he:lT (f',u)=(lT (f,u)).set j x) (h1:f'.locals=f.locals) (h2:f'.labels=f.labels):
  fM (w.setCell ⟨g,lo.length*5+j,none⟩ x) b pre post t ⟨uv, .slice (some ⟨g,0,none⟩) (lo.length+1) cap,us++[u]⟩ ⟨dX,lo++[f'],asks⟩/\
   kP ⟨uv, .slice (some ⟨g,0,none⟩) (lo.length+1) cap,us++[u]⟩ ⟨uv, .slice (some ⟨g,0,none⟩) (lo.length+1) cap,us++[u]⟩ b w (w.setCell ⟨g,lo.length*5+j,none⟩ x):=by
 obtain⟨us2,u2,e2,h3,h4⟩:=h.rows.open;obtain⟨rfl,e3⟩:=List.append_inj' e2 rfl;injection e3 with e3;subst e3;exact⟨IA h.jq h.dX h.eg h3 (by unfold mW;rw [h1,h2];exact h4) hj he h.JJ h.apart h.ty,
  (ei w g _ x).mono (fun i hi=>by subst hi;exact .inr (.inr (.inl (by simp [ez,Value.ownBlock])))),fun i hi=> .inl hi⟩
theorem fM.C3 {w1:World} (h:fM w b pre post t v s) (hk:dU (ez v.uf) w w1):
  eD w1 b (fY pre v s.asks post) t/\dS 52 2 fD w1 0 v.uv s.dX/\gL w1 s.eg v.us:=by
 refine⟨h.jq.keeps hk (h.By h.eg (.inr (.inl rfl))),h.dX.keeps hk (fun g hg=>dS.ne h.dX h.eg (by decide) g hg),h.rows.to (fun f u hu hf=>?_)⟩;exact hf.keeps hk (fun g hg h2=>by
  rcases hg with hg | hg
  ·exact dS.ne hf.1 h.eg (by decide) g hg h2
  ·exact dS.ne hf.2 h.eg (by decide) g hg h2)
theorem CQ {w1:World} {v':rI} {s':fy} (k:Nat) (x:Value) (hb:eD w1 b (fY pre v s.asks post) t) (he:(fY pre v s.asks post).setIfInBounds k x=fY pre v' s'.asks post)
  (hv:dS 52 2 fD w1 0 v'.uv s'.dX) (hf:dS 124 5 lT w1 0 v'.uf (s'.eg.zip v'.us)) (hr:gL w1 s'.eg v'.us)
  (hfar:∀u∈v'.us,∀g,ez v'.uv g ->¬ ez u.1 g) (hap:Au v'.us) (ht:t≠52/\t≠124/\t≠144/\t≠133):
  fM (w1.setCell ⟨b,k,none⟩ x) b pre post t v' s':=by
 have Lx:=ei w1 b k x;have hn:∀{α:Type} {t':TypeId} {k:Nat} {enc:α ->List Value} {B:Nat} {u:Value} {l:List α},dS t' k enc w1 B u l ->(t'=52\/t'=124\/t'=144) ->∀g,ez u g ->¬ g=b:=by
  intro α t' k enc B u l ho hte g hg e;subst e;obtain⟨cur,hc⟩:=ho.has hg;have:=hc.uniq hb;subst this;rcases hte with hte | hte | hte
  ·exact ht.1 hte
  ·exact ht.2.1 hte
  ·exact ht.2.2.1 hte
 refine⟨?_,hv.keeps Lx (hn hv (.inl rfl)),hf.keeps Lx (hn hf (.inr (.inl rfl))),hr.to (fun f u _ h3=>h3.keeps Lx (fun g hg=>?_)),hfar,hap,ht⟩
 ·have:=hb.set k x
  rw [he]at this;exact this
 ·rcases hg with hg | hg
  ·exact hn h3.1 (.inl rfl) g hg
  ·exact hn h3.2 (.inr (.inr rfl)) g hg
theorem fM.GC {uv:Value} {dX:List eX} {asks:Int} {lo:List eR} {f:eR} {us:List (Value × Value)} {u:Value × Value} {g cap:Nat} (h:fM w b pre post t ⟨uv, .slice (some ⟨g,0,none⟩) (lo.length+1) cap,us++[u]⟩ ⟨dX,lo++[f],asks⟩):
  fM (w.setCell ⟨b,pre.length+1,none⟩ (.slice (some ⟨g,0,none⟩) lo.length cap)) b pre post t ⟨uv, .slice (some ⟨g,0,none⟩) lo.length cap,us⟩ ⟨dX,lo,asks⟩/\
   kP ⟨uv, .slice (some ⟨g,0,none⟩) (lo.length+1) cap,us++[u]⟩ ⟨uv, .slice (some ⟨g,0,none⟩) lo.length cap,us⟩ b w (w.setCell ⟨b,pre.length+1,none⟩ (.slice (some ⟨g,0,none⟩) lo.length cap)):=by
 obtain⟨us2,u2,e2,h3,h4⟩:=h.rows.open;obtain⟨rfl,e3⟩:=List.append_inj' e2 rfl;injection e3 with e3;subst e3;have hlen:=h3.len;have Lv:=h.eg;simp only at Lv;rw [di hlen.symm]at Lv;have hT:=dS.take iq Lv lo.length (by simp [hlen]);rw [dw (by simp [hlen])]at hT;have hap:=h.apart;rw [Au,cV]at hap;refine⟨CQ _ _ h.jq (by rw [CA];rfl) h.dX hT h3 (fun u2 Nz=>h.JJ u2 (by simp [Nz])) hap.1 h.ty,(ei w b _ _).mono (fun i hi=> .inl hi),fun i hi=> .inl ?_⟩;rcases hi with hi | hi | hi | ⟨u2,Nz,hi⟩
 ·exact .inl hi
 ·exact .inr (.inl hi)
 ·exact .inr (.inr (.inl ((dS.same i).1 hi)))
 ·exact .inr (.inr (.inr ⟨u2,by simp [Nz],hi⟩))
theorem fM.Dw {w1:World} {f:eR} {u:Value × Value} {uf':Value} (h:fM w b pre post t v s) (hr:mW w f u) (hn:∀g,ez u.1 g\/ez u.2 g ->¬ v.own b g) (hnk:∀g,ez u.1 g\/ez u.2 g ->¬ ez v.uf g) (ho:dS 124 5 lT w1 0 uf' (s.eg.zip v.us++[(f,u)])) (hk:dU (ez v.uf) w w1) (hs:eB w v.uf uf'):
  fM (w1.setCell ⟨b,pre.length+1,none⟩ uf') b pre post t ⟨v.uv,uf',v.us++[u]⟩ ⟨s.dX,s.eg++[f],s.asks⟩/\
   dU (v.own b) w (w1.setCell ⟨b,pre.length+1,none⟩ uf')/\∀g,(⟨v.uv,uf',v.us++[u]⟩:rI).own b g ->v.own b g\/(ez u.1 g\/ez u.2 g)\/w.heap.size <=g:=by
 obtain⟨h1,h2,h3⟩:=h.C3 hk;have hlen:=h.rows.len;have e1:s.eg.zip v.us++[(f,u)]=(s.eg++[f]).zip (v.us++[u]):=by rw [di hlen.symm];rfl
 rw [e1]at ho;refine⟨CQ (s:=s) _ _ h1 (by rw [CA];rfl) h2 ho (gL.snoc h3 (hr.keeps hk hnk)) ?_ ?_ h.ty,?_,?_⟩
 ·intro u2 Nz g hg
  rcases bT.1 Nz with h6 | h6
  ·exact h.JJ u2 h6 g hg
  ·rw [aV.1 h6]
   exact fun h7=>hn g (.inl h7) (.inr (.inl hg))
 ·rw [Au,cV]
  refine⟨h.apart,by simp,fun a ha c hc=>?_⟩;rw [aV.1 hc];exact⟨fun g hg h7=>hn g (.inl h7) (.inr (.inr (.inr ⟨a,ha, .inl hg⟩))),fun g hg h7=>hn g (.inr h7) (.inr (.inr (.inr ⟨a,ha, .inr hg⟩)))⟩
 ·refine(hk.mono (fun i hi=> .inr (.inr (.inl hi)))).trans (ei w1 b _ uf') (fun i hi=> .inl (.inl hi))
 ·intro g hg
  rcases hg with hg | hg | hg | ⟨u2,Nz,hg⟩
  ·exact .inl (.inl hg)
  ·exact .inl (.inr (.inl hg))
  ·exact(hs g hg).elim (fun h=> .inl (.inr (.inr (.inl h)))) (fun h=> .inr (.inr h))
  ·rcases bT.1 Nz with h6 | h6
   ·exact .inl (.inr (.inr (.inr ⟨u2,h6,hg⟩)))
   ·rw [aV.1 h6]at hg
    exact .inr (.inl hg)
theorem fM.cells {uv:Value} {dX:List eX} {asks:Int} {lo:List eR} {f:eR} {us:List (Value × Value)} {u:Value × Value} {g cap:Nat} (h:fM w b pre post t ⟨uv, .slice (some ⟨g,0,none⟩) (lo.length+1) cap,us++[u]⟩ ⟨dX,lo++[f],asks⟩):
  (w.cell? ⟨g,lo.length*5,none⟩=some (.int .i64 f.fn)/\w.cell? ⟨g,lo.length*5+1,none⟩=some (.int .i64 f.pc)/\w.cell? ⟨g,lo.length*5+2,none⟩=some u.1/\w.cell? ⟨g,lo.length*5+3,none⟩=some (.int .i64 f.base)/\w.cell? ⟨g,lo.length*5+4,none⟩=some u.2)/\
   mW w f u/\gL w lo us/\(∀i,w.frozen? ⟨g,i,none⟩=false)/\g < w.heap.size/\lo.length+1 <=cap/\cap <=9223372036854775807:=by
 obtain⟨us2,u2,g2,LA,e1,_,e2,h3,h4,h5,h6,h7,h8,h9⟩:=h.top rfl;obtain⟨rfl,e3⟩:=List.append_inj' e1 rfl;injection e3 with e3;injection e2 with e4 _ e5;injection e4 with e4;injection e4 with e4;subst e3 e4 e5;exact⟨h6,h8,h7,h9,h5,h3,h4⟩
end
end
theorem xO {α:Type} {k:Nat} {enc:α ->List Value} {t:TypeId} {P:Program} (w:World) {ops:Array Oper} {rest:List Oper} {o:Oper} {a:Act} {Q:Exit ->Act ->World ->Prop} (OP:o.guard=none) (s x:Operand) (ts:TypeId)
  (ho:o.op= .call {callee:= .builtin .append,args:=#[s,x],argTypes:=#[ts,ts]})
  (z:Value) (bytes:Nat) (ht:P.underlying ts=some (.slice t)) (Qt:(P.info? t).map (fun i=>(i.zero,i.size,i.bytes))=some (some z,k,bytes)) (P5:z.cells.size=k) (h0:0 < k) (Nk:bytes <=100000000)
  (B:Nat) (v:Value) (l:List α) (hs:a.eval s=v) (Lu:dS t k enc w B v l) (hk:∀x,(enc x).length=k)
  (b:Value) (m:List α) (hx:a.eval x=b) (hm:ee k enc w b m) (h1:∀y∈m,∀u∈enc y,u.oneCell'=true)
  (OU:l.length+m.length <=1000000) (LW:B <=w.heap.size)
  (h:∀v' w',dS t k enc w' B v' (l++m) ->dU (ez v) w w' ->eB w v v' ->wpList P ops Q rest (a.put o.dst v') w'):wpList P ops Q (o::rest) a w:=by
 cases m with
 | cons y m=>
  have hm':=hm;obtain⟨ad,cap,rfl,N3,MF,hc3⟩:=hm';obtain⟨b,off,rfl,_⟩:=hc3 0 y rfl;exact kl w OP s x ts ho z bytes ht Qt P5 h0 Nk B v l hs Lu hk (y::m) ⟨b,off,none⟩ (y::m).length cap hx hm h1 OU LW h
 | nil=>
  obtain⟨i0,hi,NM,ME,Nd⟩:=bV Qt;obtain⟨ad,cap,rfl,N3,MF,hc3⟩:=hm;have Lw:(l.length+0)*bytes <=140737488355328:=by
   have:(l.length+0)*bytes <=1000000*100000000:=Nat.mul_le_mul (by simpa using OU) Nk;omega
  have key:∃v' w',(Builtin.append_ #[ts,ts] o.type #[v, .slice ad 0 cap]).run P w= .ok v' w'/\dS t k enc w' B v' (l++[])/\dU (ez v) w w'/\eB w v v':=by
   cases ad with
   | some ad=>
    obtain⟨v',w',h1,h2,h3,h4⟩:=tl (P:=P) w B ts o.type t i0 z k bytes ht hi NM ME Nd P5 h0 v l.length (l.flatMap enc) Lu ad 0 cap [] (by simp) (by simp) (by simp) (by simp only [aL]at OU;simp only [maxLen];omega) Lw LW;exact⟨v',w',h1,by simpa [dS] using h2,h3,h4⟩
   | none=>
    rcases Lu.2 with⟨rfl,hl0⟩ | ⟨g,LQ,cur,rfl,hb,hg,hn,hm,hs,O2⟩
    ·refine⟨.slice none 0 0,w,?_,by simpa using Lu,dU.refl _ _,eB.refl _ _⟩
     simp [Builtin.append_,bj ht,sizeOf,typeInfo,hi,Builtin.lenOf,Builtin.firstCells]
    ·refine⟨.slice (some ⟨g,0,none⟩) l.length LQ,w,?_,by simpa using Lu,dU.refl _ _,eB.refl _ _⟩
     simp [Builtin.append_,bj ht,sizeOf,typeInfo,hi,Builtin.lenOf,Builtin.firstCells,hn];simp [storeCells]
  obtain⟨v',w',hr,h2,h3,h4⟩:=key;refine dK OP fun _ hK=>?_;unfold Oper.wp execOp;simp only [ho,resolve,invoke,builtin,cG,bX,cz,dr,bF,cT,hs,hx,hr,aL];exact hK _ _ (h v' w' h2 h3 h4)
theorem za (a:Option Addr) (len cap k:Nat) (h:k <=cap) (wx:World):
  (Instr.slice 47 (.slice a len cap) none (some (.int .i64 k)) none).run prog wx= .ok (.slice a k cap) wx:=by
 have hu:prog.underlying 47=some (.slice 52):=by kernel_rfl
 obtain⟨i0,hi,NM,ME,Nd⟩:=bV kL;simp [Instr.slice,bj hu,Instr.sliceBounds,Instr.sliceBound,sizeOf,typeInfo,hi,asIntOf,h];cases a <;>simp [Addr.add]
theorem Gq (a:Option Addr) (len cap k:Nat) (h:k <=cap) (wx:World):
  (Instr.slice 58 (.slice a len cap) none (some (.int .i64 k)) none).run prog wx= .ok (.slice a k cap) wx:=by
 have hu:prog.underlying 58=some (.slice 124):=by kernel_rfl
 obtain⟨i0,hi,NM,ME,Nd⟩:=bV mA;simp [Instr.slice,bj hu,Instr.sliceBounds,Instr.sliceBound,sizeOf,typeInfo,hi,asIntOf,h];cases a <;>simp [Addr.add]
theorem eD.nR {w:World} {X:Nat} {t:TypeId} {a b c:Int} {v:Value} (h:eD w X #[.int .i64 a, .int .i64 b, .int .i64 c,v] t):(loadVar 49 ⟨X,0,none⟩).run prog w= .ok (.agg #[.int .i64 a, .int .i64 b, .int .i64 c,v]) w:=by
 have hs:(prog.underlying 49).map (fun d=>match d with | .struct _ | .array _ _=>true | _=>false)=some true:=by kernel_rfl
 obtain⟨d,h1,h2⟩:=bu.1 hs;exact bU w X t 49 _ _ d h h1 (by cases d <;>first | rfl | (exfalso;simp at h2)) (by kernel_rfl)
def lS (o:gT) (vv:Value):Value:= .agg #[.int .i64 o.kind, .int .i64 o.ky, .int .i64 o.fn,vv]
def fi (v:Value) (w:World) (e:Ending) (w':World):Prop:=e= .returned v/\Below w.heap.size w w'
theorem tR (w:World):Calls prog 50 #[] w (fi (.agg #[.int .i64 1, .int .i64 0, .int .i64 0, .slice none 0 0]) w):=by
 go_enter func50,ntmps50;go_wp2_with fail;refine aF (ej rfl _ _ rfl (eD.nR (eD.new w #[.int .i64 1, .int .i64 0, .int .i64 0, .slice none 0 0] 49))) rfl ⟨rfl,(an _ _).alloc (ag _) _⟩
theorem zx (w:World):Calls prog 48 #[] w (fi (.agg #[.int .i64 5, .int .i64 0, .int .i64 0, .slice none 0 0]) w):=by
 go_enter func48,ntmps48;go_wp2_with fail;refine aF (ej rfl _ _ rfl (eD.nR (eD.new w #[.int .i64 5, .int .i64 0, .int .i64 0, .slice none 0 0] 49))) rfl ⟨rfl,(an _ _).alloc (ag _) _⟩
theorem GJ (w:World) (n:Int):Calls prog 89 #[.int .i64 n] w (fi (.agg #[.int .i64 4, .int .i64 n, .int .i64 0, .slice none 0 0]) w):=by
 go_enter func89,ntmps89;go_wp2_with fail;refine aF (ej rfl _ _ rfl (eD.nR (eD.new w #[.int .i64 4, .int .i64 n, .int .i64 0, .slice none 0 0] 49))) rfl ⟨rfl,(an _ _).alloc (ag _) _⟩
def IV (D b o gv n cap j:Nat) (x:eX) (w:World):Prop:=
 w.cell? ⟨D,1,none⟩=some (.pointer (some ⟨b,o,none⟩))/\w.cell? ⟨b,o,none⟩=some (.slice (some ⟨gv,0,none⟩) n cap)/\w.cell? ⟨gv,j*2,none⟩=some (.int .i64 x.kind)/\w.cell? ⟨gv,j*2+1,none⟩=some (.int .i64 x.n)
theorem ze (w:World) (D b o B:Nat) (uv:Value) (l:List eX) (x:eX) (hd:w.cell? ⟨D,1,none⟩=some (.pointer (some ⟨b,o,none⟩))) (hc:w.cell? ⟨b,o,none⟩=some uv) (hv:dS 52 2 fD w B uv (l++[x])):
  Calls prog 53 #[.pointer (some ⟨D,0,none⟩), .int .i64 0] w (fi (.agg #[.int .i64 x.kind, .int .i64 x.n]) w):=by
 obtain⟨gv,cv,cur,MK,-,hgl,hgb,M6,Nc⟩:=hv.open (by simp);have hlen:(l++[x]).length=l.length+1:=by simp
 rw [hlen]at MK M6;subst MK;have Np:w.cell? ⟨gv,l.length*2,none⟩=some (.int .i64 x.kind):=by
  have:=dS.cell fI hv (i:=l.length) (j:=0) (x:=x) (u:= .int .i64 x.kind) (by simp) rfl
  rwa [aI]at this
 have hx1:w.cell? ⟨gv,l.length*2+1,none⟩=some (.int .i64 x.n):=dS.cell fI hv (i:=l.length) (j:=1) (x:=x) (u:= .int .i64 x.n) (by simp) rfl;have hDl:=aO w _ hd;have Mf:=aO w _ hc;have hS:IV D b o gv (l.length+1) cv l.length x (w.alloc (.cells #[.int .i64 0, .int .i64 0] 52)).drew:=by
  have hb:=(an w.heap.size w).alloc (ag _) (.cells #[.int .i64 0, .int .i64 0] 52);exact⟨(hb.cell hDl).trans hd,(hb.cell Mf).trans hc,(hb.cell hgl).trans Np,(hb.cell hgl).trans hx1⟩
 have HX:=V (eD.new w #[.int .i64 0, .int .i64 0] 52).drew;have LK:=V ((an w.heap.size w).alloc (ag _) (.cells #[.int .i64 0, .int .i64 0] 52)).drew;unfold maxLen at Nc;clear hlen Np hx1 hd hc hv hgb hDl Mf;go_enter func53,ntmps53;go_wp2_with fail;refine eK (IV D b o gv (l.length+1) cv l.length x) 20 (up 0 20 []) (by kernel_rfl) (by kernel_rfl) hS ?_;clear hS;generalize(w.alloc (.cells #[.int .i64 0, .int .i64 0] 52)).drew=w1 at HX LK⊢;iterate 20 (first | (apply sk rfl rfl;simp only [pt]) | (apply dV rfl rfl rfl;·(rintro w' ⟨t0,t1,t2,t3⟩;go_wp2;exact⟨rfl,rfl,rfl⟩)))
 refine fu rfl rfl ?_;obtain⟨x0,x1,z0,z1⟩:=HX.out.two;go_wp2;refine⟨trivial,?_⟩;refine aA ?_;clear x0 x1 z0 z1;go_wp2_with fail;have Ov:=HX.out.mL (.int .i64 x.kind) (.int .i64 x.n);refine aF (ej rfl _ _ rfl Ov.lq) rfl ⟨rfl,LK.out.trans ((fp w1 w.heap.size _ _).below LK.out.size (fun i hi=>by omega))⟩
theorem Ha (w:World) (D b o B:Nat) (uv:Value) (l:List eX) (x y:eX) (hd:w.cell? ⟨D,1,none⟩=some (.pointer (some ⟨b,o,none⟩))) (hc:w.cell? ⟨b,o,none⟩=some uv) (hv:dS 52 2 fD w B uv (l++[x,y])):
  Calls prog 53 #[.pointer (some ⟨D,0,none⟩), .int .i64 1] w (fi (.agg #[.int .i64 x.kind, .int .i64 x.n]) w):=by
 obtain⟨gv,cv,cur,MK,-,hgl,hgb,M6,Nc⟩:=hv.open (by simp);have hlen:(l++[x,y]).length=l.length+2:=by simp
 rw [hlen]at MK M6;subst MK;have Np:w.cell? ⟨gv,l.length*2,none⟩=some (.int .i64 x.kind):=by
  have:=dS.cell fI hv (i:=l.length) (j:=0) (x:=x) (u:= .int .i64 x.kind) (by simp) rfl
  rwa [aI]at this
 have hx1:w.cell? ⟨gv,l.length*2+1,none⟩=some (.int .i64 x.n):=dS.cell fI hv (i:=l.length) (j:=1) (x:=x) (u:= .int .i64 x.n) (by simp) rfl;have hDl:=aO w _ hd;have Mf:=aO w _ hc;have hS:IV D b o gv (l.length+2) cv l.length x (w.alloc (.cells #[.int .i64 0, .int .i64 0] 52)).drew:=by
  have hb:=(an w.heap.size w).alloc (ag _) (.cells #[.int .i64 0, .int .i64 0] 52);exact⟨(hb.cell hDl).trans hd,(hb.cell Mf).trans hc,(hb.cell hgl).trans Np,(hb.cell hgl).trans hx1⟩
 have HX:=V (eD.new w #[.int .i64 0, .int .i64 0] 52).drew;have LK:=V ((an w.heap.size w).alloc (ag _) (.cells #[.int .i64 0, .int .i64 0] 52)).drew;unfold maxLen at Nc;clear hlen Np hx1 hd hc hv hgb hDl Mf;go_enter func53,ntmps53;go_wp2_with fail;refine eK (IV D b o gv (l.length+2) cv l.length x) 20 (up 0 20 []) (by kernel_rfl) (by kernel_rfl) hS ?_;clear hS;generalize(w.alloc (.cells #[.int .i64 0, .int .i64 0] 52)).drew=w1 at HX LK⊢;iterate 20 (first | (apply sk rfl rfl;simp only [pt]) | (apply dV rfl rfl rfl;·(rintro w' ⟨t0,t1,t2,t3⟩;go_wp2;exact⟨rfl,rfl,rfl⟩)))
 refine fu rfl rfl ?_;obtain⟨x0,x1,z0,z1⟩:=HX.out.two;go_wp2;refine⟨trivial,?_⟩;refine aA ?_;clear x0 x1 z0 z1;go_wp2_with fail;have Ov:=HX.out.mL (.int .i64 x.kind) (.int .i64 x.n);refine aF (ej rfl _ _ rfl Ov.lq) rfl ⟨rfl,LK.out.trans ((fp w1 w.heap.size _ _).below LK.out.size (fun i hi=>by omega))⟩
def CP (X b o g k J:Nat):Array Value:=#[.pointer (some ⟨X,0,none⟩), .pointer (some ⟨b,o,none⟩), .pointer (some ⟨g,k,none⟩), .map (some J)]
def kb (w:World) (D X b o g k J:Nat):Prop:=eD w D (CP X b o g k J) 133
theorem kb.not {w:World} {D X b o g k J:Nat} {pre post:List Value} {t:TypeId} {v:rI} {s:fy} (h:kb w D X b o g k J) (hs:fM w b pre post t v s):¬ v.own b D:=
 hs.not h (fun e=>by subst e;exact hs.ty.2.2.2 (hs.jq.uniq h)) (by decide)
theorem kb.keeps {P:Nat ->Prop} {w w':World} {D X b o g k J:Nat} (h:kb w D X b o g k J) (hk:dU P w w') (hP:¬ P D):kb w' D X b o g k J:=eD.keeps h hk hP
theorem kb.below {w w':World} {D X b o g k J:Nat} (h:kb w D X b o g k J) (hk:Below w.heap.size w w'):kb w' D X b o g k J:=eD.below h hk h.lt
theorem kb.drew {w:World} {D X b o g k J:Nat} (h:kb w D X b o g k J):kb w.drew D X b o g k J:=eD.drew h
theorem kb.alloc {w:World} {D X b o g k J:Nat} (h:kb w D X b o g k J) (ob:Obj):kb (w.alloc ob) D X b o g k J:=eD.alloc h ob
theorem kb.d0 {w:World} {D X b o g k J:Nat} (h:kb w D X b o g k J):w.cell? ⟨D,0,none⟩=some (.pointer (some ⟨X,0,none⟩)):=eD.cell h 0
theorem kb.d1 {w:World} {D X b o g k J:Nat} (h:kb w D X b o g k J):w.cell? ⟨D,1,none⟩=some (.pointer (some ⟨b,o,none⟩)):=eD.cell h 1
theorem kb.d2 {w:World} {D X b o g k J:Nat} (h:kb w D X b o g k J):w.cell? ⟨D,2,none⟩=some (.pointer (some ⟨g,k,none⟩)):=eD.cell h 2
def fW (b:Nat) (pre post:List Value) (t:TypeId) (v:rI) (r:gT × fy) (w:World) (e:Ending) (w':World):Prop:=
 ∃v' vv,e= .returned (lS r.1 vv)/\fM w' b pre post t v' r.2/\kP v v' b w w'/\dS 52 2 fD w' w.heap.size vv r.1.dX/\∀g,ez vv g ->¬ v'.own b g
def lh (w:World) (X:Nat) (a b c:Int) (v:Value):World:=(((w.setCell ⟨X,0,none⟩ (.int .i64 a)).setCell ⟨X,1,none⟩ (.int .i64 b)).setCell ⟨X,2,none⟩ (.int .i64 c)).setCell ⟨X,3,none⟩ v
theorem gh (w:World) (X:Nat) (a b c:Int) (v:Value):dU (fun i=>i=X) w (lh w X a b c v):=
 (((ei w X 0 _).trans (ei _ X 1 _) (fun _ h=> .inl h)).trans (ei _ X 2 _) (fun _ h=> .inl h)).trans (ei _ X 3 _) (fun _ h=> .inl h)
theorem kq {w w2:World} {xs:Array Value} (hx:eD w2 w.heap.size xs 49) (hs:xs.size=4) (a b c:Int) (v:Value):
  (loadVar 49 ⟨w.heap.size,0,none⟩).run prog (lh w2 w.heap.size a b c v)= .ok (.agg #[.int .i64 a, .int .i64 b, .int .i64 c,v]) (lh w2 w.heap.size a b c v):=by
 obtain⟨x0,x1,x2,x3,rfl⟩:∃x0 x1 x2 x3,xs=#[x0,x1,x2,x3]:=by
  match xs,hs with
  | ⟨[x0,x1,x2,x3]⟩,_=>exact⟨x0,x1,x2,x3,rfl⟩
 exact(hx.tN _ _ _ _).nR
theorem fW.mk {w w2:World} {b:Nat} {pre post:List Value} {t:TypeId} {v v':rI} {r:gT × fy} {o:gT} {s:fy} {vv:Value} (he:r=(o,s)) (hs:fM w2 b pre post t v' s) (ht:kP v v' b w w2) (hn:¬ v'.own b w.heap.size)
  (hv:dS 52 2 fD w2 w.heap.size vv o.dX) (Ou:∀g,ez vv g ->¬ v'.own b g) (MS:¬ ez vv w.heap.size) (a1 a2 a3:Int) (h1:o.kind=a1) (h2:o.ky=a2) (h3:o.fn=a3):
  fW b pre post t v r w (.returned (.agg #[.int .i64 a1, .int .i64 a2, .int .i64 a3,vv])) (lh w2 w.heap.size a1 a2 a3 vv):=by
 subst he h1 h2 h3;have Lx:=gh w2 w.heap.size o.kind o.ky o.fn vv;exact⟨v',vv,rfl,hs.keeps Lx (fun g hg e=>hn (e▸hg)),⟨ht.1.trans Lx (fun i hi=> .inr (by omega)),ht.2⟩,hv.keeps Lx (fun g hg e=>MS (e▸hg)),Ou⟩
def kS (l1 puts:List eX) (s:fy) (lo:List eR) (f:eR):gT × fy:=
 if 1000 < l1.length+puts.length then(.full,s)else(.more,⟨l1++puts,lo++[{f with pc:=f.pc+1}],s.asks⟩)
theorem fM.xS {w:World} {b:Nat} {pre post:List Value} {t:TypeId} {v:rI} {s:fy} (h:fM w b pre post t v s):¬ v.own b w.heap.size:=fun hg=>by have:=h.lt hg;omega
theorem rb (w:World) (D X b g J cap:Nat) (pre post:List Value) (t:TypeId) (uv:Value) (us:List (Value × Value)) (u:Value × Value) (l1 l2 puts:List eX) (lo:List eR) (f:eR) (asks:Int) (pv:Value) (kz:Int) (hkz:kz=l2.length)
  (LS:fM w b pre post t ⟨uv, .slice (some ⟨g,0,none⟩) (lo.length+1) cap,us++[u]⟩ ⟨l1++l2,lo++[f],asks⟩) (hd:kb w D X b pre.length g (lo.length*5) J) (hp:ee 2 fD w pv puts)
  (hn:l1.length+puts.length <=100000) (OG: -1 <=f.pc/\f.pc <=1000000):
  Calls prog 54 #[.pointer (some ⟨D,0,none⟩), .int .i64 kz,pv] w (fW b pre post t ⟨uv, .slice (some ⟨g,0,none⟩) (lo.length+1) cap,us++[u]⟩ (kS l1 puts ⟨l1++l2,lo++[f],asks⟩ lo f) w):=by
 subst hkz;obtain⟨av,cv,huv,M6,Nc⟩:=LS.dX.slice;simp only [ah]at huv M6;subst huv;obtain⟨ap,cp,rfl,-,hcpm,-⟩:=id hp;unfold maxLen at hcpm;have LR:=(an w.heap.size w).alloc (ag _) (.cells #[.int .i64 0, .int .i64 0, .int .i64 0, .slice none 0 0] 49);have HX:=V (eD.new w #[.int .i64 0, .int .i64 0, .int .i64 0, .slice none 0 0] 49);have Ra:=V LS;have Lz:=V (LS.below LR);have HD:=V (hd.below LR);have HP:=V (hp.below LR);have HT:=V (kP.dW (v:=⟨.slice av (l1.length+l2.length) cv, .slice (some ⟨g,0,none⟩) (lo.length+1) cap,us++[u]⟩) (b:=b) LR);have d1:=HD.out.d1;have c0:World.cell? _ ⟨b,pre.length,none⟩=some (.slice av (l1.length+l2.length) cv):=Lz.out.c0;clear LS hd hp LR;by_cases q:1000 < l1.length+puts.length
 ·have f1:decide ((1000:Int) < (l1.length:Int)+(puts.length:Int))=true:=ay (by omega)
  have f2:decide (1000 < l1.length+puts.length)=true:=ay q;have HR:=V (show kS l1 puts ⟨l1++l2,lo++[f],asks⟩ lo f=(.full,⟨l1++l2,lo++[f],asks⟩)by unfold kS;rw [if_pos q]);clear q;go_enter func54,ntmps54;go_wp2_with fail;refine(zx _).mono ?_;rintro e w2 ⟨rfl,hb⟩;replace HX:=V (HX.out.below hb HX.out.lt);replace Lz:=V (Lz.out.below hb);replace HT:=V (HT.out.below hb);clear hb d1 c0;obtain⟨⟨x0,x1,x2,x3⟩,z0,z1,z2,z3⟩:=HX.out.four;go_wp2_with fail;refine aF (ej rfl _ _ rfl (kq HX.out rfl 5 0 0 (.slice none 0 0))) rfl ?_;exact fW.mk HR.out Lz.out HT.out Ra.out.xS (dS.nil _ _) (fun g hg=>by simp [ez,Value.ownBlock]at hg) (by simp [ez,Value.ownBlock]) 5 0 0 rfl rfl rfl
 ·have f1:decide ((1000:Int) < (l1.length:Int)+(puts.length:Int))=false:=aw (by omega)
  have f2:decide (1000 < l1.length+puts.length)=false:=aw q;have HR:=V (show kS l1 puts ⟨l1++l2,lo++[f],asks⟩ lo f=(.more,⟨l1++puts,lo++[{f with pc:=f.pc+1}],asks⟩)by unfold kS;rw [if_neg q]);clear q;have MQ:=fun wx=>za av (l1.length+l2.length) cv l1.length (by omega) wx;go_enter func54,ntmps54;go_wp2_with fail;refine eK (fun w'=>w'.cell? ⟨D,1,none⟩=some (.pointer (some ⟨b,pre.length,none⟩))/\w'.cell? ⟨b,pre.length,none⟩=some (.slice av (l1.length+l2.length) cv)) 17 (up 0 14 ((14,false)::(15,true)::(16,true)::[])) (by kernel_rfl) (by kernel_rfl) ⟨d1,c0⟩ ?_;replace HX:=V HX.out.drew;replace Lz:=V Lz.out.drew;replace HD:=V HD.out.drew;replace HP:=V (HP.out.below (an _ _).drew);replace HT:=V HT.out.drew;clear d1 c0;generalize(w.alloc (.cells #[.int .i64 0, .int .i64 0, .int .i64 0, .slice none 0 0] 49)).drew=w1 at HX Lz HD HP HT⊢;iterate 14 (first | (apply sk rfl rfl;simp only [pt]) | (apply dV rfl rfl rfl;·(rintro w' ⟨t0,t1⟩;go_wp2;exact⟨rfl,rfl,rfl⟩)))
  refine dZ rfl rfl ?_;clear MQ;have HC:=V (show dS 52 2 fD w1 0 (.slice av l1.length cv) l1 by
   have h:=dS.take fI Lz.out.dX l1.length (by simp)
   rwa [dw rfl]at h)
  go_wp2_with (first | (at_builtin;refine xO w1 rfl _ _ 47 rfl _ 16 (by kernel_rfl) kL rfl (by decide) (by decide) 0 (.slice av l1.length cv) l1 rfl HC.out fI _ puts rfl HP.out (fun y _=>lD y) (by omega) (bB _) ?_));intro v2 w2 ho hk hs;obtain⟨a2,c2,MS,-,-⟩:=ho.slice;rw [ah]at MS;subst MS;replace hk:dU (ez (.slice av (l1.length+l2.length) cv)) w1 w2:=hk.mono (fun i hi=>(dS.same i).1 hi);replace hs:eB w1 (.slice av (l1.length+l2.length) cv) (.slice a2 (l1.length+puts.length) c2):=fun i hi=>(hs i hi).imp (fun h=>(dS.same i).1 h) id;have LN:=Lz.out.GB hk;obtain⟨MM,HT2⟩:=Lz.out.xF ho hk hs;have hDn:=HD.out.not Lz.out;have hXn:¬ ez (.slice av (l1.length+l2.length) cv) w.heap.size:=fun hg=>dS.fV Lz.out.dX HX.out (by decide) _ hg rfl;have PY:=HD.out.keeps hk (fun hg=>hDn (.inr (.inl hg)));have LI:=V (HX.out.keeps hk hXn);have c0:w2.cell? ⟨b,pre.length,none⟩=some (.slice av (l1.length+l2.length) cv):=(LN.1.cell _).trans (rC _ _ _ _);have z0:=LN.1.free pre.length;have d1:=PY.d1;have HSS:=V MM;have HTT:=V (HT.out.trans HT2);have Rc:=V (PY.keeps (ei w2 b pre.length (.slice a2 (l1.length+puts.length) c2)) (fun e=>hDn (.inl e)));have RG:=V (LI.out.keeps (ei w2 b pre.length (.slice a2 (l1.length+puts.length) c2)) (fun e=>Ra.out.xS (.inl e)));clear LN MM HT2 hDn hXn PY LI hk hs ho HC HX HT Lz HP HD;go_wp2_with fail;refine⟨⟨d1,c0⟩,?_⟩;iterate 2 (first | (apply sk rfl rfl;simp only [pt]) | (apply dV rfl rfl rfl;·(rintro w' ⟨t0,t1⟩;go_wp2;exact⟨rfl,rfl,rfl⟩)))
  refine fu rfl rfl ?_;go_wp2;refine⟨trivial,?_⟩;refine aA ?_;clear d1 c0 z0;generalize w2.setCell ⟨b,pre.length,none⟩ (.slice a2 (l1.length+puts.length) c2)=w3 at HSS HTT Rc RG⊢;obtain⟨⟨-,p1,-,-,-⟩,-,-,zg,-,-⟩:=HSS.out.cells;have z1:=zg (lo.length*5+1);have d2:=Rc.out.d2;have hp1: -1 <=f.pc:=OG.1;have Qb:f.pc <=1000000:=OG.2;have HNP:=V (HSS.out.JN {f with pc:=f.pc+1} 1 (x:= .int .i64 (f.pc+1)) (by decide) rfl rfl rfl);have RG:=V (RG.out.keeps (ei w3 g (lo.length*5+1) (.int .i64 (f.pc+1))) (fun e=>Ra.out.xS (.inr (.inr (.inl (by rw [e];simp [ez,Value.ownBlock]))))));clear zg OG;go_wp2_with fail;clear p1 z1 d2;generalize w3.setCell ⟨g,lo.length*5+1,none⟩ (.int .i64 (f.pc+1))=w4 at HNP RG⊢;refine(tR _).mono ?_;rintro e w5 ⟨rfl,hb⟩;replace HX:=V (RG.out.below hb RG.out.lt);have Lz:=V (HNP.out.1.below hb);have HT:=V ((HTT.out.trans HNP.out.2).below hb);clear hb RG HNP HTT;obtain⟨⟨x0,x1,x2,x3⟩,z0,z1,z2,z3⟩:=HX.out.four;go_wp2_with fail;refine aF (ej rfl _ _ rfl (kq HX.out rfl 1 0 0 (.slice none 0 0))) rfl ?_;have Mf:=Ra.out.jq.lt;exact fW.mk HR.out Lz.out HT.out (Lz.out.not HX.out (by omega) (by decide)) (dS.nil _ _) (fun g hg=>by simp [ez,Value.ownBlock]at hg) (by simp [ez,Value.ownBlock]) 1 0 0 rfl rfl rfl
section
open Go.RowKit Go.Maps
def JT (n:Int):DataW Unit:= .lit (.int .i64 n)
def I6 (b:jP):DataW Unit:= .agg [JT b.pos,JT b.KK,JT b.fin]
def CX:Value ->Option (DataW Unit × List MemPlace)
 | .agg cs=>match cs.toList with
  | [.int .i64 a, .int .i64 b, .int .i64 c]=>some (I6 ⟨a,b,c⟩,[])
  | _=>none
 | _=>none
def yL (D:DataW Unit) (b:jP):DataW Unit:=D.put (.int .i64 b.pos) (I6 b)
def yY (l:List jP):DataW Unit:=l.foldl yL (.map [])
theorem BW (l:List jP) (b:jP):yY (l++[b])=(yY l).put (.int .i64 b.pos) (I6 b):=by simp [yY,yL,List.foldl_append]
def fR (w:World) (j:Nat) (l:List jP):Prop:=∃n,n <=l.length/\w.ownsMap prog 3 CX j n (yY l)
theorem fR.lt {w:World} {j:Nat} {l:List jP} (h:fR w j l):j < w.heap.size:=by
 obtain⟨n,-,h⟩:=h;exact h.lt
theorem fR.keeps {w w':World} {j:Nat} {l:List jP} {P:Nat ->Prop} (h:fR w j l) (hk:dU P w w') (hj:¬ P j):fR w' j l:=by
 have LD:=h.lt;obtain⟨n,hn,es,clock,hb,r⟩:=h;exact⟨n,hn,es,clock,(hk.block j LD hj).trans hb,r⟩
theorem fR.below {w w':World} {j:Nat} {l:List jP} (h:fR w j l) (hb:Below w.heap.size w w'):fR w' j l:=h.keeps (P:=fun _=>False) (dU.dW hb) (fun h=>h)
theorem JE:prog.underlying 112=some (.map 3 114):=by kernel_rfl
theorem Jm:prog.underlying 3=some (.int .i64):=by kernel_rfl
end
def mc (x:fN):Bool:=x.has&&(decide (0 <=x.max)&&decide (x.max < x.min))
def eu.Js (m:eu):Int:=m.imports.length+m.funcs.length
def mZ (m:eu) (t:Int):Bool:=decide ((m.types.length:Int) <=t)
def ln (m:eu) (f:Int):Bool:=decide (m.Js <=f)
def yj (m:eu) (pre:List iU) (x:iU):Bool:=ln m x.func || pre.any fun y=>x.name.toList==y.name.toList
def mi (m:eu):List iU ->List iU ->Bool
 | _,[]=>false
 | pre,x::l=>yj m pre x || mi m (pre++[x]) l
def Bj (m:eu):Bool:=mi m [] m.dY
def FG (m:eu):Bool:=m.elems.any fun x=>x.funcs.any fun f=>ln m f
def jv (m:eu):Nat ->Bool
 | 0=>true
 | k+1=>jv m k&&gF m k
def iW (m:eu):Int:=
 if decide m.may=false then 0
 else if(m.imports.any fun x=>mZ m x.type)=true then 2
 else if(m.funcs.any fun t=>mZ m t)=true then 3
 else if mc m.table=true then 4
 else if mc m.mem=true then 5
 else if Bj m=true then 7
 else if m.elems.length≠0/\m.table.has=false then 9
 else if FG m=true then 9
 else if jv m m.eh.length=false then 10
 else if m.eA.length≠0/\m.mem.has=false then 11
 else -1
theorem rn (m:eu) (x:iU):∀(l pre:List iU),mi m pre (l++[x])=(mi m pre l || yj m (pre++l) x)
 | [],pre=>by simp [mi]
 | y::l,pre=>by
  simp only [bI,mi,rn m x l (pre++[y]),aK,Bool.or_assoc,cg]
theorem AT (K:Nat) (hK:K <=5000) (n:Int) (hn:n=(K:Int)) (w:World):(Instr.makeSlice 104 (.int .i64 n) (.int .i64 n)).run prog w=
  .ok (.slice (some ⟨w.heap.size,0,none⟩) K K) (w.alloc (.cells (List.replicate K (.int .u8 0)).toArray 5)):=by
 subst hn;obtain⟨i,hi,NM,ME,Nd⟩:=bV nV;have h:=run_make (P:=prog) w 104 5 i _ (by kernel_rfl) hi NM .i64 .i64 (K:Int) (K:Int) (by omega) (Int.le_refl _) (by rw [Nd];omega) (by omega);rw [ME,cE,aY]at h;have e:madeCells (Value.cells (.int .u8 0)) K=(List.replicate K (.int .u8 0)).toArray:=by
  apply Array.ext
  ·simp [madeCells]
  ·intro i h1 h2
   have:i %1=0:=Nat.mod_one i;simp [madeCells,Value.cells,this]
 rw [e]at h;exact h
structure zI where
 bytes:List UInt8
 ff:Int
 Cv:List Int
def Fa (w:World) (B X:Nat) (e:zI):Prop:=∃v v',eD w X #[v, .int .i64 e.ff,v'] 159/\ed w B v e.bytes/\dS 3 1 eU w B v' e.Cv
def oo (mx:Int):Int:=if mx= -1 then 16 else max (min 16 mx) (-1)
def iT (l:fN):Option zI:=if l.has=false\/l.min < 0\/16 < l.min then none else some ⟨List.replicate (l.min.toNat*256) 0,oo l.max,[]⟩
def Ef (l:fN) (w:World) (e:Ending) (w':World):Prop:=
 Below w.heap.size w w'/\((iT l=none/\e= .returned (.pointer none))\/∃x X,iT l=some x/\e= .returned (.pointer (some ⟨X,0,none⟩))/\Fa w' w.heap.size X x/\w.heap.size <=X)
theorem zX {w:World} {g K B:Nat} (h:eD w g (List.replicate K (.int .u8 0)).toArray 5) (hB:B <=g) (hK:K <=100000):ed w B (.slice (some ⟨g,0,none⟩) K K) (List.replicate K 0):=by
 refine⟨by simp, .inr ⟨g,K,_,by simp,hB,h,by simp,by simp [maxLen];omega,by simp,?_⟩⟩;simp [List.map_replicate,bv]
theorem qJ (w:World) (n:Nat) (hn:n <=16) (o:Obj) (m:Int):
  Fa (((w.alloc o).alloc (.cells (Array.replicate (n*256) (.int .u8 0)) 5)).alloc (.cells #[.slice (some ⟨w.heap.size+1,0,none⟩) (n*256) (n*256), .int .i64 m, .slice none 0 0] 159)).drew w.heap.size (w.heap.size+2) ⟨List.replicate (n*256) 0,m,[]⟩/\
  Below w.heap.size w (((w.alloc o).alloc (.cells (Array.replicate (n*256) (.int .u8 0)) 5)).alloc (.cells #[.slice (some ⟨w.heap.size+1,0,none⟩) (n*256) (n*256), .int .i64 m, .slice none 0 0] 159)).drew:=by
 rw [<- List.toArray_replicate];have LG:=(an w.heap.size w).alloc (ag _) o;have Lw:=LG.alloc (by rw [aC];omega) (.cells (List.replicate (n*256) (.int .u8 0)).toArray 5);have LZ:=Lw.alloc (by rw [aC,aC];omega) (.cells #[.slice (some ⟨w.heap.size+1,0,none⟩) (n*256) (n*256), .int .i64 m, .slice none 0 0] 159);have hx:=eD.new ((w.alloc o).alloc (.cells (List.replicate (n*256) (.int .u8 0)).toArray 5)) #[.slice (some ⟨w.heap.size+1,0,none⟩) (n*256) (n*256), .int .i64 m, .slice none 0 0] 159;have hy:=(eD.new (w.alloc o) (List.replicate (n*256) (.int .u8 0)).toArray 5).alloc (.cells #[.slice (some ⟨w.heap.size+1,0,none⟩) (n*256) (n*256), .int .i64 m, .slice none 0 0] 159);simp only [aC]at hx hy;exact⟨⟨_,_,hx.drew,zX hy.drew (by omega) (by omega),dS.nil _ _⟩,LZ.drew⟩
theorem Bc (l:fN) (w:World):Calls prog 36 #[.agg #[.bool l.has, .int .i64 l.min, .int .i64 l.max]] w (Ef l w):=by
 obtain⟨has,mn,mx⟩:=l;have HB:=V ((an w.heap.size w).alloc (ag _) (.cells #[.bool has, .int .i64 mn, .int .i64 mx] 28));cases has
 ·have HM:=V (show iT ⟨false,mn,mx⟩=none by unfold iT;simp)
  go_enter func36,ntmps36;go_wp2;go_ret;exact⟨HB.out, .inl ⟨HM.out,rfl⟩⟩
 by_cases q1:mn < 0
 ·have f1:decide (mn < 0)=true:=ay q1
  have HM:=V (show iT ⟨true,mn,mx⟩=none by unfold iT;rw [if_pos (.inr (.inl q1))]);clear q1;go_enter func36,ntmps36;go_wp2;go_ret;exact⟨HB.out, .inl ⟨HM.out,rfl⟩⟩
 obtain⟨n,rfl⟩:∃n:Nat,mn=n:=⟨mn.toNat,by omega⟩;have f1:decide ((n:Int) < 0)=false:=aw q1;by_cases q2:16 < n
 ·have f2:decide ((16:Int) < (n:Int))=true:=ay (by omega)
  have f3:decide (16 < n)=true:=ay q2;have HM:=V (show iT ⟨true,n,mx⟩=none by unfold iT;rw [if_pos (.inr (.inr (by show(16:Int) < n;omega)))]);clear q1 q2;go_enter func36,ntmps36;go_wp2;go_ret;exact⟨HB.out, .inl ⟨HM.out,rfl⟩⟩
 have f2:decide ((16:Int) < (n:Int))=false:=aw (by omega);have f3:decide (16 < n)=false:=aw q2;have HM:=V (show iT ⟨true,n,mx⟩=some ⟨List.replicate (n*256) 0,oo mx,[]⟩by
  unfold iT;rw [az (by simp;omega),cE])
 have hmk:=fun w=>AT (n*256) (by omega) ((n:Int)*256) (by omega) w;have hn:n <=16:=by omega
 clear q1 q2;have LG:=HB.out.alloc (by rw [aC];omega) (.cells (List.replicate (n*256) (.int .u8 0)).toArray 5);have HS:=V (LG.alloc (by rw [aC,aC];omega) (.cells #[.slice (some ⟨w.heap.size+1,0,none⟩) (n*256) (n*256), .int .i64 16, .slice none 0 0] 159));have hx:=eD.new ((w.alloc (.cells #[.bool true, .int .i64 n, .int .i64 mx] 28)).alloc (.cells (List.replicate (n*256) (.int .u8 0)).toArray 5)) #[.slice (some ⟨w.heap.size+1,0,none⟩) (n*256) (n*256), .int .i64 16, .slice none 0 0] 159;have hy:=(eD.new (w.alloc (.cells #[.bool true, .int .i64 n, .int .i64 mx] 28)) (List.replicate (n*256) (.int .u8 0)).toArray 5).alloc (.cells #[.slice (some ⟨w.heap.size+1,0,none⟩) (n*256) (n*256), .int .i64 16, .slice none 0 0] 159);simp only [aC]at hx hy;have HX:=V hx;have HY:=V (zX hy (B:=w.heap.size) (by omega) (by omega));have HL0:=V (((eD.new w #[.bool true, .int .i64 n, .int .i64 mx] 28).alloc (.cells (List.replicate (n*256) (.int .u8 0)).toArray 5)).alloc (.cells #[.slice (some ⟨w.heap.size+1,0,none⟩) (n*256) (n*256), .int .i64 16, .slice none 0 0] 159));clear LG hx hy;by_cases q:mx= -1
 ·have f4:=kX q
  have HMO:=V (show oo mx=16 by unfold oo;rw [if_pos q]);clear q;go_enter func36,ntmps36;go_wp2;go_ret;exact⟨HS.out, .inr ⟨_,w.heap.size+2,HM.out,rfl,by rw [HMO.out];exact⟨_,_,HX.out,HY.out,dS.nil _ _⟩,by omega⟩⟩
 have f4:=fa q;obtain⟨r1,PO⟩:∃r1:Int,min 16 mx=r1:=⟨_,rfl⟩;have HMO:=V (show oo mx=max (min 16 mx) (-1)by unfold oo;rw [if_neg q]);have x1:World.cell? _ ⟨w.heap.size+2,1,none⟩=some (.int .i64 16):=HX.out.drew.cell 1;have HL:=V (HL0.out.drew);have x2:World.cell? _ ⟨w.heap.size,2,none⟩=some (.int .i64 mx):=HL.out.cell 2;replace HX:=V HX.out.drew;have HY:=V (show ed _ w.heap.size (.slice (some ⟨w.heap.size+1,0,none⟩) (n*256) (n*256)) (List.replicate (n*256) 0)from ed.below HY.out (an _ _).drew);replace HS:=V HS.out.drew;clear q PO;go_enter func36,ntmps36;go_wp2_with fail;refine eK (fun w'=>w'.cell? ⟨w.heap.size+2,1,none⟩=some (.int .i64 16)/\w'.cell? ⟨w.heap.size,2,none⟩=some (.int .i64 mx)) 11 (up 0 7 ((7,false)::(8,false)::(9,true)::(10,true)::[])) (by kernel_rfl) (by kernel_rfl) ⟨x1,x2⟩ ?_;iterate 7 (first | (apply sk rfl rfl;simp only [pt]) | (apply dV rfl rfl rfl;·(rintro w' ⟨t0,t1⟩;go_wp2;exact⟨rfl,rfl,rfl⟩)))
 refine dZ rfl rfl ?_;by_cases hq:16 <=mx
 ·have hq':decide ((16:Int) <=mx)=true:=ay hq
  replace HMO:=V (show oo mx=16 by rw [HMO.out];omega);go_wp2_with fail;refine⟨⟨x1,x2⟩,?_⟩;refine dZ rfl rfl ?_;go_wp2_with fail;refine⟨⟨x1,x2⟩,?_⟩;iterate 2 (first | (apply sk rfl rfl;simp only [pt]) | (apply dV rfl rfl rfl;·(rintro w' ⟨t0,t1⟩;go_wp2;exact⟨rfl,rfl,rfl⟩)))
  refine fu rfl rfl ?_;have z1:=HX.out.free 1;go_wp2;refine⟨trivial,?_⟩;refine aA ?_;go_wp2;go_ret;have HE:=qJ w n hn (.cells #[.bool true, .int .i64 n, .int .i64 mx] 28) 16;exact⟨HE.2, .inr ⟨_,w.heap.size+2,HM.out,rfl,by rw [HMO.out];exact HE.1,by omega⟩⟩
 ·have hq':decide ((16:Int) <=mx)=false:=aw hq
  by_cases hr:mx < -1
  ·have hr':decide (mx < -1)=true:=ay hr
   replace HMO:=V (show oo mx=(-1)by rw [HMO.out];omega);go_wp2_with fail;refine⟨⟨x1,x2⟩,?_⟩;refine dZ rfl rfl ?_;go_wp2_with fail;refine⟨⟨x1,x2⟩,?_⟩;iterate 2 (first | (apply sk rfl rfl;simp only [pt]) | (apply dV rfl rfl rfl;·(rintro w' ⟨t0,t1⟩;go_wp2;exact⟨rfl,rfl,rfl⟩)))
   refine fu rfl rfl ?_;have z1:=HX.out.free 1;go_wp2;refine⟨trivial,?_⟩;refine aA ?_;go_wp2;go_ret;have HE:=qJ w n hn (.cells #[.bool true, .int .i64 n, .int .i64 mx] 28) (-1);exact⟨HE.2, .inr ⟨_,w.heap.size+2,HM.out,rfl,by rw [HMO.out];exact HE.1,by omega⟩⟩
  ·have hr':decide (mx < -1)=false:=aw hr
   replace HMO:=V (show oo mx=mx by rw [HMO.out];omega);go_wp2_with fail;refine⟨⟨x1,x2⟩,?_⟩;refine dZ rfl rfl ?_;go_wp2_with fail;refine⟨⟨x1,x2⟩,?_⟩;iterate 2 (first | (apply sk rfl rfl;simp only [pt]) | (apply dV rfl rfl rfl;·(rintro w' ⟨t0,t1⟩;go_wp2;exact⟨rfl,rfl,rfl⟩)))
   refine fu rfl rfl ?_;have z1:=HX.out.free 1;go_wp2;refine⟨trivial,?_⟩;refine aA ?_;go_wp2;go_ret;have HE:=qJ w n hn (.cells #[.bool true, .int .i64 n, .int .i64 mx] 28) mx;exact⟨HE.2, .inr ⟨_,w.heap.size+2,HM.out,rfl,by rw [HMO.out];exact HE.1,by omega⟩⟩
theorem ed.fV {w:World} {B X:Nat} {v:Value} {l:List UInt8} {xs:Array Value} {t':TypeId} (h:ed w B v l) (hb:eD w X xs t') (MO:5≠t'):∀i,ez v i ->¬ i=X:=by
 intro i hi he;subst he;obtain⟨_,⟨hv,_⟩ | ⟨g,cap,cur,hv,_,hg,_⟩⟩:=h
 ·rw [hv]at hi;simp [ez,Value.ownBlock]at hi
 ·rw [hv]at hi
  simp [ez,Value.ownBlock]at hi;subst hi;have:=hb.symm.trans hg;injection this with this;injection this with e1 e2;exact MO e2.symm
def Ku (w:World) (B:Nat) (p:Value) (e:Option zI):Prop:=(e=none/\p= .pointer none)\/∃x X,e=some x/\p= .pointer (some ⟨X,0,none⟩)/\Fa w B X x/\B <=X
def Ij (b:Bool):iV fN:=if b=true then kD else fT
theorem DC (b:Bool):jg (Ij b):=by cases b <;>first | exact pn | exact uc
theorem Kr (w0 w:World) (R Rb Bb:Nat) (before:Bool) (s:gA) (h:fG w0 w R s) (hr:eD w Rb #[.pointer (some ⟨R,0,none⟩)] 193) (hb:eD w Bb #[.bool before] 4) (n1:R < Rb) (n2:R < Bb):
  Calls prog 286 (#[]++#[.pointer (some ⟨Bb,0,none⟩), .pointer (some ⟨Rb,0,none⟩)]) w (JH (fun x:fN=> .agg #[.bool x.has, .int .i64 x.min, .int .i64 x.max]) w0 R (Ij before) fN.ok s w):=by
 have Oc:=h.lt;have Po:=h.old.2;have l1:=hr.lt;have l2:=hb.lt;have HH:=V (h.alloc (.cells #[.bool false, .int .i64 0, .int .i64 0] 28));have HX:=V (eD.new w #[.bool false, .int .i64 0, .int .i64 0] 28);have HK:=V ((dU.refl (fun k=>k=R) w).alloc (.cells #[.bool false, .int .i64 0, .int .i64 0] 28));have HA:=V (hr.alloc (.cells #[.bool false, .int .i64 0, .int .i64 0] 28));have HC:=V (hb.alloc (.cells #[.bool false, .int .i64 0, .int .i64 0] 28));have a0:=HA.out.cell 0;have c0:=HC.out.cell 0;simp only [aM,aJ]at a0 c0;clear h hr hb;cases before with
 | true=>
  go_enter func286,ntmps286;go_wp2_with fail;refine(iM w0 _ R s HH.out).mono ?_;rintro e w1 ⟨rfl,hh,hk⟩;have HH:=V hh;have HX:=V (HX.out.keeps hk (by omega));have HA:=V (HA.out.keeps hk (by omega));have HC:=V (HC.out.keeps hk (by omega));have HK:=V (HK.out.trans hk (fun _ h=> .inl h));clear hh hk;clear a0 c0;have a0:=HA.out.cell 0;simp only [aM,aJ]at a0;go_wp2_with fail;refine(uM w0 w1 R _ HH.out).mono ?_;rintro e w2 ⟨x,rfl,LF,hw,hh,hk⟩;have Mv:=V LF;have HW:=V hw;clear LF hw;have HH:=V hh;have HX:=V (HX.out.keeps hk (by omega));have HA:=V (HA.out.keeps hk (by omega));have HC:=V (HC.out.keeps hk (by omega));have HK:=V (HK.out.trans hk (fun _ h=> .inl h));clear hh hk;clear a0;obtain⟨x0,x1,x2,z0,z1,z2⟩:=HX.out.Hd;go_wp2_with fail;have hx:=HX.out.vr (.bool x.has) (.int .i64 x.min) (.int .i64 x.max);have Lx:=kp w2 w.heap.size (.bool x.has) (.int .i64 x.min) (.int .i64 x.max);refine aF (ej rfl _ _ rfl hx.pN) rfl ?_;refine⟨x,rfl,Mv.out,?_,?_,HK.out.iJ Lx (ag _)⟩
  ·show gO kD s x
   rw [se];exact fo (f:=fun x:UInt8 × fN=>x.2) (ib (ml s) HW.out)
  ·show fG w0 _ R (et kD s)
   rw [se,fh,gI];exact HH.out.keeps Lx (by omega) (fun i hi=>by omega)
 | false=>
  go_enter func286,ntmps286;go_wp2_with fail;refine(uM w0 _ R _ HH.out).mono ?_;rintro e w2 ⟨x,rfl,LF,hw,hh,hk⟩;have Mv:=V LF;have HW:=V hw;clear LF hw;have HH:=V hh;have HX:=V (HX.out.keeps hk (by omega));have HA:=V (HA.out.keeps hk (by omega));have HC:=V (HC.out.keeps hk (by omega));have HK:=V (HK.out.trans hk (fun _ h=> .inl h));clear hh hk;clear a0 c0;obtain⟨x0,x1,x2,z0,z1,z2⟩:=HX.out.Hd;go_wp2_with fail;have hx:=HX.out.vr (.bool x.has) (.int .i64 x.min) (.int .i64 x.max);have Lx:=kp w2 w.heap.size (.bool x.has) (.int .i64 x.min) (.int .i64 x.max);refine aF (ej rfl _ _ rfl hx.pN) rfl ?_;exact⟨x,rfl,Mv.out,HW.out,HH.out.keeps Lx (by omega) (fun i hi=>by omega),HK.out.iJ Lx (ag _)⟩
def ID (w0 w:World) (R:Nat) (st:gA) (get:iV fN) (e:Ending) (w':World):Prop:=
 ∃x:fN,e= .returned (.agg #[.bool x.has, .int .i64 x.min, .int .i64 x.max])/\x.ok/\gO (gK jF (fg get)) st x/\fG w0 w' R (et (fg get) st)/\dU (fun k=>k=R) w w'
theorem nL:fN.ok ⟨false,0,0⟩:=⟨yq,yq⟩
theorem sw (w0 w:World) (R:Nat) (before:Bool) (st:gA) (h:fG w0 w R st):Calls prog 210 #[.pointer (some ⟨R,0,none⟩), .bool before] w (ID w0 w R st (Ij before)):=by
 have Oc:=h.lt;have Po:=h.old.2;have HH:=V (((h.alloc (.cells #[.pointer (some ⟨R,0,none⟩)] 193)).alloc (.cells #[.bool before] 4)).alloc (.cells #[.bool false, .int .i64 0, .int .i64 0] 28));have HA:=V (((eD.new w #[.pointer (some ⟨R,0,none⟩)] 193).alloc (.cells #[.bool before] 4)).alloc (.cells #[.bool false, .int .i64 0, .int .i64 0] 28));have HC:Hid (eD (((w.alloc (.cells #[.pointer (some ⟨R,0,none⟩)] 193)).alloc (.cells #[.bool before] 4)).alloc (.cells #[.bool false, .int .i64 0, .int .i64 0] 28)) (w.heap.size+1) #[.bool before] 4):=V (by
  have:=(eD.new (w.alloc (.cells #[.pointer (some ⟨R,0,none⟩)] 193)) #[.bool before] 4).alloc (.cells #[.bool false, .int .i64 0, .int .i64 0] 28);rw [aC]at this;exact this)
 have HX:Hid (eD (((w.alloc (.cells #[.pointer (some ⟨R,0,none⟩)] 193)).alloc (.cells #[.bool before] 4)).alloc (.cells #[.bool false, .int .i64 0, .int .i64 0] 28)) (w.heap.size+1+1) #[.bool false, .int .i64 0, .int .i64 0] 28):=V (by
  have:=eD.new ((w.alloc (.cells #[.pointer (some ⟨R,0,none⟩)] 193)).alloc (.cells #[.bool before] 4)) #[.bool false, .int .i64 0, .int .i64 0] 28;rw [aC,aC]at this;exact this)
 have HK:=V ((((dU.refl (fun k=>k=R) w).alloc (.cells #[.pointer (some ⟨R,0,none⟩)] 193)).alloc (.cells #[.bool before] 4)).alloc (.cells #[.bool false, .int .i64 0, .int .i64 0] 28));clear h;go_enter func210,ntmps210;go_wp2_with fail;generalize((w.alloc (.cells #[.pointer (some ⟨R,0,none⟩)] 193)).alloc (.cells #[.bool before] 4)).alloc (.cells #[.bool false, .int .i64 0, .int .i64 0] 28)=wa at HH HA HC HX HK⊢;have hz:=HX.out.lt;refine(IQ w0 R (Ij before) fN.ok (DC before) _ wa 286 #[] #[.pointer (some ⟨w.heap.size+1,0,none⟩), .pointer (some ⟨w.heap.size,0,none⟩)] (fun _ _=>by rfl) HH.out (fun s w1 h hk=>Kr w0 w1 R w.heap.size (w.heap.size+1) before s h (HA.out.keeps hk (by omega)) (HC.out.keeps hk (by omega)) (by omega) (by omega))).mono ?_;rintro e w1 ⟨v,l,rfl,ho,hp,hl,hw,hh,hk⟩;have HP:=V hp;have HW:=V hw;have HI:=V (ho.fH yP);clear hw hp;have HH:=V hh;have HX:=V (HX.out.keeps hk (by omega));have HA:=V (HA.out.keeps hk (by omega));have HC:=V (HC.out.keeps hk (by omega));have HK:=V (HK.out.trans hk (fun _ h=> .inl h));clear hh hk;obtain⟨a,cap,rfl,N3,MF⟩:=fk HI.out;clear ho;obtain⟨x0,x1,x2,z0,z1,z2⟩:=HX.out.Hd;cases l with
 | nil=>
  have f1:((([]:List fN).length:Int)==0)=true:=rfl;go_wp2_with fail;have hx:=HX.out.vr (.bool false) (.int .i64 0) (.int .i64 0);have Lx:=kp w1 (w.heap.size+1+1) (.bool false) (.int .i64 0) (.int .i64 0);refine aF (ej rfl _ _ rfl hx.pN) rfl ?_;exact⟨⟨false,0,0⟩,rfl,nL,fo (f:=jF) HW.out,HH.out.keeps Lx (by omega) (fun i hi=>by omega),HK.out.iJ Lx (by omega)⟩
 | cons x l=>
  obtain⟨L,hL⟩:∃L,L=x::l:=⟨_,rfl⟩;obtain⟨_,_,hv,_,_,Lt⟩:=HI.out;injection hv with e1 e2 e3;subst e1;obtain⟨bb,off,rfl,LD,LM⟩:=Lt 0 x rfl;have g0:=LM 0 _ rfl;have g1:=LM 1 _ rfl;have g2:=LM 2 _ rfl;rw [dL,aI]at g0;rw [dL,aI]at g1 g2;rw [<- hL]at HI HP HW N3⊢;have PX:0 < L.length:=by rw [hL];simp
  have f1:((L.length:Int)==0)=false:=dR (by omega);have f2:(0:Int) < (L.length:Int):=by omega
  have HF:=V (show jF L=x by rw [hL];rfl);have HPX:=V (show x.ok from HP.out x (by rw [hL];simp));clear Lt e2 e3 LM hL;go_wp2_with fail;have hx:=HX.out.vr (.bool x.has) (.int .i64 x.min) (.int .i64 x.max);have Lx:=kp w1 (w.heap.size+1+1) (.bool x.has) (.int .i64 x.min) (.int .i64 x.max);refine aF (ej rfl _ _ rfl hx.pN) rfl ?_;exact⟨x,rfl,HPX.out,by rw [<- HF.out];exact fo (f:=jF) HW.out,HH.out.keeps Lx (by omega) (fun i hi=>by omega),HK.out.iJ Lx (by omega)⟩
theorem Kc (w0 w:World) (R Rb:Nat) (s:gA) (h:fG w0 w R s) (hr:eD w Rb #[.pointer (some ⟨R,0,none⟩)] 193) (n1:R < Rb):
  Calls prog 221 (#[]++#[.pointer (some ⟨Rb,0,none⟩)]) w (KB (fun(x:gR) (u:Value)=> .agg #[.int .i64 x.off,u]) gb w0 R uk (fun _=>True) s w):=by
 have Oc:=h.lt;have Po:=h.old.2;have l1:=hr.lt;have HH:=V ((h.alloc (.cells #[.int .i64 0, .slice none 0 0] 106)).drew);have HX:=V ((eD.new w #[.int .i64 0, .slice none 0 0] 106).drew);have HK:=V (((dU.refl (fun k=>k=R) w).alloc (.cells #[.int .i64 0, .slice none 0 0] 106)).drew);have HA:=V ((hr.alloc (.cells #[.int .i64 0, .slice none 0 0] 106)).drew);have a0:=HA.out.cell 0;simp only [aM,aJ]at a0;clear h hr;go_enter func221,ntmps221;go_wp2_with fail;refine ea (fun w'=>w'.cell? ⟨Rb,0,none⟩=some (.pointer (some ⟨R,0,none⟩))) [(0,true),(2,true),(1,false),(3,false),(4,true),(5,false)] (by kernel_rfl) (by kernel_rfl) a0 ?_;clear a0;generalize(w.alloc (.cells #[.int .i64 0, .slice none 0 0] 106)).drew=wa at HH HX HK HA⊢;have hz:=HX.out.lt;iterate 2 (first | (apply sk rfl rfl;simp only [pt]) | (apply dV rfl rfl rfl;·(rintro w' t0;go_wp2;exact⟨rfl,rfl,rfl⟩)))
 refine dZ rfl rfl ?_;go_wp2_with fail;refine(si w0 wa R s HH.out).mono ?_;rintro e w1 ⟨n,rfl,hn,hw,hh,hk⟩;have HN:=V hn;have HW:=V hw;have ME:=hk.size;clear hn hw;have HH:=V hh;have HX:=V (HX.out.keeps hk (by omega));have HA:=V (HA.out.keeps hk (by omega));have HK:=V (HK.out.trans hk (fun _ h=> .inl h));clear hh hk;go_wp2_with fail;refine⟨HA.out.cell 0,?_⟩;refine dZ rfl rfl ?_;go_wp2_with fail;refine(Cq w0 w1 R _ HH.out).mono ?_;rintro e w2 ⟨v,rfl,ho,hh,hk⟩;have HO:=V ho;obtain⟨a,cap,rfl,-,-,-⟩:=ho.gl;clear ho;have HH:=V hh;have HX:=V (HX.out.keeps hk (by omega));have HA:=V (HA.out.keeps hk (by omega));have HK:=V (HK.out.trans hk (fun _ h=> .inl h));clear hh hk;go_wp2_with fail;refine⟨HA.out.cell 0,?_⟩;iterate 1 (first | (apply sk rfl rfl;simp only [pt]) | (apply dV rfl rfl rfl;·(rintro w' t0;go_wp2;exact⟨rfl,rfl,rfl⟩)))
 refine dZ rfl rfl ?_;obtain⟨x0,x1,z0,z1⟩:=HX.out.two;go_wp2_with fail;have hx:=HX.out.mL (.int .i64 n) (.slice a (nG (et iX s)).length cap);have Lx:=fp w2 w.heap.size (.int .i64 n) (.slice a (nG (et iX s)).length cap);refine⟨(HA.out.keeps Lx (by omega)).cell 0,?_⟩;refine eF ?_;refine aA ?_;go_wp2_with fail;refine aF (ej rfl _ _ rfl hx.Fw) rfl ?_;have o1:=ed.base (ed.keeps HO.out Lx (fun i hi h=>by have:=(ey HO.out hi).1;omega)) (show w.heap.size <=w1.heap.size by omega);refine⟨⟨n,nG (et iX s)⟩, .slice a (nG (et iX s)).length cap,rfl,⟨xK o1,HN.out⟩,trivial,?_,?_,HK.out.iJ Lx (ag _)⟩
 ·rw [yp]
  exact fo (f:=fun x:Int × List UInt8=>gR.mk x.1 x.2) (ib HW.out (yM _))
 ·rw [yp,fh,gI]
  exact HH.out.keeps Lx (by omega) (fun i hi=>by omega)
theorem JZ (w0 w:World) (R Rb:Nat) (s:gA) (h:fG w0 w R s) (hr:eD w Rb #[.pointer (some ⟨R,0,none⟩)] 193) (n1:R < Rb):
  Calls prog 216 (#[]++#[.pointer (some ⟨Rb,0,none⟩)]) w (KB (fun(x:jh) (u:Value)=> .agg #[.int .i64 x.off,u]) gQ w0 R pd (fun _=>True) s w):=by
 have Oc:=h.lt;have Po:=h.old.2;have l1:=hr.lt;have HH:=V ((h.alloc (.cells #[.int .i64 0, .slice none 0 0] 77)).drew);have HX:=V ((eD.new w #[.int .i64 0, .slice none 0 0] 77).drew);have HK:=V (((dU.refl (fun k=>k=R) w).alloc (.cells #[.int .i64 0, .slice none 0 0] 77)).drew);have HA:=V ((hr.alloc (.cells #[.int .i64 0, .slice none 0 0] 77)).drew);have a0:=HA.out.cell 0;simp only [aM,aJ]at a0;clear h hr;go_enter func216,ntmps216;go_wp2_with fail;refine lC (fun w'=>w'.cell? ⟨Rb,0,none⟩=some (.pointer (some ⟨R,0,none⟩))) (ord [(0,true),(2,true),(3,true)] (.fork 1 4 (ord [(4,false),(5,false),(6,true),(7,false)] .nil) (ord [(1,false),(5,false),(6,true),(7,false)] .nil))) (by kernel_rfl) (by kernel_rfl) a0 ?_;dsimp only [ord];clear a0;generalize(w.alloc (.cells #[.int .i64 0, .slice none 0 0] 77)).drew=wa at HH HX HK HA⊢;have hz:=HX.out.lt;iterate 3 (first | (apply ord_skip rfl rfl;simp only [Act.put,aW,bz,bC]) | (apply im rfl rfl rfl;·(rintro w' t0;go_wp2;exact⟨rfl,rfl,rfl⟩)))
 refine o7 rfl rfl rfl rfl ?_ ?_
 ·go_wp2_with fail
  refine(si w0 wa R s HH.out).mono ?_;rintro e w1 ⟨n,rfl,hn,hw,hh,hk⟩;have HN:=V hn;have HW:=V hw;have ME:=hk.size;clear hn hw;have HH:=V hh;have HX:=V (HX.out.keeps hk (by omega));have HA:=V (HA.out.keeps hk (by omega));have HK:=V (HK.out.trans hk (fun _ h=> .inl h));clear hh hk;go_wp2_with fail;refine⟨HA.out.cell 0,?_⟩;refine fE rfl rfl ?_;go_wp2_with fail;refine⟨HA.out.cell 0,?_⟩;refine fE rfl rfl ?_;go_wp2_with fail;refine(nD w0 R vz iR og _ w1 122 #[.pointer (some ⟨R,0,none⟩)] #[] (fun _ _=>by rfl) HH.out (fun s w1 h _=>Gb w0 w1 R s h)).mono ?_;rintro e w2 ⟨v,l,rfl,ho,hp,hl,NO,hh,hk⟩;obtain⟨a,cap,rfl,-,-⟩:=ho.slice;have HO:=V ho;have HP:=V hp;have MD:=V NO;clear ho hp NO;have HH:=V hh;have HX:=V (HX.out.keeps hk (by omega));have HA:=V (HA.out.keeps hk (by omega));have HK:=V (HK.out.trans hk (fun _ h=> .inl h));clear hh hk;go_wp2_with fail;refine⟨HA.out.cell 0,?_⟩;iterate 1 (first | (apply ord_skip rfl rfl;simp only [Act.put,aW,bz,bC]) | (apply im rfl rfl rfl;·(rintro w' t0;go_wp2;exact⟨rfl,rfl,rfl⟩)))
  refine fE rfl rfl ?_;obtain⟨x0,x1,z0,z1⟩:=HX.out.two;go_wp2_with fail;have hx:=HX.out.mL (.int .i64 n) (.slice a l.length cap);have Lx:=fp w2 w.heap.size (.int .i64 n) (.slice a l.length cap);refine⟨(HA.out.keeps Lx (by omega)).cell 0,?_⟩;refine ma ?_;refine aA ?_;go_wp2_with fail;refine aF (ej rfl _ _ rfl hx.As) rfl ?_;have o1:=(HO.out.stay Lx (fun i hi=>by omega)).lower (show w.heap.size <=w1.heap.size by omega);refine⟨⟨n,l⟩, .slice a l.length cap,rfl,⟨iY fm o1,HN.out,HP.out⟩,trivial,?_,?_,HK.out.iJ Lx (ag _)⟩
  ·rw [pr]
   exact fo (f:=fun x:Int × List Int=>jh.mk x.1 x.2) (ib HW.out MD.out)
  ·rw [pr,fh,gI]
   exact HH.out.keeps Lx (by omega) (fun i hi=>by omega)
 ·go_wp2_with fail
  refine⟨HA.out.cell 0,?_⟩;refine fE rfl rfl ?_;go_wp2_with fail;refine(si w0 wa R s HH.out).mono ?_;rintro e w1 ⟨n,rfl,hn,hw,hh,hk⟩;have HN:=V hn;have HW:=V hw;have ME:=hk.size;clear hn hw;have HH:=V hh;have HX:=V (HX.out.keeps hk (by omega));have HA:=V (HA.out.keeps hk (by omega));have HK:=V (HK.out.trans hk (fun _ h=> .inl h));clear hh hk;go_wp2_with fail;refine⟨HA.out.cell 0,?_⟩;refine fE rfl rfl ?_;go_wp2_with fail;refine(nD w0 R vz iR og _ w1 122 #[.pointer (some ⟨R,0,none⟩)] #[] (fun _ _=>by rfl) HH.out (fun s w1 h _=>Gb w0 w1 R s h)).mono ?_;rintro e w2 ⟨v,l,rfl,ho,hp,hl,NO,hh,hk⟩;obtain⟨a,cap,rfl,-,-⟩:=ho.slice;have HO:=V ho;have HP:=V hp;have MD:=V NO;clear ho hp NO;have HH:=V hh;have HX:=V (HX.out.keeps hk (by omega));have HA:=V (HA.out.keeps hk (by omega));have HK:=V (HK.out.trans hk (fun _ h=> .inl h));clear hh hk;go_wp2_with fail;refine⟨HA.out.cell 0,?_⟩;iterate 1 (first | (apply ord_skip rfl rfl;simp only [Act.put,aW,bz,bC]) | (apply im rfl rfl rfl;·(rintro w' t0;go_wp2;exact⟨rfl,rfl,rfl⟩)))
  refine fE rfl rfl ?_;obtain⟨x0,x1,z0,z1⟩:=HX.out.two;go_wp2_with fail;have hx:=HX.out.mL (.int .i64 n) (.slice a l.length cap);have Lx:=fp w2 w.heap.size (.int .i64 n) (.slice a l.length cap);refine⟨(HA.out.keeps Lx (by omega)).cell 0,?_⟩;refine ma ?_;refine aA ?_;go_wp2_with fail;refine aF (ej rfl _ _ rfl hx.As) rfl ?_;have o1:=(HO.out.stay Lx (fun i hi=>by omega)).lower (show w.heap.size <=w1.heap.size by omega);refine⟨⟨n,l⟩, .slice a l.length cap,rfl,⟨iY fm o1,HN.out,HP.out⟩,trivial,?_,?_,HK.out.iJ Lx (ag _)⟩
  ·rw [pr]
   exact fo (f:=fun x:Int × List Int=>jh.mk x.1 x.2) (ib HW.out MD.out)
  ·rw [pr,fh,gI]
   exact HH.out.keeps Lx (by omega) (fun i hi=>by omega)
end Go.Proofs.YtjmeglibedbljaaGreatDoor
