import Derived.Test.YthbjdhjppbcneaaGreatDoorFramesJ10
import Derived.Laws.EntriesVeiled
namespace Go.Proofs.YthbjdhjppbcneaaGreatDoor
set_option maxRecDepth 100000
set_option maxHeartbeats 20000000
open Go.RowKit Tryz
open Lib renaming hid->V
set_option linter.all false
theorem eG.Ii {w:World} {X:Nat} {x0 x1 x2:Int} {b:Bool} {t:TypeId} (h:eG w X #[.int .i64 x0, .int .i64 x1, .int .i64 x2, .bool b] t):
  (loadVar 186 ⟨X,0,none⟩).run prog w= .ok (.agg #[.int .i64 x0, .int .i64 x1, .int .i64 x2, .bool b]) w:=by
 have hs:(prog.underlying 186).map (fun d=>match d with | .struct _ | .array _ _=>true | _=>false)=some true:=by kernel_rfl
 obtain⟨d,h1,h2⟩:=bz.1 hs;exact bY w X t 186 _ _ d h h1 (by cases d <;>first | rfl | (exfalso;simp at h2)) (by kernel_rfl)
def EZ (t:mO):Value:= .agg #[.int .i64 t.op, .int .i64 t.kind, .int .i64 t.eM, .bool t.dead]
theorem pM (a:Option Addr) (len cap k:Nat) (h:k <=cap) (wx:World):
  (Instr.slice 179 (.slice a len cap) none (some (.int .i64 k)) none).run prog wx= .ok (.slice a k cap) wx:=by
 have hu:prog.underlying 179=some (.slice 186):=by kernel_rfl
 obtain⟨i0,hi,M5,LR,Mz⟩:=bX wE;simp [Instr.slice,bp hu,Instr.sliceBounds,Instr.sliceBound,sizeOf,typeInfo,hi,asIntOf,h];cases a <;>simp [Addr.add]
theorem dT.gA {α:Type} {t t':TypeId} {k:Nat} {enc:α ->List Value} {w:World} {B X:Nat} {v:Value} {l:List α} {xs:Array Value} (h:dT t k enc w B v l) (hb:eG w X xs t') (Ma:t≠t'):∀i,eA v i ->¬ i=X:=by
 intro i hi he;subst he;obtain⟨_,⟨hv,_⟩ | ⟨g,cap,cur,hv,_,hg,_⟩⟩:=h
 ·rw [hv]at hi;simp [eA,Value.ownBlock]at hi
 ·rw [hv]at hi
  simp [eA,Value.ownBlock]at hi;subst hi;have:=hb.symm.trans hg;injection this with this;injection this with e1 e2;exact Ma e2.symm
theorem Db (w1:World) (C:Nat) (u:eD) (m:ez) (lv:Value) (w:World) (c:eI) (h:gm w1 C u m lv w c) (KF:gS c):
  Calls prog 106 #[.pointer (some ⟨C,0,none⟩)] w (fun e w'=>e= .returned (EZ c.top)/\gm w1 C u m lv w' c.shut.2/\dU (fun i=>i=C) w w'):=by
 have LH:=V KF;have KC:=h.lt;obtain⟨dZ,eS,bad⟩:=c;obtain⟨cs,t,rfl⟩:=qG KF.2;rw [mN];have HSH:Hid ((eI.shut ⟨dZ,cs++[t],bad⟩).2={(eI.fS ⟨dZ,cs++[t],bad⟩ (gK t.kind)).need ((eI.fS ⟨dZ,cs++[t],bad⟩ (gK t.kind)).dZ.length==t.eM)with eS:=cs}):=V (by
  unfold eI.shut eI.BB;rw [mN];simp only [eI.mZ,eI.ij,List.dropLast_concat])
 have HK0:dU (fun i=>i=C) w (w.alloc (.cells #[.int .i64 0, .int .i64 0, .int .i64 0, .bool false] 186)):=(dU.refl _ _).alloc _;have OU:=eG.new w #[.int .i64 0, .int .i64 0, .int .i64 0, .bool false] 186;obtain⟨v,v',hb,hv,hc,hk,hC⟩:=h;obtain⟨g,cap,rfl,Lk,My,OJ,M7,Nj⟩:=Aq.of hb rfl hc;have C16:=V Nj.1;have H:=V ((show gm w1 C u m lv w ⟨dZ,cs++[t],bad⟩from⟨v,_,hb,hv,hc,hk,hC⟩).alloc (.cells #[.int .i64 0, .int .i64 0, .int .i64 0, .bool false] 186));have hCl:=hb.lt;have hsw:=hk.size;have OD:=V (Aq.keeps (S:=fun _=>False) Nj ((dU.refl (fun _=>False) w).alloc (.cells #[.int .i64 0, .int .i64 0, .int .i64 0, .bool false] 186)) ⟨hCl,fun h=>h⟩ ⟨M7,fun h=>h⟩);have HQ:Hid ((w.alloc (.cells #[.int .i64 0, .int .i64 0, .int .i64 0, .bool false] 186)).cell? ⟨C,16,none⟩=w.cell? ⟨C,16,none⟩):=V (((an w.heap.size w).alloc (ag _) _).cell hCl);have hsA:(w.alloc (.cells #[.int .i64 0, .int .i64 0, .int .i64 0, .bool false] 186)).heap.size=w.heap.size+1:=aE _ _;have hlA:=H.out.lt.1;clear hb hv hc hk Nj KF KC;go_enter func106,ntmps106;go_wp2_with fail;obtain⟨wA,O7⟩:∃wA,wA=w.alloc (.cells #[.int .i64 0, .int .i64 0, .int .i64 0, .bool false] 186):=⟨_,rfl⟩;rw [<- O7]at HK0 OU H OD HQ hsA hlA⊢;clear O7;have HSA:=V hsA;have hgA:g < wA.heap.size:=by omega
 have hYA:wA.heap.size=w.heap.size+1:=hsA;refine ef (Aq C g cs.length cap t) (up 0 12 ((12,false)::(13,false)::[])) (by kernel_rfl) (by kernel_rfl) OD.out ?_;clear hsA hYA;iterate 12 (first | (apply sk rfl rfl;simp only [pt]) | (apply dV rfl rfl rfl;·(rintro w' ⟨t0,t1,t2,t3,t4⟩;go_wp2;exact⟨rfl,rfl,rfl⟩)))
 refine ed rfl rfl ?_;go_wp2_with fail;refine⟨OD.out.keeps ((dU.refl (fun _=>False) wA).drew.alloc _) ⟨hlA,fun h=>h⟩ ⟨hgA,fun h=>h⟩,?_⟩;refine ed rfl rfl ?_;go_wp2_with fail;have K6:=V (qB wA t);have HX:=V (uQ wA t);unfold EG at K6 HX;rw [HSA.out];have HX:=V (show eG _ (w.heap.size+1) _ _ by have:=HX.out;rw [HSA.out]at this;exact this);have HS:=V (H.out.below K6.out);have HR:=V (OU.below K6.out OU.lt);have HK:=V (HK0.trans (dU.dW (S:=fun _=>False) K6.out) (fun _ h=>h.elim));have HQ:=V ((K6.out.cell (p:=⟨C,16,none⟩) hlA).trans HQ.out);refine⟨OD.out.keeps (dU.dW (S:=fun _=>False) K6.out) ⟨hlA,fun h=>h⟩ ⟨hgA,fun h=>h⟩,?_⟩;refine eL ?_;refine aD ?_;generalize(wA.alloc (.cells #[.int .i64 t.op, .int .i64 t.kind, .int .i64 t.eM, .bool t.dead] 186)).drew=wb at HX HS HR HK HQ⊢;clear K6 OD H HK0 OU HSA hlA hgA;have HXL:=V (show w.heap.size+1 < wb.heap.size from HX.out.lt);have x1:=HX.out.cell 1;simp only [aG,aF,aR]at x1;go_wp2_with fail;refine(mS t.kind wb C HS.out.lt.1).mono ?_;rintro e w2 ⟨kv,rfl,hl,hb⟩;have HL:=V hl;have HS:=V (HS.out.below hb);have HX:=V (HX.out.below hb HX.out.lt);have HR:=V (HR.out.below hb HR.out.lt);have HK:=V (HK.out.trans (dU.dW (S:=fun _=>False) hb) (fun _ h=>h.elim));have HQ:=V ((hb.cell (p:=⟨C,16,none⟩) (bH hCl (aW (dR _) (Nat.le_of_lt HXL.out)))).trans HQ.out);clear hl hb x1;go_wp2_with fail;refine(oc w1 C u m lv w2 _ kv (gK t.kind) HS.out LH.out HL.out (by unfold gK;split <;>simp)).mono ?_;rintro e w3 ⟨rfl,hs,hk,hq⟩;have HS:=V hs;have HX:=V (HX.out.keeps hk (by omega));have HR:=V (HR.out.keeps hk (by omega));have HK:=V (HK.out.trans hk (fun _ h=> .inl h));have HQ:=V (hq.trans HQ.out);clear hs hk hq;obtain⟨L,hL⟩:∃L,(eI.fS ⟨dZ,cs++[t],bad⟩ (gK t.kind)).dZ.length=L:=⟨_,rfl⟩;obtain⟨v,v',hb,hv,-,-,-⟩:=HS.out;obtain⟨av,cv,rfl,-,-⟩:=hv.slice;rw [hL]at hb hv HSH;have NY:w3.cell? ⟨C,15,none⟩=some (.slice av L cv):=hb.cell 15;have x2:w3.cell? ⟨w.heap.size+1,2,none⟩=some (.int .i64 t.eM):=HX.out.cell 2;clear hb hv hL;by_cases q:L=t.eM
 ·have f1:((L:Int)==(t.eM:Int))=true:=eH (by omega)
  have f2:(L==t.eM)=true:=by simp [q]
  have HND:=V f2;clear q;go_wp2_with fail;refine eO (fun w'=>w'.cell? ⟨C,15,none⟩=some (.slice av L cv)/\w'.cell? ⟨w.heap.size+1,2,none⟩=some (.int .i64 t.eM)) 9 (up 0 9 []) (by kernel_rfl) (by kernel_rfl) ⟨NY,x2⟩ ?_;clear NY x2;iterate 9 (first | (apply sk rfl rfl;simp only [pt]) | (apply dV rfl rfl rfl;·(rintro w' ⟨t0,t1⟩;go_wp2;exact⟨rfl,rfl,rfl⟩)))
  refine fG rfl rfl ?_;have HS:=V HS.out.drew;have HX:=V HX.out.drew;have HR:=V HR.out.drew;have HK:=V HK.out.drew;have HQ:=V (show w3.drew.cell? ⟨C,16,none⟩=w.cell? ⟨C,16,none⟩from HQ.out);generalize w3.drew=w4 at HS HX HR HK HQ⊢;go_wp2_with fail;refine(jJ w1 C u m lv w4 _ true HS.out).mono ?_;rintro e w5 ⟨rfl,hs,hk,hq⟩;have HS:=V hs;have HX:=V (HX.out.keeps hk (by omega));have HR:=V (HR.out.keeps hk (by omega));have HK:=V (HK.out.trans hk (fun _ h=> .inl h));have HQ:=V (hq.trans HQ.out);clear hs hk hq;go_wp2_with fail;refine⟨trivial,?_⟩;refine aD ?_;have HX:=V HX.out.drew;have HR:=V HR.out.drew;have HK:=V HK.out.drew;obtain⟨v,v',hb,hv,hc,hk,-⟩:=HS.out.drew;have KV:dT 186 4 xB w5.drew w1.heap.size v' (cs++[t]):=by
   have Mh:=hc;rw [show((eI.fS ⟨dZ,cs++[t],bad⟩ (gK t.kind)).need true).eS=cs++[t]from by rw [eI.mZ,eI.ij]]at Mh;exact Mh
  obtain⟨g2,KA,rfl,hcap2,hcm2,hg3,hg4,Nj⟩:=Aq.of hb rfl KV;have Qq:w5.drew.cell? ⟨C,16,none⟩=some (.slice (some ⟨g2,0,none⟩) (cs.length+1) KA):=Nj.1;have hgg:g2 < w.heap.size:=by
   have h1:w5.cell? ⟨C,16,none⟩=some (.slice (some ⟨g2,0,none⟩) (cs.length+1) KA):=Nj.1;have h2:=HQ.out;rw [h1,C16.out]at h2;injection h2 with h2;injection h2 with h2;injection h2 with h2;injection h2 with h2;omega
  have z16:=hb.free 16;have LZ:=pM (some ⟨g2,0,none⟩) (cs.length+1) KA cs.length (by omega);have KL:=V hb;have PR:=V hv;have HCC:=V KV;have Ph:=V hk;clear hb hv hc KV hk Nj;go_wp2_with fail;refine eO (fun w'=>w'.cell? ⟨C,16,none⟩=some (.slice (some ⟨g2,0,none⟩) (cs.length+1) KA)) 14 (up 0 14 []) (by kernel_rfl) (by kernel_rfl) Qq ?_;iterate 14 (first | (apply sk rfl rfl;simp only [pt]) | (apply dV rfl rfl rfl;·(rintro w' t0;go_wp2;exact⟨rfl,rfl,rfl⟩)))
  refine fG rfl rfl ?_;generalize w5.drew=w7 at HX HR HK KL PR HCC Ph Qq z16 hg4⊢;go_wp2_with fail;have Kz:=eu w7 C 16 (.slice (some ⟨g2,0,none⟩) cs.length KA);have hT:=dT.take jE HCC.out cs.length (by simp);rw [dk rfl]at hT;have HT:=V (hT.keeps Kz (fun i hi h=>by have:=(et hT hi).1;omega));have PR:=V (PR.out.keeps Kz (fun i hi h=>by have:=(et PR.out hi).1;omega));have KL:=V (show eG _ C (sQ u m lv v (.slice (some ⟨g2,0,none⟩) cs.length KA) ((eI.fS ⟨dZ,cs++[t],bad⟩ (gK t.kind)).need true).bad) 181 from KL.out.set 16 (.slice (some ⟨g2,0,none⟩) cs.length KA));have Ph:=V (Ph.out.trans Kz (fun _ h=> .inl h));have HX:=V (HX.out.keeps Kz (by omega));have HR:=V (HR.out.keeps Kz (by omega));have HK:=V (HK.out.trans Kz (fun _ h=> .inl h));refine⟨trivial,?_⟩;refine aD ?_;clear Kz hT Qq z16 LZ;generalize w7.setCell ⟨C,16,none⟩ (.slice (some ⟨g2,0,none⟩) cs.length KA)=w8 at HX HR HK HT PR KL Ph⊢;obtain⟨⟨x0,x1,x2,x3⟩,-,-,-,-⟩:=HX.out.four;obtain⟨⟨r0,r1,r2,r3⟩,zr0,zr1,zr2,zr3⟩:=HR.out.four;go_wp2_with fail;have hx:=HR.out.ry (.int .i64 t.op) (.int .i64 t.kind) (.int .i64 t.eM) (.bool t.dead);have Kz:=my w8 w.heap.size (.int .i64 t.op) (.int .i64 t.kind) (.int .i64 t.eM) (.bool t.dead);refine aM (ey rfl _ _ rfl hx.Ii) rfl ?_;refine⟨rfl,?_,HK.out.trans Kz (fun i hi=> .inr (by omega))⟩;rw [HSH.out,HND.out];exact⟨v,_,KL.out.keeps Kz (by omega),PR.out.keeps Kz (PR.out.gA HR.out (by decide)),HT.out.keeps Kz (fun i hi h=>absurd (show g2=i by simpa [eA,Value.ownBlock] using hi) (by omega)),Ph.out.trans Kz (fun i hi=> .inr (by omega)),hC⟩
 ·have f1:((L:Int)==(t.eM:Int))=false:=dS (by omega)
  have f2:(L==t.eM)=false:=by simp [q]
  have HND:=V f2;clear q;go_wp2_with fail;refine eO (fun w'=>w'.cell? ⟨C,15,none⟩=some (.slice av L cv)/\w'.cell? ⟨w.heap.size+1,2,none⟩=some (.int .i64 t.eM)) 9 (up 0 9 []) (by kernel_rfl) (by kernel_rfl) ⟨NY,x2⟩ ?_;clear NY x2;iterate 9 (first | (apply sk rfl rfl;simp only [pt]) | (apply dV rfl rfl rfl;·(rintro w' ⟨t0,t1⟩;go_wp2;exact⟨rfl,rfl,rfl⟩)))
  refine fG rfl rfl ?_;have HS:=V HS.out.drew;have HX:=V HX.out.drew;have HR:=V HR.out.drew;have HK:=V HK.out.drew;have HQ:=V (show w3.drew.cell? ⟨C,16,none⟩=w.cell? ⟨C,16,none⟩from HQ.out);generalize w3.drew=w4 at HS HX HR HK HQ⊢;go_wp2_with fail;refine(jJ w1 C u m lv w4 _ false HS.out).mono ?_;rintro e w5 ⟨rfl,hs,hk,hq⟩;have HS:=V hs;have HX:=V (HX.out.keeps hk (by omega));have HR:=V (HR.out.keeps hk (by omega));have HK:=V (HK.out.trans hk (fun _ h=> .inl h));have HQ:=V (hq.trans HQ.out);clear hs hk hq;go_wp2_with fail;refine⟨trivial,?_⟩;refine aD ?_;have HX:=V HX.out.drew;have HR:=V HR.out.drew;have HK:=V HK.out.drew;obtain⟨v,v',hb,hv,hc,hk,-⟩:=HS.out.drew;have KV:dT 186 4 xB w5.drew w1.heap.size v' (cs++[t]):=by
   have Mh:=hc;rw [show((eI.fS ⟨dZ,cs++[t],bad⟩ (gK t.kind)).need false).eS=cs++[t]from by rw [eI.mZ,eI.ij]]at Mh;exact Mh
  obtain⟨g2,KA,rfl,hcap2,hcm2,hg3,hg4,Nj⟩:=Aq.of hb rfl KV;have Qq:w5.drew.cell? ⟨C,16,none⟩=some (.slice (some ⟨g2,0,none⟩) (cs.length+1) KA):=Nj.1;have hgg:g2 < w.heap.size:=by
   have h1:w5.cell? ⟨C,16,none⟩=some (.slice (some ⟨g2,0,none⟩) (cs.length+1) KA):=Nj.1;have h2:=HQ.out;rw [h1,C16.out]at h2;injection h2 with h2;injection h2 with h2;injection h2 with h2;injection h2 with h2;omega
  have z16:=hb.free 16;have LZ:=pM (some ⟨g2,0,none⟩) (cs.length+1) KA cs.length (by omega);have KL:=V hb;have PR:=V hv;have HCC:=V KV;have Ph:=V hk;clear hb hv hc KV hk Nj;go_wp2_with fail;refine eO (fun w'=>w'.cell? ⟨C,16,none⟩=some (.slice (some ⟨g2,0,none⟩) (cs.length+1) KA)) 14 (up 0 14 []) (by kernel_rfl) (by kernel_rfl) Qq ?_;iterate 14 (first | (apply sk rfl rfl;simp only [pt]) | (apply dV rfl rfl rfl;·(rintro w' t0;go_wp2;exact⟨rfl,rfl,rfl⟩)))
  refine fG rfl rfl ?_;generalize w5.drew=w7 at HX HR HK KL PR HCC Ph Qq z16 hg4⊢;go_wp2_with fail;have Kz:=eu w7 C 16 (.slice (some ⟨g2,0,none⟩) cs.length KA);have hT:=dT.take jE HCC.out cs.length (by simp);rw [dk rfl]at hT;have HT:=V (hT.keeps Kz (fun i hi h=>by have:=(et hT hi).1;omega));have PR:=V (PR.out.keeps Kz (fun i hi h=>by have:=(et PR.out hi).1;omega));have KL:=V (show eG _ C (sQ u m lv v (.slice (some ⟨g2,0,none⟩) cs.length KA) ((eI.fS ⟨dZ,cs++[t],bad⟩ (gK t.kind)).need false).bad) 181 from KL.out.set 16 (.slice (some ⟨g2,0,none⟩) cs.length KA));have Ph:=V (Ph.out.trans Kz (fun _ h=> .inl h));have HX:=V (HX.out.keeps Kz (by omega));have HR:=V (HR.out.keeps Kz (by omega));have HK:=V (HK.out.trans Kz (fun _ h=> .inl h));refine⟨trivial,?_⟩;refine aD ?_;clear Kz hT Qq z16 LZ;generalize w7.setCell ⟨C,16,none⟩ (.slice (some ⟨g2,0,none⟩) cs.length KA)=w8 at HX HR HK HT PR KL Ph⊢;obtain⟨⟨x0,x1,x2,x3⟩,-,-,-,-⟩:=HX.out.four;obtain⟨⟨r0,r1,r2,r3⟩,zr0,zr1,zr2,zr3⟩:=HR.out.four;go_wp2_with fail;have hx:=HR.out.ry (.int .i64 t.op) (.int .i64 t.kind) (.int .i64 t.eM) (.bool t.dead);have Kz:=my w8 w.heap.size (.int .i64 t.op) (.int .i64 t.kind) (.int .i64 t.eM) (.bool t.dead);refine aM (ey rfl _ _ rfl hx.Ii) rfl ?_;refine⟨rfl,?_,HK.out.trans Kz (fun i hi=> .inr (by omega))⟩;rw [HSH.out,HND.out];exact⟨v,_,KL.out.keeps Kz (by omega),PR.out.keeps Kz (PR.out.gA HR.out (by decide)),HT.out.keeps Kz (fun i hi h=>absurd (show g2=i by simpa [eA,Value.ownBlock] using hi) (by omega)),Ph.out.trans Kz (fun i hi=> .inr (by omega)),hC⟩
def GK (w1:World) (C:Nat) (u:eD) (m:ez) (lv:Value) (c:eI) (w:World) (e:Ending) (w':World):Prop:=e= .returned (EZ c.top)/\gm w1 C u m lv w' c.shut.2/\dU (fun i=>i=C) w w'
theorem uz (w1:World) (C:Nat) (u:eD) (m:ez) (lv:Value) (w:World) (c:eI) (h:gm w1 C u m lv w c) (KF:gS c):
  Calls prog 106 #[.pointer (some ⟨C,0,none⟩)] w (GK w1 C u m lv c w):=Db w1 C u m lv w c h KF
def pf (w1:World) (C:Nat) (u:eD) (m:ez) (lv:Value) (ls:List Int):Prop:=ep (rC C w1) u m/\eg 1 fb (rC C w1) lv ls
theorem gm.ext {w1 w:World} {C:Nat} {u:eD} {m:ez} {lv:Value} {c:eI} (h:gm w1 C u m lv w c):Ext (rC C w1) (rC C w):=pD h.old
theorem gm.ext' {w1 w:World} {C:Nat} {u:eD} {m:ez} {lv:Value} {c:eI} (h:gm w1 C u m lv w c):Ext (rC C w1) w:=sP h.old
theorem gm.cell {w1 w:World} {C:Nat} {u:eD} {m:ez} {lv:Value} {c:eI} (h:gm w1 C u m lv w c):w.cell? ⟨C,0,none⟩=some u.types/\w.cell? ⟨C,1,none⟩=some u.imports/\w.cell? ⟨C,2,none⟩=some u.funcs/\w.cell? ⟨C,3,none⟩=some (.bool m.table.has)/\w.cell? ⟨C,6,none⟩=some (.bool m.mem.has)/\w.cell? ⟨C,9,none⟩=some u.globals/\w.cell? ⟨C,14,none⟩=some lv/\w.cell? ⟨C,17,none⟩=some (.bool c.bad)/\w.frozen? ⟨C,17,none⟩=false:=by
 obtain⟨v,v',hb,-,-,-,-⟩:=h;exact⟨hb.cell 0,hb.cell 1,hb.cell 2,hb.cell 3,hb.cell 6,hb.cell 9,hb.cell 14,hb.cell 17,hb.free 17⟩
theorem gm.fail {w1 w:World} {C:Nat} {u:eD} {m:ez} {lv:Value} {c:eI} (h:gm w1 C u m lv w c):gm w1 C u m lv (w.setCell ⟨C,17,none⟩ (.bool true)) {c with bad:=true}:=by
 obtain⟨v,v',hb,hv,hc,hk,hC⟩:=h;have Kz:=eu w C 17 (.bool true);exact⟨v,v',hb.set 17 _,hv.keeps Kz (fun i hi h=>by have:=(et hv hi).1;omega),hc.keeps Kz (fun i hi h=>by have:=(et hc hi).1;omega),hk.trans Kz (fun _ h=> .inl h),hC⟩
def Ih (w1:World) (C:Nat) (t:gr × Bool) (w:World) (e:Ending) (w':World):Prop:=
 ∃v1 v2,e= .returned (.tuple #[.agg #[v1,v2], .bool t.2])/\eg 1 fb (rC C w1) v1 t.1.params/\eg 1 fb (rC C w1) v2 t.1.results/\Below w.heap.size w w'
theorem ow (w1:World) (C:Nat) (u:eD) (m:ez) (lv:Value) (ls:List Int) (w:World) (c:eI) (t:Int) (h:gm w1 C u m lv w c) (hr:pf w1 C u m lv ls):
  Calls prog 102 #[.pointer (some ⟨C,0,none⟩), .int .i64 t] w (Ih w1 C (typeOf m t) w):=by
 have HX:=V (eG.new w #[.slice none 0 0, .slice none 0 0] 109);have HB:=V ((an w.heap.size w).alloc (ag _) (.cells #[.slice none 0 0, .slice none 0 0] 109));have KC:=h.lt;have H:=V (h.alloc (.cells #[.slice none 0 0, .slice none 0 0] 109));obtain⟨a0,c0,a1,c1,a2,c2,a3,c3,a4,c4,a5,c5,a6,c6,a7,c7,rfl⟩:=ep.open hr.1;have g0:=H.out.cell.1;obtain⟨x0,x1,z0,z1⟩:=HX.out.two;clear h;by_cases q1:t < 0
 ·have f1:decide (t < 0)=true:=aA q1
  have HT:Hid (typeOf m t=(⟨[],[]⟩,false)):=V (by unfold typeOf;rw [if_pos (.inl q1)]);clear q1;go_enter func102,ntmps102;go_wp2_with fail;refine aM (fe rfl _ _ rfl HX.out.kQ) rfl ?_;rw [HT.out];exact⟨_,_,rfl,eg.nil _,eg.nil _,HB.out⟩
 obtain⟨k,rfl⟩:∃k:Nat,t=k:=⟨t.toNat,by omega⟩;have f1:decide ((k:Int) < 0)=false:=az q1;by_cases q2:m.types.length <=k
 ·have f2:decide ((m.types.length:Int) <=(k:Int))=true:=aA (by omega)
  have f3:decide (m.types.length <=k)=true:=aA q2;have HT:Hid (typeOf m k=(⟨[],[]⟩,false)):=V (by unfold typeOf;rw [if_pos (.inr (by omega))]);clear q1 q2;go_enter func102,ntmps102;go_wp2_with fail;refine aM (fe rfl _ _ rfl HX.out.kQ) rfl ?_;rw [HT.out];exact⟨_,_,rfl,eg.nil _,eg.nil _,HB.out⟩
 ·have f2:decide ((m.types.length:Int) <=(k:Int))=false:=az (by omega)
  have f3:decide (m.types.length <=k)=false:=az q2;have hk:k < m.types.length:=by omega
  obtain⟨e,he⟩:∃e,m.types[k]?=some e:=⟨_,aq hk⟩;have HT:Hid (typeOf m k=(e,true)):=V (by unfold typeOf;rw [if_neg (by omega),Int.toNat_natCast,he];rfl);obtain⟨b,off,v,rfl,-,KV,Li⟩:=ee.get hr.1.1 he;have y0:=H.out.ext'.1 _ _ (KV 0 _ rfl);have y1:=H.out.ext'.1 _ _ (KV 1 _ rfl);rw [aL]at y0;obtain⟨v1,v2⟩:=v;obtain⟨⟨b1,k1,e1,-,-,-⟩,⟨b2,k2,e2,-,-,-⟩⟩:=id Li.1;simp only at e1 e2;subst e1 e2;have KO:=V Li;clear q1 q2 KV Li he;go_enter func102,ntmps102;go_wp2_with fail;have hx:=eG.new w #[.slice b1 e.params.length k1, .slice b2 e.results.length k2] 109;have Kx:=(an w.heap.size w).alloc (ag _) (.cells #[.slice b1 e.params.length k1, .slice b2 e.results.length k2] 109);refine aM (fe rfl _ _ rfl hx.kQ) rfl ?_;rw [HT.out];exact⟨_,_,rfl,KO.out.1.1,KO.out.1.2,Kx⟩
theorem vC (w1:World) (C:Nat) (u:eD) (m:ez) (lv:Value) (ls:List Int) (w:World) (c:eI) (f:Nat) (hf:f <=100000) (h:gm w1 C u m lv w c) (hr:pf w1 C u m lv ls):
  Calls prog 203 #[.pointer (some ⟨C,0,none⟩), .int .i64 f] w (Ih w1 C (gB m f) w):=by
 have HX:=V (eG.new w #[.slice none 0 0, .slice none 0 0] 109);have HB:=V ((an w.heap.size w).alloc (ag _) (.cells #[.slice none 0 0, .slice none 0 0] 109));have H:=V (h.alloc (.cells #[.slice none 0 0, .slice none 0 0] 109));obtain⟨a0,c0,a1,c1,a2,c2,a3,c3,a4,c4,a5,c5,a6,c6,a7,c7,rfl⟩:=ep.open hr.1;have HR:=V hr;have g1:=H.out.cell.2.1;have g2:=H.out.cell.2.2.1;have hil:m.imports.length <=9223372036854775807:=by
  obtain⟨_,_,_,h1,h2⟩:=eW hr.1.2.1;omega
 have hfl:m.funcs.length <=9223372036854775807:=by
  obtain⟨_,_,_,h1,h2⟩:=eW hr.1.2.2.1;omega
 have KC:=h.lt;clear h;by_cases q1:f < m.imports.length
 ·have f1:decide ((f:Int) < (m.imports.length:Int))=true:=aA (by omega)
  have f2:decide (f < m.imports.length)=true:=aA q1;obtain⟨e,he⟩:∃e,m.imports[f]?=some e:=⟨_,aq q1⟩;have HF:Hid (gB m f=typeOf m e.type):=V (by unfold gB;rw [if_pos (by omega),Int.toNat_natCast,he];rfl);obtain⟨_,_,hv,_,_,Kt⟩:=hr.1.2.1;injection hv with e1 e2 e3;subst e1;obtain⟨b,off,rfl,-,KV⟩:=Kt f e he;have y2:=H.out.ext'.1 _ _ (KV 2 _ rfl);clear e2 e3 Kt KV he hr;go_enter func203,ntmps203;go_wp2_with fail;refine(ow w1 C _ m lv ls _ c e.type H.out HR.out).mono ?_;rintro e' w2 ⟨v1,v2,rfl,NO,Mf,hb⟩;obtain⟨b1,k1,rfl,-,-,-⟩:=id NO;obtain⟨b2,k2,rfl,-,-,-⟩:=id Mf;have HV1:=V NO;have NG:=V Mf;have HX:=V (HX.out.below hb HX.out.lt);have HB:=V (HB.out.trans (hb.mono HB.out.size));clear NO Mf hb;obtain⟨x0,x1,z0,z1⟩:=HX.out.two;go_wp2_with fail;have hx:=HX.out.mP (.slice b1 (typeOf m e.type).1.params.length k1) (.slice b2 (typeOf m e.type).1.results.length k2);have Kz:=fF w2 w.heap.size (.slice b1 (typeOf m e.type).1.params.length k1) (.slice b2 (typeOf m e.type).1.results.length k2);refine aM (fe rfl _ _ rfl hx.kQ) rfl ?_;rw [HF.out];exact⟨_,_,rfl,HV1.out,NG.out,HB.out.trans (Kz.below HB.out.size (fun i hi=>by omega))⟩
 ·have f1:decide ((f:Int) < (m.imports.length:Int))=false:=az (by omega)
  have f2:decide (f < m.imports.length)=false:=az q1;obtain⟨k,hk⟩:∃k,f - m.imports.length=k:=⟨_,rfl⟩;have f5:(f:Int) - (m.imports.length:Int)=(k:Int):=by omega
  have KB:k <=100000:=by omega
  by_cases q2:k < m.funcs.length
  ·have f3:decide ((k:Int) < (m.funcs.length:Int))=true:=aA (by omega)
   have f4:decide (k < m.funcs.length)=true:=aA q2;obtain⟨e,he⟩:∃e,m.funcs[k]?=some e:=⟨_,aq q2⟩;have HF:Hid (gB m f=typeOf m e):=V (by
    unfold gB;rw [aC (by omega),aJ (by omega),show((f:Int) - (m.imports.length:Int)).toNat=k by omega,he];rfl)
   obtain⟨_,_,hv,_,_,Kt⟩:=hr.1.2.2.1;injection hv with e1 e2 e3;subst e1;obtain⟨b,off,rfl,-,KV⟩:=Kt k e he;have y0:=H.out.ext'.1 _ _ (KV 0 _ rfl);rw [aL,bo]at y0;clear e2 e3 Kt KV he hr hk;go_enter func203,ntmps203;go_wp2_with fail;refine(ow w1 C _ m lv ls _ c e H.out HR.out).mono ?_;rintro e' w2 ⟨v1,v2,rfl,NO,Mf,hb⟩;obtain⟨b1,k1,rfl,-,-,-⟩:=id NO;obtain⟨b2,k2,rfl,-,-,-⟩:=id Mf;have HV1:=V NO;have NG:=V Mf;have HX:=V (HX.out.below hb HX.out.lt);have HB:=V (HB.out.trans (hb.mono HB.out.size));clear NO Mf hb;obtain⟨x0,x1,z0,z1⟩:=HX.out.two;go_wp2_with fail;have hx:=HX.out.mP (.slice b1 (typeOf m e).1.params.length k1) (.slice b2 (typeOf m e).1.results.length k2);have Kz:=fF w2 w.heap.size (.slice b1 (typeOf m e).1.params.length k1) (.slice b2 (typeOf m e).1.results.length k2);refine aM (fe rfl _ _ rfl hx.kQ) rfl ?_;rw [HF.out];exact⟨_,_,rfl,HV1.out,NG.out,HB.out.trans (Kz.below HB.out.size (fun i hi=>by omega))⟩
  ·have f3:decide ((k:Int) < (m.funcs.length:Int))=false:=az (by omega)
   have f4:decide (k < m.funcs.length)=false:=az q2;have HF:Hid (gB m f=typeOf m (-1)):=V (by
    unfold gB;rw [aC (by omega),aC (by omega)])
   clear hr hk;go_enter func203,ntmps203;go_wp2_with fail;refine(ow w1 C _ m lv ls _ c (-1) H.out HR.out).mono ?_;rintro e' w2 ⟨v1,v2,rfl,NO,Mf,hb⟩;obtain⟨b1,k1,rfl,-,-,-⟩:=id NO;obtain⟨b2,k2,rfl,-,-,-⟩:=id Mf;have HV1:=V NO;have NG:=V Mf;have HX:=V (HX.out.below hb HX.out.lt);have HB:=V (HB.out.trans (hb.mono HB.out.size));clear NO Mf hb;obtain⟨x0,x1,z0,z1⟩:=HX.out.two;go_wp2_with fail;have hx:=HX.out.mP (.slice b1 (typeOf m (-1)).1.params.length k1) (.slice b2 (typeOf m (-1)).1.results.length k2);have Kz:=fF w2 w.heap.size (.slice b1 (typeOf m (-1)).1.params.length k1) (.slice b2 (typeOf m (-1)).1.results.length k2);refine aM (fe rfl _ _ rfl hx.kQ) rfl ?_;rw [HF.out];exact⟨_,_,rfl,HV1.out,NG.out,HB.out.trans (Kz.below HB.out.size (fun i hi=>by omega))⟩
theorem CL (w1:World) (C:Nat) (u:eD) (m:ez) (lv:Value) (ls:List Int) (w:World) (c:eI) (n:Nat) (h:gm w1 C u m lv w c) (hr:pf w1 C u m lv ls):
  Calls prog 204 #[.pointer (some ⟨C,0,none⟩), .int .i64 n] w (BE w1 C u m lv (.int .i64 (eI.local ls c n).1) (eI.local ls c n).2 w):=by
 have H:=V h;obtain⟨a,cap,rfl,Mj,Lj,Kt⟩:=id hr.2;have g14:=h.cell.2.2.2.2.2.2.1;have g17:=h.cell.2.2.2.2.2.2.2.1;have z17:=h.cell.2.2.2.2.2.2.2.2;by_cases q:n < ls.length
 ·have f1:decide ((ls.length:Int) <=(n:Int))=false:=az (by omega)
  have f2:decide (ls.length <=n)=false:=az (by omega);obtain⟨x,hx⟩:∃x,ls[n]?=some x:=⟨_,aq q⟩;have HL:Hid (eI.local ls c n=(x,c)):=V (by unfold eI.local;rw [if_neg (by omega),Int.toNat_natCast,hx];rfl);obtain⟨b,off,rfl,-,KV⟩:=Kt n x hx;have y0:=h.ext'.1 _ _ (KV 0 _ rfl);rw [aL,bo]at y0;clear Kt KV hx h hr;go_enter func204,ntmps204;go_wp2_with fail;go_ret;rw [HL.out];exact⟨rfl,H.out,dU.refl _ _,rfl⟩
 ·have f1:decide ((ls.length:Int) <=(n:Int))=true:=aA (by omega)
  have f2:decide (ls.length <=n)=true:=aA (by omega);have HL:Hid (eI.local ls c n=(0,{c with bad:=true})):=V (by unfold eI.local;rw [if_pos (by omega)]);clear Kt h hr q;go_enter func204,ntmps204;go_wp2_with fail;go_ret;rw [HL.out];exact⟨rfl,H.out.fail,eu w C 17 _,ct _ _ _ _ (by simp)⟩
theorem Cr (w1:World) (C:Nat) (u:eD) (m:ez) (lv:Value) (w:World) (c:eI) (t:gr) (ok:Bool) (v1 v2:Value) (h:gm w1 C u m lv w c) (KF:gS c) (h1:eg 1 fb (rC C w1) v1 t.params) (h2:eg 1 fb (rC C w1) v2 t.results)
  (hp:t.params.length <=1000000) (hn:((c.need ok).fS t.params).dZ.length+t.results.length <=100000):
  Calls prog 202 #[.pointer (some ⟨C,0,none⟩), .agg #[v1,v2], .bool ok] w (nC w1 C u m lv (.tuple #[]) (c.calls (t,ok))):=by
 obtain⟨a1,k1,rfl,-,-,-⟩:=id h1;obtain⟨a2,k2,rfl,-,-,-⟩:=id h2;have hb:=(an w.heap.size w).alloc (ag _) (.cells #[.slice a1 t.params.length k1, .slice a2 t.results.length k2] 109);have KC:=h.lt;have H:=V (h.below hb);have HX:=V (eG.new w #[.slice a1 t.params.length k1, .slice a2 t.results.length k2] 109);have H1:=V h1;have H2:=V h2;have LH:=V (show gS (c.need ok)from⟨⟨KF.1.1,KF.1.2⟩,KF.2⟩);clear h h1 h2 KF hb;go_enter func202,ntmps202;go_wp2_with fail;refine(jJ w1 C u m lv _ c ok H.out).mono ?_;rintro e w2 ⟨rfl,hs,hk,-⟩;have HS:=V hs;have HX:=V (HX.out.keeps hk (by omega));clear hs hk;have x0:=HX.out.cell 0;simp only [aG,aF]at x0;go_wp2_with fail;refine(oc w1 C u m lv w2 _ _ t.params HS.out LH.out (H1.out.ext HS.out.ext) hp).mono ?_;rintro e w3 ⟨rfl,hs,hk,-⟩;have HS:=V hs;have HX:=V (HX.out.keeps hk (by omega));clear hs hk x0;have x1:=HX.out.cell 1;simp only [aG,aF,aR]at x1;go_wp2_with fail;refine(lS w1 C u m lv w3 _ _ t.results HS.out (H2.out.ext HS.out.ext) hn).mono ?_;rintro e w4 ⟨rfl,hs⟩;have HS:=V hs;clear hs x1;go_wp2_with fail
 go_end0
 exact⟨rfl,HS.out⟩
def qj (w1:World) (C:Nat) (u:eD) (m:ez) (lv:Value) (x:eK) (c:eI) (w:World) (e:Ending) (w':World):Prop:=
 (∃c',c.control m x=some c'/\e= .returned (.bool true)/\gm w1 C u m lv w' c')\/(c.control m x=none/\e= .returned (.bool false)/\gm w1 C u m lv w' c/\dU (fun i=>i=C) w w')
def ez.short (m:ez):Prop:=∀t∈m.types,t.params.length <=1000/\t.results.length <=10
theorem qQ {m:ez} (h:m.short) (t:Int):(typeOf m t).1.params.length <=1000/\(typeOf m t).1.results.length <=10:=by
 unfold typeOf;split
 ·simp
 ·simp only
  cases hx:m.types[t.toNat]? with
  | none=>simp
  | some x=>exact h x (aO hx)
theorem nV {m:ez} (h:m.short) (f:Int):(gB m f).1.params.length <=1000/\(gB m f).1.results.length <=10:=qQ h _
theorem oo (k:Int):(gK k).length <=1:=by unfold gK;split <;>simp
theorem J4 (w1:World) (C:Nat) (u:eD) (m:ez) (lv:Value) (ls:List Int) (w:World) (c:eI) (a b:Int) (al:Option Addr) (nl cl:Nat) (l:List Int) (h:gm w1 C u m lv w c) (KF:gS c) (hr:pf w1 C u m lv ls) (NI:m.short) (hv:c.dZ.length <=50000) (hc:c.eS.length <=50000):
  Calls prog 104 #[.pointer (some ⟨C,0,none⟩), .agg #[.int .i64 0, .int .i64 a, .int .i64 b, .slice al nl cl]] w (qj w1 C u m lv ⟨0,a,b,l⟩ c w):=by
 have hu:=And.intro hr (And.intro NI (And.intro hv hc));clear hu;have hb:=(an w.heap.size w).alloc (ag _) (.cells #[.int .i64 0, .int .i64 a, .int .i64 b, .slice al nl cl] 27);have KC:=h.lt;have HS:=V (h.below hb);have HX:=V (eG.new w #[.int .i64 0, .int .i64 a, .int .i64 b, .slice al nl cl] 27);have HK:=V (dU.dW (S:=fun i=>i=C) hb);have LH:=V KF;have y0:=HX.out.cell 0;have y1:=HX.out.cell 1;simp only [aG,aF,aR]at y0 y1;clear h hb KF;go_enter func104,ntmps104;go_wp2_with fail;refine(yP w1 C u m lv _ _ HS.out LH.out).mono ?_;rintro e w9 ⟨rfl,hs⟩;have HS:=V hs;clear hs;go_wp2_with fail;go_ret;exact .inl ⟨_,rfl,rfl,HS.out⟩
theorem Kd (w1:World) (C:Nat) (u:eD) (m:ez) (lv:Value) (ls:List Int) (w:World) (c:eI) (a b:Int) (al:Option Addr) (nl cl:Nat) (l:List Int) (h:gm w1 C u m lv w c) (KF:gS c) (hr:pf w1 C u m lv ls) (NI:m.short) (hv:c.dZ.length <=50000) (hc:c.eS.length <=50000):
  Calls prog 104 #[.pointer (some ⟨C,0,none⟩), .agg #[.int .i64 2, .int .i64 a, .int .i64 b, .slice al nl cl]] w (qj w1 C u m lv ⟨2,a,b,l⟩ c w):=by
 have hu:=And.intro hr (And.intro NI (And.intro hv hc));clear hu;have hb:=(an w.heap.size w).alloc (ag _) (.cells #[.int .i64 2, .int .i64 a, .int .i64 b, .slice al nl cl] 27);have KC:=h.lt;have HS:=V (h.below hb);have HX:=V (eG.new w #[.int .i64 2, .int .i64 a, .int .i64 b, .slice al nl cl] 27);have HK:=V (dU.dW (S:=fun i=>i=C) hb);have LH:=V KF;have y0:=HX.out.cell 0;have y1:=HX.out.cell 1;simp only [aG,aF,aR]at y0 y1;clear h hb KF;go_enter func104,ntmps104;go_wp2_with fail;refine(tf w1 C u m lv _ c 2 a HS.out (by omega)).mono ?_;rintro e w9 ⟨rfl,hs⟩;have HS:=V hs;clear hs y0 y1;go_wp2_with fail;go_ret;exact .inl ⟨_,rfl,rfl,HS.out⟩
theorem Jq (w1:World) (C:Nat) (u:eD) (m:ez) (lv:Value) (ls:List Int) (w:World) (c:eI) (a b:Int) (al:Option Addr) (nl cl:Nat) (l:List Int) (h:gm w1 C u m lv w c) (KF:gS c) (hr:pf w1 C u m lv ls) (NI:m.short) (hv:c.dZ.length <=50000) (hc:c.eS.length <=50000):
  Calls prog 104 #[.pointer (some ⟨C,0,none⟩), .agg #[.int .i64 11, .int .i64 a, .int .i64 b, .slice al nl cl]] w (qj w1 C u m lv ⟨11,a,b,l⟩ c w):=by
 have hu:=And.intro hr (And.intro NI (And.intro hv hc));clear hu;have hb:=(an w.heap.size w).alloc (ag _) (.cells #[.int .i64 11, .int .i64 a, .int .i64 b, .slice al nl cl] 27);have KC:=h.lt;have HS:=V (h.below hb);have HX:=V (eG.new w #[.int .i64 11, .int .i64 a, .int .i64 b, .slice al nl cl] 27);have HK:=V (dU.dW (S:=fun i=>i=C) hb);have LH:=V KF;have y0:=HX.out.cell 0;have y1:=HX.out.cell 1;simp only [aG,aF,aR]at y0 y1;clear h hb KF;go_enter func104,ntmps104;go_wp2_with fail;refine(uz w1 C u m lv _ c HS.out LH.out).mono ?_;rintro e w2 ⟨rfl,hs,hk⟩;unfold EZ;have hb:=(an w2.heap.size w2).alloc (ag _) (.cells #[.int .i64 c.top.op, .int .i64 c.top.kind, .int .i64 c.top.eM, .bool c.top.dead] 186);have HS:=V (hs.below hb);have HT:=V (eG.new w2 #[.int .i64 c.top.op, .int .i64 c.top.kind, .int .i64 c.top.eM, .bool c.top.dead] 186);have hl2:=hs.lt;clear hs hk y0 y1 hb;obtain⟨⟨t0,t1,t2,t3⟩,-,-,-,-⟩:=HT.out.four;clear t2 t3;by_cases q1:c.top.op=4
 ·have f1:(c.top.op !=4)=false:=by simp [q1]
  by_cases q2:c.top.kind=0
  ·have f2:=eH q2
   have HQ:=V (show(c.top.op !=4 || c.top.kind==0)=true by rw [f1,f2];rfl);clear q1 q2;go_wp2_with fail;refine(jJ w1 C u m lv _ c.shut.2 true HS.out).mono ?_;rintro e w3 ⟨rfl,hs,hk,-⟩;have HS:=V hs;have HT:=V (HT.out.keeps hk (by omega));clear hs hk t0 t1;have t1:=HT.out.cell 1;simp only [aG,aF,aR]at t1;go_wp2_with fail;refine(mS c.top.kind w3 C HS.out.lt.1).mono ?_;rintro e w4 ⟨kv,rfl,hl,hb⟩;have HL:=V hl;have HS:=V (HS.out.below hb);clear hl hb t1;have Ok:=oo c.top.kind;have MN:=re c;go_wp2_with fail;refine(lS w1 C u m lv w4 _ _ _ HS.out HL.out (by show c.shut.2.dZ.length+_ <=_;omega)).mono ?_;rintro e w5 ⟨rfl,hs⟩;have HS:=V hs;clear hs;go_wp2_with fail;go_ret;refine .inl ⟨_,rfl,rfl,?_⟩;show gm w1 C u m lv w5 ((c.shut.2.need (c.top.op !=4 || c.top.kind==0)).push (gK c.top.kind));rw [HQ.out];exact HS.out
  ·have f2:=dS q2
   have HQ:=V (show(c.top.op !=4 || c.top.kind==0)=false by rw [f1,f2];rfl);clear q1 q2;go_wp2_with fail;refine(jJ w1 C u m lv _ c.shut.2 false HS.out).mono ?_;rintro e w3 ⟨rfl,hs,hk,-⟩;have HS:=V hs;have HT:=V (HT.out.keeps hk (by omega));clear hs hk t0 t1;have t1:=HT.out.cell 1;simp only [aG,aF,aR]at t1;go_wp2_with fail;refine(mS c.top.kind w3 C HS.out.lt.1).mono ?_;rintro e w4 ⟨kv,rfl,hl,hb⟩;have HL:=V hl;have HS:=V (HS.out.below hb);clear hl hb t1;have Ok:=oo c.top.kind;have MN:=re c;go_wp2_with fail;refine(lS w1 C u m lv w4 _ _ _ HS.out HL.out (by show c.shut.2.dZ.length+_ <=_;omega)).mono ?_;rintro e w5 ⟨rfl,hs⟩;have HS:=V hs;clear hs;go_wp2_with fail;go_ret;refine .inl ⟨_,rfl,rfl,?_⟩;show gm w1 C u m lv w5 ((c.shut.2.need (c.top.op !=4 || c.top.kind==0)).push (gK c.top.kind));rw [HQ.out];exact HS.out
 ·have f1:(c.top.op !=4)=true:=by simp [q1]
  have HQ:=V (show(c.top.op !=4 || c.top.kind==0)=true by rw [f1];rfl);clear q1;go_wp2_with fail;refine(jJ w1 C u m lv _ c.shut.2 true HS.out).mono ?_;rintro e w3 ⟨rfl,hs,hk,-⟩;have HS:=V hs;have HT:=V (HT.out.keeps hk (by omega));clear hs hk t0 t1;have t1:=HT.out.cell 1;simp only [aG,aF,aR]at t1;go_wp2_with fail;refine(mS c.top.kind w3 C HS.out.lt.1).mono ?_;rintro e w4 ⟨kv,rfl,hl,hb⟩;have HL:=V hl;have HS:=V (HS.out.below hb);clear hl hb t1;have Ok:=oo c.top.kind;have MN:=re c;go_wp2_with fail;refine(lS w1 C u m lv w4 _ _ _ HS.out HL.out (by show c.shut.2.dZ.length+_ <=_;omega)).mono ?_;rintro e w5 ⟨rfl,hs⟩;have HS:=V hs;clear hs;go_wp2_with fail;go_ret;refine .inl ⟨_,rfl,rfl,?_⟩;show gm w1 C u m lv w5 ((c.shut.2.need (c.top.op !=4 || c.top.kind==0)).push (gK c.top.kind));rw [HQ.out];exact HS.out
theorem Ju (w1:World) (C:Nat) (u:eD) (m:ez) (lv:Value) (ls:List Int) (w:World) (c:eI) (a b:Int) (al:Option Addr) (nl cl:Nat) (l:List Int) (h:gm w1 C u m lv w c) (KF:gS c) (hr:pf w1 C u m lv ls) (NI:m.short) (hv:c.dZ.length <=50000) (hc:c.eS.length <=50000) (ha:0 <=a/\a <=1000):
  Calls prog 104 #[.pointer (some ⟨C,0,none⟩), .agg #[.int .i64 12, .int .i64 a, .int .i64 b, .slice al nl cl]] w (qj w1 C u m lv ⟨12,a,b,l⟩ c w):=by
 obtain⟨k,rfl⟩:∃k:Nat,a=k:=⟨a.toNat,by omega⟩;have hu:=And.intro hr (And.intro NI (And.intro hv hc));clear hu;have hb:=(an w.heap.size w).alloc (ag _) (.cells #[.int .i64 12, .int .i64 k, .int .i64 b, .slice al nl cl] 27);have KC:=h.lt;have HS:=V (h.below hb);have HX:=V (eG.new w #[.int .i64 12, .int .i64 k, .int .i64 b, .slice al nl cl] 27);have HK:=V (dU.dW (S:=fun i=>i=C) hb);have LH:=V KF;have y0:=HX.out.cell 0;have y1:=HX.out.cell 1;simp only [aG,aF,aR]at y0 y1;clear h hb KF;go_enter func104,ntmps104;go_wp2_with fail;refine(CQ w1 C u m lv _ _ k HS.out).mono ?_;rintro e w2 ⟨kv,rfl,hl,hs,hk⟩;have HS:=V hs;have HL:=V hl;have HX:=V (HX.out.keeps hk (by omega));clear hs hk y0 y1 hl;have hok2:gS (c.label k).2:=LH.out.label _;have Ok:=Dk c k;go_wp2_with fail;refine(oc w1 C u m lv w2 _ kv _ HS.out hok2 HL.out (by omega)).mono ?_;rintro e w3 ⟨rfl,hs,hk,-⟩;have HS:=V hs;clear hs hk;go_wp2_with fail;refine(yP w1 C u m lv _ _ HS.out (hok2.fS _)).mono ?_;rintro e w9 ⟨rfl,hs⟩;have HS:=V hs;clear hs;go_wp2_with fail;go_ret;exact .inl ⟨_,rfl,rfl,HS.out⟩
theorem I2 (w1:World) (C:Nat) (u:eD) (m:ez) (lv:Value) (ls:List Int) (w:World) (c:eI) (a b:Int) (al:Option Addr) (nl cl:Nat) (l:List Int) (h:gm w1 C u m lv w c) (KF:gS c) (hr:pf w1 C u m lv ls) (NI:m.short) (hv:c.dZ.length <=50000) (hc:c.eS.length <=50000) (ha:0 <=a/\a <=1000):
  Calls prog 104 #[.pointer (some ⟨C,0,none⟩), .agg #[.int .i64 16, .int .i64 a, .int .i64 b, .slice al nl cl]] w (qj w1 C u m lv ⟨16,a,b,l⟩ c w):=by
 obtain⟨k,rfl⟩:∃k:Nat,a=k:=⟨a.toNat,by omega⟩;have hu:=And.intro hr (And.intro NI (And.intro hv hc));clear hu;have hb:=(an w.heap.size w).alloc (ag _) (.cells #[.int .i64 16, .int .i64 k, .int .i64 b, .slice al nl cl] 27);have KC:=h.lt;have HS:=V (h.below hb);have HX:=V (eG.new w #[.int .i64 16, .int .i64 k, .int .i64 b, .slice al nl cl] 27);have HK:=V (dU.dW (S:=fun i=>i=C) hb);have LH:=V KF;have y0:=HX.out.cell 0;have y1:=HX.out.cell 1;simp only [aG,aF,aR]at y0 y1;clear h hb KF;go_enter func104,ntmps104;go_wp2_with fail;refine(vC w1 C u m lv ls _ c k (by omega) HS.out hr).mono ?_;rintro e w2 ⟨v1,v2,rfl,NO,Mf,hb⟩;have HS:=V (HS.out.below hb);have HV1:=V NO;have NG:=V Mf;clear hb NO Mf y0 y1;have hsh:=nV NI (k:Int);have MN:((c.need (gB m k).2).fS (gB m k).1.params).dZ.length <=50000:=aW (eI.lx _ _) hv;go_wp2_with fail;refine(Cr w1 C u m lv w2 c (gB m k).1 (gB m k).2 _ _ HS.out LH.out HV1.out NG.out (by omega) (by omega)).mono ?_;rintro e w3 ⟨rfl,hs⟩;have HS:=V hs;clear hs;go_wp2_with fail;go_ret;exact .inl ⟨_,rfl,rfl,HS.out⟩
theorem J7 (w1:World) (C:Nat) (u:eD) (m:ez) (lv:Value) (w:World) (c:eI) (op a b:Int) (al:Option Addr) (nl cl:Nat) (l:List Int) (h:gm w1 C u m lv w c) (MZ:¬ (op=0\/op=1\/op=2\/op=3\/op=4\/op=5\/op=11\/op=12\/op=13\/op=14\/op=15\/op=16\/op=17)):
  Calls prog 104 #[.pointer (some ⟨C,0,none⟩), .agg #[.int .i64 op, .int .i64 a, .int .i64 b, .slice al nl cl]] w (qj w1 C u m lv ⟨op,a,b,l⟩ c w):=by
 have HN:Hid (c.control m ⟨op,a,b,l⟩=none):=V (by
  unfold eI.control;simp only
  repeat (rw [aC (by omega)]))
 have f0:(op==0)=false:=dS (by omega);have f1:(op==1)=false:=dS (by omega);have f2:(op==2)=false:=dS (by omega);have f3:(op==3)=false:=dS (by omega);have f4:(op==4)=false:=dS (by omega);have f5:(op==5)=false:=dS (by omega);have f11:(op==11)=false:=dS (by omega);have f12:(op==12)=false:=dS (by omega);have f13:(op==13)=false:=dS (by omega);have f14:(op==14)=false:=dS (by omega);have f15:(op==15)=false:=dS (by omega);have f16:(op==16)=false:=dS (by omega);have f17:(op==17)=false:=dS (by omega);have hb:=(an w.heap.size w).alloc (ag _) (.cells #[.int .i64 op, .int .i64 a, .int .i64 b, .slice al nl cl] 27);have HS:=V (h.below hb);have HX:=V (eG.new w #[.int .i64 op, .int .i64 a, .int .i64 b, .slice al nl cl] 27);have HK:=V (dU.dW (S:=fun i=>i=C) hb);have y0:=HX.out.cell 0;simp only [aG,aF]at y0;clear h hb MZ;go_enter func104,ntmps104;go_wp2_with fail;go_ret;exact .inr ⟨HN.out,rfl,HS.out,HK.out⟩
theorem eg.rd {α:Type} {k:Nat} {enc:α ->List Value} {w:World} {C:Nat} {v:Value} {l:List α} (h:eg k enc w v l) (hv:∀a n cap,v= .slice (some a) n cap ->a.block≠C):eg k enc (rC C w) v l:=by
 obtain⟨a,cap,rfl,h1,h2,h3⟩:=h;refine⟨a,cap,rfl,h1,h2,fun i x hx=>?_⟩;obtain⟨b,off,ha,KC,hc⟩:=h3 i x hx;have hb:b≠C:=by
  subst ha;exact hv _ _ _ rfl
 refine⟨b,off,ha,by unfold rC;rw [gY];exact KC,fun j u hu=>?_⟩;rw [<- hc j u hu];exact bm (jt w (by simp [hb]))
theorem lg (w:World) (x:Int) (t:TypeId) {C:Nat} (hC:C < w.heap.size):eg 1 fb (rC C (w.alloc (.cells #[.int .i64 x] t))) (.slice (some ⟨w.heap.size,0,none⟩) 1 1) [x]:=
 (lA w x t).rd (fun a n cap he=>by injection he with e1;injection e1 with e1;subst e1;simp;omega)
theorem zN (w:World) (x y:Int) (t:TypeId) {C:Nat} (hC:C < w.heap.size):eg 1 fb (rC C (w.alloc (.cells #[.int .i64 x, .int .i64 y] t))) (.slice (some ⟨w.heap.size,0,none⟩) 2 2) [x,y]:=
 (pz w x y t).rd (fun a n cap he=>by injection he with e1;injection e1 with e1;subst e1;simp;omega)
def CI (C:Nat) (op:Int) (w:World) (e:Ending) (w':World):Prop:=
 ∃v,e= .returned (.tuple #[v, .int .i64 (eX op).2.1, .bool (eX op).2.2])/\eg 1 fb (rC C w') v (eX op).1/\Below w.heap.size w w'
theorem qb (op:Int) (w:World) (C:Nat) (hC:C < w.heap.size):Calls prog 86 #[.int .i64 op] w (CI C op w):=by
 have hb:=an w.heap.size w;have MK:∀w1:World,Below w1.heap.size w1 w1:=fun w1=>an _ _;by_cases q1:op=167
 ·subst q1
  go_enter func86,ntmps86;go_wp2_with fail
  go_ret3
  exact⟨_,rfl,lg w 2 _ hC,hb.alloc (ag _) _⟩
 have f1:(op==167)=false:=dS q1;by_cases q2:op=172
 ·subst q2
  go_enter func86,ntmps86;go_wp2_with fail
  go_ret3
  exact⟨_,rfl,lg w 1 _ hC,hb.alloc (ag _) _⟩
 have f2:(op==172)=false:=dS q2;by_cases q3:op=173
 ·subst q3
  go_enter func86,ntmps86;go_wp2_with fail
  go_ret3
  exact⟨_,rfl,lg w 1 _ hC,hb.alloc (ag _) _⟩
 have f3:(op==173)=false:=dS q3;have HQ:Hid (op≠167/\op≠172/\op≠173):=V ⟨q1,q2,q3⟩;clear q1 q2 q3 MK;go_enter func86,ntmps86;go_wp2_with fail;refine(qu op _).mono ?_;rintro x w1 ⟨rfl,KJ⟩;obtain⟨k,hk⟩:∃k,(sc op).1=k:=⟨_,rfl⟩;obtain⟨l,hl⟩:∃l,(sc op).2=l:=⟨_,rfl⟩;rw [hk,hl];have HK:=V hk;have HL:=V hl;replace hb:=dY hb KJ;clear hk hl KJ f1 f2 f3;by_cases q4:k=0
 ·have f4:(k==0)=true:=eH q4
  have H4:=V q4;clear q4;go_wp2_with fail
  go_ret3
  have:eX op=([],0,false):=by rw [eX,aC HQ.out.1,aC HQ.out.2.1,aC HQ.out.2.2,HK.out,aJ H4.out]
  exact⟨_,by rw [this];rfl,by rw [this];exact eg.nil _,hb⟩
 have f4:(k==0)=false:=dS q4;have H4:=V (show k≠0 from q4);clear q4;by_cases q5:l=69
 ·have f5:(l==69)=true:=eH q5
  have H5:=V q5;clear q5;go_wp2_with fail
  go_ret3
  have:eX op=([k],1,true):=by rw [eX,aC HQ.out.1,aC HQ.out.2.1,aC HQ.out.2.2,HK.out,HL.out,aC H4.out,aJ H5.out]
  exact⟨_,by rw [this];rfl,by rw [this];exact lg _ k _ (by have:=hb.size;omega),hb.alloc hb.size _⟩
 have f5:(l==69)=false:=dS q5;have H5:=V (show l≠69 from q5);clear q5;go_wp2_with fail;refine(iH l 70 79 _).mono ?_;rintro x w2 ⟨rfl,KT⟩;replace hb:=dY hb KT;clear KT f4 f5;cases h6:lN l 70 79 with
 | true=>
  have H6:=V h6;clear h6;go_wp2_with fail
  go_ret3
  have:eX op=([k,k],1,true):=by rw [eX,aC HQ.out.1,aC HQ.out.2.1,aC HQ.out.2.2,HK.out,HL.out,aC H4.out,aC H5.out,H6.out];rfl
  exact⟨_,by rw [this];rfl,by rw [this];exact zN _ k k _ (by have:=hb.size;omega),hb.alloc hb.size _⟩
 | false=>
  have H6:=V h6;clear h6;go_wp2_with fail;refine(iH l 103 105 _).mono ?_;rintro x w3 ⟨rfl,KT⟩;replace hb:=dY hb KT;clear KT;cases h7:lN l 103 105 with
  | true=>
   have H7:=V h7;clear h7;go_wp2_with fail
   go_ret3
   have:eX op=([k],k,true):=by rw [eX,aC HQ.out.1,aC HQ.out.2.1,aC HQ.out.2.2,HK.out,HL.out,aC H4.out,aC H5.out,H6.out,H7.out];rfl
   exact⟨_,by rw [this];rfl,by rw [this];exact lg _ k _ (by have:=hb.size;omega),hb.alloc hb.size _⟩
  | false=>
   have H7:=V h7;clear h7;go_wp2_with fail
   go_ret3
   have:eX op=([k,k],k,true):=by rw [eX,aC HQ.out.1,aC HQ.out.2.1,aC HQ.out.2.2,HK.out,HL.out,aC H4.out,aC H5.out,H6.out,H7.out];rfl
   exact⟨_,by rw [this];rfl,by rw [this];exact zN _ k k _ (by have:=hb.size;omega),hb.alloc hb.size _⟩
theorem zx (op:Int):(eX op).1.length <=2:=by
 unfold eX;split
 ·simp
 split
 ·simp
 split
 ·simp
 split
 ·simp
 split
 ·simp
 split
 ·simp
 split <;>simp
theorem Kg (w1:World) (C:Nat) (u:eD) (m:ez) (lv:Value) (ls:List Int) (w:World) (c:eI) (a b:Int) (al:Option Addr) (nl cl:Nat) (l:List Int) (h:gm w1 C u m lv w c) (KF:gS c) (hr:pf w1 C u m lv ls) (hv:c.dZ.length <=50000):
  Calls prog 105 #[.pointer (some ⟨C,0,none⟩), .agg #[.int .i64 26, .int .i64 a, .int .i64 b, .slice al nl cl]] w (nC w1 C u m lv (.tuple #[]) (eI.plain m ls c ⟨26,a,b,l⟩)):=by
 have hu:=And.intro KF (And.intro hr hv);clear hu;have KJ:=(an w.heap.size w).alloc (ag _) (.cells #[.int .i64 26, .int .i64 a, .int .i64 b, .slice al nl cl] 27);have hX:=eG.new w #[.int .i64 26, .int .i64 a, .int .i64 b, .slice al nl cl] 27;have Kx:=(KJ.alloc KJ.size (.cells #[.int .i64 1] 3)).alloc (by rw [aE];exact aW KJ.size (dR _)) (.cells #[.int .i64 2] 3);have HX:=V ((hX.alloc (.cells #[.int .i64 1] 3)).alloc (.cells #[.int .i64 2] 3));have KC:=h.lt;have HS:=V (h.below Kx);have LH:=V KF;have y0:=hX.cell 0;have y0':=HX.out.cell 0;have y1:=HX.out.cell 1;simp only [aG,aF,aR]at y0 y0' y1;clear h KJ Kx hX KF;go_enter func105,ntmps105;go_wp2_with fail;refine(BW w1 C u m lv _ c 0 HS.out LH.out.2 LH.out.top).mono ?_;rintro e w2 ⟨rfl,hs,hk,-⟩;have HS:=V hs;have HX:=V (HX.out.keeps hk (by omega));clear hs hk y0 y0' y1;have y0:=HX.out.cell 0;have y1:=HX.out.cell 1;simp only [aG,aF,aR]at y0 y1;go_wp2_with fail
 go_end0
 exact⟨rfl,HS.out⟩
theorem JU (w1:World) (C:Nat) (u:eD) (m:ez) (lv:Value) (ls:List Int) (w:World) (c:eI) (a b:Int) (al:Option Addr) (nl cl:Nat) (l:List Int) (h:gm w1 C u m lv w c) (KF:gS c) (hr:pf w1 C u m lv ls) (hv:c.dZ.length <=50000) (ha:0 <=a/\a <=1000):
  Calls prog 105 #[.pointer (some ⟨C,0,none⟩), .agg #[.int .i64 32, .int .i64 a, .int .i64 b, .slice al nl cl]] w (nC w1 C u m lv (.tuple #[]) (eI.plain m ls c ⟨32,a,b,l⟩)):=by
 obtain⟨k,rfl⟩:∃k:Nat,a=k:=⟨a.toNat,by omega⟩;have hu:=And.intro KF (And.intro hr hv);clear hu;have KJ:=(an w.heap.size w).alloc (ag _) (.cells #[.int .i64 32, .int .i64 k, .int .i64 b, .slice al nl cl] 27);have hX:=eG.new w #[.int .i64 32, .int .i64 k, .int .i64 b, .slice al nl cl] 27;have Kx:=(KJ.alloc KJ.size (.cells #[.int .i64 1] 3)).alloc (by rw [aE];exact aW KJ.size (dR _)) (.cells #[.int .i64 2] 3);have HX:=V ((hX.alloc (.cells #[.int .i64 1] 3)).alloc (.cells #[.int .i64 2] 3));have KC:=h.lt;have HS:=V (h.below Kx);have LH:=V KF;have y0:=hX.cell 0;have y0':=HX.out.cell 0;have y1:=HX.out.cell 1;simp only [aG,aF,aR]at y0 y0' y1;clear h KJ Kx hX KF;go_enter func105,ntmps105;go_wp2_with fail;refine(CL w1 C u m lv ls _ c k HS.out hr).mono ?_;rintro e w2 ⟨rfl,hs,hk,-⟩;have HS:=V hs;have HX:=V (HX.out.keeps hk (by omega));clear hs hk y0 y0' y1;have y0:=HX.out.cell 0;have y1:=HX.out.cell 1;simp only [aG,aF,aR]at y0 y1;have l1:(eI.local ls c k).2.dZ.length <=50000:=by rw [(pn c ls k).2];exact hv
 have hb:=(an w2.heap.size w2).alloc (ag _) (.cells #[.int .i64 (eI.local ls c k).1] 3);have HL:=V (lg w2 (eI.local ls c k).1 3 HS.out.lt.1);have HS:=V (HS.out.below hb);clear hb;go_wp2_with fail;refine(lS w1 C u m lv _ _ _ [(eI.local ls c k).1] HS.out HL.out (by simp only [aB];omega)).mono ?_;rintro e w9 ⟨rfl,hs⟩;have HS:=V hs;clear hs;go_wp2_with fail
 go_end0
 exact⟨rfl,HS.out⟩
theorem JS (w1:World) (C:Nat) (u:eD) (m:ez) (lv:Value) (ls:List Int) (w:World) (c:eI) (a b:Int) (al:Option Addr) (nl cl:Nat) (l:List Int) (h:gm w1 C u m lv w c) (KF:gS c) (hr:pf w1 C u m lv ls) (hv:c.dZ.length <=50000):
  Calls prog 105 #[.pointer (some ⟨C,0,none⟩), .agg #[.int .i64 65, .int .i64 a, .int .i64 b, .slice al nl cl]] w (nC w1 C u m lv (.tuple #[]) (eI.plain m ls c ⟨65,a,b,l⟩)):=by
 have hu:=And.intro KF (And.intro hr hv);clear hu;have KJ:=(an w.heap.size w).alloc (ag _) (.cells #[.int .i64 65, .int .i64 a, .int .i64 b, .slice al nl cl] 27);have hX:=eG.new w #[.int .i64 65, .int .i64 a, .int .i64 b, .slice al nl cl] 27;have Kx:=(KJ.alloc KJ.size (.cells #[.int .i64 1] 3)).alloc (by rw [aE];exact aW KJ.size (dR _)) (.cells #[.int .i64 2] 3);have HX:=V ((hX.alloc (.cells #[.int .i64 1] 3)).alloc (.cells #[.int .i64 2] 3));have KC:=h.lt;have HS:=V (h.below Kx);have LH:=V KF;have y0:=hX.cell 0;have y0':=HX.out.cell 0;have y1:=HX.out.cell 1;simp only [aG,aF,aR]at y0 y0' y1;clear h KJ Kx hX KF;go_enter func105,ntmps105;go_wp2_with fail;have HL:=V (lg (((w.alloc (.cells #[.int .i64 65, .int .i64 a, .int .i64 b, .slice al nl cl] 27)).alloc (.cells #[.int .i64 1] 3)).alloc (.cells #[.int .i64 2] 3)) 1 3 HS.out.lt.1);have HS:=V (HS.out.alloc (.cells #[.int .i64 1] 3));simp only [aE]at HL;refine(lS w1 C u m lv _ _ _ [1] HS.out HL.out (by simp only [aB];omega)).mono ?_;rintro e w9 ⟨rfl,hs⟩;have HS:=V hs;clear hs;go_wp2_with fail
 go_end0
 exact⟨rfl,HS.out⟩
theorem J9 (w1:World) (C:Nat) (u:eD) (m:ez) (lv:Value) (ls:List Int) (w:World) (c:eI) (a b:Int) (al:Option Addr) (nl cl:Nat) (l:List Int) (h:gm w1 C u m lv w c) (KF:gS c) (hr:pf w1 C u m lv ls) (hv:c.dZ.length <=50000):
  Calls prog 105 #[.pointer (some ⟨C,0,none⟩), .agg #[.int .i64 66, .int .i64 a, .int .i64 b, .slice al nl cl]] w (nC w1 C u m lv (.tuple #[]) (eI.plain m ls c ⟨66,a,b,l⟩)):=by
 have hu:=And.intro KF (And.intro hr hv);clear hu;have KJ:=(an w.heap.size w).alloc (ag _) (.cells #[.int .i64 66, .int .i64 a, .int .i64 b, .slice al nl cl] 27);have hX:=eG.new w #[.int .i64 66, .int .i64 a, .int .i64 b, .slice al nl cl] 27;have Kx:=(KJ.alloc KJ.size (.cells #[.int .i64 1] 3)).alloc (by rw [aE];exact aW KJ.size (dR _)) (.cells #[.int .i64 2] 3);have HX:=V ((hX.alloc (.cells #[.int .i64 1] 3)).alloc (.cells #[.int .i64 2] 3));have KC:=h.lt;have HS:=V (h.below Kx);have LH:=V KF;have y0:=hX.cell 0;have y0':=HX.out.cell 0;have y1:=HX.out.cell 1;simp only [aG,aF,aR]at y0 y0' y1;clear h KJ Kx hX KF;go_enter func105,ntmps105;go_wp2_with fail;have HL:=V (lg (((w.alloc (.cells #[.int .i64 66, .int .i64 a, .int .i64 b, .slice al nl cl] 27)).alloc (.cells #[.int .i64 1] 3)).alloc (.cells #[.int .i64 2] 3)) 2 3 HS.out.lt.1);have HS:=V (HS.out.alloc (.cells #[.int .i64 2] 3));simp only [aE]at HL;refine(lS w1 C u m lv _ _ _ [2] HS.out HL.out (by simp only [aB];omega)).mono ?_;rintro e w9 ⟨rfl,hs⟩;have HS:=V hs;clear hs;go_wp2_with fail
 go_end0
 exact⟨rfl,HS.out⟩
theorem Ks (w1:World) (C:Nat) (u:eD) (m:ez) (lv:Value) (ls:List Int) (w:World) (c:eI) (op a b:Int) (al:Option Addr) (nl cl:Nat) (l:List Int) (h:gm w1 C u m lv w c) (KF:gS c) (hr:pf w1 C u m lv ls) (hv:c.dZ.length <=50000) (MZ:¬ (op=26\/op=27\/op=32\/op=33\/op=34\/op=35\/op=36\/op=40\/op=41\/op=44\/op=45\/op=54\/op=55\/op=58\/op=63\/op=64\/op=65\/op=66)):
  Calls prog 105 #[.pointer (some ⟨C,0,none⟩), .agg #[.int .i64 op, .int .i64 a, .int .i64 b, .slice al nl cl]] w (nC w1 C u m lv (.tuple #[]) (eI.plain m ls c ⟨op,a,b,l⟩)):=by
 have HN:Hid (eI.plain m ls c ⟨op,a,b,l⟩=((c.need (eX op).2.2).fS (eX op).1).push [(eX op).2.1]):=V (by
  unfold eI.plain;simp only
  repeat (rw [aC (by omega)]))
 have f26:(op==26)=false:=dS (by omega);have f27:(op==27)=false:=dS (by omega);have f32:(op==32)=false:=dS (by omega);have f33:(op==33)=false:=dS (by omega);have f34:(op==34)=false:=dS (by omega);have f35:(op==35)=false:=dS (by omega);have f36:(op==36)=false:=dS (by omega);have f40:(op==40)=false:=dS (by omega);have f41:(op==41)=false:=dS (by omega);have f44:(op==44)=false:=dS (by omega);have f45:(op==45)=false:=dS (by omega);have f54:(op==54)=false:=dS (by omega);have f55:(op==55)=false:=dS (by omega);have f58:(op==58)=false:=dS (by omega);have f63:(op==63)=false:=dS (by omega);have f64:(op==64)=false:=dS (by omega);have f65:(op==65)=false:=dS (by omega);have f66:(op==66)=false:=dS (by omega);clear MZ;have hu:=And.intro KF (And.intro hr hv);clear hu;have KJ:=(an w.heap.size w).alloc (ag _) (.cells #[.int .i64 op, .int .i64 a, .int .i64 b, .slice al nl cl] 27);have hX:=eG.new w #[.int .i64 op, .int .i64 a, .int .i64 b, .slice al nl cl] 27;have Kx:=(KJ.alloc KJ.size (.cells #[.int .i64 1] 3)).alloc (by rw [aE];exact aW KJ.size (dR _)) (.cells #[.int .i64 2] 3);have HX:=V ((hX.alloc (.cells #[.int .i64 1] 3)).alloc (.cells #[.int .i64 2] 3));have KC:=h.lt;have HS:=V (h.below Kx);have LH:=V KF;have y0:=hX.cell 0;have y0':=HX.out.cell 0;have y1:=HX.out.cell 1;simp only [aG,aF,aR]at y0 y0' y1;clear h KJ Kx hX KF;go_enter func105,ntmps105;go_wp2_with fail;refine(qb op _ C HS.out.lt.1).mono ?_;rintro e w2 ⟨v,rfl,hl,hb⟩;have HS:=V (HS.out.below hb);have HL:=V hl;have Ls:=zx op;clear hl hb y0 y0' y1 f26 f27 f32 f33 f34 f35 f36 f40 f41 f44 f45 f54 f55 f58 f63 f64 f65 f66;go_wp2_with fail;refine(jJ w1 C u m lv w2 c (eX op).2.2 HS.out).mono ?_;rintro e w3 ⟨rfl,hs,hk,-⟩;have HS:=V hs;have HL:=V (HL.out.ext (pD hk));clear hs hk;go_wp2_with fail;refine(oc w1 C u m lv w3 _ v (eX op).1 HS.out (LH.out.need _) HL.out (by omega)).mono ?_;rintro e w4 ⟨rfl,hs,hk,-⟩;have HS:=V hs;have l1:=eI.lx (c.need (eX op).2.2) (eX op).1;rw [eI.wC]at l1;clear hs hk;have hb:=(an w4.heap.size w4).alloc (ag _) (.cells #[.int .i64 (eX op).2.1] 3);have HL:=V (lg w4 (eX op).2.1 3 HS.out.lt.1);have HS:=V (HS.out.below hb);clear hb;go_wp2_with fail;refine(lS w1 C u m lv _ _ _ [(eX op).2.1] HS.out HL.out (by simp only [aB];omega)).mono ?_;rintro e w9 ⟨rfl,hs⟩;have HS:=V hs;clear hs;go_wp2_with fail
 go_end0
 rw [HN.out];exact⟨rfl,HS.out⟩
def eK.mi (x:eK):Prop:=x.op=0\/x.op=2\/x.op=11\/x.op=12\/x.op=16\/x.op=26\/x.op=32\/x.op=65\/x.op=66\/x.op=106
def uw (c c':eI) (op:Int):Prop:=c'.sound/\(c'.eS.length:Int)=hU op c.eS.length/\c'.dZ.length <=c.dZ.length+10
theorem sm {op d:Int} (h:¬ (op=2\/op=3\/op=4\/op=11)):hU op d=d:=by
 unfold hU jS;rw [aC (by omega)];have h2:¬ op=2:=by omega
 have h3:¬ op=3:=by omega
 have h4:¬ op=4:=by omega
 simp [h2,h3,h4]
theorem nU {c d:eI} {l:List Int} {op:Int} (hd:gS d) (hc:d.eS.length=c.eS.length) (hv:d.dZ.length <=c.dZ.length) (hl:l.length <=10) (ho:¬ (op=2\/op=3\/op=4\/op=11)):uw c (d.push l) op:=
 ⟨(hd.push l).1,by rw [sm ho,eI.tB,hc],by simp only [eI.push,ah];omega⟩
theorem vP {c d:eI} {op:Int} (hd:gS d) (hc:d.eS.length=c.eS.length) (hv:d.dZ.length <=c.dZ.length) (ho:¬ (op=2\/op=3\/op=4\/op=11)):uw c d op:=
 ⟨hd.1,by rw [sm ho,hc],by omega⟩
theorem wH {c d:eI} {op:Int} (hd:gS d) (hc:d.eS.length=c.eS.length) (hv:d.dZ.length <=c.dZ.length) (ho:¬ (op=2\/op=3\/op=4\/op=11)):uw c d.dead op:=
 vP hd.dead (by rw [AN hd.2,hc]) (aW (DU d) hv) ho
theorem Bm {c d:eI} {op k:Int} (hd:gS d) (hc:d.eS.length=c.eS.length) (hv:d.dZ.length <=c.dZ.length) (ho:op=2\/op=3\/op=4):uw c (d.begin op k) op:=by
 refine⟨(hd.begin op k).1,?_,by simp only [eI.begin];omega⟩;have:hU op (c.eS.length:Int)=c.eS.length+1:=by
  rcases ho with rfl | rfl | rfl <;>rfl
 rw [this];simp [eI.begin,hc]
theorem Hl {m:ez} (NI:m.short) {ls:List Int} {c:eI} (h:gS c) (x:eK) (hx:x.mi):uw c (c.step m ls x) x.op:=by
 unfold eI.step;rcases hx with q | q | q | q | q | q | q | q | q | q
 ·rw [show c.control m x=some c.dead by simp [eI.control,q]]
  exact wH h rfl (ag _) (by omega)
 ·rw [show c.control m x=some (c.begin x.op x.a)by simp [eI.control,q]]
  exact Bm h rfl (ag _) (by omega)
 ·rw [show c.control m x=some ((c.shut.2.need (c.shut.1.op !=4 || c.shut.1.kind==0)).push (gK c.shut.1.kind))by simp [eI.control,q]]
  have hp:=dI.2 h.2;have hs:=AG h;refine⟨eI.sound.push ⟨hs.1,hs.2⟩ _,?_,?_⟩
  ·rw [show hU x.op (c.eS.length:Int)=c.eS.length - 1 by rw [q];rfl]
   rw [dF,eI.tB,eI.mZ,qa,dr];omega
  ·have:=re c
   have:=oo c.shut.1.kind;simp only [dF,eI.push,eI.wC,ah];omega
 ·rw [show c.control m x=some ((c.label x.a).2.fS (c.label x.a).1).dead by simp [eI.control,q]]
  exact wH ((h.label _).fS _) (by rw [eI.ij,(si _ _).1]) (aW (eI.lx _ _) (by rw [(si _ _).2];exact ag _)) (by omega)
 ·rw [show c.control m x=some (c.calls (gB m x.a))by simp [eI.control,q]]
  exact nU ((h.need _).fS _) (by rw [eI.ij];rfl) (eI.lx _ _) (nV NI _).2 (by omega)
 all_goals rw [show c.control m x=none by simp [eI.control,q],Option.getD_none]
 ·rw [show c.plain m ls x=(c.pop 0).2 by simp [eI.plain,q]]
  exact vP (h.pop 0) (by rw [eI.pH]) (eI.BM c 0) (by omega)
 ·rw [show c.plain m ls x=(c.local ls x.a).2.push [(c.local ls x.a).1]by simp [eI.plain,q]]
  exact nU (h.local ls _) (by rw [(pn _ _ _).1]) (by rw [(pn _ _ _).2];exact ag _) (by simp) (by omega)
 ·rw [show c.plain m ls x=c.push [1]by simp [eI.plain,q]]
  exact nU h rfl (ag _) (by simp) (by omega)
 ·rw [show c.plain m ls x=c.push [2]by simp [eI.plain,q]]
  exact nU h rfl (ag _) (by simp) (by omega)
 ·rw [show c.plain m ls x=((c.need (eX x.op).2.2).fS (eX x.op).1).push [(eX x.op).2.1]by simp [eI.plain,q]]
  exact nU ((h.need _).fS _) (by rw [eI.ij];rfl) (eI.lx _ _) (by simp) (by omega)
theorem IT {x:eK} (h:x.may) (hf:fJ x.op=3):0 <=x.a/\x.a <=1000:=by
 obtain⟨_,_,h⟩:=h;rw [hf]at h;have h:fV x.a:=by simpa using h
 exact h
theorem sq (w1:World) (C:Nat) (u:eD) (m:ez) (lv:Value) (ls:List Int) (w:World) (c:eI) (x:eK) (al:Option Addr) (nl cl:Nat) (h:gm w1 C u m lv w c) (KF:gS c) (hr:pf w1 C u m lv ls) (NI:m.short) (hv:c.dZ.length <=50000) (hc:c.eS.length <=50000) (hm:x.may) (hx:x.mi):
  Calls prog 104 #[.pointer (some ⟨C,0,none⟩), .agg #[.int .i64 x.op, .int .i64 x.a, .int .i64 x.b, .slice al nl cl]] w (qj w1 C u m lv x c w):=by
 obtain⟨op,a,b,l⟩:=x;unfold eK.mi at hx;simp only at hx⊢;by_cases q0:op=0
 ·subst q0;exact J4 w1 C u m lv ls w c a b al nl cl l h KF hr NI hv hc
 by_cases q1:op=2
 ·subst q1;exact Kd w1 C u m lv ls w c a b al nl cl l h KF hr NI hv hc
 by_cases q2:op=11
 ·subst q2;exact Jq w1 C u m lv ls w c a b al nl cl l h KF hr NI hv hc
 by_cases q3:op=12
 ·subst q3;exact Ju w1 C u m lv ls w c a b al nl cl l h KF hr NI hv hc (IT hm rfl)
 by_cases q4:op=16
 ·subst q4;exact I2 w1 C u m lv ls w c a b al nl cl l h KF hr NI hv hc (IT hm rfl)
 exact J7 w1 C u m lv w c op a b al nl cl l h (by omega)
theorem vO (w1:World) (C:Nat) (u:eD) (m:ez) (lv:Value) (ls:List Int) (w:World) (c:eI) (x:eK) (al:Option Addr) (nl cl:Nat) (h:gm w1 C u m lv w c) (KF:gS c) (hr:pf w1 C u m lv ls) (hv:c.dZ.length <=50000) (hm:x.may) (hx:x.mi):
  Calls prog 105 #[.pointer (some ⟨C,0,none⟩), .agg #[.int .i64 x.op, .int .i64 x.a, .int .i64 x.b, .slice al nl cl]] w (nC w1 C u m lv (.tuple #[]) (eI.plain m ls c x)):=by
 obtain⟨op,a,b,l⟩:=x;unfold eK.mi at hx;simp only at hx⊢;by_cases q1:op=26
 ·subst q1;exact Kg w1 C u m lv ls w c a b al nl cl l h KF hr hv
 by_cases q2:op=32
 ·subst q2;exact JU w1 C u m lv ls w c a b al nl cl l h KF hr hv (IT hm rfl)
 by_cases q5:op=65
 ·subst q5;exact JS w1 C u m lv ls w c a b al nl cl l h KF hr hv
 by_cases q6:op=66
 ·subst q6;exact J9 w1 C u m lv ls w c a b al nl cl l h KF hr hv
 exact Ks w1 C u m lv ls w c op a b al nl cl l h KF hr hv (by omega)
theorem AU {C:Nat} {w w':World} (h:Below w.heap.size w w') (hC:w.heap.size <=C):Ext w (rC C w'):=by
 refine⟨fun a v e=>?_,by unfold rC;rw [gY];exact h.size⟩;have KC:=aT w a e;have hb:(fun k=>k==C) a.block=false:=by
  have:a.block≠C:=by omega
  simp [this]
 have h2:(mask (fun k=>k==C) w').cell? a=w'.cell? a:=bm (jt w' hb);show(mask (fun k=>k==C) w').cell? a=some v;rw [h2,h.cell KC];exact e
theorem gm.new {w1:World} {C:Nat} {u:eD} {m:ez} {lv:Value} (h:eG w1 C (sQ u m lv (.slice none 0 0) (.slice none 0 0) false) 181):gm w1 C u m lv w1 ⟨[],[],false⟩:=
 ⟨_,_,h,dT.nil _ _,dT.nil _ _,dU.refl _ _,h.lt⟩
def JH (m:ez) (ls:List Int) (c0:eI) (body:List eK) (c:eI) (i:Nat):Prop:=
 i <=body.length/\eI.run m ls c0 body=eI.run m ls c (body.drop i)/\gS c/\c.dZ.length <=10*i/\c.eS.length <=i+1/\∃st NN,gx body (body.drop i) i st=some NN/\st.2.length+1=c.eS.length
theorem C0 (op n:Int):hU op (n+1)=hU op n+1/\hU op n <=n+1:=by
 unfold hU;split
 ·omega
 ·split <;>omega
theorem xY {m:ez} (NI:m.short) {ls:List Int} {c0:eI} {body:List eK} {c:eI} {i:Nat} {x:eK} (h:JH m ls c0 body c i) (hx:body[i]?=some x) (he:x.mi):
  ((c.step m ls x).bad=true ->eI.run m ls c0 body=none)/\((c.step m ls x).bad=false ->JH m ls c0 body (c.step m ls x) (i+1)):=by
 obtain⟨h1,h2,h3,h4,h5,st,NN,h6,h7⟩:=h;obtain⟨hk,rfl⟩:=aN.1 hx;rw [cq hk]at h2 h6;rw [eI.run]at h2;rw [gx]at h6;obtain⟨s1,s2,s3⟩:=Hl NI (ls:=ls) h3 body[i] he;refine⟨fun hb=>by rw [h2,aJ hb],fun hb=>?_⟩;rw [aC (by rw [hb];simp)]at h2;cases hs:gf body i body[i] st with
 | none=>rw [hs]at h6;cases h6
 | some QK=>
  rw [hs]at h6;simp only [aw]at h6;obtain⟨d0,d1⟩:=pO hs;have hd:=C0 body[i].op st.2.length;rw [<- h7]at s2;rw [show((st.2.length+1:Nat):Int)=(st.2.length:Int)+1 by omega]at s2;refine⟨by omega,h2,⟨s1,?_⟩,by omega,by omega,QK,NN,h6,by omega⟩;intro e;rw [e]at s2;simp only [aK]at s2;omega
def qO (t:gr):eI:=({dZ:=[],eS:=[],bad:=false}:eI).begin 2 (t.results.head?.getD 0)
theorem C2 {m:ez} {ls:List Int} {t:gr} {body:List eK} {bs:List kl} (h:fC body=some bs):JH m ls (qO t) body (qO t) 0/\body.length <=300:=by
 unfold fC at h;split at h
 ·cases h
 ·cases hg:gx body body 0 ([],[])with
  | none=>rw [hg]at h;cases h
  | some st=>exact⟨⟨bK _,rfl,⟨⟨by simp [qO,eI.begin],by simp [qO,eI.begin]⟩,by simp [qO,eI.begin]⟩,by simp [qO,eI.begin],by simp [qO,eI.begin],([],[]),st,hg,by simp [qO,eI.begin]⟩,by omega⟩
theorem nN (m:ez) (u:eD) (k:Int) (w:World) (hm:ep w u m) (NI:m.short) (hx:∀c∈m.ej,c.locals.length <=100000/\∀x∈c.body,x.may/\x.mi):Calls prog 67 #[.agg (u.cells m), .int .i64 k] w (ew (fQ m k) w):=by
 have HI:=V hm;have HSM:=V NI;have QX:=V hx;obtain⟨a0,c0,a1,c1,a2,c2,a3,c3,a4,c4,a5,c5,a6,c6,a7,c7,rfl⟩:=ep.open hm;simp only [eD.cells];clear hm NI hx;have KW:=(an w.heap.size w).alloc (ag _) (.cells #[.slice a0 m.types.length c0, .slice a1 m.imports.length c1, .slice a2 m.funcs.length c2, .bool m.table.has, .int .i64 m.table.min, .int .i64 m.table.max, .bool m.mem.has, .int .i64 m.mem.min, .int .i64 m.mem.max, .slice a3 m.globals.length c3, .slice a4 m.ea.length c4, .slice a5 m.elems.length c5, .slice a6 m.ej.length c6, .slice a7 m.eC.length c7] 62);have HB:=V (KW.alloc (by rw [aE];omega) (.cells #[.slice a0 m.types.length c0, .slice a1 m.imports.length c1, .slice a2 m.funcs.length c2, .bool m.table.has, .int .i64 m.table.min, .int .i64 m.table.max, .bool m.mem.has, .int .i64 m.mem.min, .int .i64 m.mem.max, .slice a3 m.globals.length c3, .slice a4 m.ea.length c4, .slice a5 m.elems.length c5, .slice a6 m.ej.length c6, .slice a7 m.eC.length c7, .slice none 0 0, .slice none 0 0, .slice none 0 0, .bool false] 181));clear KW;by_cases q1:k < 0
 ·have f1:decide (k < 0)=true:=aA q1
  have HF:Hid (fQ m k=false):=V (by unfold fQ;rw [if_pos (.inl q1)]);clear q1 HI;go_enter func67,ntmps67;go_wp2_with fail;go_ret;exact⟨by rw [HF.out];rfl,HB.out⟩
 obtain⟨k,rfl⟩:∃n:Nat,k=n:=⟨k.toNat,by omega⟩;have f1:decide ((k:Int) < 0)=false:=az q1;by_cases q2:k < m.ej.length;rotate_left
 ·have f2:decide ((m.ej.length:Int) <=(k:Int))=true:=aA (by omega)
  have f3:decide (m.ej.length <=k)=true:=aA (by omega);have HF:Hid (fQ m k=false):=V (by unfold fQ;rw [if_pos (.inr (.inl (by omega)))]);clear q1 HI;go_enter func67,ntmps67;go_wp2_with fail;go_ret;exact⟨by rw [HF.out];rfl,HB.out⟩
 have f2:decide ((m.ej.length:Int) <=(k:Int))=false:=az (by omega);have f3:decide (m.ej.length <=k)=false:=az (by omega);by_cases q3:k < m.funcs.length;rotate_left
 ·have f4:decide ((m.funcs.length:Int) <=(k:Int))=true:=aA (by omega)
  have f5:decide (m.funcs.length <=k)=true:=aA (by omega);have HF:Hid (fQ m k=false):=V (by unfold fQ;rw [if_pos (.inr (.inr (by omega)))]);clear q1 HI;go_enter func67,ntmps67;go_wp2_with fail;go_ret;exact⟨by rw [HF.out];rfl,HB.out⟩
 have f4:decide ((m.funcs.length:Int) <=(k:Int))=false:=az (by omega);have f5:decide (m.funcs.length <=k)=false:=az (by omega);obtain⟨code,PS⟩:∃x,m.ej[k]?=some x:=⟨_,aq q2⟩;obtain⟨ft,hft⟩:∃x,m.funcs[k]?=some x:=⟨_,aq q3⟩;have HLL:=V (QX.out code (aO PS)).1;have QX:=V (QX.out code (aO PS)).2;have HF:=V (show fQ m k=(if(typeOf m ft).2=false\/(fC code.body).isSome=false then false
  else match eI.run m ((typeOf m ft).1.params++code.locals) (qO (typeOf m ft).1) code.body with
   | none=>false
   | some c=> !c.shut.2.bad&&decide (((typeOf m ft).1.params++code.locals).length <=32))by
  unfold fQ qO;rw [aC (by omega),cG,PS,hft];rfl)
 obtain⟨_,_,hv,_,_,Kt⟩:=HI.out.2.2.1;injection hv with e1 e2 e3;subst e1;obtain⟨b,off,rfl,-,KV⟩:=Kt k ft hft;have y0:=(Ext.dW HB.out).1 _ _ (KV 0 _ rfl);rw [aL,bo]at y0;clear e2 e3 Kt KV hft;have KY:=V ((eG.new w #[.slice a0 m.types.length c0, .slice a1 m.imports.length c1, .slice (some ⟨b,off,none⟩) m.funcs.length c2, .bool m.table.has, .int .i64 m.table.min, .int .i64 m.table.max, .bool m.mem.has, .int .i64 m.mem.min, .int .i64 m.mem.max, .slice a3 m.globals.length c3, .slice a4 m.ea.length c4, .slice a5 m.elems.length c5, .slice a6 m.ej.length c6, .slice a7 m.eC.length c7] 62).alloc (.cells #[.slice a0 m.types.length c0, .slice a1 m.imports.length c1, .slice (some ⟨b,off,none⟩) m.funcs.length c2, .bool m.table.has, .int .i64 m.table.min, .int .i64 m.table.max, .bool m.mem.has, .int .i64 m.mem.min, .int .i64 m.mem.max, .slice a3 m.globals.length c3, .slice a4 m.ea.length c4, .slice a5 m.elems.length c5, .slice a6 m.ej.length c6, .slice a7 m.eC.length c7, .slice none 0 0, .slice none 0 0, .slice none 0 0, .bool false] 181));have HCB0:=eG.new (w.alloc (.cells #[.slice a0 m.types.length c0, .slice a1 m.imports.length c1, .slice (some ⟨b,off,none⟩) m.funcs.length c2, .bool m.table.has, .int .i64 m.table.min, .int .i64 m.table.max, .bool m.mem.has, .int .i64 m.mem.min, .int .i64 m.mem.max, .slice a3 m.globals.length c3, .slice a4 m.ea.length c4, .slice a5 m.elems.length c5, .slice a6 m.ej.length c6, .slice a7 m.eC.length c7] 62)) #[.slice a0 m.types.length c0, .slice a1 m.imports.length c1, .slice (some ⟨b,off,none⟩) m.funcs.length c2, .bool m.table.has, .int .i64 m.table.min, .int .i64 m.table.max, .bool m.mem.has, .int .i64 m.mem.min, .int .i64 m.mem.max, .slice a3 m.globals.length c3, .slice a4 m.ea.length c4, .slice a5 m.elems.length c5, .slice a6 m.ej.length c6, .slice a7 m.eC.length c7, .slice none 0 0, .slice none 0 0, .slice none 0 0, .bool false] 181;rw [aE]at HCB0;have OE:=V HCB0;clear HCB0;go_enter func67,ntmps67;go_wp2_with fail;obtain⟨wA,O7⟩:∃wA,wA=(w.alloc (.cells #[.slice a0 m.types.length c0, .slice a1 m.imports.length c1, .slice (some ⟨b,off,none⟩) m.funcs.length c2, .bool m.table.has, .int .i64 m.table.min, .int .i64 m.table.max, .bool m.mem.has, .int .i64 m.mem.min, .int .i64 m.mem.max, .slice a3 m.globals.length c3, .slice a4 m.ea.length c4, .slice a5 m.elems.length c5, .slice a6 m.ej.length c6, .slice a7 m.eC.length c7] 62)).alloc (.cells #[.slice a0 m.types.length c0, .slice a1 m.imports.length c1, .slice (some ⟨b,off,none⟩) m.funcs.length c2, .bool m.table.has, .int .i64 m.table.min, .int .i64 m.table.max, .bool m.mem.has, .int .i64 m.mem.min, .int .i64 m.mem.max, .slice a3 m.globals.length c3, .slice a4 m.ea.length c4, .slice a5 m.elems.length c5, .slice a6 m.ej.length c6, .slice a7 m.eC.length c7, .slice none 0 0, .slice none 0 0, .slice none 0 0, .bool false] 181):=⟨_,rfl⟩;rw [<- O7]at HB KY OE⊢;have hAS:wA.heap.size=w.heap.size+2:=by rw [O7];simp
 clear O7 y0;have HS:=V (gm.new (u:=⟨.slice a0 m.types.length c0, .slice a1 m.imports.length c1, .slice (some ⟨b,off,none⟩) m.funcs.length c2, .slice a3 m.globals.length c3, .slice a4 m.ea.length c4, .slice a5 m.elems.length c5, .slice a6 m.ej.length c6, .slice a7 m.eC.length c7⟩) (m:=m) (lv:= .slice none 0 0) OE.out);have K5:=V (show pf wA (w.heap.size+1) ⟨.slice a0 m.types.length c0, .slice a1 m.imports.length c1, .slice (some ⟨b,off,none⟩) m.funcs.length c2, .slice a3 m.globals.length c3, .slice a4 m.ea.length c4, .slice a5 m.elems.length c5, .slice a6 m.ej.length c6, .slice a7 m.eC.length c7⟩ m (.slice none 0 0) []from⟨HI.out.ext (AU HB.out (by omega)),eg.nil _⟩);refine(ow wA (w.heap.size+1) _ m _ [] wA _ ft HS.out K5.out).mono ?_;rintro e w2 ⟨v1,v2,rfl,NO,Mf,hb⟩;have hsh:=qQ HSM.out ft;obtain⟨T,hT⟩:∃T,typeOf m ft=T:=⟨_,rfl⟩;rw [hT]at HF NO Mf hsh⊢;clear hT;obtain⟨⟨ps,rs⟩,ok⟩:=T;simp only at HF NO Mf hsh⊢;obtain⟨b1,k1,rfl,LN,-,-⟩:=id NO;obtain⟨b2,k2,rfl,KB,-,-⟩:=id Mf;have HV1:=V NO;have NG:=V Mf;have HSH:=V hsh;have Kx:=(an w2.heap.size w2).alloc (ag _) (.cells #[.slice b1 ps.length k1, .slice b2 rs.length k2] 109);have N1:=hb.size;have hb:=hb.trans (Kx.mono hb.size);have OX:=V (eG.new w2 #[.slice b1 ps.length k1, .slice b2 rs.length k2] 109);have KY:=V (KY.out.below hb KY.out.lt);have OE:=V (OE.out.below hb OE.out.lt);have HB:=V (HB.out.trans (hb.mono HB.out.size));have Qr:=V hb;have hT2:w.heap.size+2 <=w2.heap.size:=by omega
 clear NO Mf hsh hb Kx;obtain⟨bc,OY,⟨va,vb⟩,rfl,-,KV,Li⟩:=ee.get HI.out.2.2.2.2.2.2.1 PS;have y0:=(Ext.dW HB.out).1 _ _ (KV 0 _ rfl);have y1:=(Ext.dW HB.out).1 _ _ (KV 1 _ rfl);rw [aL]at y0;have y2:=KY.out.mod.2.2.2.2.2.2.2.2.2.2.2.2.1;have KO:=V Li;clear KV Li;go_wp2_with fail;refine(pw _ code.body _ (gd.below KO.out.1.2 HB.out)).mono ?_;rintro e w3 ⟨hb,hmt⟩;have OX:=V (OX.out.below hb OX.out.lt);have KY:=V (KY.out.below hb KY.out.lt);have OE:=V (OE.out.below hb OE.out.lt);have HB:=V (HB.out.trans (hb.mono HB.out.size));have Qr:=V (Qr.out.trans (hb.mono Qr.out.size));clear y0 y1 y2;have N2:w2.heap.size < w3.heap.size:=OX.out.lt;rcases hmt with⟨bs,bv,Pu,rfl,-⟩ | ⟨Pu,rfl⟩;rotate_left
 ·have HF2:=V (HF.out.trans (aJ (.inr (by rw [Pu];rfl))))
  clear Pu hb;cases ok
  ·go_wp2_with fail
   go_ret;exact⟨by rw [HF2.out];rfl,HB.out⟩
  ·go_wp2_with fail
   go_ret;exact⟨by rw [HF2.out];rfl,HB.out⟩
 cases ok
 ·have HF:=V (HF.out.trans (aJ (.inl rfl)))
  clear Pu hb;go_wp2_with fail;go_ret;exact⟨by rw [HF.out];rfl,HB.out⟩
 have HF:=V (HF.out.trans (aC (by rw [Pu];simp)));have HJ0:=V (fun ls=>C2 (m:=m) (ls:=ls) (t:=⟨ps,rs⟩) Pu);clear Pu hb;have hml:m.ej.length <=9223372036854775807:=by
  obtain⟨_,_,_,h1,h2⟩:=ee.slice HI.out.2.2.2.2.2.2.1;omega
 obtain⟨bc',offc',⟨va',vb'⟩,PB,-,KV,Li⟩:=ee.get HI.out.2.2.2.2.2.2.1 PS;injection PB with PB;injection PB with hab1 hab2;subst hab1 hab2;have KO:=V Li;have y0:=(Ext.dW HB.out.drew).1 _ _ (KV 0 _ rfl);have y1:=KV 1 _ rfl;rw [aL]at y0;have Y1:=V y1;have Y0:=V (KV 0 _ rfl);clear KV Li y1;have y2:=KY.out.drew.mod.2.2.2.2.2.2.2.2.2.2.2.2.1;have y3:=OX.out.drew.two.1;have y4:w3.drew.cell? ⟨w.heap.size+1,14,none⟩=some (.slice none 0 0):=OE.out.drew.cell 14;go_wp2_with fail;refine eO (fun w'=>w'.cell? ⟨w.heap.size+1,14,none⟩=some (.slice none 0 0)/\w'.cell? ⟨w2.heap.size,0,none⟩=some (.slice b1 ps.length k1)/\w'.cell? ⟨w.heap.size,12,none⟩=some (.slice (some ⟨bc,OY,none⟩) m.ej.length c6)/\w'.cell? ⟨bc,OY+k*2,none⟩=some va') 17 (up 0 7 (up 8 6 ((7,false)::(14,false)::(15,true)::(16,true)::[]))) (by kernel_rfl) (by kernel_rfl) ⟨y4,y3,y2,y0⟩ ?_;clear y0 y2 y3 y4;have HB:=V HB.out.drew;have Qr:=V Qr.out.drew;have KY:=V KY.out.drew;have OX:=V OX.out.drew;have OE:=V OE.out.drew;have hsz4:w2.heap.size < w3.drew.heap.size:=N2;clear N2;generalize w3.drew=w4 at HB Qr KY OX OE hsz4⊢;iterate 13 (first | (apply sk rfl rfl;simp only [pt]) | (apply dV rfl rfl rfl;·(rintro w' ⟨t0,t1,t2,t3⟩;go_wp2;exact⟨rfl,rfl,rfl⟩)))
 refine ed rfl rfl ?_;go_wp2_with (first | (at_builtin;refine lP w4 rfl _ _ rfl rfl w4.heap.size (.slice none 0 0) [] rfl (dT.nil _ _) (.slice b1 ps.length k1) ps rfl (HV1.out.ext ((wT Qr.out).trans (ym _ _))) (by have:=HSH.out.1;simp only [aK];omega) (ag _) ?_));intro v5 w5 ho5 NR PH;have Ly:Below w4.heap.size w4 w5:=NR.below (ag _) (fun i hi=>by simp [eA,Value.ownBlock]at hi);have Qr:=V (Qr.out.trans (Ly.mono Qr.out.size));have HB:=V (HB.out.trans (Ly.mono HB.out.size));have KY:=V (KY.out.below Ly KY.out.lt);have OX:=V (OX.out.below Ly OX.out.lt);have OE:=V (OE.out.below Ly OE.out.lt);have H45:=V Ly;have HO5:=V (show dT 3 1 fb w5 w4.heap.size v5 ps from ho5);clear ho5 NR PH Ly;go_wp2_with fail;refine⟨⟨OE.out.cell 14,OX.out.two.1,KY.out.mod.2.2.2.2.2.2.2.2.2.2.2.2.1,(Ext.dW HB.out).1 _ _ Y0.out⟩,?_⟩;refine ed rfl rfl ?_;go_wp2_with (first | (at_builtin;refine lP w5 rfl _ _ rfl rfl w4.heap.size v5 ps rfl HO5.out va' code.locals rfl (KO.out.1.1.ext (Ext.dW HB.out)) (by have:=HSH.out.1;have:=HLL.out;omega) H45.out.size ?_));intro v6 w6 ho6 O4 hs6;have Ny:Below w4.heap.size w5 w6:=O4.below H45.out.size (fun i hi=>(et HO5.out hi).1);have Qr:=V (Qr.out.trans (Ny.mono (by have:=Qr.out.size;omega)));have HB:=V (HB.out.trans (Ny.mono (by omega)));have KY:=V (KY.out.below Ny (by omega));have OX:=V (OX.out.below Ny (by omega));have OE:=V (OE.out.below Ny (by omega));obtain⟨ls,hls⟩:∃ls,ps++code.locals=ls:=⟨_,rfl⟩;rw [hls]at ho6 HF;clear hls;obtain⟨av,cw,rfl,-,-⟩:=ho6.slice;have HO6:=V ho6;clear ho6 O4 hs6 Ny;go_wp2_with fail;refine⟨⟨OE.out.cell 14,OX.out.two.1,KY.out.mod.2.2.2.2.2.2.2.2.2.2.2.2.1,(Ext.dW HB.out).1 _ _ Y0.out⟩,?_⟩;iterate 2 (first | (apply sk rfl rfl;simp only [pt]) | (apply dV rfl rfl rfl;·(rintro w' ⟨t0,t1,t2,t3⟩;go_wp2;exact⟨rfl,rfl,rfl⟩)))
 refine fG rfl rfl ?_;have c14:w6.cell? ⟨w.heap.size+1,14,none⟩=some (.slice none 0 0):=OE.out.cell 14;have z14:=OE.out.free 14;go_wp2_with fail;refine⟨trivial,?_⟩;refine aD ?_;have Kz:=eu w6 (w.heap.size+1) 14 (.slice av ls.length cw);have K5:=V (show pf _ (w.heap.size+1) ⟨.slice a0 m.types.length c0, .slice a1 m.imports.length c1, .slice (some ⟨b,off,none⟩) m.funcs.length c2, .slice a3 m.globals.length c3, .slice a4 m.ea.length c4, .slice a5 m.elems.length c5, .slice (some ⟨bc,OY,none⟩) m.ej.length c6, .slice a7 m.eC.length c7⟩ m (.slice av ls.length cw) ls from⟨(HI.out.ext (AU HB.out (by omega))).ext (pD Kz),(BY fw HO6.out (by omega)).ext (pD Kz)⟩);have KY:=V (KY.out.keeps Kz (by omega));have OX:=V (OX.out.keeps Kz (by omega));have HB:=V (HB.out.trans (Kz.below HB.out.size (fun i hi=>by omega)));have NG:=V ((NG.out.ext (wT Qr.out)).ext (sP Kz));have HS:=V (gm.new (u:=⟨.slice a0 m.types.length c0, .slice a1 m.imports.length c1, .slice (some ⟨b,off,none⟩) m.funcs.length c2, .slice a3 m.globals.length c3, .slice a4 m.ea.length c4, .slice a5 m.elems.length c5, .slice (some ⟨bc,OY,none⟩) m.ej.length c6, .slice a7 m.eC.length c7⟩) (m:=m) (lv:= .slice av ls.length cw) (OE.out.set 14 (.slice av ls.length cw)));clear c14 z14 Kz;generalize w6.setCell ⟨w.heap.size+1,14,none⟩ (.slice av ls.length cw)=w7 at K5 KY OX HB NG HS⊢;clear OE HO5 HO6 H45 Qr HSH HLL HV1 hsz4;have y3:=OX.out.two.2.1;obtain⟨ab,cb,rfl,Lw,Pc⟩:=ee.slice KO.out.1.2;obtain⟨k0,Po⟩:∃k0,rs.head?.getD 0=k0:=⟨_,rfl⟩;have HC0:=V (show qO ⟨ps,rs⟩=(⟨[],[],false⟩:eI).begin 2 k0 by unfold qO;rw [Po]);obtain⟨OT,hb300⟩:=HJ0.out ls;have OT:=V OT;have HEX:=V (AU (C:=w.heap.size+1) HB.out (by omega));have HNB:=V (KO.out.1.2.ext HEX.out);clear HJ0 KO;have f8:(0:Int) <=(rs.length:Int):=by omega
 by_cases q:rs.length=0
 ·have f6:decide ((0:Int) < (rs.length:Int))=false:=az (by omega)
  have f7:decide (0 < rs.length)=false:=az (by omega);have LN:0=k0:=by rw [aH q]at Po;exact Po
  subst LN;clear f8 q Po;go_wp2_with fail;refine(tf w7 (w.heap.size+1) _ m _ w7 _ 2 0 HS.out (by simp)).mono ?_;rintro e w8 ⟨rfl,hs⟩;rw [<- HC0.out]at hs;have hold:=hs.old;have KY:=V (KY.out.keeps hold (by omega));have HS:=V hs;have y2:=KY.out.mod.2.2.2.2.2.2.2.2.2.2.2.2.1;have y5:=hs.ext'.1 _ _ (HEX.out.1 _ _ Y1.out);clear hs y3 hold;go_wp2_with fail;clear y2 y5;refine eB (fun a' w'=>∃(c:eI) (i:Nat),a'=fr (gs a' 0 2 (.pointer (some ⟨w.heap.size,0,none⟩)::gs a' 3 2 (.pointer (some ⟨w.heap.size+1,0,none⟩)::gs a' 6 85 (.slice ab code.body.length cb:: .int .i64 code.body.length:: .int .i64 i::gs a' 94 30 []))))/\JH m ls (qO ⟨ps,rs⟩) code.body c i/\gm w7 (w.heap.size+1) ⟨.slice a0 m.types.length c0, .slice a1 m.imports.length c1, .slice (some ⟨b,off,none⟩) m.funcs.length c2, .slice a3 m.globals.length c3, .slice a4 m.ea.length c4, .slice a5 m.elems.length c5, .slice (some ⟨bc,OY,none⟩) m.ej.length c6, .slice a7 m.eC.length c7⟩ m (.slice av ls.length cw) w' c) (fun a' _=>(code.body.length - (intOf (a'.tmps.getD 93 undef)).toNat)) ?_ ?_
  ·exact⟨_,0,rfl,OT.out,HS.out⟩
  ·skip
   rintro R a' w1 ⟨c,i,Kw,hJ⟩ HR;dsimp only [fr,gs]at Kw;generalize slot a'=f at Kw;subst Kw;obtain⟨hfn,hs⟩:=hJ;have OT:=V hfn;have HS:=V hs;obtain⟨hi1,KH,KF,MN,O8,-⟩:=hfn;have LH:=V KF;have hold:=hs.old;have MX:=V (HB.out.trans (hold.below HB.out.size (fun i hi=>by omega)));clear hold KF;by_cases q:i < code.body.length;rotate_left
   ·obtain rfl:i=code.body.length:=by omega
    rw [List.drop_length,eI.run]at KH;have HF:=V (show fQ m k=(!c.shut.2.bad&&decide (ls.length <=32))by rw [HF.out,KH]);clear KH hs;go_wp2_with fail;refine(uz w7 (w.heap.size+1) _ m _ w1 c HS.out LH.out).mono ?_;rintro e w10 ⟨rfl,KG,KB⟩;have MX:=V (MX.out.trans (KB.below MX.out.size (fun i hi=>by omega)));obtain⟨-,-,-,-,-,-,c14,c17,-⟩:=KG.cell;obtain⟨bd,NX⟩:∃bd,c.shut.2.bad=bd:=⟨_,rfl⟩;rw [NX]at c17 HF;clear KG KB NX;cases bd
    ·by_cases q32:ls.length <=32
     ·have g1:decide ((ls.length:Int) <=32)=true:=aA (by omega)
      have g2:decide (ls.length <=32)=true:=aA q32;rw [g2]at HF;clear q32;go_wp2_with fail;go_ret;exact⟨by rw [HF.out];rfl,MX.out⟩
     ·have g1:decide ((ls.length:Int) <=32)=false:=az (by omega)
      have g2:decide (ls.length <=32)=false:=az q32;rw [g2]at HF;clear q32;go_wp2_with fail;go_ret;exact⟨by rw [HF.out];rfl,MX.out⟩
    ·go_wp2_with fail
     go_ret;exact⟨by rw [HF.out];rfl,MX.out⟩
   obtain⟨x,hx⟩:∃x,code.body[i]?=some x:=⟨_,aq q⟩;obtain⟨Mg,OF⟩:=QX.out x (aO hx);have Ky:=V (xY HSM.out OT.out hx OF);obtain⟨bb,ob,un,rfl,-,hc,hu⟩:=ee.get HNB.out hx;obtain⟨⟨au,KD,rfl,-,-,-⟩,-⟩:=id hu;have y0:=hs.ext'.1 _ _ (hc 0 _ rfl);have y1:=hs.ext'.1 _ _ (hc 1 _ rfl);have y2:=hs.ext'.1 _ _ (hc 2 _ rfl);have y3:=hs.ext'.1 _ _ (hc 3 _ rfl);rw [aL]at y0;obtain⟨op,xa,xb,xl⟩:=x;have ME:=V Mg;have PT:=V OF;have HX:=V (eG.new w1 #[.int .i64 op, .int .i64 xa, .int .i64 xb, .slice au xl.length KD] 27);have hC1:w.heap.size+1 < w1.heap.size:=hs.lt.1;clear hc hu Mg OF hx KH hs OT;go_wp2_with fail;refine(sq w7 (w.heap.size+1) _ m _ ls _ c ⟨op,xa,xb,xl⟩ au xl.length KD (HS.out.alloc _) LH.out K5.out HSM.out (by omega) (by omega) ME.out PT.out).mono ?_;rintro e w10 (⟨c',Mh,rfl,KG⟩ | ⟨Mh,rfl,KG,KB⟩)
   ·have Nc:c.step m ls ⟨op,xa,xb,xl⟩=c':=by unfold eI.step;rw [Mh];rfl
    rw [Nc]at Ky;clear Mh Nc y0 y1 y2 y3 hC1;have hold:=KG.old;have MX:=V (HB.out.trans (hold.below HB.out.size (fun i hi=>by omega)));have HS:=V KG;have c17:=KG.cell.2.2.2.2.2.2.2.1;obtain⟨bd,NX⟩:∃bd,c'.bad=bd:=⟨_,rfl⟩;rw [NX]at c17 Ky;clear KG hold NX;cases bd
    ·have OT:=V (Ky.out.2 rfl)
     clear Ky HX;go_wp2_with fail;refine HR.out _ _ ⟨_,i+1,rfl,OT.out,HS.out⟩ ?_;simp [intOf];omega
    ·have hF:=HF.out
     rw [Ky.out.1 rfl]at hF;have HF:=V hF;clear hF;go_wp2_with fail;go_ret;exact⟨by rw [HF.out];rfl,MX.out⟩
   ·have Nc:c.step m ls ⟨op,xa,xb,xl⟩=c.plain m ls ⟨op,xa,xb,xl⟩:=by unfold eI.step;rw [Mh];rfl
    rw [Nc]at Ky;clear Mh Nc y0 y1 y2 y3;have HX:=V (HX.out.keeps KB (by omega));have HS:=V KG;have y0:=HX.out.cell 0;have y1:=HX.out.cell 1;have y2:=HX.out.cell 2;have y3:=HX.out.cell 3;simp only [aG,aF,aR]at y0 y1 y2 y3;clear KG KB hC1;go_wp2_with fail;refine(vO w7 (w.heap.size+1) _ m _ ls _ c ⟨op,xa,xb,xl⟩ au xl.length KD HS.out LH.out K5.out (by omega) ME.out PT.out).mono ?_;rintro e P5 ⟨rfl,KG⟩;clear y0 y1 y2 y3;obtain⟨c',Mh⟩:∃c',c.plain m ls ⟨op,xa,xb,xl⟩=c':=⟨_,rfl⟩;rw [Mh]at KG Ky;clear Mh;have hold:=KG.old;have MX:=V (HB.out.trans (hold.below HB.out.size (fun i hi=>by omega)));have HS:=V KG;have c17:=KG.cell.2.2.2.2.2.2.2.1;obtain⟨bd,NX⟩:∃bd,c'.bad=bd:=⟨_,rfl⟩;rw [NX]at c17 Ky;clear KG hold NX;cases bd
    ·have OT:=V (Ky.out.2 rfl)
     clear Ky HX;go_wp2_with fail;refine HR.out _ _ ⟨_,i+1,rfl,OT.out,HS.out⟩ ?_;simp [intOf];omega
    ·have hF:=HF.out
     rw [Ky.out.1 rfl]at hF;have HF:=V hF;clear hF;go_wp2_with fail;go_ret;exact⟨by rw [HF.out];rfl,MX.out⟩
 ·have f6:decide ((0:Int) < (rs.length:Int))=true:=aA (by omega)
  have f7:decide (0 < rs.length)=true:=aA (by omega);have f9:0 < rs.length:=by omega
  have hr0:rs[0]?=some k0:=by
   rw [List.head?_eq_getElem?]at Po;rw [<- Po,aq f9];rfl
  obtain⟨_,_,hv,_,_,Kt⟩:=NG.out;injection hv with e1 e2 e3;subst e1;have HMB9:=KY;have HB9:=HB;obtain⟨br,offr,rfl,-,KV⟩:=Kt 0 k0 hr0;have y6:=KV 0 _ rfl;rw [aL]at y6;have KY:=HMB9;have HB:=HB9;clear e2 e3 Kt KV hr0 f8 q Po;go_wp2_with fail;refine(tf w7 (w.heap.size+1) _ m _ w7 _ 2 k0 HS.out (by simp)).mono ?_;rintro e w8 ⟨rfl,hs⟩;rw [<- HC0.out]at hs;have hold:=hs.old;have KY:=V (KY.out.keeps hold (by omega));have HS:=V hs;have y2:=KY.out.mod.2.2.2.2.2.2.2.2.2.2.2.2.1;have y5:=hs.ext'.1 _ _ (HEX.out.1 _ _ Y1.out);clear hs y3 hold;go_wp2_with fail;clear y2 y5;refine eB (fun a' w'=>∃(c:eI) (i:Nat),a'=fr (gs a' 0 2 (.pointer (some ⟨w.heap.size,0,none⟩)::gs a' 3 2 (.pointer (some ⟨w.heap.size+1,0,none⟩)::gs a' 6 85 (.slice ab code.body.length cb:: .int .i64 code.body.length:: .int .i64 i::gs a' 94 30 []))))/\JH m ls (qO ⟨ps,rs⟩) code.body c i/\gm w7 (w.heap.size+1) ⟨.slice a0 m.types.length c0, .slice a1 m.imports.length c1, .slice (some ⟨b,off,none⟩) m.funcs.length c2, .slice a3 m.globals.length c3, .slice a4 m.ea.length c4, .slice a5 m.elems.length c5, .slice (some ⟨bc,OY,none⟩) m.ej.length c6, .slice a7 m.eC.length c7⟩ m (.slice av ls.length cw) w' c) (fun a' _=>(code.body.length - (intOf (a'.tmps.getD 93 undef)).toNat)) ?_ ?_
  ·exact⟨_,0,rfl,OT.out,HS.out⟩
  ·skip
   rintro R a' w1 ⟨c,i,Kw,hJ⟩ HR;dsimp only [fr,gs]at Kw;generalize slot a'=f at Kw;subst Kw;obtain⟨hfn,hs⟩:=hJ;have OT:=V hfn;have HS:=V hs;obtain⟨hi1,KH,KF,MN,O8,-⟩:=hfn;have LH:=V KF;have hold:=hs.old;have MX:=V (HB.out.trans (hold.below HB.out.size (fun i hi=>by omega)));clear hold KF;by_cases q:i < code.body.length;rotate_left
   ·obtain rfl:i=code.body.length:=by omega
    rw [List.drop_length,eI.run]at KH;have HF:=V (show fQ m k=(!c.shut.2.bad&&decide (ls.length <=32))by rw [HF.out,KH]);clear KH hs;go_wp2_with fail;refine(uz w7 (w.heap.size+1) _ m _ w1 c HS.out LH.out).mono ?_;rintro e w10 ⟨rfl,KG,KB⟩;have MX:=V (MX.out.trans (KB.below MX.out.size (fun i hi=>by omega)));obtain⟨-,-,-,-,-,-,c14,c17,-⟩:=KG.cell;obtain⟨bd,NX⟩:∃bd,c.shut.2.bad=bd:=⟨_,rfl⟩;rw [NX]at c17 HF;clear KG KB NX;cases bd
    ·by_cases q32:ls.length <=32
     ·have g1:decide ((ls.length:Int) <=32)=true:=aA (by omega)
      have g2:decide (ls.length <=32)=true:=aA q32;rw [g2]at HF;clear q32;go_wp2_with fail;go_ret;exact⟨by rw [HF.out];rfl,MX.out⟩
     ·have g1:decide ((ls.length:Int) <=32)=false:=az (by omega)
      have g2:decide (ls.length <=32)=false:=az q32;rw [g2]at HF;clear q32;go_wp2_with fail;go_ret;exact⟨by rw [HF.out];rfl,MX.out⟩
    ·go_wp2_with fail
     go_ret;exact⟨by rw [HF.out];rfl,MX.out⟩
   obtain⟨x,hx⟩:∃x,code.body[i]?=some x:=⟨_,aq q⟩;obtain⟨Mg,OF⟩:=QX.out x (aO hx);have Ky:=V (xY HSM.out OT.out hx OF);obtain⟨bb,ob,un,rfl,-,hc,hu⟩:=ee.get HNB.out hx;obtain⟨⟨au,KD,rfl,-,-,-⟩,-⟩:=id hu;have y0:=hs.ext'.1 _ _ (hc 0 _ rfl);have y1:=hs.ext'.1 _ _ (hc 1 _ rfl);have y2:=hs.ext'.1 _ _ (hc 2 _ rfl);have y3:=hs.ext'.1 _ _ (hc 3 _ rfl);rw [aL]at y0;obtain⟨op,xa,xb,xl⟩:=x;have ME:=V Mg;have PT:=V OF;have HX:=V (eG.new w1 #[.int .i64 op, .int .i64 xa, .int .i64 xb, .slice au xl.length KD] 27);have hC1:w.heap.size+1 < w1.heap.size:=hs.lt.1;clear hc hu Mg OF hx KH hs OT;go_wp2_with fail;refine(sq w7 (w.heap.size+1) _ m _ ls _ c ⟨op,xa,xb,xl⟩ au xl.length KD (HS.out.alloc _) LH.out K5.out HSM.out (by omega) (by omega) ME.out PT.out).mono ?_;rintro e w10 (⟨c',Mh,rfl,KG⟩ | ⟨Mh,rfl,KG,KB⟩)
   ·have Nc:c.step m ls ⟨op,xa,xb,xl⟩=c':=by unfold eI.step;rw [Mh];rfl
    rw [Nc]at Ky;clear Mh Nc y0 y1 y2 y3 hC1;have hold:=KG.old;have MX:=V (HB.out.trans (hold.below HB.out.size (fun i hi=>by omega)));have HS:=V KG;have c17:=KG.cell.2.2.2.2.2.2.2.1;obtain⟨bd,NX⟩:∃bd,c'.bad=bd:=⟨_,rfl⟩;rw [NX]at c17 Ky;clear KG hold NX;cases bd
    ·have OT:=V (Ky.out.2 rfl)
     clear Ky HX;go_wp2_with fail;refine HR.out _ _ ⟨_,i+1,rfl,OT.out,HS.out⟩ ?_;simp [intOf];omega
    ·have hF:=HF.out
     rw [Ky.out.1 rfl]at hF;have HF:=V hF;clear hF;go_wp2_with fail;go_ret;exact⟨by rw [HF.out];rfl,MX.out⟩
   ·have Nc:c.step m ls ⟨op,xa,xb,xl⟩=c.plain m ls ⟨op,xa,xb,xl⟩:=by unfold eI.step;rw [Mh];rfl
    rw [Nc]at Ky;clear Mh Nc y0 y1 y2 y3;have HX:=V (HX.out.keeps KB (by omega));have HS:=V KG;have y0:=HX.out.cell 0;have y1:=HX.out.cell 1;have y2:=HX.out.cell 2;have y3:=HX.out.cell 3;simp only [aG,aF,aR]at y0 y1 y2 y3;clear KG KB hC1;go_wp2_with fail;refine(vO w7 (w.heap.size+1) _ m _ ls _ c ⟨op,xa,xb,xl⟩ au xl.length KD HS.out LH.out K5.out (by omega) ME.out PT.out).mono ?_;rintro e P5 ⟨rfl,KG⟩;clear y0 y1 y2 y3;obtain⟨c',Mh⟩:∃c',c.plain m ls ⟨op,xa,xb,xl⟩=c':=⟨_,rfl⟩;rw [Mh]at KG Ky;clear Mh;have hold:=KG.old;have MX:=V (HB.out.trans (hold.below HB.out.size (fun i hi=>by omega)));have HS:=V KG;have c17:=KG.cell.2.2.2.2.2.2.2.1;obtain⟨bd,NX⟩:∃bd,c'.bad=bd:=⟨_,rfl⟩;rw [NX]at c17 Ky;clear KG hold NX;cases bd
    ·have OT:=V (Ky.out.2 rfl)
     clear Ky HX;go_wp2_with fail;refine HR.out _ _ ⟨_,i+1,rfl,OT.out,HS.out⟩ ?_;simp [intOf];omega
    ·have hF:=HF.out
     rw [Ky.out.1 rfl]at hF;have HF:=V hF;clear hF;go_wp2_with fail;go_ret;exact⟨by rw [HF.out];rfl,MX.out⟩
theorem mH {m:ez} {j:Nat} (h:jr m j=false):∀n,j <=n ->jr m n=false
 | 0,hn=>by
  obtain rfl:j=0:=by omega
  exact h
 | n+1,hn=>by
  rcases bC n j with h1 | h1
  ·obtain rfl:j=n+1:=by omega
   exact h
  ·rw [jr,mH h n h1]
   rfl
theorem ez.may.short {m:ez} (h:m.may):m.short:=fun t ht=>by
 obtain⟨h1,h2,-⟩:=h.1.2.1.1.1.2 t ht;omega
theorem ez.may.ej {m:ez} (h:m.may) (he:∀c∈m.ej,∀x∈c.body,x.mi):∀c∈m.ej,c.locals.length <=100000/\∀x∈c.body,x.may/\x.mi:=fun c hc=>by
 obtain⟨-,⟨h1,-⟩,-,h2⟩:=h.1.1.2.2 c hc;exact⟨by omega,fun x hx=>⟨h2 x hx,he c hc x hx⟩⟩
def iY (m:ez) (w:World) (e:Ending) (w':World):Prop:=e= .returned (.tuple #[.int .i64 (iA m), .bool (decide (iA m= -1))])/\Below w.heap.size w w'
theorem iY.mk {m:ez} {n:Int} {b:Bool} {w w':World} {e:Ending} (hf:iA m=n) (hb:decide (n= -1)=b) (h:Below w.heap.size w w') (he:e= .returned (.tuple #[.int .i64 n, .bool b])):iY m w e w':=⟨by rw [he,hf,hb],h⟩
theorem eg.take {α:Type} {k:Nat} {enc:α ->List Value} {w:World} {a:Option Addr} {n cap:Nat} {l:List α} (h:eg k enc w (.slice a n cap) l) (i:Nat) (hi:i <=l.length):eg k enc w (.slice a i cap) (l.take i):=by
 obtain⟨a',KR,hv,h1,h2,h3⟩:=h;injection hv with e1 e2 e3;subst e1 e3;refine⟨a,cap,by rw [aS,cH hi],by rw [aS];omega,h2,fun j x hx=>h3 j x ?_⟩;rw [cT]at hx;split at hx
 ·exact hx
 ·cases hx
theorem uZ (a:Option Addr) (len cap k:Nat) (h:k <=cap) (wx:World):
  (Instr.slice 57 (.slice a len cap) none (some (.int .i64 k)) none).run prog wx= .ok (.slice a k cap) wx:=by
 have hu:prog.underlying 57=some (.slice 111):=by kernel_rfl
 obtain⟨i0,hi,M5,LR,Mz⟩:=bX yW;simp [Instr.slice,bp hu,Instr.sliceBounds,Instr.sliceBound,sizeOf,typeInfo,hi,asIntOf,h];cases a <;>simp [Addr.add]
theorem pr (m:ez) (u:eD) (w:World) (hm:ep w u m) (hs:m.words) (hn:m.imports.length+m.funcs.length <=1000000) (he:∀c∈m.ej,∀x∈c.body,x.mi):Calls prog 26 #[.agg (u.cells m)] w (iY m w):=by
 have HI:=V hm;have HWD:=V hs;have HE:=V he;obtain⟨a0,c0,a1,c1,a2,c2,a3,c3,a4,c4,a5,c5,a6,c6,a7,c7,rfl⟩:=ep.open hm;simp only [eD.cells];have hxl:m.ea.length <=9223372036854775807:=by
  obtain⟨_,_,_,h1,h2⟩:=eW hm.2.2.2.2.1;omega
 have hxc:m.ea.length <=c4:=by
  obtain⟨_,_,e,h1,h2⟩:=eW hm.2.2.2.2.1;injection e with e1 e2 e3;omega
 have Ls:m.ej.length <=9223372036854775807:=by
  obtain⟨_,_,_,h1,h2⟩:=ee.slice hm.2.2.2.2.2.2.1;omega
 clear hm hs he;have HX0:=eG.new w #[.slice a0 m.types.length c0, .slice a1 m.imports.length c1, .slice a2 m.funcs.length c2, .bool m.table.has, .int .i64 m.table.min, .int .i64 m.table.max, .bool m.mem.has, .int .i64 m.mem.min, .int .i64 m.mem.max, .slice a3 m.globals.length c3, .slice a4 m.ea.length c4, .slice a5 m.elems.length c5, .slice a6 m.ej.length c6, .slice a7 m.eC.length c7] 62;have KW:=(an w.heap.size w).alloc (ag _) (.cells #[.slice a0 m.types.length c0, .slice a1 m.imports.length c1, .slice a2 m.funcs.length c2, .bool m.table.has, .int .i64 m.table.min, .int .i64 m.table.max, .bool m.mem.has, .int .i64 m.mem.min, .int .i64 m.mem.max, .slice a3 m.globals.length c3, .slice a4 m.ea.length c4, .slice a5 m.elems.length c5, .slice a6 m.ej.length c6, .slice a7 m.eC.length c7] 62);have KJ:=KW.alloc (by rw [aE];omega) (.cells #[.func (.func 56) #[] #[.pointer (some ⟨w.heap.size,0,none⟩)]] 122);have HS:=V (KJ.alloc (by rw [aE,aE];omega) (.cells #[.func (.func 57) #[] #[.pointer (some ⟨w.heap.size,0,none⟩)]] 122));have HX:=V ((HX0.alloc (.cells #[.func (.func 56) #[] #[.pointer (some ⟨w.heap.size,0,none⟩)]] 122)).alloc (.cells #[.func (.func 57) #[] #[.pointer (some ⟨w.heap.size,0,none⟩)]] 122));have h4:=(eG.new (w.alloc (.cells #[.slice a0 m.types.length c0, .slice a1 m.imports.length c1, .slice a2 m.funcs.length c2, .bool m.table.has, .int .i64 m.table.min, .int .i64 m.table.max, .bool m.mem.has, .int .i64 m.mem.min, .int .i64 m.mem.max, .slice a3 m.globals.length c3, .slice a4 m.ea.length c4, .slice a5 m.elems.length c5, .slice a6 m.ej.length c6, .slice a7 m.eC.length c7] 62)) #[.func (.func 56) #[] #[.pointer (some ⟨w.heap.size,0,none⟩)]] 122).alloc (.cells #[.func (.func 57) #[] #[.pointer (some ⟨w.heap.size,0,none⟩)]] 122);have h5:=eG.new ((w.alloc (.cells #[.slice a0 m.types.length c0, .slice a1 m.imports.length c1, .slice a2 m.funcs.length c2, .bool m.table.has, .int .i64 m.table.min, .int .i64 m.table.max, .bool m.mem.has, .int .i64 m.mem.min, .int .i64 m.mem.max, .slice a3 m.globals.length c3, .slice a4 m.ea.length c4, .slice a5 m.elems.length c5, .slice a6 m.ej.length c6, .slice a7 m.eC.length c7] 62)).alloc (.cells #[.func (.func 56) #[] #[.pointer (some ⟨w.heap.size,0,none⟩)]] 122)) #[.func (.func 57) #[] #[.pointer (some ⟨w.heap.size,0,none⟩)]] 122;simp only [aE]at h4 h5;have H4:=V (show World.cell? _ ⟨w.heap.size+1,0,none⟩=some (.func (.func 56) #[] #[.pointer (some ⟨w.heap.size,0,none⟩)])from h4.cell 0);have H5:=V (show World.cell? _ ⟨w.heap.size+2,0,none⟩=some (.func (.func 57) #[] #[.pointer (some ⟨w.heap.size,0,none⟩)])from h5.cell 0);clear KW KJ h4 h5 HX0;have HF:=V (iA.eq_1 m);go_enter func26,ntmps26;go_wp2_with fail;obtain⟨wB,hwB⟩:∃wB,wB=(((w.alloc (.cells #[.slice a0 m.types.length c0, .slice a1 m.imports.length c1, .slice a2 m.funcs.length c2, .bool m.table.has, .int .i64 m.table.min, .int .i64 m.table.max, .bool m.mem.has, .int .i64 m.mem.min, .int .i64 m.mem.max, .slice a3 m.globals.length c3, .slice a4 m.ea.length c4, .slice a5 m.elems.length c5, .slice a6 m.ej.length c6, .slice a7 m.eC.length c7] 62)).alloc (.cells #[.func (.func 56) #[] #[.pointer (some ⟨w.heap.size,0,none⟩)]] 122)).alloc (.cells #[.func (.func 57) #[] #[.pointer (some ⟨w.heap.size,0,none⟩)]] 122)):=⟨_,rfl⟩;rw [<- hwB]at HS HX H4 H5⊢;clear hwB;refine eB (fun a' w'=>∃(tw:Bool) (i:Nat),a'=fr (gs a' 0 1 (.pointer (some ⟨w.heap.size,0,none⟩)::gs a' 2 2 (.pointer (some ⟨w.heap.size+1,0,none⟩):: .pointer (some ⟨w.heap.size+2,0,none⟩):: .bool tw::gs a' 7 6 (.slice a4 m.ea.length c4:: .int .i64 m.ea.length:: .int .i64 i::gs a' 16 80 []))))/\i <=m.ea.length/\tw=me m [] (m.ea.take i)/\Below wB.heap.size wB w') (fun a' _=>(m.ea.length - (intOf (a'.tmps.getD 15 undef)).toNat)) ?_ ?_
 ·exact⟨false,0,rfl,bK _,rfl,an _ _⟩
 ·skip
  rintro R a' w1 ⟨tw,i,Kw,hJ⟩ HR;dsimp only [fr,gs]at Kw;generalize slot a'=f at Kw;subst Kw;obtain⟨hi,htw,hb⟩:=hJ;replace HX:=V (HX.out.below hb HX.out.lt);replace HS:=V (HS.out.trans (hb.mono HS.out.size));replace H4:=V ((Ext.dW hb).1 _ _ H4.out);replace H5:=V ((Ext.dW hb).1 _ _ H5.out);have KL:=V hb;have HTW:=V htw;clear hb htw;by_cases q:i < m.ea.length;rotate_left
  ·obtain rfl:i=m.ea.length:=by omega
   replace HTW:=V (show tw=xx m by rw [HTW.out,aU];rfl);clear q hi;obtain⟨g0,g1,g2,g3,g4,g5,g6,g7,g8,g9,Ld,Le,Lf,Lg⟩:=HX.out.mod;go_wp2_with fail;refine(sS m ⟨.slice a0 m.types.length c0, .slice a1 m.imports.length c1, .slice a2 m.funcs.length c2, .slice a3 m.globals.length c3, .slice a4 m.ea.length c4, .slice a5 m.elems.length c5, .slice a6 m.ej.length c6, .slice a7 m.eC.length c7⟩ w1 (ep.below HI.out HS.out) HWD.out).mono ?_;rintro x w2 ⟨rfl,hb⟩;replace HX:=V (HX.out.below hb HX.out.lt);replace HS:=V (HS.out.trans (hb.mono HS.out.size));replace H4:=V ((Ext.dW hb).1 _ _ H4.out);replace H5:=V ((Ext.dW hb).1 _ _ H5.out);clear hb;clear g0 g1 g2 g3 g4 g5 g6 g7 g8 g9 Ld Le Lf Lg;obtain⟨g0,g1,g2,g3,g4,g5,g6,g7,g8,g9,Ld,Le,Lf,Lg⟩:=HX.out.mod;by_cases q:m.may;rotate_left
   ·have f1:decide m.may=false:=az q
    replace HF:=V (HF.out.trans (aJ f1));rw [f1];clear q;go_wp2_with fail
    go_ret2
    exact iY.mk HF.out (by decide) HS.out rfl
   have ME:=V q;have f1:decide m.may=true:=aA q;replace HF:=V (HF.out.trans (aC (by rw [f1];simp)));rw [f1];clear q f1;go_wp2_with fail;refine(zu (fun x=>lD m x.type) _ m.imports _ (HI.out.2.1.ext (Ext.dW HS.out)) 62 #[.pointer (some ⟨w.heap.size+1,0,none⟩)] (fun _ _=>by rfl) (fun e _ w' hb=>yy m w.heap.size (w.heap.size+1) e w' a0 c0 ((Ext.dW hb).1 _ _ HX.out.mod.1) ((Ext.dW hb).1 _ _ H4.out))).mono ?_;rintro x w3 ⟨rfl,hb⟩;replace HX:=V (HX.out.below hb HX.out.lt);replace HS:=V (HS.out.trans (hb.mono HS.out.size));replace H4:=V ((Ext.dW hb).1 _ _ H4.out);replace H5:=V ((Ext.dW hb).1 _ _ H5.out);clear hb;clear g0 g1 g2 g3 g4 g5 g6 g7 g8 g9 Ld Le Lf Lg;obtain⟨g0,g1,g2,g3,g4,g5,g6,g7,g8,g9,Ld,Le,Lf,Lg⟩:=HX.out.mod;obtain⟨r,hr⟩:∃r,(m.imports.any fun x=>lD m x.type)=r:=⟨_,rfl⟩;rw [hr];cases r;rotate_left
   ·replace HF:=V (HF.out.trans (aJ hr))
    clear hr;go_wp2_with fail
    go_ret2
    exact iY.mk HF.out (by decide) HS.out rfl
   replace HF:=V (HF.out.trans (aC (fun h=>absurd (hr.symm.trans h) (by decide))));clear hr;have h4:=H4.out;go_wp2_with fail;clear h4;refine(qq (fun t=>lD m t) _ m.funcs _ (HI.out.2.2.1.ext (Ext.dW HS.out)) 56 #[.pointer (some ⟨w.heap.size,0,none⟩)] (fun _ _=>by rfl) (fun e _ w' hb=>tD m w.heap.size a0 c0 e w' ((Ext.dW hb).1 _ _ HX.out.mod.1))).mono ?_;rintro x w4 ⟨rfl,hb⟩;replace HX:=V (HX.out.below hb HX.out.lt);replace HS:=V (HS.out.trans (hb.mono HS.out.size));replace H4:=V ((Ext.dW hb).1 _ _ H4.out);replace H5:=V ((Ext.dW hb).1 _ _ H5.out);clear hb;clear g0 g1 g2 g3 g4 g5 g6 g7 g8 g9 Ld Le Lf Lg;obtain⟨g0,g1,g2,g3,g4,g5,g6,g7,g8,g9,Ld,Le,Lf,Lg⟩:=HX.out.mod;obtain⟨r,hr⟩:∃r,(m.funcs.any fun t=>lD m t)=r:=⟨_,rfl⟩;rw [hr];cases r;rotate_left
   ·replace HF:=V (HF.out.trans (aJ hr))
    clear hr;go_wp2_with fail
    go_ret2
    exact iY.mk HF.out (by decide) HS.out rfl
   replace HF:=V (HF.out.trans (aC (fun h=>absurd (hr.symm.trans h) (by decide))));clear hr;go_wp2_with fail;refine(tU m.table _).mono ?_;rintro x w5 ⟨rfl,hb⟩;replace HX:=V (HX.out.below hb HX.out.lt);replace HS:=V (HS.out.trans (hb.mono HS.out.size));replace H4:=V ((Ext.dW hb).1 _ _ H4.out);replace H5:=V ((Ext.dW hb).1 _ _ H5.out);clear hb;clear g0 g1 g2 g3 g4 g5 g6 g7 g8 g9 Ld Le Lf Lg;obtain⟨g0,g1,g2,g3,g4,g5,g6,g7,g8,g9,Ld,Le,Lf,Lg⟩:=HX.out.mod;obtain⟨r,hr⟩:∃r,kK m.table=r:=⟨_,rfl⟩;rw [hr];cases r;rotate_left
   ·replace HF:=V (HF.out.trans (aJ hr))
    clear hr;go_wp2_with fail
    go_ret2
    exact iY.mk HF.out (by decide) HS.out rfl
   replace HF:=V (HF.out.trans (aC (fun h=>absurd (hr.symm.trans h) (by decide))));clear hr;go_wp2_with fail;refine(tU m.mem _).mono ?_;rintro x w6 ⟨rfl,hb⟩;replace HX:=V (HX.out.below hb HX.out.lt);replace HS:=V (HS.out.trans (hb.mono HS.out.size));replace H4:=V ((Ext.dW hb).1 _ _ H4.out);replace H5:=V ((Ext.dW hb).1 _ _ H5.out);clear hb;clear g0 g1 g2 g3 g4 g5 g6 g7 g8 g9 Ld Le Lf Lg;obtain⟨g0,g1,g2,g3,g4,g5,g6,g7,g8,g9,Ld,Le,Lf,Lg⟩:=HX.out.mod;obtain⟨r,hr⟩:∃r,kK m.mem=r:=⟨_,rfl⟩;rw [hr];cases r;rotate_left
   ·replace HF:=V (HF.out.trans (aJ hr))
    clear hr;go_wp2_with fail
    go_ret2
    exact iY.mk HF.out (by decide) HS.out rfl
   replace HF:=V (HF.out.trans (aC (fun h=>absurd (hr.symm.trans h) (by decide))));clear hr;rw [HTW.out];obtain⟨r,hr⟩:∃r,xx m=r:=⟨_,rfl⟩;rw [hr];cases r;rotate_left
   ·replace HF:=V (HF.out.trans (aJ hr))
    clear hr;go_wp2_with fail
    go_ret2
    exact iY.mk HF.out (by decide) HS.out rfl
   replace HF:=V (HF.out.trans (aC (fun h=>absurd (hr.symm.trans h) (by decide))));clear hr;by_cases qe:m.elems.length≠0/\m.table.has=false
   ·replace HF:=V (HF.out.trans (aJ qe))
    have f1:decide ((0:Int) < (m.elems.length:Int))=true:=aA (by have:=qe.1;omega);have f2:decide (0 < m.elems.length)=true:=aA (by have:=qe.1;omega);rw [qe.2]at g3;clear qe;go_wp2_with fail
    go_ret2
    exact iY.mk HF.out (by decide) HS.out rfl
   replace HF:=V (HF.out.trans (aC qe));by_cases q0:m.elems.length=0
   ·have f1:decide ((0:Int) < (m.elems.length:Int))=false:=az (by omega)
    have f2:decide (0 < m.elems.length)=false:=az (by omega);clear qe q0;go_wp2_with fail;clear f1 f2;refine(uH (fun x=>x.funcs.any fun f=>lH m f) _ m.elems _ (HI.out.2.2.2.2.2.1.ext (Ext.dW HS.out) (fun _ _ h=>h.ext (Ext.dW HS.out))) 66 #[.pointer (some ⟨w.heap.size+2,0,none⟩)] (fun _ _=>by rfl) (fun e _ u w' hb hu=>pR m w.heap.size (w.heap.size+2) e u w' a1 a2 c1 c2 ((Ext.dW hb).1 _ _ HX.out.mod.2.1) ((Ext.dW hb).1 _ _ HX.out.mod.2.2.1) hn ((Ext.dW hb).1 _ _ H5.out) hu)).mono ?_;rintro x w7 ⟨rfl,hb⟩;replace HX:=V (HX.out.below hb HX.out.lt);replace HS:=V (HS.out.trans (hb.mono HS.out.size));replace H4:=V ((Ext.dW hb).1 _ _ H4.out);replace H5:=V ((Ext.dW hb).1 _ _ H5.out);clear hb;clear g0 g1 g2 g4 g5 g6 g7 g8 g9 Ld Le Lf Lg;obtain⟨g0,g1,g2,g3',g4,g5,g6,g7,g8,g9,Ld,Le,Lf,Lg⟩:=HX.out.mod;clear g3;have g3:=g3';clear g3';obtain⟨r,hr⟩:∃r,(m.elems.any fun x=>x.funcs.any fun f=>lH m f)=r:=⟨_,rfl⟩;rw [hr];cases r;rotate_left
    ·replace HF:=V (HF.out.trans (aJ hr))
     clear hr;go_wp2_with fail
     go_ret2
     exact iY.mk HF.out (by decide) HS.out rfl
    replace HF:=V (HF.out.trans (aC (fun h=>absurd (hr.symm.trans h) (by decide))));clear hr;go_wp2_with fail;clear g0 g1 g2 g3 g4 g5 g6 g7 g8 g9 Ld Le Lf Lg;refine eB (fun a' w'=>∃(i:Nat),a'=fr (gs a' 0 1 (.pointer (some ⟨w.heap.size,0,none⟩)::gs a' 2 75 (.int .i64 m.ej.length:: .int .i64 i::gs a' 79 17 [])))/\i <=m.ej.length/\jr m i=true/\Below w7.heap.size w7 w') (fun a' _=>(m.ej.length - (intOf (a'.tmps.getD 78 undef)).toNat)) ?_ ?_
    ·exact⟨0,rfl,bK _,rfl,an _ _⟩
    ·skip
     rintro R a' w8 ⟨i,Kw,hJ⟩ HR;dsimp only [fr,gs]at Kw;generalize slot a'=f at Kw;subst Kw;obtain⟨hi,Pq,hb⟩:=hJ;replace HX:=V (HX.out.below hb HX.out.lt);replace HS:=V (HS.out.trans (hb.mono HS.out.size));replace H4:=V ((Ext.dW hb).1 _ _ H4.out);replace H5:=V ((Ext.dW hb).1 _ _ H5.out);have KL:=V hb;have HCF:=V Pq;clear hb Pq;obtain⟨g0,g1,g2,g3,g4,g5,g6,g7,g8,g9,Ld,Le,Lf,Lg⟩:=HX.out.mod;by_cases q:i < m.ej.length
     ·go_wp2_with fail
      refine(nN m ⟨.slice a0 m.types.length c0, .slice a1 m.imports.length c1, .slice a2 m.funcs.length c2, .slice a3 m.globals.length c3, .slice a4 m.ea.length c4, .slice a5 m.elems.length c5, .slice a6 m.ej.length c6, .slice a7 m.eC.length c7⟩ i w8 (ep.below HI.out HS.out) ME.out.short (ME.out.ej HE.out)).mono ?_;rintro x w9 ⟨rfl,hb⟩;replace HX:=V (HX.out.below hb HX.out.lt);replace HS:=V (HS.out.trans (hb.mono HS.out.size));replace H4:=V ((Ext.dW hb).1 _ _ H4.out);replace H5:=V ((Ext.dW hb).1 _ _ H5.out);replace KL:=V (KL.out.trans (hb.mono KL.out.size));clear hb g0 g1 g2 g3 g4 g5 g6 g7 g8 g9 Ld Le Lf Lg;obtain⟨r,hr⟩:∃r,fQ m i=r:=⟨_,rfl⟩;rw [hr];have HCN:=V (show jr m (i+1)=r by rw [jr,HCF.out,hr];rfl);clear hr;cases r
      ·replace HF:=V (HF.out.trans (aJ (mH HCN.out _ (by omega))))
       go_wp2_with fail
       go_ret2
       exact iY.mk HF.out (by decide) HS.out rfl
      ·go_wp2_with fail
       refine HR.out _ _ ⟨i+1,rfl,by omega,HCN.out,KL.out⟩ ?_;simp [intOf];omega
     ·obtain rfl:i=m.ej.length:=by omega
      replace HF:=V (HF.out.trans (aC (by rw [HCF.out];simp)));clear q hi HCF;by_cases qe:m.eC.length≠0/\m.mem.has=false
      ·replace HF:=V (HF.out.trans (aJ qe))
       have f1:decide ((0:Int) < (m.eC.length:Int))=true:=aA (by have:=qe.1;omega);have f2:decide (0 < m.eC.length)=true:=aA (by have:=qe.1;omega);rw [qe.2]at g6;clear qe;go_wp2_with fail
       go_ret2
       exact iY.mk HF.out (by decide) HS.out rfl
      replace HF:=V (HF.out.trans (aC qe));by_cases q0:m.eC.length=0
      ·have f1:decide ((0:Int) < (m.eC.length:Int))=false:=az (by omega)
       have f2:decide (0 < m.eC.length)=false:=az (by omega);clear qe q0;go_wp2_with fail
       go_ret2
       exact iY.mk HF.out (by decide) HS.out rfl
      ·have f1:decide ((0:Int) < (m.eC.length:Int))=true:=aA (by omega)
       have f2:decide (0 < m.eC.length)=true:=aA (by omega);have f3:m.mem.has=true:=by
        cases hh:m.mem.has with
        | true=>rfl
        | false=>exact absurd ⟨q0,hh⟩ qe
       rw [f3]at g6;clear qe q0 f3;go_wp2_with fail
       go_ret2
       exact iY.mk HF.out (by decide) HS.out rfl
   ·have f1:decide ((0:Int) < (m.elems.length:Int))=true:=aA (by omega)
    have f2:decide (0 < m.elems.length)=true:=aA (by omega);have f3:m.table.has=true:=by
     cases hh:m.table.has with
     | true=>rfl
     | false=>exact absurd ⟨q0,hh⟩ qe
    rw [f3]at g3;clear qe q0 f3;go_wp2_with fail;clear f1 f2;refine(uH (fun x=>x.funcs.any fun f=>lH m f) _ m.elems _ (HI.out.2.2.2.2.2.1.ext (Ext.dW HS.out) (fun _ _ h=>h.ext (Ext.dW HS.out))) 66 #[.pointer (some ⟨w.heap.size+2,0,none⟩)] (fun _ _=>by rfl) (fun e _ u w' hb hu=>pR m w.heap.size (w.heap.size+2) e u w' a1 a2 c1 c2 ((Ext.dW hb).1 _ _ HX.out.mod.2.1) ((Ext.dW hb).1 _ _ HX.out.mod.2.2.1) hn ((Ext.dW hb).1 _ _ H5.out) hu)).mono ?_;rintro x w7 ⟨rfl,hb⟩;replace HX:=V (HX.out.below hb HX.out.lt);replace HS:=V (HS.out.trans (hb.mono HS.out.size));replace H4:=V ((Ext.dW hb).1 _ _ H4.out);replace H5:=V ((Ext.dW hb).1 _ _ H5.out);clear hb;clear g0 g1 g2 g4 g5 g6 g7 g8 g9 Ld Le Lf Lg;obtain⟨g0,g1,g2,g3',g4,g5,g6,g7,g8,g9,Ld,Le,Lf,Lg⟩:=HX.out.mod;clear g3;have g3:=g3';clear g3';obtain⟨r,hr⟩:∃r,(m.elems.any fun x=>x.funcs.any fun f=>lH m f)=r:=⟨_,rfl⟩;rw [hr];cases r;rotate_left
    ·replace HF:=V (HF.out.trans (aJ hr))
     clear hr;go_wp2_with fail
     go_ret2
     exact iY.mk HF.out (by decide) HS.out rfl
    replace HF:=V (HF.out.trans (aC (fun h=>absurd (hr.symm.trans h) (by decide))));clear hr;go_wp2_with fail;clear g0 g1 g2 g3 g4 g5 g6 g7 g8 g9 Ld Le Lf Lg;refine eB (fun a' w'=>∃(i:Nat),a'=fr (gs a' 0 1 (.pointer (some ⟨w.heap.size,0,none⟩)::gs a' 2 75 (.int .i64 m.ej.length:: .int .i64 i::gs a' 79 17 [])))/\i <=m.ej.length/\jr m i=true/\Below w7.heap.size w7 w') (fun a' _=>(m.ej.length - (intOf (a'.tmps.getD 78 undef)).toNat)) ?_ ?_
    ·exact⟨0,rfl,bK _,rfl,an _ _⟩
    ·skip
     rintro R a' w8 ⟨i,Kw,hJ⟩ HR;dsimp only [fr,gs]at Kw;generalize slot a'=f at Kw;subst Kw;obtain⟨hi,Pq,hb⟩:=hJ;replace HX:=V (HX.out.below hb HX.out.lt);replace HS:=V (HS.out.trans (hb.mono HS.out.size));replace H4:=V ((Ext.dW hb).1 _ _ H4.out);replace H5:=V ((Ext.dW hb).1 _ _ H5.out);have KL:=V hb;have HCF:=V Pq;clear hb Pq;obtain⟨g0,g1,g2,g3,g4,g5,g6,g7,g8,g9,Ld,Le,Lf,Lg⟩:=HX.out.mod;by_cases q:i < m.ej.length
     ·go_wp2_with fail
      refine(nN m ⟨.slice a0 m.types.length c0, .slice a1 m.imports.length c1, .slice a2 m.funcs.length c2, .slice a3 m.globals.length c3, .slice a4 m.ea.length c4, .slice a5 m.elems.length c5, .slice a6 m.ej.length c6, .slice a7 m.eC.length c7⟩ i w8 (ep.below HI.out HS.out) ME.out.short (ME.out.ej HE.out)).mono ?_;rintro x w9 ⟨rfl,hb⟩;replace HX:=V (HX.out.below hb HX.out.lt);replace HS:=V (HS.out.trans (hb.mono HS.out.size));replace H4:=V ((Ext.dW hb).1 _ _ H4.out);replace H5:=V ((Ext.dW hb).1 _ _ H5.out);replace KL:=V (KL.out.trans (hb.mono KL.out.size));clear hb g0 g1 g2 g3 g4 g5 g6 g7 g8 g9 Ld Le Lf Lg;obtain⟨r,hr⟩:∃r,fQ m i=r:=⟨_,rfl⟩;rw [hr];have HCN:=V (show jr m (i+1)=r by rw [jr,HCF.out,hr];rfl);clear hr;cases r
      ·replace HF:=V (HF.out.trans (aJ (mH HCN.out _ (by omega))))
       go_wp2_with fail
       go_ret2
       exact iY.mk HF.out (by decide) HS.out rfl
      ·go_wp2_with fail
       refine HR.out _ _ ⟨i+1,rfl,by omega,HCN.out,KL.out⟩ ?_;simp [intOf];omega
     ·obtain rfl:i=m.ej.length:=by omega
      replace HF:=V (HF.out.trans (aC (by rw [HCF.out];simp)));clear q hi HCF;by_cases qe:m.eC.length≠0/\m.mem.has=false
      ·replace HF:=V (HF.out.trans (aJ qe))
       have f1:decide ((0:Int) < (m.eC.length:Int))=true:=aA (by have:=qe.1;omega);have f2:decide (0 < m.eC.length)=true:=aA (by have:=qe.1;omega);rw [qe.2]at g6;clear qe;go_wp2_with fail
       go_ret2
       exact iY.mk HF.out (by decide) HS.out rfl
      replace HF:=V (HF.out.trans (aC qe));by_cases q0:m.eC.length=0
      ·have f1:decide ((0:Int) < (m.eC.length:Int))=false:=az (by omega)
       have f2:decide (0 < m.eC.length)=false:=az (by omega);clear qe q0;go_wp2_with fail
       go_ret2
       exact iY.mk HF.out (by decide) HS.out rfl
      ·have f1:decide ((0:Int) < (m.eC.length:Int))=true:=aA (by omega)
       have f2:decide (0 < m.eC.length)=true:=aA (by omega);have f3:m.mem.has=true:=by
        cases hh:m.mem.has with
        | true=>rfl
        | false=>exact absurd ⟨q0,hh⟩ qe
       rw [f3]at g6;clear qe q0 f3;go_wp2_with fail
       go_ret2
       exact iY.mk HF.out (by decide) HS.out rfl
  obtain⟨x,hx⟩:∃x,m.ea[i]?=some x:=⟨_,aq q⟩;have HTN:=V (show me m [] (m.ea.take (i+1))=(tw || xc m (m.ea.take i) x)by
   rw [aQ,hx,HTW.out];exact qF m x _ _)
  obtain⟨_,_,hv,_,_,Kt⟩:=HI.out.2.2.2.2.1.ext (Ext.dW HS.out);injection hv with e1 e2 e3;subst e1;obtain⟨b,off,rfl,-,KV⟩:=Kt i x hx;have y0:=KV 0 _ rfl;have y1:=KV 1 _ rfl;rw [aL]at y0;clear e2 e3 Kt KV hx;obtain⟨xn,xf⟩:=x;have HXB:=V (eG.new w1 #[.string xn, .int .i64 xf] 111);have KJ:=(an w1.heap.size w1).alloc (ag _) (.cells #[.string xn, .int .i64 xf] 111);cases tw
  ·have h5:=(Ext.dW KJ).1 _ _ H5.out
   have hb:=KJ;replace HX:=V (HX.out.below hb HX.out.lt);replace HS:=V (HS.out.trans (hb.mono HS.out.size));replace H4:=V ((Ext.dW hb).1 _ _ H4.out);replace H5:=V ((Ext.dW hb).1 _ _ H5.out);replace KL:=V (KL.out.trans (hb.mono KL.out.size));clear hb KJ;go_wp2_with fail;refine(tu m w.heap.size a1 a2 c1 c2 xf _ HX.out.mod.2.1 HX.out.mod.2.2.1 hn).mono ?_;rintro e w2 ⟨rfl,hb⟩;replace HX:=V (HX.out.below hb HX.out.lt);replace HS:=V (HS.out.trans (hb.mono HS.out.size));replace H4:=V ((Ext.dW hb).1 _ _ H4.out);replace H5:=V ((Ext.dW hb).1 _ _ H5.out);replace KL:=V (KL.out.trans (hb.mono KL.out.size));replace HXB:=V (HXB.out.below hb HXB.out.lt);clear hb h5 y0 y1;obtain⟨r,hr⟩:∃r,lH m xf=r:=⟨_,rfl⟩;rw [hr];replace HTN:=V (show me m [] (m.ea.take (i+1))=(r || (m.ea.take i).any fun y=>xn.toList==y.name.toList)by rw [HTN.out, <- hr];rfl);clear hr;cases r
   ·have Ld:=HX.out.mod.2.2.2.2.2.2.2.2.2.2.1
    have LZ:=uZ (some ⟨b,off,none⟩) m.ea.length c4 i (by omega);go_wp2_with fail;refine(yi (fun y=>xn.toList==y.name.toList) _ (m.ea.take i) _ (eg.take (HI.out.2.2.2.2.1.ext (Ext.dW HS.out)) i hi) 59 #[.pointer (some ⟨w1.heap.size,0,none⟩)] (fun _ _=>by rfl) (fun e _ w' hb=>xg ⟨xn,xf⟩ e w1.heap.size w' ((Ext.dW hb).1 _ _ (HXB.out.cell 0)))).mono ?_;rintro e w3 ⟨rfl,hb⟩;replace KL:=V (KL.out.trans (hb.mono KL.out.size));clear hb Ld LZ;obtain⟨r,hr⟩:∃r,((m.ea.take i).any fun y=>xn.toList==y.name.toList)=r:=⟨_,rfl⟩;rw [hr]at HTN⊢;clear hr;go_wp2_with fail;refine HR.out _ _ ⟨r,i+1,rfl,by omega,HTN.out.symm,KL.out⟩ ?_;simp [intOf];omega
   ·go_wp2_with fail
    refine HR.out _ _ ⟨true,i+1,rfl,by omega,HTN.out.symm,KL.out⟩ ?_;simp [intOf];omega
  ·replace KL:=V (KL.out.trans (KJ.mono KL.out.size))
   clear KJ;go_wp2_with fail;refine HR.out _ _ ⟨true,i+1,rfl,by omega,HTN.out.symm,KL.out⟩ ?_;simp [intOf];omega
end Go.Proofs.YthbjdhjppbcneaaGreatDoor
