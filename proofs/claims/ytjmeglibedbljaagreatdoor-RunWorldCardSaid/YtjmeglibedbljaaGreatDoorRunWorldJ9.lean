import Derived.Test.YtjmeglibedbljaaGreatDoorRunWorldJ8
import Derived.Lib.Mul64
import Derived.Laws.Bits64b
import Derived.Laws.CopyOwn
namespace Go.Proofs.YtjmeglibedbljaaGreatDoor
set_option maxRecDepth 100000
set_option maxHeartbeats 20000000
open Go.RowKit Tryz
open Lib renaming hid->V
set_option linter.all false
def Kw (b:Bool):jt gl:=if b=true then ly else gw
theorem EJ (b:Bool):jL (Kw b):=by cases b <;>first | exact pM | exact uX
theorem Mf (w0 w:World) (R Rb Bb:Nat) (before:Bool) (s:gV) (h:fZ w0 w R s) (hr:eS w Rb #[.pointer (some ⟨R,0,none⟩)] 193) (hb:eS w Bb #[.bool before] 4) (n1:R < Rb) (n2:R < Bb):
  Calls prog 286 (#[]++#[.pointer (some ⟨Bb,0,none⟩), .pointer (some ⟨Rb,0,none⟩)]) w (Lo (fun x:gl=> .agg #[.bool x.has, .int .i64 x.min, .int .i64 x.max]) w0 R (Kw before) gl.ok s w):=by
 have P3:=h.lt;have Rr:=h.old.2;have l1:=hr.lt;have l2:=hb.lt;have HH:=V (h.alloc (.cells #[.bool false, .int .i64 0, .int .i64 0] 28));have HX:=V (eS.new w #[.bool false, .int .i64 0, .int .i64 0] 28);have HK:=V ((ep.refl (fun k=>k=R) w).alloc (.cells #[.bool false, .int .i64 0, .int .i64 0] 28));have HA:=V (hr.alloc (.cells #[.bool false, .int .i64 0, .int .i64 0] 28));have HC:=V (hb.alloc (.cells #[.bool false, .int .i64 0, .int .i64 0] 28));have a0:=HA.out.cell 0;have c0:=HC.out.cell 0;simp only [aM,aK]at a0 c0;clear h hr hb;cases before with
 | true=>
  go_enter func286,ntmps286;go_wp2_with fail;refine(jn w0 _ R s HH.out).mono ?_;rintro e w1 ⟨rfl,hh,hk⟩;have HH:=V hh;have HX:=V (HX.out.keeps hk (by omega));have HA:=V (HA.out.keeps hk (by omega));have HC:=V (HC.out.keeps hk (by omega));have HK:=V (HK.out.trans hk (fun _ h=> .inl h));clear hh hk;clear a0 c0;have a0:=HA.out.cell 0;simp only [aM,aK]at a0;go_wp2_with fail;refine(uN w0 w1 R _ HH.out).mono ?_;rintro e w2 ⟨x,rfl,Nt,hw,hh,hk⟩;have Oj:=V Nt;have HW:=V hw;clear Nt hw;have HH:=V hh;have HX:=V (HX.out.keeps hk (by omega));have HA:=V (HA.out.keeps hk (by omega));have HC:=V (HC.out.keeps hk (by omega));have HK:=V (HK.out.trans hk (fun _ h=> .inl h));clear hh hk;clear a0;obtain⟨x0,x1,x2,z0,z1,z2⟩:=HX.out.Jg;go_wp2_with fail;have hx:=HX.out.uS (.bool x.has) (.int .i64 x.min) (.int .i64 x.max);have Np:=kZ w2 w.heap.size (.bool x.has) (.int .i64 x.min) (.int .i64 x.max);refine aF (eH rfl _ _ rfl hx.qA) rfl ?_;refine⟨x,rfl,Oj.out,?_,?_,HK.out.jg Np (ag _)⟩
  ·show ie ly s x
   rw [tf];exact fO (f:=fun x:UInt8 × gl=>x.2) (iE (ni s) HW.out)
  ·show fZ w0 _ R (eK ly s)
   rw [tf,fG,hU];exact HH.out.keeps Np (by omega) (fun i hi=>by omega)
 | false=>
  go_enter func286,ntmps286;go_wp2_with fail;refine(uN w0 _ R _ HH.out).mono ?_;rintro e w2 ⟨x,rfl,Nt,hw,hh,hk⟩;have Oj:=V Nt;have HW:=V hw;clear Nt hw;have HH:=V hh;have HX:=V (HX.out.keeps hk (by omega));have HA:=V (HA.out.keeps hk (by omega));have HC:=V (HC.out.keeps hk (by omega));have HK:=V (HK.out.trans hk (fun _ h=> .inl h));clear hh hk;clear a0 c0;obtain⟨x0,x1,x2,z0,z1,z2⟩:=HX.out.Jg;go_wp2_with fail;have hx:=HX.out.uS (.bool x.has) (.int .i64 x.min) (.int .i64 x.max);have Np:=kZ w2 w.heap.size (.bool x.has) (.int .i64 x.min) (.int .i64 x.max);refine aF (eH rfl _ _ rfl hx.qA) rfl ?_;exact⟨x,rfl,Oj.out,HW.out,HH.out.keeps Np (by omega) (fun i hi=>by omega),HK.out.jg Np (ag _)⟩
def Js (w0 w:World) (R:Nat) (st:gV) (get:jt gl) (e:Ending) (w':World):Prop:=
 ∃x:gl,e= .returned (.agg #[.bool x.has, .int .i64 x.min, .int .i64 x.max])/\x.ok/\ie (ib ki (fF get)) st x/\fZ w0 w' R (eK (fF get) st)/\ep (fun k=>k=R) w w'
theorem oF:gl.ok ⟨false,0,0⟩:=⟨zJ,zJ⟩
theorem tK (w0 w:World) (R:Nat) (before:Bool) (st:gV) (h:fZ w0 w R st):Calls prog 210 #[.pointer (some ⟨R,0,none⟩), .bool before] w (Js w0 w R st (Kw before)):=by
 have P3:=h.lt;have Rr:=h.old.2;have HH:=V (((h.alloc (.cells #[.pointer (some ⟨R,0,none⟩)] 193)).alloc (.cells #[.bool before] 4)).alloc (.cells #[.bool false, .int .i64 0, .int .i64 0] 28));have HA:=V (((eS.new w #[.pointer (some ⟨R,0,none⟩)] 193).alloc (.cells #[.bool before] 4)).alloc (.cells #[.bool false, .int .i64 0, .int .i64 0] 28));have HC:Hid (eS (((w.alloc (.cells #[.pointer (some ⟨R,0,none⟩)] 193)).alloc (.cells #[.bool before] 4)).alloc (.cells #[.bool false, .int .i64 0, .int .i64 0] 28)) (w.heap.size+1) #[.bool before] 4):=V (by
  have:=(eS.new (w.alloc (.cells #[.pointer (some ⟨R,0,none⟩)] 193)) #[.bool before] 4).alloc (.cells #[.bool false, .int .i64 0, .int .i64 0] 28);rw [aC]at this;exact this)
 have HX:Hid (eS (((w.alloc (.cells #[.pointer (some ⟨R,0,none⟩)] 193)).alloc (.cells #[.bool before] 4)).alloc (.cells #[.bool false, .int .i64 0, .int .i64 0] 28)) (w.heap.size+1+1) #[.bool false, .int .i64 0, .int .i64 0] 28):=V (by
  have:=eS.new ((w.alloc (.cells #[.pointer (some ⟨R,0,none⟩)] 193)).alloc (.cells #[.bool before] 4)) #[.bool false, .int .i64 0, .int .i64 0] 28;rw [aC,aC]at this;exact this)
 have HK:=V ((((ep.refl (fun k=>k=R) w).alloc (.cells #[.pointer (some ⟨R,0,none⟩)] 193)).alloc (.cells #[.bool before] 4)).alloc (.cells #[.bool false, .int .i64 0, .int .i64 0] 28));clear h;go_enter func210,ntmps210;go_wp2_with fail;generalize((w.alloc (.cells #[.pointer (some ⟨R,0,none⟩)] 193)).alloc (.cells #[.bool before] 4)).alloc (.cells #[.bool false, .int .i64 0, .int .i64 0] 28)=wa at HH HA HC HX HK⊢;have hz:=HX.out.lt;refine(Km w0 R (Kw before) gl.ok (EJ before) _ wa 286 #[] #[.pointer (some ⟨w.heap.size+1,0,none⟩), .pointer (some ⟨w.heap.size,0,none⟩)] (fun _ _=>by rfl) HH.out (fun s w1 h hk=>Mf w0 w1 R w.heap.size (w.heap.size+1) before s h (HA.out.keeps hk (by omega)) (HC.out.keeps hk (by omega)) (by omega) (by omega))).mono ?_;rintro e w1 ⟨v,l,rfl,ho,hp,hl,hw,hh,hk⟩;have HP:=V hp;have HW:=V hw;have HI:=V (ho.fT BI);clear hw hp;have HH:=V hh;have HX:=V (HX.out.keeps hk (by omega));have HA:=V (HA.out.keeps hk (by omega));have HC:=V (HC.out.keeps hk (by omega));have HK:=V (HK.out.trans hk (fun _ h=> .inl h));clear hh hk;obtain⟨a,cap,rfl,PV,Ow⟩:=fH HI.out;clear ho;obtain⟨x0,x1,x2,z0,z1,z2⟩:=HX.out.Jg;cases l with
 | nil=>
  have f1:((([]:List gl).length:Int)==0)=true:=rfl;go_wp2_with fail;have hx:=HX.out.uS (.bool false) (.int .i64 0) (.int .i64 0);have Np:=kZ w1 (w.heap.size+1+1) (.bool false) (.int .i64 0) (.int .i64 0);refine aF (eH rfl _ _ rfl hx.qA) rfl ?_;exact⟨⟨false,0,0⟩,rfl,oF,fO (f:=ki) HW.out,HH.out.keeps Np (by omega) (fun i hi=>by omega),HK.out.jg Np (by omega)⟩
 | cons x l=>
  obtain⟨L,hL⟩:∃L,L=x::l:=⟨_,rfl⟩;obtain⟨_,_,hv,_,_,Nk⟩:=HI.out;injection hv with e1 e2 e3;subst e1;obtain⟨bb,off,rfl,Nu,NA⟩:=Nk 0 x rfl;have g0:=NA 0 _ rfl;have g1:=NA 1 _ rfl;have g2:=NA 2 _ rfl;rw [dX,aJ]at g0;rw [dX,aJ]at g1 g2;rw [<- hL]at HI HP HW PV⊢;have R0:0 < L.length:=by rw [hL];simp
  have f1:((L.length:Int)==0)=false:=eh (by omega);have f2:(0:Int) < (L.length:Int):=by omega
  have HF:=V (show ki L=x by rw [hL];rfl);have HPX:=V (show x.ok from HP.out x (by rw [hL];simp));clear Nk e2 e3 NA hL;go_wp2_with fail;have hx:=HX.out.uS (.bool x.has) (.int .i64 x.min) (.int .i64 x.max);have Np:=kZ w1 (w.heap.size+1+1) (.bool x.has) (.int .i64 x.min) (.int .i64 x.max);refine aF (eH rfl _ _ rfl hx.qA) rfl ?_;exact⟨x,rfl,HPX.out,by rw [<- HF.out];exact fO (f:=ki) HW.out,HH.out.keeps Np (by omega) (fun i hi=>by omega),HK.out.jg Np (by omega)⟩
theorem LZ (w0 w:World) (R Rb:Nat) (s:gV) (h:fZ w0 w R s) (hr:eS w Rb #[.pointer (some ⟨R,0,none⟩)] 193) (n1:R < Rb):
  Calls prog 221 (#[]++#[.pointer (some ⟨Rb,0,none⟩)]) w (LM (fun(x:iq) (u:Value)=> .agg #[.int .i64 x.off,u]) gG w0 R wI (fun _=>True) s w):=by
 have P3:=h.lt;have Rr:=h.old.2;have l1:=hr.lt;have HH:=V ((h.alloc (.cells #[.int .i64 0, .slice none 0 0] 106)).drew);have HX:=V ((eS.new w #[.int .i64 0, .slice none 0 0] 106).drew);have HK:=V (((ep.refl (fun k=>k=R) w).alloc (.cells #[.int .i64 0, .slice none 0 0] 106)).drew);have HA:=V ((hr.alloc (.cells #[.int .i64 0, .slice none 0 0] 106)).drew);have a0:=HA.out.cell 0;simp only [aM,aK]at a0;clear h hr;go_enter func221,ntmps221;go_wp2_with fail;refine eB (fun w'=>w'.cell? ⟨Rb,0,none⟩=some (.pointer (some ⟨R,0,none⟩))) [(0,true),(2,true),(1,false),(3,false),(4,true),(5,false)] (by kernel_rfl) (by kernel_rfl) a0 ?_;clear a0;generalize(w.alloc (.cells #[.int .i64 0, .slice none 0 0] 106)).drew=wa at HH HX HK HA⊢;have hz:=HX.out.lt;iterate 2 (first | (apply sk rfl rfl;simp only [pt]) | (apply eo rfl rfl rfl;·(rintro w' t0;go_wp2;exact⟨rfl,rfl,rfl⟩)))
 refine ew rfl rfl ?_;go_wp2_with fail;refine(sZ w0 wa R s HH.out).mono ?_;rintro e w1 ⟨n,rfl,hn,hw,hh,hk⟩;have HN:=V hn;have HW:=V hw;have Oi:=hk.size;clear hn hw;have HH:=V hh;have HX:=V (HX.out.keeps hk (by omega));have HA:=V (HA.out.keeps hk (by omega));have HK:=V (HK.out.trans hk (fun _ h=> .inl h));clear hh hk;go_wp2_with fail;refine⟨HA.out.cell 0,?_⟩;refine ew rfl rfl ?_;go_wp2_with fail;refine(Ea w0 w1 R _ HH.out).mono ?_;rintro e w2 ⟨v,rfl,ho,hh,hk⟩;have HO:=V ho;obtain⟨a,cap,rfl,-,-,-⟩:=ho.gK;clear ho;have HH:=V hh;have HX:=V (HX.out.keeps hk (by omega));have HA:=V (HA.out.keeps hk (by omega));have HK:=V (HK.out.trans hk (fun _ h=> .inl h));clear hh hk;go_wp2_with fail;refine⟨HA.out.cell 0,?_⟩;iterate 1 (first | (apply sk rfl rfl;simp only [pt]) | (apply eo rfl rfl rfl;·(rintro w' t0;go_wp2;exact⟨rfl,rfl,rfl⟩)))
 refine ew rfl rfl ?_;obtain⟨x0,x1,z0,z1⟩:=HX.out.two;go_wp2_with fail;have hx:=HX.out.nC (.int .i64 n) (.slice a (oH (eK jx s)).length cap);have Np:=fQ w2 w.heap.size (.int .i64 n) (.slice a (oH (eK jx s)).length cap);refine⟨(HA.out.keeps Np (by omega)).cell 0,?_⟩;refine eW ?_;refine aA ?_;go_wp2_with fail;refine aF (eH rfl _ _ rfl hx.GI) rfl ?_;have o1:=eC.base (eC.keeps HO.out Np (fun i hi h=>by have:=(eM HO.out hi).1;omega)) (show w.heap.size <=w1.heap.size by omega);refine⟨⟨n,oH (eK jx s)⟩, .slice a (oH (eK jx s)).length cap,rfl,⟨yW o1,HN.out⟩,trivial,?_,?_,HK.out.jg Np (ag _)⟩
 ·rw [zl]
  exact fO (f:=fun x:Int × List UInt8=>iq.mk x.1 x.2) (iE HW.out (AT _))
 ·rw [zl,fG,hU]
  exact HH.out.keeps Np (by omega) (fun i hi=>by omega)
theorem Lk (w0 w:World) (R Rb:Nat) (s:gV) (h:fZ w0 w R s) (hr:eS w Rb #[.pointer (some ⟨R,0,none⟩)] 193) (n1:R < Rb):
  Calls prog 216 (#[]++#[.pointer (some ⟨Rb,0,none⟩)]) w (LM (fun(x:jI) (u:Value)=> .agg #[.int .i64 x.off,u]) il w0 R qv (fun _=>True) s w):=by
 have P3:=h.lt;have Rr:=h.old.2;have l1:=hr.lt;have HH:=V ((h.alloc (.cells #[.int .i64 0, .slice none 0 0] 77)).drew);have HX:=V ((eS.new w #[.int .i64 0, .slice none 0 0] 77).drew);have HK:=V (((ep.refl (fun k=>k=R) w).alloc (.cells #[.int .i64 0, .slice none 0 0] 77)).drew);have HA:=V ((hr.alloc (.cells #[.int .i64 0, .slice none 0 0] 77)).drew);have a0:=HA.out.cell 0;simp only [aM,aK]at a0;clear h hr;go_enter func216,ntmps216;go_wp2_with fail;refine mo (fun w'=>w'.cell? ⟨Rb,0,none⟩=some (.pointer (some ⟨R,0,none⟩))) (ord [(0,true),(2,true),(3,true)] (.fork 1 4 (ord [(4,false),(5,false),(6,true),(7,false)] .nil) (ord [(1,false),(5,false),(6,true),(7,false)] .nil))) (by kernel_rfl) (by kernel_rfl) a0 ?_;dsimp only [ord];clear a0;generalize(w.alloc (.cells #[.int .i64 0, .slice none 0 0] 77)).drew=wa at HH HX HK HA⊢;have hz:=HX.out.lt;iterate 3 (first | (apply ord_skip rfl rfl;simp only [Act.put,aX,bE,bG]) | (apply iR rfl rfl rfl;·(rintro w' t0;go_wp2;exact⟨rfl,rfl,rfl⟩)))
 refine pL rfl rfl rfl rfl ?_ ?_
 ·go_wp2_with fail
  refine(sZ w0 wa R s HH.out).mono ?_;rintro e w1 ⟨n,rfl,hn,hw,hh,hk⟩;have HN:=V hn;have HW:=V hw;have Oi:=hk.size;clear hn hw;have HH:=V hh;have HX:=V (HX.out.keeps hk (by omega));have HA:=V (HA.out.keeps hk (by omega));have HK:=V (HK.out.trans hk (fun _ h=> .inl h));clear hh hk;go_wp2_with fail;refine⟨HA.out.cell 0,?_⟩;refine fW rfl rfl ?_;go_wp2_with fail;refine⟨HA.out.cell 0,?_⟩;refine fW rfl rfl ?_;go_wp2_with fail;refine(ox w0 R wX iV pr _ w1 122 #[.pointer (some ⟨R,0,none⟩)] #[] (fun _ _=>by rfl) HH.out (fun s w1 h _=>Gk w0 w1 R s h)).mono ?_;rintro e w2 ⟨v,l,rfl,ho,hp,hl,PE,hh,hk⟩;obtain⟨a,cap,rfl,-,-⟩:=ho.slice;have HO:=V ho;have HP:=V hp;have Ov:=V PE;clear ho hp PE;have HH:=V hh;have HX:=V (HX.out.keeps hk (by omega));have HA:=V (HA.out.keeps hk (by omega));have HK:=V (HK.out.trans hk (fun _ h=> .inl h));clear hh hk;go_wp2_with fail;refine⟨HA.out.cell 0,?_⟩;iterate 1 (first | (apply ord_skip rfl rfl;simp only [Act.put,aX,bE,bG]) | (apply iR rfl rfl rfl;·(rintro w' t0;go_wp2;exact⟨rfl,rfl,rfl⟩)))
  refine fW rfl rfl ?_;obtain⟨x0,x1,z0,z1⟩:=HX.out.two;go_wp2_with fail;have hx:=HX.out.nC (.int .i64 n) (.slice a l.length cap);have Np:=fQ w2 w.heap.size (.int .i64 n) (.slice a l.length cap);refine⟨(HA.out.keeps Np (by omega)).cell 0,?_⟩;refine nc ?_;refine aA ?_;go_wp2_with fail;refine aF (eH rfl _ _ rfl hx.Bs) rfl ?_;have o1:=(HO.out.stay Np (fun i hi=>by omega)).lower (show w.heap.size <=w1.heap.size by omega);refine⟨⟨n,l⟩, .slice a l.length cap,rfl,⟨jv fI o1,HN.out,HP.out⟩,trivial,?_,?_,HK.out.jg Np (ag _)⟩
  ·rw [pZ]
   exact fO (f:=fun x:Int × List Int=>jI.mk x.1 x.2) (iE HW.out Ov.out)
  ·rw [pZ,fG,hU]
   exact HH.out.keeps Np (by omega) (fun i hi=>by omega)
 ·go_wp2_with fail
  refine⟨HA.out.cell 0,?_⟩;refine fW rfl rfl ?_;go_wp2_with fail;refine(sZ w0 wa R s HH.out).mono ?_;rintro e w1 ⟨n,rfl,hn,hw,hh,hk⟩;have HN:=V hn;have HW:=V hw;have Oi:=hk.size;clear hn hw;have HH:=V hh;have HX:=V (HX.out.keeps hk (by omega));have HA:=V (HA.out.keeps hk (by omega));have HK:=V (HK.out.trans hk (fun _ h=> .inl h));clear hh hk;go_wp2_with fail;refine⟨HA.out.cell 0,?_⟩;refine fW rfl rfl ?_;go_wp2_with fail;refine(ox w0 R wX iV pr _ w1 122 #[.pointer (some ⟨R,0,none⟩)] #[] (fun _ _=>by rfl) HH.out (fun s w1 h _=>Gk w0 w1 R s h)).mono ?_;rintro e w2 ⟨v,l,rfl,ho,hp,hl,PE,hh,hk⟩;obtain⟨a,cap,rfl,-,-⟩:=ho.slice;have HO:=V ho;have HP:=V hp;have Ov:=V PE;clear ho hp PE;have HH:=V hh;have HX:=V (HX.out.keeps hk (by omega));have HA:=V (HA.out.keeps hk (by omega));have HK:=V (HK.out.trans hk (fun _ h=> .inl h));clear hh hk;go_wp2_with fail;refine⟨HA.out.cell 0,?_⟩;iterate 1 (first | (apply ord_skip rfl rfl;simp only [Act.put,aX,bE,bG]) | (apply iR rfl rfl rfl;·(rintro w' t0;go_wp2;exact⟨rfl,rfl,rfl⟩)))
  refine fW rfl rfl ?_;obtain⟨x0,x1,z0,z1⟩:=HX.out.two;go_wp2_with fail;have hx:=HX.out.nC (.int .i64 n) (.slice a l.length cap);have Np:=fQ w2 w.heap.size (.int .i64 n) (.slice a l.length cap);refine⟨(HA.out.keeps Np (by omega)).cell 0,?_⟩;refine nc ?_;refine aA ?_;go_wp2_with fail;refine aF (eH rfl _ _ rfl hx.Bs) rfl ?_;have o1:=(HO.out.stay Np (fun i hi=>by omega)).lower (show w.heap.size <=w1.heap.size by omega);refine⟨⟨n,l⟩, .slice a l.length cap,rfl,⟨jv fI o1,HN.out,HP.out⟩,trivial,?_,?_,HK.out.jg Np (ag _)⟩
  ·rw [pZ]
   exact fO (f:=fun x:Int × List Int=>jI.mk x.1 x.2) (iE HW.out Ov.out)
  ·rw [pZ,fG,hU]
   exact HH.out.keeps Np (by omega) (fun i hi=>by omega)
theorem GD (a:Nat) (ha:a < 18446744073709551616):bits .and .u64 (a:Int) 4294967295=((a %4294967296:Nat):Int):=by
 have h:=bits_and_u64_nat a 4294967295 ha (by omega);have e:a&&&4294967295=a %4294967296:=Nat.and_two_pow_sub_one_eq_mod a 32;rw [e]at h;exact h
theorem MC (a:Nat):(a:Int)/4294967296=((a/4294967296:Nat):Int):=by omega
theorem MD (a b:Nat):(a:Int)*(b:Int)=((a*b:Nat):Int):=(Int.natCast_mul a b).symm
theorem MZ (a b:Nat):(a:Int)+(b:Int)=((a+b:Nat):Int):=(Int.natCast_add a b).symm
theorem tV (a:Nat) (ha:a < 18446744073709551616):IntKind.u64.wrap (a:Int)=(a:Int):=by rw [IntKind.wrap_u64];omega
theorem Mr (a:Nat):IntKind.u64.wrap (a:Int)=((a %18446744073709551616:Nat):Int):=by rw [IntKind.wrap_u64];omega
def Gl (x y:Nat) (w:World) (e:Ending) (w':World):Prop:=e= .returned (.tuple #[.int .u64 ((x*y/18446744073709551616:Nat):Int), .int .u64 ((x*y %18446744073709551616:Nat):Int)])/\w'=w
theorem En (x y:Nat) (hx:x < 18446744073709551616) (hy:y < 18446744073709551616) (w:World):Calls prog 224 #[.int .u64 x, .int .u64 y] w (Gl x y w):=by
 obtain⟨bd,bt,bw,hhi⟩:=Lib.mul64_hi x y hx hy;have ba:=Lib.half_mul_le (a:=x/4294967296) (b:=y/4294967296) (by omega) (by omega);have bb:=Lib.half_mul_le (a:=x/4294967296) (b:=y %4294967296) (by omega) (by omega);have bc:=Lib.half_mul_le (a:=x %4294967296) (b:=y/4294967296) (by omega) (by omega);have ba':x/4294967296*(y/4294967296) < 18446744073709551616:=by omega
 have bb':x/4294967296*(y %4294967296) < 18446744073709551616:=by omega
 have bc':x %4294967296*(y/4294967296) < 18446744073709551616:=by omega
 have bh1:x/4294967296*(y/4294967296)+(x/4294967296*(y %4294967296)+x %4294967296*(y %4294967296)/4294967296)/4294967296 < 18446744073709551616:=by omega
 have bh:x/4294967296*(y/4294967296)+(x/4294967296*(y %4294967296)+x %4294967296*(y %4294967296)/4294967296)/4294967296+((x/4294967296*(y %4294967296)+x %4294967296*(y %4294967296)/4294967296) %4294967296+x %4294967296*(y/4294967296))/4294967296 < 18446744073709551616:=by omega
 go_enter func224,ntmps224;go_wp2;simp only [GD x hx,GD y hy,MC,MD,MZ,tV _ bd,tV _ bb',tV _ bt,GD _ bt,tV _ bc',tV _ bw,tV _ ba',tV _ bh1,tV _ bh,Mr (x*y)];rw [hhi]
 go_ret2
 exact⟨rfl,rfl⟩
theorem KH (x y:Nat) (hx:x < 18446744073709551616) (hy:y < 18446744073709551616) (w:World):Calls prog 125 #[.int .u64 x, .int .u64 y] w (Gl x y w):=by
 go_enter func125,ntmps125;go_wp2_with fail;refine(En x y hx hy w).mono ?_;rintro e w' ⟨rfl,rfl⟩;go_wp2
 go_ret2
 exact⟨rfl,rfl⟩
theorem om (a:Option Addr) (len cap k:Nat) (h:k <=cap) (wx:World):
  (Instr.slice 26 (.slice a len cap) none (some (.int .i64 k)) none).run prog wx= .ok (.slice a k cap) wx:=by
 have hu:prog.underlying 26=some (.slice 3):=by kernel_rfl
 obtain⟨i0,hi,Po,Oi,O1⟩:=bS jT;simp [Instr.slice,aZ hu,Instr.sliceBounds,Instr.sliceBound,sizeOf,typeInfo,hi,asIntOf,h];cases a <;>simp [Addr.add]
theorem kK (g len cap k:Nat) (h:k < len) (h2:len <=cap) (wx:World):
  (Instr.slice 26 (.slice (some ⟨g,0,none⟩) len cap) (some (.int .i64 k)) none none).run prog wx= .ok (.slice (some ⟨g,k,none⟩) (len - k) (cap - k)) wx:=by
 have hu:prog.underlying 26=some (.slice 3):=by kernel_rfl
 obtain⟨i0,hi,Po,Oi,O1⟩:=bS jT;have h3:k <=cap:=by omega
 have h4:¬ cap=k:=by omega
 have h5:k <=len:=by omega
 have h6:¬ k=cap:=by omega
 simp [Instr.slice,aZ hu,Instr.sliceBounds,Instr.sliceBound,sizeOf,typeInfo,hi,Oi,asIntOf,h4,h5,Addr.add];intro h0;exact h0.symm
theorem FH (K:Nat) (hK:K <=2000) (w:World):(Instr.makeSlice 26 (.int .i64 (K:Int)) (.int .i64 (K:Int))).run prog w=
  .ok (.slice (some ⟨w.heap.size,0,none⟩) K K) (w.alloc (.cells (List.replicate K (.int .i64 0)).toArray 3)):=by
 obtain⟨i,hi,Po,Oi,O1⟩:=bS jT;have h:=run_make (P:=prog) w 26 3 i _ (by kernel_rfl) hi Po .i64 .i64 (K:Int) (K:Int) (by omega) (Int.le_refl _) (by rw [O1];omega) (by omega);rw [Oi,cG,aW]at h;have e:madeCells (Value.cells (.int .i64 0)) K=(List.replicate K (.int .i64 0)).toArray:=by
  apply Array.ext
  ·simp [madeCells]
  ·intro i h1 h2
   have:i %1=0:=Nat.mod_one i;simp [madeCells,Value.cells,this]
 rw [e]at h;exact h
def kO (k:Int) (n m:Nat):List Value:=List.replicate m (.int .i64 k)++List.replicate (n - m) (.int .i64 0)
theorem rb (k:Int) (n m c:Nat) (hc:m+c <=n):splice (kO k n m) m (List.replicate c (.int .i64 k))=kO k n (m+c):=by
 unfold splice kO;rw [List.take_append_of_le_length (by simp),cW (by simp),bB,List.drop_append,List.drop_of_length_le (by simp),bY,bB,List.drop_replicate, <- aL,List.replicate_append_replicate]
 congr 2
 omega
theorem wT (k:Int) (n m:Nat) (hm:m <=n):(kO k n m).length=n:=by simp [kO];omega
def M8 (k:Int) (n g:Nat) (w w':World) (m:Nat):Prop:=m <=n/\(m=0 ->n=0)/\w'.heap[g]?=some (.cells (kO k n m).toArray 3)/\Below w.heap.size w w'
def Lf (k:Int) (n:Nat) (w:World) (e:Ending) (w':World):Prop:=∃g,e= .returned (.slice (some ⟨g,0,none⟩) n n)/\ei 3 1 fk w' w.heap.size (.slice (some ⟨g,0,none⟩) n n) (List.replicate n k)/\Below w.heap.size w w'
theorem D3 (k:Int) (c:Nat):∀v∈List.replicate c (Value.int .i64 k),v.oneCell'=true:=by
 intro v hv;obtain⟨_,rfl⟩:=dY.1 hv;rfl
theorem Ik (k:Int) (n:Nat):(List.replicate n k).flatMap fk=List.replicate n (Value.int .i64 k):=by
 induction n with
 | zero=>rfl
 | succ n ih=>rw [List.replicate_succ,bK,ih,List.replicate_succ];rfl
theorem rA (a:Option Addr) (cap:Nat) (k:Int) (n:Nat) (hn:n <=1000) (w:World) (hl:eA 1 fk w (.slice a 1 cap) [k]):Calls prog 82 #[.slice a 1 cap, .int .i64 n] w (Lf k n w):=by
 obtain⟨_,_,hv,PV,Ow,Nk⟩:=hl;obtain⟨b,off,rfl,Nu,hc⟩:∃b off,a=some ⟨b,off,none⟩/\b < w.heap.size/\w.cell? ⟨b,off,none⟩=some (.int .i64 k):=by
  injection hv with e1 e2 e3;subst e1;obtain⟨b,off,ha,Nu,hc⟩:=Nk 0 k rfl;exact⟨b,off,ha,Nu,by have:=hc 0 _ rfl;simpa using this⟩
 have hmk:=fun w=>FH n (by omega) w;have hmul1:(1*n/18446744073709551616:Nat)=0:=by omega
 have hmul2:(1*n %18446744073709551616:Nat)=n:=by omega
 have HLT:=V Nu;have HC:=V hc;clear hv PV Ow Nk hc;go_enter func82,ntmps82;go_wp2_with fail;refine(KH 1 n (by omega) (by omega) w).mono ?_;rintro e w1 ⟨rfl,rfl⟩;rw [hmul1,hmul2];clear hmul1 hmul2;obtain⟨g,hg⟩:∃g,g=w1.heap.size:=⟨_,rfl⟩;have HG1:=V (dm hg);have HG2:=V (dm hg.symm);go_wp2_with (first | (refine wpList_copy_splice rfl (.tmp 31) (.tmp 32) 26 26 rfl 3 (by kernel_rfl) (by kernel_rfl) (some ⟨w1.heap.size,0,none⟩) (some ⟨b,off,none⟩) n n 1 cap rfl rfl w1.heap.size 0 (kO k n 0) 3 (by rw [show kO k n 0=List.replicate n (.int .i64 0)by simp [kO]];exact eS.new w1 _ _) (List.replicate (min 1 n) (.int .i64 k)) (by simp) ?_ (by rw [wT _ _ _ (by omega)];simp;omega) (D3 _ _) w1.heap.size w1 ((an _ _).alloc (ag _) _) (ag _) ?_))
 ·intro _ j v hv
  have hj:=(aG.1 hv).1;have Om:=aN hv;obtain⟨_,rfl⟩:=dY.1 Om;simp only [bB]at hj;obtain rfl:j=0:=by omega
  exact HC.out
 intro w2 Ou hb;rw [<- hg]at Ou;have Tl:=V (show w2.heap[g]?=some (.cells (kO k n (min 1 n)).toArray 3)by
  have h1:=Ou.out;rw [rb k n 0 (min 1 n) (by omega)]at h1;simpa using h1)
 have HB:=V hb;have hgg:(some ⟨w1.heap.size,0,none⟩:Option Addr)=some ⟨g,0,none⟩:=by rw [hg]
 rw [hgg];clear Ou hb hmk hgg hg;go_wp2_with fail;refine eR (fun a' w'=>∃(m:Nat),a'=fr (gs a' 0 7 (.slice (some ⟨g,0,none⟩) n n:: .int .i64 m::gs a' 9 39 []))/\M8 k n g w1 w' m) (fun a' _=>(n - (intOf (a'.tmps.getD 8 undef)).toNat)) ?_ ?_
 ·exact⟨min 1 n,rfl,by omega,by omega,Tl.out,HB.out⟩
 ·skip
  rintro R a' w1 ⟨m,Nm,hJ⟩ HR;dsimp only [fr,gs]at Nm;generalize slot a'=f at Nm;subst Nm;obtain⟨hm,hz,Ou,hb⟩:=hJ;have Tl:=V Ou;have HB:=V hb;have HZ:=V hz;by_cases q:m < n;rotate_left
  ·obtain rfl:m=n:=by omega
   clear Ou hb hz;go_wp2;go_ret;refine⟨g,rfl,⟨by rw [kf fI], .inr ⟨g,m,_,by rw [bB],HG2.out,Tl.out,by simp,by simp only [maxLen];omega,by simp [kO],?_⟩⟩,HB.out⟩;rw [Ik];simp [kO]
  have OC:=fun wx=>kK g n n m q (ag _) wx;have NC:=fun wx=>om (some ⟨g,0,none⟩) n n m (by omega) wx;obtain⟨c,hc⟩:∃c,c=min m (n - m):=⟨_,rfl⟩;have HC:=V hc;clear hb hz hc;go_wp2_with fail;refine eB (fun _=>True) (up 0 7 ((7,false)::(8,true)::(9,true)::[])) (by kernel_rfl) (by kernel_rfl) trivial ?_;iterate 7 (first | (apply sk rfl rfl;simp only [pt]) | (apply eo rfl rfl rfl;·(rintro w' t0;go_wp2;exact⟨rfl,rfl,rfl⟩)))
  refine ew rfl rfl ?_;go_wp2_with (first | (refine wpList_copy_splice rfl (.tmp 41) (.tmp 44) 26 26 rfl 3 (by kernel_rfl) (by kernel_rfl) (some ⟨g,m,none⟩) (some ⟨g,0,none⟩) (n - m) (n - m) m n rfl rfl g m (kO k n m) 3 Ou (List.replicate c (.int .i64 k)) (by rw [bB];exact HC.out) ?_ (by rw [wT _ _ _ hm,bB,HC.out];omega) (D3 _ _) g w1 (an g w1).drew (ag _) ?_))
  ·intro _ j v hv
   have hj:=(aG.1 hv).1;have Om:=aN hv;obtain⟨_,rfl⟩:=dY.1 Om;simp only [bB]at hj;have NA:=HC.out;have h3:=cell_of_row w1 g j _ _ _ Ou;rw [h3];unfold kO;rw [aM,bD (by rw [bB];omega),List.getElem?_replicate,aE (by omega)]
  intro w2 SM No;have HROW2:=V (show w2.heap[g]?=some (.cells (kO k n (m+c)).toArray 3)by
   have h1:=SM.out;rw [rb k n m c (by have:=HC.out;omega)]at h1;exact h1)
  have NQ:=V (HB.out.trans (No.mono HG2.out));clear Ou SM No;have hcn:c <=n:=by have:=HC.out;omega
  have PV:1 <=c:=by have:=HC.out;have:=HZ.out;omega
  go_wp2;refine⟨trivial,?_⟩;iterate 2 (first | (apply sk rfl rfl;simp only [pt]) | (apply eo rfl rfl rfl;·(rintro w' t0;go_wp2;exact⟨rfl,rfl,rfl⟩)))
  refine eW ?_;refine aA ?_;go_wp2;refine HR.out _ _ ⟨m+c,?_,by have:=HC.out;omega,by omega,HROW2.out,NQ.out⟩ ?_
  ·rfl
  ·simp [intOf]
   omega
theorem fZ.fail {w0 w:World} {R:Nat} {st:gV} (h:fZ w0 w R st):fZ w0 (w.setCell ⟨R,1,none⟩ (.bool true)) R none:=by
 obtain⟨a,l,cap,bad,h1,h2,h3,h4,h5,h6⟩:=h;exact⟨a,l,cap,true,by simpa using h1.set 1 (.bool true),h2,h3,rfl,h5.setCell h6 _,h6⟩
theorem fZ.free {w0 w:World} {R:Nat} {st:gV} (h:fZ w0 w R st) (i:Nat):w.frozen? ⟨R,i,none⟩=false:=by
 obtain⟨a,l,cap,bad,h1,_⟩:=h;exact h1.free i
theorem fZ.some {w0 w:World} {R:Nat} {l:List UInt8} (h:fZ w0 w R (some l)):∃a cap,w.cell? ⟨R,0,none⟩=some (.slice a l.length cap)/\eZ w (.slice a l.length cap) l/\l.length <=8000:=by
 obtain⟨a,l',cap,bad,h1,h2,h3,h4,h5,h6⟩:=h;cases bad with
 | true=>cases h4
 | false=>
  injection h4 with h4;subst h4;exact⟨a,cap,h1.cell 0,h2.below h5,h3⟩
theorem GH {α:Type} {get:jt α} {n:Nat} {acc:List α} {st:gV} (h:eK get st=none):rY get (n+1) acc st=none:=by
 cases st with
 | none=>rfl
 | some l=>
  have hg:get l=none:=by
   cases hg:get l with
   | none=>rfl
   | some y=>simp [eK,hg]at h
  simp [rY,tl,hg]
theorem Hf {α:Type} {get:jt α} {st TB:gV} {acc:List α} {n:Nat} (h:st.bind (fF get)=rY get (n+1) acc TB) (hb:eK get TB=none):eK (fF get) st=none/\∀x,ie (fF get) st x:=by
 rw [GH hb]at h;refine⟨by unfold eK;rw [h];rfl,fun x y hy=>by rw [h]at hy;cases hy⟩
theorem I4 (s:gV):eK mJ s=(if 32 < jJ s then none else eK gT (eK gD s))/\ie mJ s (jJ s,oJ (eK gD s)):=by
 cases s with
 | none=>exact⟨rfl,nd _ _⟩
 | some l=>
  cases h:gD l with
  | none=>
   have h1:mJ l=none:=by simp [mJ,h]
   have h2:jJ (some l)=0:=by simp [jJ,h]
   have h3:eK gD (some l)=none:=by simp [eK,h]
   rw [h2,h3,az (by decide)];exact⟨by simp [eK,h1],fun y hy=>by simp [h1]at hy⟩
  | some y=>
   have h2:jJ (some l)=y.1:=by simp [jJ,h]
   have h3:eK gD (some l)=some y.2:=by simp [eK,h]
   rw [h2,h3];cases hk:gT y.2 with
   | none=>
    have h1:mJ l=none:=by simp [mJ,h,hk]
    exact⟨by simp [eK,h1,hk],fun z hz=>by simp [h1]at hz⟩
   | some z=>
    by_cases q:32 < y.1
    ·have h1:mJ l=none:=by simp [mJ,h,hk,q]
     exact⟨by rw [aE q];simp [eK,h1],fun z hz=>by simp [h1]at hz⟩
    ·have h1:mJ l=some ((y.1,z.1),z.2):=by simp [mJ,h,hk,q]
     refine⟨by rw [az q];simp [eK,h1,hk],fun u hu=>?_⟩;simp only [ao,h1,aS]at hu;rw [<- hu];simp [oJ,hk]
theorem pH (acc:List (Nat × Int)) (m:Nat) (k:Int):jc (acc++[(m,k)])=jc acc++List.replicate m k:=by simp [jc]
def Le (w0 w:World) (R:Nat) (st:gV) (e:Ending) (w':World):Prop:=
 ∃v l,e= .returned v/\ei 3 1 fk w' w.heap.size v l/\(∀x∈l,iV x)/\l.length <=300000/\ie jO st l/\fZ w0 w' R (eK jO st)/\ep (fun k=>k=R) w w'
def MX (w0:World) (R:Nat) (st:gV) (w w':World) (v:Value) (acc:List (Nat × Int)) (n:Nat) (s:gV):Prop:=
 st.bind (fF mJ)=rY mJ n acc s/\ei 3 1 fk w' w.heap.size v (jc acc)/\(∀x∈jc acc,iV x)/\(jc acc).length <=32*acc.length/\acc.length+s.len <=8001/\fZ w0 w' R s/\ep (fun k=>k=R) w w'/\n < 4294967296
theorem C1 (w0 w:World) (Y:Nat) (st:gV) (h:fZ w0 w Y st):Calls prog 289 #[.pointer (some ⟨Y,0,none⟩)] w (Le w0 w Y st):=by
 have HH:=V h;have hR:=h.lt;clear h;go_enter func289,ntmps289;go_wp2_with fail;refine(kg w0 w Y st HH.out).mono ?_;rintro e w1 ⟨rfl,h1,P1⟩;have SA:=V (wj mJ st _ (nM st));have hn:=mi st;have hlen:=h1.len;obtain⟨N,eN⟩:∃N,jJ st=N:=⟨_,rfl⟩;rw [eN]at hn SA⊢;clear eN;go_wp2_with fail;refine eR (fun a' w'=>∃(v:Value) (acc:List (Nat × Int)) (n:Nat) (s:gV),a'=fr (.pointer (some ⟨Y,0,none⟩)::gs a' 1 2 (v:: .int .i64 n::gs a' 5 31 []))/\MX w0 Y st w w' v acc n s) (fun a' _=>(intOf (a'.tmps.getD 4 undef)).toNat) ?_ ?_
 ·exact⟨_,[],N,eK gD st,rfl,SA.out,ei.nil _ _,by simp [jc],by simp [jc],by simpa using hlen,h1,P1,hn⟩
 ·clear h1 P1 hn hlen SA HH
  rintro R a' w1 ⟨v,acc,n,s,Nm,hJ⟩ HR;dsimp only [fr,gs]at Nm;generalize slot a'=f at Nm;subst Nm;obtain⟨Ra,ho,N6,Qy,hlen,Pa,hk,hn⟩:=hJ;obtain⟨av,cv,rfl,-,Oh⟩:=ho.slice;have Oe:=V Pa;have Pn:=V Ra;have NF:=V N6;have HK:=V hk;have HO:=V ho;have HRL:=V hR;have c1:=Pa.bad;have hub:(jc acc).length <=300000:=by omega
  clear Ra ho N6 Pa hk;rcases bq n with QM | QM
  ·obtain⟨g1,g2⟩:=oM mJ Pn.out (.inl QM)
   have G1:=V g1;have G2:=V g2;subst QM;clear g1 g2 Qy hlen;go_wp2;go_ret;exact⟨_,jc acc,rfl,HO.out,NF.out,hub,by rw [kN];exact fO G2.out,by rw [kN,fG,G1.out];exact Oe.out,HK.out⟩
  have f0:decide ((0:Int) < (n:Int))=true:=ay (by omega);cases s with
  | none=>
   have c1:w1.cell? ⟨Y,1,none⟩=some (.bool true):=c1;obtain⟨g1,g2⟩:=oM mJ Pn.out (.inr rfl);have G1:=V g1;have G2:=V g2;clear g1 g2 Qy hlen;go_wp2;go_ret;exact⟨_,jc acc,rfl,HO.out,NF.out,hub,by rw [kN];exact fO G2.out,by rw [kN,fG,G1.out];exact Oe.out,HK.out⟩
  | some lb=>
   have c1:w1.cell? ⟨Y,1,none⟩=some (.bool false):=c1;obtain⟨n',rfl⟩:∃n',n=n'+1:=⟨n - 1,by omega⟩;have Nu:=zM.len lb;have QA:=V (show acc.length+1+(eK mJ (some lb)).len <=8001 by omega);have HUL:=V Qy;obtain⟨hrn,hrw⟩:=I4 (some lb);have hm:=mi (some lb);clear Nu hlen Qy;go_wp2_with fail;refine(kg w0 w1 Y _ Oe.out).mono ?_;rintro e w2 ⟨rfl,h2,Nw⟩;have HO:=V (HO.out.stay Nw (fun i hi=>by have:=HRL.out;omega));have Oe:=V h2;have HK:=V (HK.out.trans Nw (fun _ h=> .inl h));obtain⟨m,em⟩:∃m,jJ (some lb)=m:=⟨_,rfl⟩;obtain⟨kd,ek⟩:∃kd,oJ (eK gD (some lb))=kd:=⟨_,rfl⟩;have HKI:=V (show iV kd by rw [<- ek];exact Eg _);rw [em]at hrn hrw hm;rw [ek]at hrw;rw [em];have EK:=V ek;have HRN:=V hrn;have HRW:=V hrw;clear h2 Nw c1 hrn hrw em ek;go_wp2_with fail;refine(vq w0 w2 Y _ Oe.out).mono ?_;rintro e w3 ⟨rfl,h3,Oo⟩;have HO:=V (HO.out.stay Oo (fun i hi=>by have:=HRL.out;omega));have Oe:=V h3;have HK:=V (HK.out.trans Oo (fun _ h=> .inl h));rw [EK.out];clear h3 Oo;by_cases q:32 < m
   ·have f1:decide ((32:Int) < (m:Int))=true:=ay (by omega)
    have f2:decide (32 < m)=true:=ay q;obtain⟨g1,g2⟩:=Hf Pn.out (by rw [HRN.out,aE q]);have G1:=V g1;have G2:=V g2;have c1:=Oe.out.bad;have z1:=Oe.out.free 1;clear g1 g2 q;go_wp2;go_ret;have Np:=eE w3 Y 1 (.bool true);exact⟨_,[],rfl,ei.nil _ _,by simp,by simp,by rw [kN];exact fO (f:=jc) (G2.out []),by rw [kN,fG,G1.out];exact Oe.out.fail,HK.out.trans Np (fun _ h=> .inl h)⟩
   ·have f1:decide ((32:Int) < (m:Int))=false:=aw (by omega)
    have f2:decide (32 < m)=false:=aw q;have HNX:=V (show eK mJ (some lb)=eK gT (eK gD (some lb))by rw [HRN.out,az q]);have hm32:m <=32:=by omega
    have TL:=(an w3.heap.size w3).alloc (ag _) (.cells #[.int .i64 kd] 3);have HO:=V (HO.out.below TL);have Oe:=V (Oe.out.below TL);have HK:=V (HK.out.alloc (.cells #[.int .i64 kd] 3));have HL:=V (lY w3 kd 3);clear q TL;go_wp2_with fail;refine(rA _ 1 kd m (by omega) _ HL.out).mono ?_;rintro e w4 ⟨g,rfl,hog,OG⟩;have HO:=V (HO.out.below OG);have Oe:=V (Oe.out.below OG);have HK:=V (HK.out.trans (ep.et (S:=fun _=>False) OG) (fun _ h=>h.elim));have HM:=V (by have h:=hog.fT fI;exact h);have HSZ:Hid (w.heap.size <=w4.heap.size):=V HK.out.size;clear hog OG;go_wp2_with (first | (at_builtin;refine kX w4 rfl _ _ 26 rfl _ 8 (by kernel_rfl) jT rfl (by decide) (by decide) w.heap.size (.slice av (jc acc).length cv) (jc acc) rfl HO.out fI (List.replicate m kd) ⟨g,0,none⟩ m m rfl HM.out (fun y _=>DT y) (by rw [bB];omega) HSZ.out ?_));intro v5 w5 ho5 Pr RL;have hlt5:∀i,eO (.slice av (jc acc).length cv) i ->w.heap.size <=i/\i < w4.heap.size:=fun i hi=>eM HO.out hi;have HRD5:=V (Oe.out.keeps Pr (fun h=>by have:=(hlt5 _ h).1;have:=HRL.out;omega) (fun i hi=>by have:=(hlt5 i hi).1;have:=Oe.out.old.2;have:=HRL.out;omega));have HK5:=V (HK.out.trans Pr (fun i hi=> .inr (hlt5 i hi).1));have HO5:=V ho5;clear ho5 Pr RL hlt5;go_wp2;refine HR.out _ _ ⟨_,acc++[(m,kd)],n',eK mJ (some lb),rfl,by rw [Pn.out,tc mJ n' acc HRW.out],by rw [pH];exact HO5.out,?_,?_,?_,by rw [HNX.out];exact HRD5.out,HK5.out,by omega⟩ ?_
    ·intro x hx
     rw [pH]at hx;rcases bU.1 hx with hx | hx
     ·exact NF.out x hx
     ·rw [(dY.1 hx).2]
      exact HKI.out
    ·rw [pH,ah,ah,bB,aB]
     have:=HUL.out;omega
    ·rw [ah]
     exact QA.out
    ·simp [intOf]
theorem vD {s:gV} {l1:List Int} {l2:List fa} (h1:ie jO (eK gD s) l1) (h2:ie lB (eK jO (eK gD s)) l2):ie mA s ⟨l1,l2⟩:=by
 rw [uZ];exact fO (f:=fun x:Nat × List Int × List fa=>ij.mk x.2.1 x.2.2) (iE (nM s) (iE h1 h2))
theorem sT (s:gV):eK mA s=eK lB (eK jO (eK gD s)):=by rw [uZ,fG,hU,hU]
theorem Il (w0 w:World) (R:Nat) (s:gV) (h:fZ w0 w R s):Calls prog 219 (#[.pointer (some ⟨R,0,none⟩)]++#[]) w (LM (fun(_:ij) (u:Value × Value)=> .agg #[u.1,u.2]) gW w0 R mA (fun _=>True) s w):=by
 have P3:=h.lt;have Rr:=h.old.2;have HH:=V (h.alloc (.cells #[.slice none 0 0, .slice none 0 0] 41));have HX:=V (eS.new w #[.slice none 0 0, .slice none 0 0] 41);have HK:=V ((ep.refl (fun k=>k=R) w).alloc (.cells #[.slice none 0 0, .slice none 0 0] 41));have Oc:(w.alloc (.cells #[.slice none 0 0, .slice none 0 0] 41)).heap.size=w.heap.size+1:=aC _ _;have Oi:=dm Oc.symm;clear h Oc;go_enter func219,ntmps219;go_wp2_with fail;refine(kg w0 _ R s HH.out).mono ?_;rintro e w1 ⟨rfl,hh,hk⟩;have Oi:=aQ Oi hk.size;have HH:=V hh;have HX:=V (HX.out.keeps hk (by omega));have HK:=V (HK.out.trans hk (fun _ h=> .inl h));clear hh hk;go_wp2_with fail;refine(C1 w0 w1 R _ HH.out).mono ?_;rintro e w2 ⟨v1,l1,rfl,P9,hp1,S1,Sm,hh,hk⟩;obtain⟨a1,c1,rfl,-,-⟩:=P9.slice;have O1:=hk.size;have HP1:=V hp1;have RM:=V Sm;have NG:=(an w2.heap.size w2).alloc (ag _) (.cells #[.slice a1 l1.length c1, .slice none 0 0] 41);have OV:=V (P9.below NG);have HV:=V (show∀i,eO (.slice a1 l1.length c1) i ->i < w2.heap.size from fun i hi=>(eM P9 hi).2);clear P9 hp1 Sm;have HH:=V hh;have HX:=V (HX.out.keeps hk (by omega));have HK:=V (HK.out.trans hk (fun _ h=> .inl h));clear hh hk;have HX:=V (HX.out.below NG HX.out.lt);have HH:=V (HH.out.below NG);have HK:=V (HK.out.alloc (.cells #[.slice a1 l1.length c1, .slice none 0 0] 41));have HY:=V (eS.new w2 #[.slice a1 l1.length c1, .slice none 0 0] 41);clear NG;obtain⟨s3,es3⟩:∃s3,eK jO (eK gD s)=s3:=⟨_,rfl⟩;rw [es3]at HH;have ES3:=V es3;clear es3;have cb:=HH.out.bad;cases s3 with
 | none=>
  have cb:(w2.alloc (.cells #[.slice a1 l1.length c1, .slice none 0 0] 41)).cell? ⟨R,1,none⟩=some (.bool true):=cb;obtain⟨y0,y1,u0,u1⟩:=HY.out.two;obtain⟨x0,x1,z0,z1⟩:=HX.out.two;go_wp2_with fail;have hx:=HX.out.nC (.slice a1 l1.length c1) (.slice none 0 0);have Np:=fQ (w2.alloc (.cells #[.slice a1 l1.length c1, .slice none 0 0] 41)) w.heap.size (.slice a1 l1.length c1) (.slice none 0 0);refine aF (eH rfl _ _ rfl hx.vJ) rfl ?_;have o1:=(OV.out.stay Np (fun i hi=>by omega)).lower (show w.heap.size <=w1.heap.size by omega);refine⟨⟨l1,[]⟩,(.slice a1 l1.length c1, .slice none 0 0),rfl,⟨⟨jv fI o1,eD.nil _⟩,HP1.out⟩,trivial,vD RM.out (by rw [ES3.out];exact nd _ _),?_,HK.out.jg Np (ag _)⟩;rw [sT,ES3.out];exact HH.out.keeps Np (by omega) (fun i hi=>by omega)
 | some L=>
  have cb:(w2.alloc (.cells #[.slice a1 l1.length c1, .slice none 0 0] 41)).cell? ⟨R,1,none⟩=some (.bool false):=cb;obtain⟨a,cap,c0,hb,hlen⟩:=HH.out.some;have Ot:=V hb;obtain⟨_,_,hv,_,OS,-⟩:=id hb;clear hb hv OS;go_wp2_with fail;refine(Ah _ L _ Ot.out (by omega)).mono ?_;rintro e w3 ⟨hb,hc⟩;have OV:=V (OV.out.below hb);have HX:=V (HX.out.below hb HX.out.lt);have HY:=V (HY.out.below hb HY.out.lt);have HH:=V (HH.out.below hb);have HK:=V (HK.out.trans (ep.et (S:=fun _=>False) hb) (fun _ h=>h.elim));have hz3:=hb.size;rw [aC]at hz3 hc;clear hb c0 cb;rcases hc with⟨l2,r,v,N3,rfl,hd⟩ | ⟨err,N3,he,-,rfl⟩
  ·obtain⟨av,cv,rfl,-,-⟩:=eD.slice (fA.low lE (fun _ _ _ _ he h=>h.ext he) hd)
   have HD:=V hd;obtain⟨p,hp⟩:=xH (y:=(l2,r)) N3;have hsk:iO (L.length - r.length) true (some L)=some r:=by
    have h1:L.length - r.length=p.length:=by rw [hp,ah];simp
    rw [h1,hp];simp [iO]
   have HNX:=V (show eK mA s=some r by rw [sT,ES3.out];simp [eK,N3]);have HWS:=V (show ie mA s ⟨l1,l2⟩from vD RM.out (by
    rw [ES3.out];intro y hy;have:some (l2,r)=some y:=by rw [<- N3];exact hy
    injection this with this;rw [<- this]))
   clear hd N3 hp;go_wp2_with fail;refine(lp w0 w3 R _ (L.length - r.length) true (by omega) HH.out).mono ?_;rintro e w4 ⟨rfl,hh,hk⟩;rw [hsk]at hh;have OV:=V (OV.out.stay hk (fun i hi=>by omega));have HY:=V (HY.out.keeps hk (by omega));have HD:=V (fA.keeps (fun _ _ _ _ he h=>h.ext he) HD.out hk (fun i hi=> .inl (by omega)));clear hsk;have HH:=V hh;have HX:=V (HX.out.keeps hk (by omega));have HK:=V (HK.out.trans hk (fun _ h=> .inl h));clear hh hk;obtain⟨y0,y1,u0,u1⟩:=HY.out.two;obtain⟨x0,x1,z0,z1⟩:=HX.out.two;go_wp2_with fail;have Pg:=eE w4 w2.heap.size 1 (.slice av l2.length cv);have hx:=(HX.out.keeps Pg (by omega)).nC (.slice a1 l1.length c1) (.slice av l2.length cv);have Np:=fQ (w4.setCell ⟨w2.heap.size,1,none⟩ (.slice av l2.length cv)) w.heap.size (.slice a1 l1.length c1) (.slice av l2.length cv);refine aF (eH rfl _ _ rfl hx.vJ) rfl ?_;have OT:ep (fun k=>k < w2.heap.size+1) w4 (((w4.setCell ⟨w2.heap.size,1,none⟩ (.slice av l2.length cv)).setCell ⟨w.heap.size,0,none⟩ (.slice a1 l1.length c1)).setCell ⟨w.heap.size,1,none⟩ (.slice av l2.length cv)):=(Pg.mono (fun i hi=>by omega)).trans Np (fun i hi=> .inl (by omega));have o1:=((OV.out.keeps Pg (fun i hi h=>by have:=HV.out i hi;omega)).stay Np (fun i hi=>by omega)).lower (show w.heap.size <=w1.heap.size by omega);have o2:=fA.low lE (fun _ _ _ _ he h=>h.ext he) (fA.keeps (fun _ _ _ _ he h=>h.ext he) HD.out OT (fun i hi=> .inl hi));have o3:gN (mask (kD w.heap.size) _) (.slice av l2.length cv) l2:=gN.ext o2 (vA _ (by omega));refine⟨⟨l1,l2⟩,(.slice a1 l1.length c1, .slice av l2.length cv),rfl,⟨⟨jv fI o1,o3⟩,HP1.out⟩,trivial,HWS.out,?_,(HK.out.jg Pg (by omega)).jg Np (ag _)⟩;rw [HNX.out];exact(HH.out.keeps Pg (by omega) (fun i hi=>by omega)).keeps Np (by omega) (fun i hi=>by omega)
  ·have f1:=eh he
   have hsk:iO 0 false (some L)=none:=rfl;have HNX:=V (show eK mA s=none by rw [sT,ES3.out];simp [eK,N3]);have HWS:=V (show ie mA s ⟨l1,[]⟩from vD RM.out (by
    rw [ES3.out];intro y hy;have:none=some y:=by rw [<- N3];exact hy
    cases this))
   clear N3 he;go_wp2_with fail;refine(lp w0 w3 R _ 0 false (by omega) HH.out).mono ?_;rintro e w4 ⟨rfl,hh,hk⟩;rw [hsk]at hh;have OV:=V (OV.out.stay hk (fun i hi=>by omega));have HY:=V (HY.out.keeps hk (by omega));clear hsk;have HH:=V hh;have HX:=V (HX.out.keeps hk (by omega));have HK:=V (HK.out.trans hk (fun _ h=> .inl h));clear hh hk;obtain⟨y0,y1,u0,u1⟩:=HY.out.two;obtain⟨x0,x1,z0,z1⟩:=HX.out.two;go_wp2_with fail;have Pg:=eE w4 w2.heap.size 1 (.slice none 0 0);have hx:=(HX.out.keeps Pg (by omega)).nC (.slice a1 l1.length c1) (.slice none 0 0);have Np:=fQ (w4.setCell ⟨w2.heap.size,1,none⟩ (.slice none 0 0)) w.heap.size (.slice a1 l1.length c1) (.slice none 0 0);refine aF (eH rfl _ _ rfl hx.vJ) rfl ?_;have OT:ep (fun k=>k < w2.heap.size+1) w4 (((w4.setCell ⟨w2.heap.size,1,none⟩ (.slice none 0 0)).setCell ⟨w.heap.size,0,none⟩ (.slice a1 l1.length c1)).setCell ⟨w.heap.size,1,none⟩ (.slice none 0 0)):=(Pg.mono (fun i hi=>by omega)).trans Np (fun i hi=> .inl (by omega));have o1:=((OV.out.keeps Pg (fun i hi h=>by have:=HV.out i hi;omega)).stay Np (fun i hi=>by omega)).lower (show w.heap.size <=w1.heap.size by omega);refine⟨⟨l1,[]⟩,(.slice a1 l1.length c1, .slice none 0 0),rfl,⟨⟨jv fI o1,eD.nil _⟩,HP1.out⟩,trivial,HWS.out,?_,(HK.out.jg Pg (by omega)).jg Np (ag _)⟩;rw [HNX.out];exact(HH.out.keeps Pg (by omega) (fun i hi=>by omega)).keeps Np (by omega) (fun i hi=>by omega)
def nX (B:Nat) (w:World) (M:Nat) (u:eT) (m:eI):Prop:=eS w M (u.cells m) 35/\eG (mask (kD B) w) u m/\m.words/\M < B/\B <=w.heap.size
theorem nX.keeps {S:Nat ->Prop} {B:Nat} {w w':World} {M:Nat} {u:eT} {m:eI} (h:nX B w M u m) (hk:ep S w w') (hS:∀i,S i ->i < B\/w.heap.size <=i) (hM:¬ S M):nX B w' M u m:=
 ⟨h.1.keeps hk hM,h.2.1.ext (nV hk hS (.inl (ag _))),h.2.2.1,h.2.2.2.1,aQ h.2.2.2.2 hk.size⟩
theorem nX.below {B:Nat} {w w':World} {M:Nat} {u:eT} {m:eI} (h:nX B w M u m) (hb:Below w.heap.size w w'):nX B w' M u m:=
 h.keeps (ep.et (S:=fun _=>False) hb) (fun _ h=>h.elim) (fun h=>h)
theorem nX.put {B:Nat} {w:World} {M:Nat} {u u':eT} {m m':eI} {i:Nat} {v:Value} (h:nX B w M u m) (hc:(u.cells m).setIfInBounds i v=u'.cells m') (hw:m'.words)
  (hi:eG (mask (kD B) (w.setCell ⟨M,i,none⟩ v)) u m ->eG (mask (kD B) (w.setCell ⟨M,i,none⟩ v)) u' m'):nX B (w.setCell ⟨M,i,none⟩ v) M u' m':=by
 have hk:=eE w M i v;exact⟨by rw [<- hc];exact h.1.set i v,hi (h.2.1.ext (nV hk (fun k e=> .inl (by rw [e];exact h.2.2.2.1)) (.inl (ag _)))),hw,h.2.2.2.1,aQ h.2.2.2.2 hk.size⟩
theorem nX.uS {B:Nat} {w:World} {M:Nat} {u u':eT} {m m':eI} {i:Nat} {v0 v1 v2:Value} (h:nX B w M u m) (hc:(((u.cells m).setIfInBounds i v0).setIfInBounds (i+1) v1).setIfInBounds (i+2) v2=u'.cells m') (hw:m'.words)
  (hi:∀w',eG w' u m ->eG w' u' m'):nX B (((w.setCell ⟨M,i,none⟩ v0).setCell ⟨M,i+1,none⟩ v1).setCell ⟨M,i+2,none⟩ v2) M u' m'/\ep (fun k=>k=M) w (((w.setCell ⟨M,i,none⟩ v0).setCell ⟨M,i+1,none⟩ v1).setCell ⟨M,i+2,none⟩ v2):=by
 have hk:=((eE w M i v0).trans (eE _ M (i+1) v1) (fun _ h=> .inl h)).trans (eE _ M (i+2) v2) (fun _ h=> .inl h);exact⟨⟨by rw [<- hc];exact((h.1.set i v0).set (i+1) v1).set (i+2) v2,hi _ (h.2.1.ext (nV hk (fun k e=> .inl (by rw [e];exact h.2.2.2.1)) (.inl (ag _)))),hw,h.2.2.2.1,aQ h.2.2.2.2 hk.size⟩,hk⟩
theorem uo {α β:Type} {t:TypeId} {k:Nat} {enc:α × β ->List Value} {inner:World ->α ->β ->Prop} (hk:∀x,(enc x).length=k) (hx:∀w w' x u,Ext w w' ->inner w x u ->inner w' x u) {w:World} {B B1 M i:Nat} {v x:Value} {l:List α} (h:fA t k enc inner w B1 v l) (hB:B <=B1) (hM:M < B):
  eD k enc inner (mask (kD B) (w.setCell ⟨M,i,none⟩ x)) v l:=
 eD.ext (fA.low hk hx (fA.keeps hx h (eE w M i x) (fun j hj=> .inl (by omega)))) (vA _ hB) (fun _ _ h=>hx _ _ _ _ (vA _ hB) h)
theorem uE {α:Type} {t:TypeId} {k:Nat} {enc:α ->List Value} (hk:∀x,(enc x).length=k) {w:World} {B B1 M i:Nat} {v x:Value} {l:List α} (h:ei t k enc w B1 v l) (hB:B <=B1) (hM:M < B):
  eA k enc (mask (kD B) (w.setCell ⟨M,i,none⟩ x)) v l:=
 (jv hk ((h.stay (eE w M i x) (fun j hj=>by omega)).lower hB))
def mb (w0 w:World) (R M B:Nat) (no:Nat) (st:gV) (m:eI) (e:Ending) (w':World):Prop:=
 ∃u' m',e= .returned (.tuple #[])/\nX B w' M u' m'/\ie (jS no m) st m'/\fZ w0 w' R (eK (jS no m) st)/\ep (fun k=>k=R\/k=M) w w'
theorem Jl {l:List kj} (h:∀x∈l,x.fits):∀x∈l,x.mod.size <=1000000000000/\x.name.size <=1000000000000:=fun x hx=>by
 obtain⟨h1,h2,_⟩:=h x hx;omega
theorem JR {l:List jr} (h:∀x∈l,x.fits):∀x∈l,x.name.size <=1000000000000:=fun x hx=>by
 obtain⟨h1,_⟩:=h x hx;omega
def qT (no:Nat) (i:Int):Prop:=∀(n:Nat) (_:n=no) (w0 w:World) (R M B:Nat) (st:gV) (u:eT) (m:eI),fZ w0 w R st ->nX B w M u m ->R < B ->R≠M ->w0.heap.size <=M ->Calls prog 123 #[.pointer (some ⟨R,0,none⟩), .pointer (some ⟨M,0,none⟩), .int .i64 i] w (mb w0 w R M B no st m)
theorem mb.of {w0 w w2:World} {R M B no i:Nat} {st PX:gV} {u u':eT} {m m':eI} {v:Value} (hM:nX B w2 M u m) (hH:fZ w0 w2 R PX) (hK:ep (fun k=>k=R\/k=M) w w2) (Qi:R≠M) (QP:w0.heap.size <=M)
  (hc:(u.cells m).setIfInBounds i v=u'.cells m') (hw:m'.words) (hi:eG (mask (kD B) (w2.setCell ⟨M,i,none⟩ v)) u m ->eG (mask (kD B) (w2.setCell ⟨M,i,none⟩ v)) u' m') (h1:ie (jS no m) st m') (h2:eK (jS no m) st=PX):
  mb w0 w R M B no st m (.returned (.tuple #[])) (w2.setCell ⟨M,i,none⟩ v):=by
 have Np:=eE w2 M i v;refine⟨u',m',rfl,hM.put hc hw hi,h1,?_,hK.trans Np (fun _ h=> .inl (.inr h))⟩;rw [h2];exact hH.keeps Np (fun h=>Qi h) (fun i hi=>by subst hi;exact QP)
theorem Hb:qT 1 1/\qT 2 2/\qT 3 3/\qT 6 6/\qT 7 7/\qT 9 9/\qT 10 10/\qT 11 11:=by
 refine⟨?_,?_,?_,?_,?_,?_,?_,?_⟩
 all_goals
  intro n OD w0 w R M B st u m h hm TM Qi QP;have P3:=h.lt;have Rh:=(an w.heap.size w).alloc (ag _) (.cells #[.pointer (some ⟨R,0,none⟩)] 193);have HH:=V (h.below Rh);have HM:=V (hm.below Rh);have HM0:=V hm;have HA:=V (eS.new w #[.pointer (some ⟨R,0,none⟩)] 193);have HK:=V ((ep.refl (fun k=>k=R\/k=M) w).alloc (.cells #[.pointer (some ⟨R,0,none⟩)] 193));have a0:=HA.out.cell 0;simp only [aM,aK]at a0;clear h hm Rh;go_enter func123,ntmps123;go_wp2_with fail;clear a0;have hMB:M < B:=HM.out.2.2.2.1;have hBw:B <=w.heap.size:=HM0.out.2.2.2.2;generalize w.alloc (.cells #[.pointer (some ⟨R,0,none⟩)] 193)=wa at HH HM HA HK⊢;have Sp:B <=wa.heap.size:=HM.out.2.2.2.2
  first
  | (have:n=1:=OD;refine(Ko w0 R pX (fun _=>True) xX st wa 206 #[.pointer (some ⟨R,0,none⟩)] #[] (fun _ _=>by rfl) HH.out (fun s w1 h _=>I2 w0 w1 R s h)).mono ?_)
  | (have:n=2:=OD;refine(JP w0 R vw kj.fits Ag st wa 208 #[.pointer (some ⟨R,0,none⟩)] #[] (fun _ _=>by rfl) HH.out (fun s w1 h _=>CX w0 w1 R s h)).mono ?_)
  | (have:n=3:=OD;refine(ox w0 R wX iV pr st wa 122 #[.pointer (some ⟨R,0,none⟩)] #[] (fun _ _=>by rfl) HH.out (fun s w1 h _=>Gk w0 w1 R s h)).mono ?_)
  | (have:n=6:=OD;refine(JG w0 R qs (fun x=>x.init.ok) xG st wa 212 #[.pointer (some ⟨R,0,none⟩)] #[] (fun _ _=>by rfl) HH.out (fun s w1 h _=>Dc w0 w1 R s h)).mono ?_)
  | (have:n=7:=OD;refine(Kn w0 R uP jr.fits Av st wa 214 #[.pointer (some ⟨R,0,none⟩)] #[] (fun _ _=>by rfl) HH.out (fun s w1 h _=>Cz w0 w1 R s h)).mono ?_)
  | (have:n=9:=OD;refine(J1 w0 R qv (fun _=>True) yg st wa 216 #[] #[.pointer (some ⟨w.heap.size,0,none⟩)] (fun _ _=>by rfl) HH.out (fun s w1 h hk=>Lk w0 w1 R w.heap.size s h (HA.out.keeps hk (by omega)) P3)).mono ?_)
  | (have:n=10:=OD;refine(Jh w0 R mA (fun _=>True) yq st wa 219 #[.pointer (some ⟨R,0,none⟩)] #[] (fun _ _=>by rfl) HH.out (fun s w1 h _=>Il w0 w1 R s h)).mono ?_)
  | (have:n=11:=OD;refine(Kl w0 R wI (fun _=>True) AP st wa 221 #[] #[.pointer (some ⟨w.heap.size,0,none⟩)] (fun _ _=>by rfl) HH.out (fun s w1 h hk=>LZ w0 w1 R w.heap.size s h (HA.out.keeps hk (by omega)) P3)).mono ?_)
  rintro e w2 ⟨v,l,rfl,ho,hp,hl,hw,hh,hk⟩
  first
  | (have:n=2:=OD;obtain⟨a,cap,rfl,-,-⟩:=ho.slice)
  | (have:n=3:=OD;obtain⟨a,cap,rfl,-,-⟩:=ho.slice)
  | (have:n=6:=OD;obtain⟨a,cap,rfl,-,-⟩:=ho.slice)
  | (have:n=7:=OD;obtain⟨a,cap,rfl,-,-⟩:=ho.slice)
  | (have:n=1:=OD;obtain⟨a,cap,rfl,-,-⟩:=eD.slice (fA.low vC (fun _ _ _ _ he h=>h.ext he) ho))
  | (have:n=9:=OD;obtain⟨a,cap,rfl,-,-⟩:=eD.slice (fA.low wF (fun _ _ _ _ he h=>h.ext he) ho))
  | (have:n=10:=OD;obtain⟨a,cap,rfl,-,-⟩:=eD.slice (fA.low vK (fun _ _ _ _ he h=>h.ext he) ho))
  | (have:n=11:=OD;obtain⟨a,cap,rfl,-,-⟩:=eD.slice (fA.low th (fun _ _ _ _ he h=>h.ext he) ho))
  have HO:=V ho;have HP:=V hp;have HW:=V hw;have HH:=V hh;have OK:=V (HM.out.keeps hk (fun i hi=> .inl (by omega)) (fun h=>Qi h.symm));have HK:=V (HK.out.trans hk (fun _ h=> .inl (.inl h)));have x0:=OK.out.1.cell 0;have z0:=OK.out.1.free 0;have x1:=OK.out.1.cell 1;have z1:=OK.out.1.free 1;have x2:=OK.out.1.cell 2;have z2:=OK.out.1.free 2;have x9:=OK.out.1.cell 9;have z9:=OK.out.1.free 9;have x10:=OK.out.1.cell 10;have z10:=OK.out.1.free 10;have x11:=OK.out.1.cell 11;have z11:=OK.out.1.free 11;have x12:=OK.out.1.cell 12;have z12:=OK.out.1.free 12;have x13:=OK.out.1.cell 13;have z13:=OK.out.1.free 13;simp only [eT.cells,aM,aK,aT]at x0 x1 x2 x9 x10 x11 x12 x13;clear ho hp hw hh hk;go_wp2
  go_end0
  first
  | (have:n=1:=OD;exact mb.of (u':={u with types:= .slice a l.length cap}) (m':={m with types:=l}) OK.out HH.out HK.out Qi QP rfl OK.out.2.2.1 (fun⟨h1,h2,h3,h4,h5,h6,h7,h8,k1,k2,k3,k4,k5,k6⟩=>⟨uo vC (fun _ _ _ _ he h=>h.ext he) HO.out Sp hMB,h2,h3,h4,h5,h6,h7,h8,k1,k2,k3,k4,k5,k6⟩) (by rw [GF];exact fO (f:=fun x=>{m with types:=x}) HW.out) (by rw [GF,fG]))
  | (have:n=2:=OD;exact mb.of (u':={u with imports:= .slice a l.length cap}) (m':={m with imports:=l}) OK.out HH.out HK.out Qi QP rfl ⟨Jl HP.out,OK.out.2.2.1.2⟩ (fun⟨h1,h2,h3,h4,h5,h6,h7,h8,k1,k2,k3,k4,k5,k6⟩=>⟨h1,uE A1 HO.out Sp hMB,h3,h4,h5,h6,h7,h8,fun x hx=>(HP.out x hx).2.2,k2,k3,k4,k5,k6⟩) (by rw [Gu];exact fO (f:=fun x=>{m with imports:=x}) HW.out) (by rw [Gu,fG]))
  | (have:n=3:=OD;exact mb.of (u':={u with funcs:= .slice a l.length cap}) (m':={m with funcs:=l}) OK.out HH.out HK.out Qi QP rfl OK.out.2.2.1 (fun⟨h1,h2,h3,h4,h5,h6,h7,h8,k1,k2,k3,k4,k5,k6⟩=>⟨h1,h2,uE fI HO.out Sp hMB,h4,h5,h6,h7,h8,k1,HP.out,k3,k4,k5,k6⟩) (by rw [Ip];exact fO (f:=fun x=>{m with funcs:=x}) HW.out) (by rw [Ip,fG]))
  | (have:n=6:=OD;exact mb.of (u':={u with globals:= .slice a l.length cap}) (m':={m with globals:=l}) OK.out HH.out HK.out Qi QP rfl OK.out.2.2.1 (fun⟨h1,h2,h3,h4,h5,h6,h7,h8,k1,k2,k3,k4,k5,k6⟩=>⟨h1,h2,h3,uE zY HO.out Sp hMB,h5,h6,h7,h8,k1,k2,k3,k4,HP.out,k6⟩) (by rw [IN];exact fO (f:=fun x=>{m with globals:=x}) HW.out) (by rw [IN,fG]))
  | (have:n=7:=OD;exact mb.of (u':={u with ey:= .slice a l.length cap}) (m':={m with ey:=l}) OK.out HH.out HK.out Qi QP rfl ⟨OK.out.2.2.1.1,JR HP.out⟩ (fun⟨h1,h2,h3,h4,h5,h6,h7,h8,k1,k2,k3,k4,k5,k6⟩=>⟨h1,h2,h3,h4,uE A9 HO.out Sp hMB,h6,h7,h8,k1,k2,k3,k4,k5,fun x hx=>(HP.out x hx).2⟩) (by rw [Gg];exact fO (f:=fun x=>{m with ey:=x}) HW.out) (by rw [Gg,fG]))
  | (have:n=9:=OD;exact mb.of (u':={u with elems:= .slice a l.length cap}) (m':={m with elems:=l}) OK.out HH.out HK.out Qi QP rfl OK.out.2.2.1 (fun⟨h1,h2,h3,h4,h5,h6,h7,h8,k1,k2,k3,k4,k5,k6⟩=>⟨h1,h2,h3,h4,h5,uo wF (fun _ _ _ _ he h=>h.ext he) HO.out Sp hMB,h7,h8,k1,k2,k3,k4,k5,k6⟩) (by rw [GO];exact fO (f:=fun x=>{m with elems:=x}) HW.out) (by rw [GO,fG]))
  | (have:n=10:=OD;exact mb.of (u':={u with eF:= .slice a l.length cap}) (m':={m with eF:=l}) OK.out HH.out HK.out Qi QP rfl OK.out.2.2.1 (fun⟨h1,h2,h3,h4,h5,h6,h7,h8,k1,k2,k3,k4,k5,k6⟩=>⟨h1,h2,h3,h4,h5,h6,uo vK (fun _ _ _ _ he h=>h.ext he) HO.out Sp hMB,h8,k1,k2,k3,k4,k5,k6⟩) (by rw [Di];exact fO (f:=fun x=>{m with eF:=x}) HW.out) (by rw [Di,fG]))
  | (have:n=11:=OD;exact mb.of (u':={u with eP:= .slice a l.length cap}) (m':={m with eP:=l}) OK.out HH.out HK.out Qi QP rfl OK.out.2.2.1 (fun⟨h1,h2,h3,h4,h5,h6,h7,h8,k1,k2,k3,k4,k5,k6⟩=>⟨h1,h2,h3,h4,h5,h6,h7,uo th (fun _ _ _ _ he h=>h.ext he) HO.out Sp hMB,k1,k2,k3,k4,k5,k6⟩) (by rw [Df];exact fO (f:=fun x=>{m with eP:=x}) HW.out) (by rw [Df,fG]))
theorem Ii:qT 4 4/\qT 5 5:=by
 refine⟨?_,?_⟩
 all_goals
  intro n OD w0 w R M B st u m h hm TM Qi QP;have P3:=h.lt;have Rh:=(an w.heap.size w).alloc (ag _) (.cells #[.pointer (some ⟨R,0,none⟩)] 193);have HH:=V (h.below Rh);have HM:=V (hm.below Rh);have HM0:=V hm;have HA:=V (eS.new w #[.pointer (some ⟨R,0,none⟩)] 193);have HK:=V ((ep.refl (fun k=>k=R\/k=M) w).alloc (.cells #[.pointer (some ⟨R,0,none⟩)] 193));have a0:=HA.out.cell 0;simp only [aM,aK]at a0;clear h hm Rh;go_enter func123,ntmps123;go_wp2_with fail;clear a0;have hMB:M < B:=HM.out.2.2.2.1;have hBw:B <=w.heap.size:=HM0.out.2.2.2.2;generalize w.alloc (.cells #[.pointer (some ⟨R,0,none⟩)] 193)=wa at HH HM HA HK⊢;have Sp:B <=wa.heap.size:=HM.out.2.2.2.2
  first
  | (have:n=4:=OD;refine(tK w0 wa R true st HH.out).mono ?_)
  | (have:n=5:=OD;refine(tK w0 wa R false st HH.out).mono ?_)
  rintro e w2 ⟨x,rfl,Nt,hw,hh,hk⟩;have Oj:=V Nt;have HW:=V hw;have HH:=V hh;have OK:=V (HM.out.keeps hk (fun i hi=> .inl (by omega)) (fun h=>Qi h.symm));have HK:=V (HK.out.trans hk (fun _ h=> .inl (.inl h)));have x3:=OK.out.1.cell 3;have z3:=OK.out.1.free 3;have x4:=OK.out.1.cell 4;have z4:=OK.out.1.free 4;have x5:=OK.out.1.cell 5;have z5:=OK.out.1.free 5;have x6:=OK.out.1.cell 6;have z6:=OK.out.1.free 6;have x7:=OK.out.1.cell 7;have z7:=OK.out.1.free 7;have x8:=OK.out.1.cell 8;have z8:=OK.out.1.free 8;simp only [eT.cells,aM,aK,aT]at x3 x4 x5 x6 x7 x8;clear Nt hw hh hk;go_wp2
  go_end0
  first
  | (have:n=4:=OD
     obtain⟨hmd,Np⟩:=nX.uS (u':=u) (m':={m with table:=x}) (i:=3) (v0:= .bool x.has) (v1:= .int .i64 x.min) (v2:= .int .i64 x.max) OK.out rfl OK.out.2.2.1 (fun w' ⟨h1,h2,h3,h4,h5,h6,h7,h8,k1,k2,k3,k4,k5,k6⟩=>⟨h1,h2,h3,h4,h5,h6,h7,h8,k1,k2,Oj.out,k4,k5,k6⟩);refine⟨u,{m with table:=x},rfl,hmd,?_,?_,HK.out.trans Np (fun _ h=> .inl (.inr h))⟩
     ·rw [Ia]
      intro y hy;have hz:ie (ib (fun x=>({m with table:=x}:eI)) (ib ki (fF ly))) st {m with table:=x}:=fO HW.out;refine hz y ?_;rw [<- hy];cases st with
      | none=>rfl
      | some q=>simp only [ao,ib];cases fF ly q <;>rfl
     ·rw [Ia,fG]
      exact HH.out.keeps Np (fun h=>Qi h) (fun i hi=>by subst hi;exact QP))
  | (have:n=5:=OD
     obtain⟨hmd,Np⟩:=nX.uS (u':=u) (m':={m with mem:=x}) (i:=6) (v0:= .bool x.has) (v1:= .int .i64 x.min) (v2:= .int .i64 x.max) OK.out rfl OK.out.2.2.1 (fun w' ⟨h1,h2,h3,h4,h5,h6,h7,h8,k1,k2,k3,k4,k5,k6⟩=>⟨h1,h2,h3,h4,h5,h6,h7,h8,k1,k2,k3,Oj.out,k5,k6⟩);refine⟨u,{m with mem:=x},rfl,hmd,?_,?_,HK.out.trans Np (fun _ h=> .inl (.inr h))⟩
     ·rw [Ih]
      intro y hy;have hz:ie (ib (fun x=>({m with mem:=x}:eI)) (ib ki (fF gw))) st {m with mem:=x}:=fO HW.out;refine hz y ?_;rw [<- hy];cases st with
      | none=>rfl
      | some q=>simp only [ao,ib];cases fF gw q <;>rfl
     ·rw [Ih,fG]
      exact HH.out.keeps Np (fun h=>Qi h) (fun i hi=>by subst hi;exact QP))
theorem Mk (w0 w:World) (R M B:Nat) (no:Nat) (st:gV) (u:eT) (m:eI) (h:fZ w0 w R st) (hm:nX B w M u m) (TM:R < B) (Qi:R≠M) (OD:no=0\/no=8\/11 < no):
  Calls prog 123 #[.pointer (some ⟨R,0,none⟩), .pointer (some ⟨M,0,none⟩), .int .i64 no] w (mb w0 w R M B no st m):=by
 have Rh:=(an w.heap.size w).alloc (ag _) (.cells #[.pointer (some ⟨R,0,none⟩)] 193);have HH:=V (h.below Rh);have HM:=V (hm.below Rh);have HA:=V (eS.new w #[.pointer (some ⟨R,0,none⟩)] 193);have HK:=V ((ep.refl (fun k=>k=R\/k=M) w).alloc (.cells #[.pointer (some ⟨R,0,none⟩)] 193));have a0:=HA.out.cell 0;simp only [aM,aK]at a0;have c1:=HH.out.bad;have z1:=HH.out.free 1;have f1:((no:Int)==1)=false:=eh (by omega);have f2:((no:Int)==2)=false:=eh (by omega);have f3:((no:Int)==3)=false:=eh (by omega);have f4:((no:Int)==4)=false:=eh (by omega);have f5:((no:Int)==5)=false:=eh (by omega);have f6:((no:Int)==6)=false:=eh (by omega);have f7:((no:Int)==7)=false:=eh (by omega);have f9:((no:Int)==9)=false:=eh (by omega);have f10:((no:Int)==10)=false:=eh (by omega);have f11:((no:Int)==11)=false:=eh (by omega);have HNO:=V (fun l=>xN (n:=no) m l OD);clear h hm Rh OD;go_enter func123,ntmps123;go_wp2
 go_end0
 have Np:=eE (w.alloc (.cells #[.pointer (some ⟨R,0,none⟩)] 193)) R 1 (.bool true);have hN:st.bind (jS no m)=none:=by
  cases st with
  | none=>rfl
  | some l=>exact HNO.out l
 refine⟨u,m,rfl,HM.out.keeps Np (fun i hi=> .inl (by omega)) (fun h=>Qi h.symm),fun y hy=>(by rw [hN]at hy;cases hy),?_,HK.out.trans Np (fun _ h=> .inl (.inl h))⟩;rw [show eK (jS no m) st=none by unfold eK;rw [hN];rfl];exact HH.out.fail
theorem AF (w0 w:World) (R M B:Nat) (no:Nat) (st:gV) (u:eT) (m:eI) (h:fZ w0 w R st) (hm:nX B w M u m) (TM:R < B) (Qi:R≠M) (QP:w0.heap.size <=M):
  Calls prog 123 #[.pointer (some ⟨R,0,none⟩), .pointer (some ⟨M,0,none⟩), .int .i64 no] w (mb w0 w R M B no st m):=by
 by_cases OD:no=0\/no=8\/11 < no
 ·exact Mk w0 w R M B no st u m h hm TM Qi OD
 ·have h2:no=1\/no=2\/no=3\/no=4\/no=5\/no=6\/no=7\/no=9\/no=10\/no=11:=by omega
  obtain⟨c1,c2,c3,c6,c7,c9,c10,c11⟩:=Hb;obtain⟨c4,c5⟩:=Ii;rcases h2 with rfl | rfl | rfl | rfl | rfl | rfl | rfl | rfl | rfl | rfl
  ·exact c1 _ rfl w0 w R M B st u m h hm TM Qi QP
  ·exact c2 _ rfl w0 w R M B st u m h hm TM Qi QP
  ·exact c3 _ rfl w0 w R M B st u m h hm TM Qi QP
  ·exact c4 _ rfl w0 w R M B st u m h hm TM Qi QP
  ·exact c5 _ rfl w0 w R M B st u m h hm TM Qi QP
  ·exact c6 _ rfl w0 w R M B st u m h hm TM Qi QP
  ·exact c7 _ rfl w0 w R M B st u m h hm TM Qi QP
  ·exact c9 _ rfl w0 w R M B st u m h hm TM Qi QP
  ·exact c10 _ rfl w0 w R M B st u m h hm TM Qi QP
  ·exact c11 _ rfl w0 w R M B st u m h hm TM Qi QP
def Jm (l:List UInt8) (w:World) (e:Ending) (w':World):Prop:=e= .returned (.bool (l.take 8==fN))/\w'=w
theorem Dq (l:List UInt8) (n:Nat):(bs l).extract 0 n=bs (l.take n):=by
 apply ByteArray.ext;simp [bs]
theorem xp (l:List UInt8) (hl:l.length <=1000000) (w:World):Calls prog 119 #[.string (bs l), .string (bs fN)] w (Jm l w):=by
 have hs:(bs l).size=l.length:=DK l;have hh:(bs fN).size=8:=rfl;by_cases q:8 <=l.length
 ·have f1:decide ((8:Int) <=(l.length:Int))=true:=ay (by omega)
  have f2:decide (8 <=l.length)=true:=ay q;have he:=Dq l 8;go_enter func119,ntmps119;go_wp2;go_ret;refine⟨?_,rfl⟩;show Ending.returned (.bool ((bs (l.take 8)).toList==(bs fN).toList))=_;rw [lP,lP]
 ·have f1:decide ((8:Int) <=(l.length:Int))=false:=aw (by omega)
  have f2:decide (8 <=l.length)=false:=aw q;go_enter func119,ntmps119;go_wp2;go_ret;refine⟨?_,rfl⟩;have h:(l.take 8==fN)=false:=de.2 (fun h=>by
   have:=cY List.length h;rw [aP,show fN.length=8 from rfl]at this;omega)
  rw [h];rfl
def rE (l:List UInt8):Option eI:=(mS l).bind fun m=>if m.may/\fL m=l then some m else none
def u0:eT:=⟨.slice none 0 0, .slice none 0 0, .slice none 0 0, .slice none 0 0, .slice none 0 0, .slice none 0 0, .slice none 0 0, .slice none 0 0⟩
theorem te (w:World):eG w u0 m0:=
 ⟨eD.nil _,eA.nil _,eA.nil _,eA.nil _,eA.nil _,eD.nil _,eD.nil _,eD.nil _,by simp [m0],by simp [m0],oF,oF,by simp [m0],by simp [m0]⟩
theorem G7:m0.words:=⟨by simp [m0],by simp [m0]⟩
def J0 (l:List UInt8) (w:World) (e:Ending) (w':World):Prop:=
 Below w.heap.size w w'/\((∃u m,rE l=some m/\e= .returned (.tuple #[.agg (u.cells m), .int .i64 0])/\eG (mask (kD w.heap.size) w') u m/\m.words)\/
  (rE l=none/\e= .returned (.tuple #[.agg (u0.cells m0), .int .i64 (if 8000 < l.length then 4 else 1)])))
theorem EO {c:UInt8} {rest:List UInt8} {f:Nat} {m m':eI} (hw:ie (jS c.toNat m) (eK gD (some rest)) m'):
  (some (c::rest):gV).bind (oK (f+1) m)=(eK (jS c.toNat m) (eK gD (some rest))).bind (oK f m'):=by
 simp only [ao,oK];cases h:gD rest with
 | none=>simp [eK,h]
 | some k=>
  have h2:eK gD (some rest)=some k.2:=by simp [eK,h]
  rw [h2]at hw⊢;simp only [ao];cases h3:jS c.toNat m k.2 with
  | none=>simp [eK,h3]
  | some x=>
   have:=hw x (by simpa using h3);subst this;simp [eK,h3]
theorem xC {l:List UInt8} (hl:l.length <=8000):mS l=(iO 8 true (if(l.take 8==fN)=true then some l else none)).bind (oK (l.length+1) m0):=by
 unfold mS;rw [az (by omega)];by_cases q:l.take 8=fN
 ·have h8:8 <=l.length:=by
   have:=cY List.length q;rw [aP,show fN.length=8 from rfl]at this;omega
  rw [aE q,aE (by simp [q])];simp [iO,h8]
 ·rw [az q,az (by simp [q])]
  rfl
def F9 (w:World) (R:Nat):Nat:=match w.cell? ⟨R,1,none⟩,w.cell? ⟨R,0,none⟩with
 | some (.bool false),some (.slice _ n _)=>n+1
 | _,_=>0
theorem fZ.left {w0 w:World} {R:Nat} {s:gV} (h:fZ w0 w R s):F9 w R=s.len:=by
 obtain⟨a,l,cap,bad,h1,h2,h3,h4,h5,h6⟩:=h;subst h4;unfold F9;rw [h1.cell 1,h1.cell 0];cases bad <;>rfl
def MG (l:List UInt8) (X M R B:Nat) (w w':World) (u:eT) (m:eI) (s:gV) (f:Nat):Prop:=
 mS l=s.bind (oK f m)/\s.len <=f/\fZ w w' R s/\nX B w' M u m/\eS w' X (u0.cells m0) 35/\Below w.heap.size w w'
theorem eS.mh {w:World} {X:Nat} {u:eT} {m:eI} {t:TypeId} (h:eS w X (u.cells m) t):(loadVar 35 ⟨X,0,none⟩).run prog w= .ok (.agg (u.cells m)) w:=by
 have hs:(prog.underlying 35).map (fun d=>match d with | .struct _ | .array _ _=>true | _=>false)=some true:=by kernel_rfl
 obtain⟨d,h1,h2⟩:=bC.1 hs;exact bW w X t 35 _ _ d h h1 (by cases d <;>first | rfl | (exfalso;simp at h2)) (by kernel_rfl)
def pz (w:World) (X:Nat) (u:eT) (m:eI):World:=
 (((((((((((((w.setCell ⟨X,0,none⟩ u.types).setCell ⟨X,1,none⟩ u.imports).setCell ⟨X,2,none⟩ u.funcs).setCell ⟨X,3,none⟩ (.bool m.table.has)).setCell ⟨X,4,none⟩ (.int .i64 m.table.min)).setCell ⟨X,5,none⟩ (.int .i64 m.table.max)).setCell ⟨X,6,none⟩ (.bool m.mem.has)).setCell ⟨X,7,none⟩ (.int .i64 m.mem.min)).setCell ⟨X,8,none⟩ (.int .i64 m.mem.max)).setCell ⟨X,9,none⟩ u.globals).setCell ⟨X,10,none⟩ u.ey).setCell ⟨X,11,none⟩ u.elems).setCell ⟨X,12,none⟩ u.eF).setCell ⟨X,13,none⟩ u.eP
theorem kY (w:World) (X:Nat) (u:eT) (m:eI):ep (fun k=>k=X) w (pz w X u m):=by
 have st:∀{a b:World} (i:Nat) (v:Value),ep (fun k=>k=X) a b ->ep (fun k=>k=X) a (b.setCell ⟨X,i,none⟩ v):=fun i v h=>h.trans (eE _ X i v) (fun _ h=> .inl h);exact st _ _ (st _ _ (st _ _ (st _ _ (st _ _ (st _ _ (st _ _ (st _ _ (st _ _ (st _ _ (st _ _ (st _ _ (st _ _ (st _ _ (ep.refl _ _))))))))))))))
theorem eS.pz {w:World} {X:Nat} {u':eT} {m':eI} {t:TypeId} (h:eS w X (u'.cells m') t) (u:eT) (m:eI):eS (pz w X u m) X (u.cells m) t:=by
 have h1:=(((((((((((((h.set 0 u.types).set 1 u.imports).set 2 u.funcs).set 3 (.bool m.table.has)).set 4 (.int .i64 m.table.min)).set 5 (.int .i64 m.table.max)).set 6 (.bool m.mem.has)).set 7 (.int .i64 m.mem.min)).set 8 (.int .i64 m.mem.max)).set 9 u.globals).set 10 u.ey).set 11 u.elems).set 12 u.eF).set 13 u.eP;simp only [eT.cells,aX,bE,bG]at h1;exact h1
theorem eS.wE {w:World} {X:Nat} {xs:Array Value} {t:TypeId} (h:eS w X xs t):w.frozen? ⟨X,0,none⟩=false/\w.frozen? ⟨X,1,none⟩=false/\w.frozen? ⟨X,2,none⟩=false/\w.frozen? ⟨X,3,none⟩=false/\w.frozen? ⟨X,4,none⟩=false/\w.frozen? ⟨X,5,none⟩=false/\w.frozen? ⟨X,6,none⟩=false/\w.frozen? ⟨X,7,none⟩=false/\w.frozen? ⟨X,8,none⟩=false/\w.frozen? ⟨X,9,none⟩=false/\w.frozen? ⟨X,10,none⟩=false/\w.frozen? ⟨X,11,none⟩=false/\w.frozen? ⟨X,12,none⟩=false/\w.frozen? ⟨X,13,none⟩=false:=
 ⟨h.free 0,h.free 1,h.free 2,h.free 3,h.free 4,h.free 5,h.free 6,h.free 7,h.free 8,h.free 9,h.free 10,h.free 11,h.free 12,h.free 13⟩
theorem rS (b:Value) (l:List UInt8) (w:World) (hb:eZ w b l) (QL:l.length <=1000000):Calls prog 80 #[b] w (J0 l w):=by
 have HB:=V hb;obtain⟨a,cap,rfl,NX,Px,-⟩:=id hb;clear hb;by_cases q:8000 < l.length
 ·have f1:decide ((8000:Int) < (l.length:Int))=true:=ay (by omega)
  have f2:decide (8000 < l.length)=true:=ay q;have HX:=V (show eS (w.alloc (.cells (u0.cells m0) 35)) w.heap.size (u0.cells m0) 35 from eS.new w _ _);have HD:=V (show rE l=none by simp [rE,mS,q]);go_enter func80,ntmps80;obtain⟨p0,p1,p2,p3,p4,p5,p6,p7,p8,p9,p10,p11,p12,p13⟩:=HX.out.mod;obtain⟨q0,q1,q2,q3,q4,q5,q6,q7,q8,q9,q10,QN,q12,q13⟩:=HX.out.wE;go_wp2_with fail;refine aF (fy rfl _ _ rfl HX.out.mh) rfl ?_;exact⟨(an _ _).alloc (ag _) _, .inr ⟨HD.out,by rw [aE q];rfl⟩⟩
 have f1:decide ((8000:Int) < (l.length:Int))=false:=aw (by omega);have f2:decide (8000 < l.length)=false:=aw q;have Nn:=V (xC (l:=l) (by omega));have No:Below w.heap.size w ((w.alloc (.cells #[.slice none 0 0, .slice none 0 0, .slice none 0 0, .bool false, .int .i64 0, .int .i64 0, .bool false, .int .i64 0, .int .i64 0, .slice none 0 0, .slice none 0 0, .slice none 0 0, .slice none 0 0, .slice none 0 0] 35)).alloc (.cells #[.slice none 0 0, .slice none 0 0, .slice none 0 0, .bool false, .int .i64 0, .int .i64 0, .bool false, .int .i64 0, .int .i64 0, .slice none 0 0, .slice none 0 0, .slice none 0 0, .slice none 0 0, .slice none 0 0] 35)):=((an _ _).alloc (ag _) _).alloc (by rw [aC];omega) _;have hstr:=qN (HB.out.below No);clear No;go_enter func80,ntmps80;go_wp2_with fail;refine(xp l QL _).mono ?_;rintro e w1 ⟨rfl,rfl⟩;obtain⟨pb,hpb⟩:∃pb,(l.take 8==fN)=pb:=⟨_,rfl⟩;rw [hpb];rw [hpb]at Nn;clear hpb hstr;go_wp2_with fail;obtain⟨bad,hbad⟩:∃bad,(!pb)=bad:=⟨_,rfl⟩;rw [hbad];have Nn:=V (show mS l=(iO 8 true (if bad=true then none else some l)).bind (oK (l.length+1) m0)by
  rw [Nn.out, <- hbad];cases pb <;>rfl)
 clear hbad;have hX:=eS.new w #[.slice none 0 0, .slice none 0 0, .slice none 0 0, .bool false, .int .i64 0, .int .i64 0, .bool false, .int .i64 0, .int .i64 0, .slice none 0 0, .slice none 0 0, .slice none 0 0, .slice none 0 0, .slice none 0 0] 35;have hM:=eS.new (w.alloc (.cells #[.slice none 0 0, .slice none 0 0, .slice none 0 0, .bool false, .int .i64 0, .int .i64 0, .bool false, .int .i64 0, .int .i64 0, .slice none 0 0, .slice none 0 0, .slice none 0 0, .slice none 0 0, .slice none 0 0] 35)) #[.slice none 0 0, .slice none 0 0, .slice none 0 0, .bool false, .int .i64 0, .int .i64 0, .bool false, .int .i64 0, .int .i64 0, .slice none 0 0, .slice none 0 0, .slice none 0 0, .slice none 0 0, .slice none 0 0] 35;have hR:=eS.new ((w.alloc (.cells #[.slice none 0 0, .slice none 0 0, .slice none 0 0, .bool false, .int .i64 0, .int .i64 0, .bool false, .int .i64 0, .int .i64 0, .slice none 0 0, .slice none 0 0, .slice none 0 0, .slice none 0 0, .slice none 0 0] 35)).alloc (.cells #[.slice none 0 0, .slice none 0 0, .slice none 0 0, .bool false, .int .i64 0, .int .i64 0, .bool false, .int .i64 0, .int .i64 0, .slice none 0 0, .slice none 0 0, .slice none 0 0, .slice none 0 0, .slice none 0 0] 35)) #[.slice a l.length cap, .bool bad] 196;have hX:=(hX.alloc (.cells #[.slice none 0 0, .slice none 0 0, .slice none 0 0, .bool false, .int .i64 0, .int .i64 0, .bool false, .int .i64 0, .int .i64 0, .slice none 0 0, .slice none 0 0, .slice none 0 0, .slice none 0 0, .slice none 0 0] 35)).alloc (.cells #[.slice a l.length cap, .bool bad] 196);have hM:=hM.alloc (.cells #[.slice a l.length cap, .bool bad] 196);have hBW:Below w.heap.size w (((w.alloc (.cells #[.slice none 0 0, .slice none 0 0, .slice none 0 0, .bool false, .int .i64 0, .int .i64 0, .bool false, .int .i64 0, .int .i64 0, .slice none 0 0, .slice none 0 0, .slice none 0 0, .slice none 0 0, .slice none 0 0] 35)).alloc (.cells #[.slice none 0 0, .slice none 0 0, .slice none 0 0, .bool false, .int .i64 0, .int .i64 0, .bool false, .int .i64 0, .int .i64 0, .slice none 0 0, .slice none 0 0, .slice none 0 0, .slice none 0 0, .slice none 0 0] 35)).alloc (.cells #[.slice a l.length cap, .bool bad] 196)):=(((an _ _).alloc (ag _) _).alloc (by rw [aC];omega) _).alloc (by rw [aC,aC];omega) _;rw [aC]at hM;rw [aC,aC]at hR;generalize((w.alloc (.cells #[.slice none 0 0, .slice none 0 0, .slice none 0 0, .bool false, .int .i64 0, .int .i64 0, .bool false, .int .i64 0, .int .i64 0, .slice none 0 0, .slice none 0 0, .slice none 0 0, .slice none 0 0, .slice none 0 0] 35)).alloc (.cells #[.slice none 0 0, .slice none 0 0, .slice none 0 0, .bool false, .int .i64 0, .int .i64 0, .bool false, .int .i64 0, .int .i64 0, .slice none 0 0, .slice none 0 0, .slice none 0 0, .slice none 0 0, .slice none 0 0] 35)).alloc (.cells #[.slice a l.length cap, .bool bad] 196)=wa at hX hM hR hBW⊢;have Pa:fZ w wa (w.heap.size+1+1) (if bad=true then none else some l):=⟨a,l,cap,bad,hR,HB.out,by omega,rfl,hBW,by omega⟩;have hmd:nX (w.heap.size+3) wa (w.heap.size+1) u0 m0:=⟨hM,te _,G7,by omega,by have:=hR.lt;omega⟩;have Oe:=V Pa;have Sq:=V hmd;have HX:=V (show eS wa w.heap.size (u0.cells m0) 35 from hX);have NV:=V hBW;clear hX hM hR hBW Pa hmd;refine(lp w wa _ _ 8 true (by omega) Oe.out).mono ?_;rintro e w1 ⟨rfl,h1,P1⟩;have Oe:=V h1;have Sq:=V (Sq.out.keeps P1 (fun i hi=> .inl (by omega)) (by omega));have HX:=V (HX.out.keeps P1 (by omega));have NV:=V (NV.out.trans (P1.below NV.out.size (fun i hi=>by omega)));have hlen:(iO 8 true (if bad=true then none else some l)).len <=l.length+1:=by
  cases bad with
  | true=>exact bg _
  | false=>
   simp only [iO,bM,dB,ao];split
   ·simp only [gV.len,bu];omega
   ·exact bg _
 clear h1 P1;go_wp2_with fail;refine eR (fun a' w'=>∃(u:eT) (m:eI) (s:gV) (f:Nat),a'=fr (.slice a l.length cap::gs a' 1 1 (.pointer (some ⟨w.heap.size,0,none⟩):: .int .i64 0:: .pointer (some ⟨w.heap.size+1,0,none⟩):: .pointer (some ⟨w.heap.size+1+1,0,none⟩)::gs a' 6 53 []))/\MG l w.heap.size (w.heap.size+1) (w.heap.size+1+1) (w.heap.size+3) w w' u m s f) (fun _ w'=>F9 w' (w.heap.size+1+1)) ?_ ?_
 ·exact⟨u0,m0,_,l.length+1,rfl,Nn.out,hlen,Oe.out,Sq.out,HX.out,NV.out⟩
 ·skip
  clear Nn hlen Oe Sq HX NV w1;rintro R a' w1 ⟨u,m,s,f',Nm,hJ⟩ HR;dsimp only [fr,gs]at Nm;generalize slot a'=f at Nm;subst Nm;obtain⟨Ra,hlen,Pa,hmd,hx,Sy⟩:=hJ;have Pn:=V Ra;have Oe:=V Pa;have Sq:=V hmd;have HX:=V hx;have NV:=V Sy;have c1:=Pa.bad;clear Ra hmd hx Sy;cases s with
  | none=>
   have c1:w1.cell? ⟨w.heap.size+1+1,1,none⟩=some (.bool true):=c1;obtain⟨ar,lr,RT,badr,ND,-,-,-,-,-⟩:=Pa;have c0:w1.cell? ⟨w.heap.size+1+1,0,none⟩=some (.slice ar lr.length RT):=ND.cell 0;have HD:=V (show rE l=none by rw [rE,Pn.out];rfl);clear ND hlen;by_cases q2:0 < lr.length
   ·have g1:decide ((0:Int) < (lr.length:Int))=true:=ay (by omega)
    have g2:decide (0 < lr.length)=true:=ay q2;clear q2;obtain⟨p0,p1,p2,p3,p4,p5,p6,p7,p8,p9,p10,p11,p12,p13⟩:=HX.out.mod;obtain⟨q0,q1,q2,q3,q4,q5,q6,q7,q8,q9,q10,QN,q12,q13⟩:=HX.out.wE;go_wp2_with fail;have hx:=(HX.out.pz u0 m0).mh;have Np:=kY w1 w.heap.size u0 m0;refine aF (fy rfl _ _ rfl hx) rfl ?_;exact⟨NV.out.trans (Np.below NV.out.size (fun i hi=>by omega)), .inr ⟨HD.out,by rw [az (by omega)];rfl⟩⟩
   ·have g1:decide ((0:Int) < (lr.length:Int))=false:=aw (by omega)
    have g2:decide (0 < lr.length)=false:=aw q2;clear q2;obtain⟨p0,p1,p2,p3,p4,p5,p6,p7,p8,p9,p10,p11,p12,p13⟩:=HX.out.mod;obtain⟨q0,q1,q2,q3,q4,q5,q6,q7,q8,q9,q10,QN,q12,q13⟩:=HX.out.wE;go_wp2_with fail;have hx:=(HX.out.pz u0 m0).mh;have Np:=kY w1 w.heap.size u0 m0;refine aF (fy rfl _ _ rfl hx) rfl ?_;exact⟨NV.out.trans (Np.below NV.out.size (fun i hi=>by omega)), .inr ⟨HD.out,by rw [az (by omega)];rfl⟩⟩
  | some lb=>
   have c1:w1.cell? ⟨w.heap.size+1+1,1,none⟩=some (.bool false):=c1;obtain⟨ar,RT,c0,-,hlb⟩:=Pa.some;clear Pa;cases lb with
   | nil=>
    have c0:w1.cell? ⟨w.heap.size+1+1,0,none⟩=some (.slice ar 0 RT):=c0;have hm:mS l=some m:=by
     rw [Pn.out];obtain⟨f2,rfl⟩:∃f2,f'=f2+1:=⟨f' - 1,by simp only [gV.len,aH]at hlen;omega⟩;rfl
    have HMR:=V hm;have Rs:=V Sq.out.2.1;obtain⟨a0,k0,a1,k1,a2,k2,a3,k3,a4,k4,a5,k5,a6,k6,a7,k7,rfl⟩:=eG.open Sq.out.2.1;have HMC:=V Sq.out.1;have Tk:=V Sq.out.2.2.1;have HMI:=V (eG.gf Sq.out.2.1);clear hm hlen Pn Sq Oe hlb;obtain⟨g0,g1,g2,g3,g4,g5,g6,g7,g8,g9,NT,NY,NZ,N0⟩:=HMC.out.mod;go_wp2_with fail;refine(pB m ⟨.slice a0 m.types.length k0, .slice a1 m.imports.length k1, .slice a2 m.funcs.length k2, .slice a3 m.globals.length k3, .slice a4 m.ey.length k4, .slice a5 m.elems.length k5, .slice a6 m.eF.length k6, .slice a7 m.eP.length k7⟩ w1 HMI.out Tk.out).mono ?_;rintro e w2 ⟨v,rfl,hv,hb⟩;have HX:=V (HX.out.below hb HX.out.lt);have HMC:=V (HMC.out.below hb HMC.out.lt);have NV:=V (NV.out.trans (hb.mono NV.out.size));have Rs:=V (eG.below Rs.out (Dl hb));have ON:=HB.out.below NV.out;clear g0 g1 g2 g3 g4 g5 g6 g7 g8 g9 NT NY NZ N0 c0 c1 hb;rcases hv with⟨OJ,rfl⟩ | ⟨OJ,hv⟩
    ·have HD:=V (show rE l=none by rw [rE,HMR.out];simp [OJ])
     have e1:=bN (P:=prog) w2 104 5 none 0 0 0 0 (by kernel_rfl);rw [dk]at e1;clear OJ ON;obtain⟨p0,p1,p2,p3,p4,p5,p6,p7,p8,p9,p10,p11,p12,p13⟩:=HX.out.mod;obtain⟨q0,q1,q2,q3,q4,q5,q6,q7,q8,q9,q10,QN,q12,q13⟩:=HX.out.wE;go_wp2_with fail;have hx:=(HX.out.pz u0 m0).mh;have Np:=kY w2 w.heap.size u0 m0;refine aF (fy rfl _ _ rfl hx) rfl ?_;exact⟨NV.out.trans (Np.below NV.out.size (fun i hi=>by omega)), .inr ⟨HD.out,by rw [az (by omega)];rfl⟩⟩
    ·obtain⟨av,cv,rfl,-,-,Nk⟩:=id hv
     obtain⟨bb,off,rfl,-⟩:=Nk 0 0 (by rw [fL];rfl);have e1:=bN (P:=prog) w2 104 5 (some ⟨bb,off,none⟩) (fL m).length cv 0 0 (by kernel_rfl);rw [dj]at e1;have HV:=V hv;have NB:=V ON;have O6:=V OJ;clear Nk hv ON OJ;go_wp2_with fail;refine(tP _ _ _ _ w2 HV.out NB.out).mono ?_;rintro e w3 ⟨rfl,rfl⟩;by_cases q3:fL m=l
     ·have hq:(fL m==l)=true:=by simp [q3]
      rw [hq];have HD:=V (show rE l=some m by rw [rE,HMR.out];simp [O6.out,q3]);clear q3 hq e1;obtain⟨p0,p1,p2,p3,p4,p5,p6,p7,p8,p9,p10,p11,p12,p13⟩:=HX.out.mod;obtain⟨q0,q1,q2,q3,q4,q5,q6,q7,q8,q9,q10,QN,q12,q13⟩:=HX.out.wE;obtain⟨g0,g1,g2,g3,g4,g5,g6,g7,g8,g9,NT,NY,NZ,N0⟩:=HMC.out.mod;go_wp2_with fail;have hx:=(HX.out.pz ⟨.slice a0 m.types.length k0, .slice a1 m.imports.length k1, .slice a2 m.funcs.length k2, .slice a3 m.globals.length k3, .slice a4 m.ey.length k4, .slice a5 m.elems.length k5, .slice a6 m.eF.length k6, .slice a7 m.eP.length k7⟩ m).mh;have Np:=kY w2 w.heap.size ⟨.slice a0 m.types.length k0, .slice a1 m.imports.length k1, .slice a2 m.funcs.length k2, .slice a3 m.globals.length k3, .slice a4 m.ey.length k4, .slice a5 m.elems.length k5, .slice a6 m.eF.length k6, .slice a7 m.eP.length k7⟩ m;refine aF (fy rfl _ _ rfl hx) rfl ?_;exact⟨NV.out.trans (Np.below NV.out.size (fun i hi=>by omega)), .inl ⟨_,m,HD.out,rfl,eG.ext (eG.ext Rs.out (nV Np (fun i hi=> .inl (by omega)) (.inl (ag _)))) (vA _ (by omega)),Tk.out⟩⟩
     ·have hq:(fL m==l)=false:=by simp [q3]
      rw [hq];have HD:=V (show rE l=none by rw [rE,HMR.out];simp [q3]);clear q3 hq e1;obtain⟨p0,p1,p2,p3,p4,p5,p6,p7,p8,p9,p10,p11,p12,p13⟩:=HX.out.mod;obtain⟨q0,q1,q2,q3,q4,q5,q6,q7,q8,q9,q10,QN,q12,q13⟩:=HX.out.wE;go_wp2_with fail;have hx:=(HX.out.pz u0 m0).mh;have Np:=kY w2 w.heap.size u0 m0;refine aF (fy rfl _ _ rfl hx) rfl ?_;exact⟨NV.out.trans (Np.below NV.out.size (fun i hi=>by omega)), .inr ⟨HD.out,by rw [az (by omega)];rfl⟩⟩
   | cons c rest=>
    obtain⟨L,hL⟩:∃L,L=c::rest:=⟨_,rfl⟩;have R0:0 < L.length:=by rw [hL];simp
    have HBV:=V (show nn (some L)=c by rw [hL];rfl);have HBN:=V (show eK fp (some L)=some rest by rw [hL];rfl);have HL:=V hL;have Sx:=c.toNat_lt;rw [<- hL]at c0 Oe hlen hlb Pn;have g1:decide ((0:Int) < (L.length:Int))=true:=ay (by omega);have g2:decide (0 < L.length)=true:=ay R0;have SL:=V hlen;have HHR:=V (show fZ w w1 (w.heap.size+1+1) (some L)from Oe.out);clear hL hlen;go_wp2_with fail;refine(jn w w1 _ _ Oe.out).mono ?_;rintro e w2 ⟨rfl,h2,Nw⟩;rw [HBN.out]at h2;rw [HBV.out];have Oe:=V h2;have Sq:=V (Sq.out.keeps Nw (fun i hi=> .inl (by omega)) (by omega));have HX:=V (HX.out.keeps Nw (by omega));have NV:=V (NV.out.trans (Nw.below NV.out.size (fun i hi=>by omega)));clear h2 Nw c0 c1 g1 g2;go_wp2_with fail;refine(kg w w2 _ _ Oe.out).mono ?_;rintro e w3 ⟨rfl,h2,Nw⟩;have Oe:=V h2;have Sq:=V (Sq.out.keeps Nw (fun i hi=> .inl (by omega)) (by omega));have HX:=V (HX.out.keeps Nw (by omega));have NV:=V (NV.out.trans (Nw.below NV.out.size (fun i hi=>by omega)));clear h2 Nw;go_wp2_with fail;refine(AF w w3 _ _ (w.heap.size+3) c.toNat _ u m Oe.out Sq.out (by omega) (by omega) (by omega)).mono ?_;rintro e w4 ⟨u',m',rfl,hmd,hw,h2,Nw⟩;have Oe:=V h2;have Sq:=V hmd;have HW:=V hw;have HX:=V (HX.out.keeps Nw (by omega));have NV:=V (NV.out.trans (Nw.below NV.out.size (fun i hi=>by omega)));clear h2 Nw hmd hw;go_wp2_with fail;obtain⟨f2,rfl⟩:∃f2,f'=f2+1:=⟨f' - 1,by have:=SL.out;simp only [gV.len]at this;omega⟩;have S1:=(FK c.toNat m).len (eK gD (some rest));have hl2:=(jL.mG lk).len (some rest);have hl3:L.length=rest.length+1:=by rw [HL.out];rfl
    have hl4:=SL.out;have hl5:gV.len (some rest)=rest.length+1:=rfl;have hl6:gV.len (some L)=L.length+1:=rfl;have hl7:=aQ S1 hl2;rw [hl5]at hl7;rw [hl6]at hl4;have hl8:=aQ hl7 (show rest.length+1 <=f2 by omega);refine HR.out _ _ ⟨u',m',eK (jS c.toNat m) (eK gD (some rest)),f2,rfl,?_,hl8,Oe.out,Sq.out,HX.out,NV.out⟩ ?_
    ·rw [Pn.out,HL.out]
     exact EO HW.out
    ·rw [Oe.out.left,HHR.out.left]
     exact Nat.lt_of_le_of_lt hl7 (show rest.length+1 < gV.len (some L)by rw [hl6];omega)
theorem eS.rws {α:Type} {k:Nat} {enc:α ->List Value} {w:World} {X:Nat} {xs:Array Value} {t:TypeId} (h:eS w X xs t) (hk:∀x,(enc x).length=k) (l:List α) (rest:List Value) (hx:xs.toList=l.flatMap enc++rest) (cap:Nat) (hc:l.length <=cap) (hm:cap <=maxLen):
  eA k enc w (.slice (some ⟨X,0,none⟩) l.length cap) l:=by
 refine⟨_,cap,rfl,hc,hm,fun i x hi=>⟨X,0,rfl,h.lt,fun j v hj=>?_⟩⟩;rw [h.cell, <- cd,hx,bT];have hjk:j < k:=by
  rw [<- hk x];exact(aG.1 hj).1
 have hg:=sH hk l i x j hi hjk;rw [bD (by rw [hj]at hg;exact(aG.1 hg).1),hg,hj]
theorem eS.deep {α β:Type} {k:Nat} {enc:α × β ->List Value} {inner:World ->α ->β ->Prop} {w:World} {X:Nat} {xs:Array Value} {t:TypeId} (h:eS w X xs t) (hk:∀x,(enc x).length=k) (l:List α) (us:List β) (hl:us.length=l.length) (rest:List Value) (hx:xs.toList=(l.zip us).flatMap enc++rest) (cap:Nat) (hc:l.length <=cap) (hm:cap <=maxLen)
  (hi:∀(i:Nat) (x:α) (u:β),l[i]?=some x ->us[i]?=some u ->inner w x u):
  eD k enc inner w (.slice (some ⟨X,0,none⟩) l.length cap) l:=by
 have hz:(l.zip us).length=l.length:=by rw [bV,hl,cV]
 have:=h.rws hk (l.zip us) rest hx cap (by omega) hm;rw [hz]at this;exact⟨us,hl,this,hi⟩
def nW (w:World) (os:List Obj):World:=os.foldl World.alloc w
theorem mZ (w:World) (os:List Obj):Below w.heap.size w (nW w os)/\(nW w os).heap.size=w.heap.size+os.length:=by
 unfold nW
 induction os generalizing w with
 | nil=>exact⟨an _ _,rfl⟩
 | cons o os ih=>
  obtain⟨h1,h2⟩:=ih (w.alloc o);refine⟨((an w.heap.size w).alloc (ag _) o).trans (h1.mono (by simp)),?_⟩;rw [List.foldl_cons,h2];simp;omega
theorem rU (w:World) (os:List Obj) (i:Nat) (xs:Array Value) (t:TypeId) (h:os[i]?=some (.cells xs t)):eS (nW w os) (w.heap.size+i) xs t:=by
 induction os generalizing w i with
 | nil=>simp at h
 | cons o os ih=>
  cases i with
  | zero=>
   simp only [aK,aS]at h;subst h;exact(eS.new w xs t).below (mZ _ os).1 (by simp)
  | succ i=>
   have:=ih (w.alloc o) i h;rw [aC]at this;rw [show w.heap.size+(i+1)=w.heap.size+1+i by omega];exact this
theorem wV (x:Int):(fk x).length=1:=rfl
theorem LG (x:gC × Value × Value):(pU x).length=2:=rfl
theorem L4 (x:ij × Value × Value):(pV x).length=2:=rfl
theorem Md (x:jr):(pS x).length=2:=rfl
theorem MR (x:kj):(rR x).length=3:=rfl
theorem M5 (x:jY):(rL x).length=3:=rfl
theorem MJ (x:jI × Value):(sq x).length=2:=rfl
theorem MM (x:fa × Value):(qO x).length=4:=rfl
def gp:List fa:=[⟨32,0,0,[]⟩,⟨32,1,0,[]⟩,⟨106,0,0,[]⟩]
def mR:ByteArray:=⟨#[97,100,100]⟩
def fo (fn:Int) (body:List fa):eI:=⟨[⟨[1,1],[1]⟩],[],[0],⟨false,0,0⟩,⟨false,0,0⟩,[],[⟨mR,fn⟩],[],[⟨[],body⟩],[]⟩
def rowAt (X n cap:Nat):Value:= .slice (some ⟨X,0,none⟩) n cap
def iu (B:Nat):eT:=⟨rowAt (B+3) 1 1, .slice none 0 0,rowAt (B+4) 1 1, .slice none 0 0,rowAt (B+5) 1 1, .slice none 0 0,rowAt (B+7) 1 1, .slice none 0 0⟩
def kQ (l:List fa):List Value:=l.flatMap fun x=>[.int .i64 x.op, .int .i64 x.a, .int .i64 x.b, .slice none 0 0]
def gJ (w:World) (B:Nat) (fn:Int) (bs:Value):Prop:=
 (eS w (B+1) #[.int .i64 1, .int .i64 1] 3/\eS w (B+2) #[.int .i64 1] 3/\eS w (B+3) #[rowAt (B+1) 2 2,rowAt (B+2) 1 1] 69)/\
 eS w (B+4) #[.int .i64 0] 3/\eS w (B+5) #[.string mR, .int .i64 fn] 75/\
 eS w (B+6) (kQ gp).toArray 39/\eS w (B+7) #[.slice none 0 0,bs] 41
theorem gJ.below {w w':World} {B:Nat} {fn:Int} {bs:Value} (h:gJ w B fn bs) (hb:Below w.heap.size w w'):gJ w' B fn bs:=by
 obtain⟨⟨h1,h2,h3⟩,h4,h5,h6,h7⟩:=h;exact⟨⟨h1.below hb h1.lt,h2.below hb h2.lt,h3.below hb h3.lt⟩,h4.below hb h4.lt,h5.below hb h5.lt,h6.below hb h6.lt,h7.below hb h7.lt⟩
theorem gJ.setBody {w:World} {B:Nat} {fn:Int} {bs:Value} (h:gJ w B fn bs) (v:Value):gJ (w.setCell ⟨B+7,1,none⟩ v) B fn v:=by
 obtain⟨⟨h1,h2,h3⟩,h4,h5,h6,h7⟩:=h;exact⟨⟨h1.other _ _ (by simp;try omega),h2.other _ _ (by simp;try omega),h3.other _ _ (by simp;try omega)⟩,h4.other _ _ (by simp;try omega),h5.other _ _ (by simp;try omega),h6.other _ _ (by simp;try omega),h7.set 1 v⟩
theorem gJ.KM {w:World} {B:Nat} {fn:Int} {bs:Value} (h:gJ w B fn bs) (x:Int):gJ (w.setCell ⟨B+5,1,none⟩ (.int .i64 x)) B x bs:=by
 obtain⟨⟨h1,h2,h3⟩,h4,h5,h6,h7⟩:=h;exact⟨⟨h1.other _ _ (by simp;try omega),h2.other _ _ (by simp;try omega),h3.other _ _ (by simp;try omega)⟩,h4.other _ _ (by simp;try omega),h5.set 1 _,h6.other _ _ (by simp;try omega),h7.other _ _ (by simp;try omega)⟩
theorem gJ.other {w:World} {B X o:Nat} {fn:Int} {bs:Value} (h:gJ w B fn bs) (v:Value) (hX:X <=B\/B+8 <=X):gJ (w.setCell ⟨X,o,none⟩ v) B fn bs:=by
 obtain⟨⟨h1,h2,h3⟩,h4,h5,h6,h7⟩:=h;exact⟨⟨h1.other _ _ (by simp;omega),h2.other _ _ (by simp;omega),h3.other _ _ (by simp;omega)⟩,h4.other _ _ (by simp;omega),h5.other _ _ (by simp;omega),h6.other _ _ (by simp;omega),h7.other _ _ (by simp;omega)⟩
theorem wQ (l:List fa):kQ l=(l.zip (l.map fun _=>Value.slice none 0 0)).flatMap qO:=by
 unfold kQ
 induction l with
 | nil=>rfl
 | cons x l ih=>
  rw [bK,bF,List.zip_cons_cons,bK,ih];rfl
def rp (l:List fa):Prop:=∀x∈l,x.l=[]/\iV x.op/\iV x.a/\iV x.b
theorem sv (w:World) (l:List fa) (hl:rp l) (i:Nat) (x:fa) (u:Value) (hx:l[i]?=some x) (hu:(l.map fun _=>Value.slice none 0 0)[i]?=some u):gY w x u:=by
 rw [cC,hx]at hu;injection hu with hu;obtain⟨h0,h1,h2,h3⟩:=hl x (aN hx);subst hu;refine⟨?_,h1,h2,h3,?_⟩
 ·rw [h0]
  exact eA.nil w
 ·rw [h0]
  simp
theorem eS.body {w:World} {X:Nat} {t:TypeId} {xs:Array Value} (h:eS w X xs t) (l:List fa) (rest:List Value) (hx:xs.toList=kQ l++rest) (hl:rp l) (cap:Nat) (hc:l.length <=cap) (hm:cap <=maxLen):
  gN w (rowAt X l.length cap) l:=
 h.deep MM l (l.map fun _=> .slice none 0 0) (by simp) rest (by rw [hx,wQ]) cap hc hm (sv w l hl)
theorem Af:rp gp:=by
 intro x hx;simp [gp]at hx;rcases hx with rfl | rfl | rfl <;>simp [iV]
theorem gJ.body {w:World} {B:Nat} {fn:Int} {bs:Value} (h:gJ w B fn bs) (n:Nat) (hn:n <=3):gN w (rowAt (B+6) n 3) (gp.take n):=by
 have hl:(gp.take n).length=n:=by
  rw [aP];show min n 3=n;omega
 have:=h.2.2.2.1.body (gp.take n) (kQ (gp.drop n)) (by
  unfold kQ;rw [<- List.flatMap_append,cE]) (fun x hx=>Af x (cF hx)) 3 (by omega) (by decide)
 rwa [hl]at this
theorem gJ.is {w:World} {B:Nat} {fn:Int} {bs:Value} (h:gJ w B fn bs) {body:List fa} (hb:gN w bs body) (hf:iV fn):eG w (iu B) (fo fn body):=by
 obtain⟨⟨h1,h2,h3⟩,h4,h5,h6,h7⟩:=h;refine⟨?_,eA.nil w,?_,eA.nil w,?_,eD.nil w,?_,eD.nil w,?_⟩
 ·refine h3.deep LG [⟨[1,1],[1]⟩] [(rowAt (B+1) 2 2,rowAt (B+2) 1 1)] rfl [] rfl 1 (ag _) (by decide) ?_
  intro i x u hx hu;cases i with
  | zero=>
   injection hx with hx;injection hu with hu;subst hx hu;exact⟨⟨h1.rws wV [1,1] [] rfl 2 (ag _) (by decide),h2.rws wV [1] [] rfl 1 (ag _) (by decide)⟩,by simp [gC.ok,iV]⟩
  | succ i=>simp at hx
 ·exact h4.rws wV [0] [] rfl 1 (ag _) (by decide)
 ·exact h5.rws Md [⟨mR,fn⟩] [] rfl 1 (ag _) (by decide)
 ·refine h7.deep L4 [⟨[],body⟩] [(.slice none 0 0,bs)] rfl [] rfl 1 (ag _) (by decide) ?_
  intro i x u hx hu;cases i with
  | zero=>
   injection hx with hx;injection hu with hu;subst hx hu;exact⟨⟨eA.nil w,hb⟩,by simp⟩
  | succ i=>simp at hx
 ·refine⟨by simp [fo],by simp [fo,iV],by simp [fo,gl.ok,iV],by simp [fo,gl.ok,iV],by simp [fo],?_⟩
  simpa [fo] using hf
def GJ (w:World) (e:Ending) (w':World):Prop:=e= .returned (.agg ((iu w.heap.size).cells (fo 0 gp)))/\gJ w' w.heap.size 0 (rowAt (w.heap.size+6) 3 3)/\Below w.heap.size w w'/\w'.heap.size=w.heap.size+8
def qB (B:Nat):List Obj:=[Obj.cells ((iu B).cells (fo 0 gp)) 35,Obj.cells #[.int .i64 1, .int .i64 1] 3,Obj.cells #[.int .i64 1] 3,Obj.cells #[rowAt (B+1) 2 2,rowAt (B+2) 1 1] 69,Obj.cells #[.int .i64 0] 3,Obj.cells #[.string mR, .int .i64 0] 75,Obj.cells (kQ gp).toArray 39,Obj.cells #[.slice none 0 0,rowAt (B+6) 3 3] 41]
theorem iJ (w:World):Calls prog 18 #[] w (GJ w):=by
 go_enter func18,ntmps18;go_wp2_with fail;have H:=mZ w (qB w.heap.size);have G:=rU w (qB w.heap.size);have g:eS (nW w (qB w.heap.size)) w.heap.size ((iu w.heap.size).cells (fo 0 gp)) 35:=G 0 _ _ rfl;have HS:gJ (nW w (qB w.heap.size)) w.heap.size 0 (rowAt (w.heap.size+6) 3 3):=
  ⟨⟨G 1 _ _ rfl,G 2 _ _ rfl,G 3 _ _ rfl⟩,G 4 _ _ rfl,G 5 _ _ rfl,G 6 _ _ rfl,G 7 _ _ rfl⟩
 refine aF (eH rfl _ _ rfl g.mh) rfl ?_;exact⟨rfl,HS,H.1,H.2⟩
def ud (l:List UInt8):ByteArray:=⟨l.toArray⟩
def fE (r:List Int) (body:List fa):eI:=⟨[⟨[],r⟩,⟨[],[]⟩,⟨[1],[1]⟩,⟨[2,1],[2]⟩],[⟨ud [119],ud [102],2⟩,⟨ud [119],ud [103],1⟩],[0,3],⟨true,4,-1⟩,⟨true,1,3⟩,[⟨true,⟨1,0⟩⟩,⟨false,⟨2,5⟩⟩],[⟨ud [109,97,105,110],2⟩],[⟨0,[0,2,3]⟩],[⟨[],body⟩,⟨[],[⟨32,0,0,[]⟩]⟩],[]⟩
def jq (body:List fa):eI:=fE [] body
def pC (B:Nat):eT:=⟨rowAt (B+6) 4 4,rowAt (B+7) 2 2,rowAt (B+8) 2 2,rowAt (B+9) 2 2,rowAt (B+10) 1 1,rowAt (B+12) 1 1,rowAt (B+14) 2 2, .slice none 0 0⟩
def lW (w:World) (B:Nat) (rs bs:Value):Prop:=
 (eS w (B+2) #[.int .i64 1] 3/\eS w (B+3) #[.int .i64 1] 3/\eS w (B+4) #[.int .i64 2, .int .i64 1] 3/\eS w (B+5) #[.int .i64 2] 3/\
  eS w (B+6) #[.slice none 0 0,rs, .slice none 0 0, .slice none 0 0,rowAt (B+2) 1 1,rowAt (B+3) 1 1,rowAt (B+4) 2 2,rowAt (B+5) 1 1] 69)/\
 (eS w (B+7) #[.string (ud [119]), .string (ud [102]), .int .i64 2, .string (ud [119]), .string (ud [103]), .int .i64 1] 71/\eS w (B+8) #[.int .i64 0, .int .i64 3] 3/\
  eS w (B+9) #[.bool true, .int .i64 1, .int .i64 0, .bool false, .int .i64 2, .int .i64 5] 73/\eS w (B+10) #[.string (ud [109,97,105,110]), .int .i64 2] 75)/\
 (eS w (B+11) #[.int .i64 0, .int .i64 2, .int .i64 3] 3/\eS w (B+12) #[.int .i64 0,rowAt (B+11) 3 3] 77)/\
 eS w (B+13) #[.int .i64 32, .int .i64 0, .int .i64 0, .slice none 0 0] 39/\eS w (B+14) #[.slice none 0 0,bs, .slice none 0 0,rowAt (B+13) 1 1] 41
theorem lW.below {w w':World} {B:Nat} {rs bs:Value} (h:lW w B rs bs) (hb:Below w.heap.size w w'):lW w' B rs bs:=by
 obtain⟨⟨h1,h2,h3,h4,h5⟩,⟨h6,h7,h8,h9⟩,⟨Sl,h11⟩,Ph,h13⟩:=h;exact⟨⟨h1.below hb h1.lt,h2.below hb h2.lt,h3.below hb h3.lt,h4.below hb h4.lt,h5.below hb h5.lt⟩,⟨h6.below hb h6.lt,h7.below hb h7.lt,h8.below hb h8.lt,h9.below hb h9.lt⟩,⟨Sl.below hb Sl.lt,h11.below hb h11.lt⟩,Ph.below hb Ph.lt,h13.below hb h13.lt⟩
theorem lW.setBody {w:World} {B:Nat} {rs bs:Value} (h:lW w B rs bs) (v:Value):lW (w.setCell ⟨B+14,1,none⟩ v) B rs v:=by
 obtain⟨⟨h1,h2,h3,h4,h5⟩,⟨h6,h7,h8,h9⟩,⟨Sl,h11⟩,Ph,h13⟩:=h;exact⟨⟨h1.other _ _ (by simp),h2.other _ _ (by simp),h3.other _ _ (by simp),h4.other _ _ (by simp),h5.other _ _ (by simp)⟩,⟨h6.other _ _ (by simp),h7.other _ _ (by simp),h8.other _ _ (by simp),h9.other _ _ (by simp)⟩,⟨Sl.other _ _ (by simp),h11.other _ _ (by simp)⟩,Ph.other _ _ (by simp),h13.set 1 v⟩
theorem lW.is {w:World} {B:Nat} {rs bs:Value} {r:List Int} (h:lW w B rs bs) (hr:eA 1 fk w rs r) (hk:gC.ok ⟨[],r⟩) {body:List fa} (hb:gN w bs body):eG w (pC B) (fE r body):=by
 obtain⟨⟨h1,h2,h3,h4,h5⟩,⟨h6,h7,h8,h9⟩,⟨Sl,h11⟩,Ph,h13⟩:=h;refine⟨?_,h6.rws MR [⟨ud [119],ud [102],2⟩,⟨ud [119],ud [103],1⟩] [] rfl 2 (ag _) (by decide),h7.rws wV [0,3] [] rfl 2 (ag _) (by decide),h8.rws M5 [⟨true,⟨1,0⟩⟩,⟨false,⟨2,5⟩⟩] [] rfl 2 (ag _) (by decide),h9.rws Md [⟨ud [109,97,105,110],2⟩] [] rfl 1 (ag _) (by decide),?_,?_,eD.nil w,?_⟩
 ·refine h5.deep LG [⟨[],r⟩,⟨[],[]⟩,⟨[1],[1]⟩,⟨[2,1],[2]⟩] [(.slice none 0 0,rs),(.slice none 0 0, .slice none 0 0),(rowAt (B+2) 1 1,rowAt (B+3) 1 1),(rowAt (B+4) 2 2,rowAt (B+5) 1 1)] rfl [] rfl 4 (ag _) (by decide) ?_
  intro i x u hx hu
  match i,hx,hu with
  | 0,hx,hu=>
   injection hx with hx;injection hu with hu;subst hx hu;exact⟨⟨eA.nil w,hr⟩,hk⟩
  | 1,hx,hu=>
   injection hx with hx;injection hu with hu;subst hx hu;exact⟨⟨eA.nil w,eA.nil w⟩,by simp [gC.ok]⟩
  | 2,hx,hu=>
   injection hx with hx;injection hu with hu;subst hx hu;exact⟨⟨h1.rws wV [1] [] rfl 1 (ag _) (by decide),h2.rws wV [1] [] rfl 1 (ag _) (by decide)⟩,by simp [gC.ok,iV]⟩
  | 3,hx,hu=>
   injection hx with hx;injection hu with hu;subst hx hu;exact⟨⟨h3.rws wV [2,1] [] rfl 2 (ag _) (by decide),h4.rws wV [2] [] rfl 1 (ag _) (by decide)⟩,by simp [gC.ok,iV]⟩
  | i+4,hx,hu=>simp at hx
 ·refine h11.deep MJ [⟨0,[0,2,3]⟩] [rowAt (B+11) 3 3] rfl [] rfl 1 (ag _) (by decide) ?_
  intro i x u hx hu
  match i,hx,hu with
  | 0,hx,hu=>
   injection hx with hx;injection hu with hu;subst hx hu;exact⟨Sl.rws wV [0,2,3] [] rfl 3 (ag _) (by decide),by simp [jI.ok,iV]⟩
  | i+1,hx,hu=>simp at hx
 ·refine h13.deep L4 [⟨[],body⟩,⟨[],[⟨32,0,0,[]⟩]⟩] [(.slice none 0 0,bs),(.slice none 0 0,rowAt (B+13) 1 1)] rfl [] rfl 2 (ag _) (by decide) ?_
  intro i x u hx hu
  match i,hx,hu with
  | 0,hx,hu=>
   injection hx with hx;injection hu with hu;subst hx hu;exact⟨⟨eA.nil w,hb⟩,by simp⟩
  | 1,hx,hu=>
   injection hx with hx;injection hu with hu;subst hx hu;exact⟨⟨eA.nil w,Ph.body [⟨32,0,0,[]⟩] [] rfl (by simp [rp,iV]) 1 (ag _) (by decide)⟩,by simp⟩
  | i+2,hx,hu=>simp at hx
 ·refine⟨by simp [fE,iV],by simp [fE,iV],by simp [fE,gl.ok,iV],by simp [fE,gl.ok,iV],by simp [fE,fi.ok],by simp [fE,iV]⟩
def sJ (B:Nat):List Obj:=[Obj.cells ((pC B).cells (jq [])) 35,Obj.cells #[.slice none 0 0, .slice none 0 0] 69,Obj.cells #[.int .i64 1] 3,Obj.cells #[.int .i64 1] 3,Obj.cells #[.int .i64 2, .int .i64 1] 3,Obj.cells #[.int .i64 2] 3,
 Obj.cells #[.slice none 0 0, .slice none 0 0, .slice none 0 0, .slice none 0 0,rowAt (B+2) 1 1,rowAt (B+3) 1 1,rowAt (B+4) 2 2,rowAt (B+5) 1 1] 69,
 Obj.cells #[.string (ud [119]), .string (ud [102]), .int .i64 2, .string (ud [119]), .string (ud [103]), .int .i64 1] 71,Obj.cells #[.int .i64 0, .int .i64 3] 3,
 Obj.cells #[.bool true, .int .i64 1, .int .i64 0, .bool false, .int .i64 2, .int .i64 5] 73,Obj.cells #[.string (ud [109,97,105,110]), .int .i64 2] 75,
 Obj.cells #[.int .i64 0, .int .i64 2, .int .i64 3] 3,Obj.cells #[.int .i64 0,rowAt (B+11) 3 3] 77,
 Obj.cells #[.int .i64 32, .int .i64 0, .int .i64 0, .slice none 0 0] 39,Obj.cells #[.slice none 0 0, .slice none 0 0, .slice none 0 0,rowAt (B+13) 1 1] 41]
def JQ (w:World) (e:Ending) (w':World):Prop:=e= .returned (.agg ((pC w.heap.size).cells (jq [])))/\lW w' w.heap.size (.slice none 0 0) (.slice none 0 0)/\Below w.heap.size w w'/\w'.heap.size=w.heap.size+15
theorem Bq (w:World):Calls prog 6 #[.slice none 0 0, .int .i64 0] w (JQ w):=by
 go_enter func6,ntmps6;go_wp2_with fail;refine cQ 1 ?_;rw [cg];go_wp2_with fail;have H:=mZ w (sJ w.heap.size);have G:=rU w (sJ w.heap.size);have g:eS (nW w (sJ w.heap.size)) w.heap.size ((pC w.heap.size).cells (jq [])) 35:=G 0 _ _ rfl;have HS:lW (nW w (sJ w.heap.size)) w.heap.size (.slice none 0 0) (.slice none 0 0):=
  ⟨⟨G 2 _ _ rfl,G 3 _ _ rfl,G 4 _ _ rfl,G 5 _ _ rfl,G 6 _ _ rfl⟩,⟨G 7 _ _ rfl,G 8 _ _ rfl,G 9 _ _ rfl,G 10 _ _ rfl⟩,⟨G 11 _ _ rfl,G 12 _ _ rfl⟩,G 13 _ _ rfl,G 14 _ _ rfl⟩
 refine aF (eH rfl _ _ rfl g.mh) rfl ?_;exact⟨rfl,HS,H.1,H.2⟩
def tg (C:Nat) (w:World):World:=mask (fun k=>k==C) w
theorem qL {C:Nat} {w w':World} (h:ep (fun i=>i=C) w w'):Ext (tg C w) (tg C w'):=iY h (fun _ _ hk=>by simp [hk]) (fun _ _ hk=>hk)
theorem ye {C:Nat} {w w':World} (h:Below w.heap.size w w'):Ext (tg C w) (tg C w'):=iY (ep.et (S:=fun _=>False) h) (fun _ _ hk=>hk.elim) (fun _ _ hk=>hk)
theorem uI {C:Nat} {w w':World} (h:ep (fun i=>i=C) w w'):Ext (tg C w) w':=sQ h (fun _ _ hk=>by simp [hk])
theorem AO (C:Nat) (w:World):Ext (tg C w) w:=uI (ep.refl _ _)
theorem DN {α:Type} {t:TypeId} {k:Nat} {enc:α ->List Value} (hk:∀x,(enc x).length=k) {w:World} {B C:Nat} {v:Value} {l:List α} (h:ei t k enc w B v l) (hB:C < B):eA k enc (tg C w) v l:=
 (ei.mask h (fun b hb=>by
  have:b≠C:=by omega
  simp [this])).fT hk
theorem mw {P:Program} (w:World) {ops:Array Oper} {rest:List Oper} {o:Oper} {a:Act} {Q:Exit ->Act ->World ->Prop} (P0:o.guard=none) (s x:Operand)
  (hP:P=prog) (ho:o.op= .call {callee:= .builtin .append,args:=#[s,x],argTypes:=#[26,26]})
  (B:Nat) (v:Value) (l:List Int) (hs:a.eval s=v) (Nl:ei 3 1 fk w B v l)
  (b:Value) (m:List Int) (hx:a.eval x=b) (hm:eA 1 fk w b m)
  (QK:l.length+m.length <=1000000) (NN:B <=w.heap.size)
  (h:∀v' w',ei 3 1 fk w' B v' (l++m) ->ep (eO v) w w' ->eQ w v v' ->wpList P ops Q rest (a.put o.dst v') w'):wpList P ops Q (o::rest) a w:=by
 subst hP;cases m with
 | cons y m=>
  have hm':=hm;obtain⟨ad,cap,rfl,PV,Ow,hc3⟩:=hm';obtain⟨b,off,rfl,_⟩:=hc3 0 y rfl;exact kX w P0 s x 26 ho _ 8 (by kernel_rfl) jT rfl (by decide) (by decide) B v l hs Nl fI (y::m) ⟨b,off,none⟩ (y::m).length cap hx hm (fun z _=>DT z) QK NN h
 | nil=>
  obtain⟨i0,hi,Po,Oi,O1⟩:=bS jT;obtain⟨ad,cap,rfl,PV,Ow,hc3⟩:=hm;have key:∃v' w',(Builtin.append_ #[26,26] o.type #[v, .slice ad 0 cap]).run prog w= .ok v' w'/\ei 3 1 fk w' B v' (l++[])/\ep (eO v) w w'/\eQ w v v':=by
   cases ad with
   | some ad=>
    obtain⟨v',w',h1,h2,h3,h4⟩:=uA (P:=prog) w B 26 o.type 3 i0 (.int .i64 0) 1 8 (by kernel_rfl) hi Po Oi O1 rfl (by decide) v l.length (l.flatMap fk) Nl ad 0 cap [] rfl (by simp) (by simp) (by simp only [aH]at QK;simp only [maxLen];omega) (by simp only [aH]at QK;omega) NN;exact⟨v',w',h1,by simpa [ei] using h2,h3,h4⟩
   | none=>
    have ht:prog.underlying 26=some (.slice 3):=by kernel_rfl
    rcases Nl.2 with⟨rfl,h0⟩ | ⟨g,NK,cur,rfl,hb,hg,hn,hm,hs,QT⟩
    ·refine⟨.slice none 0 0,w,?_,by simpa using Nl,ep.refl _ _,eQ.refl _ _⟩
     simp [Builtin.append_,aZ ht,sizeOf,typeInfo,hi,Builtin.lenOf,Builtin.firstCells]
    ·refine⟨.slice (some ⟨g,0,none⟩) l.length NK,w,?_,by simpa using Nl,ep.refl _ _,eQ.refl _ _⟩
     simp [Builtin.append_,aZ ht,sizeOf,typeInfo,hi,Builtin.lenOf,Builtin.firstCells,hn];simp [storeCells]
  obtain⟨v',w',hr,h2,h3,h4⟩:=key;refine dU P0 fun _ hK=>?_;unfold Oper.wp execOp;simp only [ho,resolve,invoke,builtin,cK,bX,cB,dA,bF,cL,hs,hx,hr,aH];exact hK _ _ (h v' w' h2 h3 h4)
def uH (u:eT) (m:eI) (lv v v':Value) (bad:Bool):Array Value:=
 #[u.types,u.imports,u.funcs, .bool m.table.has, .int .i64 m.table.min, .int .i64 m.table.max, .bool m.mem.has, .int .i64 m.mem.min, .int .i64 m.mem.max,u.globals,u.ey,u.elems,u.eF,u.eP,lv,v,v', .bool bad]
def gB (w1:World) (C:Nat) (u:eT) (m:eI) (lv:Value) (w:World) (c:eX):Prop:=
 ∃v v',eS w C (uH u m lv v v' c.bad) 186/\ei 3 1 fk w w1.heap.size v c.eu/\ei 191 4 zc w w1.heap.size v' c.fc/\ep (fun i=>i=C) w1 w/\C < w1.heap.size
theorem gB.below {w1 w w':World} {C:Nat} {u:eT} {m:eI} {lv:Value} {c:eX} (h:gB w1 C u m lv w c) (hb:Below w.heap.size w w'):gB w1 C u m lv w' c:=by
 obtain⟨v,v',h1,h2,h3,h4,h5⟩:=h;exact⟨v,v',h1.below hb h1.lt,h2.below hb,h3.below hb,h4.trans (ep.et (S:=fun _=>False) hb) (fun _ h=>h.elim),h5⟩
theorem gB.drew {w1 w:World} {C:Nat} {u:eT} {m:eI} {lv:Value} {c:eX} (h:gB w1 C u m lv w c):gB w1 C u m lv w.drew c:=by
 obtain⟨v,v',h1,h2,h3,h4,h5⟩:=h;exact⟨v,v',h1.drew,h2,h3,h4.drew,h5⟩
theorem gB.alloc {w1 w:World} {C:Nat} {u:eT} {m:eI} {lv:Value} {c:eX} (h:gB w1 C u m lv w c) (o:Obj):gB w1 C u m lv (w.alloc o) c:=h.below ((an _ _).alloc (ag _) o)
theorem gB.lt {w1 w:World} {C:Nat} {u:eT} {m:eI} {lv:Value} {c:eX} (h:gB w1 C u m lv w c):C < w.heap.size/\C < w1.heap.size/\w1.heap.size <=w.heap.size:=by
 obtain⟨v,v',h1,h2,h3,h4,h5⟩:=h;exact⟨h1.lt,h5,h4.size⟩
theorem gB.old {w1 w:World} {C:Nat} {u:eT} {m:eI} {lv:Value} {c:eX} (h:gB w1 C u m lv w c):ep (fun i=>i=C) w1 w:=by
 obtain⟨v,v',h1,h2,h3,h4,h5⟩:=h;exact h4
def D2 (w1:World) (C:Nat) (u:eT) (m:eI) (lv:Value) (val:Value) (c:eX) (w:World) (e:Ending) (w':World):Prop:=e= .returned val/\gB w1 C u m lv w' c/\ep (fun i=>i=C) w w'/\w'.cell? ⟨C,16,none⟩=w.cell? ⟨C,16,none⟩
def n5 (w1:World) (C:Nat) (u:eT) (m:eI) (lv:Value) (val:Value) (c:eX) (e:Ending) (w':World):Prop:=e= .returned val/\gB w1 C u m lv w' c
theorem jX (w1:World) (C:Nat) (u:eT) (m:eI) (lv:Value) (w:World) (c:eX) (ok:Bool) (h:gB w1 C u m lv w c):
  Calls prog 192 #[.pointer (some ⟨C,0,none⟩), .bool ok] w (D2 w1 C u m lv (.tuple #[]) (c.need ok) w):=by
 obtain⟨eu,fc,bad⟩:=c;obtain⟨v,v',hb,hv,hc,hk,hC⟩:=h;have c17:w.cell? ⟨C,17,none⟩=some (.bool bad):=hb.cell 17;have z17:=hb.free 17;have HB:=V hb;clear hb;simp only at hv hc;cases bad <;>cases ok
 ·skip
  go_enter func192,ntmps192;go_wp2
  go_end0
  exact⟨rfl,⟨v,v',HB.out.set 17 _,hv.keeps (eE w C 17 _) (fun i hi h=>by have:=(eM hv hi).1;omega),hc.keeps (eE w C 17 _) (fun i hi h=>by have:=(eM hc hi).1;omega),hk.trans (eE w C 17 _) (fun i hi=> .inl hi),hC⟩,eE w C 17 _,cA _ _ _ _ (by simp)⟩
 ·skip
  go_enter func192,ntmps192;go_wp2
  go_end0
  exact⟨rfl,⟨v,v',HB.out.set 17 _,hv.keeps (eE w C 17 _) (fun i hi h=>by have:=(eM hv hi).1;omega),hc.keeps (eE w C 17 _) (fun i hi h=>by have:=(eM hc hi).1;omega),hk.trans (eE w C 17 _) (fun i hi=> .inl hi),hC⟩,eE w C 17 _,cA _ _ _ _ (by simp)⟩
 ·skip
  go_enter func192,ntmps192;go_wp2
  go_end0
  exact⟨rfl,⟨v,v',HB.out.set 17 _,hv.keeps (eE w C 17 _) (fun i hi h=>by have:=(eM hv hi).1;omega),hc.keeps (eE w C 17 _) (fun i hi h=>by have:=(eM hc hi).1;omega),hk.trans (eE w C 17 _) (fun i hi=> .inl hi),hC⟩,eE w C 17 _,cA _ _ _ _ (by simp)⟩
 ·skip
  go_enter func192,ntmps192;go_wp2
  go_end0
  exact⟨rfl,⟨v,v',HB.out.set 17 _,hv.keeps (eE w C 17 _) (fun i hi h=>by have:=(eM hv hi).1;omega),hc.keeps (eE w C 17 _) (fun i hi h=>by have:=(eM hc hi).1;omega),hk.trans (eE w C 17 _) (fun i hi=> .inl hi),hC⟩,eE w C 17 _,cA _ _ _ _ (by simp)⟩
def KD (C:Nat) (k:Int) (w:World) (e:Ending) (w':World):Prop:=∃v,e= .returned v/\eA 1 fk (tg C w') v (gS k)/\Below w.heap.size w w'
theorem nD (k:Int) (w:World) (C:Nat) (hC:C < w.heap.size):Calls prog 194 #[.int .i64 k] w (KD C k w):=by
 by_cases q:k=0
 ·have f1:=eV q
  have HL:Hid (gS k=[]):=V (by simp [gS,q]);clear q;go_enter func194,ntmps194;go_wp2;go_ret;exact⟨_,rfl,by rw [HL.out];exact eA.nil _,an _ _⟩
 ·have f1:=eh q
  have HL:Hid (gS k=[k]):=V (by simp [gS,q]);clear q;go_enter func194,ntmps194;go_wp2;go_ret;refine⟨_,rfl,?_,(an _ _).alloc (ag _) _⟩;rw [HL.out];have hx:=eS.new w #[.int .i64 k] 3;refine DN fI (B:=w.heap.size) (t:=3) ⟨by simp [fk], .inr ⟨w.heap.size,1,_,rfl,ag _,hx,by simp,by simp [maxLen],by simp,by simp [fk]⟩⟩ hC
theorem my (w1:World) (C:Nat) (u:eT) (m:eI) (lv:Value) (w:World) (c:eX) (kv:Value) (l:List Int) (h:gB w1 C u m lv w c) (hl:eA 1 fk (tg C w) kv l) (hn:c.eu.length+l.length <=100000):
  Calls prog 193 #[.pointer (some ⟨C,0,none⟩),kv] w (n5 w1 C u m lv (.tuple #[]) (c.push l)):=by
 obtain⟨eu,fc,bad⟩:=c;obtain⟨v,v',hb,hv,hc,hk,hC⟩:=h;simp only at hv hc hn hb;obtain⟨av,cv,rfl,-,-⟩:=hv.slice;have Qn:w.cell? ⟨C,15,none⟩=some (.slice av eu.length cv):=hb.cell 15;have z15:=hb.free 15;have HB:=V hb;have HL:=V (hl.ext (AO C w));have Oc:=hk.size;have HV:=V hv;have HC:=V hc;have HK:=V hk;have HNE:=V (fun g (hg:eO (.slice av eu.length cv) g)=>ei.ne hv hc (by decide) g hg);clear hb hl hv hc hk;obtain⟨ak,ck,rfl,-,-,-⟩:=id HL.out;go_enter func193,ntmps193;go_wp2_with (first | (at_builtin;refine mw w rfl _ _ rfl rfl w1.heap.size _ eu rfl HV.out _ l rfl HL.out (by omega) Oc ?_));intro v2 w2 ho Nw NC;obtain⟨a2,c2,rfl,-,-⟩:=ho.slice;have No:=HB.out.keeps Nw (fun h=>by have:=(eM HV.out h).1;omega);have Ow:=HC.out.keeps Nw (fun i hi h=>HNE.out i h hi);have Oo:=HK.out.trans Nw (fun i hi=> .inr (eM HV.out hi).1);have Qn:w2.cell? ⟨C,15,none⟩=some (.slice av eu.length cv):=No.cell 15;have z15:=No.free 15;have HB:=V No;have HC2:=V Ow;have HK3:=V Oo;have HO:=V (show ei 3 1 fk w2 w1.heap.size (.slice a2 (eu.length+l.length) c2) (eu++l)by rw [<- ah];exact ho);clear No Ow Oo ho Nw NC;go_wp2
 go_end0
 exact⟨rfl,⟨_,v',HB.out.set 15 _,HO.out.keeps (eE _ C 15 _) (fun i hi h=>by have:=(eM HO.out hi).1;omega),HC2.out.keeps (eE _ C 15 _) (fun i hi h=>by have:=(eM HC2.out hi).1;omega),HK3.out.trans (eE _ C 15 _) (fun i hi=> .inl hi),hC⟩⟩
theorem sn {α:Type} {l:List α} (h:l≠[]):∃cs t,l=cs++[t]:=⟨l.dropLast,l.getLast h,(dg h).symm⟩
theorem nw (eu:List Int) (cs:List nt) (t:nt) (bad:Bool):eX.top ⟨eu,cs++[t],bad⟩=t:=by simp [eX.top]
def Cx (C g n cap:Nat) (t:nt) (w:World):Prop:=
 w.cell? ⟨C,16,none⟩=some (.slice (some ⟨g,0,none⟩) (n+1) cap)/\w.cell? ⟨g,n*4,none⟩=some (.int .i64 t.op)/\w.cell? ⟨g,n*4+1,none⟩=some (.int .i64 t.kind)/\w.cell? ⟨g,n*4+2,none⟩=some (.int .i64 t.fb)/\w.cell? ⟨g,n*4+3,none⟩=some (.bool t.dead)
theorem Cx.keeps {C g n cap:Nat} {t:nt} {w w':World} {S:Nat ->Prop} (h:Cx C g n cap t w) (hk:ep S w w') (h1:C < w.heap.size/\¬ S C) (h2:g < w.heap.size/\¬ S g):Cx C g n cap t w':=by
 obtain⟨a,b,c,d,e⟩:=h;exact⟨(hk.cell h1.1 h1.2).trans a,(hk.cell h2.1 h2.2).trans b,(hk.cell h2.1 h2.2).trans c,(hk.cell h2.1 h2.2).trans d,(hk.cell h2.1 h2.2).trans e⟩
theorem Cx.of {w:World} {B C:Nat} {v':Value} {cs:List nt} {t:nt} {xs:Array Value} {T:TypeId} (hb:eS w C xs T) (hx:xs[16]?=some v') (h:ei 191 4 zc w B v' (cs++[t])):
  ∃g cap,v'= .slice (some ⟨g,0,none⟩) (cs.length+1) cap/\cs.length+1 <=cap/\cap <=9223372036854775807/\B <=g/\g < w.heap.size/\Cx C g cs.length cap t w:=by
 obtain⟨g,cap,cur,rfl,Rp,Pv,hg3,NX,hm⟩:=h.open (by simp);have e:(cs++[t]).length=cs.length+1:=by simp
 rw [e]at h NX;refine⟨g,cap,by rw [e],NX,by simpa [maxLen] using hm,Rp,Pv,?_,?_,?_,?_,?_⟩
 ·rw [hb.cell 16,hx,e]
 ·exact ei.cell jW h (i:=cs.length) (j:=0) (x:=t) (u:= .int .i64 t.op) (by simp) rfl
 ·exact ei.cell jW h (i:=cs.length) (j:=1) (x:=t) (u:= .int .i64 t.kind) (by simp) rfl
 ·exact ei.cell jW h (i:=cs.length) (j:=2) (x:=t) (u:= .int .i64 t.fb) (by simp) rfl
 ·exact ei.cell jW h (i:=cs.length) (j:=3) (x:=t) (u:= .bool t.dead) (by simp) rfl
theorem E9 {w:World} {B:Nat} {v:Value} {vs:List Int} {k:Int} (h:ei 3 1 fk w B v (vs++[k])):
  ∃g cap,v= .slice (some ⟨g,0,none⟩) (vs.length+1) cap/\vs.length+1 <=cap/\cap <=9223372036854775807/\B <=g/\g < w.heap.size/\w.cell? ⟨g,vs.length,none⟩=some (.int .i64 k):=by
 obtain⟨g,cap,cur,rfl,Rp,Pv,hg3,NX,hm⟩:=h.open (by simp);have e:(vs++[k]).length=vs.length+1:=by simp
 rw [e]at h NX;refine⟨g,cap,by rw [e],NX,by simpa [maxLen] using hm,Rp,Pv,?_⟩;have:=ei.cell fI h (i:=vs.length) (j:=0) (x:=k) (u:= .int .i64 k) (by simp) rfl
 rwa [aW,aJ]at this
def F7 (w:World) (t:nt):World:=(w.alloc (.cells #[.int .i64 t.op, .int .i64 t.kind, .int .i64 t.fb, .bool t.dead] 191)).drew
theorem rD (w:World) (t:nt):Below w.heap.size w (F7 w t):=((an w.heap.size w).alloc (ag _) _).drew
theorem vR (w:World) (t:nt):eS (F7 w t) w.heap.size #[.int .i64 t.op, .int .i64 t.kind, .int .i64 t.fb, .bool t.dead] 191:=(eS.new w _ _).drew
theorem DZ (w1:World) (C:Nat) (u:eT) (m:eI) (lv:Value) (w:World) (c:eX) (want:Int) (h:gB w1 C u m lv w c) (hn:c.fc≠[]) (hs:c.top.fb <=c.eu.length):
  Calls prog 191 #[.pointer (some ⟨C,0,none⟩), .int .i64 want] w (D2 w1 C u m lv (.int .i64 (c.pop want).1) (c.pop want).2 w):=by
 have H:=V h;obtain⟨eu,fc,bad⟩:=c;obtain⟨cs,t,rfl⟩:=sn hn;rw [nw]at hs;simp only at hs;obtain⟨v,v',hb,hv,hc,hk,hC⟩:=h;have hCl:=hb.lt;obtain⟨g,cap,rfl,NX,OS,Rp,Pv,PI⟩:=Cx.of hb rfl hc;simp only at hv;have Oc:=hk.size;have Ri:=V PI;have HV:=V hv;have HB:=V hb;clear hb hc hk hn hv;go_enter func191,ntmps191;go_wp2_with fail;refine eB (Cx C g cs.length cap t) (up 0 12 ((12,false)::(13,false)::[])) (by kernel_rfl) (by kernel_rfl) (PI.keeps (ep.refl (fun _=>False) w).drew ⟨hCl,fun h=>h⟩ ⟨Pv,fun h=>h⟩) ?_;clear PI;iterate 12 (first | (apply sk rfl rfl;simp only [pt]) | (apply eo rfl rfl rfl;·(rintro w' ⟨t0,t1,t2,t3,t4⟩;go_wp2;exact⟨rfl,rfl,rfl⟩)))
 refine ew rfl rfl ?_;go_wp2_with fail;refine⟨Ri.out.keeps ((ep.refl (fun _=>False) w).drew.alloc _) ⟨hCl,fun h=>h⟩ ⟨Pv,fun h=>h⟩,?_⟩;refine ew rfl rfl ?_;go_wp2_with fail;have NQ:=V (rD w t);have HX:=V (vR w t);unfold F7 at NQ HX;have HS:=V (H.out.below NQ.out);have Ri:=V (Ri.out.keeps (ep.et (S:=fun _=>False) NQ.out) ⟨hCl,fun h=>h⟩ ⟨Pv,fun h=>h⟩);have hK:ep (fun i=>i=C) w _:=ep.et NQ.out;have HK:=V hK;have HQ:Hid (_=w.cell? ⟨C,16,none⟩):=V (NQ.out.cell hCl);refine⟨Ri.out,?_⟩;refine eW ?_;refine aA ?_;clear hK;generalize(w.alloc (.cells #[.int .i64 t.op, .int .i64 t.kind, .int .i64 t.fb, .bool t.dead] 191)).drew=wb at HX HS Ri HK HQ⊢;clear NQ;obtain⟨⟨x0,x1,x2,x3⟩,-,-,-,-⟩:=HX.out.four;by_cases q:eu.length=t.fb
 ·have f1:((eu.length:Int)==(t.fb:Int))=true:=eV (by omega)
  have f2:(eu.length==t.fb)=true:=by simp [q]
  have HP:Hid (eX.pop ⟨eu,cs++[t],bad⟩ want=(want,eX.need ⟨eu,cs++[t],bad⟩ t.dead)):=V (by
   unfold eX.pop;rw [nw,aE q])
  obtain⟨v,v',hb,hv,-,-,-⟩:=HS.out;obtain⟨av,cv,rfl,-,-⟩:=hv.slice;have Qn:wb.cell? ⟨C,15,none⟩=some (.slice av eu.length cv):=hb.cell 15;clear hb hv q x0 x1 Ri;go_wp2_with fail;refine eB (fun w'=>w'.cell? ⟨C,15,none⟩=some (.slice av eu.length cv)/\w'.cell? ⟨w.heap.size,2,none⟩=some (.int .i64 t.fb)) (up 0 8 []) (by kernel_rfl) (by kernel_rfl) ⟨Qn,x2⟩ ?_;iterate 8 (first | (apply sk rfl rfl;simp only [pt]) | (apply eo rfl rfl rfl;·(rintro w' ⟨t0,t1⟩;go_wp2;exact⟨rfl,rfl,rfl⟩)))
  refine eW ?_;refine aA ?_;have x3:wb.drew.cell? ⟨w.heap.size,3,none⟩=some (.bool t.dead):=x3;have HS:=V HS.out.drew;have HK:=V HK.out.drew;have HQ:=V (show wb.drew.cell? ⟨C,16,none⟩=w.cell? ⟨C,16,none⟩from HQ.out);generalize wb.drew=wc at HS HK HQ x3⊢;clear Qn x2;go_wp2_with fail;refine(jX w1 C u m lv wc _ t.dead HS.out).mono ?_;rintro e w2 ⟨rfl,NC,Nw,SN⟩;have HS:=V NC;have HK:=V (HK.out.trans Nw (fun _ h=> .inl h));have HQ:=V (SN.trans HQ.out);clear NC Nw x3 SN;go_wp2;go_ret;rw [HP.out];exact⟨rfl,HS.out,HK.out,HQ.out⟩
 ·obtain⟨vs,k,rfl⟩:=sn (l:=eu) (fun h=>by subst h;simp only [aH]at hs q;omega)
  have PY:(vs++[k]).length=vs.length+1:=by simp
  rw [PY]at q hs;have f1:((vs.length:Int)+1==(t.fb:Int))=false:=eh (by omega);have f2:(vs.length+1==t.fb)=false:=by simp [q]
  have HP:Hid (eX.pop ⟨vs++[k],cs++[t],bad⟩ want=if k=0 then(want,⟨vs,cs++[t],bad⟩)else(k,eX.need ⟨vs,cs++[t],bad⟩ (want==0 || k==want))):=V (by
   unfold eX.pop;rw [nw,PY,az q];simp)
  obtain⟨v,v',hb,hv,hc,hk,-⟩:=HS.out;simp only at hv hc;obtain⟨gv,NL,rfl,hcapv,hcmv,hgv1,hgv2,NS⟩:=E9 hv;have Qn:wb.cell? ⟨C,15,none⟩=some (.slice (some ⟨gv,0,none⟩) (vs.length+1) NL):=hb.cell 15;have NB:=V hb;have QH:=V hv;have HCC:=V hc;have RZ:=V hk;clear hb hv hc hk q x0 x1 x3 Ri H HV HB hs PY;go_wp2_with fail;refine eB (fun w'=>w'.cell? ⟨C,15,none⟩=some (.slice (some ⟨gv,0,none⟩) (vs.length+1) NL)/\w'.cell? ⟨w.heap.size,2,none⟩=some (.int .i64 t.fb)) (up 0 8 []) (by kernel_rfl) (by kernel_rfl) ⟨Qn,x2⟩ ?_;iterate 8 (first | (apply sk rfl rfl;simp only [pt]) | (apply eo rfl rfl rfl;·(rintro w' ⟨t0,t1⟩;go_wp2;exact⟨rfl,rfl,rfl⟩)))
  refine eW ?_;refine aA ?_;have Qn:wb.drew.cell? ⟨C,15,none⟩=some (.slice (some ⟨gv,0,none⟩) (vs.length+1) NL):=Qn;have NS:wb.drew.cell? ⟨gv,vs.length,none⟩=some (.int .i64 k):=NS;clear x2 f1 f2;go_wp2_with fail;refine eB (fun w'=>w'.cell? ⟨C,15,none⟩=some (.slice (some ⟨gv,0,none⟩) (vs.length+1) NL)/\w'.cell? ⟨gv,vs.length,none⟩=some (.int .i64 k)) (up 0 13 []) (by kernel_rfl) (by kernel_rfl) ⟨Qn,NS⟩ ?_;iterate 13 (first | (apply sk rfl rfl;simp only [pt]) | (apply eo rfl rfl rfl;·(rintro w' ⟨t0,t1⟩;go_wp2;exact⟨rfl,rfl,rfl⟩)))
  refine eW ?_;refine aA ?_;have Qn:wb.drew.drew.cell? ⟨C,15,none⟩=some (.slice (some ⟨gv,0,none⟩) (vs.length+1) NL):=Qn;clear NS;have OC:=fun wx=>om (some ⟨gv,0,none⟩) (vs.length+1) NL vs.length (by omega) wx;go_wp2_with fail;refine eY (fun w'=>w'.cell? ⟨C,15,none⟩=some (.slice (some ⟨gv,0,none⟩) (vs.length+1) NL)) 14 (up 0 14 []) (by kernel_rfl) (by kernel_rfl) Qn ?_;iterate 14 (first | (apply sk rfl rfl;simp only [pt]) | (apply eo rfl rfl rfl;·(rintro w' t0;go_wp2;exact⟨rfl,rfl,rfl⟩)))
  refine fJ rfl rfl ?_;have Qn:wb.drew.drew.drew.cell? ⟨C,15,none⟩=some (.slice (some ⟨gv,0,none⟩) (vs.length+1) NL):=Qn;have z15:wb.drew.drew.drew.frozen? ⟨C,15,none⟩=false:=NB.out.drew.drew.drew.free 15;have Np:=eE wb C 15 (.slice (some ⟨gv,0,none⟩) vs.length NL);have hT:=ei.take fI QH.out vs.length (by simp);rw [dt rfl]at hT;have OF:Hid (gB w1 C u m lv (wb.setCell ⟨C,15,none⟩ (.slice (some ⟨gv,0,none⟩) vs.length NL)).drew.drew.drew ⟨vs,cs++[t],bad⟩):=V ((((show gB w1 C u m lv (wb.setCell ⟨C,15,none⟩ (.slice (some ⟨gv,0,none⟩) vs.length NL)) ⟨vs,cs++[t],bad⟩from
   ⟨_,v',NB.out.set 15 _,hT.keeps Np (fun i hi h=>by have:=(eM hT hi).1;omega),HCC.out.keeps Np (fun i hi h=>by have:=(eM HCC.out hi).1;omega),RZ.out.trans Np (fun _ h=> .inl h),hC⟩).drew).drew).drew)
  have OX:=V ((HK.out.trans Np (fun _ h=> .inl h)).drew.drew.drew);have HQ:=V (show(wb.setCell ⟨C,15,none⟩ (.slice (some ⟨gv,0,none⟩) vs.length NL)).drew.drew.drew.cell? ⟨C,16,none⟩=w.cell? ⟨C,16,none⟩from(cA wb _ _ _ (by simp)).trans HQ.out);clear Np OC hT;go_wp2;refine⟨trivial,?_⟩;refine aA ?_;generalize(wb.setCell ⟨C,15,none⟩ (.slice (some ⟨gv,0,none⟩) vs.length NL)).drew.drew.drew=wd at OF OX HQ⊢;clear Qn z15;by_cases q0:k=0
  ·have f1:=eV q0
   have HP:=V (show eX.pop ⟨vs++[k],cs++[t],bad⟩ want=(want,⟨vs,cs++[t],bad⟩)by rw [HP.out,aE q0]);clear q0;go_wp2;go_ret;rw [HP.out];exact⟨rfl,OF.out,OX.out,HQ.out⟩
  have f1:=eh q0;have HP:=V (show eX.pop ⟨vs++[k],cs++[t],bad⟩ want=(k,eX.need ⟨vs,cs++[t],bad⟩ (want==0 || k==want))by rw [HP.out,az q0]);clear q0;by_cases q1:want=0
  ·have f2:=eV q1
   have HP:=V (show eX.pop ⟨vs++[k],cs++[t],bad⟩ want=(k,eX.need ⟨vs,cs++[t],bad⟩ true)by rw [HP.out,f2,Bool.true_or]);clear q1;go_wp2_with fail;refine(jX w1 C u m lv wd _ true OF.out).mono ?_;rintro e w2 ⟨rfl,NC,Nw,SN⟩;have HS:=V NC;have HK:=V (OX.out.trans Nw (fun _ h=> .inl h));have HQ:=V (SN.trans HQ.out);clear NC Nw SN;go_wp2;go_ret;rw [HP.out];exact⟨rfl,HS.out,HK.out,HQ.out⟩
  have f2:=eh q1;clear q1;by_cases q2:k=want
  ·have f3:=eV q2
   have HP:=V (show eX.pop ⟨vs++[k],cs++[t],bad⟩ want=(k,eX.need ⟨vs,cs++[t],bad⟩ true)by rw [HP.out,f3,Bool.or_true]);clear q2;go_wp2_with fail;refine(jX w1 C u m lv wd _ true OF.out).mono ?_;rintro e w2 ⟨rfl,NC,Nw,SN⟩;have HS:=V NC;have HK:=V (OX.out.trans Nw (fun _ h=> .inl h));have HQ:=V (SN.trans HQ.out);clear NC Nw SN;go_wp2;go_ret;rw [HP.out];exact⟨rfl,HS.out,HK.out,HQ.out⟩
  ·have f3:=eh q2
   have HP:=V (show eX.pop ⟨vs++[k],cs++[t],bad⟩ want=(k,eX.need ⟨vs,cs++[t],bad⟩ false)by rw [HP.out,f2,f3];rfl);clear q2;go_wp2_with fail;refine(jX w1 C u m lv wd _ false OF.out).mono ?_;rintro e w2 ⟨rfl,NC,Nw,SN⟩;have HS:=V NC;have HK:=V (OX.out.trans Nw (fun _ h=> .inl h));have HQ:=V (SN.trans HQ.out);clear NC Nw SN;go_wp2;go_ret;rw [HP.out];exact⟨rfl,HS.out,HK.out,HQ.out⟩
end Go.Proofs.YtjmeglibedbljaaGreatDoor
