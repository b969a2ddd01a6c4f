import Derived.Test.YthbjdhjppbcneaaGreatDoorStackJ9
namespace Go.Proofs.YthbjdhjppbcneaaGreatDoor
set_option maxRecDepth 100000
set_option maxHeartbeats 20000000
open Go.RowKit Tryz
open Lib renaming hid->V
set_option linter.all false
def kV (B:Nat) (w:World) (M:Nat) (u:eB) (m:ew):Prop:=eE w M (u.cells m) 62/\ej (mask (kD B) w) u m/\m.words/\M < B/\B <=w.heap.size
theorem kV.keeps {S:Nat ->Prop} {B:Nat} {w w':World} {M:Nat} {u:eB} {m:ew} (h:kV B w M u m) (hk:dS S w w') (hS:∀i,S i ->i < B\/w.heap.size <=i) (hM:¬ S M):kV B w' M u m:=
 ⟨h.1.keeps hk hM,h.2.1.ext (ny hk hS (.inl (ag _))),h.2.2.1,h.2.2.2.1,aW h.2.2.2.2 hk.size⟩
theorem kV.below {B:Nat} {w w':World} {M:Nat} {u:eB} {m:ew} (h:kV B w M u m) (hb:Below w.heap.size w w'):kV B w' M u m:=
 h.keeps (dS.dV (S:=fun _=>False) hb) (fun _ h=>h.elim) (fun h=>h)
theorem kV.put {B:Nat} {w:World} {M:Nat} {u u':eB} {m m':ew} {i:Nat} {v:Value} (h:kV B w M u m) (hc:(u.cells m).setIfInBounds i v=u'.cells m') (hw:m'.words)
  (hi:ej (mask (kD B) (w.setCell ⟨M,i,none⟩ v)) u m ->ej (mask (kD B) (w.setCell ⟨M,i,none⟩ v)) u' m'):kV B (w.setCell ⟨M,i,none⟩ v) M u' m':=by
 have hk:=ep w M i v;exact⟨by rw [<- hc];exact h.1.set i v,hi (h.2.1.ext (ny hk (fun k e=> .inl (by rw [e];exact h.2.2.2.1)) (.inl (ag _)))),hw,h.2.2.2.1,aW h.2.2.2.2 hk.size⟩
theorem kV.tg {B:Nat} {w:World} {M:Nat} {u u':eB} {m m':ew} {i:Nat} {v0 v1 v2:Value} (h:kV B w M u m) (hc:(((u.cells m).setIfInBounds i v0).setIfInBounds (i+1) v1).setIfInBounds (i+2) v2=u'.cells m') (hw:m'.words)
  (hi:∀w',ej w' u m ->ej w' u' m'):kV B (((w.setCell ⟨M,i,none⟩ v0).setCell ⟨M,i+1,none⟩ v1).setCell ⟨M,i+2,none⟩ v2) M u' m'/\dS (fun k=>k=M) w (((w.setCell ⟨M,i,none⟩ v0).setCell ⟨M,i+1,none⟩ v1).setCell ⟨M,i+2,none⟩ v2):=by
 have hk:=((ep w M i v0).trans (ep _ M (i+1) v1) (fun _ h=> .inl h)).trans (ep _ M (i+2) v2) (fun _ h=> .inl h);exact⟨⟨by rw [<- hc];exact((h.1.set i v0).set (i+1) v1).set (i+2) v2,hi _ (h.2.1.ext (ny hk (fun k e=> .inl (by rw [e];exact h.2.2.2.1)) (.inl (ag _)))),hw,h.2.2.2.1,aW h.2.2.2.2 hk.size⟩,hk⟩
theorem sL {α β:Type} {t:TypeId} {k:Nat} {enc:α × β ->List Value} {inner:World ->α ->β ->Prop} (hk:∀x,(enc x).length=k) (hx:∀w w' x u,Ext w w' ->inner w x u ->inner w' x u) {w:World} {B B1 M i:Nat} {v x:Value} {l:List α} (h:eM t k enc inner w B1 v l) (hB:B <=B1) (hM:M < B):
  ea k enc inner (mask (kD B) (w.setCell ⟨M,i,none⟩ x)) v l:=
 ea.ext (eM.low hk hx (eM.keeps hx h (ep w M i x) (fun j hj=> .inl (by omega)))) (uj _ hB) (fun _ _ h=>hx _ _ _ _ (uj _ hB) h)
theorem sN {α:Type} {t:TypeId} {k:Nat} {enc:α ->List Value} (hk:∀x,(enc x).length=k) {w:World} {B B1 M i:Nat} {v x:Value} {l:List α} (h:dR t k enc w B1 v l) (hB:B <=B1) (hM:M < B):
  ee k enc (mask (kD B) (w.setCell ⟨M,i,none⟩ x)) v l:=
 (jh hk ((h.stay (ep w M i x) (fun j hj=>by omega)).lower hB))
def lU (w0 w:World) (R M B:Nat) (no:Nat) (st:fW) (m:ew) (e:Ending) (w':World):Prop:=
 ∃u' m',e= .returned (.tuple #[])/\kV B w' M u' m'/\gU (jN no m) st m'/\fi w0 w' R (eg (jN no m) st)/\dS (fun k=>k=R\/k=M) w w'
theorem G8 {l:List jd} (h:∀x∈l,x.fits):∀x∈l,x.mod.size <=1000000000000/\x.name.size <=1000000000000:=fun x hx=>by
 obtain⟨h1,h2,_⟩:=h x hx;omega
theorem GW {l:List iB} (h:∀x∈l,x.fits):∀x∈l,x.name.size <=1000000000000:=fun x hx=>by
 obtain⟨h1,_⟩:=h x hx;omega
theorem JA (w0 w:World) (R M B:Nat) (st:fW) (u:eB) (m:ew) (h:fi w0 w R st) (hm:kV B w M u m) (Oy:R < B) (Mj:R≠M) (Nv:w0.heap.size <=M):
  Calls prog 111 #[.pointer (some ⟨R,0,none⟩), .pointer (some ⟨M,0,none⟩), .int .i64 1] w (lU w0 w R M B 1 st m):=by
 have L6:=h.lt;have KU:=(an w.heap.size w).alloc (ag _) (.cells #[.pointer (some ⟨R,0,none⟩)] 188);have HH:=V (h.below KU);have HM:=V (hm.below KU);have PB:=V hm;have HA:=V (eE.new w #[.pointer (some ⟨R,0,none⟩)] 188);have HK:=V ((dS.refl (fun k=>k=R\/k=M) w).alloc (.cells #[.pointer (some ⟨R,0,none⟩)] 188));have a0:=HA.out.cell 0;simp only [aG,aF]at a0;clear h hm KU;go_enter func111,ntmps111;go_wp2_with fail;clear a0;have PC:M < B:=HM.out.2.2.2.1;have Pw:B <=w.heap.size:=PB.out.2.2.2.2;generalize w.alloc (.cells #[.pointer (some ⟨R,0,none⟩)] 188)=wa at HH HM HA HK⊢;refine(GN w0 R oS (fun _=>True) wi st wa 210 #[.pointer (some ⟨R,0,none⟩)] #[] (fun _ _=>by rfl) HH.out (fun s w1 h _=>Eg w0 w1 R s h)).mono ?_;rintro e w2 ⟨v,l,rfl,ho,hp,hl,hw,hh,hk⟩;obtain⟨a,cap,rfl,-,-⟩:=ea.slice (eM.low tZ (fun _ _ _ _ he h=>h.ext he) ho);have HO:=V ho;have HP:=V hp;have HW:=V hw;have HH:=V hh;have LF:=V (HM.out.keeps hk (fun i hi=> .inl (by omega)) (fun h=>Mj h.symm));have HK:=V (HK.out.trans hk (fun _ h=> .inl (.inl h)));have x0:=LF.out.1.cell 0;have z0:=LF.out.1.free 0;simp only [eB.cells,aG,aF]at x0;clear ho hp hw hh hk;go_wp2_with fail
 go_end0
 have Km:=ep w2 M 0 (.slice a l.length cap);have Pc:B <=wa.heap.size:=HM.out.2.2.2.2;refine⟨{u with types:= .slice a l.length cap},{m with types:=l},rfl,LF.out.put rfl ?_ (fun⟨h1,h2,h3,h4,h5,h6,h7,h8,k1,k2,k3,k4,k5,k6⟩=>⟨sL tZ (fun _ _ _ _ he h=>h.ext he) HO.out Pc PC,h2,h3,h4,h5,h6,h7,h8,k1,k2,k3,k4,k5,k6⟩),?_,?_,HK.out.trans Km (fun _ h=> .inl (.inr h))⟩
 ·exact LF.out.2.2.1
 ·rw [FN]
  exact fA (f:=fun x=>{m with types:=x}) HW.out
 ·rw [FN,fo]
  exact HH.out.keeps Km (fun h=>Mj h) (fun i hi=>by subst hi;exact Nv)
theorem I8 (w0 w:World) (R M B:Nat) (st:fW) (u:eB) (m:ew) (h:fi w0 w R st) (hm:kV B w M u m) (Oy:R < B) (Mj:R≠M) (Nv:w0.heap.size <=M):
  Calls prog 111 #[.pointer (some ⟨R,0,none⟩), .pointer (some ⟨M,0,none⟩), .int .i64 2] w (lU w0 w R M B 2 st m):=by
 have L6:=h.lt;have KU:=(an w.heap.size w).alloc (ag _) (.cells #[.pointer (some ⟨R,0,none⟩)] 188);have HH:=V (h.below KU);have HM:=V (hm.below KU);have PB:=V hm;have HA:=V (eE.new w #[.pointer (some ⟨R,0,none⟩)] 188);have HK:=V ((dS.refl (fun k=>k=R\/k=M) w).alloc (.cells #[.pointer (some ⟨R,0,none⟩)] 188));have a0:=HA.out.cell 0;simp only [aG,aF]at a0;clear h hm KU;go_enter func111,ntmps111;go_wp2_with fail;clear a0;have PC:M < B:=HM.out.2.2.2.1;have Pw:B <=w.heap.size:=PB.out.2.2.2.2;generalize w.alloc (.cells #[.pointer (some ⟨R,0,none⟩)] 188)=wa at HH HM HA HK⊢;refine(Gs w0 R uw jd.fits yI st wa 212 #[.pointer (some ⟨R,0,none⟩)] #[] (fun _ _=>by rfl) HH.out (fun s w1 h _=>Ae w0 w1 R s h)).mono ?_;rintro e w2 ⟨v,l,rfl,ho,hp,hl,hw,hh,hk⟩;obtain⟨a,cap,rfl,-,-⟩:=ho.slice;have HO:=V ho;have HP:=V hp;have HW:=V hw;have HH:=V hh;have LF:=V (HM.out.keeps hk (fun i hi=> .inl (by omega)) (fun h=>Mj h.symm));have HK:=V (HK.out.trans hk (fun _ h=> .inl (.inl h)));have x0:=LF.out.1.cell 1;have z0:=LF.out.1.free 1;simp only [eB.cells,aG,aF,aT]at x0;clear ho hp hw hh hk;go_wp2_with fail
 go_end0
 have Km:=ep w2 M 1 (.slice a l.length cap);have Pc:B <=wa.heap.size:=HM.out.2.2.2.2;refine⟨{u with imports:= .slice a l.length cap},{m with imports:=l},rfl,LF.out.put rfl ?_ (fun⟨h1,h2,h3,h4,h5,h6,h7,h8,k1,k2,k3,k4,k5,k6⟩=>⟨h1,sN zR HO.out Pc PC,h3,h4,h5,h6,h7,h8,fun x hx=>(HP.out x hx).2.2,k2,k3,k4,k5,k6⟩),?_,?_,HK.out.trans Km (fun _ h=> .inl (.inr h))⟩
 ·exact⟨G8 HP.out,LF.out.2.2.1.2⟩
 ·rw [Fa]
  exact fA (f:=fun x=>{m with imports:=x}) HW.out
 ·rw [Fa,fo]
  exact HH.out.keeps Km (fun h=>Mj h) (fun i hi=>by subst hi;exact Nv)
theorem Jy (w0 w:World) (R M B:Nat) (st:fW) (u:eB) (m:ew) (h:fi w0 w R st) (hm:kV B w M u m) (Oy:R < B) (Mj:R≠M) (Nv:w0.heap.size <=M):
  Calls prog 111 #[.pointer (some ⟨R,0,none⟩), .pointer (some ⟨M,0,none⟩), .int .i64 3] w (lU w0 w R M B 3 st m):=by
 have L6:=h.lt;have KU:=(an w.heap.size w).alloc (ag _) (.cells #[.pointer (some ⟨R,0,none⟩)] 188);have HH:=V (h.below KU);have HM:=V (hm.below KU);have PB:=V hm;have HA:=V (eE.new w #[.pointer (some ⟨R,0,none⟩)] 188);have HK:=V ((dS.refl (fun k=>k=R\/k=M) w).alloc (.cells #[.pointer (some ⟨R,0,none⟩)] 188));have a0:=HA.out.cell 0;simp only [aG,aF]at a0;clear h hm KU;go_enter func111,ntmps111;go_wp2_with fail;clear a0;have PC:M < B:=HM.out.2.2.2.1;have Pw:B <=w.heap.size:=PB.out.2.2.2.2;generalize w.alloc (.cells #[.pointer (some ⟨R,0,none⟩)] 188)=wa at HH HM HA HK⊢;refine(nP w0 R uN iQ oq st wa 110 #[.pointer (some ⟨R,0,none⟩)] #[] (fun _ _=>by rfl) HH.out (fun s w1 h _=>Ep w0 w1 R s h)).mono ?_;rintro e w2 ⟨v,l,rfl,ho,hp,hl,hw,hh,hk⟩;obtain⟨a,cap,rfl,-,-⟩:=ho.slice;have HO:=V ho;have HP:=V hp;have HW:=V hw;have HH:=V hh;have LF:=V (HM.out.keeps hk (fun i hi=> .inl (by omega)) (fun h=>Mj h.symm));have HK:=V (HK.out.trans hk (fun _ h=> .inl (.inl h)));have x0:=LF.out.1.cell 2;have z0:=LF.out.1.free 2;simp only [eB.cells,aG,aF,aT]at x0;clear ho hp hw hh hk;go_wp2_with fail
 go_end0
 have Km:=ep w2 M 2 (.slice a l.length cap);have Pc:B <=wa.heap.size:=HM.out.2.2.2.2;refine⟨{u with funcs:= .slice a l.length cap},{m with funcs:=l},rfl,LF.out.put rfl ?_ (fun⟨h1,h2,h3,h4,h5,h6,h7,h8,k1,k2,k3,k4,k5,k6⟩=>⟨h1,h2,sN fp HO.out Pc PC,h4,h5,h6,h7,h8,k1,HP.out,k3,k4,k5,k6⟩),?_,?_,HK.out.trans Km (fun _ h=> .inl (.inr h))⟩
 ·exact LF.out.2.2.1
 ·rw [D8]
  exact fA (f:=fun x=>{m with funcs:=x}) HW.out
 ·rw [D8,fo]
  exact HH.out.keeps Km (fun h=>Mj h) (fun i hi=>by subst hi;exact Nv)
theorem Jr (w0 w:World) (R M B:Nat) (st:fW) (u:eB) (m:ew) (h:fi w0 w R st) (hm:kV B w M u m) (Oy:R < B) (Mj:R≠M) (Nv:w0.heap.size <=M):
  Calls prog 111 #[.pointer (some ⟨R,0,none⟩), .pointer (some ⟨M,0,none⟩), .int .i64 4] w (lU w0 w R M B 4 st m):=by
 have L6:=h.lt;have KU:=(an w.heap.size w).alloc (ag _) (.cells #[.pointer (some ⟨R,0,none⟩)] 188);have HH:=V (h.below KU);have HM:=V (hm.below KU);have PB:=V hm;have HA:=V (eE.new w #[.pointer (some ⟨R,0,none⟩)] 188);have HK:=V ((dS.refl (fun k=>k=R\/k=M) w).alloc (.cells #[.pointer (some ⟨R,0,none⟩)] 188));have a0:=HA.out.cell 0;simp only [aG,aF]at a0;clear h hm KU;go_enter func111,ntmps111;go_wp2_with fail;clear a0;have PC:M < B:=HM.out.2.2.2.1;generalize w.alloc (.cells #[.pointer (some ⟨R,0,none⟩)] 188)=wa at HH HM HA HK⊢;refine(sm w0 wa R true st HH.out).mono ?_;rintro e w2 ⟨x,rfl,Kt,hw,hh,hk⟩;have Lu:=V Kt;have HW:=V hw;have HH:=V hh;have LF:=V (HM.out.keeps hk (fun i hi=> .inl (by omega)) (fun h=>Mj h.symm));have HK:=V (HK.out.trans hk (fun _ h=> .inl (.inl h)));have x0:=LF.out.1.cell 3;have z0:=LF.out.1.free 3;have x1:=LF.out.1.cell 4;have z1:=LF.out.1.free 4;have x2:=LF.out.1.cell 5;have z2:=LF.out.1.free 5;simp only [eB.cells,aG,aF,aT]at x0 x1 x2;clear Kt hw hh hk;go_wp2_with fail
 go_end0
 obtain⟨hmd,Km⟩:=kV.tg (u':=u) (m':={m with table:=x}) (i:=3) (v0:= .bool x.has) (v1:= .int .i64 x.min) (v2:= .int .i64 x.max) LF.out rfl LF.out.2.2.1 (fun w' ⟨h1,h2,h3,h4,h5,h6,h7,h8,k1,k2,k3,k4,k5,k6⟩=>⟨h1,h2,h3,h4,h5,h6,h7,h8,k1,k2,Lu.out,k4,k5,k6⟩);refine⟨u,{m with table:=x},rfl,hmd,?_,?_,HK.out.trans Km (fun _ h=> .inl (.inr h))⟩
 ·rw [Eu]
  intro y hy;have hz:gU (gO (fun x=>({m with table:=x}:ew)) (gO jM (fh kS))) st {m with table:=x}:=fA HW.out;refine hz y ?_;rw [<- hy];cases st with
  | none=>rfl
  | some q=>simp only [aw,gO];cases fh kS q <;>rfl
 ·rw [Eu,fo]
  exact HH.out.keeps Km (fun h=>Mj h) (fun i hi=>by subst hi;exact Nv)
theorem Jc (w0 w:World) (R M B:Nat) (st:fW) (u:eB) (m:ew) (h:fi w0 w R st) (hm:kV B w M u m) (Oy:R < B) (Mj:R≠M) (Nv:w0.heap.size <=M):
  Calls prog 111 #[.pointer (some ⟨R,0,none⟩), .pointer (some ⟨M,0,none⟩), .int .i64 5] w (lU w0 w R M B 5 st m):=by
 have L6:=h.lt;have KU:=(an w.heap.size w).alloc (ag _) (.cells #[.pointer (some ⟨R,0,none⟩)] 188);have HH:=V (h.below KU);have HM:=V (hm.below KU);have PB:=V hm;have HA:=V (eE.new w #[.pointer (some ⟨R,0,none⟩)] 188);have HK:=V ((dS.refl (fun k=>k=R\/k=M) w).alloc (.cells #[.pointer (some ⟨R,0,none⟩)] 188));have a0:=HA.out.cell 0;simp only [aG,aF]at a0;clear h hm KU;go_enter func111,ntmps111;go_wp2_with fail;clear a0;have PC:M < B:=HM.out.2.2.2.1;generalize w.alloc (.cells #[.pointer (some ⟨R,0,none⟩)] 188)=wa at HH HM HA HK⊢;refine(sm w0 wa R false st HH.out).mono ?_;rintro e w2 ⟨x,rfl,Kt,hw,hh,hk⟩;have Lu:=V Kt;have HW:=V hw;have HH:=V hh;have LF:=V (HM.out.keeps hk (fun i hi=> .inl (by omega)) (fun h=>Mj h.symm));have HK:=V (HK.out.trans hk (fun _ h=> .inl (.inl h)));have x0:=LF.out.1.cell 6;have z0:=LF.out.1.free 6;have x1:=LF.out.1.cell 7;have z1:=LF.out.1.free 7;have x2:=LF.out.1.cell 8;have z2:=LF.out.1.free 8;simp only [eB.cells,aG,aF,aT]at x0 x1 x2;clear Kt hw hh hk;go_wp2_with fail
 go_end0
 obtain⟨hmd,Km⟩:=kV.tg (u':=u) (m':={m with mem:=x}) (i:=6) (v0:= .bool x.has) (v1:= .int .i64 x.min) (v2:= .int .i64 x.max) LF.out rfl LF.out.2.2.1 (fun w' ⟨h1,h2,h3,h4,h5,h6,h7,h8,k1,k2,k3,k4,k5,k6⟩=>⟨h1,h2,h3,h4,h5,h6,h7,h8,k1,k2,k3,Lu.out,k5,k6⟩);refine⟨u,{m with mem:=x},rfl,hmd,?_,?_,HK.out.trans Km (fun _ h=> .inl (.inr h))⟩
 ·rw [Fy]
  intro y hy;have hz:gU (gO (fun x=>({m with mem:=x}:ew)) (gO jM (fh fZ))) st {m with mem:=x}:=fA HW.out;refine hz y ?_;rw [<- hy];cases st with
  | none=>rfl
  | some q=>simp only [aw,gO];cases fh fZ q <;>rfl
 ·rw [Fy,fo]
  exact HH.out.keeps Km (fun h=>Mj h) (fun i hi=>by subst hi;exact Nv)
theorem Jf (w0 w:World) (R M B:Nat) (st:fW) (u:eB) (m:ew) (h:fi w0 w R st) (hm:kV B w M u m) (Oy:R < B) (Mj:R≠M) (Nv:w0.heap.size <=M):
  Calls prog 111 #[.pointer (some ⟨R,0,none⟩), .pointer (some ⟨M,0,none⟩), .int .i64 6] w (lU w0 w R M B 6 st m):=by
 have L6:=h.lt;have KU:=(an w.heap.size w).alloc (ag _) (.cells #[.pointer (some ⟨R,0,none⟩)] 188);have HH:=V (h.below KU);have HM:=V (hm.below KU);have PB:=V hm;have HA:=V (eE.new w #[.pointer (some ⟨R,0,none⟩)] 188);have HK:=V ((dS.refl (fun k=>k=R\/k=M) w).alloc (.cells #[.pointer (some ⟨R,0,none⟩)] 188));have a0:=HA.out.cell 0;simp only [aG,aF]at a0;clear h hm KU;go_enter func111,ntmps111;go_wp2_with fail;clear a0;have PC:M < B:=HM.out.2.2.2.1;have Pw:B <=w.heap.size:=PB.out.2.2.2.2;generalize w.alloc (.cells #[.pointer (some ⟨R,0,none⟩)] 188)=wa at HH HM HA HK⊢;refine(F5 w0 R o8 (fun x=>x.init.ok) vS st wa 216 #[.pointer (some ⟨R,0,none⟩)] #[] (fun _ _=>by rfl) HH.out (fun s w1 h _=>AH w0 w1 R s h)).mono ?_;rintro e w2 ⟨v,l,rfl,ho,hp,hl,hw,hh,hk⟩;obtain⟨a,cap,rfl,-,-⟩:=ho.slice;have HO:=V ho;have HP:=V hp;have HW:=V hw;have HH:=V hh;have LF:=V (HM.out.keeps hk (fun i hi=> .inl (by omega)) (fun h=>Mj h.symm));have HK:=V (HK.out.trans hk (fun _ h=> .inl (.inl h)));have x0:=LF.out.1.cell 9;have z0:=LF.out.1.free 9;simp only [eB.cells,aG,aF,aT]at x0;clear ho hp hw hh hk;go_wp2_with fail
 go_end0
 have Km:=ep w2 M 9 (.slice a l.length cap);have Pc:B <=wa.heap.size:=HM.out.2.2.2.2;refine⟨{u with globals:= .slice a l.length cap},{m with globals:=l},rfl,LF.out.put rfl ?_ (fun⟨h1,h2,h3,h4,h5,h6,h7,h8,k1,k2,k3,k4,k5,k6⟩=>⟨h1,h2,h3,sN xS HO.out Pc PC,h5,h6,h7,h8,k1,k2,k3,k4,HP.out,k6⟩),?_,?_,HK.out.trans Km (fun _ h=> .inl (.inr h))⟩
 ·exact LF.out.2.2.1
 ·rw [DL]
  exact fA (f:=fun x=>{m with globals:=x}) HW.out
 ·rw [DL,fo]
  exact HH.out.keeps Km (fun h=>Mj h) (fun i hi=>by subst hi;exact Nv)
theorem IX (w0 w:World) (R M B:Nat) (st:fW) (u:eB) (m:ew) (h:fi w0 w R st) (hm:kV B w M u m) (Oy:R < B) (Mj:R≠M) (Nv:w0.heap.size <=M):
  Calls prog 111 #[.pointer (some ⟨R,0,none⟩), .pointer (some ⟨M,0,none⟩), .int .i64 7] w (lU w0 w R M B 7 st m):=by
 have L6:=h.lt;have KU:=(an w.heap.size w).alloc (ag _) (.cells #[.pointer (some ⟨R,0,none⟩)] 188);have HH:=V (h.below KU);have HM:=V (hm.below KU);have PB:=V hm;have HA:=V (eE.new w #[.pointer (some ⟨R,0,none⟩)] 188);have HK:=V ((dS.refl (fun k=>k=R\/k=M) w).alloc (.cells #[.pointer (some ⟨R,0,none⟩)] 188));have a0:=HA.out.cell 0;simp only [aG,aF]at a0;clear h hm KU;go_enter func111,ntmps111;go_wp2_with fail;clear a0;have PC:M < B:=HM.out.2.2.2.1;have Pw:B <=w.heap.size:=PB.out.2.2.2.2;generalize w.alloc (.cells #[.pointer (some ⟨R,0,none⟩)] 188)=wa at HH HM HA HK⊢;refine(Hk w0 R tN iB.fits yg st wa 218 #[.pointer (some ⟨R,0,none⟩)] #[] (fun _ _=>by rfl) HH.out (fun s w1 h _=>A2 w0 w1 R s h)).mono ?_;rintro e w2 ⟨v,l,rfl,ho,hp,hl,hw,hh,hk⟩;obtain⟨a,cap,rfl,-,-⟩:=ho.slice;have HO:=V ho;have HP:=V hp;have HW:=V hw;have HH:=V hh;have LF:=V (HM.out.keeps hk (fun i hi=> .inl (by omega)) (fun h=>Mj h.symm));have HK:=V (HK.out.trans hk (fun _ h=> .inl (.inl h)));have x0:=LF.out.1.cell 10;have z0:=LF.out.1.free 10;simp only [eB.cells,aG,aF,aT]at x0;clear ho hp hw hh hk;go_wp2_with fail
 go_end0
 have Km:=ep w2 M 10 (.slice a l.length cap);have Pc:B <=wa.heap.size:=HM.out.2.2.2.2;refine⟨{u with dY:= .slice a l.length cap},{m with dY:=l},rfl,LF.out.put rfl ?_ (fun⟨h1,h2,h3,h4,h5,h6,h7,h8,k1,k2,k3,k4,k5,k6⟩=>⟨h1,h2,h3,h4,sN yj HO.out Pc PC,h6,h7,h8,k1,k2,k3,k4,k5,fun x hx=>(HP.out x hx).2⟩),?_,?_,HK.out.trans Km (fun _ h=> .inl (.inr h))⟩
 ·exact⟨LF.out.2.2.1.1,GW HP.out⟩
 ·rw [E6]
  exact fA (f:=fun x=>{m with dY:=x}) HW.out
 ·rw [E6,fo]
  exact HH.out.keeps Km (fun h=>Mj h) (fun i hi=>by subst hi;exact Nv)
theorem IM (w0 w:World) (R M B:Nat) (st:fW) (u:eB) (m:ew) (h:fi w0 w R st) (hm:kV B w M u m) (Oy:R < B) (Mj:R≠M) (Nv:w0.heap.size <=M):
  Calls prog 111 #[.pointer (some ⟨R,0,none⟩), .pointer (some ⟨M,0,none⟩), .int .i64 9] w (lU w0 w R M B 9 st m):=by
 have L6:=h.lt;have KU:=(an w.heap.size w).alloc (ag _) (.cells #[.pointer (some ⟨R,0,none⟩)] 188);have HH:=V (h.below KU);have HM:=V (hm.below KU);have PB:=V hm;have HA:=V (eE.new w #[.pointer (some ⟨R,0,none⟩)] 188);have HK:=V ((dS.refl (fun k=>k=R\/k=M) w).alloc (.cells #[.pointer (some ⟨R,0,none⟩)] 188));have a0:=HA.out.cell 0;simp only [aG,aF]at a0;clear h hm KU;go_enter func111,ntmps111;go_wp2_with fail;clear a0;have PC:M < B:=HM.out.2.2.2.1;have Pw:B <=w.heap.size:=PB.out.2.2.2.2;generalize w.alloc (.cells #[.pointer (some ⟨R,0,none⟩)] 188)=wa at HH HM HA HK⊢;refine(GC w0 R oU (fun _=>True) wv st wa 220 #[] #[.pointer (some ⟨w.heap.size,0,none⟩)] (fun _ _=>by rfl) HH.out (fun s w1 h hk=>Il w0 w1 R w.heap.size s h (HA.out.keeps hk (by omega)) L6)).mono ?_;rintro e w2 ⟨v,l,rfl,ho,hp,hl,hw,hh,hk⟩;obtain⟨a,cap,rfl,-,-⟩:=ea.slice (eM.low uL (fun _ _ _ _ he h=>h.ext he) ho);have HO:=V ho;have HP:=V hp;have HW:=V hw;have HH:=V hh;have LF:=V (HM.out.keeps hk (fun i hi=> .inl (by omega)) (fun h=>Mj h.symm));have HK:=V (HK.out.trans hk (fun _ h=> .inl (.inl h)));have x0:=LF.out.1.cell 11;have z0:=LF.out.1.free 11;simp only [eB.cells,aG,aF,aT]at x0;clear ho hp hw hh hk;go_wp2_with fail
 go_end0
 have Km:=ep w2 M 11 (.slice a l.length cap);have Pc:B <=wa.heap.size:=HM.out.2.2.2.2;refine⟨{u with elems:= .slice a l.length cap},{m with elems:=l},rfl,LF.out.put rfl ?_ (fun⟨h1,h2,h3,h4,h5,h6,h7,h8,k1,k2,k3,k4,k5,k6⟩=>⟨h1,h2,h3,h4,h5,sL uL (fun _ _ _ _ he h=>h.ext he) HO.out Pc PC,h7,h8,k1,k2,k3,k4,k5,k6⟩),?_,?_,HK.out.trans Km (fun _ h=> .inl (.inr h))⟩
 ·exact LF.out.2.2.1
 ·rw [EV]
  exact fA (f:=fun x=>{m with elems:=x}) HW.out
 ·rw [EV,fo]
  exact HH.out.keeps Km (fun h=>Mj h) (fun i hi=>by subst hi;exact Nv)
theorem It (w0 w:World) (R M B:Nat) (st:fW) (u:eB) (m:ew) (h:fi w0 w R st) (hm:kV B w M u m) (Oy:R < B) (Mj:R≠M) (Nv:w0.heap.size <=M):
  Calls prog 111 #[.pointer (some ⟨R,0,none⟩), .pointer (some ⟨M,0,none⟩), .int .i64 10] w (lU w0 w R M B 10 st m):=by
 have L6:=h.lt;have KU:=(an w.heap.size w).alloc (ag _) (.cells #[.pointer (some ⟨R,0,none⟩)] 188);have HH:=V (h.below KU);have HM:=V (hm.below KU);have PB:=V hm;have HA:=V (eE.new w #[.pointer (some ⟨R,0,none⟩)] 188);have HK:=V ((dS.refl (fun k=>k=R\/k=M) w).alloc (.cells #[.pointer (some ⟨R,0,none⟩)] 188));have a0:=HA.out.cell 0;simp only [aG,aF]at a0;clear h hm KU;go_enter func111,ntmps111;go_wp2_with fail;clear a0;have PC:M < B:=HM.out.2.2.2.1;have Pw:B <=w.heap.size:=PB.out.2.2.2.2;generalize w.alloc (.cells #[.pointer (some ⟨R,0,none⟩)] 188)=wa at HH HM HA HK⊢;refine(Hj w0 R lO (fun _=>True) vT st wa 223 #[.pointer (some ⟨R,0,none⟩)] #[] (fun _ _=>by rfl) HH.out (fun s w1 h _=>DF w0 w1 R s h)).mono ?_;rintro e w2 ⟨v,l,rfl,ho,hp,hl,hw,hh,hk⟩;obtain⟨a,cap,rfl,-,-⟩:=ea.slice (eM.low ui (fun _ _ _ _ he h=>h.ext he) ho);have HO:=V ho;have HP:=V hp;have HW:=V hw;have HH:=V hh;have LF:=V (HM.out.keeps hk (fun i hi=> .inl (by omega)) (fun h=>Mj h.symm));have HK:=V (HK.out.trans hk (fun _ h=> .inl (.inl h)));have x0:=LF.out.1.cell 12;have z0:=LF.out.1.free 12;simp only [eB.cells,aG,aF,aT]at x0;clear ho hp hw hh hk;go_wp2_with fail
 go_end0
 have Km:=ep w2 M 12 (.slice a l.length cap);have Pc:B <=wa.heap.size:=HM.out.2.2.2.2;refine⟨{u with eh:= .slice a l.length cap},{m with eh:=l},rfl,LF.out.put rfl ?_ (fun⟨h1,h2,h3,h4,h5,h6,h7,h8,k1,k2,k3,k4,k5,k6⟩=>⟨h1,h2,h3,h4,h5,h6,sL ui (fun _ _ _ _ he h=>h.ext he) HO.out Pc PC,h8,k1,k2,k3,k4,k5,k6⟩),?_,?_,HK.out.trans Km (fun _ h=> .inl (.inr h))⟩
 ·exact LF.out.2.2.1
 ·rw [A0]
  exact fA (f:=fun x=>{m with eh:=x}) HW.out
 ·rw [A0,fo]
  exact HH.out.keeps Km (fun h=>Mj h) (fun i hi=>by subst hi;exact Nv)
theorem Ix (w0 w:World) (R M B:Nat) (st:fW) (u:eB) (m:ew) (h:fi w0 w R st) (hm:kV B w M u m) (Oy:R < B) (Mj:R≠M) (Nv:w0.heap.size <=M):
  Calls prog 111 #[.pointer (some ⟨R,0,none⟩), .pointer (some ⟨M,0,none⟩), .int .i64 11] w (lU w0 w R M B 11 st m):=by
 have L6:=h.lt;have KU:=(an w.heap.size w).alloc (ag _) (.cells #[.pointer (some ⟨R,0,none⟩)] 188);have HH:=V (h.below KU);have HM:=V (hm.below KU);have PB:=V hm;have HA:=V (eE.new w #[.pointer (some ⟨R,0,none⟩)] 188);have HK:=V ((dS.refl (fun k=>k=R\/k=M) w).alloc (.cells #[.pointer (some ⟨R,0,none⟩)] 188));have a0:=HA.out.cell 0;simp only [aG,aF]at a0;clear h hm KU;go_enter func111,ntmps111;go_wp2_with fail;clear a0;have PC:M < B:=HM.out.2.2.2.1;have Pw:B <=w.heap.size:=PB.out.2.2.2.2;generalize w.alloc (.cells #[.pointer (some ⟨R,0,none⟩)] 188)=wa at HH HM HA HK⊢;refine(Hn w0 R uD (fun _=>True) zt st wa 225 #[] #[.pointer (some ⟨w.heap.size,0,none⟩)] (fun _ _=>by rfl) HH.out (fun s w1 h hk=>Jw w0 w1 R w.heap.size s h (HA.out.keeps hk (by omega)) L6)).mono ?_;rintro e w2 ⟨v,l,rfl,ho,hp,hl,hw,hh,hk⟩;obtain⟨a,cap,rfl,-,-⟩:=ea.slice (eM.low rG (fun _ _ _ _ he h=>h.ext he) ho);have HO:=V ho;have HP:=V hp;have HW:=V hw;have HH:=V hh;have LF:=V (HM.out.keeps hk (fun i hi=> .inl (by omega)) (fun h=>Mj h.symm));have HK:=V (HK.out.trans hk (fun _ h=> .inl (.inl h)));have x0:=LF.out.1.cell 13;have z0:=LF.out.1.free 13;simp only [eB.cells,aG,aF,aT]at x0;clear ho hp hw hh hk;go_wp2_with fail
 go_end0
 have Km:=ep w2 M 13 (.slice a l.length cap);have Pc:B <=wa.heap.size:=HM.out.2.2.2.2;refine⟨{u with eA:= .slice a l.length cap},{m with eA:=l},rfl,LF.out.put rfl ?_ (fun⟨h1,h2,h3,h4,h5,h6,h7,h8,k1,k2,k3,k4,k5,k6⟩=>⟨h1,h2,h3,h4,h5,h6,h7,sL rG (fun _ _ _ _ he h=>h.ext he) HO.out Pc PC,k1,k2,k3,k4,k5,k6⟩),?_,?_,HK.out.trans Km (fun _ h=> .inl (.inr h))⟩
 ·exact LF.out.2.2.1
 ·rw [A7]
  exact fA (f:=fun x=>{m with eA:=x}) HW.out
 ·rw [A7,fo]
  exact HH.out.keeps Km (fun h=>Mj h) (fun i hi=>by subst hi;exact Nv)
theorem I4 (w0 w:World) (R M B:Nat) (no:Nat) (st:fW) (u:eB) (m:ew) (h:fi w0 w R st) (hm:kV B w M u m) (Oy:R < B) (Mj:R≠M) (NI:no=0\/no=8\/11 < no):
  Calls prog 111 #[.pointer (some ⟨R,0,none⟩), .pointer (some ⟨M,0,none⟩), .int .i64 no] w (lU w0 w R M B no st m):=by
 have KU:=(an w.heap.size w).alloc (ag _) (.cells #[.pointer (some ⟨R,0,none⟩)] 188);have HH:=V (h.below KU);have HM:=V (hm.below KU);have HA:=V (eE.new w #[.pointer (some ⟨R,0,none⟩)] 188);have HK:=V ((dS.refl (fun k=>k=R\/k=M) w).alloc (.cells #[.pointer (some ⟨R,0,none⟩)] 188));have a0:=HA.out.cell 0;simp only [aG,aF]at a0;have c1:=HH.out.bad;have z1:=HH.out.free 1;have f1:((no:Int)==1)=false:=dQ (by omega);have f2:((no:Int)==2)=false:=dQ (by omega);have f3:((no:Int)==3)=false:=dQ (by omega);have f4:((no:Int)==4)=false:=dQ (by omega);have f5:((no:Int)==5)=false:=dQ (by omega);have f6:((no:Int)==6)=false:=dQ (by omega);have f7:((no:Int)==7)=false:=dQ (by omega);have f9:((no:Int)==9)=false:=dQ (by omega);have f10:((no:Int)==10)=false:=dQ (by omega);have f11:((no:Int)==11)=false:=dQ (by omega);have HNO:=V (fun l=>vY (n:=no) m l NI);clear h hm KU NI;go_enter func111,ntmps111;go_wp2_with fail
 go_end0
 have Km:=ep (w.alloc (.cells #[.pointer (some ⟨R,0,none⟩)] 188)) R 1 (.bool true);have hN:st.bind (jN no m)=none:=by
  cases st with
  | none=>rfl
  | some l=>exact HNO.out l
 refine⟨u,m,rfl,HM.out.keeps Km (fun i hi=> .inl (by omega)) (fun h=>Mj h.symm),fun y hy=>(by rw [hN]at hy;cases hy),?_,HK.out.trans Km (fun _ h=> .inl (.inl h))⟩;rw [show eg (jN no m) st=none by unfold eg;rw [hN];rfl];exact HH.out.fail
theorem yd (w0 w:World) (R M B:Nat) (no:Nat) (st:fW) (u:eB) (m:ew) (h:fi w0 w R st) (hm:kV B w M u m) (Oy:R < B) (Mj:R≠M) (Nv:w0.heap.size <=M):
  Calls prog 111 #[.pointer (some ⟨R,0,none⟩), .pointer (some ⟨M,0,none⟩), .int .i64 no] w (lU w0 w R M B no st m):=by
 by_cases NI:no=0\/no=8\/11 < no
 ·exact I4 w0 w R M B no st u m h hm Oy Mj NI
 ·have h2:no=1\/no=2\/no=3\/no=4\/no=5\/no=6\/no=7\/no=9\/no=10\/no=11:=by omega
  rcases h2 with rfl | rfl | rfl | rfl | rfl | rfl | rfl | rfl | rfl | rfl
  ·exact JA w0 w R M B st u m h hm Oy Mj Nv
  ·exact I8 w0 w R M B st u m h hm Oy Mj Nv
  ·exact Jy w0 w R M B st u m h hm Oy Mj Nv
  ·exact Jr w0 w R M B st u m h hm Oy Mj Nv
  ·exact Jc w0 w R M B st u m h hm Oy Mj Nv
  ·exact Jf w0 w R M B st u m h hm Oy Mj Nv
  ·exact IX w0 w R M B st u m h hm Oy Mj Nv
  ·exact IM w0 w R M B st u m h hm Oy Mj Nv
  ·exact It w0 w R M B st u m h hm Oy Mj Nv
  ·exact Ix w0 w R M B st u m h hm Oy Mj Nv
def Gg (l:List UInt8) (w:World) (e:Ending) (w':World):Prop:=e= .returned (.bool (l.take 8==fw))/\w'=w
theorem AP (l:List UInt8) (n:Nat):(bs l).extract 0 n=bs (l.take n):=by
 apply ByteArray.ext;simp [bs]
theorem uT (l:List UInt8) (hl:l.length <=1000000) (w:World):Calls prog 107 #[.string (bs l), .string (bs fw)] w (Gg l w):=by
 have hs:(bs l).size=l.length:=Ca l;have hh:(bs fw).size=8:=rfl;by_cases q:8 <=l.length
 ·have f1:decide ((8:Int) <=(l.length:Int))=true:=az (by omega)
  have f2:decide (8 <=l.length)=true:=az q;have he:=AP l 8;go_enter func107,ntmps107;go_wp2;go_ret;refine⟨?_,rfl⟩;show Ending.returned (.bool ((bs (l.take 8)).toList==(bs fw).toList))=_;rw [ln,ln]
 ·have f1:decide ((8:Int) <=(l.length:Int))=false:=aA (by omega)
  have f2:decide (8 <=l.length)=false:=aA q;go_enter func107,ntmps107;go_wp2;go_ret;refine⟨?_,rfl⟩;have h:(l.take 8==fw)=false:=dE.2 (fun h=>by
   have:=cW List.length h;rw [aR,show fw.length=8 from rfl]at this;omega)
  rw [h];rfl
def qb (l:List UInt8):Option ew:=(mh l).bind fun m=>if m.may/\fy m=l then some m else none
def u0:eB:=⟨.slice none 0 0, .slice none 0 0, .slice none 0 0, .slice none 0 0, .slice none 0 0, .slice none 0 0, .slice none 0 0, .slice none 0 0⟩
theorem rr (w:World):ej w u0 m0:=
 ⟨ea.nil _,ee.nil _,ee.nil _,ee.nil _,ee.nil _,ea.nil _,ea.nil _,ea.nil _,by simp [m0],by simp [m0],nH,nH,by simp [m0],by simp [m0]⟩
theorem E0:m0.words:=⟨by simp [m0],by simp [m0]⟩
def GX (l:List UInt8) (w:World) (e:Ending) (w':World):Prop:=
 Below w.heap.size w w'/\((∃u m,qb l=some m/\e= .returned (.tuple #[.agg (u.cells m), .int .i64 0])/\ej (mask (kD w.heap.size) w') u m/\m.words)\/
  (qb l=none/\e= .returned (.tuple #[.agg (u0.cells m0), .int .i64 (if 8000 < l.length then 4 else 1)])))
theorem Dh {c:UInt8} {rest:List UInt8} {f:Nat} {m m':ew} (hw:gU (jN c.toNat m) (eg fQ (some rest)) m'):
  (some (c::rest):fW).bind (nL (f+1) m)=(eg (jN c.toNat m) (eg fQ (some rest))).bind (nL f m'):=by
 simp only [aw,nL];cases h:fQ rest with
 | none=>simp [eg,h]
 | some k=>
  have h2:eg fQ (some rest)=some k.2:=by simp [eg,h]
  rw [h2]at hw⊢;simp only [aw];cases h3:jN c.toNat m k.2 with
  | none=>simp [eg,h3]
  | some x=>
   have:=hw x (by simpa using h3);subst this;simp [eg,h3]
theorem uZ {l:List UInt8} (hl:l.length <=8000):mh l=(ir 8 true (if(l.take 8==fw)=true then some l else none)).bind (nL (l.length+1) m0):=by
 unfold mh;rw [aC (by omega)];by_cases q:l.take 8=fw
 ·have h8:8 <=l.length:=by
   have:=cW List.length q;rw [aR,show fw.length=8 from rfl]at this;omega
  rw [aJ q,aJ (by simp [q])];simp [ir,h8]
 ·rw [aC q,aC (by simp [q])]
  rfl
def D4 (w:World) (R:Nat):Nat:=match w.cell? ⟨R,1,none⟩,w.cell? ⟨R,0,none⟩with
 | some (.bool false),some (.slice _ n _)=>n+1
 | _,_=>0
theorem fi.left {w0 w:World} {R:Nat} {s:fW} (h:fi w0 w R s):D4 w R=s.len:=by
 obtain⟨a,l,cap,bad,h1,h2,h3,h4,h5,h6⟩:=h;subst h4;unfold D4;rw [h1.cell 1,h1.cell 0];cases bad <;>rfl
def JJ (l:List UInt8) (X M R B:Nat) (w w':World) (u:eB) (m:ew) (s:fW) (f:Nat):Prop:=
 mh l=s.bind (nL f m)/\s.len <=f/\fi w w' R s/\kV B w' M u m/\eE w' X (u0.cells m0) 62/\Below w.heap.size w w'
theorem eE.mf {w:World} {X:Nat} {u:eB} {m:ew} {t:TypeId} (h:eE w X (u.cells m) t):(loadVar 62 ⟨X,0,none⟩).run prog w= .ok (.agg (u.cells m)) w:=by
 have hs:(prog.underlying 62).map (fun d=>match d with | .struct _ | .array _ _=>true | _=>false)=some true:=by kernel_rfl
 obtain⟨d,h1,h2⟩:=bB.1 hs;exact bZ w X t 62 _ _ d h h1 (by cases d <;>first | rfl | (exfalso;simp at h2)) (by kernel_rfl)
def oA (w:World) (X:Nat) (u:eB) (m:ew):World:=
 (((((((((((((w.setCell ⟨X,0,none⟩ u.types).setCell ⟨X,1,none⟩ u.imports).setCell ⟨X,2,none⟩ u.funcs).setCell ⟨X,3,none⟩ (.bool m.table.has)).setCell ⟨X,4,none⟩ (.int .i64 m.table.min)).setCell ⟨X,5,none⟩ (.int .i64 m.table.max)).setCell ⟨X,6,none⟩ (.bool m.mem.has)).setCell ⟨X,7,none⟩ (.int .i64 m.mem.min)).setCell ⟨X,8,none⟩ (.int .i64 m.mem.max)).setCell ⟨X,9,none⟩ u.globals).setCell ⟨X,10,none⟩ u.dY).setCell ⟨X,11,none⟩ u.elems).setCell ⟨X,12,none⟩ u.eh).setCell ⟨X,13,none⟩ u.eA
theorem kq (w:World) (X:Nat) (u:eB) (m:ew):dS (fun k=>k=X) w (oA w X u m):=by
 have st:∀{a b:World} (i:Nat) (v:Value),dS (fun k=>k=X) a b ->dS (fun k=>k=X) a (b.setCell ⟨X,i,none⟩ v):=fun i v h=>h.trans (ep _ X i v) (fun _ h=> .inl h);exact st _ _ (st _ _ (st _ _ (st _ _ (st _ _ (st _ _ (st _ _ (st _ _ (st _ _ (st _ _ (st _ _ (st _ _ (st _ _ (st _ _ (dS.refl _ _))))))))))))))
theorem eE.oA {w:World} {X:Nat} {u':eB} {m':ew} {t:TypeId} (h:eE w X (u'.cells m') t) (u:eB) (m:ew):eE (oA w X u m) X (u.cells m) t:=by
 have h1:=(((((((((((((h.set 0 u.types).set 1 u.imports).set 2 u.funcs).set 3 (.bool m.table.has)).set 4 (.int .i64 m.table.min)).set 5 (.int .i64 m.table.max)).set 6 (.bool m.mem.has)).set 7 (.int .i64 m.mem.min)).set 8 (.int .i64 m.mem.max)).set 9 u.globals).set 10 u.dY).set 11 u.elems).set 12 u.eh).set 13 u.eA;simp only [eB.cells,aZ,bE,bH]at h1;exact h1
theorem eE.um {w:World} {X:Nat} {xs:Array Value} {t:TypeId} (h:eE w X xs t):w.frozen? ⟨X,0,none⟩=false/\w.frozen? ⟨X,1,none⟩=false/\w.frozen? ⟨X,2,none⟩=false/\w.frozen? ⟨X,3,none⟩=false/\w.frozen? ⟨X,4,none⟩=false/\w.frozen? ⟨X,5,none⟩=false/\w.frozen? ⟨X,6,none⟩=false/\w.frozen? ⟨X,7,none⟩=false/\w.frozen? ⟨X,8,none⟩=false/\w.frozen? ⟨X,9,none⟩=false/\w.frozen? ⟨X,10,none⟩=false/\w.frozen? ⟨X,11,none⟩=false/\w.frozen? ⟨X,12,none⟩=false/\w.frozen? ⟨X,13,none⟩=false:=
 ⟨h.free 0,h.free 1,h.free 2,h.free 3,h.free 4,h.free 5,h.free 6,h.free 7,h.free 8,h.free 9,h.free 10,h.free 11,h.free 12,h.free 13⟩
theorem pZ (b:Value) (l:List UInt8) (w:World) (hb:eI w b l) (N7:l.length <=1000000):Calls prog 68 #[b] w (GX l w):=by
 have HB:=V hb;obtain⟨a,cap,rfl,K7,MR,-⟩:=id hb;clear hb;by_cases q:8000 < l.length
 ·have f1:decide ((8000:Int) < (l.length:Int))=true:=az (by omega)
  have f2:decide (8000 < l.length)=true:=az q;have HX:=V (show eE (w.alloc (.cells (u0.cells m0) 62)) w.heap.size (u0.cells m0) 62 from eE.new w _ _);have HD:=V (show qb l=none by simp [qb,mh,q]);go_enter func68,ntmps68;obtain⟨p0,p1,p2,p3,p4,p5,p6,p7,p8,p9,p10,p11,p12,p13⟩:=HX.out.mod;obtain⟨q0,q1,q2,q3,q4,q5,q6,q7,q8,q9,q10,N8,q12,q13⟩:=HX.out.um;go_wp2_with fail;refine aN (fa rfl _ _ rfl HX.out.mf) rfl ?_;exact⟨(an _ _).alloc (ag _) _, .inr ⟨HD.out,by rw [aJ q];rfl⟩⟩
 have f1:decide ((8000:Int) < (l.length:Int))=false:=aA (by omega);have f2:decide (8000 < l.length)=false:=aA q;have Ko:=V (uZ (l:=l) (by omega));have Kl:Below w.heap.size w ((w.alloc (.cells #[.slice none 0 0, .slice none 0 0, .slice none 0 0, .bool false, .int .i64 0, .int .i64 0, .bool false, .int .i64 0, .int .i64 0, .slice none 0 0, .slice none 0 0, .slice none 0 0, .slice none 0 0, .slice none 0 0] 62)).alloc (.cells #[.slice none 0 0, .slice none 0 0, .slice none 0 0, .bool false, .int .i64 0, .int .i64 0, .bool false, .int .i64 0, .int .i64 0, .slice none 0 0, .slice none 0 0, .slice none 0 0, .slice none 0 0, .slice none 0 0] 62)):=((an _ _).alloc (ag _) _).alloc (by rw [aE];omega) _;have hstr:=pB (HB.out.below Kl);clear Kl;go_enter func68,ntmps68;go_wp2_with fail;refine(uT l N7 _).mono ?_;rintro e w1 ⟨rfl,rfl⟩;obtain⟨pb,hpb⟩:∃pb,(l.take 8==fw)=pb:=⟨_,rfl⟩;rw [hpb];rw [hpb]at Ko;clear hpb hstr;go_wp2_with fail;obtain⟨bad,hbad⟩:∃bad,(!pb)=bad:=⟨_,rfl⟩;rw [hbad];have Ko:=V (show mh l=(ir 8 true (if bad=true then none else some l)).bind (nL (l.length+1) m0)by
  rw [Ko.out, <- hbad];cases pb <;>rfl)
 clear hbad;have hX:=eE.new w #[.slice none 0 0, .slice none 0 0, .slice none 0 0, .bool false, .int .i64 0, .int .i64 0, .bool false, .int .i64 0, .int .i64 0, .slice none 0 0, .slice none 0 0, .slice none 0 0, .slice none 0 0, .slice none 0 0] 62;have hM:=eE.new (w.alloc (.cells #[.slice none 0 0, .slice none 0 0, .slice none 0 0, .bool false, .int .i64 0, .int .i64 0, .bool false, .int .i64 0, .int .i64 0, .slice none 0 0, .slice none 0 0, .slice none 0 0, .slice none 0 0, .slice none 0 0] 62)) #[.slice none 0 0, .slice none 0 0, .slice none 0 0, .bool false, .int .i64 0, .int .i64 0, .bool false, .int .i64 0, .int .i64 0, .slice none 0 0, .slice none 0 0, .slice none 0 0, .slice none 0 0, .slice none 0 0] 62;have hR:=eE.new ((w.alloc (.cells #[.slice none 0 0, .slice none 0 0, .slice none 0 0, .bool false, .int .i64 0, .int .i64 0, .bool false, .int .i64 0, .int .i64 0, .slice none 0 0, .slice none 0 0, .slice none 0 0, .slice none 0 0, .slice none 0 0] 62)).alloc (.cells #[.slice none 0 0, .slice none 0 0, .slice none 0 0, .bool false, .int .i64 0, .int .i64 0, .bool false, .int .i64 0, .int .i64 0, .slice none 0 0, .slice none 0 0, .slice none 0 0, .slice none 0 0, .slice none 0 0] 62)) #[.slice a l.length cap, .bool bad] 191;have hX:=(hX.alloc (.cells #[.slice none 0 0, .slice none 0 0, .slice none 0 0, .bool false, .int .i64 0, .int .i64 0, .bool false, .int .i64 0, .int .i64 0, .slice none 0 0, .slice none 0 0, .slice none 0 0, .slice none 0 0, .slice none 0 0] 62)).alloc (.cells #[.slice a l.length cap, .bool bad] 191);have hM:=hM.alloc (.cells #[.slice a l.length cap, .bool bad] 191);have hBW:Below w.heap.size w (((w.alloc (.cells #[.slice none 0 0, .slice none 0 0, .slice none 0 0, .bool false, .int .i64 0, .int .i64 0, .bool false, .int .i64 0, .int .i64 0, .slice none 0 0, .slice none 0 0, .slice none 0 0, .slice none 0 0, .slice none 0 0] 62)).alloc (.cells #[.slice none 0 0, .slice none 0 0, .slice none 0 0, .bool false, .int .i64 0, .int .i64 0, .bool false, .int .i64 0, .int .i64 0, .slice none 0 0, .slice none 0 0, .slice none 0 0, .slice none 0 0, .slice none 0 0] 62)).alloc (.cells #[.slice a l.length cap, .bool bad] 191)):=(((an _ _).alloc (ag _) _).alloc (by rw [aE];omega) _).alloc (by rw [aE,aE];omega) _;rw [aE]at hM;rw [aE,aE]at hR;generalize((w.alloc (.cells #[.slice none 0 0, .slice none 0 0, .slice none 0 0, .bool false, .int .i64 0, .int .i64 0, .bool false, .int .i64 0, .int .i64 0, .slice none 0 0, .slice none 0 0, .slice none 0 0, .slice none 0 0, .slice none 0 0] 62)).alloc (.cells #[.slice none 0 0, .slice none 0 0, .slice none 0 0, .bool false, .int .i64 0, .int .i64 0, .bool false, .int .i64 0, .int .i64 0, .slice none 0 0, .slice none 0 0, .slice none 0 0, .slice none 0 0, .slice none 0 0] 62)).alloc (.cells #[.slice a l.length cap, .bool bad] 191)=wa at hX hM hR hBW⊢;have Le:fi w wa (w.heap.size+1+1) (if bad=true then none else some l):=⟨a,l,cap,bad,hR,HB.out,by omega,rfl,hBW,by omega⟩;have hmd:kV (w.heap.size+3) wa (w.heap.size+1) u0 m0:=⟨hM,rr _,E0,by omega,by have:=hR.lt;omega⟩;have KQ:=V Le;have Pd:=V hmd;have HX:=V (show eE wa w.heap.size (u0.cells m0) 62 from hX);have KW:=V hBW;clear hX hM hR hBW Le hmd;refine(kM w wa _ _ 8 true (by omega) KQ.out).mono ?_;rintro e w1 ⟨rfl,h1,LH⟩;have KQ:=V h1;have Pd:=V (Pd.out.keeps LH (fun i hi=> .inl (by omega)) (by omega));have HX:=V (HX.out.keeps LH (by omega));have KW:=V (KW.out.trans (LH.below KW.out.size (fun i hi=>by omega)));have hlen:(ir 8 true (if bad=true then none else some l)).len <=l.length+1:=by
  cases bad with
  | true=>exact bG _
  | false=>
   simp only [ir,cH,if_false,aw];split
   ·simp only [fW.len,bm];omega
   ·exact bG _
 clear h1 LH;go_wp2_with fail;refine ez (fun a' w'=>∃(u:eB) (m:ew) (s:fW) (f:Nat),a'=fr (.slice a l.length cap::gs a' 1 1 (.pointer (some ⟨w.heap.size,0,none⟩):: .int .i64 0:: .pointer (some ⟨w.heap.size+1,0,none⟩):: .pointer (some ⟨w.heap.size+1+1,0,none⟩)::gs a' 6 53 []))/\JJ l w.heap.size (w.heap.size+1) (w.heap.size+1+1) (w.heap.size+3) w w' u m s f) (fun _ w'=>D4 w' (w.heap.size+1+1)) ?_ ?_
 ·exact⟨u0,m0,_,l.length+1,rfl,Ko.out,hlen,KQ.out,Pd.out,HX.out,KW.out⟩
 ·skip
  clear Ko hlen KQ Pd HX KW w1;rintro R a' w1 ⟨u,m,s,f',Kk,hJ⟩ HR;dsimp only [fr,gs]at Kk;generalize slot a'=f at Kk;subst Kk;obtain⟨Ll,hlen,Le,hmd,hx,Pk⟩:=hJ;have KN:=V Ll;have KQ:=V Le;have Pd:=V hmd;have HX:=V hx;have KW:=V Pk;have c1:=Le.bad;clear Ll hmd hx Pk;cases s with
  | none=>
   have c1:w1.cell? ⟨w.heap.size+1+1,1,none⟩=some (.bool true):=c1;obtain⟨ar,lr,OU,badr,KD,-,-,-,-,-⟩:=Le;have c0:w1.cell? ⟨w.heap.size+1+1,0,none⟩=some (.slice ar lr.length OU):=KD.cell 0;have HD:=V (show qb l=none by rw [qb,KN.out];rfl);clear KD hlen;by_cases q2:0 < lr.length
   ·have g1:decide ((0:Int) < (lr.length:Int))=true:=az (by omega)
    have g2:decide (0 < lr.length)=true:=az q2;clear q2;obtain⟨p0,p1,p2,p3,p4,p5,p6,p7,p8,p9,p10,p11,p12,p13⟩:=HX.out.mod;obtain⟨q0,q1,q2,q3,q4,q5,q6,q7,q8,q9,q10,N8,q12,q13⟩:=HX.out.um;go_wp2_with fail;have hx:=(HX.out.oA u0 m0).mf;have Km:=kq w1 w.heap.size u0 m0;refine aN (fa rfl _ _ rfl hx) rfl ?_;exact⟨KW.out.trans (Km.below KW.out.size (fun i hi=>by omega)), .inr ⟨HD.out,by rw [aC (by omega)];rfl⟩⟩
   ·have g1:decide ((0:Int) < (lr.length:Int))=false:=aA (by omega)
    have g2:decide (0 < lr.length)=false:=aA q2;clear q2;obtain⟨p0,p1,p2,p3,p4,p5,p6,p7,p8,p9,p10,p11,p12,p13⟩:=HX.out.mod;obtain⟨q0,q1,q2,q3,q4,q5,q6,q7,q8,q9,q10,N8,q12,q13⟩:=HX.out.um;go_wp2_with fail;have hx:=(HX.out.oA u0 m0).mf;have Km:=kq w1 w.heap.size u0 m0;refine aN (fa rfl _ _ rfl hx) rfl ?_;exact⟨KW.out.trans (Km.below KW.out.size (fun i hi=>by omega)), .inr ⟨HD.out,by rw [aC (by omega)];rfl⟩⟩
  | some lb=>
   have c1:w1.cell? ⟨w.heap.size+1+1,1,none⟩=some (.bool false):=c1;obtain⟨ar,OU,c0,-,hlb⟩:=Le.some;clear Le;cases lb with
   | nil=>
    have c0:w1.cell? ⟨w.heap.size+1+1,0,none⟩=some (.slice ar 0 OU):=c0;have hm:mh l=some m:=by
     rw [KN.out];obtain⟨f2,rfl⟩:∃f2,f'=f2+1:=⟨f' - 1,by simp only [fW.len,aM]at hlen;omega⟩;rfl
    have HMR:=V hm;have OA:=V Pd.out.2.1;obtain⟨a0,k0,a1,k1,a2,k2,a3,k3,a4,k4,a5,k5,a6,k6,a7,k7,rfl⟩:=ej.open Pd.out.2.1;have HMC:=V Pd.out.1;have HWD:=V Pd.out.2.2.1;have HMI:=V (ej.fP Pd.out.2.1);clear hm hlen KN Pd KQ hlb;obtain⟨g0,g1,g2,g3,g4,g5,g6,g7,g8,g9,KY,KZ,K0,K3⟩:=HMC.out.mod;go_wp2_with fail;refine(oy m ⟨.slice a0 m.types.length k0, .slice a1 m.imports.length k1, .slice a2 m.funcs.length k2, .slice a3 m.globals.length k3, .slice a4 m.dY.length k4, .slice a5 m.elems.length k5, .slice a6 m.eh.length k6, .slice a7 m.eA.length k7⟩ w1 HMI.out HWD.out).mono ?_;rintro e w2 ⟨v,rfl,hv,hb⟩;have HX:=V (HX.out.below hb HX.out.lt);have HMC:=V (HMC.out.below hb HMC.out.lt);have KW:=V (KW.out.trans (hb.mono KW.out.size));have OA:=V (ej.below OA.out (AK hb));have LQ:=HB.out.below KW.out;clear g0 g1 g2 g3 g4 g5 g6 g7 g8 g9 KY KZ K0 K3 c0 c1 hb;rcases hv with⟨LX,rfl⟩ | ⟨LX,hv⟩
    ·have HD:=V (show qb l=none by rw [qb,HMR.out];simp [LX])
     have e1:=bQ (P:=prog) w2 97 5 none 0 0 0 0 (by kernel_rfl);rw [dg]at e1;clear LX LQ;obtain⟨p0,p1,p2,p3,p4,p5,p6,p7,p8,p9,p10,p11,p12,p13⟩:=HX.out.mod;obtain⟨q0,q1,q2,q3,q4,q5,q6,q7,q8,q9,q10,N8,q12,q13⟩:=HX.out.um;go_wp2_with fail;have hx:=(HX.out.oA u0 m0).mf;have Km:=kq w2 w.heap.size u0 m0;refine aN (fa rfl _ _ rfl hx) rfl ?_;exact⟨KW.out.trans (Km.below KW.out.size (fun i hi=>by omega)), .inr ⟨HD.out,by rw [aC (by omega)];rfl⟩⟩
    ·obtain⟨av,cv,rfl,-,-,Kh⟩:=id hv
     obtain⟨bb,off,rfl,-⟩:=Kh 0 0 (by rw [fy];rfl);have e1:=bQ (P:=prog) w2 97 5 (some ⟨bb,off,none⟩) (fy m).length cv 0 0 (by kernel_rfl);rw [df]at e1;have HV:=V hv;have Kz:=V LQ;have Mp:=V LX;clear Kh hv LQ LX;go_wp2_with fail;refine(si _ _ _ _ w2 HV.out Kz.out).mono ?_;rintro e w3 ⟨rfl,rfl⟩;by_cases q3:fy m=l
     ·have hq:(fy m==l)=true:=by simp [q3]
      rw [hq];have HD:=V (show qb l=some m by rw [qb,HMR.out];simp [Mp.out,q3]);clear q3 hq e1;obtain⟨p0,p1,p2,p3,p4,p5,p6,p7,p8,p9,p10,p11,p12,p13⟩:=HX.out.mod;obtain⟨q0,q1,q2,q3,q4,q5,q6,q7,q8,q9,q10,N8,q12,q13⟩:=HX.out.um;obtain⟨g0,g1,g2,g3,g4,g5,g6,g7,g8,g9,KY,KZ,K0,K3⟩:=HMC.out.mod;go_wp2_with fail;have hx:=(HX.out.oA ⟨.slice a0 m.types.length k0, .slice a1 m.imports.length k1, .slice a2 m.funcs.length k2, .slice a3 m.globals.length k3, .slice a4 m.dY.length k4, .slice a5 m.elems.length k5, .slice a6 m.eh.length k6, .slice a7 m.eA.length k7⟩ m).mf;have Km:=kq w2 w.heap.size ⟨.slice a0 m.types.length k0, .slice a1 m.imports.length k1, .slice a2 m.funcs.length k2, .slice a3 m.globals.length k3, .slice a4 m.dY.length k4, .slice a5 m.elems.length k5, .slice a6 m.eh.length k6, .slice a7 m.eA.length k7⟩ m;refine aN (fa rfl _ _ rfl hx) rfl ?_;exact⟨KW.out.trans (Km.below KW.out.size (fun i hi=>by omega)), .inl ⟨_,m,HD.out,rfl,ej.ext (ej.ext OA.out (ny Km (fun i hi=> .inl (by omega)) (.inl (ag _)))) (uj _ (by omega)),HWD.out⟩⟩
     ·have hq:(fy m==l)=false:=by simp [q3]
      rw [hq];have HD:=V (show qb l=none by rw [qb,HMR.out];simp [q3]);clear q3 hq e1;obtain⟨p0,p1,p2,p3,p4,p5,p6,p7,p8,p9,p10,p11,p12,p13⟩:=HX.out.mod;obtain⟨q0,q1,q2,q3,q4,q5,q6,q7,q8,q9,q10,N8,q12,q13⟩:=HX.out.um;go_wp2_with fail;have hx:=(HX.out.oA u0 m0).mf;have Km:=kq w2 w.heap.size u0 m0;refine aN (fa rfl _ _ rfl hx) rfl ?_;exact⟨KW.out.trans (Km.below KW.out.size (fun i hi=>by omega)), .inr ⟨HD.out,by rw [aC (by omega)];rfl⟩⟩
   | cons c rest=>
    obtain⟨L,hL⟩:∃L,L=c::rest:=⟨_,rfl⟩;have O0:0 < L.length:=by rw [hL];simp
    have HBV:=V (show mK (some L)=c by rw [hL];rfl);have HBN:=V (show eg eX (some L)=some rest by rw [hL];rfl);have HL:=V hL;have PM:=c.toNat_lt;rw [<- hL]at c0 KQ hlen hlb KN;have g1:decide ((0:Int) < (L.length:Int))=true:=az (by omega);have g2:decide (0 < L.length)=true:=az O0;have HLEN:=V hlen;have HHR:=V (show fi w w1 (w.heap.size+1+1) (some L)from KQ.out);clear hL hlen;go_wp2_with fail;refine(iU w w1 _ _ KQ.out).mono ?_;rintro e w2 ⟨rfl,h2,Kp⟩;rw [HBN.out]at h2;rw [HBV.out];have KQ:=V h2;have Pd:=V (Pd.out.keeps Kp (fun i hi=> .inl (by omega)) (by omega));have HX:=V (HX.out.keeps Kp (by omega));have KW:=V (KW.out.trans (Kp.below KW.out.size (fun i hi=>by omega)));clear h2 Kp c0 c1 g1 g2;go_wp2_with fail;refine(gZ w w2 _ _ KQ.out).mono ?_;rintro e w3 ⟨rfl,h2,Kp⟩;have KQ:=V h2;have Pd:=V (Pd.out.keeps Kp (fun i hi=> .inl (by omega)) (by omega));have HX:=V (HX.out.keeps Kp (by omega));have KW:=V (KW.out.trans (Kp.below KW.out.size (fun i hi=>by omega)));clear h2 Kp;go_wp2_with fail;refine(yd w w3 _ _ (w.heap.size+3) c.toNat _ u m KQ.out Pd.out (by omega) (by omega) (by omega)).mono ?_;rintro e w4 ⟨u',m',rfl,hmd,hw,h2,Kp⟩;have KQ:=V h2;have Pd:=V hmd;have HW:=V hw;have HX:=V (HX.out.keeps Kp (by omega));have KW:=V (KW.out.trans (Kp.below KW.out.size (fun i hi=>by omega)));clear h2 Kp hmd hw;go_wp2_with fail;obtain⟨f2,rfl⟩:∃f2,f'=f2+1:=⟨f' - 1,by have:=HLEN.out;simp only [fW.len]at this;omega⟩;have P5:=(Cm c.toNat m).len (eg fQ (some rest));have hl2:=(iD.lL kR).len (some rest);have hl3:L.length=rest.length+1:=by rw [HL.out];rfl
    have hl4:=HLEN.out;have hl5:fW.len (some rest)=rest.length+1:=rfl;have hl6:fW.len (some L)=L.length+1:=rfl;have hl7:=aW P5 hl2;rw [hl5]at hl7;rw [hl6]at hl4;have hl8:=aW hl7 (show rest.length+1 <=f2 by omega);refine HR.out _ _ ⟨u',m',eg (jN c.toNat m) (eg fQ (some rest)),f2,rfl,?_,hl8,KQ.out,Pd.out,HX.out,KW.out⟩ ?_
    ·rw [KN.out,HL.out]
     exact Dh HW.out
    ·rw [KQ.out.left,HHR.out.left]
     exact Nat.lt_of_le_of_lt hl7 (show rest.length+1 < fW.len (some L)by rw [hl6];omega)
theorem eE.rws {α:Type} {k:Nat} {enc:α ->List Value} {w:World} {X:Nat} {xs:Array Value} {t:TypeId} (h:eE w X xs t) (hk:∀x,(enc x).length=k) (l:List α) (rest:List Value) (hx:xs.toList=l.flatMap enc++rest) (cap:Nat) (hc:l.length <=cap) (hm:cap <=maxLen):
  ee k enc w (.slice (some ⟨X,0,none⟩) l.length cap) l:=by
 refine⟨_,cap,rfl,hc,hm,fun i x hi=>⟨X,0,rfl,h.lt,fun j v hj=>?_⟩⟩;rw [h.cell, <- cE,hx,bX];have hjk:j < k:=by
  rw [<- hk x];exact(aL.1 hj).1
 have hg:=qV hk l i x j hi hjk;rw [bD (by rw [hj]at hg;exact(aL.1 hg).1),hg,hj]
theorem eE.deep {α β:Type} {k:Nat} {enc:α × β ->List Value} {inner:World ->α ->β ->Prop} {w:World} {X:Nat} {xs:Array Value} {t:TypeId} (h:eE w X xs t) (hk:∀x,(enc x).length=k) (l:List α) (us:List β) (hl:us.length=l.length) (rest:List Value) (hx:xs.toList=(l.zip us).flatMap enc++rest) (cap:Nat) (hc:l.length <=cap) (hm:cap <=maxLen)
  (hi:∀(i:Nat) (x:α) (u:β),l[i]?=some x ->us[i]?=some u ->inner w x u):
  ea k enc inner w (.slice (some ⟨X,0,none⟩) l.length cap) l:=by
 have hz:(l.zip us).length=l.length:=by rw [bI,hl,bY]
 have:=h.rws hk (l.zip us) rest hx cap (by omega) hm;rw [hz]at this;exact⟨us,hl,this,hi⟩
def pd (w:World) (os:List Obj):World:=os.foldl World.alloc w
theorem n8 (w:World) (os:List Obj):Below w.heap.size w (pd w os)/\(pd w os).heap.size=w.heap.size+os.length:=by
 unfold pd
 induction os generalizing w with
 | nil=>exact⟨an _ _,rfl⟩
 | cons o os ih=>
  obtain⟨h1,h2⟩:=ih (w.alloc o);refine⟨((an w.heap.size w).alloc (ag _) o).trans (h1.mono (by simp)),?_⟩;rw [List.foldl_cons,h2];simp;omega
theorem uo (w:World) (os:List Obj) (i:Nat) (xs:Array Value) (t:TypeId) (h:os[i]?=some (.cells xs t)):eE (pd w os) (w.heap.size+i) xs t:=by
 induction os generalizing w i with
 | nil=>simp at h
 | cons o os ih=>
  cases i with
  | zero=>
   simp only [aF,aX]at h;subst h;exact(eE.new w xs t).below (n8 _ os).1 (by simp)
  | succ i=>
   have:=ih (w.alloc o) i h;rw [aE]at this;rw [show w.heap.size+(i+1)=w.heap.size+1+i by omega];exact this
theorem vu (x:Int):(eZ x).length=1:=rfl
theorem I6 (x:gy × Value × Value):(ru x).length=2:=rfl
theorem JB (x:gN × Value × Value):(rV x).length=2:=rfl
theorem IZ (x:iB):(qS x).length=2:=rfl
theorem JG (x:jd):(sz x).length=3:=rfl
theorem J6 (x:jb):(sC x).length=3:=rfl
theorem Ka (x:iO × Value):(tF x).length=2:=rfl
theorem JV (x:eK × Value):(pJ x).length=4:=rfl
def gV:List eK:=[⟨32,0,0,[]⟩,⟨32,1,0,[]⟩,⟨106,0,0,[]⟩]
def nn:ByteArray:=⟨#[97,100,100]⟩
def fe (fn:Int) (body:List eK):ew:=⟨[⟨[1,1],[1]⟩],[],[0],⟨false,0,0⟩,⟨false,0,0⟩,[],[⟨nn,fn⟩],[],[⟨[],body⟩],[]⟩
def rowAt (X n cap:Nat):Value:= .slice (some ⟨X,0,none⟩) n cap
def hU (B:Nat):eB:=⟨rowAt (B+3) 1 1, .slice none 0 0,rowAt (B+4) 1 1, .slice none 0 0,rowAt (B+5) 1 1, .slice none 0 0,rowAt (B+7) 1 1, .slice none 0 0⟩
def kj (l:List eK):List Value:=l.flatMap fun x=>[.int .i64 x.op, .int .i64 x.a, .int .i64 x.b, .slice none 0 0]
def gr (w:World) (B:Nat) (fn:Int) (bs:Value):Prop:=
 (eE w (B+1) #[.int .i64 1, .int .i64 1] 3/\eE w (B+2) #[.int .i64 1] 3/\eE w (B+3) #[rowAt (B+1) 2 2,rowAt (B+2) 1 1] 109)/\
 eE w (B+4) #[.int .i64 0] 3/\eE w (B+5) #[.string nn, .int .i64 fn] 111/\
 eE w (B+6) (kj gV).toArray 27/\eE w (B+7) #[.slice none 0 0,bs] 69
theorem gr.below {w w':World} {B:Nat} {fn:Int} {bs:Value} (h:gr w B fn bs) (hb:Below w.heap.size w w'):gr w' B fn bs:=by
 obtain⟨⟨h1,h2,h3⟩,h4,h5,h6,h7⟩:=h;exact⟨⟨h1.below hb h1.lt,h2.below hb h2.lt,h3.below hb h3.lt⟩,h4.below hb h4.lt,h5.below hb h5.lt,h6.below hb h6.lt,h7.below hb h7.lt⟩
theorem gr.setBody {w:World} {B:Nat} {fn:Int} {bs:Value} (h:gr w B fn bs) (v:Value):gr (w.setCell ⟨B+7,1,none⟩ v) B fn v:=by
 obtain⟨⟨h1,h2,h3⟩,h4,h5,h6,h7⟩:=h;exact⟨⟨h1.other _ _ (by simp;try omega),h2.other _ _ (by simp;try omega),h3.other _ _ (by simp;try omega)⟩,h4.other _ _ (by simp;try omega),h5.other _ _ (by simp;try omega),h6.other _ _ (by simp;try omega),h7.set 1 v⟩
theorem gr.H9 {w:World} {B:Nat} {fn:Int} {bs:Value} (h:gr w B fn bs) (x:Int):gr (w.setCell ⟨B+5,1,none⟩ (.int .i64 x)) B x bs:=by
 obtain⟨⟨h1,h2,h3⟩,h4,h5,h6,h7⟩:=h;exact⟨⟨h1.other _ _ (by simp;try omega),h2.other _ _ (by simp;try omega),h3.other _ _ (by simp;try omega)⟩,h4.other _ _ (by simp;try omega),h5.set 1 _,h6.other _ _ (by simp;try omega),h7.other _ _ (by simp;try omega)⟩
theorem gr.other {w:World} {B X o:Nat} {fn:Int} {bs:Value} (h:gr w B fn bs) (v:Value) (hX:X <=B\/B+8 <=X):gr (w.setCell ⟨X,o,none⟩ v) B fn bs:=by
 obtain⟨⟨h1,h2,h3⟩,h4,h5,h6,h7⟩:=h;exact⟨⟨h1.other _ _ (by simp;omega),h2.other _ _ (by simp;omega),h3.other _ _ (by simp;omega)⟩,h4.other _ _ (by simp;omega),h5.other _ _ (by simp;omega),h6.other _ _ (by simp;omega),h7.other _ _ (by simp;omega)⟩
theorem tk (l:List eK):kj l=(l.zip (l.map fun _=>Value.slice none 0 0)).flatMap pJ:=by
 unfold kj
 induction l with
 | nil=>rfl
 | cons x l ih=>
  rw [bR,bC,List.zip_cons_cons,bR,ih];rfl
def o9 (l:List eK):Prop:=∀x∈l,x.l=[]/\iQ x.op/\iQ x.a/\iQ x.b
theorem qJ (w:World) (l:List eK) (hl:o9 l) (i:Nat) (x:eK) (u:Value) (hx:l[i]?=some x) (hu:(l.map fun _=>Value.slice none 0 0)[i]?=some u):gJ w x u:=by
 rw [cn,hx]at hu;injection hu with hu;obtain⟨h0,h1,h2,h3⟩:=hl x (aO hx);subst hu;refine⟨?_,h1,h2,h3,?_⟩
 ·rw [h0]
  exact ee.nil w
 ·rw [h0]
  simp
theorem eE.body {w:World} {X:Nat} {t:TypeId} {xs:Array Value} (h:eE w X xs t) (l:List eK) (rest:List Value) (hx:xs.toList=kj l++rest) (hl:o9 l) (cap:Nat) (hc:l.length <=cap) (hm:cap <=maxLen):
  gd w (rowAt X l.length cap) l:=
 h.deep JV l (l.map fun _=> .slice none 0 0) (by simp) rest (by rw [hx,tk]) cap hc hm (qJ w l hl)
theorem yS:o9 gV:=by
 intro x hx;simp [gV]at hx;rcases hx with rfl | rfl | rfl <;>simp [iQ]
theorem gr.body {w:World} {B:Nat} {fn:Int} {bs:Value} (h:gr w B fn bs) (n:Nat) (hn:n <=3):gd w (rowAt (B+6) n 3) (gV.take n):=by
 have hl:(gV.take n).length=n:=by
  rw [aR];show min n 3=n;omega
 have:=h.2.2.2.1.body (gV.take n) (kj (gV.drop n)) (by
  unfold kj;rw [<- List.flatMap_append,cF]) (fun x hx=>yS x (cz hx)) 3 (by omega) (by decide)
 rwa [hl]at this
theorem gr.is {w:World} {B:Nat} {fn:Int} {bs:Value} (h:gr w B fn bs) {body:List eK} (hb:gd w bs body) (hf:iQ fn):ej w (hU B) (fe fn body):=by
 obtain⟨⟨h1,h2,h3⟩,h4,h5,h6,h7⟩:=h;refine⟨?_,ee.nil w,?_,ee.nil w,?_,ea.nil w,?_,ea.nil w,?_⟩
 ·refine h3.deep I6 [⟨[1,1],[1]⟩] [(rowAt (B+1) 2 2,rowAt (B+2) 1 1)] rfl [] rfl 1 (ag _) (by decide) ?_
  intro i x u hx hu;cases i with
  | zero=>
   injection hx with hx;injection hu with hu;subst hx hu;exact⟨⟨h1.rws vu [1,1] [] rfl 2 (ag _) (by decide),h2.rws vu [1] [] rfl 1 (ag _) (by decide)⟩,by simp [gy.ok,iQ]⟩
  | succ i=>simp at hx
 ·exact h4.rws vu [0] [] rfl 1 (ag _) (by decide)
 ·exact h5.rws IZ [⟨nn,fn⟩] [] rfl 1 (ag _) (by decide)
 ·refine h7.deep JB [⟨[],body⟩] [(.slice none 0 0,bs)] rfl [] rfl 1 (ag _) (by decide) ?_
  intro i x u hx hu;cases i with
  | zero=>
   injection hx with hx;injection hu with hu;subst hx hu;exact⟨⟨ee.nil w,hb⟩,by simp⟩
  | succ i=>simp at hx
 ·refine⟨by simp [fe],by simp [fe,iQ],by simp [fe,fL.ok,iQ],by simp [fe,fL.ok,iQ],by simp [fe],?_⟩
  simpa [fe] using hf
def EA (w:World) (e:Ending) (w':World):Prop:=e= .returned (.agg ((hU w.heap.size).cells (fe 0 gV)))/\gr w' w.heap.size 0 (rowAt (w.heap.size+6) 3 3)/\Below w.heap.size w w'/\w'.heap.size=w.heap.size+8
def pA (B:Nat):List Obj:=[Obj.cells ((hU B).cells (fe 0 gV)) 62,Obj.cells #[.int .i64 1, .int .i64 1] 3,Obj.cells #[.int .i64 1] 3,Obj.cells #[rowAt (B+1) 2 2,rowAt (B+2) 1 1] 109,Obj.cells #[.int .i64 0] 3,Obj.cells #[.string nn, .int .i64 0] 111,Obj.cells (kj gV).toArray 27,Obj.cells #[.slice none 0 0,rowAt (B+6) 3 3] 69]
theorem iH (w:World):Calls prog 10 #[] w (EA w):=by
 go_enter func10,ntmps10;go_wp2_with fail;have H:=n8 w (pA w.heap.size);have G:=uo w (pA w.heap.size);have g:eE (pd w (pA w.heap.size)) w.heap.size ((hU w.heap.size).cells (fe 0 gV)) 62:=G 0 _ _ rfl;have HS:gr (pd w (pA w.heap.size)) w.heap.size 0 (rowAt (w.heap.size+6) 3 3):=
  ⟨⟨G 1 _ _ rfl,G 2 _ _ rfl,G 3 _ _ rfl⟩,G 4 _ _ rfl,G 5 _ _ rfl,G 6 _ _ rfl,G 7 _ _ rfl⟩
 refine aN (eu rfl _ _ rfl g.mf) rfl ?_;exact⟨rfl,HS,H.1,H.2⟩
def vU (l:List UInt8):ByteArray:=⟨l.toArray⟩
def eR (body:List eK):ew:=⟨[⟨[],[]⟩,⟨[],[]⟩,⟨[1],[1]⟩,⟨[2,1],[2]⟩],[⟨vU [119],vU [102],2⟩,⟨vU [119],vU [103],1⟩],[0,3],⟨true,4,-1⟩,⟨true,1,3⟩,[⟨true,⟨1,0⟩⟩,⟨false,⟨2,5⟩⟩],[⟨vU [109,97,105,110],2⟩],[⟨0,[0,2,3]⟩],[⟨[],body⟩,⟨[],[⟨32,0,0,[]⟩]⟩],[]⟩
def qO (B:Nat):eB:=⟨rowAt (B+6) 4 4,rowAt (B+7) 2 2,rowAt (B+8) 2 2,rowAt (B+9) 2 2,rowAt (B+10) 1 1,rowAt (B+12) 1 1,rowAt (B+14) 2 2, .slice none 0 0⟩
def nA (w:World) (B:Nat) (bs:Value):Prop:=
 (eE w (B+2) #[.int .i64 1] 3/\eE w (B+3) #[.int .i64 1] 3/\eE w (B+4) #[.int .i64 2, .int .i64 1] 3/\eE w (B+5) #[.int .i64 2] 3/\
  eE w (B+6) #[.slice none 0 0, .slice none 0 0, .slice none 0 0, .slice none 0 0,rowAt (B+2) 1 1,rowAt (B+3) 1 1,rowAt (B+4) 2 2,rowAt (B+5) 1 1] 109)/\
 (eE w (B+7) #[.string (vU [119]), .string (vU [102]), .int .i64 2, .string (vU [119]), .string (vU [103]), .int .i64 1] 118/\eE w (B+8) #[.int .i64 0, .int .i64 3] 3/\
  eE w (B+9) #[.bool true, .int .i64 1, .int .i64 0, .bool false, .int .i64 2, .int .i64 5] 120/\eE w (B+10) #[.string (vU [109,97,105,110]), .int .i64 2] 111)/\
 (eE w (B+11) #[.int .i64 0, .int .i64 2, .int .i64 3] 3/\eE w (B+12) #[.int .i64 0,rowAt (B+11) 3 3] 95)/\
 eE w (B+13) #[.int .i64 32, .int .i64 0, .int .i64 0, .slice none 0 0] 27/\eE w (B+14) #[.slice none 0 0,bs, .slice none 0 0,rowAt (B+13) 1 1] 69
theorem nA.below {w w':World} {B:Nat} {bs:Value} (h:nA w B bs) (hb:Below w.heap.size w w'):nA w' B bs:=by
 obtain⟨⟨h1,h2,h3,h4,h5⟩,⟨h6,h7,h8,h9⟩,⟨h10,h11⟩,Mz,h13⟩:=h;exact⟨⟨h1.below hb h1.lt,h2.below hb h2.lt,h3.below hb h3.lt,h4.below hb h4.lt,h5.below hb h5.lt⟩,⟨h6.below hb h6.lt,h7.below hb h7.lt,h8.below hb h8.lt,h9.below hb h9.lt⟩,⟨h10.below hb h10.lt,h11.below hb h11.lt⟩,Mz.below hb Mz.lt,h13.below hb h13.lt⟩
theorem nA.setBody {w:World} {B:Nat} {bs:Value} (h:nA w B bs) (v:Value):nA (w.setCell ⟨B+14,1,none⟩ v) B v:=by
 obtain⟨⟨h1,h2,h3,h4,h5⟩,⟨h6,h7,h8,h9⟩,⟨h10,h11⟩,Mz,h13⟩:=h;exact⟨⟨h1.other _ _ (by simp),h2.other _ _ (by simp),h3.other _ _ (by simp),h4.other _ _ (by simp),h5.other _ _ (by simp)⟩,⟨h6.other _ _ (by simp),h7.other _ _ (by simp),h8.other _ _ (by simp),h9.other _ _ (by simp)⟩,⟨h10.other _ _ (by simp),h11.other _ _ (by simp)⟩,Mz.other _ _ (by simp),h13.set 1 v⟩
theorem nA.is {w:World} {B:Nat} {bs:Value} (h:nA w B bs) {body:List eK} (hb:gd w bs body):ej w (qO B) (eR body):=by
 obtain⟨⟨h1,h2,h3,h4,h5⟩,⟨h6,h7,h8,h9⟩,⟨h10,h11⟩,Mz,h13⟩:=h;refine⟨?_,h6.rws JG [⟨vU [119],vU [102],2⟩,⟨vU [119],vU [103],1⟩] [] rfl 2 (ag _) (by decide),h7.rws vu [0,3] [] rfl 2 (ag _) (by decide),h8.rws J6 [⟨true,⟨1,0⟩⟩,⟨false,⟨2,5⟩⟩] [] rfl 2 (ag _) (by decide),h9.rws IZ [⟨vU [109,97,105,110],2⟩] [] rfl 1 (ag _) (by decide),?_,?_,ea.nil w,?_⟩
 ·refine h5.deep I6 [⟨[],[]⟩,⟨[],[]⟩,⟨[1],[1]⟩,⟨[2,1],[2]⟩] [(.slice none 0 0, .slice none 0 0),(.slice none 0 0, .slice none 0 0),(rowAt (B+2) 1 1,rowAt (B+3) 1 1),(rowAt (B+4) 2 2,rowAt (B+5) 1 1)] rfl [] rfl 4 (ag _) (by decide) ?_
  intro i x u hx hu
  match i,hx,hu with
  | 0,hx,hu=>
   injection hx with hx;injection hu with hu;subst hx hu;exact⟨⟨ee.nil w,ee.nil w⟩,by simp [gy.ok]⟩
  | 1,hx,hu=>
   injection hx with hx;injection hu with hu;subst hx hu;exact⟨⟨ee.nil w,ee.nil w⟩,by simp [gy.ok]⟩
  | 2,hx,hu=>
   injection hx with hx;injection hu with hu;subst hx hu;exact⟨⟨h1.rws vu [1] [] rfl 1 (ag _) (by decide),h2.rws vu [1] [] rfl 1 (ag _) (by decide)⟩,by simp [gy.ok,iQ]⟩
  | 3,hx,hu=>
   injection hx with hx;injection hu with hu;subst hx hu;exact⟨⟨h3.rws vu [2,1] [] rfl 2 (ag _) (by decide),h4.rws vu [2] [] rfl 1 (ag _) (by decide)⟩,by simp [gy.ok,iQ]⟩
  | i+4,hx,hu=>simp at hx
 ·refine h11.deep Ka [⟨0,[0,2,3]⟩] [rowAt (B+11) 3 3] rfl [] rfl 1 (ag _) (by decide) ?_
  intro i x u hx hu
  match i,hx,hu with
  | 0,hx,hu=>
   injection hx with hx;injection hu with hu;subst hx hu;exact⟨h10.rws vu [0,2,3] [] rfl 3 (ag _) (by decide),by simp [iO.ok,iQ]⟩
  | i+1,hx,hu=>simp at hx
 ·refine h13.deep JB [⟨[],body⟩,⟨[],[⟨32,0,0,[]⟩]⟩] [(.slice none 0 0,bs),(.slice none 0 0,rowAt (B+13) 1 1)] rfl [] rfl 2 (ag _) (by decide) ?_
  intro i x u hx hu
  match i,hx,hu with
  | 0,hx,hu=>
   injection hx with hx;injection hu with hu;subst hx hu;exact⟨⟨ee.nil w,hb⟩,by simp⟩
  | 1,hx,hu=>
   injection hx with hx;injection hu with hu;subst hx hu;exact⟨⟨ee.nil w,Mz.body [⟨32,0,0,[]⟩] [] rfl (by simp [o9,iQ]) 1 (ag _) (by decide)⟩,by simp⟩
  | i+2,hx,hu=>simp at hx
 ·refine⟨by simp [eR,iQ],by simp [eR,iQ],by simp [eR,fL.ok,iQ],by simp [eR,fL.ok,iQ],by simp [eR,fb.ok],by simp [eR,iQ]⟩
def qU (B:Nat):List Obj:=[Obj.cells ((qO B).cells (eR [])) 62,Obj.cells #[.slice none 0 0, .slice none 0 0] 109,Obj.cells #[.int .i64 1] 3,Obj.cells #[.int .i64 1] 3,Obj.cells #[.int .i64 2, .int .i64 1] 3,Obj.cells #[.int .i64 2] 3,
 Obj.cells #[.slice none 0 0, .slice none 0 0, .slice none 0 0, .slice none 0 0,rowAt (B+2) 1 1,rowAt (B+3) 1 1,rowAt (B+4) 2 2,rowAt (B+5) 1 1] 109,
 Obj.cells #[.string (vU [119]), .string (vU [102]), .int .i64 2, .string (vU [119]), .string (vU [103]), .int .i64 1] 118,Obj.cells #[.int .i64 0, .int .i64 3] 3,
 Obj.cells #[.bool true, .int .i64 1, .int .i64 0, .bool false, .int .i64 2, .int .i64 5] 120,Obj.cells #[.string (vU [109,97,105,110]), .int .i64 2] 111,
 Obj.cells #[.int .i64 0, .int .i64 2, .int .i64 3] 3,Obj.cells #[.int .i64 0,rowAt (B+11) 3 3] 95,
 Obj.cells #[.int .i64 32, .int .i64 0, .int .i64 0, .slice none 0 0] 27,Obj.cells #[.slice none 0 0, .slice none 0 0, .slice none 0 0,rowAt (B+13) 1 1] 69]
def G9 (w:World) (e:Ending) (w':World):Prop:=e= .returned (.agg ((qO w.heap.size).cells (eR [])))/\nA w' w.heap.size (.slice none 0 0)/\Below w.heap.size w w'/\w'.heap.size=w.heap.size+15
theorem rZ (w:World):Calls prog 16 #[.slice none 0 0, .int .i64 0] w (G9 w):=by
 go_enter func16,ntmps16;go_wp2_with fail;refine cU 1 ?_;rw [cO];go_wp2_with fail;have H:=n8 w (qU w.heap.size);have G:=uo w (qU w.heap.size);have g:eE (pd w (qU w.heap.size)) w.heap.size ((qO w.heap.size).cells (eR [])) 62:=G 0 _ _ rfl;have HS:nA (pd w (qU w.heap.size)) w.heap.size (.slice none 0 0):=
  ⟨⟨G 2 _ _ rfl,G 3 _ _ rfl,G 4 _ _ rfl,G 5 _ _ rfl,G 6 _ _ rfl⟩,⟨G 7 _ _ rfl,G 8 _ _ rfl,G 9 _ _ rfl,G 10 _ _ rfl⟩,⟨G 11 _ _ rfl,G 12 _ _ rfl⟩,G 13 _ _ rfl,G 14 _ _ rfl⟩
 refine aN (eu rfl _ _ rfl g.mf) rfl ?_;exact⟨rfl,HS,H.1,H.2⟩
def rR (C:Nat) (w:World):World:=mask (fun k=>k==C) w
theorem pq {C:Nat} {w w':World} (h:dS (fun i=>i=C) w w'):Ext (rR C w) (rR C w'):=iG h (fun _ _ hk=>by simp [hk]) (fun _ _ hk=>hk)
theorem vA {C:Nat} {w w':World} (h:Below w.heap.size w w'):Ext (rR C w) (rR C w'):=iG (dS.dV (S:=fun _=>False) h) (fun _ _ hk=>hk.elim) (fun _ _ hk=>hk)
theorem sP {C:Nat} {w w':World} (h:dS (fun i=>i=C) w w'):Ext (rR C w) w':=rM h (fun _ _ hk=>by simp [hk])
theorem xX (C:Nat) (w:World):Ext (rR C w) w:=sP (dS.refl _ _)
theorem BB {α:Type} {t:TypeId} {k:Nat} {enc:α ->List Value} (hk:∀x,(enc x).length=k) {w:World} {B C:Nat} {v:Value} {l:List α} (h:dR t k enc w B v l) (hB:C < B):ee k enc (rR C w) v l:=
 (dR.mask h (fun b hb=>by
  have:b≠C:=by omega
  simp [this])).fD hk
theorem lN {P:Program} (w:World) {ops:Array Oper} {rest:List Oper} {o:Oper} {a:Act} {Q:Exit ->Act ->World ->Prop} (Ob:o.guard=none) (s x:Operand)
  (hP:P=prog) (ho:o.op= .call {callee:= .builtin .append,args:=#[s,x],argTypes:=#[25,25]})
  (B:Nat) (v:Value) (l:List Int) (hs:a.eval s=v) (Ki:dR 3 1 eZ w B v l)
  (b:Value) (m:List Int) (hx:a.eval x=b) (hm:ee 1 eZ w b m)
  (Ou:l.length+m.length <=1000000) (KO:B <=w.heap.size)
  (h:∀v' w',dR 3 1 eZ w' B v' (l++m) ->dS (ey v) w w' ->eC w v v' ->wpList P ops Q rest (a.put o.dst v') w'):wpList P ops Q (o::rest) a w:=by
 subst hP;cases m with
 | cons y m=>
  have hm':=hm;obtain⟨ad,cap,rfl,Me,La,hc3⟩:=hm';obtain⟨b,off,rfl,_⟩:=hc3 0 y rfl;exact kA w Ob s x 25 ho _ 8 (by kernel_rfl) jH rfl (by decide) (by decide) B v l hs Ki fp (y::m) ⟨b,off,none⟩ (y::m).length cap hx hm (fun z _=>BG z) Ou KO h
 | nil=>
  obtain⟨i0,hi,MY,LG,Mm⟩:=cd jH;obtain⟨ad,cap,rfl,Me,La,hc3⟩:=hm;have key:∃v' w',(Builtin.append_ #[25,25] o.type #[v, .slice ad 0 cap]).run prog w= .ok v' w'/\dR 3 1 eZ w' B v' (l++[])/\dS (ey v) w w'/\eC w v v':=by
   cases ad with
   | some ad=>
    obtain⟨v',w',h1,h2,h3,h4⟩:=sE (P:=prog) w B 25 o.type 3 i0 (.int .i64 0) 1 8 (by kernel_rfl) hi MY LG Mm rfl (by decide) v l.length (l.flatMap eZ) Ki ad 0 cap [] rfl (by simp) (by simp) (by simp only [aM]at Ou;simp only [maxLen];omega) (by simp only [aM]at Ou;omega) KO;exact⟨v',w',h1,by simpa [dR] using h2,h3,h4⟩
   | none=>
    have ht:prog.underlying 25=some (.slice 3):=by kernel_rfl
    rcases Ki.2 with⟨rfl,h0⟩ | ⟨g,KE,cur,rfl,hb,hg,hn,hm,hs,NV⟩
    ·refine⟨.slice none 0 0,w,?_,by simpa using Ki,dS.refl _ _,eC.refl _ _⟩
     simp [Builtin.append_,bo ht,sizeOf,typeInfo,hi,Builtin.lenOf,Builtin.firstCells]
    ·refine⟨.slice (some ⟨g,0,none⟩) l.length KE,w,?_,by simpa using Ki,dS.refl _ _,eC.refl _ _⟩
     simp [Builtin.append_,bo ht,sizeOf,typeInfo,hi,Builtin.lenOf,Builtin.firstCells,hn];simp [storeCells]
  obtain⟨v',w',hr,h2,h3,h4⟩:=key;refine dK Ob fun _ hK=>?_;unfold Oper.wp execOp;simp only [ho,resolve,invoke,builtin,cM,cm,cC,dr,bC,cR,hs,hx,hr,aM];exact hK _ _ (h v' w' h2 h3 h4)
def sF (u:eB) (m:ew) (lv v v':Value) (bad:Bool):Array Value:=
 #[u.types,u.imports,u.funcs, .bool m.table.has, .int .i64 m.table.min, .int .i64 m.table.max, .bool m.mem.has, .int .i64 m.mem.min, .int .i64 m.mem.max,u.globals,u.dY,u.elems,u.eh,u.eA,lv,v,v', .bool bad]
def gf (w1:World) (C:Nat) (u:eB) (m:ew) (lv:Value) (w:World) (c:eG):Prop:=
 ∃v v',eE w C (sF u m lv v v' c.bad) 181/\dR 3 1 eZ w w1.heap.size v c.dX/\dR 186 4 xI w w1.heap.size v' c.eO/\dS (fun i=>i=C) w1 w/\C < w1.heap.size
theorem gf.below {w1 w w':World} {C:Nat} {u:eB} {m:ew} {lv:Value} {c:eG} (h:gf w1 C u m lv w c) (hb:Below w.heap.size w w'):gf w1 C u m lv w' c:=by
 obtain⟨v,v',h1,h2,h3,h4,h5⟩:=h;exact⟨v,v',h1.below hb h1.lt,h2.below hb,h3.below hb,h4.trans (dS.dV (S:=fun _=>False) hb) (fun _ h=>h.elim),h5⟩
theorem gf.drew {w1 w:World} {C:Nat} {u:eB} {m:ew} {lv:Value} {c:eG} (h:gf w1 C u m lv w c):gf w1 C u m lv w.drew c:=by
 obtain⟨v,v',h1,h2,h3,h4,h5⟩:=h;exact⟨v,v',h1.drew,h2,h3,h4.drew,h5⟩
theorem gf.alloc {w1 w:World} {C:Nat} {u:eB} {m:ew} {lv:Value} {c:eG} (h:gf w1 C u m lv w c) (o:Obj):gf w1 C u m lv (w.alloc o) c:=h.below ((an _ _).alloc (ag _) o)
theorem gf.lt {w1 w:World} {C:Nat} {u:eB} {m:ew} {lv:Value} {c:eG} (h:gf w1 C u m lv w c):C < w.heap.size/\C < w1.heap.size/\w1.heap.size <=w.heap.size:=by
 obtain⟨v,v',h1,h2,h3,h4,h5⟩:=h;exact⟨h1.lt,h5,h4.size⟩
theorem gf.old {w1 w:World} {C:Nat} {u:eB} {m:ew} {lv:Value} {c:eG} (h:gf w1 C u m lv w c):dS (fun i=>i=C) w1 w:=by
 obtain⟨v,v',h1,h2,h3,h4,h5⟩:=h;exact h4
def B8 (w1:World) (C:Nat) (u:eB) (m:ew) (lv:Value) (val:Value) (c:eG) (w:World) (e:Ending) (w':World):Prop:=e= .returned val/\gf w1 C u m lv w' c/\dS (fun i=>i=C) w w'/\w'.cell? ⟨C,16,none⟩=w.cell? ⟨C,16,none⟩
def nw (w1:World) (C:Nat) (u:eB) (m:ew) (lv:Value) (val:Value) (c:eG) (e:Ending) (w':World):Prop:=e= .returned val/\gf w1 C u m lv w' c
theorem jD (w1:World) (C:Nat) (u:eB) (m:ew) (lv:Value) (w:World) (c:eG) (ok:Bool) (h:gf w1 C u m lv w c):
  Calls prog 196 #[.pointer (some ⟨C,0,none⟩), .bool ok] w (B8 w1 C u m lv (.tuple #[]) (c.need ok) w):=by
 obtain⟨dX,eO,bad⟩:=c;obtain⟨v,v',hb,hv,hc,hk,hC⟩:=h;have c17:w.cell? ⟨C,17,none⟩=some (.bool bad):=hb.cell 17;have z17:=hb.free 17;have HB:=V hb;clear hb;simp only at hv hc;cases bad <;>cases ok
 ·skip
  go_enter func196,ntmps196;go_wp2_with fail
  go_end0
  exact⟨rfl,⟨v,v',HB.out.set 17 _,hv.keeps (ep w C 17 _) (fun i hi h=>by have:=(eo hv hi).1;omega),hc.keeps (ep w C 17 _) (fun i hi h=>by have:=(eo hc hi).1;omega),hk.trans (ep w C 17 _) (fun i hi=> .inl hi),hC⟩,ep w C 17 _,cB _ _ _ _ (by simp)⟩
 ·skip
  go_enter func196,ntmps196;go_wp2_with fail
  go_end0
  exact⟨rfl,⟨v,v',HB.out.set 17 _,hv.keeps (ep w C 17 _) (fun i hi h=>by have:=(eo hv hi).1;omega),hc.keeps (ep w C 17 _) (fun i hi h=>by have:=(eo hc hi).1;omega),hk.trans (ep w C 17 _) (fun i hi=> .inl hi),hC⟩,ep w C 17 _,cB _ _ _ _ (by simp)⟩
 ·skip
  go_enter func196,ntmps196;go_wp2_with fail
  go_end0
  exact⟨rfl,⟨v,v',HB.out.set 17 _,hv.keeps (ep w C 17 _) (fun i hi h=>by have:=(eo hv hi).1;omega),hc.keeps (ep w C 17 _) (fun i hi h=>by have:=(eo hc hi).1;omega),hk.trans (ep w C 17 _) (fun i hi=> .inl hi),hC⟩,ep w C 17 _,cB _ _ _ _ (by simp)⟩
 ·skip
  go_enter func196,ntmps196;go_wp2_with fail
  go_end0
  exact⟨rfl,⟨v,v',HB.out.set 17 _,hv.keeps (ep w C 17 _) (fun i hi h=>by have:=(eo hv hi).1;omega),hc.keeps (ep w C 17 _) (fun i hi h=>by have:=(eo hc hi).1;omega),hk.trans (ep w C 17 _) (fun i hi=> .inl hi),hC⟩,ep w C 17 _,cB _ _ _ _ (by simp)⟩
def Hb (C:Nat) (k:Int) (w:World) (e:Ending) (w':World):Prop:=∃v,e= .returned v/\ee 1 eZ (rR C w') v (gF k)/\Below w.heap.size w w'
theorem mU (k:Int) (w:World) (C:Nat) (hC:C < w.heap.size):Calls prog 198 #[.int .i64 k] w (Hb C k w):=by
 by_cases q:k=0
 ·have f1:=eF q
  have HL:Hid (gF k=[]):=V (by simp [gF,q]);clear q;go_enter func198,ntmps198;go_wp2_with fail;go_ret;exact⟨_,rfl,by rw [HL.out];exact ee.nil _,an _ _⟩
 ·have f1:=dQ q
  have HL:Hid (gF k=[k]):=V (by simp [gF,q]);clear q;go_enter func198,ntmps198;go_wp2_with fail;go_ret;refine⟨_,rfl,?_,(an _ _).alloc (ag _) _⟩;rw [HL.out];have hx:=eE.new w #[.int .i64 k] 3;refine BB fp (B:=w.heap.size) (t:=3) ⟨by simp [eZ], .inr ⟨w.heap.size,1,_,rfl,ag _,hx,by simp,by simp [maxLen],by simp,by simp [eZ]⟩⟩ hC
theorem lH (w1:World) (C:Nat) (u:eB) (m:ew) (lv:Value) (w:World) (c:eG) (kv:Value) (l:List Int) (h:gf w1 C u m lv w c) (hl:ee 1 eZ (rR C w) kv l) (hn:c.dX.length+l.length <=100000):
  Calls prog 197 #[.pointer (some ⟨C,0,none⟩),kv] w (nw w1 C u m lv (.tuple #[]) (c.push l)):=by
 obtain⟨dX,eO,bad⟩:=c;obtain⟨v,v',hb,hv,hc,hk,hC⟩:=h;simp only at hv hc hn hb;obtain⟨av,cv,rfl,-,-⟩:=hv.slice;have NK:w.cell? ⟨C,15,none⟩=some (.slice av dX.length cv):=hb.cell 15;have z15:=hb.free 15;have HB:=V hb;have HL:=V (hl.ext (xX C w));have Lf:=hk.size;have HV:=V hv;have HC:=V hc;have HK:=V hk;have QE:=V (fun g (hg:ey (.slice av dX.length cv) g)=>dR.ne hv hc (by decide) g hg);clear hb hl hv hc hk;obtain⟨ak,ck,rfl,-,-,-⟩:=id HL.out;go_enter func197,ntmps197;go_wp2_with (first | (at_builtin;refine lN w rfl _ _ rfl rfl w1.heap.size _ dX rfl HV.out _ l rfl HL.out (by omega) Lf ?_));intro v2 w2 ho Kp Ku;obtain⟨a2,c2,rfl,-,-⟩:=ho.slice;have Kl:=HB.out.keeps Kp (fun h=>by have:=(eo HV.out h).1;omega);have La:=HC.out.keeps Kp (fun i hi h=>QE.out i h hi);have KS:=HK.out.trans Kp (fun i hi=> .inr (eo HV.out hi).1);have NK:w2.cell? ⟨C,15,none⟩=some (.slice av dX.length cv):=Kl.cell 15;have z15:=Kl.free 15;have HB:=V Kl;have HC2:=V La;have OG:=V KS;have HO:=V (show dR 3 1 eZ w2 w1.heap.size (.slice a2 (dX.length+l.length) c2) (dX++l)by rw [<- ah];exact ho);clear Kl La KS ho Kp Ku;go_wp2_with fail
 go_end0
 exact⟨rfl,⟨_,v',HB.out.set 15 _,HO.out.keeps (ep _ C 15 _) (fun i hi h=>by have:=(eo HO.out hi).1;omega),HC2.out.keeps (ep _ C 15 _) (fun i hi h=>by have:=(eo HC2.out hi).1;omega),OG.out.trans (ep _ C 15 _) (fun i hi=> .inl hi),hC⟩⟩
theorem qZ {α:Type} {l:List α} (h:l≠[]):∃cs t,l=cs++[t]:=⟨l.dropLast,l.getLast h,(db h).symm⟩
theorem mv (dX:List Int) (cs:List mI) (t:mI) (bad:Bool):eG.top ⟨dX,cs++[t],bad⟩=t:=by simp [eG.top]
def AN (C g n cap:Nat) (t:mI) (w:World):Prop:=
 w.cell? ⟨C,16,none⟩=some (.slice (some ⟨g,0,none⟩) (n+1) cap)/\w.cell? ⟨g,n*4,none⟩=some (.int .i64 t.op)/\w.cell? ⟨g,n*4+1,none⟩=some (.int .i64 t.kind)/\w.cell? ⟨g,n*4+2,none⟩=some (.int .i64 t.eJ)/\w.cell? ⟨g,n*4+3,none⟩=some (.bool t.dead)
theorem AN.keeps {C g n cap:Nat} {t:mI} {w w':World} {S:Nat ->Prop} (h:AN C g n cap t w) (hk:dS S w w') (h1:C < w.heap.size/\¬ S C) (h2:g < w.heap.size/\¬ S g):AN C g n cap t w':=by
 obtain⟨a,b,c,d,e⟩:=h;exact⟨(hk.cell h1.1 h1.2).trans a,(hk.cell h2.1 h2.2).trans b,(hk.cell h2.1 h2.2).trans c,(hk.cell h2.1 h2.2).trans d,(hk.cell h2.1 h2.2).trans e⟩
theorem AN.of {w:World} {B C:Nat} {v':Value} {cs:List mI} {t:mI} {xs:Array Value} {T:TypeId} (hb:eE w C xs T) (hx:xs[16]?=some v') (h:dR 186 4 xI w B v' (cs++[t])):
  ∃g cap,v'= .slice (some ⟨g,0,none⟩) (cs.length+1) cap/\cs.length+1 <=cap/\cap <=9223372036854775807/\B <=g/\g < w.heap.size/\AN C g cs.length cap t w:=by
 obtain⟨g,cap,cur,rfl,Ov,MQ,hg3,K7,hm⟩:=h.open (by simp);have e:(cs++[t]).length=cs.length+1:=by simp
 rw [e]at h K7;refine⟨g,cap,by rw [e],K7,by simpa [maxLen] using hm,Ov,MQ,?_,?_,?_,?_,?_⟩
 ·rw [hb.cell 16,hx,e]
 ·exact dR.cell jC h (i:=cs.length) (j:=0) (x:=t) (u:= .int .i64 t.op) (by simp) rfl
 ·exact dR.cell jC h (i:=cs.length) (j:=1) (x:=t) (u:= .int .i64 t.kind) (by simp) rfl
 ·exact dR.cell jC h (i:=cs.length) (j:=2) (x:=t) (u:= .int .i64 t.eJ) (by simp) rfl
 ·exact dR.cell jC h (i:=cs.length) (j:=3) (x:=t) (u:= .bool t.dead) (by simp) rfl
theorem CS {w:World} {B:Nat} {v:Value} {vs:List Int} {k:Int} (h:dR 3 1 eZ w B v (vs++[k])):
  ∃g cap,v= .slice (some ⟨g,0,none⟩) (vs.length+1) cap/\vs.length+1 <=cap/\cap <=9223372036854775807/\B <=g/\g < w.heap.size/\w.cell? ⟨g,vs.length,none⟩=some (.int .i64 k):=by
 obtain⟨g,cap,cur,rfl,Ov,MQ,hg3,K7,hm⟩:=h.open (by simp);have e:(vs++[k]).length=vs.length+1:=by simp
 rw [e]at h K7;refine⟨g,cap,by rw [e],K7,by simpa [maxLen] using hm,Ov,MQ,?_⟩;have:=dR.cell fp h (i:=vs.length) (j:=0) (x:=k) (u:= .int .i64 k) (by simp) rfl
 rwa [bj,aK]at this
def E4 (w:World) (t:mI):World:=(w.alloc (.cells #[.int .i64 t.op, .int .i64 t.kind, .int .i64 t.eJ, .bool t.dead] 186)).drew
theorem qt (w:World) (t:mI):Below w.heap.size w (E4 w t):=((an w.heap.size w).alloc (ag _) _).drew
theorem tH (w:World) (t:mI):eE (E4 w t) w.heap.size #[.int .i64 t.op, .int .i64 t.kind, .int .i64 t.eJ, .bool t.dead] 186:=(eE.new w _ _).drew
theorem BA (w1:World) (C:Nat) (u:eB) (m:ew) (lv:Value) (w:World) (c:eG) (want:Int) (h:gf w1 C u m lv w c) (hn:c.eO≠[]) (hs:c.top.eJ <=c.dX.length):
  Calls prog 195 #[.pointer (some ⟨C,0,none⟩), .int .i64 want] w (B8 w1 C u m lv (.int .i64 (c.pop want).1) (c.pop want).2 w):=by
 have H:=V h;obtain⟨dX,eO,bad⟩:=c;obtain⟨cs,t,rfl⟩:=qZ hn;rw [mv]at hs;simp only at hs;obtain⟨v,v',hb,hv,hc,hk,hC⟩:=h;have hCl:=hb.lt;obtain⟨g,cap,rfl,K7,Mr,Ov,MQ,M5⟩:=AN.of hb rfl hc;simp only at hv;have Lf:=hk.size;have Om:=V M5;have HV:=V hv;have HB:=V hb;clear hb hc hk hn hv;go_enter func195,ntmps195;go_wp2_with fail;refine ed (AN C g cs.length cap t) (up 0 12 ((12,false)::(13,false)::[])) (by kernel_rfl) (by kernel_rfl) (M5.keeps (dS.refl (fun _=>False) w).drew ⟨hCl,fun h=>h⟩ ⟨MQ,fun h=>h⟩) ?_;clear M5;iterate 12 (first | (apply sk rfl rfl;simp only [pt]) | (apply dT rfl rfl rfl;·(rintro w' ⟨t0,t1,t2,t3,t4⟩;go_wp2;exact⟨rfl,rfl,rfl⟩)))
 refine dZ rfl rfl ?_;go_wp2_with fail;refine⟨Om.out.keeps ((dS.refl (fun _=>False) w).drew.alloc _) ⟨hCl,fun h=>h⟩ ⟨MQ,fun h=>h⟩,?_⟩;refine dZ rfl rfl ?_;go_wp2_with fail;have KR:=V (qt w t);have HX:=V (tH w t);unfold E4 at KR HX;have HS:=V (H.out.below KR.out);have Om:=V (Om.out.keeps (dS.dV (S:=fun _=>False) KR.out) ⟨hCl,fun h=>h⟩ ⟨MQ,fun h=>h⟩);have hK:dS (fun i=>i=C) w _:=dS.dV KR.out;have HK:=V hK;have HQ:Hid (_=w.cell? ⟨C,16,none⟩):=V (KR.out.cell hCl);refine⟨Om.out,?_⟩;refine eH ?_;refine aD ?_;clear hK;generalize(w.alloc (.cells #[.int .i64 t.op, .int .i64 t.kind, .int .i64 t.eJ, .bool t.dead] 186)).drew=wb at HX HS Om HK HQ⊢;clear KR;obtain⟨⟨x0,x1,x2,x3⟩,-,-,-,-⟩:=HX.out.four;by_cases q:dX.length=t.eJ
 ·have f1:((dX.length:Int)==(t.eJ:Int))=true:=eF (by omega)
  have f2:(dX.length==t.eJ)=true:=by simp [q]
  have HP:Hid (eG.pop ⟨dX,cs++[t],bad⟩ want=(want,eG.need ⟨dX,cs++[t],bad⟩ t.dead)):=V (by
   unfold eG.pop;rw [mv,aJ q])
  obtain⟨v,v',hb,hv,-,-,-⟩:=HS.out;obtain⟨av,cv,rfl,-,-⟩:=hv.slice;have NK:wb.cell? ⟨C,15,none⟩=some (.slice av dX.length cv):=hb.cell 15;clear hb hv q x0 x1 Om;go_wp2_with fail;refine ed (fun w'=>w'.cell? ⟨C,15,none⟩=some (.slice av dX.length cv)/\w'.cell? ⟨w.heap.size,2,none⟩=some (.int .i64 t.eJ)) (up 0 8 []) (by kernel_rfl) (by kernel_rfl) ⟨NK,x2⟩ ?_;iterate 8 (first | (apply sk rfl rfl;simp only [pt]) | (apply dT rfl rfl rfl;·(rintro w' ⟨t0,t1⟩;go_wp2;exact⟨rfl,rfl,rfl⟩)))
  refine eH ?_;refine aD ?_;have x3:wb.drew.cell? ⟨w.heap.size,3,none⟩=some (.bool t.dead):=x3;have HS:=V HS.out.drew;have HK:=V HK.out.drew;have HQ:=V (show wb.drew.cell? ⟨C,16,none⟩=w.cell? ⟨C,16,none⟩from HQ.out);generalize wb.drew=wc at HS HK HQ x3⊢;clear NK x2;go_wp2_with fail;refine(jD w1 C u m lv wc _ t.dead HS.out).mono ?_;rintro e w2 ⟨rfl,Ku,Kp,QI⟩;have HS:=V Ku;have HK:=V (HK.out.trans Kp (fun _ h=> .inl h));have HQ:=V (QI.trans HQ.out);clear Ku Kp x3 QI;go_wp2_with fail;go_ret;rw [HP.out];exact⟨rfl,HS.out,HK.out,HQ.out⟩
 ·obtain⟨vs,k,rfl⟩:=qZ (l:=dX) (fun h=>by subst h;simp only [aM]at hs q;omega)
  have MH:(vs++[k]).length=vs.length+1:=by simp
  rw [MH]at q hs;have f1:((vs.length:Int)+1==(t.eJ:Int))=false:=dQ (by omega);have f2:(vs.length+1==t.eJ)=false:=by simp [q]
  have HP:Hid (eG.pop ⟨vs++[k],cs++[t],bad⟩ want=if k=0 then(want,⟨vs,cs++[t],bad⟩)else(k,eG.need ⟨vs,cs++[t],bad⟩ (want==0 || k==want))):=V (by
   unfold eG.pop;rw [mv,MH,aC q];simp)
  obtain⟨v,v',hb,hv,hc,hk,-⟩:=HS.out;simp only at hv hc;obtain⟨gv,KJ,rfl,hcapv,hcmv,hgv1,hgv2,K6⟩:=CS hv;have NK:wb.cell? ⟨C,15,none⟩=some (.slice (some ⟨gv,0,none⟩) (vs.length+1) KJ):=hb.cell 15;have Kz:=V hb;have PD:=V hv;have HCC:=V hc;have OZ:=V hk;clear hb hv hc hk q x0 x1 x3 Om H HV HB hs MH;go_wp2_with fail;refine ed (fun w'=>w'.cell? ⟨C,15,none⟩=some (.slice (some ⟨gv,0,none⟩) (vs.length+1) KJ)/\w'.cell? ⟨w.heap.size,2,none⟩=some (.int .i64 t.eJ)) (up 0 8 []) (by kernel_rfl) (by kernel_rfl) ⟨NK,x2⟩ ?_;iterate 8 (first | (apply sk rfl rfl;simp only [pt]) | (apply dT rfl rfl rfl;·(rintro w' ⟨t0,t1⟩;go_wp2;exact⟨rfl,rfl,rfl⟩)))
  refine eH ?_;refine aD ?_;have NK:wb.drew.cell? ⟨C,15,none⟩=some (.slice (some ⟨gv,0,none⟩) (vs.length+1) KJ):=NK;have K6:wb.drew.cell? ⟨gv,vs.length,none⟩=some (.int .i64 k):=K6;clear x2 f1 f2;go_wp2_with fail;refine ed (fun w'=>w'.cell? ⟨C,15,none⟩=some (.slice (some ⟨gv,0,none⟩) (vs.length+1) KJ)/\w'.cell? ⟨gv,vs.length,none⟩=some (.int .i64 k)) (up 0 13 []) (by kernel_rfl) (by kernel_rfl) ⟨NK,K6⟩ ?_;iterate 13 (first | (apply sk rfl rfl;simp only [pt]) | (apply dT rfl rfl rfl;·(rintro w' ⟨t0,t1⟩;go_wp2;exact⟨rfl,rfl,rfl⟩)))
  refine eH ?_;refine aD ?_;have NK:wb.drew.drew.cell? ⟨C,15,none⟩=some (.slice (some ⟨gv,0,none⟩) (vs.length+1) KJ):=NK;clear K6;have LV:=fun wx=>nt (some ⟨gv,0,none⟩) (vs.length+1) KJ vs.length (by omega) wx;go_wp2_with fail;refine eP (fun w'=>w'.cell? ⟨C,15,none⟩=some (.slice (some ⟨gv,0,none⟩) (vs.length+1) KJ)) 14 (up 0 14 []) (by kernel_rfl) (by kernel_rfl) NK ?_;iterate 14 (first | (apply sk rfl rfl;simp only [pt]) | (apply dT rfl rfl rfl;·(rintro w' t0;go_wp2;exact⟨rfl,rfl,rfl⟩)))
  refine fI rfl rfl ?_;have NK:wb.drew.drew.drew.cell? ⟨C,15,none⟩=some (.slice (some ⟨gv,0,none⟩) (vs.length+1) KJ):=NK;have z15:wb.drew.drew.drew.frozen? ⟨C,15,none⟩=false:=Kz.out.drew.drew.drew.free 15;have Km:=ep wb C 15 (.slice (some ⟨gv,0,none⟩) vs.length KJ);have hT:=dR.take fp PD.out vs.length (by simp);rw [dx rfl]at hT;have KP:Hid (gf w1 C u m lv (wb.setCell ⟨C,15,none⟩ (.slice (some ⟨gv,0,none⟩) vs.length KJ)).drew.drew.drew ⟨vs,cs++[t],bad⟩):=V ((((show gf w1 C u m lv (wb.setCell ⟨C,15,none⟩ (.slice (some ⟨gv,0,none⟩) vs.length KJ)) ⟨vs,cs++[t],bad⟩from
   ⟨_,v',Kz.out.set 15 _,hT.keeps Km (fun i hi h=>by have:=(eo hT hi).1;omega),HCC.out.keeps Km (fun i hi h=>by have:=(eo HCC.out hi).1;omega),OZ.out.trans Km (fun _ h=> .inl h),hC⟩).drew).drew).drew)
  have Lx:=V ((HK.out.trans Km (fun _ h=> .inl h)).drew.drew.drew);have HQ:=V (show(wb.setCell ⟨C,15,none⟩ (.slice (some ⟨gv,0,none⟩) vs.length KJ)).drew.drew.drew.cell? ⟨C,16,none⟩=w.cell? ⟨C,16,none⟩from(cB wb _ _ _ (by simp)).trans HQ.out);clear Km LV hT;go_wp2_with fail;refine⟨trivial,?_⟩;refine aD ?_;generalize(wb.setCell ⟨C,15,none⟩ (.slice (some ⟨gv,0,none⟩) vs.length KJ)).drew.drew.drew=wd at KP Lx HQ⊢;clear NK z15;by_cases q0:k=0
  ·have f1:=eF q0
   have HP:=V (show eG.pop ⟨vs++[k],cs++[t],bad⟩ want=(want,⟨vs,cs++[t],bad⟩)by rw [HP.out,aJ q0]);clear q0;go_wp2_with fail;go_ret;rw [HP.out];exact⟨rfl,KP.out,Lx.out,HQ.out⟩
  have f1:=dQ q0;have HP:=V (show eG.pop ⟨vs++[k],cs++[t],bad⟩ want=(k,eG.need ⟨vs,cs++[t],bad⟩ (want==0 || k==want))by rw [HP.out,aC q0]);clear q0;by_cases q1:want=0
  ·have f2:=eF q1
   have HP:=V (show eG.pop ⟨vs++[k],cs++[t],bad⟩ want=(k,eG.need ⟨vs,cs++[t],bad⟩ true)by rw [HP.out,f2,Bool.true_or]);clear q1;go_wp2_with fail;refine(jD w1 C u m lv wd _ true KP.out).mono ?_;rintro e w2 ⟨rfl,Ku,Kp,QI⟩;have HS:=V Ku;have HK:=V (Lx.out.trans Kp (fun _ h=> .inl h));have HQ:=V (QI.trans HQ.out);clear Ku Kp QI;go_wp2_with fail;go_ret;rw [HP.out];exact⟨rfl,HS.out,HK.out,HQ.out⟩
  have f2:=dQ q1;clear q1;by_cases q2:k=want
  ·have f3:=eF q2
   have HP:=V (show eG.pop ⟨vs++[k],cs++[t],bad⟩ want=(k,eG.need ⟨vs,cs++[t],bad⟩ true)by rw [HP.out,f3,Bool.or_true]);clear q2;go_wp2_with fail;refine(jD w1 C u m lv wd _ true KP.out).mono ?_;rintro e w2 ⟨rfl,Ku,Kp,QI⟩;have HS:=V Ku;have HK:=V (Lx.out.trans Kp (fun _ h=> .inl h));have HQ:=V (QI.trans HQ.out);clear Ku Kp QI;go_wp2_with fail;go_ret;rw [HP.out];exact⟨rfl,HS.out,HK.out,HQ.out⟩
  ·have f3:=dQ q2
   have HP:=V (show eG.pop ⟨vs++[k],cs++[t],bad⟩ want=(k,eG.need ⟨vs,cs++[t],bad⟩ false)by rw [HP.out,f2,f3];rfl);clear q2;go_wp2_with fail;refine(jD w1 C u m lv wd _ false KP.out).mono ?_;rintro e w2 ⟨rfl,Ku,Kp,QI⟩;have HS:=V Ku;have HK:=V (Lx.out.trans Kp (fun _ h=> .inl h));have HQ:=V (QI.trans HQ.out);clear Ku Kp QI;go_wp2_with fail;go_ret;rw [HP.out];exact⟨rfl,HS.out,HK.out,HQ.out⟩
theorem eG.BM (c:eG) (k:Int):(c.pop k).2.dX.length <=c.dX.length:=by
 unfold eG.pop;split
 ·exact ag _
 ·split
  ·simp
  ·simp [eG.need]
theorem eG.uK:∀(l:List Int) (c:eG),(c.nv l).dX.length <=c.dX.length
 | [],_=>ag _
 | k::l,c=>aW (eG.uK l _) (eG.BM c k)
theorem eG.lp (c:eG) (l:List Int):(c.fO l).dX.length <=c.dX.length:=eG.uK _ _
def gQ (c:eG):Prop:=c.sound/\c.eO≠[]
theorem gQ.top {c:eG} (h:gQ c):c.top.eJ <=c.dX.length:=h.1.top h.2
theorem gQ.pop {c:eG} (h:gQ c) (k:Int):gQ (c.pop k).2:=⟨h.1.pop h.2 k,by rw [eG.pz];exact h.2⟩
theorem gQ.fO {c:eG} (h:gQ c) (l:List Int):gQ (c.fO l):=⟨h.1.fO h.2 l,by rw [eG.il];exact h.2⟩
theorem gQ.need {c:eG} (h:gQ c) (b:Bool):gQ (c.need b):=⟨⟨h.1.1,h.1.2⟩,h.2⟩
theorem gQ.push {c:eG} (h:gQ c) (l:List Int):gQ (c.push l):=⟨h.1.push l,h.2⟩
theorem gQ.begin {c:eG} (h:gQ c) (op kind:Int):gQ (c.begin op kind):=⟨h.1.begin op kind,by simp [eG.begin]⟩
theorem gQ.fail {c:eG} (h:gQ c):gQ {c with bad:=true}:=⟨⟨h.1.1,h.1.2⟩,h.2⟩
theorem gQ.label {c:eG} (h:gQ c) (n:Int):gQ (c.label n).2:=by
 unfold eG.label;split
 ·exact h.fail
 ·exact h
theorem so (c:eG) (n:Int):(c.label n).2.eO=c.eO/\(c.label n).2.dX=c.dX:=by
 unfold eG.label;split <;>exact⟨rfl,rfl⟩
theorem Ce (c:eG) (n:Int):(c.label n).1.length <=1:=by
 unfold eG.label;split
 ·simp
 ·simp only
  split
  ·simp
  ·unfold gF;split <;>simp
theorem gQ.local {c:eG} (h:gQ c) (ls:List Int) (n:Int):gQ (eG.local ls c n).2:=by
 unfold eG.local;split
 ·exact h.fail
 ·exact h
theorem pk (c:eG) (ls:List Int) (n:Int):(eG.local ls c n).2.eO=c.eO/\(eG.local ls c n).2.dX=c.dX:=by
 unfold eG.local;split <;>exact⟨rfl,rfl⟩
theorem qk (c:eG):c.shut.2.eO=c.eO.dropLast:=by
 unfold eG.shut eG.BW;simp only [eG.mF,eG.il]
theorem qN (c:eG):c.shut.2.dX.length <=c.dX.length:=eG.lp c _
theorem As {c:eG} (h:gQ c):c.shut.2.sound:=by
 have h1:=h.fO (gF c.top.kind);have ht:(c.fO (gF c.top.kind)).top=c.top:=by unfold eG.top;rw [eG.il]
 have h2:=h1.top;rw [ht]at h2;have hle:=h.1.le_top h.2;refine⟨fun x hx=>?_,?_⟩
 ·rw [qk]at hx
  have:=hle x ((List.dropLast_sublist _).subset hx);exact aW this h2
 ·rw [qk]
  exact h.1.2.sublist (List.dropLast_sublist _)
theorem Bk {c:eG} (h:c.eO≠[]):c.dead.eO.length=c.eO.length:=by
 have:=List.length_pos_iff.2 h;simp [eG.dead];omega
theorem EF (c:eG):c.dead.dX.length <=c.dX.length:=by simp [eG.dead];omega
theorem gQ.dead {c:eG} (h:gQ c):gQ c.dead:=by
 have hle:=h.1.le_top h.2;have ht:=h.top;obtain⟨cs,t,Qm⟩:∃cs t,c.eO=cs++[t]:=⟨c.eO.dropLast,c.eO.getLast h.2,(db h.2).symm⟩;have htop:c.top=t:=by unfold eG.top;rw [Qm];simp
 have hd:c.dead.eO=cs++[{t with dead:=true}]:=by unfold eG.dead;simp only [Qm,htop];simp
 have hv:c.dead.dX.length=t.eJ:=by simp [eG.dead,htop];rw [htop]at ht;omega
 rw [htop]at hle;refine⟨⟨fun x hx=>?_,?_⟩,by rw [hd];simp⟩
 ·rw [hv]
  rw [hd]at hx;rcases bA.1 hx with h1 | h1
  ·exact hle x (by rw [Qm];simp [h1])
  ·rw [aV.1 h1]
   exact ag _
 ·rw [hd]
  have hp:=h.1.2;rw [Qm,cX]at hp;rw [cX];exact⟨hp.1,by simp,fun a ha b hb=>by rw [aV.1 hb];exact hp.2.2 a ha t (by simp)⟩
def JO (w1:World) (C:Nat) (u:eB) (m:ew) (lv:Value) (c:eG) (l:List Int) (w w':World) (c':eG) (n:Nat):Prop:=
 n <=l.length/\c.fO l=c'.nv (l.take n).reverse/\gf w1 C u m lv w' c'/\gQ c'/\dS (fun i=>i=C) w w'/\w'.cell? ⟨C,16,none⟩=w.cell? ⟨C,16,none⟩
theorem nY (w1:World) (C:Nat) (u:eB) (m:ew) (lv:Value) (w:World) (c:eG) (kv:Value) (l:List Int) (h:gf w1 C u m lv w c) (ho:gQ c) (hl:ee 1 eZ (rR C w) kv l) (N7:l.length <=1000000):
  Calls prog 199 #[.pointer (some ⟨C,0,none⟩),kv] w (B8 w1 C u m lv (.tuple #[]) (c.fO l) w):=by
 have HL:=V hl;obtain⟨ak,ck,rfl,-,-,-⟩:=id hl;clear hl;go_enter func199,ntmps199;go_wp2_with fail;refine ez (fun a' w'=>∃(c':eG) (n:Nat),a'=fr (.pointer (some ⟨C,0,none⟩):: .slice ak l.length ck::gs a' 2 2 (.int .i64 ((n:Int) - 1)::gs a' 5 13 []))/\JO w1 C u m lv c l w w' c' n) (fun a' _=>(intOf (a'.tmps.getD 4 undef)+1).toNat) ?_ ?_
 ·exact⟨c,l.length,rfl,ag _,by rw [aU];rfl,h,ho,dS.refl _ _,rfl⟩
 ·clear h ho
  rintro R a' w1 ⟨c',n,Kk,hJ⟩ HR;dsimp only [fr,gs]at Kk;generalize slot a'=f at Kk;subst Kk;obtain⟨hn,hpa,KI,Kt,hk,hq⟩:=hJ;have HQ:=V hq;have HPA:=V hpa;have Ko:=V KI;have Lu:=V Kt;have HK:=V hk;clear hpa KI Kt hq;cases n with
  | zero=>
   have HP:=V (show c.fO l=c' by rw [HPA.out];rfl);clear hk;go_wp2_with fail
   go_end0
   rw [HP.out];exact⟨rfl,Ko.out,HK.out,HQ.out⟩
  | succ n=>
   obtain⟨x,hx⟩:∃x,l[n]?=some x:=⟨_,aq (by omega)⟩;have P5:=HL.out.ext (sP hk);obtain⟨_,_,hv,_,_,Kh⟩:=P5;injection hv with e1 e2 e3;subst e1;obtain⟨b,off,rfl,Kq,hc⟩:=Kh n x hx;have c0:=hc 0 _ rfl;rw [aK,bj]at c0;have f1:decide ((0:Int) <=(n:Int))=true:=az (by omega);have f2:(n:Int) < (l.length:Int):=by omega
   have HT:=V (show(l.take (n+1)).reverse=x::(l.take n).reverse by rw [aQ,hx];simp);clear e2 e3 hc Kh hx hk;go_wp2_with fail;refine(BA _ C u m lv _ c' x Ko.out Lu.out.2 Lu.out.top).mono ?_;rintro e w2 ⟨rfl,Ku,Kp,QI⟩;have HQ2:=V (QI.trans HQ.out);have LO:=V Ku;have Lx:=V (HK.out.trans Kp (fun _ h=> .inl h));clear Ku Kp c0 QI;go_wp2_with fail;refine HR.out _ _ ⟨(c'.pop x).2,n,rfl,by omega,?_,LO.out,Lu.out.pop x,Lx.out,HQ2.out⟩ ?_
   ·rw [HPA.out,HT.out]
    rfl
   ·simp [intOf]
theorem sW (w1:World) (C:Nat) (u:eB) (m:ew) (lv:Value) (w:World) (c:eG) (op kind:Int) (h:gf w1 C u m lv w c) (hn:c.eO.length <=100000):
  Calls prog 103 #[.pointer (some ⟨C,0,none⟩), .int .i64 op, .int .i64 kind] w (nw w1 C u m lv (.tuple #[]) (c.begin op kind)):=by
 obtain⟨v,v',hb,hv,hc,hk,hC⟩:=h.drew;obtain⟨dX,eO,bad⟩:=c;simp only at hb hv hc hn;obtain⟨av,cv,rfl,-,-⟩:=hv.slice;obtain⟨ac,cc,rfl,-,-⟩:=hc.slice;have NK:w.drew.cell? ⟨C,15,none⟩=some (.slice av dX.length cv):=hb.cell 15;have Qb:w.drew.cell? ⟨C,16,none⟩=some (.slice ac eO.length cc):=hb.cell 16;have HB:=V hb;have HV:=V hv;have HC:=V hc;have HK:=V hk;have Lf:=hk.size;have QE:=V (fun g (hg:ey (.slice av dX.length cv) g)=>dR.ne hv hc (by decide) g hg);clear hb hv hc hk h;go_enter func103,ntmps103;go_wp2_with fail;refine eP (fun w'=>w'.cell? ⟨C,15,none⟩=some (.slice av dX.length cv)/\w'.cell? ⟨C,16,none⟩=some (.slice ac eO.length cc)) 17 (up 0 13 ((13,false)::(14,false)::(15,true)::(16,true)::[])) (by kernel_rfl) (by kernel_rfl) ⟨NK,Qb⟩ ?_;clear NK Qb;generalize w.drew=wa at HB HV HC HK Lf⊢;iterate 13 (first | (apply sk rfl rfl;simp only [pt]) | (apply dT rfl rfl rfl;·(rintro w' ⟨t0,t1⟩;go_wp2;exact⟨rfl,rfl,rfl⟩)))
 refine dZ rfl rfl ?_;go_wp2_with fail;refine⟨⟨(HB.out.alloc _).cell 15,(HB.out.alloc _).cell 16⟩,?_⟩;refine dZ rfl rfl ?_;go_wp2_with (first | (at_builtin;refine eQ wa rfl _ _ 179 rfl _ 32 (by kernel_rfl) wq rfl (by decide) (by decide) w1.heap.size (.slice ac eO.length cc) eO rfl HC.out ⟨op,kind,dX.length,false⟩ _ rfl rfl (D9 _) rfl (by omega) Lf ?_));intro v2 w2 ho Kp Ku;obtain⟨a2,c2,rfl,-,-⟩:=ho.slice;have HO:=V (show dR 186 4 xI w2 w1.heap.size (.slice a2 (eO.length+1) c2) (eO++[⟨op,kind,dX.length,false⟩])by have:=ho;rwa [ah,aB]at this);have HB:=V (HB.out.keeps Kp (fun h=>by have:=(eo HC.out h).1;omega));have HV:=V (HV.out.keeps Kp (fun i hi h=>QE.out i hi h));have HK:=V (HK.out.trans Kp (fun i hi=> .inr (eo HC.out hi).1));clear ho Kp Ku;go_wp2_with fail;refine⟨⟨HB.out.cell 15,HB.out.cell 16⟩,?_⟩;iterate 2 (first | (apply sk rfl rfl;simp only [pt]) | (apply dT rfl rfl rfl;·(rintro w' ⟨t0,t1⟩;go_wp2;exact⟨rfl,rfl,rfl⟩)))
 refine fI rfl rfl ?_;have Qb:w2.cell? ⟨C,16,none⟩=some (.slice ac eO.length cc):=HB.out.cell 16;have z16:=HB.out.free 16;go_wp2_with fail;refine⟨trivial,?_⟩;refine aD ?_;clear Qb z16;go_wp2_with fail
 go_end0
 have Km:=ep w2 C 16 (.slice a2 (eO.length+1) c2);exact⟨rfl,⟨_,_,HB.out.set 16 _,HV.out.keeps Km (fun i hi h=>by have:=(eo HV.out hi).1;omega),HO.out.keeps Km (fun i hi h=>by have:=(eo HO.out hi).1;omega),HK.out.trans Km (fun i hi=> .inl hi),hC⟩⟩
theorem zl (w1:World) (C:Nat) (u:eB) (m:ew) (lv:Value) (w:World) (c:eG) (h:gf w1 C u m lv w c) (Kt:gQ c):
  Calls prog 194 #[.pointer (some ⟨C,0,none⟩)] w (nw w1 C u m lv (.tuple #[]) c.dead):=by
 have hs:=Kt.top;have hn:=Kt.2;obtain⟨v,v',hb,hv,hc,hk,hC⟩:=h.drew.drew;obtain⟨dX,eO,bad⟩:=c;obtain⟨cs,t,rfl⟩:=qZ hn;rw [mv]at hs;simp only at hb hv hc hs;obtain⟨av,cv,rfl,LC,-⟩:=hv.slice;obtain⟨g,cap,rfl,K7,Mr,Ov,MQ,M5⟩:=AN.of hb rfl hc;have hCl:=hb.lt;have HD:Hid (eG.dead ⟨dX,cs++[t],bad⟩=⟨dX.take t.eJ,cs++[{t with dead:=true}],bad⟩):=V (by
  unfold eG.dead;rw [mv];simp)
 have hct0:AN C g cs.length cap t w.drew:=M5;have HB:=V hb;have HV:=V hv;have HC:=V hc;have HK:=V hk;have Om:=V M5;have Lf:=hk.size;have QE:=V (fun g' (hg:ey (.slice av dX.length cv) g')=>dR.ne hv hc (by decide) g' hg);have LV:=fun wx=>nt av dX.length cv t.eJ (by omega) wx;clear hb hv hc hk h M5 hn Kt;go_enter func194,ntmps194;go_wp2_with fail;refine ed (AN C g cs.length cap t) (up 0 12 []) (by kernel_rfl) (by kernel_rfl) hct0 ?_;iterate 12 (first | (apply sk rfl rfl;simp only [pt]) | (apply dT rfl rfl rfl;·(rintro w' ⟨t0,t1,t2,t3,t4⟩;go_wp2;exact⟨rfl,rfl,rfl⟩)))
 refine eH ?_;refine aD ?_;clear hct0;go_wp2_with fail;refine ed (fun w'=>w'.cell? ⟨g,cs.length*4+2,none⟩=some (.int .i64 t.eJ)) (up 0 5 (up 6 4 ((5,false)::up 10 3 ((13,false)::(14,true)::(15,true)::(16,false)::[])))) (by kernel_rfl) (by kernel_rfl) Om.out.2.2.2.1 ?_;generalize w.drew.drew=wa at HB HV HC HK Om Lf hCl MQ⊢;iterate 9 (first | (apply sk rfl rfl;simp only [pt]) | (apply dT rfl rfl rfl;·(rintro w' t0;go_wp2;exact⟨rfl,rfl,rfl⟩)))
 refine dZ rfl rfl ?_;have NK:wa.cell? ⟨C,15,none⟩=some (.slice av dX.length cv):=HB.out.cell 15;go_wp2_with fail;refine⟨Om.out.2.2.2.1,?_⟩;iterate 3 (first | (apply sk rfl rfl;simp only [pt]) | (apply dT rfl rfl rfl;·(rintro w' t0;go_wp2;exact⟨rfl,rfl,rfl⟩)))
 refine dZ rfl rfl ?_;have z15:=HB.out.free 15;go_wp2_with fail;have Km:=ep wa C 15 (.slice av t.eJ cv);have hgC:g≠C:=by omega
 have HCT2:=V (Om.out.2.2.2.1);have HCD:=V (Om.out.2.2.2.2);have k2:(wa.setCell ⟨C,15,none⟩ (.slice av t.eJ cv)).cell? ⟨g,cs.length*4+2,none⟩=some (.int .i64 t.eJ):=(Km.cell MQ hgC).trans HCT2.out;have k3:(wa.setCell ⟨C,15,none⟩ (.slice av t.eJ cv)).cell? ⟨g,cs.length*4+3,none⟩=some (.bool t.dead):=(Km.cell MQ hgC).trans HCD.out;have hT:=dR.take fp HV.out t.eJ hs;have HT:=V (hT.keeps Km (fun i hi h=>by have:=(eo hT hi).1;omega));have HC2:=V (HC.out.keeps Km (fun i hi h=>by have:=(eo HC.out hi).1;omega));have KR:=V (HB.out.set 15 (.slice av t.eJ cv));have Lx:=V (HK.out.trans Km (fun _ h=> .inl h));refine⟨k2,?_⟩;iterate 2 (first | (apply sk rfl rfl;simp only [pt]) | (apply dT rfl rfl rfl;·(rintro w' t0;go_wp2;exact⟨rfl,rfl,rfl⟩)))
 refine dZ rfl rfl ?_;generalize wa.setCell ⟨C,15,none⟩ (.slice av t.eJ cv)=wc at HT HC2 KR Lx k2 k3⊢;have zg:=dR.free HC2.out (cs.length*4+3);clear NK z15 Km hT;go_wp2_with fail;have Km:=ep wc g (cs.length*4+3) (.bool true);have Mf:C≠g:=fun h=>hgC h.symm;refine⟨(by
  show(wc.setCell ⟨g,cs.length*4+3,none⟩ (.bool true)).cell? ⟨g,cs.length*4+2,none⟩=_;rw [cB _ _ _ _ (by simp)];exact k2),?_⟩
 refine eH ?_;refine aD ?_;go_wp2_with fail
 go_end0
 rw [HD.out];have h1:=dR.set jC HC2.out (i:=cs.length) (j:=3) (x:=t) (y:={t with dead:=true}) (u:= .bool true) (by simp) (by decide) rfl;have h2:(cs++[t]).set cs.length {t with dead:=true}=cs++[{t with dead:=true}]:=by simp
 rw [h2]at h1;exact⟨rfl,⟨_,_,KR.out.keeps Km Mf,HT.out.keeps Km (fun i hi h=>QE.out i ((dR.same i).1 hi) (by simp [ey,Value.ownBlock,h])),h1,Lx.out.trans Km (fun i hi=> .inr (by omega)),hC⟩⟩
def Iv (C g n cap i:Nat) (t:mI) (w:World):Prop:=
 w.cell? ⟨C,16,none⟩=some (.slice (some ⟨g,0,none⟩) n cap)/\w.cell? ⟨g,i*4,none⟩=some (.int .i64 t.op)/\w.cell? ⟨g,i*4+1,none⟩=some (.int .i64 t.kind)/\w.cell? ⟨g,i*4+2,none⟩=some (.int .i64 t.eJ)/\w.cell? ⟨g,i*4+3,none⟩=some (.bool t.dead)
theorem Iv.keeps {C g n cap i:Nat} {t:mI} {w w':World} {S:Nat ->Prop} (h:Iv C g n cap i t w) (hk:dS S w w') (h1:C < w.heap.size/\¬ S C) (h2:g < w.heap.size/\¬ S g):Iv C g n cap i t w':=by
 obtain⟨a,b,c,d,e⟩:=h;exact⟨(hk.cell h1.1 h1.2).trans a,(hk.cell h2.1 h2.2).trans b,(hk.cell h2.1 h2.2).trans c,(hk.cell h2.1 h2.2).trans d,(hk.cell h2.1 h2.2).trans e⟩
theorem Iv.of {w:World} {B C:Nat} {v':Value} {l:List mI} {i:Nat} {t:mI} {xs:Array Value} {T:TypeId} (hb:eE w C xs T) (hx:xs[16]?=some v') (h:dR 186 4 xI w B v' l) (hi:l[i]?=some t):
  ∃g cap,v'= .slice (some ⟨g,0,none⟩) l.length cap/\l.length <=cap/\cap <=9223372036854775807/\B <=g/\g < w.heap.size/\Iv C g l.length cap i t w:=by
 obtain⟨g,cap,cur,rfl,Ov,MQ,hg3,K7,hm⟩:=h.open (fun e=>by rw [e]at hi;simp at hi);refine⟨g,cap,rfl,K7,by simpa [maxLen] using hm,Ov,MQ,?_,?_,?_,?_,?_⟩
 ·rw [hb.cell 16,hx]
 ·exact dR.cell jC h (i:=i) (j:=0) (x:=t) (u:= .int .i64 t.op) hi rfl
 ·exact dR.cell jC h (i:=i) (j:=1) (x:=t) (u:= .int .i64 t.kind) hi rfl
 ·exact dR.cell jC h (i:=i) (j:=2) (x:=t) (u:= .int .i64 t.eJ) hi rfl
 ·exact dR.cell jC h (i:=i) (j:=3) (x:=t) (u:= .bool t.dead) hi rfl
def IH (w1:World) (C:Nat) (u:eB) (m:ew) (lv:Value) (l:List Int) (c:eG) (w:World) (e:Ending) (w':World):Prop:=
 ∃v,e= .returned v/\ee 1 eZ (rR C w') v l/\gf w1 C u m lv w' c/\dS (fun i=>i=C) w w'
theorem A6 {c:eG} {k:Nat} {t:mI} (hk:k < c.eO.length) (ht:c.eO[c.eO.length - 1 - k]?=some t):c.label (k:Int)=(if t.op=3 then []else gF t.kind,c):=by
 unfold eG.label eG.xx;rw [aC (by omega),cI,ht];rfl
theorem CH (w1:World) (C:Nat) (u:eB) (m:ew) (lv:Value) (w:World) (c:eG) (k:Nat) (h:gf w1 C u m lv w c):
  Calls prog 200 #[.pointer (some ⟨C,0,none⟩), .int .i64 k] w (IH w1 C u m lv (c.label k).1 (c.label k).2 w):=by
 have H:=V h;by_cases q:k < c.eO.length
 ·obtain⟨t,ht⟩:∃t,c.eO[c.eO.length - 1 - k]?=some t:=⟨_,aq (by omega)⟩
  have HLB:=V (A6 q ht);obtain⟨v,v',hb,hv,hc,hk,hC⟩:=h.drew;have hCl:=hb.lt;obtain⟨g,cap,rfl,K7,Mr,Ov,MQ,M5⟩:=Iv.of hb rfl hc ht;have Lf:=hk.size;obtain⟨N,hN⟩:∃N,c.eO.length=N:=⟨_,rfl⟩;rw [hN]at q K7 M5;obtain⟨i,hi⟩:∃i,N - 1 - k=i:=⟨_,rfl⟩;rw [hi]at M5;have hidx:(N:Int) - 1 - (k:Int)=(i:Int):=by omega
  have No:i < N:=by omega
  have f1:decide ((N:Int) <=(k:Int))=false:=aA (by omega);have f2:decide (N <=k)=false:=aA (by omega);have Qb:w.cell? ⟨C,16,none⟩=some (.slice (some ⟨g,0,none⟩) N cap):=M5.1;have Om:=V M5;clear hb hc hk hv h ht hN hi M5 q;go_enter func200,ntmps200;go_wp2_with fail;refine ed (Iv C g N cap i t) (up 0 14 ((14,false)::(15,false)::[])) (by kernel_rfl) (by kernel_rfl) Om.out ?_;clear Qb;iterate 14 (first | (apply sk rfl rfl;simp only [pt]) | (apply dT rfl rfl rfl;·(rintro w' ⟨t0,t1,t2,t3,t4⟩;go_wp2;exact⟨rfl,rfl,rfl⟩)))
  refine dZ rfl rfl ?_;go_wp2_with fail;refine⟨Om.out.keeps ((dS.refl (fun _=>False) w.drew).alloc _) ⟨hCl,fun h=>h⟩ ⟨MQ,fun h=>h⟩,?_⟩;refine dZ rfl rfl ?_;go_wp2_with fail;have KR:=V (qt w t);have HX:=V (tH w t);unfold E4 at KR HX;have HS:=V (H.out.below KR.out);have HK:=V (dS.dV (S:=fun i=>i=C) KR.out);refine⟨Om.out.keeps (dS.dV (S:=fun _=>False) (show Below w.drew.heap.size w.drew _ from⟨KR.out.os,KR.out.tape,KR.out.output,KR.out.size,KR.out.block⟩)) ⟨hCl,fun h=>h⟩ ⟨MQ,fun h=>h⟩,?_⟩;refine eH ?_;refine aD ?_;generalize(w.alloc (.cells #[.int .i64 t.op, .int .i64 t.kind, .int .i64 t.eJ, .bool t.dead] 186)).drew=wb at HX HS HK⊢;clear KR;obtain⟨⟨x0,x1,x2,x3⟩,-,-,-,-⟩:=HX.out.four;clear x2 x3;by_cases q3:t.op=3
  ·have g1:=eF q3
   have HLB:=V (show c.label k=([],c)by rw [HLB.out,aJ q3]);clear q3;go_wp2_with fail;go_ret;rw [HLB.out];exact⟨_,rfl,ee.nil _,HS.out,HK.out⟩
  ·have g1:=dQ q3
   have HLB:=V (show c.label k=(gF t.kind,c)by rw [HLB.out,aC q3]);clear q3;go_wp2_with fail;refine(mU t.kind wb C HS.out.lt.1).mono ?_;rintro e w2 ⟨v,rfl,hl,hb⟩;have HL:=V hl;have HS:=V (HS.out.below hb);have HK:=V (HK.out.trans (dS.dV (S:=fun _=>False) hb) (fun _ h=>h.elim));clear hl hb x0 x1;go_wp2_with fail;go_ret;rw [HLB.out];exact⟨_,rfl,HL.out,HS.out,HK.out⟩
 ·obtain⟨v,v',hb,hv,hc,hk,hC⟩:=h
  obtain⟨ac,cc,rfl,-,-⟩:=hc.slice;have HLB:Hid (c.label k=([],{c with bad:=true})):=V (by unfold eG.label;rw [if_pos (by omega)]);obtain⟨N,hN⟩:∃N,c.eO.length=N:=⟨_,rfl⟩;rw [hN]at q hc hb;have f1:decide ((N:Int) <=(k:Int))=true:=az (by omega);have f2:decide (N <=k)=true:=az (by omega);have Qb:w.cell? ⟨C,16,none⟩=some (.slice ac N cc):=hb.cell 16;have c17:w.cell? ⟨C,17,none⟩=some (.bool c.bad):=hb.cell 17;have z17:=hb.free 17;have HB:=V hb;have HV:=V hv;have HC:=V hc;have HK:=V hk;clear hb hv hc hk q hN;go_enter func200,ntmps200;go_wp2_with fail;go_ret;have Km:=ep w C 17 (.bool true);rw [HLB.out];exact⟨_,rfl,ee.nil _,⟨v,_,HB.out.set 17 _,HV.out.keeps Km (fun i hi h=>by have:=(eo HV.out hi).1;omega),HC.out.keeps Km (fun i hi h=>by have:=(eo HC.out hi).1;omega),HK.out.trans Km (fun _ h=> .inl h),hC⟩,Km⟩
end Go.Proofs.YthbjdhjppbcneaaGreatDoor
