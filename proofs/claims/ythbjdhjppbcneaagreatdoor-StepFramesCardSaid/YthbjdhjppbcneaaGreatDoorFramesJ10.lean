import Derived.Test.YthbjdhjppbcneaaGreatDoorFramesJ9
namespace Go.Proofs.YthbjdhjppbcneaaGreatDoor
set_option maxRecDepth 100000
set_option maxHeartbeats 20000000
open Go.RowKit Tryz
open Lib renaming hid->V
set_option linter.all false
def kL (B:Nat) (w:World) (M:Nat) (u:eD) (m:ez):Prop:=eG w M (u.cells m) 62/\ep (mask (kH B) w) u m/\m.words/\M < B/\B <=w.heap.size
theorem kL.keeps {S:Nat ->Prop} {B:Nat} {w w':World} {M:Nat} {u:eD} {m:ez} (h:kL B w M u m) (hk:dU S w w') (hS:∀i,S i ->i < B\/w.heap.size <=i) (hM:¬ S M):kL B w' M u m:=
 ⟨h.1.keeps hk hM,h.2.1.ext (nx hk hS (.inl (ag _))),h.2.2.1,h.2.2.2.1,aW h.2.2.2.2 hk.size⟩
theorem kL.below {B:Nat} {w w':World} {M:Nat} {u:eD} {m:ez} (h:kL B w M u m) (hb:Below w.heap.size w w'):kL B w' M u m:=
 h.keeps (dU.dW (S:=fun _=>False) hb) (fun _ h=>h.elim) (fun h=>h)
theorem kL.put {B:Nat} {w:World} {M:Nat} {u u':eD} {m m':ez} {i:Nat} {v:Value} (h:kL B w M u m) (hc:(u.cells m).setIfInBounds i v=u'.cells m') (hw:m'.words)
  (hi:ep (mask (kH B) (w.setCell ⟨M,i,none⟩ v)) u m ->ep (mask (kH B) (w.setCell ⟨M,i,none⟩ v)) u' m'):kL B (w.setCell ⟨M,i,none⟩ v) M u' m':=by
 have hk:=eu w M i v;exact⟨by rw [<- hc];exact h.1.set i v,hi (h.2.1.ext (nx hk (fun k e=> .inl (by rw [e];exact h.2.2.2.1)) (.inl (ag _)))),hw,h.2.2.2.1,aW h.2.2.2.2 hk.size⟩
theorem kL.ui {B:Nat} {w:World} {M:Nat} {u u':eD} {m m':ez} {i:Nat} {v0 v1 v2:Value} (h:kL B w M u m) (hc:(((u.cells m).setIfInBounds i v0).setIfInBounds (i+1) v1).setIfInBounds (i+2) v2=u'.cells m') (hw:m'.words)
  (hi:∀w',ep w' u m ->ep w' u' m'):kL B (((w.setCell ⟨M,i,none⟩ v0).setCell ⟨M,i+1,none⟩ v1).setCell ⟨M,i+2,none⟩ v2) M u' m'/\dU (fun k=>k=M) w (((w.setCell ⟨M,i,none⟩ v0).setCell ⟨M,i+1,none⟩ v1).setCell ⟨M,i+2,none⟩ v2):=by
 have hk:=((eu w M i v0).trans (eu _ M (i+1) v1) (fun _ h=> .inl h)).trans (eu _ M (i+2) v2) (fun _ h=> .inl h);exact⟨⟨by rw [<- hc];exact((h.1.set i v0).set (i+1) v1).set (i+2) v2,hi _ (h.2.1.ext (nx hk (fun k e=> .inl (by rw [e];exact h.2.2.2.1)) (.inl (ag _)))),hw,h.2.2.2.1,aW h.2.2.2.2 hk.size⟩,hk⟩
theorem sX {α β:Type} {t:TypeId} {k:Nat} {enc:α × β ->List Value} {inner:World ->α ->β ->Prop} (hk:∀x,(enc x).length=k) (hx:∀w w' x u,Ext w w' ->inner w x u ->inner w' x u) {w:World} {B B1 M i:Nat} {v x:Value} {l:List α} (h:eR t k enc inner w B1 v l) (hB:B <=B1) (hM:M < B):
  ee k enc inner (mask (kH B) (w.setCell ⟨M,i,none⟩ x)) v l:=
 ee.ext (eR.low hk hx (eR.keeps hx h (eu w M i x) (fun j hj=> .inl (by omega)))) (tV _ hB) (fun _ _ h=>hx _ _ _ _ (tV _ hB) h)
theorem sT {α:Type} {t:TypeId} {k:Nat} {enc:α ->List Value} (hk:∀x,(enc x).length=k) {w:World} {B B1 M i:Nat} {v x:Value} {l:List α} (h:dT t k enc w B1 v l) (hB:B <=B1) (hM:M < B):
  eg k enc (mask (kH B) (w.setCell ⟨M,i,none⟩ x)) v l:=
 (jm hk ((h.stay (eu w M i x) (fun j hj=>by omega)).lower hB))
def lV (w0 w:World) (R M B:Nat) (no:Nat) (st:fZ) (m:ez) (e:Ending) (w':World):Prop:=
 ∃u' m',e= .returned (.tuple #[])/\kL B w' M u' m'/\gU (jL no m) st m'/\fm w0 w' R (ei (jL no m) st)/\dU (fun k=>k=R\/k=M) w w'
theorem Hn {l:List jh} (h:∀x∈l,x.fits):∀x∈l,x.mod.size <=1000000000000/\x.name.size <=1000000000000:=fun x hx=>by
 obtain⟨h1,h2,_⟩:=h x hx;omega
theorem Ib {l:List iC} (h:∀x∈l,x.fits):∀x∈l,x.name.size <=1000000000000:=fun x hx=>by
 obtain⟨h1,_⟩:=h x hx;omega
theorem I9 (w0 w:World) (R M B:Nat) (st:fZ) (u:eD) (m:ez) (h:fm w0 w R st) (hm:kL B w M u m) (OM:R < B) (Mx:R≠M) (NL:w0.heap.size <=M):
  Calls prog 111 #[.pointer (some ⟨R,0,none⟩), .pointer (some ⟨M,0,none⟩), .int .i64 1] w (lV w0 w R M B 1 st m):=by
 have Mm:=h.lt;have La:=(an w.heap.size w).alloc (ag _) (.cells #[.pointer (some ⟨R,0,none⟩)] 188);have HH:=V (h.below La);have HM:=V (hm.below La);have PO:=V hm;have HA:=V (eG.new w #[.pointer (some ⟨R,0,none⟩)] 188);have HK:=V ((dU.refl (fun k=>k=R\/k=M) w).alloc (.cells #[.pointer (some ⟨R,0,none⟩)] 188));have a0:=HA.out.cell 0;simp only [aG,aF]at a0;clear h hm La;go_enter func111,ntmps111;go_wp2_with fail;clear a0;have PQ:M < B:=HM.out.2.2.2.1;have PJ:B <=w.heap.size:=PO.out.2.2.2.2;generalize w.alloc (.cells #[.pointer (some ⟨R,0,none⟩)] 188)=wa at HH HM HA HK⊢;refine(He w0 R oN (fun _=>True) wq st wa 210 #[.pointer (some ⟨R,0,none⟩)] #[] (fun _ _=>by rfl) HH.out (fun s w1 h _=>EP w0 w1 R s h)).mono ?_;rintro e w2 ⟨v,l,rfl,ho,hp,hl,hw,hh,hk⟩;obtain⟨a,cap,rfl,-,-⟩:=ee.slice (eR.low uK (fun _ _ _ _ he h=>h.ext he) ho);have HO:=V ho;have HP:=V hp;have HW:=V hw;have HH:=V hh;have LU:=V (HM.out.keeps hk (fun i hi=> .inl (by omega)) (fun h=>Mx h.symm));have HK:=V (HK.out.trans hk (fun _ h=> .inl (.inl h)));have x0:=LU.out.1.cell 0;have z0:=LU.out.1.free 0;simp only [eD.cells,aG,aF]at x0;clear ho hp hw hh hk;go_wp2_with fail
 go_end0
 have Kz:=eu w2 M 0 (.slice a l.length cap);have Oj:B <=wa.heap.size:=HM.out.2.2.2.2;refine⟨{u with types:= .slice a l.length cap},{m with types:=l},rfl,LU.out.put rfl ?_ (fun⟨h1,h2,h3,h4,h5,h6,h7,h8,k1,k2,k3,k4,k5,k6⟩=>⟨sX uK (fun _ _ _ _ he h=>h.ext he) HO.out Oj PQ,h2,h3,h4,h5,h6,h7,h8,k1,k2,k3,k4,k5,k6⟩),?_,?_,HK.out.trans Kz (fun _ h=> .inl (.inr h))⟩
 ·exact LU.out.2.2.1
 ·rw [DB]
  exact fD (f:=fun x=>{m with types:=x}) HW.out
 ·rw [DB,fu]
  exact HH.out.keeps Kz (fun h=>Mx h) (fun i hi=>by subst hi;exact NL)
theorem JJ (w0 w:World) (R M B:Nat) (st:fZ) (u:eD) (m:ez) (h:fm w0 w R st) (hm:kL B w M u m) (OM:R < B) (Mx:R≠M) (NL:w0.heap.size <=M):
  Calls prog 111 #[.pointer (some ⟨R,0,none⟩), .pointer (some ⟨M,0,none⟩), .int .i64 2] w (lV w0 w R M B 2 st m):=by
 have Mm:=h.lt;have La:=(an w.heap.size w).alloc (ag _) (.cells #[.pointer (some ⟨R,0,none⟩)] 188);have HH:=V (h.below La);have HM:=V (hm.below La);have PO:=V hm;have HA:=V (eG.new w #[.pointer (some ⟨R,0,none⟩)] 188);have HK:=V ((dU.refl (fun k=>k=R\/k=M) w).alloc (.cells #[.pointer (some ⟨R,0,none⟩)] 188));have a0:=HA.out.cell 0;simp only [aG,aF]at a0;clear h hm La;go_enter func111,ntmps111;go_wp2_with fail;clear a0;have PQ:M < B:=HM.out.2.2.2.1;have PJ:B <=w.heap.size:=PO.out.2.2.2.2;generalize w.alloc (.cells #[.pointer (some ⟨R,0,none⟩)] 188)=wa at HH HM HA HK⊢;refine(Hi w0 R tH jh.fits xZ st wa 212 #[.pointer (some ⟨R,0,none⟩)] #[] (fun _ _=>by rfl) HH.out (fun s w1 h _=>Ah w0 w1 R s h)).mono ?_;rintro e w2 ⟨v,l,rfl,ho,hp,hl,hw,hh,hk⟩;obtain⟨a,cap,rfl,-,-⟩:=ho.slice;have HO:=V ho;have HP:=V hp;have HW:=V hw;have HH:=V hh;have LU:=V (HM.out.keeps hk (fun i hi=> .inl (by omega)) (fun h=>Mx h.symm));have HK:=V (HK.out.trans hk (fun _ h=> .inl (.inl h)));have x0:=LU.out.1.cell 1;have z0:=LU.out.1.free 1;simp only [eD.cells,aG,aF,aR]at x0;clear ho hp hw hh hk;go_wp2_with fail
 go_end0
 have Kz:=eu w2 M 1 (.slice a l.length cap);have Oj:B <=wa.heap.size:=HM.out.2.2.2.2;refine⟨{u with imports:= .slice a l.length cap},{m with imports:=l},rfl,LU.out.put rfl ?_ (fun⟨h1,h2,h3,h4,h5,h6,h7,h8,k1,k2,k3,k4,k5,k6⟩=>⟨h1,sT yX HO.out Oj PQ,h3,h4,h5,h6,h7,h8,fun x hx=>(HP.out x hx).2.2,k2,k3,k4,k5,k6⟩),?_,?_,HK.out.trans Kz (fun _ h=> .inl (.inr h))⟩
 ·exact⟨Hn HP.out,LU.out.2.2.1.2⟩
 ·rw [DN]
  exact fD (f:=fun x=>{m with imports:=x}) HW.out
 ·rw [DN,fu]
  exact HH.out.keeps Kz (fun h=>Mx h) (fun i hi=>by subst hi;exact NL)
theorem JB (w0 w:World) (R M B:Nat) (st:fZ) (u:eD) (m:ez) (h:fm w0 w R st) (hm:kL B w M u m) (OM:R < B) (Mx:R≠M) (NL:w0.heap.size <=M):
  Calls prog 111 #[.pointer (some ⟨R,0,none⟩), .pointer (some ⟨M,0,none⟩), .int .i64 3] w (lV w0 w R M B 3 st m):=by
 have Mm:=h.lt;have La:=(an w.heap.size w).alloc (ag _) (.cells #[.pointer (some ⟨R,0,none⟩)] 188);have HH:=V (h.below La);have HM:=V (hm.below La);have PO:=V hm;have HA:=V (eG.new w #[.pointer (some ⟨R,0,none⟩)] 188);have HK:=V ((dU.refl (fun k=>k=R\/k=M) w).alloc (.cells #[.pointer (some ⟨R,0,none⟩)] 188));have a0:=HA.out.cell 0;simp only [aG,aF]at a0;clear h hm La;go_enter func111,ntmps111;go_wp2_with fail;clear a0;have PQ:M < B:=HM.out.2.2.2.1;have PJ:B <=w.heap.size:=PO.out.2.2.2.2;generalize w.alloc (.cells #[.pointer (some ⟨R,0,none⟩)] 188)=wa at HH HM HA HK⊢;refine(nI w0 R uV iI nW st wa 110 #[.pointer (some ⟨R,0,none⟩)] #[] (fun _ _=>by rfl) HH.out (fun s w1 h _=>FI w0 w1 R s h)).mono ?_;rintro e w2 ⟨v,l,rfl,ho,hp,hl,hw,hh,hk⟩;obtain⟨a,cap,rfl,-,-⟩:=ho.slice;have HO:=V ho;have HP:=V hp;have HW:=V hw;have HH:=V hh;have LU:=V (HM.out.keeps hk (fun i hi=> .inl (by omega)) (fun h=>Mx h.symm));have HK:=V (HK.out.trans hk (fun _ h=> .inl (.inl h)));have x0:=LU.out.1.cell 2;have z0:=LU.out.1.free 2;simp only [eD.cells,aG,aF,aR]at x0;clear ho hp hw hh hk;go_wp2_with fail
 go_end0
 have Kz:=eu w2 M 2 (.slice a l.length cap);have Oj:B <=wa.heap.size:=HM.out.2.2.2.2;refine⟨{u with funcs:= .slice a l.length cap},{m with funcs:=l},rfl,LU.out.put rfl ?_ (fun⟨h1,h2,h3,h4,h5,h6,h7,h8,k1,k2,k3,k4,k5,k6⟩=>⟨h1,h2,sT fw HO.out Oj PQ,h4,h5,h6,h7,h8,k1,HP.out,k3,k4,k5,k6⟩),?_,?_,HK.out.trans Kz (fun _ h=> .inl (.inr h))⟩
 ·exact LU.out.2.2.1
 ·rw [EI]
  exact fD (f:=fun x=>{m with funcs:=x}) HW.out
 ·rw [EI,fu]
  exact HH.out.keeps Kz (fun h=>Mx h) (fun i hi=>by subst hi;exact NL)
theorem Jz (w0 w:World) (R M B:Nat) (st:fZ) (u:eD) (m:ez) (h:fm w0 w R st) (hm:kL B w M u m) (OM:R < B) (Mx:R≠M) (NL:w0.heap.size <=M):
  Calls prog 111 #[.pointer (some ⟨R,0,none⟩), .pointer (some ⟨M,0,none⟩), .int .i64 4] w (lV w0 w R M B 4 st m):=by
 have Mm:=h.lt;have La:=(an w.heap.size w).alloc (ag _) (.cells #[.pointer (some ⟨R,0,none⟩)] 188);have HH:=V (h.below La);have HM:=V (hm.below La);have PO:=V hm;have HA:=V (eG.new w #[.pointer (some ⟨R,0,none⟩)] 188);have HK:=V ((dU.refl (fun k=>k=R\/k=M) w).alloc (.cells #[.pointer (some ⟨R,0,none⟩)] 188));have a0:=HA.out.cell 0;simp only [aG,aF]at a0;clear h hm La;go_enter func111,ntmps111;go_wp2_with fail;clear a0;have PQ:M < B:=HM.out.2.2.2.1;generalize w.alloc (.cells #[.pointer (some ⟨R,0,none⟩)] 188)=wa at HH HM HA HK⊢;refine(sn w0 wa R true st HH.out).mono ?_;rintro e w2 ⟨x,rfl,KF,hw,hh,hk⟩;have LH:=V KF;have HW:=V hw;have HH:=V hh;have LU:=V (HM.out.keeps hk (fun i hi=> .inl (by omega)) (fun h=>Mx h.symm));have HK:=V (HK.out.trans hk (fun _ h=> .inl (.inl h)));have x0:=LU.out.1.cell 3;have z0:=LU.out.1.free 3;have x1:=LU.out.1.cell 4;have z1:=LU.out.1.free 4;have x2:=LU.out.1.cell 5;have z2:=LU.out.1.free 5;simp only [eD.cells,aG,aF,aR]at x0 x1 x2;clear KF hw hh hk;go_wp2_with fail
 go_end0
 obtain⟨hmd,Kz⟩:=kL.ui (u':=u) (m':={m with table:=x}) (i:=3) (v0:= .bool x.has) (v1:= .int .i64 x.min) (v2:= .int .i64 x.max) LU.out rfl LU.out.2.2.1 (fun w' ⟨h1,h2,h3,h4,h5,h6,h7,h8,k1,k2,k3,k4,k5,k6⟩=>⟨h1,h2,h3,h4,h5,h6,h7,h8,k1,k2,LH.out,k4,k5,k6⟩);refine⟨u,{m with table:=x},rfl,hmd,?_,?_,HK.out.trans Kz (fun _ h=> .inl (.inr h))⟩
 ·rw [EY]
  intro y hy;have hz:gU (gR (fun x=>({m with table:=x}:ez)) (gR jP (fk kM))) st {m with table:=x}:=fD HW.out;refine hz y ?_;rw [<- hy];cases st with
  | none=>rfl
  | some q=>simp only [aw,gR];cases fk kM q <;>rfl
 ·rw [EY,fu]
  exact HH.out.keeps Kz (fun h=>Mx h) (fun i hi=>by subst hi;exact NL)
theorem Jh (w0 w:World) (R M B:Nat) (st:fZ) (u:eD) (m:ez) (h:fm w0 w R st) (hm:kL B w M u m) (OM:R < B) (Mx:R≠M) (NL:w0.heap.size <=M):
  Calls prog 111 #[.pointer (some ⟨R,0,none⟩), .pointer (some ⟨M,0,none⟩), .int .i64 5] w (lV w0 w R M B 5 st m):=by
 have Mm:=h.lt;have La:=(an w.heap.size w).alloc (ag _) (.cells #[.pointer (some ⟨R,0,none⟩)] 188);have HH:=V (h.below La);have HM:=V (hm.below La);have PO:=V hm;have HA:=V (eG.new w #[.pointer (some ⟨R,0,none⟩)] 188);have HK:=V ((dU.refl (fun k=>k=R\/k=M) w).alloc (.cells #[.pointer (some ⟨R,0,none⟩)] 188));have a0:=HA.out.cell 0;simp only [aG,aF]at a0;clear h hm La;go_enter func111,ntmps111;go_wp2_with fail;clear a0;have PQ:M < B:=HM.out.2.2.2.1;generalize w.alloc (.cells #[.pointer (some ⟨R,0,none⟩)] 188)=wa at HH HM HA HK⊢;refine(sn w0 wa R false st HH.out).mono ?_;rintro e w2 ⟨x,rfl,KF,hw,hh,hk⟩;have LH:=V KF;have HW:=V hw;have HH:=V hh;have LU:=V (HM.out.keeps hk (fun i hi=> .inl (by omega)) (fun h=>Mx h.symm));have HK:=V (HK.out.trans hk (fun _ h=> .inl (.inl h)));have x0:=LU.out.1.cell 6;have z0:=LU.out.1.free 6;have x1:=LU.out.1.cell 7;have z1:=LU.out.1.free 7;have x2:=LU.out.1.cell 8;have z2:=LU.out.1.free 8;simp only [eD.cells,aG,aF,aR]at x0 x1 x2;clear KF hw hh hk;go_wp2_with fail
 go_end0
 obtain⟨hmd,Kz⟩:=kL.ui (u':=u) (m':={m with mem:=x}) (i:=6) (v0:= .bool x.has) (v1:= .int .i64 x.min) (v2:= .int .i64 x.max) LU.out rfl LU.out.2.2.1 (fun w' ⟨h1,h2,h3,h4,h5,h6,h7,h8,k1,k2,k3,k4,k5,k6⟩=>⟨h1,h2,h3,h4,h5,h6,h7,h8,k1,k2,k3,LH.out,k5,k6⟩);refine⟨u,{m with mem:=x},rfl,hmd,?_,?_,HK.out.trans Kz (fun _ h=> .inl (.inr h))⟩
 ·rw [EX]
  intro y hy;have hz:gU (gR (fun x=>({m with mem:=x}:ez)) (gR jP (fk gg))) st {m with mem:=x}:=fD HW.out;refine hz y ?_;rw [<- hy];cases st with
  | none=>rfl
  | some q=>simp only [aw,gR];cases fk gg q <;>rfl
 ·rw [EX,fu]
  exact HH.out.keeps Kz (fun h=>Mx h) (fun i hi=>by subst hi;exact NL)
theorem Js (w0 w:World) (R M B:Nat) (st:fZ) (u:eD) (m:ez) (h:fm w0 w R st) (hm:kL B w M u m) (OM:R < B) (Mx:R≠M) (NL:w0.heap.size <=M):
  Calls prog 111 #[.pointer (some ⟨R,0,none⟩), .pointer (some ⟨M,0,none⟩), .int .i64 6] w (lV w0 w R M B 6 st m):=by
 have Mm:=h.lt;have La:=(an w.heap.size w).alloc (ag _) (.cells #[.pointer (some ⟨R,0,none⟩)] 188);have HH:=V (h.below La);have HM:=V (hm.below La);have PO:=V hm;have HA:=V (eG.new w #[.pointer (some ⟨R,0,none⟩)] 188);have HK:=V ((dU.refl (fun k=>k=R\/k=M) w).alloc (.cells #[.pointer (some ⟨R,0,none⟩)] 188));have a0:=HA.out.cell 0;simp only [aG,aF]at a0;clear h hm La;go_enter func111,ntmps111;go_wp2_with fail;clear a0;have PQ:M < B:=HM.out.2.2.2.1;have PJ:B <=w.heap.size:=PO.out.2.2.2.2;generalize w.alloc (.cells #[.pointer (some ⟨R,0,none⟩)] 188)=wa at HH HM HA HK⊢;refine(Hj w0 R o9 (fun x=>x.init.ok) vT st wa 216 #[.pointer (some ⟨R,0,none⟩)] #[] (fun _ _=>by rfl) HH.out (fun s w1 h _=>Aj w0 w1 R s h)).mono ?_;rintro e w2 ⟨v,l,rfl,ho,hp,hl,hw,hh,hk⟩;obtain⟨a,cap,rfl,-,-⟩:=ho.slice;have HO:=V ho;have HP:=V hp;have HW:=V hw;have HH:=V hh;have LU:=V (HM.out.keeps hk (fun i hi=> .inl (by omega)) (fun h=>Mx h.symm));have HK:=V (HK.out.trans hk (fun _ h=> .inl (.inl h)));have x0:=LU.out.1.cell 9;have z0:=LU.out.1.free 9;simp only [eD.cells,aG,aF,aR]at x0;clear ho hp hw hh hk;go_wp2_with fail
 go_end0
 have Kz:=eu w2 M 9 (.slice a l.length cap);have Oj:B <=wa.heap.size:=HM.out.2.2.2.2;refine⟨{u with globals:= .slice a l.length cap},{m with globals:=l},rfl,LU.out.put rfl ?_ (fun⟨h1,h2,h3,h4,h5,h6,h7,h8,k1,k2,k3,k4,k5,k6⟩=>⟨h1,h2,h3,sT zy HO.out Oj PQ,h5,h6,h7,h8,k1,k2,k3,k4,HP.out,k6⟩),?_,?_,HK.out.trans Kz (fun _ h=> .inl (.inr h))⟩
 ·exact LU.out.2.2.1
 ·rw [ED]
  exact fD (f:=fun x=>{m with globals:=x}) HW.out
 ·rw [ED,fu]
  exact HH.out.keeps Kz (fun h=>Mx h) (fun i hi=>by subst hi;exact NL)
theorem Jg (w0 w:World) (R M B:Nat) (st:fZ) (u:eD) (m:ez) (h:fm w0 w R st) (hm:kL B w M u m) (OM:R < B) (Mx:R≠M) (NL:w0.heap.size <=M):
  Calls prog 111 #[.pointer (some ⟨R,0,none⟩), .pointer (some ⟨M,0,none⟩), .int .i64 7] w (lV w0 w R M B 7 st m):=by
 have Mm:=h.lt;have La:=(an w.heap.size w).alloc (ag _) (.cells #[.pointer (some ⟨R,0,none⟩)] 188);have HH:=V (h.below La);have HM:=V (hm.below La);have PO:=V hm;have HA:=V (eG.new w #[.pointer (some ⟨R,0,none⟩)] 188);have HK:=V ((dU.refl (fun k=>k=R\/k=M) w).alloc (.cells #[.pointer (some ⟨R,0,none⟩)] 188));have a0:=HA.out.cell 0;simp only [aG,aF]at a0;clear h hm La;go_enter func111,ntmps111;go_wp2_with fail;clear a0;have PQ:M < B:=HM.out.2.2.2.1;have PJ:B <=w.heap.size:=PO.out.2.2.2.2;generalize w.alloc (.cells #[.pointer (some ⟨R,0,none⟩)] 188)=wa at HH HM HA HK⊢;refine(H9 w0 R tG iC.fits ze st wa 218 #[.pointer (some ⟨R,0,none⟩)] #[] (fun _ _=>by rfl) HH.out (fun s w1 h _=>A6 w0 w1 R s h)).mono ?_;rintro e w2 ⟨v,l,rfl,ho,hp,hl,hw,hh,hk⟩;obtain⟨a,cap,rfl,-,-⟩:=ho.slice;have HO:=V ho;have HP:=V hp;have HW:=V hw;have HH:=V hh;have LU:=V (HM.out.keeps hk (fun i hi=> .inl (by omega)) (fun h=>Mx h.symm));have HK:=V (HK.out.trans hk (fun _ h=> .inl (.inl h)));have x0:=LU.out.1.cell 10;have z0:=LU.out.1.free 10;simp only [eD.cells,aG,aF,aR]at x0;clear ho hp hw hh hk;go_wp2_with fail
 go_end0
 have Kz:=eu w2 M 10 (.slice a l.length cap);have Oj:B <=wa.heap.size:=HM.out.2.2.2.2;refine⟨{u with ea:= .slice a l.length cap},{m with ea:=l},rfl,LU.out.put rfl ?_ (fun⟨h1,h2,h3,h4,h5,h6,h7,h8,k1,k2,k3,k4,k5,k6⟩=>⟨h1,h2,h3,h4,sT zB HO.out Oj PQ,h6,h7,h8,k1,k2,k3,k4,k5,fun x hx=>(HP.out x hx).2⟩),?_,?_,HK.out.trans Kz (fun _ h=> .inl (.inr h))⟩
 ·exact⟨LU.out.2.2.1.1,Ib HP.out⟩
 ·rw [FF]
  exact fD (f:=fun x=>{m with ea:=x}) HW.out
 ·rw [FF,fu]
  exact HH.out.keeps Kz (fun h=>Mx h) (fun i hi=>by subst hi;exact NL)
theorem Jr (w0 w:World) (R M B:Nat) (st:fZ) (u:eD) (m:ez) (h:fm w0 w R st) (hm:kL B w M u m) (OM:R < B) (Mx:R≠M) (NL:w0.heap.size <=M):
  Calls prog 111 #[.pointer (some ⟨R,0,none⟩), .pointer (some ⟨M,0,none⟩), .int .i64 9] w (lV w0 w R M B 9 st m):=by
 have Mm:=h.lt;have La:=(an w.heap.size w).alloc (ag _) (.cells #[.pointer (some ⟨R,0,none⟩)] 188);have HH:=V (h.below La);have HM:=V (hm.below La);have PO:=V hm;have HA:=V (eG.new w #[.pointer (some ⟨R,0,none⟩)] 188);have HK:=V ((dU.refl (fun k=>k=R\/k=M) w).alloc (.cells #[.pointer (some ⟨R,0,none⟩)] 188));have a0:=HA.out.cell 0;simp only [aG,aF]at a0;clear h hm La;go_enter func111,ntmps111;go_wp2_with fail;clear a0;have PQ:M < B:=HM.out.2.2.2.1;have PJ:B <=w.heap.size:=PO.out.2.2.2.2;generalize w.alloc (.cells #[.pointer (some ⟨R,0,none⟩)] 188)=wa at HH HM HA HK⊢;refine(Gy w0 R pk (fun _=>True) wo st wa 220 #[] #[.pointer (some ⟨w.heap.size,0,none⟩)] (fun _ _=>by rfl) HH.out (fun s w1 h hk=>IM w0 w1 R w.heap.size s h (HA.out.keeps hk (by omega)) Mm)).mono ?_;rintro e w2 ⟨v,l,rfl,ho,hp,hl,hw,hh,hk⟩;obtain⟨a,cap,rfl,-,-⟩:=ee.slice (eR.low uC (fun _ _ _ _ he h=>h.ext he) ho);have HO:=V ho;have HP:=V hp;have HW:=V hw;have HH:=V hh;have LU:=V (HM.out.keeps hk (fun i hi=> .inl (by omega)) (fun h=>Mx h.symm));have HK:=V (HK.out.trans hk (fun _ h=> .inl (.inl h)));have x0:=LU.out.1.cell 11;have z0:=LU.out.1.free 11;simp only [eD.cells,aG,aF,aR]at x0;clear ho hp hw hh hk;go_wp2_with fail
 go_end0
 have Kz:=eu w2 M 11 (.slice a l.length cap);have Oj:B <=wa.heap.size:=HM.out.2.2.2.2;refine⟨{u with elems:= .slice a l.length cap},{m with elems:=l},rfl,LU.out.put rfl ?_ (fun⟨h1,h2,h3,h4,h5,h6,h7,h8,k1,k2,k3,k4,k5,k6⟩=>⟨h1,h2,h3,h4,h5,sX uC (fun _ _ _ _ he h=>h.ext he) HO.out Oj PQ,h7,h8,k1,k2,k3,k4,k5,k6⟩),?_,?_,HK.out.trans Kz (fun _ h=> .inl (.inr h))⟩
 ·exact LU.out.2.2.1
 ·rw [Fx]
  exact fD (f:=fun x=>{m with elems:=x}) HW.out
 ·rw [Fx,fu]
  exact HH.out.keeps Kz (fun h=>Mx h) (fun i hi=>by subst hi;exact NL)
theorem IB (w0 w:World) (R M B:Nat) (st:fZ) (u:eD) (m:ez) (h:fm w0 w R st) (hm:kL B w M u m) (OM:R < B) (Mx:R≠M) (NL:w0.heap.size <=M):
  Calls prog 111 #[.pointer (some ⟨R,0,none⟩), .pointer (some ⟨M,0,none⟩), .int .i64 10] w (lV w0 w R M B 10 st m):=by
 have Mm:=h.lt;have La:=(an w.heap.size w).alloc (ag _) (.cells #[.pointer (some ⟨R,0,none⟩)] 188);have HH:=V (h.below La);have HM:=V (hm.below La);have PO:=V hm;have HA:=V (eG.new w #[.pointer (some ⟨R,0,none⟩)] 188);have HK:=V ((dU.refl (fun k=>k=R\/k=M) w).alloc (.cells #[.pointer (some ⟨R,0,none⟩)] 188));have a0:=HA.out.cell 0;simp only [aG,aF]at a0;clear h hm La;go_enter func111,ntmps111;go_wp2_with fail;clear a0;have PQ:M < B:=HM.out.2.2.2.1;have PJ:B <=w.heap.size:=PO.out.2.2.2.2;generalize w.alloc (.cells #[.pointer (some ⟨R,0,none⟩)] 188)=wa at HH HM HA HK⊢;refine(GJ w0 R lJ (fun _=>True) wN st wa 223 #[.pointer (some ⟨R,0,none⟩)] #[] (fun _ _=>by rfl) HH.out (fun s w1 h _=>DX w0 w1 R s h)).mono ?_;rintro e w2 ⟨v,l,rfl,ho,hp,hl,hw,hh,hk⟩;obtain⟨a,cap,rfl,-,-⟩:=ee.slice (eR.low tL (fun _ _ _ _ he h=>h.ext he) ho);have HO:=V ho;have HP:=V hp;have HW:=V hw;have HH:=V hh;have LU:=V (HM.out.keeps hk (fun i hi=> .inl (by omega)) (fun h=>Mx h.symm));have HK:=V (HK.out.trans hk (fun _ h=> .inl (.inl h)));have x0:=LU.out.1.cell 12;have z0:=LU.out.1.free 12;simp only [eD.cells,aG,aF,aR]at x0;clear ho hp hw hh hk;go_wp2_with fail
 go_end0
 have Kz:=eu w2 M 12 (.slice a l.length cap);have Oj:B <=wa.heap.size:=HM.out.2.2.2.2;refine⟨{u with ej:= .slice a l.length cap},{m with ej:=l},rfl,LU.out.put rfl ?_ (fun⟨h1,h2,h3,h4,h5,h6,h7,h8,k1,k2,k3,k4,k5,k6⟩=>⟨h1,h2,h3,h4,h5,h6,sX tL (fun _ _ _ _ he h=>h.ext he) HO.out Oj PQ,h8,k1,k2,k3,k4,k5,k6⟩),?_,?_,HK.out.trans Kz (fun _ h=> .inl (.inr h))⟩
 ·exact LU.out.2.2.1
 ·rw [AR]
  exact fD (f:=fun x=>{m with ej:=x}) HW.out
 ·rw [AR,fu]
  exact HH.out.keeps Kz (fun h=>Mx h) (fun i hi=>by subst hi;exact NL)
theorem IG (w0 w:World) (R M B:Nat) (st:fZ) (u:eD) (m:ez) (h:fm w0 w R st) (hm:kL B w M u m) (OM:R < B) (Mx:R≠M) (NL:w0.heap.size <=M):
  Calls prog 111 #[.pointer (some ⟨R,0,none⟩), .pointer (some ⟨M,0,none⟩), .int .i64 11] w (lV w0 w R M B 11 st m):=by
 have Mm:=h.lt;have La:=(an w.heap.size w).alloc (ag _) (.cells #[.pointer (some ⟨R,0,none⟩)] 188);have HH:=V (h.below La);have HM:=V (hm.below La);have PO:=V hm;have HA:=V (eG.new w #[.pointer (some ⟨R,0,none⟩)] 188);have HK:=V ((dU.refl (fun k=>k=R\/k=M) w).alloc (.cells #[.pointer (some ⟨R,0,none⟩)] 188));have a0:=HA.out.cell 0;simp only [aG,aF]at a0;clear h hm La;go_enter func111,ntmps111;go_wp2_with fail;clear a0;have PQ:M < B:=HM.out.2.2.2.1;have PJ:B <=w.heap.size:=PO.out.2.2.2.2;generalize w.alloc (.cells #[.pointer (some ⟨R,0,none⟩)] 188)=wa at HH HM HA HK⊢;refine(GO w0 R th (fun _=>True) zQ st wa 225 #[] #[.pointer (some ⟨w.heap.size,0,none⟩)] (fun _ _=>by rfl) HH.out (fun s w1 h hk=>JC w0 w1 R w.heap.size s h (HA.out.keeps hk (by omega)) Mm)).mono ?_;rintro e w2 ⟨v,l,rfl,ho,hp,hl,hw,hh,hk⟩;obtain⟨a,cap,rfl,-,-⟩:=ee.slice (eR.low rA (fun _ _ _ _ he h=>h.ext he) ho);have HO:=V ho;have HP:=V hp;have HW:=V hw;have HH:=V hh;have LU:=V (HM.out.keeps hk (fun i hi=> .inl (by omega)) (fun h=>Mx h.symm));have HK:=V (HK.out.trans hk (fun _ h=> .inl (.inl h)));have x0:=LU.out.1.cell 13;have z0:=LU.out.1.free 13;simp only [eD.cells,aG,aF,aR]at x0;clear ho hp hw hh hk;go_wp2_with fail
 go_end0
 have Kz:=eu w2 M 13 (.slice a l.length cap);have Oj:B <=wa.heap.size:=HM.out.2.2.2.2;refine⟨{u with eC:= .slice a l.length cap},{m with eC:=l},rfl,LU.out.put rfl ?_ (fun⟨h1,h2,h3,h4,h5,h6,h7,h8,k1,k2,k3,k4,k5,k6⟩=>⟨h1,h2,h3,h4,h5,h6,h7,sX rA (fun _ _ _ _ he h=>h.ext he) HO.out Oj PQ,k1,k2,k3,k4,k5,k6⟩),?_,?_,HK.out.trans Kz (fun _ h=> .inl (.inr h))⟩
 ·exact LU.out.2.2.1
 ·rw [Be]
  exact fD (f:=fun x=>{m with eC:=x}) HW.out
 ·rw [Be,fu]
  exact HH.out.keeps Kz (fun h=>Mx h) (fun i hi=>by subst hi;exact NL)
theorem I0 (w0 w:World) (R M B:Nat) (no:Nat) (st:fZ) (u:eD) (m:ez) (h:fm w0 w R st) (hm:kL B w M u m) (OM:R < B) (Mx:R≠M) (NW:no=0\/no=8\/11 < no):
  Calls prog 111 #[.pointer (some ⟨R,0,none⟩), .pointer (some ⟨M,0,none⟩), .int .i64 no] w (lV w0 w R M B no st m):=by
 have La:=(an w.heap.size w).alloc (ag _) (.cells #[.pointer (some ⟨R,0,none⟩)] 188);have HH:=V (h.below La);have HM:=V (hm.below La);have HA:=V (eG.new w #[.pointer (some ⟨R,0,none⟩)] 188);have HK:=V ((dU.refl (fun k=>k=R\/k=M) w).alloc (.cells #[.pointer (some ⟨R,0,none⟩)] 188));have a0:=HA.out.cell 0;simp only [aG,aF]at a0;have c1:=HH.out.bad;have z1:=HH.out.free 1;have f1:((no:Int)==1)=false:=dS (by omega);have f2:((no:Int)==2)=false:=dS (by omega);have f3:((no:Int)==3)=false:=dS (by omega);have f4:((no:Int)==4)=false:=dS (by omega);have f5:((no:Int)==5)=false:=dS (by omega);have f6:((no:Int)==6)=false:=dS (by omega);have f7:((no:Int)==7)=false:=dS (by omega);have f9:((no:Int)==9)=false:=dS (by omega);have f10:((no:Int)==10)=false:=dS (by omega);have f11:((no:Int)==11)=false:=dS (by omega);have HNO:=V (fun l=>vH (n:=no) m l NW);clear h hm La NW;go_enter func111,ntmps111;go_wp2_with fail
 go_end0
 have Kz:=eu (w.alloc (.cells #[.pointer (some ⟨R,0,none⟩)] 188)) R 1 (.bool true);have hN:st.bind (jL no m)=none:=by
  cases st with
  | none=>rfl
  | some l=>exact HNO.out l
 refine⟨u,m,rfl,HM.out.keeps Kz (fun i hi=> .inl (by omega)) (fun h=>Mx h.symm),fun y hy=>(by rw [hN]at hy;cases hy),?_,HK.out.trans Kz (fun _ h=> .inl (.inl h))⟩;rw [show ei (jL no m) st=none by unfold ei;rw [hN];rfl];exact HH.out.fail
theorem zD (w0 w:World) (R M B:Nat) (no:Nat) (st:fZ) (u:eD) (m:ez) (h:fm w0 w R st) (hm:kL B w M u m) (OM:R < B) (Mx:R≠M) (NL:w0.heap.size <=M):
  Calls prog 111 #[.pointer (some ⟨R,0,none⟩), .pointer (some ⟨M,0,none⟩), .int .i64 no] w (lV w0 w R M B no st m):=by
 by_cases NW:no=0\/no=8\/11 < no
 ·exact I0 w0 w R M B no st u m h hm OM Mx NW
 ·have h2:no=1\/no=2\/no=3\/no=4\/no=5\/no=6\/no=7\/no=9\/no=10\/no=11:=by omega
  rcases h2 with rfl | rfl | rfl | rfl | rfl | rfl | rfl | rfl | rfl | rfl
  ·exact I9 w0 w R M B st u m h hm OM Mx NL
  ·exact JJ w0 w R M B st u m h hm OM Mx NL
  ·exact JB w0 w R M B st u m h hm OM Mx NL
  ·exact Jz w0 w R M B st u m h hm OM Mx NL
  ·exact Jh w0 w R M B st u m h hm OM Mx NL
  ·exact Js w0 w R M B st u m h hm OM Mx NL
  ·exact Jg w0 w R M B st u m h hm OM Mx NL
  ·exact Jr w0 w R M B st u m h hm OM Mx NL
  ·exact IB w0 w R M B st u m h hm OM Mx NL
  ·exact IG w0 w R M B st u m h hm OM Mx NL
def GS (l:List UInt8) (w:World) (e:Ending) (w':World):Prop:=e= .returned (.bool (l.take 8==fA))/\w'=w
theorem Bk (l:List UInt8) (n:Nat):(bs l).extract 0 n=bs (l.take n):=by
 apply ByteArray.ext;simp [bs]
theorem uX (l:List UInt8) (hl:l.length <=1000000) (w:World):Calls prog 107 #[.string (bs l), .string (bs fA)] w (GS l w):=by
 have hs:(bs l).size=l.length:=BV l;have hh:(bs fA).size=8:=rfl;by_cases q:8 <=l.length
 ·have f1:decide ((8:Int) <=(l.length:Int))=true:=aA (by omega)
  have f2:decide (8 <=l.length)=true:=aA q;have he:=Bk l 8;go_enter func107,ntmps107;go_wp2;go_ret;refine⟨?_,rfl⟩;show Ending.returned (.bool ((bs (l.take 8)).toList==(bs fA).toList))=_;rw [lu,lu]
 ·have f1:decide ((8:Int) <=(l.length:Int))=false:=az (by omega)
  have f2:decide (8 <=l.length)=false:=az q;go_enter func107,ntmps107;go_wp2;go_ret;refine⟨?_,rfl⟩;have h:(l.take 8==fA)=false:=dG.2 (fun h=>by
   have:=cV List.length h;rw [aS,show fA.length=8 from rfl]at this;omega)
  rw [h];rfl
def qv (l:List UInt8):Option ez:=(mw l).bind fun m=>if m.may/\fB m=l then some m else none
def u0:eD:=⟨.slice none 0 0, .slice none 0 0, .slice none 0 0, .slice none 0 0, .slice none 0 0, .slice none 0 0, .slice none 0 0, .slice none 0 0⟩
theorem rv (w:World):ep w u0 m0:=
 ⟨ee.nil _,eg.nil _,eg.nil _,eg.nil _,eg.nil _,ee.nil _,ee.nil _,ee.nil _,by simp [m0],by simp [m0],nS,nS,by simp [m0],by simp [m0]⟩
theorem Fv:m0.words:=⟨by simp [m0],by simp [m0]⟩
def Gj (l:List UInt8) (w:World) (e:Ending) (w':World):Prop:=
 Below w.heap.size w w'/\((∃u m,qv l=some m/\e= .returned (.tuple #[.agg (u.cells m), .int .i64 0])/\ep (mask (kH w.heap.size) w') u m/\m.words)\/
  (qv l=none/\e= .returned (.tuple #[.agg (u0.cells m0), .int .i64 (if 8000 < l.length then 4 else 1)])))
theorem Cq {c:UInt8} {rest:List UInt8} {f:Nat} {m m':ez} (hw:gU (jL c.toNat m) (ei fU (some rest)) m'):
  (some (c::rest):fZ).bind (nQ (f+1) m)=(ei (jL c.toNat m) (ei fU (some rest))).bind (nQ f m'):=by
 simp only [aw,nQ];cases h:fU rest with
 | none=>simp [ei,h]
 | some k=>
  have h2:ei fU (some rest)=some k.2:=by simp [ei,h]
  rw [h2]at hw⊢;simp only [aw];cases h3:jL c.toNat m k.2 with
  | none=>simp [ei,h3]
  | some x=>
   have:=hw x (by simpa using h3);subst this;simp [ei,h3]
theorem vt {l:List UInt8} (hl:l.length <=8000):mw l=(ix 8 true (if(l.take 8==fA)=true then some l else none)).bind (nQ (l.length+1) m0):=by
 unfold mw;rw [aC (by omega)];by_cases q:l.take 8=fA
 ·have h8:8 <=l.length:=by
   have:=cV List.length q;rw [aS,show fA.length=8 from rfl]at this;omega
  rw [aJ q,aJ (by simp [q])];simp [ix,h8]
 ·rw [aC q,aC (by simp [q])]
  rfl
def Fa (w:World) (R:Nat):Nat:=match w.cell? ⟨R,1,none⟩,w.cell? ⟨R,0,none⟩with
 | some (.bool false),some (.slice _ n _)=>n+1
 | _,_=>0
theorem fm.left {w0 w:World} {R:Nat} {s:fZ} (h:fm w0 w R s):Fa w R=s.len:=by
 obtain⟨a,l,cap,bad,h1,h2,h3,h4,h5,h6⟩:=h;subst h4;unfold Fa;rw [h1.cell 1,h1.cell 0];cases bad <;>rfl
def JT (l:List UInt8) (X M R B:Nat) (w w':World) (u:eD) (m:ez) (s:fZ) (f:Nat):Prop:=
 mw l=s.bind (nQ f m)/\s.len <=f/\fm w w' R s/\kL B w' M u m/\eG w' X (u0.cells m0) 62/\Below w.heap.size w w'
theorem eG.mh {w:World} {X:Nat} {u:eD} {m:ez} {t:TypeId} (h:eG w X (u.cells m) t):(loadVar 62 ⟨X,0,none⟩).run prog w= .ok (.agg (u.cells m)) w:=by
 have hs:(prog.underlying 62).map (fun d=>match d with | .struct _ | .array _ _=>true | _=>false)=some true:=by kernel_rfl
 obtain⟨d,h1,h2⟩:=bz.1 hs;exact bY w X t 62 _ _ d h h1 (by cases d <;>first | rfl | (exfalso;simp at h2)) (by kernel_rfl)
def nY (w:World) (X:Nat) (u:eD) (m:ez):World:=
 (((((((((((((w.setCell ⟨X,0,none⟩ u.types).setCell ⟨X,1,none⟩ u.imports).setCell ⟨X,2,none⟩ u.funcs).setCell ⟨X,3,none⟩ (.bool m.table.has)).setCell ⟨X,4,none⟩ (.int .i64 m.table.min)).setCell ⟨X,5,none⟩ (.int .i64 m.table.max)).setCell ⟨X,6,none⟩ (.bool m.mem.has)).setCell ⟨X,7,none⟩ (.int .i64 m.mem.min)).setCell ⟨X,8,none⟩ (.int .i64 m.mem.max)).setCell ⟨X,9,none⟩ u.globals).setCell ⟨X,10,none⟩ u.ea).setCell ⟨X,11,none⟩ u.elems).setCell ⟨X,12,none⟩ u.ej).setCell ⟨X,13,none⟩ u.eC
theorem kA (w:World) (X:Nat) (u:eD) (m:ez):dU (fun k=>k=X) w (nY w X u m):=by
 have st:∀{a b:World} (i:Nat) (v:Value),dU (fun k=>k=X) a b ->dU (fun k=>k=X) a (b.setCell ⟨X,i,none⟩ v):=fun i v h=>h.trans (eu _ X i v) (fun _ h=> .inl h);exact st _ _ (st _ _ (st _ _ (st _ _ (st _ _ (st _ _ (st _ _ (st _ _ (st _ _ (st _ _ (st _ _ (st _ _ (st _ _ (st _ _ (dU.refl _ _))))))))))))))
theorem eG.nY {w:World} {X:Nat} {u':eD} {m':ez} {t:TypeId} (h:eG w X (u'.cells m') t) (u:eD) (m:ez):eG (nY w X u m) X (u.cells m) t:=by
 have h1:=(((((((((((((h.set 0 u.types).set 1 u.imports).set 2 u.funcs).set 3 (.bool m.table.has)).set 4 (.int .i64 m.table.min)).set 5 (.int .i64 m.table.max)).set 6 (.bool m.mem.has)).set 7 (.int .i64 m.mem.min)).set 8 (.int .i64 m.mem.max)).set 9 u.globals).set 10 u.ea).set 11 u.elems).set 12 u.ej).set 13 u.eC;simp only [eD.cells,bj,bD,bF]at h1;exact h1
theorem eG.tk {w:World} {X:Nat} {xs:Array Value} {t:TypeId} (h:eG w X xs t):w.frozen? ⟨X,0,none⟩=false/\w.frozen? ⟨X,1,none⟩=false/\w.frozen? ⟨X,2,none⟩=false/\w.frozen? ⟨X,3,none⟩=false/\w.frozen? ⟨X,4,none⟩=false/\w.frozen? ⟨X,5,none⟩=false/\w.frozen? ⟨X,6,none⟩=false/\w.frozen? ⟨X,7,none⟩=false/\w.frozen? ⟨X,8,none⟩=false/\w.frozen? ⟨X,9,none⟩=false/\w.frozen? ⟨X,10,none⟩=false/\w.frozen? ⟨X,11,none⟩=false/\w.frozen? ⟨X,12,none⟩=false/\w.frozen? ⟨X,13,none⟩=false:=
 ⟨h.free 0,h.free 1,h.free 2,h.free 3,h.free 4,h.free 5,h.free 6,h.free 7,h.free 8,h.free 9,h.free 10,h.free 11,h.free 12,h.free 13⟩
theorem qt (b:Value) (l:List UInt8) (w:World) (hb:eJ w b l) (Ok:l.length <=1000000):Calls prog 68 #[b] w (Gj l w):=by
 have HB:=V hb;obtain⟨a,cap,rfl,Lk,M8,-⟩:=id hb;clear hb;by_cases q:8000 < l.length
 ·have f1:decide ((8000:Int) < (l.length:Int))=true:=aA (by omega)
  have f2:decide (8000 < l.length)=true:=aA q;have HX:=V (show eG (w.alloc (.cells (u0.cells m0) 62)) w.heap.size (u0.cells m0) 62 from eG.new w _ _);have HD:=V (show qv l=none by simp [qv,mw,q]);go_enter func68,ntmps68;obtain⟨p0,p1,p2,p3,p4,p5,p6,p7,p8,p9,p10,p11,p12,p13⟩:=HX.out.mod;obtain⟨q0,q1,q2,q3,q4,q5,q6,q7,q8,q9,q10,Ol,q12,q13⟩:=HX.out.tk;go_wp2_with fail;refine aM (fe rfl _ _ rfl HX.out.mh) rfl ?_;exact⟨(an _ _).alloc (ag _) _, .inr ⟨HD.out,by rw [aJ q];rfl⟩⟩
 have f1:decide ((8000:Int) < (l.length:Int))=false:=az (by omega);have f2:decide (8000 < l.length)=false:=az q;have Ky:=V (vt (l:=l) (by omega));have Kx:Below w.heap.size w ((w.alloc (.cells #[.slice none 0 0, .slice none 0 0, .slice none 0 0, .bool false, .int .i64 0, .int .i64 0, .bool false, .int .i64 0, .int .i64 0, .slice none 0 0, .slice none 0 0, .slice none 0 0, .slice none 0 0, .slice none 0 0] 62)).alloc (.cells #[.slice none 0 0, .slice none 0 0, .slice none 0 0, .bool false, .int .i64 0, .int .i64 0, .bool false, .int .i64 0, .int .i64 0, .slice none 0 0, .slice none 0 0, .slice none 0 0, .slice none 0 0, .slice none 0 0] 62)):=((an _ _).alloc (ag _) _).alloc (by rw [aE];omega) _;have hstr:=pC (HB.out.below Kx);clear Kx;go_enter func68,ntmps68;go_wp2_with fail;refine(uX l Ok _).mono ?_;rintro e w1 ⟨rfl,rfl⟩;obtain⟨pb,hpb⟩:∃pb,(l.take 8==fA)=pb:=⟨_,rfl⟩;rw [hpb];rw [hpb]at Ky;clear hpb hstr;go_wp2_with fail;obtain⟨bad,hbad⟩:∃bad,(!pb)=bad:=⟨_,rfl⟩;rw [hbad];have Ky:=V (show mw l=(ix 8 true (if bad=true then none else some l)).bind (nQ (l.length+1) m0)by
  rw [Ky.out, <- hbad];cases pb <;>rfl)
 clear hbad;have hX:=eG.new w #[.slice none 0 0, .slice none 0 0, .slice none 0 0, .bool false, .int .i64 0, .int .i64 0, .bool false, .int .i64 0, .int .i64 0, .slice none 0 0, .slice none 0 0, .slice none 0 0, .slice none 0 0, .slice none 0 0] 62;have hM:=eG.new (w.alloc (.cells #[.slice none 0 0, .slice none 0 0, .slice none 0 0, .bool false, .int .i64 0, .int .i64 0, .bool false, .int .i64 0, .int .i64 0, .slice none 0 0, .slice none 0 0, .slice none 0 0, .slice none 0 0, .slice none 0 0] 62)) #[.slice none 0 0, .slice none 0 0, .slice none 0 0, .bool false, .int .i64 0, .int .i64 0, .bool false, .int .i64 0, .int .i64 0, .slice none 0 0, .slice none 0 0, .slice none 0 0, .slice none 0 0, .slice none 0 0] 62;have hR:=eG.new ((w.alloc (.cells #[.slice none 0 0, .slice none 0 0, .slice none 0 0, .bool false, .int .i64 0, .int .i64 0, .bool false, .int .i64 0, .int .i64 0, .slice none 0 0, .slice none 0 0, .slice none 0 0, .slice none 0 0, .slice none 0 0] 62)).alloc (.cells #[.slice none 0 0, .slice none 0 0, .slice none 0 0, .bool false, .int .i64 0, .int .i64 0, .bool false, .int .i64 0, .int .i64 0, .slice none 0 0, .slice none 0 0, .slice none 0 0, .slice none 0 0, .slice none 0 0] 62)) #[.slice a l.length cap, .bool bad] 191;have hX:=(hX.alloc (.cells #[.slice none 0 0, .slice none 0 0, .slice none 0 0, .bool false, .int .i64 0, .int .i64 0, .bool false, .int .i64 0, .int .i64 0, .slice none 0 0, .slice none 0 0, .slice none 0 0, .slice none 0 0, .slice none 0 0] 62)).alloc (.cells #[.slice a l.length cap, .bool bad] 191);have hM:=hM.alloc (.cells #[.slice a l.length cap, .bool bad] 191);have hBW:Below w.heap.size w (((w.alloc (.cells #[.slice none 0 0, .slice none 0 0, .slice none 0 0, .bool false, .int .i64 0, .int .i64 0, .bool false, .int .i64 0, .int .i64 0, .slice none 0 0, .slice none 0 0, .slice none 0 0, .slice none 0 0, .slice none 0 0] 62)).alloc (.cells #[.slice none 0 0, .slice none 0 0, .slice none 0 0, .bool false, .int .i64 0, .int .i64 0, .bool false, .int .i64 0, .int .i64 0, .slice none 0 0, .slice none 0 0, .slice none 0 0, .slice none 0 0, .slice none 0 0] 62)).alloc (.cells #[.slice a l.length cap, .bool bad] 191)):=(((an _ _).alloc (ag _) _).alloc (by rw [aE];omega) _).alloc (by rw [aE,aE];omega) _;rw [aE]at hM;rw [aE,aE]at hR;generalize((w.alloc (.cells #[.slice none 0 0, .slice none 0 0, .slice none 0 0, .bool false, .int .i64 0, .int .i64 0, .bool false, .int .i64 0, .int .i64 0, .slice none 0 0, .slice none 0 0, .slice none 0 0, .slice none 0 0, .slice none 0 0] 62)).alloc (.cells #[.slice none 0 0, .slice none 0 0, .slice none 0 0, .bool false, .int .i64 0, .int .i64 0, .bool false, .int .i64 0, .int .i64 0, .slice none 0 0, .slice none 0 0, .slice none 0 0, .slice none 0 0, .slice none 0 0] 62)).alloc (.cells #[.slice a l.length cap, .bool bad] 191)=wa at hX hM hR hBW⊢;have Lp:fm w wa (w.heap.size+1+1) (if bad=true then none else some l):=⟨a,l,cap,bad,hR,HB.out,by omega,rfl,hBW,by omega⟩;have hmd:kL (w.heap.size+3) wa (w.heap.size+1) u0 m0:=⟨hM,rv _,Fv,by omega,by have:=hR.lt;omega⟩;have K5:=V Lp;have Pv:=V hmd;have HX:=V (show eG wa w.heap.size (u0.cells m0) 62 from hX);have Lb:=V hBW;clear hX hM hR hBW Lp hmd;refine(kN w wa _ _ 8 true (by omega) K5.out).mono ?_;rintro e w1 ⟨rfl,h1,LN⟩;have K5:=V h1;have Pv:=V (Pv.out.keeps LN (fun i hi=> .inl (by omega)) (by omega));have HX:=V (HX.out.keeps LN (by omega));have Lb:=V (Lb.out.trans (LN.below Lb.out.size (fun i hi=>by omega)));have hlen:(ix 8 true (if bad=true then none else some l)).len <=l.length+1:=by
  cases bad with
  | true=>exact bK _
  | false=>
   simp only [ix,cC,if_false,aw];split
   ·simp only [fZ.len,bq];omega
   ·exact bK _
 clear h1 LN;go_wp2_with fail;refine eB (fun a' w'=>∃(u:eD) (m:ez) (s:fZ) (f:Nat),a'=fr (.slice a l.length cap::gs a' 1 1 (.pointer (some ⟨w.heap.size,0,none⟩):: .int .i64 0:: .pointer (some ⟨w.heap.size+1,0,none⟩):: .pointer (some ⟨w.heap.size+1+1,0,none⟩)::gs a' 6 53 []))/\JT l w.heap.size (w.heap.size+1) (w.heap.size+1+1) (w.heap.size+3) w w' u m s f) (fun _ w'=>Fa w' (w.heap.size+1+1)) ?_ ?_
 ·exact⟨u0,m0,_,l.length+1,rfl,Ky.out,hlen,K5.out,Pv.out,HX.out,Lb.out⟩
 ·skip
  clear Ky hlen K5 Pv HX Lb w1;rintro R a' w1 ⟨u,m,s,f',Kw,hJ⟩ HR;dsimp only [fr,gs]at Kw;generalize slot a'=f at Kw;subst Kw;obtain⟨Lx,hlen,Lp,hmd,hx,Pz⟩:=hJ;have K0:=V Lx;have K5:=V Lp;have Pv:=V hmd;have HX:=V hx;have Lb:=V Pz;have c1:=Lp.bad;clear Lx hmd hx Pz;cases s with
  | none=>
   have c1:w1.cell? ⟨w.heap.size+1+1,1,none⟩=some (.bool true):=c1;obtain⟨ar,lr,Pb,badr,KP,-,-,-,-,-⟩:=Lp;have c0:w1.cell? ⟨w.heap.size+1+1,0,none⟩=some (.slice ar lr.length Pb):=KP.cell 0;have HD:=V (show qv l=none by rw [qv,K0.out];rfl);clear KP hlen;by_cases q2:0 < lr.length
   ·have g1:decide ((0:Int) < (lr.length:Int))=true:=aA (by omega)
    have g2:decide (0 < lr.length)=true:=aA q2;clear q2;obtain⟨p0,p1,p2,p3,p4,p5,p6,p7,p8,p9,p10,p11,p12,p13⟩:=HX.out.mod;obtain⟨q0,q1,q2,q3,q4,q5,q6,q7,q8,q9,q10,Ol,q12,q13⟩:=HX.out.tk;go_wp2_with fail;have hx:=(HX.out.nY u0 m0).mh;have Kz:=kA w1 w.heap.size u0 m0;refine aM (fe rfl _ _ rfl hx) rfl ?_;exact⟨Lb.out.trans (Kz.below Lb.out.size (fun i hi=>by omega)), .inr ⟨HD.out,by rw [aC (by omega)];rfl⟩⟩
   ·have g1:decide ((0:Int) < (lr.length:Int))=false:=az (by omega)
    have g2:decide (0 < lr.length)=false:=az q2;clear q2;obtain⟨p0,p1,p2,p3,p4,p5,p6,p7,p8,p9,p10,p11,p12,p13⟩:=HX.out.mod;obtain⟨q0,q1,q2,q3,q4,q5,q6,q7,q8,q9,q10,Ol,q12,q13⟩:=HX.out.tk;go_wp2_with fail;have hx:=(HX.out.nY u0 m0).mh;have Kz:=kA w1 w.heap.size u0 m0;refine aM (fe rfl _ _ rfl hx) rfl ?_;exact⟨Lb.out.trans (Kz.below Lb.out.size (fun i hi=>by omega)), .inr ⟨HD.out,by rw [aC (by omega)];rfl⟩⟩
  | some lb=>
   have c1:w1.cell? ⟨w.heap.size+1+1,1,none⟩=some (.bool false):=c1;obtain⟨ar,Pb,c0,-,hlb⟩:=Lp.some;clear Lp;cases lb with
   | nil=>
    have c0:w1.cell? ⟨w.heap.size+1+1,0,none⟩=some (.slice ar 0 Pb):=c0;have hm:mw l=some m:=by
     rw [K0.out];obtain⟨f2,rfl⟩:∃f2,f'=f2+1:=⟨f' - 1,by simp only [fZ.len,aK]at hlen;omega⟩;rfl
    have HMR:=V hm;have OQ:=V Pv.out.2.1;obtain⟨a0,k0,a1,k1,a2,k2,a3,k3,a4,k4,a5,k5,a6,k6,a7,k7,rfl⟩:=ep.open Pv.out.2.1;have HMC:=V Pv.out.1;have HWD:=V Pv.out.2.2.1;have HMI:=V (ep.fT Pv.out.2.1);clear hm hlen K0 Pv K5 hlb;obtain⟨g0,g1,g2,g3,g4,g5,g6,g7,g8,g9,Ld,Le,Lf,Lg⟩:=HMC.out.mod;go_wp2_with fail;refine(om m ⟨.slice a0 m.types.length k0, .slice a1 m.imports.length k1, .slice a2 m.funcs.length k2, .slice a3 m.globals.length k3, .slice a4 m.ea.length k4, .slice a5 m.elems.length k5, .slice a6 m.ej.length k6, .slice a7 m.eC.length k7⟩ w1 HMI.out HWD.out).mono ?_;rintro e w2 ⟨v,rfl,hv,hb⟩;have HX:=V (HX.out.below hb HX.out.lt);have HMC:=V (HMC.out.below hb HMC.out.lt);have Lb:=V (Lb.out.trans (hb.mono Lb.out.size));have OQ:=V (ep.below OQ.out (Ay hb));have L9:=HB.out.below Lb.out;clear g0 g1 g2 g3 g4 g5 g6 g7 g8 g9 Ld Le Lf Lg c0 c1 hb;rcases hv with⟨Mg,rfl⟩ | ⟨Mg,hv⟩
    ·have HD:=V (show qv l=none by rw [qv,HMR.out];simp [Mg])
     have e1:=bR (P:=prog) w2 97 5 none 0 0 0 0 (by kernel_rfl);rw [de]at e1;clear Mg L9;obtain⟨p0,p1,p2,p3,p4,p5,p6,p7,p8,p9,p10,p11,p12,p13⟩:=HX.out.mod;obtain⟨q0,q1,q2,q3,q4,q5,q6,q7,q8,q9,q10,Ol,q12,q13⟩:=HX.out.tk;go_wp2_with fail;have hx:=(HX.out.nY u0 m0).mh;have Kz:=kA w2 w.heap.size u0 m0;refine aM (fe rfl _ _ rfl hx) rfl ?_;exact⟨Lb.out.trans (Kz.below Lb.out.size (fun i hi=>by omega)), .inr ⟨HD.out,by rw [aC (by omega)];rfl⟩⟩
    ·obtain⟨av,cv,rfl,-,-,Kt⟩:=id hv
     obtain⟨bb,off,rfl,-⟩:=Kt 0 0 (by rw [fB];rfl);have e1:=bR (P:=prog) w2 97 5 (some ⟨bb,off,none⟩) (fB m).length cv 0 0 (by kernel_rfl);rw [dd]at e1;have HV:=V hv;have KL:=V L9;have ME:=V Mg;clear Kt hv L9 Mg;go_wp2_with fail;refine(se _ _ _ _ w2 HV.out KL.out).mono ?_;rintro e w3 ⟨rfl,rfl⟩;by_cases q3:fB m=l
     ·have hq:(fB m==l)=true:=by simp [q3]
      rw [hq];have HD:=V (show qv l=some m by rw [qv,HMR.out];simp [ME.out,q3]);clear q3 hq e1;obtain⟨p0,p1,p2,p3,p4,p5,p6,p7,p8,p9,p10,p11,p12,p13⟩:=HX.out.mod;obtain⟨q0,q1,q2,q3,q4,q5,q6,q7,q8,q9,q10,Ol,q12,q13⟩:=HX.out.tk;obtain⟨g0,g1,g2,g3,g4,g5,g6,g7,g8,g9,Ld,Le,Lf,Lg⟩:=HMC.out.mod;go_wp2_with fail;have hx:=(HX.out.nY ⟨.slice a0 m.types.length k0, .slice a1 m.imports.length k1, .slice a2 m.funcs.length k2, .slice a3 m.globals.length k3, .slice a4 m.ea.length k4, .slice a5 m.elems.length k5, .slice a6 m.ej.length k6, .slice a7 m.eC.length k7⟩ m).mh;have Kz:=kA w2 w.heap.size ⟨.slice a0 m.types.length k0, .slice a1 m.imports.length k1, .slice a2 m.funcs.length k2, .slice a3 m.globals.length k3, .slice a4 m.ea.length k4, .slice a5 m.elems.length k5, .slice a6 m.ej.length k6, .slice a7 m.eC.length k7⟩ m;refine aM (fe rfl _ _ rfl hx) rfl ?_;exact⟨Lb.out.trans (Kz.below Lb.out.size (fun i hi=>by omega)), .inl ⟨_,m,HD.out,rfl,ep.ext (ep.ext OQ.out (nx Kz (fun i hi=> .inl (by omega)) (.inl (ag _)))) (tV _ (by omega)),HWD.out⟩⟩
     ·have hq:(fB m==l)=false:=by simp [q3]
      rw [hq];have HD:=V (show qv l=none by rw [qv,HMR.out];simp [q3]);clear q3 hq e1;obtain⟨p0,p1,p2,p3,p4,p5,p6,p7,p8,p9,p10,p11,p12,p13⟩:=HX.out.mod;obtain⟨q0,q1,q2,q3,q4,q5,q6,q7,q8,q9,q10,Ol,q12,q13⟩:=HX.out.tk;go_wp2_with fail;have hx:=(HX.out.nY u0 m0).mh;have Kz:=kA w2 w.heap.size u0 m0;refine aM (fe rfl _ _ rfl hx) rfl ?_;exact⟨Lb.out.trans (Kz.below Lb.out.size (fun i hi=>by omega)), .inr ⟨HD.out,by rw [aC (by omega)];rfl⟩⟩
   | cons c rest=>
    obtain⟨L,hL⟩:∃L,L=c::rest:=⟨_,rfl⟩;have Pj:0 < L.length:=by rw [hL];simp
    have HBV:=V (show nc (some L)=c by rw [hL];rfl);have HBN:=V (show ei eZ (some L)=some rest by rw [hL];rfl);have HL:=V hL;have O8:=c.toNat_lt;rw [<- hL]at c0 K5 hlen hlb K0;have g1:decide ((0:Int) < (L.length:Int))=true:=aA (by omega);have g2:decide (0 < L.length)=true:=aA Pj;have HLEN:=V hlen;have HHR:=V (show fm w w1 (w.heap.size+1+1) (some L)from K5.out);clear hL hlen;go_wp2_with fail;refine(iZ w w1 _ _ K5.out).mono ?_;rintro e w2 ⟨rfl,h2,KB⟩;rw [HBN.out]at h2;rw [HBV.out];have K5:=V h2;have Pv:=V (Pv.out.keeps KB (fun i hi=> .inl (by omega)) (by omega));have HX:=V (HX.out.keeps KB (by omega));have Lb:=V (Lb.out.trans (KB.below Lb.out.size (fun i hi=>by omega)));clear h2 KB c0 c1 g1 g2;go_wp2_with fail;refine(gZ w w2 _ _ K5.out).mono ?_;rintro e w3 ⟨rfl,h2,KB⟩;have K5:=V h2;have Pv:=V (Pv.out.keeps KB (fun i hi=> .inl (by omega)) (by omega));have HX:=V (HX.out.keeps KB (by omega));have Lb:=V (Lb.out.trans (KB.below Lb.out.size (fun i hi=>by omega)));clear h2 KB;go_wp2_with fail;refine(zD w w3 _ _ (w.heap.size+3) c.toNat _ u m K5.out Pv.out (by omega) (by omega) (by omega)).mono ?_;rintro e w4 ⟨u',m',rfl,hmd,hw,h2,KB⟩;have K5:=V h2;have Pv:=V hmd;have HW:=V hw;have HX:=V (HX.out.keeps KB (by omega));have Lb:=V (Lb.out.trans (KB.below Lb.out.size (fun i hi=>by omega)));clear h2 KB hmd hw;go_wp2_with fail;obtain⟨f2,rfl⟩:∃f2,f'=f2+1:=⟨f' - 1,by have:=HLEN.out;simp only [fZ.len]at this;omega⟩;have Qk:=(C4 c.toNat m).len (ei fU (some rest));have hl2:=(iM.lO kS).len (some rest);have hl3:L.length=rest.length+1:=by rw [HL.out];rfl
    have hl4:=HLEN.out;have hl5:fZ.len (some rest)=rest.length+1:=rfl;have hl6:fZ.len (some L)=L.length+1:=rfl;have hl7:=aW Qk hl2;rw [hl5]at hl7;rw [hl6]at hl4;have hl8:=aW hl7 (show rest.length+1 <=f2 by omega);refine HR.out _ _ ⟨u',m',ei (jL c.toNat m) (ei fU (some rest)),f2,rfl,?_,hl8,K5.out,Pv.out,HX.out,Lb.out⟩ ?_
    ·rw [K0.out,HL.out]
     exact Cq HW.out
    ·rw [K5.out.left,HHR.out.left]
     exact Nat.lt_of_le_of_lt hl7 (show rest.length+1 < fZ.len (some L)by rw [hl6];omega)
theorem eG.rws {α:Type} {k:Nat} {enc:α ->List Value} {w:World} {X:Nat} {xs:Array Value} {t:TypeId} (h:eG w X xs t) (hk:∀x,(enc x).length=k) (l:List α) (rest:List Value) (hx:xs.toList=l.flatMap enc++rest) (cap:Nat) (hc:l.length <=cap) (hm:cap <=maxLen):
  eg k enc w (.slice (some ⟨X,0,none⟩) l.length cap) l:=by
 refine⟨_,cap,rfl,hc,hm,fun i x hi=>⟨X,0,rfl,h.lt,fun j v hj=>?_⟩⟩;rw [h.cell, <- cA,hx,bW];have hjk:j < k:=by
  rw [<- hk x];exact(aN.1 hj).1
 have hg:=qJ hk l i x j hi hjk;rw [bu (by rw [hj]at hg;exact(aN.1 hg).1),hg,hj]
theorem eG.deep {α β:Type} {k:Nat} {enc:α × β ->List Value} {inner:World ->α ->β ->Prop} {w:World} {X:Nat} {xs:Array Value} {t:TypeId} (h:eG w X xs t) (hk:∀x,(enc x).length=k) (l:List α) (us:List β) (hl:us.length=l.length) (rest:List Value) (hx:xs.toList=(l.zip us).flatMap enc++rest) (cap:Nat) (hc:l.length <=cap) (hm:cap <=maxLen)
  (hi:∀(i:Nat) (x:α) (u:β),l[i]?=some x ->us[i]?=some u ->inner w x u):
  ee k enc inner w (.slice (some ⟨X,0,none⟩) l.length cap) l:=by
 have hz:(l.zip us).length=l.length:=by rw [bG,hl,bZ]
 have:=h.rws hk (l.zip us) rest hx cap (by omega) hm;rw [hz]at this;exact⟨us,hl,this,hi⟩
def oR (w:World) (os:List Obj):World:=os.foldl World.alloc w
theorem oE (w:World) (os:List Obj):Below w.heap.size w (oR w os)/\(oR w os).heap.size=w.heap.size+os.length:=by
 unfold oR
 induction os generalizing w with
 | nil=>exact⟨an _ _,rfl⟩
 | cons o os ih=>
  obtain⟨h1,h2⟩:=ih (w.alloc o);refine⟨((an w.heap.size w).alloc (ag _) o).trans (h1.mono (by simp)),?_⟩;rw [List.foldl_cons,h2];simp;omega
theorem uj (w:World) (os:List Obj) (i:Nat) (xs:Array Value) (t:TypeId) (h:os[i]?=some (.cells xs t)):eG (oR w os) (w.heap.size+i) xs t:=by
 induction os generalizing w i with
 | nil=>simp at h
 | cons o os ih=>
  cases i with
  | zero=>
   simp only [aF,aX]at h;subst h;exact(eG.new w xs t).below (oE _ os).1 (by simp)
  | succ i=>
   have:=ih (w.alloc o) i h;rw [aE]at this;rw [show w.heap.size+(i+1)=w.heap.size+1+i by omega];exact this
theorem vi (x:Int):(fb x).length=1:=rfl
theorem JE (x:gr × Value × Value):(rP x).length=2:=rfl
theorem I7 (x:gF × Value × Value):(rH x).length=2:=rfl
theorem Jx (x:iC):(qK x).length=2:=rfl
theorem J5 (x:jh):(sF x).length=3:=rfl
theorem J0 (x:ja):(sG x).length=3:=rfl
theorem Ka (x:iS × Value):(tF x).length=2:=rfl
theorem J1 (x:eK × Value):(pI x).length=4:=rfl
def gX:List eK:=[⟨32,0,0,[]⟩,⟨32,1,0,[]⟩,⟨106,0,0,[]⟩]
def ns:ByteArray:=⟨#[97,100,100]⟩
def fg (fn:Int) (body:List eK):ez:=⟨[⟨[1,1],[1]⟩],[],[0],⟨false,0,0⟩,⟨false,0,0⟩,[],[⟨ns,fn⟩],[],[⟨[],body⟩],[]⟩
def rowAt (X n cap:Nat):Value:= .slice (some ⟨X,0,none⟩) n cap
def ia (B:Nat):eD:=⟨rowAt (B+3) 1 1, .slice none 0 0,rowAt (B+4) 1 1, .slice none 0 0,rowAt (B+5) 1 1, .slice none 0 0,rowAt (B+7) 1 1, .slice none 0 0⟩
def kq (l:List eK):List Value:=l.flatMap fun x=>[.int .i64 x.op, .int .i64 x.a, .int .i64 x.b, .slice none 0 0]
def gw (w:World) (B:Nat) (fn:Int) (bs:Value):Prop:=
 (eG w (B+1) #[.int .i64 1, .int .i64 1] 3/\eG w (B+2) #[.int .i64 1] 3/\eG w (B+3) #[rowAt (B+1) 2 2,rowAt (B+2) 1 1] 109)/\
 eG w (B+4) #[.int .i64 0] 3/\eG w (B+5) #[.string ns, .int .i64 fn] 111/\
 eG w (B+6) (kq gX).toArray 27/\eG w (B+7) #[.slice none 0 0,bs] 69
theorem gw.below {w w':World} {B:Nat} {fn:Int} {bs:Value} (h:gw w B fn bs) (hb:Below w.heap.size w w'):gw w' B fn bs:=by
 obtain⟨⟨h1,h2,h3⟩,h4,h5,h6,h7⟩:=h;exact⟨⟨h1.below hb h1.lt,h2.below hb h2.lt,h3.below hb h3.lt⟩,h4.below hb h4.lt,h5.below hb h5.lt,h6.below hb h6.lt,h7.below hb h7.lt⟩
theorem gw.setBody {w:World} {B:Nat} {fn:Int} {bs:Value} (h:gw w B fn bs) (v:Value):gw (w.setCell ⟨B+7,1,none⟩ v) B fn v:=by
 obtain⟨⟨h1,h2,h3⟩,h4,h5,h6,h7⟩:=h;exact⟨⟨h1.other _ _ (by simp;try omega),h2.other _ _ (by simp;try omega),h3.other _ _ (by simp;try omega)⟩,h4.other _ _ (by simp;try omega),h5.other _ _ (by simp;try omega),h6.other _ _ (by simp;try omega),h7.set 1 v⟩
theorem gw.Ie {w:World} {B:Nat} {fn:Int} {bs:Value} (h:gw w B fn bs) (x:Int):gw (w.setCell ⟨B+5,1,none⟩ (.int .i64 x)) B x bs:=by
 obtain⟨⟨h1,h2,h3⟩,h4,h5,h6,h7⟩:=h;exact⟨⟨h1.other _ _ (by simp;try omega),h2.other _ _ (by simp;try omega),h3.other _ _ (by simp;try omega)⟩,h4.other _ _ (by simp;try omega),h5.set 1 _,h6.other _ _ (by simp;try omega),h7.other _ _ (by simp;try omega)⟩
theorem gw.other {w:World} {B X o:Nat} {fn:Int} {bs:Value} (h:gw w B fn bs) (v:Value) (hX:X <=B\/B+8 <=X):gw (w.setCell ⟨X,o,none⟩ v) B fn bs:=by
 obtain⟨⟨h1,h2,h3⟩,h4,h5,h6,h7⟩:=h;exact⟨⟨h1.other _ _ (by simp;omega),h2.other _ _ (by simp;omega),h3.other _ _ (by simp;omega)⟩,h4.other _ _ (by simp;omega),h5.other _ _ (by simp;omega),h6.other _ _ (by simp;omega),h7.other _ _ (by simp;omega)⟩
theorem uE (l:List eK):kq l=(l.zip (l.map fun _=>Value.slice none 0 0)).flatMap pI:=by
 unfold kq
 induction l with
 | nil=>rfl
 | cons x l ih=>
  rw [bP,bA,List.zip_cons_cons,bP,ih];rfl
def qs (l:List eK):Prop:=∀x∈l,x.l=[]/\iI x.op/\iI x.a/\iI x.b
theorem qW (w:World) (l:List eK) (hl:qs l) (i:Nat) (x:eK) (u:Value) (hx:l[i]?=some x) (hu:(l.map fun _=>Value.slice none 0 0)[i]?=some u):gN w x u:=by
 rw [cQ,hx]at hu;injection hu with hu;obtain⟨h0,h1,h2,h3⟩:=hl x (aO hx);subst hu;refine⟨?_,h1,h2,h3,?_⟩
 ·rw [h0]
  exact eg.nil w
 ·rw [h0]
  simp
theorem eG.body {w:World} {X:Nat} {t:TypeId} {xs:Array Value} (h:eG w X xs t) (l:List eK) (rest:List Value) (hx:xs.toList=kq l++rest) (hl:qs l) (cap:Nat) (hc:l.length <=cap) (hm:cap <=maxLen):
  gd w (rowAt X l.length cap) l:=
 h.deep J1 l (l.map fun _=> .slice none 0 0) (by simp) rest (by rw [hx,uE]) cap hc hm (qW w l hl)
theorem yJ:qs gX:=by
 intro x hx;simp [gX]at hx;rcases hx with rfl | rfl | rfl <;>simp [iI]
theorem gw.body {w:World} {B:Nat} {fn:Int} {bs:Value} (h:gw w B fn bs) (n:Nat) (hn:n <=3):gd w (rowAt (B+6) n 3) (gX.take n):=by
 have hl:(gX.take n).length=n:=by
  rw [aS];show min n 3=n;omega
 have:=h.2.2.2.1.body (gX.take n) (kq (gX.drop n)) (by
  unfold kq;rw [<- List.flatMap_append,cB]) (fun x hx=>yJ x (cD hx)) 3 (by omega) (by decide)
 rwa [hl]at this
theorem gw.is {w:World} {B:Nat} {fn:Int} {bs:Value} (h:gw w B fn bs) {body:List eK} (hb:gd w bs body) (hf:iI fn):ep w (ia B) (fg fn body):=by
 obtain⟨⟨h1,h2,h3⟩,h4,h5,h6,h7⟩:=h;refine⟨?_,eg.nil w,?_,eg.nil w,?_,ee.nil w,?_,ee.nil w,?_⟩
 ·refine h3.deep JE [⟨[1,1],[1]⟩] [(rowAt (B+1) 2 2,rowAt (B+2) 1 1)] rfl [] rfl 1 (ag _) (by decide) ?_
  intro i x u hx hu;cases i with
  | zero=>
   injection hx with hx;injection hu with hu;subst hx hu;exact⟨⟨h1.rws vi [1,1] [] rfl 2 (ag _) (by decide),h2.rws vi [1] [] rfl 1 (ag _) (by decide)⟩,by simp [gr.ok,iI]⟩
  | succ i=>simp at hx
 ·exact h4.rws vi [0] [] rfl 1 (ag _) (by decide)
 ·exact h5.rws Jx [⟨ns,fn⟩] [] rfl 1 (ag _) (by decide)
 ·refine h7.deep I7 [⟨[],body⟩] [(.slice none 0 0,bs)] rfl [] rfl 1 (ag _) (by decide) ?_
  intro i x u hx hu;cases i with
  | zero=>
   injection hx with hx;injection hu with hu;subst hx hu;exact⟨⟨eg.nil w,hb⟩,by simp⟩
  | succ i=>simp at hx
 ·refine⟨by simp [fg],by simp [fg,iI],by simp [fg,fP.ok,iI],by simp [fg,fP.ok,iI],by simp [fg],?_⟩
  simpa [fg] using hf
def DT (w:World) (e:Ending) (w':World):Prop:=e= .returned (.agg ((ia w.heap.size).cells (fg 0 gX)))/\gw w' w.heap.size 0 (rowAt (w.heap.size+6) 3 3)/\Below w.heap.size w w'/\w'.heap.size=w.heap.size+8
def pE (B:Nat):List Obj:=[Obj.cells ((ia B).cells (fg 0 gX)) 62,Obj.cells #[.int .i64 1, .int .i64 1] 3,Obj.cells #[.int .i64 1] 3,Obj.cells #[rowAt (B+1) 2 2,rowAt (B+2) 1 1] 109,Obj.cells #[.int .i64 0] 3,Obj.cells #[.string ns, .int .i64 0] 111,Obj.cells (kq gX).toArray 27,Obj.cells #[.slice none 0 0,rowAt (B+6) 3 3] 69]
theorem iK (w:World):Calls prog 10 #[] w (DT w):=by
 go_enter func10,ntmps10;go_wp2_with fail;have H:=oE w (pE w.heap.size);have G:=uj w (pE w.heap.size);have g:eG (oR w (pE w.heap.size)) w.heap.size ((ia w.heap.size).cells (fg 0 gX)) 62:=G 0 _ _ rfl;have HS:gw (oR w (pE w.heap.size)) w.heap.size 0 (rowAt (w.heap.size+6) 3 3):=
  ⟨⟨G 1 _ _ rfl,G 2 _ _ rfl,G 3 _ _ rfl⟩,G 4 _ _ rfl,G 5 _ _ rfl,G 6 _ _ rfl,G 7 _ _ rfl⟩
 refine aM (ey rfl _ _ rfl g.mh) rfl ?_;exact⟨rfl,HS,H.1,H.2⟩
def wQ (l:List UInt8):ByteArray:=⟨l.toArray⟩
def eQ (body:List eK):ez:=⟨[⟨[],[]⟩,⟨[],[]⟩,⟨[1],[1]⟩,⟨[2,1],[2]⟩],[⟨wQ [119],wQ [102],2⟩,⟨wQ [119],wQ [103],1⟩],[0,3],⟨true,4,-1⟩,⟨true,1,3⟩,[⟨true,⟨1,0⟩⟩,⟨false,⟨2,5⟩⟩],[⟨wQ [109,97,105,110],2⟩],[⟨0,[0,2,3]⟩],[⟨[],body⟩,⟨[],[⟨32,0,0,[]⟩]⟩],[]⟩
def rk (B:Nat):eD:=⟨rowAt (B+6) 4 4,rowAt (B+7) 2 2,rowAt (B+8) 2 2,rowAt (B+9) 2 2,rowAt (B+10) 1 1,rowAt (B+12) 1 1,rowAt (B+14) 2 2, .slice none 0 0⟩
def nB (w:World) (B:Nat) (bs:Value):Prop:=
 (eG w (B+2) #[.int .i64 1] 3/\eG w (B+3) #[.int .i64 1] 3/\eG w (B+4) #[.int .i64 2, .int .i64 1] 3/\eG w (B+5) #[.int .i64 2] 3/\
  eG w (B+6) #[.slice none 0 0, .slice none 0 0, .slice none 0 0, .slice none 0 0,rowAt (B+2) 1 1,rowAt (B+3) 1 1,rowAt (B+4) 2 2,rowAt (B+5) 1 1] 109)/\
 (eG w (B+7) #[.string (wQ [119]), .string (wQ [102]), .int .i64 2, .string (wQ [119]), .string (wQ [103]), .int .i64 1] 118/\eG w (B+8) #[.int .i64 0, .int .i64 3] 3/\
  eG w (B+9) #[.bool true, .int .i64 1, .int .i64 0, .bool false, .int .i64 2, .int .i64 5] 120/\eG w (B+10) #[.string (wQ [109,97,105,110]), .int .i64 2] 111)/\
 (eG w (B+11) #[.int .i64 0, .int .i64 2, .int .i64 3] 3/\eG w (B+12) #[.int .i64 0,rowAt (B+11) 3 3] 95)/\
 eG w (B+13) #[.int .i64 32, .int .i64 0, .int .i64 0, .slice none 0 0] 27/\eG w (B+14) #[.slice none 0 0,bs, .slice none 0 0,rowAt (B+13) 1 1] 69
theorem nB.below {w w':World} {B:Nat} {bs:Value} (h:nB w B bs) (hb:Below w.heap.size w w'):nB w' B bs:=by
 obtain⟨⟨h1,h2,h3,h4,h5⟩,⟨h6,h7,h8,h9⟩,⟨h10,h11⟩,MR,h13⟩:=h;exact⟨⟨h1.below hb h1.lt,h2.below hb h2.lt,h3.below hb h3.lt,h4.below hb h4.lt,h5.below hb h5.lt⟩,⟨h6.below hb h6.lt,h7.below hb h7.lt,h8.below hb h8.lt,h9.below hb h9.lt⟩,⟨h10.below hb h10.lt,h11.below hb h11.lt⟩,MR.below hb MR.lt,h13.below hb h13.lt⟩
theorem nB.setBody {w:World} {B:Nat} {bs:Value} (h:nB w B bs) (v:Value):nB (w.setCell ⟨B+14,1,none⟩ v) B v:=by
 obtain⟨⟨h1,h2,h3,h4,h5⟩,⟨h6,h7,h8,h9⟩,⟨h10,h11⟩,MR,h13⟩:=h;exact⟨⟨h1.other _ _ (by simp),h2.other _ _ (by simp),h3.other _ _ (by simp),h4.other _ _ (by simp),h5.other _ _ (by simp)⟩,⟨h6.other _ _ (by simp),h7.other _ _ (by simp),h8.other _ _ (by simp),h9.other _ _ (by simp)⟩,⟨h10.other _ _ (by simp),h11.other _ _ (by simp)⟩,MR.other _ _ (by simp),h13.set 1 v⟩
theorem nB.is {w:World} {B:Nat} {bs:Value} (h:nB w B bs) {body:List eK} (hb:gd w bs body):ep w (rk B) (eQ body):=by
 obtain⟨⟨h1,h2,h3,h4,h5⟩,⟨h6,h7,h8,h9⟩,⟨h10,h11⟩,MR,h13⟩:=h;refine⟨?_,h6.rws J5 [⟨wQ [119],wQ [102],2⟩,⟨wQ [119],wQ [103],1⟩] [] rfl 2 (ag _) (by decide),h7.rws vi [0,3] [] rfl 2 (ag _) (by decide),h8.rws J0 [⟨true,⟨1,0⟩⟩,⟨false,⟨2,5⟩⟩] [] rfl 2 (ag _) (by decide),h9.rws Jx [⟨wQ [109,97,105,110],2⟩] [] rfl 1 (ag _) (by decide),?_,?_,ee.nil w,?_⟩
 ·refine h5.deep JE [⟨[],[]⟩,⟨[],[]⟩,⟨[1],[1]⟩,⟨[2,1],[2]⟩] [(.slice none 0 0, .slice none 0 0),(.slice none 0 0, .slice none 0 0),(rowAt (B+2) 1 1,rowAt (B+3) 1 1),(rowAt (B+4) 2 2,rowAt (B+5) 1 1)] rfl [] rfl 4 (ag _) (by decide) ?_
  intro i x u hx hu
  match i,hx,hu with
  | 0,hx,hu=>
   injection hx with hx;injection hu with hu;subst hx hu;exact⟨⟨eg.nil w,eg.nil w⟩,by simp [gr.ok]⟩
  | 1,hx,hu=>
   injection hx with hx;injection hu with hu;subst hx hu;exact⟨⟨eg.nil w,eg.nil w⟩,by simp [gr.ok]⟩
  | 2,hx,hu=>
   injection hx with hx;injection hu with hu;subst hx hu;exact⟨⟨h1.rws vi [1] [] rfl 1 (ag _) (by decide),h2.rws vi [1] [] rfl 1 (ag _) (by decide)⟩,by simp [gr.ok,iI]⟩
  | 3,hx,hu=>
   injection hx with hx;injection hu with hu;subst hx hu;exact⟨⟨h3.rws vi [2,1] [] rfl 2 (ag _) (by decide),h4.rws vi [2] [] rfl 1 (ag _) (by decide)⟩,by simp [gr.ok,iI]⟩
  | i+4,hx,hu=>simp at hx
 ·refine h11.deep Ka [⟨0,[0,2,3]⟩] [rowAt (B+11) 3 3] rfl [] rfl 1 (ag _) (by decide) ?_
  intro i x u hx hu
  match i,hx,hu with
  | 0,hx,hu=>
   injection hx with hx;injection hu with hu;subst hx hu;exact⟨h10.rws vi [0,2,3] [] rfl 3 (ag _) (by decide),by simp [iS.ok,iI]⟩
  | i+1,hx,hu=>simp at hx
 ·refine h13.deep I7 [⟨[],body⟩,⟨[],[⟨32,0,0,[]⟩]⟩] [(.slice none 0 0,bs),(.slice none 0 0,rowAt (B+13) 1 1)] rfl [] rfl 2 (ag _) (by decide) ?_
  intro i x u hx hu
  match i,hx,hu with
  | 0,hx,hu=>
   injection hx with hx;injection hu with hu;subst hx hu;exact⟨⟨eg.nil w,hb⟩,by simp⟩
  | 1,hx,hu=>
   injection hx with hx;injection hu with hu;subst hx hu;exact⟨⟨eg.nil w,MR.body [⟨32,0,0,[]⟩] [] rfl (by simp [qs,iI]) 1 (ag _) (by decide)⟩,by simp⟩
  | i+2,hx,hu=>simp at hx
 ·refine⟨by simp [eQ,iI],by simp [eQ,iI],by simp [eQ,fP.ok,iI],by simp [eQ,fP.ok,iI],by simp [eQ,fa.ok],by simp [eQ,iI]⟩
def qE (B:Nat):List Obj:=[Obj.cells ((rk B).cells (eQ [])) 62,Obj.cells #[.slice none 0 0, .slice none 0 0] 109,Obj.cells #[.int .i64 1] 3,Obj.cells #[.int .i64 1] 3,Obj.cells #[.int .i64 2, .int .i64 1] 3,Obj.cells #[.int .i64 2] 3,
 Obj.cells #[.slice none 0 0, .slice none 0 0, .slice none 0 0, .slice none 0 0,rowAt (B+2) 1 1,rowAt (B+3) 1 1,rowAt (B+4) 2 2,rowAt (B+5) 1 1] 109,
 Obj.cells #[.string (wQ [119]), .string (wQ [102]), .int .i64 2, .string (wQ [119]), .string (wQ [103]), .int .i64 1] 118,Obj.cells #[.int .i64 0, .int .i64 3] 3,
 Obj.cells #[.bool true, .int .i64 1, .int .i64 0, .bool false, .int .i64 2, .int .i64 5] 120,Obj.cells #[.string (wQ [109,97,105,110]), .int .i64 2] 111,
 Obj.cells #[.int .i64 0, .int .i64 2, .int .i64 3] 3,Obj.cells #[.int .i64 0,rowAt (B+11) 3 3] 95,
 Obj.cells #[.int .i64 32, .int .i64 0, .int .i64 0, .slice none 0 0] 27,Obj.cells #[.slice none 0 0, .slice none 0 0, .slice none 0 0,rowAt (B+13) 1 1] 69]
def Gi (w:World) (e:Ending) (w':World):Prop:=e= .returned (.agg ((rk w.heap.size).cells (eQ [])))/\nB w' w.heap.size (.slice none 0 0)/\Below w.heap.size w w'/\w'.heap.size=w.heap.size+15
theorem sB (w:World):Calls prog 16 #[.slice none 0 0, .int .i64 0] w (Gi w):=by
 go_enter func16,ntmps16;go_wp2_with fail;refine cU 1 ?_;rw [cN];go_wp2_with fail;have H:=oE w (qE w.heap.size);have G:=uj w (qE w.heap.size);have g:eG (oR w (qE w.heap.size)) w.heap.size ((rk w.heap.size).cells (eQ [])) 62:=G 0 _ _ rfl;have HS:nB (oR w (qE w.heap.size)) w.heap.size (.slice none 0 0):=
  ⟨⟨G 2 _ _ rfl,G 3 _ _ rfl,G 4 _ _ rfl,G 5 _ _ rfl,G 6 _ _ rfl⟩,⟨G 7 _ _ rfl,G 8 _ _ rfl,G 9 _ _ rfl,G 10 _ _ rfl⟩,⟨G 11 _ _ rfl,G 12 _ _ rfl⟩,G 13 _ _ rfl,G 14 _ _ rfl⟩
 refine aM (ey rfl _ _ rfl g.mh) rfl ?_;exact⟨rfl,HS,H.1,H.2⟩
def rC (C:Nat) (w:World):World:=mask (fun k=>k==C) w
theorem pD {C:Nat} {w w':World} (h:dU (fun i=>i=C) w w'):Ext (rC C w) (rC C w'):=iE h (fun _ _ hk=>by simp [hk]) (fun _ _ hk=>hk)
theorem wT {C:Nat} {w w':World} (h:Below w.heap.size w w'):Ext (rC C w) (rC C w'):=iE (dU.dW (S:=fun _=>False) h) (fun _ _ hk=>hk.elim) (fun _ _ hk=>hk)
theorem sP {C:Nat} {w w':World} (h:dU (fun i=>i=C) w w'):Ext (rC C w) w':=rM h (fun _ _ hk=>by simp [hk])
theorem ym (C:Nat) (w:World):Ext (rC C w) w:=sP (dU.refl _ _)
theorem BY {α:Type} {t:TypeId} {k:Nat} {enc:α ->List Value} (hk:∀x,(enc x).length=k) {w:World} {B C:Nat} {v:Value} {l:List α} (h:dT t k enc w B v l) (hB:C < B):eg k enc (rC C w) v l:=
 (dT.mask h (fun b hb=>by
  have:b≠C:=by omega
  simp [this])).fy hk
theorem lP {P:Program} (w:World) {ops:Array Oper} {rest:List Oper} {o:Oper} {a:Act} {Q:Exit ->Act ->World ->Prop} (N0:o.guard=none) (s x:Operand)
  (hP:P=prog) (ho:o.op= .call {callee:= .builtin .append,args:=#[s,x],argTypes:=#[25,25]})
  (B:Nat) (v:Value) (l:List Int) (hs:a.eval s=v) (Ku:dT 3 1 fb w B v l)
  (b:Value) (m:List Int) (hx:a.eval x=b) (hm:eg 1 fb w b m)
  (OI:l.length+m.length <=1000000) (K3:B <=w.heap.size)
  (h:∀v' w',dT 3 1 fb w' B v' (l++m) ->dU (eA v) w w' ->eE w v v' ->wpList P ops Q rest (a.put o.dst v') w'):wpList P ops Q (o::rest) a w:=by
 subst hP;cases m with
 | cons y m=>
  have hm':=hm;obtain⟨ad,cap,rfl,Mj,Lj,hc3⟩:=hm';obtain⟨b,off,rfl,_⟩:=hc3 0 y rfl;exact kG w N0 s x 25 ho _ 8 (by kernel_rfl) jF rfl (by decide) (by decide) B v l hs Ku fw (y::m) ⟨b,off,none⟩ (y::m).length cap hx hm (fun z _=>BF z) OI K3 h
 | nil=>
  obtain⟨i0,hi,M5,LR,Mz⟩:=bX jF;obtain⟨ad,cap,rfl,Mj,Lj,hc3⟩:=hm;have key:∃v' w',(Builtin.append_ #[25,25] o.type #[v, .slice ad 0 cap]).run prog w= .ok v' w'/\dT 3 1 fb w' B v' (l++[])/\dU (eA v) w w'/\eE w v v':=by
   cases ad with
   | some ad=>
    obtain⟨v',w',h1,h2,h3,h4⟩:=sU (P:=prog) w B 25 o.type 3 i0 (.int .i64 0) 1 8 (by kernel_rfl) hi M5 LR Mz rfl (by decide) v l.length (l.flatMap fb) Ku ad 0 cap [] rfl (by simp) (by simp) (by simp only [aK]at OI;simp only [maxLen];omega) (by simp only [aK]at OI;omega) K3;exact⟨v',w',h1,by simpa [dT] using h2,h3,h4⟩
   | none=>
    have ht:prog.underlying 25=some (.slice 3):=by kernel_rfl
    rcases Ku.2 with⟨rfl,h0⟩ | ⟨g,KR,cur,rfl,hb,hg,hn,hm,hs,Oa⟩
    ·refine⟨.slice none 0 0,w,?_,by simpa using Ku,dU.refl _ _,eE.refl _ _⟩
     simp [Builtin.append_,bp ht,sizeOf,typeInfo,hi,Builtin.lenOf,Builtin.firstCells]
    ·refine⟨.slice (some ⟨g,0,none⟩) l.length KR,w,?_,by simpa using Ku,dU.refl _ _,eE.refl _ _⟩
     simp [Builtin.append_,bp ht,sizeOf,typeInfo,hi,Builtin.lenOf,Builtin.firstCells,hn];simp [storeCells]
  obtain⟨v',w',hr,h2,h3,h4⟩:=key;refine dN N0 fun _ hK=>?_;unfold Oper.wp execOp;simp only [ho,resolve,invoke,builtin,cK,cd,cz,du,bA,cS,hs,hx,hr,aK];exact hK _ _ (h v' w' h2 h3 h4)
def sQ (u:eD) (m:ez) (lv v v':Value) (bad:Bool):Array Value:=
 #[u.types,u.imports,u.funcs, .bool m.table.has, .int .i64 m.table.min, .int .i64 m.table.max, .bool m.mem.has, .int .i64 m.mem.min, .int .i64 m.mem.max,u.globals,u.ea,u.elems,u.ej,u.eC,lv,v,v', .bool bad]
def gm (w1:World) (C:Nat) (u:eD) (m:ez) (lv:Value) (w:World) (c:eI):Prop:=
 ∃v v',eG w C (sQ u m lv v v' c.bad) 181/\dT 3 1 fb w w1.heap.size v c.dZ/\dT 186 4 xB w w1.heap.size v' c.eS/\dU (fun i=>i=C) w1 w/\C < w1.heap.size
theorem gm.below {w1 w w':World} {C:Nat} {u:eD} {m:ez} {lv:Value} {c:eI} (h:gm w1 C u m lv w c) (hb:Below w.heap.size w w'):gm w1 C u m lv w' c:=by
 obtain⟨v,v',h1,h2,h3,h4,h5⟩:=h;exact⟨v,v',h1.below hb h1.lt,h2.below hb,h3.below hb,h4.trans (dU.dW (S:=fun _=>False) hb) (fun _ h=>h.elim),h5⟩
theorem gm.drew {w1 w:World} {C:Nat} {u:eD} {m:ez} {lv:Value} {c:eI} (h:gm w1 C u m lv w c):gm w1 C u m lv w.drew c:=by
 obtain⟨v,v',h1,h2,h3,h4,h5⟩:=h;exact⟨v,v',h1.drew,h2,h3,h4.drew,h5⟩
theorem gm.alloc {w1 w:World} {C:Nat} {u:eD} {m:ez} {lv:Value} {c:eI} (h:gm w1 C u m lv w c) (o:Obj):gm w1 C u m lv (w.alloc o) c:=h.below ((an _ _).alloc (ag _) o)
theorem gm.lt {w1 w:World} {C:Nat} {u:eD} {m:ez} {lv:Value} {c:eI} (h:gm w1 C u m lv w c):C < w.heap.size/\C < w1.heap.size/\w1.heap.size <=w.heap.size:=by
 obtain⟨v,v',h1,h2,h3,h4,h5⟩:=h;exact⟨h1.lt,h5,h4.size⟩
theorem gm.old {w1 w:World} {C:Nat} {u:eD} {m:ez} {lv:Value} {c:eI} (h:gm w1 C u m lv w c):dU (fun i=>i=C) w1 w:=by
 obtain⟨v,v',h1,h2,h3,h4,h5⟩:=h;exact h4
def BE (w1:World) (C:Nat) (u:eD) (m:ez) (lv:Value) (val:Value) (c:eI) (w:World) (e:Ending) (w':World):Prop:=e= .returned val/\gm w1 C u m lv w' c/\dU (fun i=>i=C) w w'/\w'.cell? ⟨C,16,none⟩=w.cell? ⟨C,16,none⟩
def nC (w1:World) (C:Nat) (u:eD) (m:ez) (lv:Value) (val:Value) (c:eI) (e:Ending) (w':World):Prop:=e= .returned val/\gm w1 C u m lv w' c
theorem jJ (w1:World) (C:Nat) (u:eD) (m:ez) (lv:Value) (w:World) (c:eI) (ok:Bool) (h:gm w1 C u m lv w c):
  Calls prog 196 #[.pointer (some ⟨C,0,none⟩), .bool ok] w (BE w1 C u m lv (.tuple #[]) (c.need ok) w):=by
 obtain⟨dZ,eS,bad⟩:=c;obtain⟨v,v',hb,hv,hc,hk,hC⟩:=h;have c17:w.cell? ⟨C,17,none⟩=some (.bool bad):=hb.cell 17;have z17:=hb.free 17;have HB:=V hb;clear hb;simp only at hv hc;cases bad <;>cases ok
 ·skip
  go_enter func196,ntmps196;go_wp2_with fail
  go_end0
  exact⟨rfl,⟨v,v',HB.out.set 17 _,hv.keeps (eu w C 17 _) (fun i hi h=>by have:=(et hv hi).1;omega),hc.keeps (eu w C 17 _) (fun i hi h=>by have:=(et hc hi).1;omega),hk.trans (eu w C 17 _) (fun i hi=> .inl hi),hC⟩,eu w C 17 _,ct _ _ _ _ (by simp)⟩
 ·skip
  go_enter func196,ntmps196;go_wp2_with fail
  go_end0
  exact⟨rfl,⟨v,v',HB.out.set 17 _,hv.keeps (eu w C 17 _) (fun i hi h=>by have:=(et hv hi).1;omega),hc.keeps (eu w C 17 _) (fun i hi h=>by have:=(et hc hi).1;omega),hk.trans (eu w C 17 _) (fun i hi=> .inl hi),hC⟩,eu w C 17 _,ct _ _ _ _ (by simp)⟩
 ·skip
  go_enter func196,ntmps196;go_wp2_with fail
  go_end0
  exact⟨rfl,⟨v,v',HB.out.set 17 _,hv.keeps (eu w C 17 _) (fun i hi h=>by have:=(et hv hi).1;omega),hc.keeps (eu w C 17 _) (fun i hi h=>by have:=(et hc hi).1;omega),hk.trans (eu w C 17 _) (fun i hi=> .inl hi),hC⟩,eu w C 17 _,ct _ _ _ _ (by simp)⟩
 ·skip
  go_enter func196,ntmps196;go_wp2_with fail
  go_end0
  exact⟨rfl,⟨v,v',HB.out.set 17 _,hv.keeps (eu w C 17 _) (fun i hi h=>by have:=(et hv hi).1;omega),hc.keeps (eu w C 17 _) (fun i hi h=>by have:=(et hc hi).1;omega),hk.trans (eu w C 17 _) (fun i hi=> .inl hi),hC⟩,eu w C 17 _,ct _ _ _ _ (by simp)⟩
def Gn (C:Nat) (k:Int) (w:World) (e:Ending) (w':World):Prop:=∃v,e= .returned v/\eg 1 fb (rC C w') v (gK k)/\Below w.heap.size w w'
theorem mS (k:Int) (w:World) (C:Nat) (hC:C < w.heap.size):Calls prog 198 #[.int .i64 k] w (Gn C k w):=by
 by_cases q:k=0
 ·have f1:=eH q
  have HL:Hid (gK k=[]):=V (by simp [gK,q]);clear q;go_enter func198,ntmps198;go_wp2_with fail;go_ret;exact⟨_,rfl,by rw [HL.out];exact eg.nil _,an _ _⟩
 ·have f1:=dS q
  have HL:Hid (gK k=[k]):=V (by simp [gK,q]);clear q;go_enter func198,ntmps198;go_wp2_with fail;go_ret;refine⟨_,rfl,?_,(an _ _).alloc (ag _) _⟩;rw [HL.out];have hx:=eG.new w #[.int .i64 k] 3;refine BY fw (B:=w.heap.size) (t:=3) ⟨by simp [fb], .inr ⟨w.heap.size,1,_,rfl,ag _,hx,by simp,by simp [maxLen],by simp,by simp [fb]⟩⟩ hC
theorem lS (w1:World) (C:Nat) (u:eD) (m:ez) (lv:Value) (w:World) (c:eI) (kv:Value) (l:List Int) (h:gm w1 C u m lv w c) (hl:eg 1 fb (rC C w) kv l) (hn:c.dZ.length+l.length <=100000):
  Calls prog 197 #[.pointer (some ⟨C,0,none⟩),kv] w (nC w1 C u m lv (.tuple #[]) (c.push l)):=by
 obtain⟨dZ,eS,bad⟩:=c;obtain⟨v,v',hb,hv,hc,hk,hC⟩:=h;simp only at hv hc hn hb;obtain⟨av,cv,rfl,-,-⟩:=hv.slice;have NY:w.cell? ⟨C,15,none⟩=some (.slice av dZ.length cv):=hb.cell 15;have z15:=hb.free 15;have HB:=V hb;have HL:=V (hl.ext (ym C w));have Lr:=hk.size;have HV:=V hv;have HC:=V hc;have HK:=V hk;have QT:=V (fun g (hg:eA (.slice av dZ.length cv) g)=>dT.ne hv hc (by decide) g hg);clear hb hl hv hc hk;obtain⟨ak,ck,rfl,-,-,-⟩:=id HL.out;go_enter func197,ntmps197;go_wp2_with (first | (at_builtin;refine lP w rfl _ _ rfl rfl w1.heap.size _ dZ rfl HV.out _ l rfl HL.out (by omega) Lr ?_));intro v2 w2 ho KB KG;obtain⟨a2,c2,rfl,-,-⟩:=ho.slice;have Kx:=HB.out.keeps KB (fun h=>by have:=(et HV.out h).1;omega);have Lj:=HC.out.keeps KB (fun i hi h=>QT.out i h hi);have K7:=HK.out.trans KB (fun i hi=> .inr (et HV.out hi).1);have NY:w2.cell? ⟨C,15,none⟩=some (.slice av dZ.length cv):=Kx.cell 15;have z15:=Kx.free 15;have HB:=V Kx;have HC2:=V Lj;have OW:=V K7;have HO:=V (show dT 3 1 fb w2 w1.heap.size (.slice a2 (dZ.length+l.length) c2) (dZ++l)by rw [<- ah];exact ho);clear Kx Lj K7 ho KB KG;go_wp2_with fail
 go_end0
 exact⟨rfl,⟨_,v',HB.out.set 15 _,HO.out.keeps (eu _ C 15 _) (fun i hi h=>by have:=(et HO.out hi).1;omega),HC2.out.keeps (eu _ C 15 _) (fun i hi h=>by have:=(et HC2.out hi).1;omega),OW.out.trans (eu _ C 15 _) (fun i hi=> .inl hi),hC⟩⟩
theorem qG {α:Type} {l:List α} (h:l≠[]):∃cs t,l=cs++[t]:=⟨l.dropLast,l.getLast h,(da h).symm⟩
theorem mN (dZ:List Int) (cs:List mO) (t:mO) (bad:Bool):eI.top ⟨dZ,cs++[t],bad⟩=t:=by simp [eI.top]
def Aq (C g n cap:Nat) (t:mO) (w:World):Prop:=
 w.cell? ⟨C,16,none⟩=some (.slice (some ⟨g,0,none⟩) (n+1) cap)/\w.cell? ⟨g,n*4,none⟩=some (.int .i64 t.op)/\w.cell? ⟨g,n*4+1,none⟩=some (.int .i64 t.kind)/\w.cell? ⟨g,n*4+2,none⟩=some (.int .i64 t.eM)/\w.cell? ⟨g,n*4+3,none⟩=some (.bool t.dead)
theorem Aq.keeps {C g n cap:Nat} {t:mO} {w w':World} {S:Nat ->Prop} (h:Aq C g n cap t w) (hk:dU S w w') (h1:C < w.heap.size/\¬ S C) (h2:g < w.heap.size/\¬ S g):Aq C g n cap t w':=by
 obtain⟨a,b,c,d,e⟩:=h;exact⟨(hk.cell h1.1 h1.2).trans a,(hk.cell h2.1 h2.2).trans b,(hk.cell h2.1 h2.2).trans c,(hk.cell h2.1 h2.2).trans d,(hk.cell h2.1 h2.2).trans e⟩
theorem Aq.of {w:World} {B C:Nat} {v':Value} {cs:List mO} {t:mO} {xs:Array Value} {T:TypeId} (hb:eG w C xs T) (hx:xs[16]?=some v') (h:dT 186 4 xB w B v' (cs++[t])):
  ∃g cap,v'= .slice (some ⟨g,0,none⟩) (cs.length+1) cap/\cs.length+1 <=cap/\cap <=9223372036854775807/\B <=g/\g < w.heap.size/\Aq C g cs.length cap t w:=by
 obtain⟨g,cap,cur,rfl,OJ,M7,hg3,Lk,hm⟩:=h.open (by simp);have e:(cs++[t]).length=cs.length+1:=by simp
 rw [e]at h Lk;refine⟨g,cap,by rw [e],Lk,by simpa [maxLen] using hm,OJ,M7,?_,?_,?_,?_,?_⟩
 ·rw [hb.cell 16,hx,e]
 ·exact dT.cell jE h (i:=cs.length) (j:=0) (x:=t) (u:= .int .i64 t.op) (by simp) rfl
 ·exact dT.cell jE h (i:=cs.length) (j:=1) (x:=t) (u:= .int .i64 t.kind) (by simp) rfl
 ·exact dT.cell jE h (i:=cs.length) (j:=2) (x:=t) (u:= .int .i64 t.eM) (by simp) rfl
 ·exact dT.cell jE h (i:=cs.length) (j:=3) (x:=t) (u:= .bool t.dead) (by simp) rfl
theorem CR {w:World} {B:Nat} {v:Value} {vs:List Int} {k:Int} (h:dT 3 1 fb w B v (vs++[k])):
  ∃g cap,v= .slice (some ⟨g,0,none⟩) (vs.length+1) cap/\vs.length+1 <=cap/\cap <=9223372036854775807/\B <=g/\g < w.heap.size/\w.cell? ⟨g,vs.length,none⟩=some (.int .i64 k):=by
 obtain⟨g,cap,cur,rfl,OJ,M7,hg3,Lk,hm⟩:=h.open (by simp);have e:(vs++[k]).length=vs.length+1:=by simp
 rw [e]at h Lk;refine⟨g,cap,by rw [e],Lk,by simpa [maxLen] using hm,OJ,M7,?_⟩;have:=dT.cell fw h (i:=vs.length) (j:=0) (x:=k) (u:= .int .i64 k) (by simp) rfl
 rwa [bo,aL]at this
def EG (w:World) (t:mO):World:=(w.alloc (.cells #[.int .i64 t.op, .int .i64 t.kind, .int .i64 t.eM, .bool t.dead] 186)).drew
theorem qB (w:World) (t:mO):Below w.heap.size w (EG w t):=((an w.heap.size w).alloc (ag _) _).drew
theorem uQ (w:World) (t:mO):eG (EG w t) w.heap.size #[.int .i64 t.op, .int .i64 t.kind, .int .i64 t.eM, .bool t.dead] 186:=(eG.new w _ _).drew
theorem BW (w1:World) (C:Nat) (u:eD) (m:ez) (lv:Value) (w:World) (c:eI) (want:Int) (h:gm w1 C u m lv w c) (hn:c.eS≠[]) (hs:c.top.eM <=c.dZ.length):
  Calls prog 195 #[.pointer (some ⟨C,0,none⟩), .int .i64 want] w (BE w1 C u m lv (.int .i64 (c.pop want).1) (c.pop want).2 w):=by
 have H:=V h;obtain⟨dZ,eS,bad⟩:=c;obtain⟨cs,t,rfl⟩:=qG hn;rw [mN]at hs;simp only at hs;obtain⟨v,v',hb,hv,hc,hk,hC⟩:=h;have hCl:=hb.lt;obtain⟨g,cap,rfl,Lk,My,OJ,M7,Nj⟩:=Aq.of hb rfl hc;simp only at hv;have Lr:=hk.size;have OD:=V Nj;have HV:=V hv;have HB:=V hb;clear hb hc hk hn hv;go_enter func195,ntmps195;go_wp2_with fail;refine ef (Aq C g cs.length cap t) (up 0 12 ((12,false)::(13,false)::[])) (by kernel_rfl) (by kernel_rfl) (Nj.keeps (dU.refl (fun _=>False) w).drew ⟨hCl,fun h=>h⟩ ⟨M7,fun h=>h⟩) ?_;clear Nj;iterate 12 (first | (apply sk rfl rfl;simp only [pt]) | (apply dV rfl rfl rfl;·(rintro w' ⟨t0,t1,t2,t3,t4⟩;go_wp2;exact⟨rfl,rfl,rfl⟩)))
 refine ed rfl rfl ?_;go_wp2_with fail;refine⟨OD.out.keeps ((dU.refl (fun _=>False) w).drew.alloc _) ⟨hCl,fun h=>h⟩ ⟨M7,fun h=>h⟩,?_⟩;refine ed rfl rfl ?_;go_wp2_with fail;have K6:=V (qB w t);have HX:=V (uQ w t);unfold EG at K6 HX;have HS:=V (H.out.below K6.out);have OD:=V (OD.out.keeps (dU.dW (S:=fun _=>False) K6.out) ⟨hCl,fun h=>h⟩ ⟨M7,fun h=>h⟩);have hK:dU (fun i=>i=C) w _:=dU.dW K6.out;have HK:=V hK;have HQ:Hid (_=w.cell? ⟨C,16,none⟩):=V (K6.out.cell hCl);refine⟨OD.out,?_⟩;refine eL ?_;refine aD ?_;clear hK;generalize(w.alloc (.cells #[.int .i64 t.op, .int .i64 t.kind, .int .i64 t.eM, .bool t.dead] 186)).drew=wb at HX HS OD HK HQ⊢;clear K6;obtain⟨⟨x0,x1,x2,x3⟩,-,-,-,-⟩:=HX.out.four;by_cases q:dZ.length=t.eM
 ·have f1:((dZ.length:Int)==(t.eM:Int))=true:=eH (by omega)
  have f2:(dZ.length==t.eM)=true:=by simp [q]
  have HP:Hid (eI.pop ⟨dZ,cs++[t],bad⟩ want=(want,eI.need ⟨dZ,cs++[t],bad⟩ t.dead)):=V (by
   unfold eI.pop;rw [mN,aJ q])
  obtain⟨v,v',hb,hv,-,-,-⟩:=HS.out;obtain⟨av,cv,rfl,-,-⟩:=hv.slice;have NY:wb.cell? ⟨C,15,none⟩=some (.slice av dZ.length cv):=hb.cell 15;clear hb hv q x0 x1 OD;go_wp2_with fail;refine ef (fun w'=>w'.cell? ⟨C,15,none⟩=some (.slice av dZ.length cv)/\w'.cell? ⟨w.heap.size,2,none⟩=some (.int .i64 t.eM)) (up 0 8 []) (by kernel_rfl) (by kernel_rfl) ⟨NY,x2⟩ ?_;iterate 8 (first | (apply sk rfl rfl;simp only [pt]) | (apply dV rfl rfl rfl;·(rintro w' ⟨t0,t1⟩;go_wp2;exact⟨rfl,rfl,rfl⟩)))
  refine eL ?_;refine aD ?_;have x3:wb.drew.cell? ⟨w.heap.size,3,none⟩=some (.bool t.dead):=x3;have HS:=V HS.out.drew;have HK:=V HK.out.drew;have HQ:=V (show wb.drew.cell? ⟨C,16,none⟩=w.cell? ⟨C,16,none⟩from HQ.out);generalize wb.drew=wc at HS HK HQ x3⊢;clear NY x2;go_wp2_with fail;refine(jJ w1 C u m lv wc _ t.dead HS.out).mono ?_;rintro e w2 ⟨rfl,KG,KB,QW⟩;have HS:=V KG;have HK:=V (HK.out.trans KB (fun _ h=> .inl h));have HQ:=V (QW.trans HQ.out);clear KG KB x3 QW;go_wp2_with fail;go_ret;rw [HP.out];exact⟨rfl,HS.out,HK.out,HQ.out⟩
 ·obtain⟨vs,k,rfl⟩:=qG (l:=dZ) (fun h=>by subst h;simp only [aK]at hs q;omega)
  have MN:(vs++[k]).length=vs.length+1:=by simp
  rw [MN]at q hs;have f1:((vs.length:Int)+1==(t.eM:Int))=false:=dS (by omega);have f2:(vs.length+1==t.eM)=false:=by simp [q]
  have HP:Hid (eI.pop ⟨vs++[k],cs++[t],bad⟩ want=if k=0 then(want,⟨vs,cs++[t],bad⟩)else(k,eI.need ⟨vs,cs++[t],bad⟩ (want==0 || k==want))):=V (by
   unfold eI.pop;rw [mN,MN,aC q];simp)
  obtain⟨v,v',hb,hv,hc,hk,-⟩:=HS.out;simp only at hv hc;obtain⟨gv,KX,rfl,hcapv,hcmv,hgv1,hgv2,Ln⟩:=CR hv;have NY:wb.cell? ⟨C,15,none⟩=some (.slice (some ⟨gv,0,none⟩) (vs.length+1) KX):=hb.cell 15;have KL:=V hb;have PR:=V hv;have HCC:=V hc;have Ph:=V hk;clear hb hv hc hk q x0 x1 x3 OD H HV HB hs MN;go_wp2_with fail;refine ef (fun w'=>w'.cell? ⟨C,15,none⟩=some (.slice (some ⟨gv,0,none⟩) (vs.length+1) KX)/\w'.cell? ⟨w.heap.size,2,none⟩=some (.int .i64 t.eM)) (up 0 8 []) (by kernel_rfl) (by kernel_rfl) ⟨NY,x2⟩ ?_;iterate 8 (first | (apply sk rfl rfl;simp only [pt]) | (apply dV rfl rfl rfl;·(rintro w' ⟨t0,t1⟩;go_wp2;exact⟨rfl,rfl,rfl⟩)))
  refine eL ?_;refine aD ?_;have NY:wb.drew.cell? ⟨C,15,none⟩=some (.slice (some ⟨gv,0,none⟩) (vs.length+1) KX):=NY;have Ln:wb.drew.cell? ⟨gv,vs.length,none⟩=some (.int .i64 k):=Ln;clear x2 f1 f2;go_wp2_with fail;refine ef (fun w'=>w'.cell? ⟨C,15,none⟩=some (.slice (some ⟨gv,0,none⟩) (vs.length+1) KX)/\w'.cell? ⟨gv,vs.length,none⟩=some (.int .i64 k)) (up 0 13 []) (by kernel_rfl) (by kernel_rfl) ⟨NY,Ln⟩ ?_;iterate 13 (first | (apply sk rfl rfl;simp only [pt]) | (apply dV rfl rfl rfl;·(rintro w' ⟨t0,t1⟩;go_wp2;exact⟨rfl,rfl,rfl⟩)))
  refine eL ?_;refine aD ?_;have NY:wb.drew.drew.cell? ⟨C,15,none⟩=some (.slice (some ⟨gv,0,none⟩) (vs.length+1) KX):=NY;clear Ln;have LZ:=fun wx=>nv (some ⟨gv,0,none⟩) (vs.length+1) KX vs.length (by omega) wx;go_wp2_with fail;refine eO (fun w'=>w'.cell? ⟨C,15,none⟩=some (.slice (some ⟨gv,0,none⟩) (vs.length+1) KX)) 14 (up 0 14 []) (by kernel_rfl) (by kernel_rfl) NY ?_;iterate 14 (first | (apply sk rfl rfl;simp only [pt]) | (apply dV rfl rfl rfl;·(rintro w' t0;go_wp2;exact⟨rfl,rfl,rfl⟩)))
  refine fG rfl rfl ?_;have NY:wb.drew.drew.drew.cell? ⟨C,15,none⟩=some (.slice (some ⟨gv,0,none⟩) (vs.length+1) KX):=NY;have z15:wb.drew.drew.drew.frozen? ⟨C,15,none⟩=false:=KL.out.drew.drew.drew.free 15;have Kz:=eu wb C 15 (.slice (some ⟨gv,0,none⟩) vs.length KX);have hT:=dT.take fw PR.out vs.length (by simp);rw [dk rfl]at hT;have K4:Hid (gm w1 C u m lv (wb.setCell ⟨C,15,none⟩ (.slice (some ⟨gv,0,none⟩) vs.length KX)).drew.drew.drew ⟨vs,cs++[t],bad⟩):=V ((((show gm w1 C u m lv (wb.setCell ⟨C,15,none⟩ (.slice (some ⟨gv,0,none⟩) vs.length KX)) ⟨vs,cs++[t],bad⟩from
   ⟨_,v',KL.out.set 15 _,hT.keeps Kz (fun i hi h=>by have:=(et hT hi).1;omega),HCC.out.keeps Kz (fun i hi h=>by have:=(et HCC.out hi).1;omega),Ph.out.trans Kz (fun _ h=> .inl h),hC⟩).drew).drew).drew)
  have LK:=V ((HK.out.trans Kz (fun _ h=> .inl h)).drew.drew.drew);have HQ:=V (show(wb.setCell ⟨C,15,none⟩ (.slice (some ⟨gv,0,none⟩) vs.length KX)).drew.drew.drew.cell? ⟨C,16,none⟩=w.cell? ⟨C,16,none⟩from(ct wb _ _ _ (by simp)).trans HQ.out);clear Kz LZ hT;go_wp2_with fail;refine⟨trivial,?_⟩;refine aD ?_;generalize(wb.setCell ⟨C,15,none⟩ (.slice (some ⟨gv,0,none⟩) vs.length KX)).drew.drew.drew=wd at K4 LK HQ⊢;clear NY z15;by_cases q0:k=0
  ·have f1:=eH q0
   have HP:=V (show eI.pop ⟨vs++[k],cs++[t],bad⟩ want=(want,⟨vs,cs++[t],bad⟩)by rw [HP.out,aJ q0]);clear q0;go_wp2_with fail;go_ret;rw [HP.out];exact⟨rfl,K4.out,LK.out,HQ.out⟩
  have f1:=dS q0;have HP:=V (show eI.pop ⟨vs++[k],cs++[t],bad⟩ want=(k,eI.need ⟨vs,cs++[t],bad⟩ (want==0 || k==want))by rw [HP.out,aC q0]);clear q0;by_cases q1:want=0
  ·have f2:=eH q1
   have HP:=V (show eI.pop ⟨vs++[k],cs++[t],bad⟩ want=(k,eI.need ⟨vs,cs++[t],bad⟩ true)by rw [HP.out,f2,Bool.true_or]);clear q1;go_wp2_with fail;refine(jJ w1 C u m lv wd _ true K4.out).mono ?_;rintro e w2 ⟨rfl,KG,KB,QW⟩;have HS:=V KG;have HK:=V (LK.out.trans KB (fun _ h=> .inl h));have HQ:=V (QW.trans HQ.out);clear KG KB QW;go_wp2_with fail;go_ret;rw [HP.out];exact⟨rfl,HS.out,HK.out,HQ.out⟩
  have f2:=dS q1;clear q1;by_cases q2:k=want
  ·have f3:=eH q2
   have HP:=V (show eI.pop ⟨vs++[k],cs++[t],bad⟩ want=(k,eI.need ⟨vs,cs++[t],bad⟩ true)by rw [HP.out,f3,Bool.or_true]);clear q2;go_wp2_with fail;refine(jJ w1 C u m lv wd _ true K4.out).mono ?_;rintro e w2 ⟨rfl,KG,KB,QW⟩;have HS:=V KG;have HK:=V (LK.out.trans KB (fun _ h=> .inl h));have HQ:=V (QW.trans HQ.out);clear KG KB QW;go_wp2_with fail;go_ret;rw [HP.out];exact⟨rfl,HS.out,HK.out,HQ.out⟩
  ·have f3:=dS q2
   have HP:=V (show eI.pop ⟨vs++[k],cs++[t],bad⟩ want=(k,eI.need ⟨vs,cs++[t],bad⟩ false)by rw [HP.out,f2,f3];rfl);clear q2;go_wp2_with fail;refine(jJ w1 C u m lv wd _ false K4.out).mono ?_;rintro e w2 ⟨rfl,KG,KB,QW⟩;have HS:=V KG;have HK:=V (LK.out.trans KB (fun _ h=> .inl h));have HQ:=V (QW.trans HQ.out);clear KG KB QW;go_wp2_with fail;go_ret;rw [HP.out];exact⟨rfl,HS.out,HK.out,HQ.out⟩
theorem eI.BM (c:eI) (k:Int):(c.pop k).2.dZ.length <=c.dZ.length:=by
 unfold eI.pop;split
 ·exact ag _
 ·split
  ·simp
  ·simp [eI.need]
theorem eI.uB:∀(l:List Int) (c:eI),(c.ny l).dZ.length <=c.dZ.length
 | [],_=>ag _
 | k::l,c=>aW (eI.uB l _) (eI.BM c k)
theorem eI.lx (c:eI) (l:List Int):(c.fS l).dZ.length <=c.dZ.length:=eI.uB _ _
def gS (c:eI):Prop:=c.sound/\c.eS≠[]
theorem gS.top {c:eI} (h:gS c):c.top.eM <=c.dZ.length:=h.1.top h.2
theorem gS.pop {c:eI} (h:gS c) (k:Int):gS (c.pop k).2:=⟨h.1.pop h.2 k,by rw [eI.pH];exact h.2⟩
theorem gS.fS {c:eI} (h:gS c) (l:List Int):gS (c.fS l):=⟨h.1.fS h.2 l,by rw [eI.ij];exact h.2⟩
theorem gS.need {c:eI} (h:gS c) (b:Bool):gS (c.need b):=⟨⟨h.1.1,h.1.2⟩,h.2⟩
theorem gS.push {c:eI} (h:gS c) (l:List Int):gS (c.push l):=⟨h.1.push l,h.2⟩
theorem gS.begin {c:eI} (h:gS c) (op kind:Int):gS (c.begin op kind):=⟨h.1.begin op kind,by simp [eI.begin]⟩
theorem gS.fail {c:eI} (h:gS c):gS {c with bad:=true}:=⟨⟨h.1.1,h.1.2⟩,h.2⟩
theorem gS.label {c:eI} (h:gS c) (n:Int):gS (c.label n).2:=by
 unfold eI.label;split
 ·exact h.fail
 ·exact h
theorem si (c:eI) (n:Int):(c.label n).2.eS=c.eS/\(c.label n).2.dZ=c.dZ:=by
 unfold eI.label;split <;>exact⟨rfl,rfl⟩
theorem Dk (c:eI) (n:Int):(c.label n).1.length <=1:=by
 unfold eI.label;split
 ·simp
 ·simp only
  split
  ·simp
  ·unfold gK;split <;>simp
theorem gS.local {c:eI} (h:gS c) (ls:List Int) (n:Int):gS (eI.local ls c n).2:=by
 unfold eI.local;split
 ·exact h.fail
 ·exact h
theorem pn (c:eI) (ls:List Int) (n:Int):(eI.local ls c n).2.eS=c.eS/\(eI.local ls c n).2.dZ=c.dZ:=by
 unfold eI.local;split <;>exact⟨rfl,rfl⟩
theorem qa (c:eI):c.shut.2.eS=c.eS.dropLast:=by
 unfold eI.shut eI.BB;simp only [eI.mZ,eI.ij]
theorem re (c:eI):c.shut.2.dZ.length <=c.dZ.length:=eI.lx c _
theorem AG {c:eI} (h:gS c):c.shut.2.sound:=by
 have h1:=h.fS (gK c.top.kind);have ht:(c.fS (gK c.top.kind)).top=c.top:=by unfold eI.top;rw [eI.ij]
 have h2:=h1.top;rw [ht]at h2;have hle:=h.1.le_top h.2;refine⟨fun x hx=>?_,?_⟩
 ·rw [qa]at hx
  have:=hle x ((List.dropLast_sublist _).subset hx);exact aW this h2
 ·rw [qa]
  exact h.1.2.sublist (List.dropLast_sublist _)
theorem AN {c:eI} (h:c.eS≠[]):c.dead.eS.length=c.eS.length:=by
 have:=dI.2 h;simp [eI.dead];omega
theorem DU (c:eI):c.dead.dZ.length <=c.dZ.length:=by simp [eI.dead];omega
theorem gS.dead {c:eI} (h:gS c):gS c.dead:=by
 have hle:=h.1.le_top h.2;have ht:=h.top;obtain⟨cs,t,QA⟩:∃cs t,c.eS=cs++[t]:=⟨c.eS.dropLast,c.eS.getLast h.2,(da h.2).symm⟩;have htop:c.top=t:=by unfold eI.top;rw [QA];simp
 have hd:c.dead.eS=cs++[{t with dead:=true}]:=by unfold eI.dead;simp only [QA,htop];simp
 have hv:c.dead.dZ.length=t.eM:=by simp [eI.dead,htop];rw [htop]at ht;omega
 rw [htop]at hle;refine⟨⟨fun x hx=>?_,?_⟩,by rw [hd];simp⟩
 ·rw [hv]
  rw [hd]at hx;rcases bx.1 hx with h1 | h1
  ·exact hle x (by rw [QA];simp [h1])
  ·rw [aV.1 h1]
   exact ag _
 ·rw [hd]
  have hp:=h.1.2;rw [QA,cW]at hp;rw [cW];exact⟨hp.1,by simp,fun a ha b hb=>by rw [aV.1 hb];exact hp.2.2 a ha t (by simp)⟩
def J3 (w1:World) (C:Nat) (u:eD) (m:ez) (lv:Value) (c:eI) (l:List Int) (w w':World) (c':eI) (n:Nat):Prop:=
 n <=l.length/\c.fS l=c'.ny (l.take n).reverse/\gm w1 C u m lv w' c'/\gS c'/\dU (fun i=>i=C) w w'/\w'.cell? ⟨C,16,none⟩=w.cell? ⟨C,16,none⟩
theorem oc (w1:World) (C:Nat) (u:eD) (m:ez) (lv:Value) (w:World) (c:eI) (kv:Value) (l:List Int) (h:gm w1 C u m lv w c) (ho:gS c) (hl:eg 1 fb (rC C w) kv l) (Ok:l.length <=1000000):
  Calls prog 199 #[.pointer (some ⟨C,0,none⟩),kv] w (BE w1 C u m lv (.tuple #[]) (c.fS l) w):=by
 have HL:=V hl;obtain⟨ak,ck,rfl,-,-,-⟩:=id hl;clear hl;go_enter func199,ntmps199;go_wp2_with fail;refine eB (fun a' w'=>∃(c':eI) (n:Nat),a'=fr (.pointer (some ⟨C,0,none⟩):: .slice ak l.length ck::gs a' 2 2 (.int .i64 ((n:Int) - 1)::gs a' 5 13 []))/\J3 w1 C u m lv c l w w' c' n) (fun a' _=>(intOf (a'.tmps.getD 4 undef)+1).toNat) ?_ ?_
 ·exact⟨c,l.length,rfl,ag _,by rw [aU];rfl,h,ho,dU.refl _ _,rfl⟩
 ·clear h ho
  rintro R a' w1 ⟨c',n,Kw,hJ⟩ HR;dsimp only [fr,gs]at Kw;generalize slot a'=f at Kw;subst Kw;obtain⟨hn,hpa,KS,KF,hk,hq⟩:=hJ;have HQ:=V hq;have HPA:=V hpa;have Ky:=V KS;have LH:=V KF;have HK:=V hk;clear hpa KS KF hq;cases n with
  | zero=>
   have HP:=V (show c.fS l=c' by rw [HPA.out];rfl);clear hk;go_wp2_with fail
   go_end0
   rw [HP.out];exact⟨rfl,Ky.out,HK.out,HQ.out⟩
  | succ n=>
   obtain⟨x,hx⟩:∃x,l[n]?=some x:=⟨_,aq (by omega)⟩;have Qk:=HL.out.ext (sP hk);obtain⟨_,_,hv,_,_,Kt⟩:=Qk;injection hv with e1 e2 e3;subst e1;obtain⟨b,off,rfl,KC,hc⟩:=Kt n x hx;have c0:=hc 0 _ rfl;rw [aL,bo]at c0;have f1:decide ((0:Int) <=(n:Int))=true:=aA (by omega);have f2:(n:Int) < (l.length:Int):=by omega
   have HT:=V (show(l.take (n+1)).reverse=x::(l.take n).reverse by rw [aQ,hx];simp);clear e2 e3 hc Kt hx hk;go_wp2_with fail;refine(BW _ C u m lv _ c' x Ky.out LH.out.2 LH.out.top).mono ?_;rintro e w2 ⟨rfl,KG,KB,QW⟩;have HQ2:=V (QW.trans HQ.out);have L7:=V KG;have LK:=V (HK.out.trans KB (fun _ h=> .inl h));clear KG KB c0 QW;go_wp2_with fail;refine HR.out _ _ ⟨(c'.pop x).2,n,rfl,by omega,?_,L7.out,LH.out.pop x,LK.out,HQ2.out⟩ ?_
   ·rw [HPA.out,HT.out]
    rfl
   ·simp [intOf]
theorem tf (w1:World) (C:Nat) (u:eD) (m:ez) (lv:Value) (w:World) (c:eI) (op kind:Int) (h:gm w1 C u m lv w c) (hn:c.eS.length <=100000):
  Calls prog 103 #[.pointer (some ⟨C,0,none⟩), .int .i64 op, .int .i64 kind] w (nC w1 C u m lv (.tuple #[]) (c.begin op kind)):=by
 obtain⟨v,v',hb,hv,hc,hk,hC⟩:=h.drew;obtain⟨dZ,eS,bad⟩:=c;simp only at hb hv hc hn;obtain⟨av,cv,rfl,-,-⟩:=hv.slice;obtain⟨ac,cc,rfl,-,-⟩:=hc.slice;have NY:w.drew.cell? ⟨C,15,none⟩=some (.slice av dZ.length cv):=hb.cell 15;have Qq:w.drew.cell? ⟨C,16,none⟩=some (.slice ac eS.length cc):=hb.cell 16;have HB:=V hb;have HV:=V hv;have HC:=V hc;have HK:=V hk;have Lr:=hk.size;have QT:=V (fun g (hg:eA (.slice av dZ.length cv) g)=>dT.ne hv hc (by decide) g hg);clear hb hv hc hk h;go_enter func103,ntmps103;go_wp2_with fail;refine eO (fun w'=>w'.cell? ⟨C,15,none⟩=some (.slice av dZ.length cv)/\w'.cell? ⟨C,16,none⟩=some (.slice ac eS.length cc)) 17 (up 0 13 ((13,false)::(14,false)::(15,true)::(16,true)::[])) (by kernel_rfl) (by kernel_rfl) ⟨NY,Qq⟩ ?_;clear NY Qq;generalize w.drew=wa at HB HV HC HK Lr⊢;iterate 13 (first | (apply sk rfl rfl;simp only [pt]) | (apply dV rfl rfl rfl;·(rintro w' ⟨t0,t1⟩;go_wp2;exact⟨rfl,rfl,rfl⟩)))
 refine ed rfl rfl ?_;go_wp2_with fail;refine⟨⟨(HB.out.alloc _).cell 15,(HB.out.alloc _).cell 16⟩,?_⟩;refine ed rfl rfl ?_;go_wp2_with (first | (at_builtin;refine eT wa rfl _ _ 179 rfl _ 32 (by kernel_rfl) wE rfl (by decide) (by decide) w1.heap.size (.slice ac eS.length cc) eS rfl HC.out ⟨op,kind,dZ.length,false⟩ _ rfl rfl (F0 _) rfl (by omega) Lr ?_));intro v2 w2 ho KB KG;obtain⟨a2,c2,rfl,-,-⟩:=ho.slice;have HO:=V (show dT 186 4 xB w2 w1.heap.size (.slice a2 (eS.length+1) c2) (eS++[⟨op,kind,dZ.length,false⟩])by have:=ho;rwa [ah,aB]at this);have HB:=V (HB.out.keeps KB (fun h=>by have:=(et HC.out h).1;omega));have HV:=V (HV.out.keeps KB (fun i hi h=>QT.out i hi h));have HK:=V (HK.out.trans KB (fun i hi=> .inr (et HC.out hi).1));clear ho KB KG;go_wp2_with fail;refine⟨⟨HB.out.cell 15,HB.out.cell 16⟩,?_⟩;iterate 2 (first | (apply sk rfl rfl;simp only [pt]) | (apply dV rfl rfl rfl;·(rintro w' ⟨t0,t1⟩;go_wp2;exact⟨rfl,rfl,rfl⟩)))
 refine fG rfl rfl ?_;have Qq:w2.cell? ⟨C,16,none⟩=some (.slice ac eS.length cc):=HB.out.cell 16;have z16:=HB.out.free 16;go_wp2_with fail;refine⟨trivial,?_⟩;refine aD ?_;clear Qq z16;go_wp2_with fail
 go_end0
 have Kz:=eu w2 C 16 (.slice a2 (eS.length+1) c2);exact⟨rfl,⟨_,_,HB.out.set 16 _,HV.out.keeps Kz (fun i hi h=>by have:=(et HV.out hi).1;omega),HO.out.keeps Kz (fun i hi h=>by have:=(et HO.out hi).1;omega),HK.out.trans Kz (fun i hi=> .inl hi),hC⟩⟩
theorem yP (w1:World) (C:Nat) (u:eD) (m:ez) (lv:Value) (w:World) (c:eI) (h:gm w1 C u m lv w c) (KF:gS c):
  Calls prog 194 #[.pointer (some ⟨C,0,none⟩)] w (nC w1 C u m lv (.tuple #[]) c.dead):=by
 have hs:=KF.top;have hn:=KF.2;obtain⟨v,v',hb,hv,hc,hk,hC⟩:=h.drew.drew;obtain⟨dZ,eS,bad⟩:=c;obtain⟨cs,t,rfl⟩:=qG hn;rw [mN]at hs;simp only at hb hv hc hs;obtain⟨av,cv,rfl,LC,-⟩:=hv.slice;obtain⟨g,cap,rfl,Lk,My,OJ,M7,Nj⟩:=Aq.of hb rfl hc;have hCl:=hb.lt;have HD:Hid (eI.dead ⟨dZ,cs++[t],bad⟩=⟨dZ.take t.eM,cs++[{t with dead:=true}],bad⟩):=V (by
  unfold eI.dead;rw [mN];simp)
 have hct0:Aq C g cs.length cap t w.drew:=Nj;have HB:=V hb;have HV:=V hv;have HC:=V hc;have HK:=V hk;have OD:=V Nj;have Lr:=hk.size;have QT:=V (fun g' (hg:eA (.slice av dZ.length cv) g')=>dT.ne hv hc (by decide) g' hg);have LZ:=fun wx=>nv av dZ.length cv t.eM (by omega) wx;clear hb hv hc hk h Nj hn KF;go_enter func194,ntmps194;go_wp2_with fail;refine ef (Aq C g cs.length cap t) (up 0 12 []) (by kernel_rfl) (by kernel_rfl) hct0 ?_;iterate 12 (first | (apply sk rfl rfl;simp only [pt]) | (apply dV rfl rfl rfl;·(rintro w' ⟨t0,t1,t2,t3,t4⟩;go_wp2;exact⟨rfl,rfl,rfl⟩)))
 refine eL ?_;refine aD ?_;clear hct0;go_wp2_with fail;refine ef (fun w'=>w'.cell? ⟨g,cs.length*4+2,none⟩=some (.int .i64 t.eM)) (up 0 5 (up 6 4 ((5,false)::up 10 3 ((13,false)::(14,true)::(15,true)::(16,false)::[])))) (by kernel_rfl) (by kernel_rfl) OD.out.2.2.2.1 ?_;generalize w.drew.drew=wa at HB HV HC HK OD Lr hCl M7⊢;iterate 9 (first | (apply sk rfl rfl;simp only [pt]) | (apply dV rfl rfl rfl;·(rintro w' t0;go_wp2;exact⟨rfl,rfl,rfl⟩)))
 refine ed rfl rfl ?_;have NY:wa.cell? ⟨C,15,none⟩=some (.slice av dZ.length cv):=HB.out.cell 15;go_wp2_with fail;refine⟨OD.out.2.2.2.1,?_⟩;iterate 3 (first | (apply sk rfl rfl;simp only [pt]) | (apply dV rfl rfl rfl;·(rintro w' t0;go_wp2;exact⟨rfl,rfl,rfl⟩)))
 refine ed rfl rfl ?_;have z15:=HB.out.free 15;go_wp2_with fail;have Kz:=eu wa C 15 (.slice av t.eM cv);have hgC:g≠C:=by omega
 have HCT2:=V (OD.out.2.2.2.1);have HCD:=V (OD.out.2.2.2.2);have k2:(wa.setCell ⟨C,15,none⟩ (.slice av t.eM cv)).cell? ⟨g,cs.length*4+2,none⟩=some (.int .i64 t.eM):=(Kz.cell M7 hgC).trans HCT2.out;have k3:(wa.setCell ⟨C,15,none⟩ (.slice av t.eM cv)).cell? ⟨g,cs.length*4+3,none⟩=some (.bool t.dead):=(Kz.cell M7 hgC).trans HCD.out;have hT:=dT.take fw HV.out t.eM hs;have HT:=V (hT.keeps Kz (fun i hi h=>by have:=(et hT hi).1;omega));have HC2:=V (HC.out.keeps Kz (fun i hi h=>by have:=(et HC.out hi).1;omega));have K6:=V (HB.out.set 15 (.slice av t.eM cv));have LK:=V (HK.out.trans Kz (fun _ h=> .inl h));refine⟨k2,?_⟩;iterate 2 (first | (apply sk rfl rfl;simp only [pt]) | (apply dV rfl rfl rfl;·(rintro w' t0;go_wp2;exact⟨rfl,rfl,rfl⟩)))
 refine ed rfl rfl ?_;generalize wa.setCell ⟨C,15,none⟩ (.slice av t.eM cv)=wc at HT HC2 K6 LK k2 k3⊢;have zg:=dT.free HC2.out (cs.length*4+3);clear NY z15 Kz hT;go_wp2_with fail;have Kz:=eu wc g (cs.length*4+3) (.bool true);have Ma:C≠g:=fun h=>hgC h.symm;refine⟨(by
  show(wc.setCell ⟨g,cs.length*4+3,none⟩ (.bool true)).cell? ⟨g,cs.length*4+2,none⟩=_;rw [ct _ _ _ _ (by simp)];exact k2),?_⟩
 refine eL ?_;refine aD ?_;go_wp2_with fail
 go_end0
 rw [HD.out];have h1:=dT.set jE HC2.out (i:=cs.length) (j:=3) (x:=t) (y:={t with dead:=true}) (u:= .bool true) (by simp) (by decide) rfl;have h2:(cs++[t]).set cs.length {t with dead:=true}=cs++[{t with dead:=true}]:=by simp
 rw [h2]at h1;exact⟨rfl,⟨_,_,K6.out.keeps Kz Ma,HT.out.keeps Kz (fun i hi h=>QT.out i ((dT.same i).1 hi) (by simp [eA,Value.ownBlock,h])),h1,LK.out.trans Kz (fun i hi=> .inr (by omega)),hC⟩⟩
def IN (C g n cap i:Nat) (t:mO) (w:World):Prop:=
 w.cell? ⟨C,16,none⟩=some (.slice (some ⟨g,0,none⟩) n cap)/\w.cell? ⟨g,i*4,none⟩=some (.int .i64 t.op)/\w.cell? ⟨g,i*4+1,none⟩=some (.int .i64 t.kind)/\w.cell? ⟨g,i*4+2,none⟩=some (.int .i64 t.eM)/\w.cell? ⟨g,i*4+3,none⟩=some (.bool t.dead)
theorem IN.keeps {C g n cap i:Nat} {t:mO} {w w':World} {S:Nat ->Prop} (h:IN C g n cap i t w) (hk:dU S w w') (h1:C < w.heap.size/\¬ S C) (h2:g < w.heap.size/\¬ S g):IN C g n cap i t w':=by
 obtain⟨a,b,c,d,e⟩:=h;exact⟨(hk.cell h1.1 h1.2).trans a,(hk.cell h2.1 h2.2).trans b,(hk.cell h2.1 h2.2).trans c,(hk.cell h2.1 h2.2).trans d,(hk.cell h2.1 h2.2).trans e⟩
theorem IN.of {w:World} {B C:Nat} {v':Value} {l:List mO} {i:Nat} {t:mO} {xs:Array Value} {T:TypeId} (hb:eG w C xs T) (hx:xs[16]?=some v') (h:dT 186 4 xB w B v' l) (hi:l[i]?=some t):
  ∃g cap,v'= .slice (some ⟨g,0,none⟩) l.length cap/\l.length <=cap/\cap <=9223372036854775807/\B <=g/\g < w.heap.size/\IN C g l.length cap i t w:=by
 obtain⟨g,cap,cur,rfl,OJ,M7,hg3,Lk,hm⟩:=h.open (fun e=>by rw [e]at hi;simp at hi);refine⟨g,cap,rfl,Lk,by simpa [maxLen] using hm,OJ,M7,?_,?_,?_,?_,?_⟩
 ·rw [hb.cell 16,hx]
 ·exact dT.cell jE h (i:=i) (j:=0) (x:=t) (u:= .int .i64 t.op) hi rfl
 ·exact dT.cell jE h (i:=i) (j:=1) (x:=t) (u:= .int .i64 t.kind) hi rfl
 ·exact dT.cell jE h (i:=i) (j:=2) (x:=t) (u:= .int .i64 t.eM) hi rfl
 ·exact dT.cell jE h (i:=i) (j:=3) (x:=t) (u:= .bool t.dead) hi rfl
def IU (w1:World) (C:Nat) (u:eD) (m:ez) (lv:Value) (l:List Int) (c:eI) (w:World) (e:Ending) (w':World):Prop:=
 ∃v,e= .returned v/\eg 1 fb (rC C w') v l/\gm w1 C u m lv w' c/\dU (fun i=>i=C) w w'
theorem AP {c:eI} {k:Nat} {t:mO} (hk:k < c.eS.length) (ht:c.eS[c.eS.length - 1 - k]?=some t):c.label (k:Int)=(if t.op=3 then []else gK t.kind,c):=by
 unfold eI.label eI.xw;rw [aC (by omega),cG,ht];rfl
theorem CQ (w1:World) (C:Nat) (u:eD) (m:ez) (lv:Value) (w:World) (c:eI) (k:Nat) (h:gm w1 C u m lv w c):
  Calls prog 200 #[.pointer (some ⟨C,0,none⟩), .int .i64 k] w (IU w1 C u m lv (c.label k).1 (c.label k).2 w):=by
 have H:=V h;by_cases q:k < c.eS.length
 ·obtain⟨t,ht⟩:∃t,c.eS[c.eS.length - 1 - k]?=some t:=⟨_,aq (by omega)⟩
  have HLB:=V (AP q ht);obtain⟨v,v',hb,hv,hc,hk,hC⟩:=h.drew;have hCl:=hb.lt;obtain⟨g,cap,rfl,Lk,My,OJ,M7,Nj⟩:=IN.of hb rfl hc ht;have Lr:=hk.size;obtain⟨N,hN⟩:∃N,c.eS.length=N:=⟨_,rfl⟩;rw [hN]at q Lk Nj;obtain⟨i,hi⟩:∃i,N - 1 - k=i:=⟨_,rfl⟩;rw [hi]at Nj;have hidx:(N:Int) - 1 - (k:Int)=(i:Int):=by omega
  have NC:i < N:=by omega
  have f1:decide ((N:Int) <=(k:Int))=false:=az (by omega);have f2:decide (N <=k)=false:=az (by omega);have Qq:w.cell? ⟨C,16,none⟩=some (.slice (some ⟨g,0,none⟩) N cap):=Nj.1;have OD:=V Nj;clear hb hc hk hv h ht hN hi Nj q;go_enter func200,ntmps200;go_wp2_with fail;refine ef (IN C g N cap i t) (up 0 14 ((14,false)::(15,false)::[])) (by kernel_rfl) (by kernel_rfl) OD.out ?_;clear Qq;iterate 14 (first | (apply sk rfl rfl;simp only [pt]) | (apply dV rfl rfl rfl;·(rintro w' ⟨t0,t1,t2,t3,t4⟩;go_wp2;exact⟨rfl,rfl,rfl⟩)))
  refine ed rfl rfl ?_;go_wp2_with fail;refine⟨OD.out.keeps ((dU.refl (fun _=>False) w.drew).alloc _) ⟨hCl,fun h=>h⟩ ⟨M7,fun h=>h⟩,?_⟩;refine ed rfl rfl ?_;go_wp2_with fail;have K6:=V (qB w t);have HX:=V (uQ w t);unfold EG at K6 HX;have HS:=V (H.out.below K6.out);have HK:=V (dU.dW (S:=fun i=>i=C) K6.out);refine⟨OD.out.keeps (dU.dW (S:=fun _=>False) (show Below w.drew.heap.size w.drew _ from⟨K6.out.os,K6.out.tape,K6.out.output,K6.out.size,K6.out.block⟩)) ⟨hCl,fun h=>h⟩ ⟨M7,fun h=>h⟩,?_⟩;refine eL ?_;refine aD ?_;generalize(w.alloc (.cells #[.int .i64 t.op, .int .i64 t.kind, .int .i64 t.eM, .bool t.dead] 186)).drew=wb at HX HS HK⊢;clear K6;obtain⟨⟨x0,x1,x2,x3⟩,-,-,-,-⟩:=HX.out.four;clear x2 x3;by_cases q3:t.op=3
  ·have g1:=eH q3
   have HLB:=V (show c.label k=([],c)by rw [HLB.out,aJ q3]);clear q3;go_wp2_with fail;go_ret;rw [HLB.out];exact⟨_,rfl,eg.nil _,HS.out,HK.out⟩
  ·have g1:=dS q3
   have HLB:=V (show c.label k=(gK t.kind,c)by rw [HLB.out,aC q3]);clear q3;go_wp2_with fail;refine(mS t.kind wb C HS.out.lt.1).mono ?_;rintro e w2 ⟨v,rfl,hl,hb⟩;have HL:=V hl;have HS:=V (HS.out.below hb);have HK:=V (HK.out.trans (dU.dW (S:=fun _=>False) hb) (fun _ h=>h.elim));clear hl hb x0 x1;go_wp2_with fail;go_ret;rw [HLB.out];exact⟨_,rfl,HL.out,HS.out,HK.out⟩
 ·obtain⟨v,v',hb,hv,hc,hk,hC⟩:=h
  obtain⟨ac,cc,rfl,-,-⟩:=hc.slice;have HLB:Hid (c.label k=([],{c with bad:=true})):=V (by unfold eI.label;rw [if_pos (by omega)]);obtain⟨N,hN⟩:∃N,c.eS.length=N:=⟨_,rfl⟩;rw [hN]at q hc hb;have f1:decide ((N:Int) <=(k:Int))=true:=aA (by omega);have f2:decide (N <=k)=true:=aA (by omega);have Qq:w.cell? ⟨C,16,none⟩=some (.slice ac N cc):=hb.cell 16;have c17:w.cell? ⟨C,17,none⟩=some (.bool c.bad):=hb.cell 17;have z17:=hb.free 17;have HB:=V hb;have HV:=V hv;have HC:=V hc;have HK:=V hk;clear hb hv hc hk q hN;go_enter func200,ntmps200;go_wp2_with fail;go_ret;have Kz:=eu w C 17 (.bool true);rw [HLB.out];exact⟨_,rfl,eg.nil _,⟨v,_,HB.out.set 17 _,HV.out.keeps Kz (fun i hi h=>by have:=(et HV.out hi).1;omega),HC.out.keeps Kz (fun i hi h=>by have:=(et HC.out hi).1;omega),HK.out.trans Kz (fun _ h=> .inl h),hC⟩,Kz⟩
end Go.Proofs.YthbjdhjppbcneaaGreatDoor
