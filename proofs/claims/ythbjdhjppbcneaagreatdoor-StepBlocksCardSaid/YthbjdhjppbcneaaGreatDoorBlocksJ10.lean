import Derived.Test.YthbjdhjppbcneaaGreatDoorBlocksJ9
namespace Go.Proofs.YthbjdhjppbcneaaGreatDoor
set_option maxRecDepth 100000
set_option maxHeartbeats 20000000
open Go.RowKit Tryz
open Lib renaming hid->V
set_option linter.all false
def lj (B:Nat) (w:World) (M:Nat) (u:eL) (m:eI):Prop:=eP w M (u.cells m) 62/\eD (mask (kX B) w) u m/\m.words/\M < B/\B <=w.heap.size
theorem lj.keeps {S:Nat ->Prop} {B:Nat} {w w':World} {M:Nat} {u:eL} {m:eI} (h:lj B w M u m) (hk:ee S w w') (hS:∀i,S i ->i < B\/w.heap.size <=i) (hM:¬ S M):lj B w' M u m:=
 ⟨h.1.keeps hk hM,h.2.1.ext (nN hk hS (.inl (ag _))),h.2.2.1,h.2.2.2.1,aW h.2.2.2.2 hk.size⟩
theorem lj.below {B:Nat} {w w':World} {M:Nat} {u:eL} {m:eI} (h:lj B w M u m) (hb:Below w.heap.size w w'):lj B w' M u m:=
 h.keeps (ee.eh (S:=fun _=>False) hb) (fun _ h=>h.elim) (fun h=>h)
theorem lj.put {B:Nat} {w:World} {M:Nat} {u u':eL} {m m':eI} {i:Nat} {v:Value} (h:lj B w M u m) (hc:(u.cells m).setIfInBounds i v=u'.cells m') (hw:m'.words)
  (hi:eD (mask (kX B) (w.setCell ⟨M,i,none⟩ v)) u m ->eD (mask (kX B) (w.setCell ⟨M,i,none⟩ v)) u' m'):lj B (w.setCell ⟨M,i,none⟩ v) M u' m':=by
 have hk:=eC w M i v;exact⟨by rw [<- hc];exact h.1.set i v,hi (h.2.1.ext (nN hk (fun k e=> .inl (by rw [e];exact h.2.2.2.1)) (.inl (ag _)))),hw,h.2.2.2.1,aW h.2.2.2.2 hk.size⟩
theorem lj.tH {B:Nat} {w:World} {M:Nat} {u u':eL} {m m':eI} {i:Nat} {v0 v1 v2:Value} (h:lj B w M u m) (hc:(((u.cells m).setIfInBounds i v0).setIfInBounds (i+1) v1).setIfInBounds (i+2) v2=u'.cells m') (hw:m'.words)
  (hi:∀w',eD w' u m ->eD w' u' m'):lj B (((w.setCell ⟨M,i,none⟩ v0).setCell ⟨M,i+1,none⟩ v1).setCell ⟨M,i+2,none⟩ v2) M u' m'/\ee (fun k=>k=M) w (((w.setCell ⟨M,i,none⟩ v0).setCell ⟨M,i+1,none⟩ v1).setCell ⟨M,i+2,none⟩ v2):=by
 have hk:=((eC w M i v0).trans (eC _ M (i+1) v1) (fun _ h=> .inl h)).trans (eC _ M (i+2) v2) (fun _ h=> .inl h);exact⟨⟨by rw [<- hc];exact((h.1.set i v0).set (i+1) v1).set (i+2) v2,hi _ (h.2.1.ext (nN hk (fun k e=> .inl (by rw [e];exact h.2.2.2.1)) (.inl (ag _)))),hw,h.2.2.2.1,aW h.2.2.2.2 hk.size⟩,hk⟩
theorem tD {α β:Type} {t:TypeId} {k:Nat} {enc:α × β ->List Value} {inner:World ->α ->β ->Prop} (hk:∀x,(enc x).length=k) (hx:∀w w' x u,Ext w w' ->inner w x u ->inner w' x u) {w:World} {B B1 M i:Nat} {v x:Value} {l:List α} (h:eZ t k enc inner w B1 v l) (hB:B <=B1) (hM:M < B):
  et k enc inner (mask (kX B) (w.setCell ⟨M,i,none⟩ x)) v l:=
 et.ext (eZ.low hk hx (eZ.keeps hx h (eC w M i x) (fun j hj=> .inl (by omega)))) (uw _ hB) (fun _ _ h=>hx _ _ _ _ (uw _ hB) h)
theorem tv {α:Type} {t:TypeId} {k:Nat} {enc:α ->List Value} (hk:∀x,(enc x).length=k) {w:World} {B B1 M i:Nat} {v x:Value} {l:List α} (h:ea t k enc w B1 v l) (hB:B <=B1) (hM:M < B):
  ew k enc (mask (kX B) (w.setCell ⟨M,i,none⟩ x)) v l:=
 (jx hk ((h.stay (eC w M i x) (fun j hj=>by omega)).lower hB))
def mz (w0 w:World) (R M B:Nat) (no:Nat) (st:gu) (m:eI) (e:Ending) (w':World):Prop:=
 ∃u' m',e= .returned (.tuple #[])/\lj B w' M u' m'/\ie (kb no m) st m'/\fD w0 w' R (ez (kb no m) st)/\ee (fun k=>k=R\/k=M) w w'
theorem G7 {l:List jt} (h:∀x∈l,x.fits):∀x∈l,x.mod.size <=1000000000000/\x.name.size <=1000000000000:=fun x hx=>by
 obtain⟨h1,h2,_⟩:=h x hx;omega
theorem IN {l:List iO} (h:∀x∈l,x.fits):∀x∈l,x.name.size <=1000000000000:=fun x hx=>by
 obtain⟨h1,_⟩:=h x hx;omega
theorem JY (w0 w:World) (R M B:Nat) (st:gu) (u:eL) (m:eI) (h:fD w0 w R st) (hm:lj B w M u m) (PJ:R < B) (Nt:R≠M) (OH:w0.heap.size <=M):
  Calls prog 111 #[.pointer (some ⟨R,0,none⟩), .pointer (some ⟨M,0,none⟩), .int .i64 1] w (mz w0 w R M B 1 st m):=by
 have Nf:=h.lt;have L8:=(an w.heap.size w).alloc (ag _) (.cells #[.pointer (some ⟨R,0,none⟩)] 188);have HH:=V (h.below L8);have HM:=V (hm.below L8);have QM:=V hm;have HA:=V (eP.new w #[.pointer (some ⟨R,0,none⟩)] 188);have HK:=V ((ee.refl (fun k=>k=R\/k=M) w).alloc (.cells #[.pointer (some ⟨R,0,none⟩)] 188));have a0:=HA.out.cell 0;simp only [aI,aG]at a0;clear h hm L8;go_enter func111,ntmps111;go_wp2_with fail;clear a0;have QN:M < B:=HM.out.2.2.2.1;have QI:B <=w.heap.size:=QM.out.2.2.2.2;generalize w.alloc (.cells #[.pointer (some ⟨R,0,none⟩)] 188)=wa at HH HM HA HK⊢;refine(Hz w0 R pg (fun _=>True) wE st wa 210 #[.pointer (some ⟨R,0,none⟩)] #[] (fun _ _=>by rfl) HH.out (fun s w1 h _=>F8 w0 w1 R s h)).mono ?_;rintro e w2 ⟨v,l,rfl,ho,hp,hl,hw,hh,hk⟩;obtain⟨a,cap,rfl,-,-⟩:=et.slice (eZ.low vw (fun _ _ _ _ he h=>h.ext he) ho);have HO:=V ho;have HP:=V hp;have HW:=V hw;have HH:=V hh;have MO:=V (HM.out.keeps hk (fun i hi=> .inl (by omega)) (fun h=>Nt h.symm));have HK:=V (HK.out.trans hk (fun _ h=> .inl (.inl h)));have x0:=MO.out.1.cell 0;have z0:=MO.out.1.free 0;simp only [eL.cells,aI,aG]at x0;clear ho hp hw hh hk;go_wp2_with fail
 go_end0
 have Lt:=eC w2 M 0 (.slice a l.length cap);have OI:B <=wa.heap.size:=HM.out.2.2.2.2;refine⟨{u with types:= .slice a l.length cap},{m with types:=l},rfl,MO.out.put rfl ?_ (fun⟨h1,h2,h3,h4,h5,h6,h7,h8,k1,k2,k3,k4,k5,k6⟩=>⟨tD vw (fun _ _ _ _ he h=>h.ext he) HO.out OI QN,h2,h3,h4,h5,h6,h7,h8,k1,k2,k3,k4,k5,k6⟩),?_,?_,HK.out.trans Lt (fun _ h=> .inl (.inr h))⟩
 ·exact MO.out.2.2.1
 ·rw [Es]
  exact fK (f:=fun x=>{m with types:=x}) HW.out
 ·rw [Es,fG]
  exact HH.out.keeps Lt (fun h=>Nt h) (fun i hi=>by subst hi;exact OH)
theorem Km (w0 w:World) (R M B:Nat) (st:gu) (u:eL) (m:eI) (h:fD w0 w R st) (hm:lj B w M u m) (PJ:R < B) (Nt:R≠M) (OH:w0.heap.size <=M):
  Calls prog 111 #[.pointer (some ⟨R,0,none⟩), .pointer (some ⟨M,0,none⟩), .int .i64 2] w (mz w0 w R M B 2 st m):=by
 have Nf:=h.lt;have L8:=(an w.heap.size w).alloc (ag _) (.cells #[.pointer (some ⟨R,0,none⟩)] 188);have HH:=V (h.below L8);have HM:=V (hm.below L8);have QM:=V hm;have HA:=V (eP.new w #[.pointer (some ⟨R,0,none⟩)] 188);have HK:=V ((ee.refl (fun k=>k=R\/k=M) w).alloc (.cells #[.pointer (some ⟨R,0,none⟩)] 188));have a0:=HA.out.cell 0;simp only [aI,aG]at a0;clear h hm L8;go_enter func111,ntmps111;go_wp2_with fail;clear a0;have QN:M < B:=HM.out.2.2.2.1;have QI:B <=w.heap.size:=QM.out.2.2.2.2;generalize w.alloc (.cells #[.pointer (some ⟨R,0,none⟩)] 188)=wa at HH HM HA HK⊢;refine(Is w0 R uZ jt.fits yV st wa 212 #[.pointer (some ⟨R,0,none⟩)] #[] (fun _ _=>by rfl) HH.out (fun s w1 h _=>Bq w0 w1 R s h)).mono ?_;rintro e w2 ⟨v,l,rfl,ho,hp,hl,hw,hh,hk⟩;obtain⟨a,cap,rfl,-,-⟩:=ho.slice;have HO:=V ho;have HP:=V hp;have HW:=V hw;have HH:=V hh;have MO:=V (HM.out.keeps hk (fun i hi=> .inl (by omega)) (fun h=>Nt h.symm));have HK:=V (HK.out.trans hk (fun _ h=> .inl (.inl h)));have x0:=MO.out.1.cell 1;have z0:=MO.out.1.free 1;simp only [eL.cells,aI,aG,aU]at x0;clear ho hp hw hh hk;go_wp2_with fail
 go_end0
 have Lt:=eC w2 M 1 (.slice a l.length cap);have OI:B <=wa.heap.size:=HM.out.2.2.2.2;refine⟨{u with imports:= .slice a l.length cap},{m with imports:=l},rfl,MO.out.put rfl ?_ (fun⟨h1,h2,h3,h4,h5,h6,h7,h8,k1,k2,k3,k4,k5,k6⟩=>⟨h1,tv zK HO.out OI QN,h3,h4,h5,h6,h7,h8,fun x hx=>(HP.out x hx).2.2,k2,k3,k4,k5,k6⟩),?_,?_,HK.out.trans Lt (fun _ h=> .inl (.inr h))⟩
 ·exact⟨G7 HP.out,MO.out.2.2.1.2⟩
 ·rw [FU]
  exact fK (f:=fun x=>{m with imports:=x}) HW.out
 ·rw [FU,fG]
  exact HH.out.keeps Lt (fun h=>Nt h) (fun i hi=>by subst hi;exact OH)
theorem J0 (w0 w:World) (R M B:Nat) (st:gu) (u:eL) (m:eI) (h:fD w0 w R st) (hm:lj B w M u m) (PJ:R < B) (Nt:R≠M) (OH:w0.heap.size <=M):
  Calls prog 111 #[.pointer (some ⟨R,0,none⟩), .pointer (some ⟨M,0,none⟩), .int .i64 3] w (mz w0 w R M B 3 st m):=by
 have Nf:=h.lt;have L8:=(an w.heap.size w).alloc (ag _) (.cells #[.pointer (some ⟨R,0,none⟩)] 188);have HH:=V (h.below L8);have HM:=V (hm.below L8);have QM:=V hm;have HA:=V (eP.new w #[.pointer (some ⟨R,0,none⟩)] 188);have HK:=V ((ee.refl (fun k=>k=R\/k=M) w).alloc (.cells #[.pointer (some ⟨R,0,none⟩)] 188));have a0:=HA.out.cell 0;simp only [aI,aG]at a0;clear h hm L8;go_enter func111,ntmps111;go_wp2_with fail;clear a0;have QN:M < B:=HM.out.2.2.2.1;have QI:B <=w.heap.size:=QM.out.2.2.2.2;generalize w.alloc (.cells #[.pointer (some ⟨R,0,none⟩)] 188)=wa at HH HM HA HK⊢;refine(oq w0 R vN iP oP st wa 110 #[.pointer (some ⟨R,0,none⟩)] #[] (fun _ _=>by rfl) HH.out (fun s w1 h _=>FH w0 w1 R s h)).mono ?_;rintro e w2 ⟨v,l,rfl,ho,hp,hl,hw,hh,hk⟩;obtain⟨a,cap,rfl,-,-⟩:=ho.slice;have HO:=V ho;have HP:=V hp;have HW:=V hw;have HH:=V hh;have MO:=V (HM.out.keeps hk (fun i hi=> .inl (by omega)) (fun h=>Nt h.symm));have HK:=V (HK.out.trans hk (fun _ h=> .inl (.inl h)));have x0:=MO.out.1.cell 2;have z0:=MO.out.1.free 2;simp only [eL.cells,aI,aG,aU]at x0;clear ho hp hw hh hk;go_wp2_with fail
 go_end0
 have Lt:=eC w2 M 2 (.slice a l.length cap);have OI:B <=wa.heap.size:=HM.out.2.2.2.2;refine⟨{u with funcs:= .slice a l.length cap},{m with funcs:=l},rfl,MO.out.put rfl ?_ (fun⟨h1,h2,h3,h4,h5,h6,h7,h8,k1,k2,k3,k4,k5,k6⟩=>⟨h1,h2,tv fH HO.out OI QN,h4,h5,h6,h7,h8,k1,HP.out,k3,k4,k5,k6⟩),?_,?_,HK.out.trans Lt (fun _ h=> .inl (.inr h))⟩
 ·exact MO.out.2.2.1
 ·rw [Eg]
  exact fK (f:=fun x=>{m with funcs:=x}) HW.out
 ·rw [Eg,fG]
  exact HH.out.keeps Lt (fun h=>Nt h) (fun i hi=>by subst hi;exact OH)
theorem Kn (w0 w:World) (R M B:Nat) (st:gu) (u:eL) (m:eI) (h:fD w0 w R st) (hm:lj B w M u m) (PJ:R < B) (Nt:R≠M) (OH:w0.heap.size <=M):
  Calls prog 111 #[.pointer (some ⟨R,0,none⟩), .pointer (some ⟨M,0,none⟩), .int .i64 4] w (mz w0 w R M B 4 st m):=by
 have Nf:=h.lt;have L8:=(an w.heap.size w).alloc (ag _) (.cells #[.pointer (some ⟨R,0,none⟩)] 188);have HH:=V (h.below L8);have HM:=V (hm.below L8);have QM:=V hm;have HA:=V (eP.new w #[.pointer (some ⟨R,0,none⟩)] 188);have HK:=V ((ee.refl (fun k=>k=R\/k=M) w).alloc (.cells #[.pointer (some ⟨R,0,none⟩)] 188));have a0:=HA.out.cell 0;simp only [aI,aG]at a0;clear h hm L8;go_enter func111,ntmps111;go_wp2_with fail;clear a0;have QN:M < B:=HM.out.2.2.2.1;generalize w.alloc (.cells #[.pointer (some ⟨R,0,none⟩)] 188)=wa at HH HM HA HK⊢;refine(sW w0 wa R true st HH.out).mono ?_;rintro e w2 ⟨x,rfl,Ly,hw,hh,hk⟩;have ME:=V Ly;have HW:=V hw;have HH:=V hh;have MO:=V (HM.out.keeps hk (fun i hi=> .inl (by omega)) (fun h=>Nt h.symm));have HK:=V (HK.out.trans hk (fun _ h=> .inl (.inl h)));have x0:=MO.out.1.cell 3;have z0:=MO.out.1.free 3;have x1:=MO.out.1.cell 4;have z1:=MO.out.1.free 4;have x2:=MO.out.1.cell 5;have z2:=MO.out.1.free 5;simp only [eL.cells,aI,aG,aU]at x0 x1 x2;clear Ly hw hh hk;go_wp2_with fail
 go_end0
 obtain⟨hmd,Lt⟩:=lj.tH (u':=u) (m':={m with table:=x}) (i:=3) (v0:= .bool x.has) (v1:= .int .i64 x.min) (v2:= .int .i64 x.max) MO.out rfl MO.out.2.2.1 (fun w' ⟨h1,h2,h3,h4,h5,h6,h7,h8,k1,k2,k3,k4,k5,k6⟩=>⟨h1,h2,h3,h4,h5,h6,h7,h8,k1,k2,ME.out,k4,k5,k6⟩);refine⟨u,{m with table:=x},rfl,hmd,?_,?_,HK.out.trans Lt (fun _ h=> .inl (.inr h))⟩
 ·rw [Gp]
  intro y hy;have hz:ie (hU (fun x=>({m with table:=x}:eI)) (hU kg (fC lx))) st {m with table:=x}:=fK HW.out;refine hz y ?_;rw [<- hy];cases st with
  | none=>rfl
  | some q=>simp only [az,hU];cases fC lx q <;>rfl
 ·rw [Gp,fG]
  exact HH.out.keeps Lt (fun h=>Nt h) (fun i hi=>by subst hi;exact OH)
theorem Kc (w0 w:World) (R M B:Nat) (st:gu) (u:eL) (m:eI) (h:fD w0 w R st) (hm:lj B w M u m) (PJ:R < B) (Nt:R≠M) (OH:w0.heap.size <=M):
  Calls prog 111 #[.pointer (some ⟨R,0,none⟩), .pointer (some ⟨M,0,none⟩), .int .i64 5] w (mz w0 w R M B 5 st m):=by
 have Nf:=h.lt;have L8:=(an w.heap.size w).alloc (ag _) (.cells #[.pointer (some ⟨R,0,none⟩)] 188);have HH:=V (h.below L8);have HM:=V (hm.below L8);have QM:=V hm;have HA:=V (eP.new w #[.pointer (some ⟨R,0,none⟩)] 188);have HK:=V ((ee.refl (fun k=>k=R\/k=M) w).alloc (.cells #[.pointer (some ⟨R,0,none⟩)] 188));have a0:=HA.out.cell 0;simp only [aI,aG]at a0;clear h hm L8;go_enter func111,ntmps111;go_wp2_with fail;clear a0;have QN:M < B:=HM.out.2.2.2.1;generalize w.alloc (.cells #[.pointer (some ⟨R,0,none⟩)] 188)=wa at HH HM HA HK⊢;refine(sW w0 wa R false st HH.out).mono ?_;rintro e w2 ⟨x,rfl,Ly,hw,hh,hk⟩;have ME:=V Ly;have HW:=V hw;have HH:=V hh;have MO:=V (HM.out.keeps hk (fun i hi=> .inl (by omega)) (fun h=>Nt h.symm));have HK:=V (HK.out.trans hk (fun _ h=> .inl (.inl h)));have x0:=MO.out.1.cell 6;have z0:=MO.out.1.free 6;have x1:=MO.out.1.cell 7;have z1:=MO.out.1.free 7;have x2:=MO.out.1.cell 8;have z2:=MO.out.1.free 8;simp only [eL.cells,aI,aG,aU]at x0 x1 x2;clear Ly hw hh hk;go_wp2_with fail
 go_end0
 obtain⟨hmd,Lt⟩:=lj.tH (u':=u) (m':={m with mem:=x}) (i:=6) (v0:= .bool x.has) (v1:= .int .i64 x.min) (v2:= .int .i64 x.max) MO.out rfl MO.out.2.2.1 (fun w' ⟨h1,h2,h3,h4,h5,h6,h7,h8,k1,k2,k3,k4,k5,k6⟩=>⟨h1,h2,h3,h4,h5,h6,h7,h8,k1,k2,k3,ME.out,k5,k6⟩);refine⟨u,{m with mem:=x},rfl,hmd,?_,?_,HK.out.trans Lt (fun _ h=> .inl (.inr h))⟩
 ·rw [Fs]
  intro y hy;have hz:ie (hU (fun x=>({m with mem:=x}:eI)) (hU kg (fC gy))) st {m with mem:=x}:=fK HW.out;refine hz y ?_;rw [<- hy];cases st with
  | none=>rfl
  | some q=>simp only [az,hU];cases fC gy q <;>rfl
 ·rw [Fs,fG]
  exact HH.out.keeps Lt (fun h=>Nt h) (fun i hi=>by subst hi;exact OH)
theorem KE (w0 w:World) (R M B:Nat) (st:gu) (u:eL) (m:eI) (h:fD w0 w R st) (hm:lj B w M u m) (PJ:R < B) (Nt:R≠M) (OH:w0.heap.size <=M):
  Calls prog 111 #[.pointer (some ⟨R,0,none⟩), .pointer (some ⟨M,0,none⟩), .int .i64 6] w (mz w0 w R M B 6 st m):=by
 have Nf:=h.lt;have L8:=(an w.heap.size w).alloc (ag _) (.cells #[.pointer (some ⟨R,0,none⟩)] 188);have HH:=V (h.below L8);have HM:=V (hm.below L8);have QM:=V hm;have HA:=V (eP.new w #[.pointer (some ⟨R,0,none⟩)] 188);have HK:=V ((ee.refl (fun k=>k=R\/k=M) w).alloc (.cells #[.pointer (some ⟨R,0,none⟩)] 188));have a0:=HA.out.cell 0;simp only [aI,aG]at a0;clear h hm L8;go_enter func111,ntmps111;go_wp2_with fail;clear a0;have QN:M < B:=HM.out.2.2.2.1;have QI:B <=w.heap.size:=QM.out.2.2.2.2;generalize w.alloc (.cells #[.pointer (some ⟨R,0,none⟩)] 188)=wa at HH HM HA HK⊢;refine(Ik w0 R pM (fun x=>x.init.ok) wY st wa 216 #[.pointer (some ⟨R,0,none⟩)] #[] (fun _ _=>by rfl) HH.out (fun s w1 h _=>Bi w0 w1 R s h)).mono ?_;rintro e w2 ⟨v,l,rfl,ho,hp,hl,hw,hh,hk⟩;obtain⟨a,cap,rfl,-,-⟩:=ho.slice;have HO:=V ho;have HP:=V hp;have HW:=V hw;have HH:=V hh;have MO:=V (HM.out.keeps hk (fun i hi=> .inl (by omega)) (fun h=>Nt h.symm));have HK:=V (HK.out.trans hk (fun _ h=> .inl (.inl h)));have x0:=MO.out.1.cell 9;have z0:=MO.out.1.free 9;simp only [eL.cells,aI,aG,aU]at x0;clear ho hp hw hh hk;go_wp2_with fail
 go_end0
 have Lt:=eC w2 M 9 (.slice a l.length cap);have OI:B <=wa.heap.size:=HM.out.2.2.2.2;refine⟨{u with globals:= .slice a l.length cap},{m with globals:=l},rfl,MO.out.put rfl ?_ (fun⟨h1,h2,h3,h4,h5,h6,h7,h8,k1,k2,k3,k4,k5,k6⟩=>⟨h1,h2,h3,tv za HO.out OI QN,h5,h6,h7,h8,k1,k2,k3,k4,HP.out,k6⟩),?_,?_,HK.out.trans Lt (fun _ h=> .inl (.inr h))⟩
 ·exact MO.out.2.2.1
 ·rw [GG]
  exact fK (f:=fun x=>{m with globals:=x}) HW.out
 ·rw [GG,fG]
  exact HH.out.keeps Lt (fun h=>Nt h) (fun i hi=>by subst hi;exact OH)
theorem Ka (w0 w:World) (R M B:Nat) (st:gu) (u:eL) (m:eI) (h:fD w0 w R st) (hm:lj B w M u m) (PJ:R < B) (Nt:R≠M) (OH:w0.heap.size <=M):
  Calls prog 111 #[.pointer (some ⟨R,0,none⟩), .pointer (some ⟨M,0,none⟩), .int .i64 7] w (mz w0 w R M B 7 st m):=by
 have Nf:=h.lt;have L8:=(an w.heap.size w).alloc (ag _) (.cells #[.pointer (some ⟨R,0,none⟩)] 188);have HH:=V (h.below L8);have HM:=V (hm.below L8);have QM:=V hm;have HA:=V (eP.new w #[.pointer (some ⟨R,0,none⟩)] 188);have HK:=V ((ee.refl (fun k=>k=R\/k=M) w).alloc (.cells #[.pointer (some ⟨R,0,none⟩)] 188));have a0:=HA.out.cell 0;simp only [aI,aG]at a0;clear h hm L8;go_enter func111,ntmps111;go_wp2_with fail;clear a0;have QN:M < B:=HM.out.2.2.2.1;have QI:B <=w.heap.size:=QM.out.2.2.2.2;generalize w.alloc (.cells #[.pointer (some ⟨R,0,none⟩)] 188)=wa at HH HM HA HK⊢;refine(IC w0 R um iO.fits An st wa 218 #[.pointer (some ⟨R,0,none⟩)] #[] (fun _ _=>by rfl) HH.out (fun s w1 h _=>Bf w0 w1 R s h)).mono ?_;rintro e w2 ⟨v,l,rfl,ho,hp,hl,hw,hh,hk⟩;obtain⟨a,cap,rfl,-,-⟩:=ho.slice;have HO:=V ho;have HP:=V hp;have HW:=V hw;have HH:=V hh;have MO:=V (HM.out.keeps hk (fun i hi=> .inl (by omega)) (fun h=>Nt h.symm));have HK:=V (HK.out.trans hk (fun _ h=> .inl (.inl h)));have x0:=MO.out.1.cell 10;have z0:=MO.out.1.free 10;simp only [eL.cells,aI,aG,aU]at x0;clear ho hp hw hh hk;go_wp2_with fail
 go_end0
 have Lt:=eC w2 M 10 (.slice a l.length cap);have OI:B <=wa.heap.size:=HM.out.2.2.2.2;refine⟨{u with ep:= .slice a l.length cap},{m with ep:=l},rfl,MO.out.put rfl ?_ (fun⟨h1,h2,h3,h4,h5,h6,h7,h8,k1,k2,k3,k4,k5,k6⟩=>⟨h1,h2,h3,h4,tv zC HO.out OI QN,h6,h7,h8,k1,k2,k3,k4,k5,fun x hx=>(HP.out x hx).2⟩),?_,?_,HK.out.trans Lt (fun _ h=> .inl (.inr h))⟩
 ·exact⟨MO.out.2.2.1.1,IN HP.out⟩
 ·rw [GO]
  exact fK (f:=fun x=>{m with ep:=x}) HW.out
 ·rw [GO,fG]
  exact HH.out.keeps Lt (fun h=>Nt h) (fun i hi=>by subst hi;exact OH)
theorem JZ (w0 w:World) (R M B:Nat) (st:gu) (u:eL) (m:eI) (h:fD w0 w R st) (hm:lj B w M u m) (PJ:R < B) (Nt:R≠M) (OH:w0.heap.size <=M):
  Calls prog 111 #[.pointer (some ⟨R,0,none⟩), .pointer (some ⟨M,0,none⟩), .int .i64 9] w (mz w0 w R M B 9 st m):=by
 have Nf:=h.lt;have L8:=(an w.heap.size w).alloc (ag _) (.cells #[.pointer (some ⟨R,0,none⟩)] 188);have HH:=V (h.below L8);have HM:=V (hm.below L8);have QM:=V hm;have HA:=V (eP.new w #[.pointer (some ⟨R,0,none⟩)] 188);have HK:=V ((ee.refl (fun k=>k=R\/k=M) w).alloc (.cells #[.pointer (some ⟨R,0,none⟩)] 188));have a0:=HA.out.cell 0;simp only [aI,aG]at a0;clear h hm L8;go_enter func111,ntmps111;go_wp2_with fail;clear a0;have QN:M < B:=HM.out.2.2.2.1;have QI:B <=w.heap.size:=QM.out.2.2.2.2;generalize w.alloc (.cells #[.pointer (some ⟨R,0,none⟩)] 188)=wa at HH HM HA HK⊢;refine(Ie w0 R pk (fun _=>True) wJ st wa 220 #[] #[.pointer (some ⟨w.heap.size,0,none⟩)] (fun _ _=>by rfl) HH.out (fun s w1 h hk=>Jt w0 w1 R w.heap.size s h (HA.out.keeps hk (by omega)) Nf)).mono ?_;rintro e w2 ⟨v,l,rfl,ho,hp,hl,hw,hh,hk⟩;obtain⟨a,cap,rfl,-,-⟩:=et.slice (eZ.low uU (fun _ _ _ _ he h=>h.ext he) ho);have HO:=V ho;have HP:=V hp;have HW:=V hw;have HH:=V hh;have MO:=V (HM.out.keeps hk (fun i hi=> .inl (by omega)) (fun h=>Nt h.symm));have HK:=V (HK.out.trans hk (fun _ h=> .inl (.inl h)));have x0:=MO.out.1.cell 11;have z0:=MO.out.1.free 11;simp only [eL.cells,aI,aG,aU]at x0;clear ho hp hw hh hk;go_wp2_with fail
 go_end0
 have Lt:=eC w2 M 11 (.slice a l.length cap);have OI:B <=wa.heap.size:=HM.out.2.2.2.2;refine⟨{u with elems:= .slice a l.length cap},{m with elems:=l},rfl,MO.out.put rfl ?_ (fun⟨h1,h2,h3,h4,h5,h6,h7,h8,k1,k2,k3,k4,k5,k6⟩=>⟨h1,h2,h3,h4,h5,tD uU (fun _ _ _ _ he h=>h.ext he) HO.out OI QN,h7,h8,k1,k2,k3,k4,k5,k6⟩),?_,?_,HK.out.trans Lt (fun _ h=> .inl (.inr h))⟩
 ·exact MO.out.2.2.1
 ·rw [GX]
  exact fK (f:=fun x=>{m with elems:=x}) HW.out
 ·rw [GX,fG]
  exact HH.out.keeps Lt (fun h=>Nt h) (fun i hi=>by subst hi;exact OH)
theorem Jz (w0 w:World) (R M B:Nat) (st:gu) (u:eL) (m:eI) (h:fD w0 w R st) (hm:lj B w M u m) (PJ:R < B) (Nt:R≠M) (OH:w0.heap.size <=M):
  Calls prog 111 #[.pointer (some ⟨R,0,none⟩), .pointer (some ⟨M,0,none⟩), .int .i64 10] w (mz w0 w R M B 10 st m):=by
 have Nf:=h.lt;have L8:=(an w.heap.size w).alloc (ag _) (.cells #[.pointer (some ⟨R,0,none⟩)] 188);have HH:=V (h.below L8);have HM:=V (hm.below L8);have QM:=V hm;have HA:=V (eP.new w #[.pointer (some ⟨R,0,none⟩)] 188);have HK:=V ((ee.refl (fun k=>k=R\/k=M) w).alloc (.cells #[.pointer (some ⟨R,0,none⟩)] 188));have a0:=HA.out.cell 0;simp only [aI,aG]at a0;clear h hm L8;go_enter func111,ntmps111;go_wp2_with fail;clear a0;have QN:M < B:=HM.out.2.2.2.1;have QI:B <=w.heap.size:=QM.out.2.2.2.2;generalize w.alloc (.cells #[.pointer (some ⟨R,0,none⟩)] 188)=wa at HH HM HA HK⊢;refine(Hq w0 R mq (fun _=>True) xt st wa 223 #[.pointer (some ⟨R,0,none⟩)] #[] (fun _ _=>by rfl) HH.out (fun s w1 h _=>Ff w0 w1 R s h)).mono ?_;rintro e w2 ⟨v,l,rfl,ho,hp,hl,hw,hh,hk⟩;obtain⟨a,cap,rfl,-,-⟩:=et.slice (eZ.low vx (fun _ _ _ _ he h=>h.ext he) ho);have HO:=V ho;have HP:=V hp;have HW:=V hw;have HH:=V hh;have MO:=V (HM.out.keeps hk (fun i hi=> .inl (by omega)) (fun h=>Nt h.symm));have HK:=V (HK.out.trans hk (fun _ h=> .inl (.inl h)));have x0:=MO.out.1.cell 12;have z0:=MO.out.1.free 12;simp only [eL.cells,aI,aG,aU]at x0;clear ho hp hw hh hk;go_wp2_with fail
 go_end0
 have Lt:=eC w2 M 12 (.slice a l.length cap);have OI:B <=wa.heap.size:=HM.out.2.2.2.2;refine⟨{u with eA:= .slice a l.length cap},{m with eA:=l},rfl,MO.out.put rfl ?_ (fun⟨h1,h2,h3,h4,h5,h6,h7,h8,k1,k2,k3,k4,k5,k6⟩=>⟨h1,h2,h3,h4,h5,h6,tD vx (fun _ _ _ _ he h=>h.ext he) HO.out OI QN,h8,k1,k2,k3,k4,k5,k6⟩),?_,?_,HK.out.trans Lt (fun _ h=> .inl (.inr h))⟩
 ·exact MO.out.2.2.1
 ·rw [BT]
  exact fK (f:=fun x=>{m with eA:=x}) HW.out
 ·rw [BT,fG]
  exact HH.out.keeps Lt (fun h=>Nt h) (fun i hi=>by subst hi;exact OH)
theorem Jp (w0 w:World) (R M B:Nat) (st:gu) (u:eL) (m:eI) (h:fD w0 w R st) (hm:lj B w M u m) (PJ:R < B) (Nt:R≠M) (OH:w0.heap.size <=M):
  Calls prog 111 #[.pointer (some ⟨R,0,none⟩), .pointer (some ⟨M,0,none⟩), .int .i64 11] w (mz w0 w R M B 11 st m):=by
 have Nf:=h.lt;have L8:=(an w.heap.size w).alloc (ag _) (.cells #[.pointer (some ⟨R,0,none⟩)] 188);have HH:=V (h.below L8);have HM:=V (hm.below L8);have QM:=V hm;have HA:=V (eP.new w #[.pointer (some ⟨R,0,none⟩)] 188);have HK:=V ((ee.refl (fun k=>k=R\/k=M) w).alloc (.cells #[.pointer (some ⟨R,0,none⟩)] 188));have a0:=HA.out.cell 0;simp only [aI,aG]at a0;clear h hm L8;go_enter func111,ntmps111;go_wp2_with fail;clear a0;have QN:M < B:=HM.out.2.2.2.1;have QI:B <=w.heap.size:=QM.out.2.2.2.2;generalize w.alloc (.cells #[.pointer (some ⟨R,0,none⟩)] 188)=wa at HH HM HA HK⊢;refine(Hr w0 R uz (fun _=>True) zL st wa 225 #[] #[.pointer (some ⟨w.heap.size,0,none⟩)] (fun _ _=>by rfl) HH.out (fun s w1 h hk=>Kx w0 w1 R w.heap.size s h (HA.out.keeps hk (by omega)) Nf)).mono ?_;rintro e w2 ⟨v,l,rfl,ho,hp,hl,hw,hh,hk⟩;obtain⟨a,cap,rfl,-,-⟩:=et.slice (eZ.low rR (fun _ _ _ _ he h=>h.ext he) ho);have HO:=V ho;have HP:=V hp;have HW:=V hw;have HH:=V hh;have MO:=V (HM.out.keeps hk (fun i hi=> .inl (by omega)) (fun h=>Nt h.symm));have HK:=V (HK.out.trans hk (fun _ h=> .inl (.inl h)));have x0:=MO.out.1.cell 13;have z0:=MO.out.1.free 13;simp only [eL.cells,aI,aG,aU]at x0;clear ho hp hw hh hk;go_wp2_with fail
 go_end0
 have Lt:=eC w2 M 13 (.slice a l.length cap);have OI:B <=wa.heap.size:=HM.out.2.2.2.2;refine⟨{u with eK:= .slice a l.length cap},{m with eK:=l},rfl,MO.out.put rfl ?_ (fun⟨h1,h2,h3,h4,h5,h6,h7,h8,k1,k2,k3,k4,k5,k6⟩=>⟨h1,h2,h3,h4,h5,h6,h7,tD rR (fun _ _ _ _ he h=>h.ext he) HO.out OI QN,k1,k2,k3,k4,k5,k6⟩),?_,?_,HK.out.trans Lt (fun _ h=> .inl (.inr h))⟩
 ·exact MO.out.2.2.1
 ·rw [BK]
  exact fK (f:=fun x=>{m with eK:=x}) HW.out
 ·rw [BK,fG]
  exact HH.out.keeps Lt (fun h=>Nt h) (fun i hi=>by subst hi;exact OH)
theorem Kj (w0 w:World) (R M B:Nat) (no:Nat) (st:gu) (u:eL) (m:eI) (h:fD w0 w R st) (hm:lj B w M u m) (PJ:R < B) (Nt:R≠M) (OB:no=0\/no=8\/11 < no):
  Calls prog 111 #[.pointer (some ⟨R,0,none⟩), .pointer (some ⟨M,0,none⟩), .int .i64 no] w (mz w0 w R M B no st m):=by
 have L8:=(an w.heap.size w).alloc (ag _) (.cells #[.pointer (some ⟨R,0,none⟩)] 188);have HH:=V (h.below L8);have HM:=V (hm.below L8);have HA:=V (eP.new w #[.pointer (some ⟨R,0,none⟩)] 188);have HK:=V ((ee.refl (fun k=>k=R\/k=M) w).alloc (.cells #[.pointer (some ⟨R,0,none⟩)] 188));have a0:=HA.out.cell 0;simp only [aI,aG]at a0;have c1:=HH.out.bad;have z1:=HH.out.free 1;have f1:((no:Int)==1)=false:=ed (by omega);have f2:((no:Int)==2)=false:=ed (by omega);have f3:((no:Int)==3)=false:=ed (by omega);have f4:((no:Int)==4)=false:=ed (by omega);have f5:((no:Int)==5)=false:=ed (by omega);have f6:((no:Int)==6)=false:=ed (by omega);have f7:((no:Int)==7)=false:=ed (by omega);have f9:((no:Int)==9)=false:=ed (by omega);have f10:((no:Int)==10)=false:=ed (by omega);have f11:((no:Int)==11)=false:=ed (by omega);have HNO:=V (fun l=>xm (n:=no) m l OB);clear h hm L8 OB;go_enter func111,ntmps111;go_wp2_with fail
 go_end0
 have Lt:=eC (w.alloc (.cells #[.pointer (some ⟨R,0,none⟩)] 188)) R 1 (.bool true);have hN:st.bind (kb no m)=none:=by
  cases st with
  | none=>rfl
  | some l=>exact HNO.out l
 refine⟨u,m,rfl,HM.out.keeps Lt (fun i hi=> .inl (by omega)) (fun h=>Nt h.symm),fun y hy=>(by rw [hN]at hy;cases hy),?_,HK.out.trans Lt (fun _ h=> .inl (.inl h))⟩;rw [show ez (kb no m) st=none by unfold ez;rw [hN];rfl];exact HH.out.fail
theorem y8 (w0 w:World) (R M B:Nat) (no:Nat) (st:gu) (u:eL) (m:eI) (h:fD w0 w R st) (hm:lj B w M u m) (PJ:R < B) (Nt:R≠M) (OH:w0.heap.size <=M):
  Calls prog 111 #[.pointer (some ⟨R,0,none⟩), .pointer (some ⟨M,0,none⟩), .int .i64 no] w (mz w0 w R M B no st m):=by
 by_cases OB:no=0\/no=8\/11 < no
 ·exact Kj w0 w R M B no st u m h hm PJ Nt OB
 ·have h2:no=1\/no=2\/no=3\/no=4\/no=5\/no=6\/no=7\/no=9\/no=10\/no=11:=by omega
  rcases h2 with rfl | rfl | rfl | rfl | rfl | rfl | rfl | rfl | rfl | rfl
  ·exact JY w0 w R M B st u m h hm PJ Nt OH
  ·exact Km w0 w R M B st u m h hm PJ Nt OH
  ·exact J0 w0 w R M B st u m h hm PJ Nt OH
  ·exact Kn w0 w R M B st u m h hm PJ Nt OH
  ·exact Kc w0 w R M B st u m h hm PJ Nt OH
  ·exact KE w0 w R M B st u m h hm PJ Nt OH
  ·exact Ka w0 w R M B st u m h hm PJ Nt OH
  ·exact JZ w0 w R M B st u m h hm PJ Nt OH
  ·exact Jz w0 w R M B st u m h hm PJ Nt OH
  ·exact Jp w0 w R M B st u m h hm PJ Nt OH
def IH (l:List UInt8) (w:World) (e:Ending) (w':World):Prop:=e= .returned (.bool (l.take 8==fL))/\w'=w
theorem AP (l:List UInt8) (n:Nat):(bs l).extract 0 n=bs (l.take n):=by
 apply ByteArray.ext;simp [bs]
theorem vP (l:List UInt8) (hl:l.length <=1000000) (w:World):Calls prog 107 #[.string (bs l), .string (bs fL)] w (IH l w):=by
 have hs:(bs l).size=l.length:=CH l;have hh:(bs fL).size=8:=rfl;by_cases q:8 <=l.length
 ·have f1:decide ((8:Int) <=(l.length:Int))=true:=aA (by omega)
  have f2:decide (8 <=l.length)=true:=aA q;have he:=AP l 8;go_enter func107,ntmps107;go_wp2;go_ret;refine⟨?_,rfl⟩;show Ending.returned (.bool ((bs (l.take 8)).toList==(bs fL).toList))=_;rw [lR,lR]
 ·have f1:decide ((8:Int) <=(l.length:Int))=false:=aq (by omega)
  have f2:decide (8 <=l.length)=false:=aq q;go_enter func107,ntmps107;go_wp2;go_ret;refine⟨?_,rfl⟩;have h:(l.take 8==fL)=false:=dC.2 (fun h=>by
   have:=cX List.length h;rw [aS,show fL.length=8 from rfl]at this;omega)
  rw [h];rfl
def qL (l:List UInt8):Option eI:=(mL l).bind fun m=>if m.may/\fJ m=l then some m else none
def u0:eL:=⟨.slice none 0 0, .slice none 0 0, .slice none 0 0, .slice none 0 0, .slice none 0 0, .slice none 0 0, .slice none 0 0, .slice none 0 0⟩
theorem sn (w:World):eD w u0 m0:=
 ⟨et.nil _,ew.nil _,ew.nil _,ew.nil _,ew.nil _,et.nil _,et.nil _,et.nil _,by simp [m0],by simp [m0],nV,nV,by simp [m0],by simp [m0]⟩
theorem Ga:m0.words:=⟨by simp [m0],by simp [m0]⟩
def Iv (l:List UInt8) (w:World) (e:Ending) (w':World):Prop:=
 Below w.heap.size w w'/\((∃u m,qL l=some m/\e= .returned (.tuple #[.agg (u.cells m), .int .i64 0])/\eD (mask (kX w.heap.size) w') u m/\m.words)\/
  (qL l=none/\e= .returned (.tuple #[.agg (u0.cells m0), .int .i64 (if 8000 < l.length then 4 else 1)])))
theorem D9 {c:UInt8} {rest:List UInt8} {f:Nat} {m m':eI} (hw:ie (kb c.toNat m) (ez gq (some rest)) m'):
  (some (c::rest):gu).bind (oc (f+1) m)=(ez (kb c.toNat m) (ez gq (some rest))).bind (oc f m'):=by
 simp only [az,oc];cases h:gq rest with
 | none=>simp [ez,h]
 | some k=>
  have h2:ez gq (some rest)=some k.2:=by simp [ez,h]
  rw [h2]at hw⊢;simp only [az];cases h3:kb c.toNat m k.2 with
  | none=>simp [ez,h3]
  | some x=>
   have:=hw x (by simpa using h3);subst this;simp [ez,h3]
theorem wj {l:List UInt8} (hl:l.length <=8000):mL l=(iJ 8 true (if(l.take 8==fL)=true then some l else none)).bind (oc (l.length+1) m0):=by
 unfold mL;rw [aC (by omega)];by_cases q:l.take 8=fL
 ·have h8:8 <=l.length:=by
   have:=cX List.length q;rw [aS,show fL.length=8 from rfl]at this;omega
  rw [aJ q,aJ (by simp [q])];simp [iJ,h8]
 ·rw [aC q,aC (by simp [q])]
  rfl
def EO (w:World) (R:Nat):Nat:=match w.cell? ⟨R,1,none⟩,w.cell? ⟨R,0,none⟩with
 | some (.bool false),some (.slice _ n _)=>n+1
 | _,_=>0
theorem fD.left {w0 w:World} {R:Nat} {s:gu} (h:fD w0 w R s):EO w R=s.len:=by
 obtain⟨a,l,cap,bad,h1,h2,h3,h4,h5,h6⟩:=h;subst h4;unfold EO;rw [h1.cell 1,h1.cell 0];cases bad <;>rfl
def KM (l:List UInt8) (X M R B:Nat) (w w':World) (u:eL) (m:eI) (s:gu) (f:Nat):Prop:=
 mL l=s.bind (oc f m)/\s.len <=f/\fD w w' R s/\lj B w' M u m/\eP w' X (u0.cells m0) 62/\Below w.heap.size w w'
theorem eP.mH {w:World} {X:Nat} {u:eL} {m:eI} {t:TypeId} (h:eP w X (u.cells m) t):(loadVar 62 ⟨X,0,none⟩).run prog w= .ok (.agg (u.cells m)) w:=by
 have hs:(prog.underlying 62).map (fun d=>match d with | .struct _ | .array _ _=>true | _=>false)=some true:=by kernel_rfl
 obtain⟨d,h1,h2⟩:=bC.1 hs;exact bZ w X t 62 _ _ d h h1 (by cases d <;>first | rfl | (exfalso;simp at h2)) (by kernel_rfl)
def oC (w:World) (X:Nat) (u:eL) (m:eI):World:=
 (((((((((((((w.setCell ⟨X,0,none⟩ u.types).setCell ⟨X,1,none⟩ u.imports).setCell ⟨X,2,none⟩ u.funcs).setCell ⟨X,3,none⟩ (.bool m.table.has)).setCell ⟨X,4,none⟩ (.int .i64 m.table.min)).setCell ⟨X,5,none⟩ (.int .i64 m.table.max)).setCell ⟨X,6,none⟩ (.bool m.mem.has)).setCell ⟨X,7,none⟩ (.int .i64 m.mem.min)).setCell ⟨X,8,none⟩ (.int .i64 m.mem.max)).setCell ⟨X,9,none⟩ u.globals).setCell ⟨X,10,none⟩ u.ep).setCell ⟨X,11,none⟩ u.elems).setCell ⟨X,12,none⟩ u.eA).setCell ⟨X,13,none⟩ u.eK
theorem kR (w:World) (X:Nat) (u:eL) (m:eI):ee (fun k=>k=X) w (oC w X u m):=by
 have st:∀{a b:World} (i:Nat) (v:Value),ee (fun k=>k=X) a b ->ee (fun k=>k=X) a (b.setCell ⟨X,i,none⟩ v):=fun i v h=>h.trans (eC _ X i v) (fun _ h=> .inl h);exact st _ _ (st _ _ (st _ _ (st _ _ (st _ _ (st _ _ (st _ _ (st _ _ (st _ _ (st _ _ (st _ _ (st _ _ (st _ _ (st _ _ (ee.refl _ _))))))))))))))
theorem eP.oC {w:World} {X:Nat} {u':eL} {m':eI} {t:TypeId} (h:eP w X (u'.cells m') t) (u:eL) (m:eI):eP (oC w X u m) X (u.cells m) t:=by
 have h1:=(((((((((((((h.set 0 u.types).set 1 u.imports).set 2 u.funcs).set 3 (.bool m.table.has)).set 4 (.int .i64 m.table.min)).set 5 (.int .i64 m.table.max)).set 6 (.bool m.mem.has)).set 7 (.int .i64 m.mem.min)).set 8 (.int .i64 m.mem.max)).set 9 u.globals).set 10 u.ep).set 11 u.elems).set 12 u.eA).set 13 u.eK;simp only [eL.cells,bj,bE,bH]at h1;exact h1
theorem eP.vr {w:World} {X:Nat} {xs:Array Value} {t:TypeId} (h:eP w X xs t):w.frozen? ⟨X,0,none⟩=false/\w.frozen? ⟨X,1,none⟩=false/\w.frozen? ⟨X,2,none⟩=false/\w.frozen? ⟨X,3,none⟩=false/\w.frozen? ⟨X,4,none⟩=false/\w.frozen? ⟨X,5,none⟩=false/\w.frozen? ⟨X,6,none⟩=false/\w.frozen? ⟨X,7,none⟩=false/\w.frozen? ⟨X,8,none⟩=false/\w.frozen? ⟨X,9,none⟩=false/\w.frozen? ⟨X,10,none⟩=false/\w.frozen? ⟨X,11,none⟩=false/\w.frozen? ⟨X,12,none⟩=false/\w.frozen? ⟨X,13,none⟩=false:=
 ⟨h.free 0,h.free 1,h.free 2,h.free 3,h.free 4,h.free 5,h.free 6,h.free 7,h.free 8,h.free 9,h.free 10,h.free 11,h.free 12,h.free 13⟩
theorem qF (b:Value) (l:List UInt8) (w:World) (hb:eW w b l) (Pa:l.length <=1000000):Calls prog 68 #[b] w (Iv l w):=by
 have HB:=V hb;obtain⟨a,cap,rfl,Mk,NZ,-⟩:=id hb;clear hb;by_cases q:8000 < l.length
 ·have f1:decide ((8000:Int) < (l.length:Int))=true:=aA (by omega)
  have f2:decide (8000 < l.length)=true:=aA q;have HX:=V (show eP (w.alloc (.cells (u0.cells m0) 62)) w.heap.size (u0.cells m0) 62 from eP.new w _ _);have HD:=V (show qL l=none by simp [qL,mL,q]);go_enter func68,ntmps68;obtain⟨p0,p1,p2,p3,p4,p5,p6,p7,p8,p9,p10,p11,p12,p13⟩:=HX.out.mod;obtain⟨q0,q1,q2,q3,q4,q5,q6,q7,q8,q9,q10,Ph,q12,q13⟩:=HX.out.vr;go_wp2_with fail;refine aN (fu rfl _ _ rfl HX.out.mH) rfl ?_;exact⟨(an _ _).alloc (ag _) _, .inr ⟨HD.out,by rw [aJ q];rfl⟩⟩
 have f1:decide ((8000:Int) < (l.length:Int))=false:=aq (by omega);have f2:decide (8000 < l.length)=false:=aq q;have Ls:=V (wj (l:=l) (by omega));have Lr:Below w.heap.size w ((w.alloc (.cells #[.slice none 0 0, .slice none 0 0, .slice none 0 0, .bool false, .int .i64 0, .int .i64 0, .bool false, .int .i64 0, .int .i64 0, .slice none 0 0, .slice none 0 0, .slice none 0 0, .slice none 0 0, .slice none 0 0] 62)).alloc (.cells #[.slice none 0 0, .slice none 0 0, .slice none 0 0, .bool false, .int .i64 0, .int .i64 0, .bool false, .int .i64 0, .int .i64 0, .slice none 0 0, .slice none 0 0, .slice none 0 0, .slice none 0 0, .slice none 0 0] 62)):=((an _ _).alloc (ag _) _).alloc (by rw [aE];omega) _;have hstr:=qa (HB.out.below Lr);clear Lr;go_enter func68,ntmps68;go_wp2_with fail;refine(vP l Pa _).mono ?_;rintro e w1 ⟨rfl,rfl⟩;obtain⟨pb,hpb⟩:∃pb,(l.take 8==fL)=pb:=⟨_,rfl⟩;rw [hpb];rw [hpb]at Ls;clear hpb hstr;go_wp2_with fail;obtain⟨bad,hbad⟩:∃bad,(!pb)=bad:=⟨_,rfl⟩;rw [hbad];have Ls:=V (show mL l=(iJ 8 true (if bad=true then none else some l)).bind (oc (l.length+1) m0)by
  rw [Ls.out, <- hbad];cases pb <;>rfl)
 clear hbad;have hX:=eP.new w #[.slice none 0 0, .slice none 0 0, .slice none 0 0, .bool false, .int .i64 0, .int .i64 0, .bool false, .int .i64 0, .int .i64 0, .slice none 0 0, .slice none 0 0, .slice none 0 0, .slice none 0 0, .slice none 0 0] 62;have hM:=eP.new (w.alloc (.cells #[.slice none 0 0, .slice none 0 0, .slice none 0 0, .bool false, .int .i64 0, .int .i64 0, .bool false, .int .i64 0, .int .i64 0, .slice none 0 0, .slice none 0 0, .slice none 0 0, .slice none 0 0, .slice none 0 0] 62)) #[.slice none 0 0, .slice none 0 0, .slice none 0 0, .bool false, .int .i64 0, .int .i64 0, .bool false, .int .i64 0, .int .i64 0, .slice none 0 0, .slice none 0 0, .slice none 0 0, .slice none 0 0, .slice none 0 0] 62;have hR:=eP.new ((w.alloc (.cells #[.slice none 0 0, .slice none 0 0, .slice none 0 0, .bool false, .int .i64 0, .int .i64 0, .bool false, .int .i64 0, .int .i64 0, .slice none 0 0, .slice none 0 0, .slice none 0 0, .slice none 0 0, .slice none 0 0] 62)).alloc (.cells #[.slice none 0 0, .slice none 0 0, .slice none 0 0, .bool false, .int .i64 0, .int .i64 0, .bool false, .int .i64 0, .int .i64 0, .slice none 0 0, .slice none 0 0, .slice none 0 0, .slice none 0 0, .slice none 0 0] 62)) #[.slice a l.length cap, .bool bad] 191;have hX:=(hX.alloc (.cells #[.slice none 0 0, .slice none 0 0, .slice none 0 0, .bool false, .int .i64 0, .int .i64 0, .bool false, .int .i64 0, .int .i64 0, .slice none 0 0, .slice none 0 0, .slice none 0 0, .slice none 0 0, .slice none 0 0] 62)).alloc (.cells #[.slice a l.length cap, .bool bad] 191);have hM:=hM.alloc (.cells #[.slice a l.length cap, .bool bad] 191);have hBW:Below w.heap.size w (((w.alloc (.cells #[.slice none 0 0, .slice none 0 0, .slice none 0 0, .bool false, .int .i64 0, .int .i64 0, .bool false, .int .i64 0, .int .i64 0, .slice none 0 0, .slice none 0 0, .slice none 0 0, .slice none 0 0, .slice none 0 0] 62)).alloc (.cells #[.slice none 0 0, .slice none 0 0, .slice none 0 0, .bool false, .int .i64 0, .int .i64 0, .bool false, .int .i64 0, .int .i64 0, .slice none 0 0, .slice none 0 0, .slice none 0 0, .slice none 0 0, .slice none 0 0] 62)).alloc (.cells #[.slice a l.length cap, .bool bad] 191)):=(((an _ _).alloc (ag _) _).alloc (by rw [aE];omega) _).alloc (by rw [aE,aE];omega) _;rw [aE]at hM;rw [aE,aE]at hR;generalize((w.alloc (.cells #[.slice none 0 0, .slice none 0 0, .slice none 0 0, .bool false, .int .i64 0, .int .i64 0, .bool false, .int .i64 0, .int .i64 0, .slice none 0 0, .slice none 0 0, .slice none 0 0, .slice none 0 0, .slice none 0 0] 62)).alloc (.cells #[.slice none 0 0, .slice none 0 0, .slice none 0 0, .bool false, .int .i64 0, .int .i64 0, .bool false, .int .i64 0, .int .i64 0, .slice none 0 0, .slice none 0 0, .slice none 0 0, .slice none 0 0, .slice none 0 0] 62)).alloc (.cells #[.slice a l.length cap, .bool bad] 191)=wa at hX hM hR hBW⊢;have Mo:fD w wa (w.heap.size+1+1) (if bad=true then none else some l):=⟨a,l,cap,bad,hR,HB.out,by omega,rfl,hBW,by omega⟩;have hmd:lj (w.heap.size+3) wa (w.heap.size+1) u0 m0:=⟨hM,sn _,Ga,by omega,by have:=hR.lt;omega⟩;have L4:=V Mo;have Qp:=V hmd;have HX:=V (show eP wa w.heap.size (u0.cells m0) 62 from hX);have L9:=V hBW;clear hX hM hR hBW Mo hmd;refine(lq w wa _ _ 8 true (by omega) L4.out).mono ?_;rintro e w1 ⟨rfl,h1,MA⟩;have L4:=V h1;have Qp:=V (Qp.out.keeps MA (fun i hi=> .inl (by omega)) (by omega));have HX:=V (HX.out.keeps MA (by omega));have L9:=V (L9.out.trans (MA.below L9.out.size (fun i hi=>by omega)));have hlen:(iJ 8 true (if bad=true then none else some l)).len <=l.length+1:=by
  cases bad with
  | true=>exact bA _
  | false=>
   simp only [iJ,cE,if_false,az];split
   ·simp only [gu.len,bu];omega
   ·exact bA _
 clear h1 MA;go_wp2_with fail;refine eJ (fun a' w'=>∃(u:eL) (m:eI) (s:gu) (f:Nat),a'=fr (.slice a l.length cap::gs a' 1 1 (.pointer (some ⟨w.heap.size,0,none⟩):: .int .i64 0:: .pointer (some ⟨w.heap.size+1,0,none⟩):: .pointer (some ⟨w.heap.size+1+1,0,none⟩)::gs a' 6 53 []))/\KM l w.heap.size (w.heap.size+1) (w.heap.size+1+1) (w.heap.size+3) w w' u m s f) (fun _ w'=>EO w' (w.heap.size+1+1)) ?_ ?_
 ·exact⟨u0,m0,_,l.length+1,rfl,Ls.out,hlen,L4.out,Qp.out,HX.out,L9.out⟩
 ·skip
  clear Ls hlen L4 Qp HX L9 w1;rintro R a' w1 ⟨u,m,s,f',Lp,hJ⟩ HR;dsimp only [fr,gs]at Lp;generalize slot a'=f at Lp;subst Lp;obtain⟨Mv,hlen,Mo,hmd,hx,Qv⟩:=hJ;have LX:=V Mv;have L4:=V Mo;have Qp:=V hmd;have HX:=V hx;have L9:=V Qv;have c1:=Mo.bad;clear Mv hmd hx Qv;cases s with
  | none=>
   have c1:w1.cell? ⟨w.heap.size+1+1,1,none⟩=some (.bool true):=c1;obtain⟨ar,lr,P4,badr,LK,-,-,-,-,-⟩:=Mo;have c0:w1.cell? ⟨w.heap.size+1+1,0,none⟩=some (.slice ar lr.length P4):=LK.cell 0;have HD:=V (show qL l=none by rw [qL,LX.out];rfl);clear LK hlen;by_cases q2:0 < lr.length
   ·have g1:decide ((0:Int) < (lr.length:Int))=true:=aA (by omega)
    have g2:decide (0 < lr.length)=true:=aA q2;clear q2;obtain⟨p0,p1,p2,p3,p4,p5,p6,p7,p8,p9,p10,p11,p12,p13⟩:=HX.out.mod;obtain⟨q0,q1,q2,q3,q4,q5,q6,q7,q8,q9,q10,Ph,q12,q13⟩:=HX.out.vr;go_wp2_with fail;have hx:=(HX.out.oC u0 m0).mH;have Lt:=kR w1 w.heap.size u0 m0;refine aN (fu rfl _ _ rfl hx) rfl ?_;exact⟨L9.out.trans (Lt.below L9.out.size (fun i hi=>by omega)), .inr ⟨HD.out,by rw [aC (by omega)];rfl⟩⟩
   ·have g1:decide ((0:Int) < (lr.length:Int))=false:=aq (by omega)
    have g2:decide (0 < lr.length)=false:=aq q2;clear q2;obtain⟨p0,p1,p2,p3,p4,p5,p6,p7,p8,p9,p10,p11,p12,p13⟩:=HX.out.mod;obtain⟨q0,q1,q2,q3,q4,q5,q6,q7,q8,q9,q10,Ph,q12,q13⟩:=HX.out.vr;go_wp2_with fail;have hx:=(HX.out.oC u0 m0).mH;have Lt:=kR w1 w.heap.size u0 m0;refine aN (fu rfl _ _ rfl hx) rfl ?_;exact⟨L9.out.trans (Lt.below L9.out.size (fun i hi=>by omega)), .inr ⟨HD.out,by rw [aC (by omega)];rfl⟩⟩
  | some lb=>
   have c1:w1.cell? ⟨w.heap.size+1+1,1,none⟩=some (.bool false):=c1;obtain⟨ar,P4,c0,-,hlb⟩:=Mo.some;clear Mo;cases lb with
   | nil=>
    have c0:w1.cell? ⟨w.heap.size+1+1,0,none⟩=some (.slice ar 0 P4):=c0;have hm:mL l=some m:=by
     rw [LX.out];obtain⟨f2,rfl⟩:∃f2,f'=f2+1:=⟨f' - 1,by simp only [gu.len,aL]at hlen;omega⟩;rfl
    have HMR:=V hm;have PM:=V Qp.out.2.1;obtain⟨a0,k0,a1,k1,a2,k2,a3,k3,a4,k4,a5,k5,a6,k6,a7,k7,rfl⟩:=eD.open Qp.out.2.1;have HMC:=V Qp.out.1;have HWD:=V Qp.out.2.2.1;have HMI:=V (eD.gh Qp.out.2.1);clear hm hlen LX Qp L4 hlb;obtain⟨g0,g1,g2,g3,g4,g5,g6,g7,g8,g9,Mb,Mc,Md,Me⟩:=HMC.out.mod;go_wp2_with fail;refine(ov m ⟨.slice a0 m.types.length k0, .slice a1 m.imports.length k1, .slice a2 m.funcs.length k2, .slice a3 m.globals.length k3, .slice a4 m.ep.length k4, .slice a5 m.elems.length k5, .slice a6 m.eA.length k6, .slice a7 m.eK.length k7⟩ w1 HMI.out HWD.out).mono ?_;rintro e w2 ⟨v,rfl,hv,hb⟩;have HX:=V (HX.out.below hb HX.out.lt);have HMC:=V (HMC.out.below hb HMC.out.lt);have L9:=V (L9.out.trans (hb.mono L9.out.size));have PM:=V (eD.below PM.out (Ce hb));have M5:=HB.out.below L9.out;clear g0 g1 g2 g3 g4 g5 g6 g7 g8 g9 Mb Mc Md Me c0 c1 hb;rcases hv with⟨M8,rfl⟩ | ⟨M8,hv⟩
    ·have HD:=V (show qL l=none by rw [qL,HMR.out];simp [M8])
     have e1:=bR (P:=prog) w2 97 5 none 0 0 0 0 (by kernel_rfl);rw [dj]at e1;clear M8 M5;obtain⟨p0,p1,p2,p3,p4,p5,p6,p7,p8,p9,p10,p11,p12,p13⟩:=HX.out.mod;obtain⟨q0,q1,q2,q3,q4,q5,q6,q7,q8,q9,q10,Ph,q12,q13⟩:=HX.out.vr;go_wp2_with fail;have hx:=(HX.out.oC u0 m0).mH;have Lt:=kR w2 w.heap.size u0 m0;refine aN (fu rfl _ _ rfl hx) rfl ?_;exact⟨L9.out.trans (Lt.below L9.out.size (fun i hi=>by omega)), .inr ⟨HD.out,by rw [aC (by omega)];rfl⟩⟩
    ·obtain⟨av,cv,rfl,-,-,Ln⟩:=id hv
     obtain⟨bb,off,rfl,-⟩:=Ln 0 0 (by rw [fJ];rfl);have e1:=bR (P:=prog) w2 97 5 (some ⟨bb,off,none⟩) (fJ m).length cv 0 0 (by kernel_rfl);rw [di]at e1;have HV:=V hv;have LG:=V M5;have Nz:=V M8;clear Ln hv M5 M8;go_wp2_with fail;refine(sY _ _ _ _ w2 HV.out LG.out).mono ?_;rintro e w3 ⟨rfl,rfl⟩;by_cases q3:fJ m=l
     ·have hq:(fJ m==l)=true:=by simp [q3]
      rw [hq];have HD:=V (show qL l=some m by rw [qL,HMR.out];simp [Nz.out,q3]);clear q3 hq e1;obtain⟨p0,p1,p2,p3,p4,p5,p6,p7,p8,p9,p10,p11,p12,p13⟩:=HX.out.mod;obtain⟨q0,q1,q2,q3,q4,q5,q6,q7,q8,q9,q10,Ph,q12,q13⟩:=HX.out.vr;obtain⟨g0,g1,g2,g3,g4,g5,g6,g7,g8,g9,Mb,Mc,Md,Me⟩:=HMC.out.mod;go_wp2_with fail;have hx:=(HX.out.oC ⟨.slice a0 m.types.length k0, .slice a1 m.imports.length k1, .slice a2 m.funcs.length k2, .slice a3 m.globals.length k3, .slice a4 m.ep.length k4, .slice a5 m.elems.length k5, .slice a6 m.eA.length k6, .slice a7 m.eK.length k7⟩ m).mH;have Lt:=kR w2 w.heap.size ⟨.slice a0 m.types.length k0, .slice a1 m.imports.length k1, .slice a2 m.funcs.length k2, .slice a3 m.globals.length k3, .slice a4 m.ep.length k4, .slice a5 m.elems.length k5, .slice a6 m.eA.length k6, .slice a7 m.eK.length k7⟩ m;refine aN (fu rfl _ _ rfl hx) rfl ?_;exact⟨L9.out.trans (Lt.below L9.out.size (fun i hi=>by omega)), .inl ⟨_,m,HD.out,rfl,eD.ext (eD.ext PM.out (nN Lt (fun i hi=> .inl (by omega)) (.inl (ag _)))) (uw _ (by omega)),HWD.out⟩⟩
     ·have hq:(fJ m==l)=false:=by simp [q3]
      rw [hq];have HD:=V (show qL l=none by rw [qL,HMR.out];simp [q3]);clear q3 hq e1;obtain⟨p0,p1,p2,p3,p4,p5,p6,p7,p8,p9,p10,p11,p12,p13⟩:=HX.out.mod;obtain⟨q0,q1,q2,q3,q4,q5,q6,q7,q8,q9,q10,Ph,q12,q13⟩:=HX.out.vr;go_wp2_with fail;have hx:=(HX.out.oC u0 m0).mH;have Lt:=kR w2 w.heap.size u0 m0;refine aN (fu rfl _ _ rfl hx) rfl ?_;exact⟨L9.out.trans (Lt.below L9.out.size (fun i hi=>by omega)), .inr ⟨HD.out,by rw [aC (by omega)];rfl⟩⟩
   | cons c rest=>
    obtain⟨L,hL⟩:∃L,L=c::rest:=⟨_,rfl⟩;have Pd:0 < L.length:=by rw [hL];simp
    have HBV:=V (show nc (some L)=c by rw [hL];rfl);have HBN:=V (show ez fk (some L)=some rest by rw [hL];rfl);have HL:=V hL;have PD:=c.toNat_lt;rw [<- hL]at c0 L4 hlen hlb LX;have g1:decide ((0:Int) < (L.length:Int))=true:=aA (by omega);have g2:decide (0 < L.length)=true:=aA Pd;have HLEN:=V hlen;have HHR:=V (show fD w w1 (w.heap.size+1+1) (some L)from L4.out);clear hL hlen;go_wp2_with fail;refine(jl w w1 _ _ L4.out).mono ?_;rintro e w2 ⟨rfl,h2,Lv⟩;rw [HBN.out]at h2;rw [HBV.out];have L4:=V h2;have Qp:=V (Qp.out.keeps Lv (fun i hi=> .inl (by omega)) (by omega));have HX:=V (HX.out.keeps Lv (by omega));have L9:=V (L9.out.trans (Lv.below L9.out.size (fun i hi=>by omega)));clear h2 Lv c0 c1 g1 g2;go_wp2_with fail;refine(im w w2 _ _ L4.out).mono ?_;rintro e w3 ⟨rfl,h2,Lv⟩;have L4:=V h2;have Qp:=V (Qp.out.keeps Lv (fun i hi=> .inl (by omega)) (by omega));have HX:=V (HX.out.keeps Lv (by omega));have L9:=V (L9.out.trans (Lv.below L9.out.size (fun i hi=>by omega)));clear h2 Lv;go_wp2_with fail;refine(y8 w w3 _ _ (w.heap.size+3) c.toNat _ u m L4.out Qp.out (by omega) (by omega) (by omega)).mono ?_;rintro e w4 ⟨u',m',rfl,hmd,hw,h2,Lv⟩;have L4:=V h2;have Qp:=V hmd;have HW:=V hw;have HX:=V (HX.out.keeps Lv (by omega));have L9:=V (L9.out.trans (Lv.below L9.out.size (fun i hi=>by omega)));clear h2 Lv hmd hw;go_wp2_with fail;obtain⟨f2,rfl⟩:∃f2,f'=f2+1:=⟨f' - 1,by have:=HLEN.out;simp only [gu.len]at this;omega⟩;have Ro:=(Dz c.toNat m).len (ez gq (some rest));have hl2:=(iZ.mr ly).len (some rest);have hl3:L.length=rest.length+1:=by rw [HL.out];rfl
    have hl4:=HLEN.out;have hl5:gu.len (some rest)=rest.length+1:=rfl;have hl6:gu.len (some L)=L.length+1:=rfl;have hl7:=aW Ro hl2;rw [hl5]at hl7;rw [hl6]at hl4;have hl8:=aW hl7 (show rest.length+1 <=f2 by omega);refine HR.out _ _ ⟨u',m',ez (kb c.toNat m) (ez gq (some rest)),f2,rfl,?_,hl8,L4.out,Qp.out,HX.out,L9.out⟩ ?_
    ·rw [LX.out,HL.out]
     exact D9 HW.out
    ·rw [L4.out.left,HHR.out.left]
     exact Nat.lt_of_le_of_lt hl7 (show rest.length+1 < gu.len (some L)by rw [hl6];omega)
theorem eP.rws {α:Type} {k:Nat} {enc:α ->List Value} {w:World} {X:Nat} {xs:Array Value} {t:TypeId} (h:eP w X xs t) (hk:∀x,(enc x).length=k) (l:List α) (rest:List Value) (hx:xs.toList=l.flatMap enc++rest) (cap:Nat) (hc:l.length <=cap) (hm:cap <=maxLen):
  ew k enc w (.slice (some ⟨X,0,none⟩) l.length cap) l:=by
 refine⟨_,cap,rfl,hc,hm,fun i x hi=>⟨X,0,rfl,h.lt,fun j v hj=>?_⟩⟩;rw [h.cell, <- cm,hx,bP];have hjk:j < k:=by
  rw [<- hk x];exact(aM.1 hj).1
 have hg:=rC hk l i x j hi hjk;rw [bm (by rw [hj]at hg;exact(aM.1 hg).1),hg,hj]
theorem eP.deep {α β:Type} {k:Nat} {enc:α × β ->List Value} {inner:World ->α ->β ->Prop} {w:World} {X:Nat} {xs:Array Value} {t:TypeId} (h:eP w X xs t) (hk:∀x,(enc x).length=k) (l:List α) (us:List β) (hl:us.length=l.length) (rest:List Value) (hx:xs.toList=(l.zip us).flatMap enc++rest) (cap:Nat) (hc:l.length <=cap) (hm:cap <=maxLen)
  (hi:∀(i:Nat) (x:α) (u:β),l[i]?=some x ->us[i]?=some u ->inner w x u):
  et k enc inner w (.slice (some ⟨X,0,none⟩) l.length cap) l:=by
 have hz:(l.zip us).length=l.length:=by rw [bJ,hl,cd]
 have:=h.rws hk (l.zip us) rest hx cap (by omega) hm;rw [hz]at this;exact⟨us,hl,this,hi⟩
def pn (w:World) (os:List Obj):World:=os.foldl World.alloc w
theorem oZ (w:World) (os:List Obj):Below w.heap.size w (pn w os)/\(pn w os).heap.size=w.heap.size+os.length:=by
 unfold pn
 induction os generalizing w with
 | nil=>exact⟨an _ _,rfl⟩
 | cons o os ih=>
  obtain⟨h1,h2⟩:=ih (w.alloc o);refine⟨((an w.heap.size w).alloc (ag _) o).trans (h1.mono (by simp)),?_⟩;rw [List.foldl_cons,h2];simp;omega
theorem uN (w:World) (os:List Obj) (i:Nat) (xs:Array Value) (t:TypeId) (h:os[i]?=some (.cells xs t)):eP (pn w os) (w.heap.size+i) xs t:=by
 induction os generalizing w i with
 | nil=>simp at h
 | cons o os ih=>
  cases i with
  | zero=>
   simp only [aG,aX]at h;subst h;exact(eP.new w xs t).below (oZ _ os).1 (by simp)
  | succ i=>
   have:=ih (w.alloc o) i h;rw [aE]at this;rw [show w.heap.size+(i+1)=w.heap.size+1+i by omega];exact this
theorem wk (x:Int):(fp x).length=1:=rfl
theorem Kk (x:gN × Value × Value):(r9 x).length=2:=rfl
theorem Kp (x:gS × Value × Value):(su x).length=2:=rfl
theorem JV (x:iO):(rz x).length=2:=rfl
theorem Lf (x:jt):(tf x).length=3:=rfl
theorem KW (x:jg):(td x).length=3:=rfl
theorem Lh (x:jb × Value):(uM x).length=2:=rfl
theorem Li (x:eS × Value):(qf x).length=4:=rfl
def ij:List eS:=[⟨32,0,0,[]⟩,⟨32,1,0,[]⟩,⟨106,0,0,[]⟩]
def nF:ByteArray:=⟨#[97,100,100]⟩
def fy (fn:Int) (body:List eS):eI:=⟨[⟨[1,1],[1]⟩],[],[0],⟨false,0,0⟩,⟨false,0,0⟩,[],[⟨nF,fn⟩],[],[⟨[],body⟩],[]⟩
def rowAt (X n cap:Nat):Value:= .slice (some ⟨X,0,none⟩) n cap
def iu (B:Nat):eL:=⟨rowAt (B+3) 1 1, .slice none 0 0,rowAt (B+4) 1 1, .slice none 0 0,rowAt (B+5) 1 1, .slice none 0 0,rowAt (B+7) 1 1, .slice none 0 0⟩
def kI (l:List eS):List Value:=l.flatMap fun x=>[.int .i64 x.op, .int .i64 x.a, .int .i64 x.b, .slice none 0 0]
def gI (w:World) (B:Nat) (fn:Int) (bs:Value):Prop:=
 (eP w (B+1) #[.int .i64 1, .int .i64 1] 3/\eP w (B+2) #[.int .i64 1] 3/\eP w (B+3) #[rowAt (B+1) 2 2,rowAt (B+2) 1 1] 109)/\
 eP w (B+4) #[.int .i64 0] 3/\eP w (B+5) #[.string nF, .int .i64 fn] 111/\
 eP w (B+6) (kI ij).toArray 27/\eP w (B+7) #[.slice none 0 0,bs] 69
theorem gI.below {w w':World} {B:Nat} {fn:Int} {bs:Value} (h:gI w B fn bs) (hb:Below w.heap.size w w'):gI w' B fn bs:=by
 obtain⟨⟨h1,h2,h3⟩,h4,h5,h6,h7⟩:=h;exact⟨⟨h1.below hb h1.lt,h2.below hb h2.lt,h3.below hb h3.lt⟩,h4.below hb h4.lt,h5.below hb h5.lt,h6.below hb h6.lt,h7.below hb h7.lt⟩
theorem gI.setBody {w:World} {B:Nat} {fn:Int} {bs:Value} (h:gI w B fn bs) (v:Value):gI (w.setCell ⟨B+7,1,none⟩ v) B fn v:=by
 obtain⟨⟨h1,h2,h3⟩,h4,h5,h6,h7⟩:=h;exact⟨⟨h1.other _ _ (by simp;try omega),h2.other _ _ (by simp;try omega),h3.other _ _ (by simp;try omega)⟩,h4.other _ _ (by simp;try omega),h5.other _ _ (by simp;try omega),h6.other _ _ (by simp;try omega),h7.set 1 v⟩
theorem gI.Jd {w:World} {B:Nat} {fn:Int} {bs:Value} (h:gI w B fn bs) (x:Int):gI (w.setCell ⟨B+5,1,none⟩ (.int .i64 x)) B x bs:=by
 obtain⟨⟨h1,h2,h3⟩,h4,h5,h6,h7⟩:=h;exact⟨⟨h1.other _ _ (by simp;try omega),h2.other _ _ (by simp;try omega),h3.other _ _ (by simp;try omega)⟩,h4.other _ _ (by simp;try omega),h5.set 1 _,h6.other _ _ (by simp;try omega),h7.other _ _ (by simp;try omega)⟩
theorem gI.other {w:World} {B X o:Nat} {fn:Int} {bs:Value} (h:gI w B fn bs) (v:Value) (hX:X <=B\/B+8 <=X):gI (w.setCell ⟨X,o,none⟩ v) B fn bs:=by
 obtain⟨⟨h1,h2,h3⟩,h4,h5,h6,h7⟩:=h;exact⟨⟨h1.other _ _ (by simp;omega),h2.other _ _ (by simp;omega),h3.other _ _ (by simp;omega)⟩,h4.other _ _ (by simp;omega),h5.other _ _ (by simp;omega),h6.other _ _ (by simp;omega),h7.other _ _ (by simp;omega)⟩
theorem uI (l:List eS):kI l=(l.zip (l.map fun _=>Value.slice none 0 0)).flatMap qf:=by
 unfold kI
 induction l with
 | nil=>rfl
 | cons x l ih=>
  rw [bS,bG,List.zip_cons_cons,bS,ih];rfl
def qX (l:List eS):Prop:=∀x∈l,x.l=[]/\iP x.op/\iP x.a/\iP x.b
theorem rJ (w:World) (l:List eS) (hl:qX l) (i:Nat) (x:eS) (u:Value) (hx:l[i]?=some x) (hu:(l.map fun _=>Value.slice none 0 0)[i]?=some u):gZ w x u:=by
 rw [cT,hx]at hu;injection hu with hu;obtain⟨h0,h1,h2,h3⟩:=hl x (aO hx);subst hu;refine⟨?_,h1,h2,h3,?_⟩
 ·rw [h0]
  exact ew.nil w
 ·rw [h0]
  simp
theorem eP.body {w:World} {X:Nat} {t:TypeId} {xs:Array Value} (h:eP w X xs t) (l:List eS) (rest:List Value) (hx:xs.toList=kI l++rest) (hl:qX l) (cap:Nat) (hc:l.length <=cap) (hm:cap <=maxLen):
  gx w (rowAt X l.length cap) l:=
 h.deep Li l (l.map fun _=> .slice none 0 0) (by simp) rest (by rw [hx,uI]) cap hc hm (rJ w l hl)
theorem yW:qX ij:=by
 intro x hx;simp [ij]at hx;rcases hx with rfl | rfl | rfl <;>simp [iP]
theorem gI.body {w:World} {B:Nat} {fn:Int} {bs:Value} (h:gI w B fn bs) (n:Nat) (hn:n <=3):gx w (rowAt (B+6) n 3) (ij.take n):=by
 have hl:(ij.take n).length=n:=by
  rw [aS];show min n 3=n;omega
 have:=h.2.2.2.1.body (ij.take n) (kI (ij.drop n)) (by
  unfold kI;rw [<- List.flatMap_append,cn]) (fun x hx=>yW x (cF hx)) 3 (by omega) (by decide)
 rwa [hl]at this
theorem gI.is {w:World} {B:Nat} {fn:Int} {bs:Value} (h:gI w B fn bs) {body:List eS} (hb:gx w bs body) (hf:iP fn):eD w (iu B) (fy fn body):=by
 obtain⟨⟨h1,h2,h3⟩,h4,h5,h6,h7⟩:=h;refine⟨?_,ew.nil w,?_,ew.nil w,?_,et.nil w,?_,et.nil w,?_⟩
 ·refine h3.deep Kk [⟨[1,1],[1]⟩] [(rowAt (B+1) 2 2,rowAt (B+2) 1 1)] rfl [] rfl 1 (ag _) (by decide) ?_
  intro i x u hx hu;cases i with
  | zero=>
   injection hx with hx;injection hu with hu;subst hx hu;exact⟨⟨h1.rws wk [1,1] [] rfl 2 (ag _) (by decide),h2.rws wk [1] [] rfl 1 (ag _) (by decide)⟩,by simp [gN.ok,iP]⟩
  | succ i=>simp at hx
 ·exact h4.rws wk [0] [] rfl 1 (ag _) (by decide)
 ·exact h5.rws JV [⟨nF,fn⟩] [] rfl 1 (ag _) (by decide)
 ·refine h7.deep Kp [⟨[],body⟩] [(.slice none 0 0,bs)] rfl [] rfl 1 (ag _) (by decide) ?_
  intro i x u hx hu;cases i with
  | zero=>
   injection hx with hx;injection hu with hu;subst hx hu;exact⟨⟨ew.nil w,hb⟩,by simp⟩
  | succ i=>simp at hx
 ·refine⟨by simp [fy],by simp [fy,iP],by simp [fy,gf.ok,iP],by simp [fy,gf.ok,iP],by simp [fy],?_⟩
  simpa [fy] using hf
def Gt (w:World) (e:Ending) (w':World):Prop:=e= .returned (.agg ((iu w.heap.size).cells (fy 0 ij)))/\gI w' w.heap.size 0 (rowAt (w.heap.size+6) 3 3)/\Below w.heap.size w w'/\w'.heap.size=w.heap.size+8
def pU (B:Nat):List Obj:=[Obj.cells ((iu B).cells (fy 0 ij)) 62,Obj.cells #[.int .i64 1, .int .i64 1] 3,Obj.cells #[.int .i64 1] 3,Obj.cells #[rowAt (B+1) 2 2,rowAt (B+2) 1 1] 109,Obj.cells #[.int .i64 0] 3,Obj.cells #[.string nF, .int .i64 0] 111,Obj.cells (kI ij).toArray 27,Obj.cells #[.slice none 0 0,rowAt (B+6) 3 3] 69]
theorem iW (w:World):Calls prog 10 #[] w (Gt w):=by
 go_enter func10,ntmps10;go_wp2_with fail;have H:=oZ w (pU w.heap.size);have G:=uN w (pU w.heap.size);have g:eP (pn w (pU w.heap.size)) w.heap.size ((iu w.heap.size).cells (fy 0 ij)) 62:=G 0 _ _ rfl;have HS:gI (pn w (pU w.heap.size)) w.heap.size 0 (rowAt (w.heap.size+6) 3 3):=
  ⟨⟨G 1 _ _ rfl,G 2 _ _ rfl,G 3 _ _ rfl⟩,G 4 _ _ rfl,G 5 _ _ rfl,G 6 _ _ rfl,G 7 _ _ rfl⟩
 refine aN (eG rfl _ _ rfl g.mH) rfl ?_;exact⟨rfl,HS,H.1,H.2⟩
def xg (l:List UInt8):ByteArray:=⟨l.toArray⟩
def fe (body:List eS):eI:=⟨[⟨[],[]⟩,⟨[],[]⟩,⟨[1],[1]⟩,⟨[2,1],[2]⟩],[⟨xg [119],xg [102],2⟩,⟨xg [119],xg [103],1⟩],[0,3],⟨true,4,-1⟩,⟨true,1,3⟩,[⟨true,⟨1,0⟩⟩,⟨false,⟨2,5⟩⟩],[⟨xg [109,97,105,110],2⟩],[⟨0,[0,2,3]⟩],[⟨[],body⟩,⟨[],[⟨32,0,0,[]⟩]⟩],[]⟩
def rh (B:Nat):eL:=⟨rowAt (B+6) 4 4,rowAt (B+7) 2 2,rowAt (B+8) 2 2,rowAt (B+9) 2 2,rowAt (B+10) 1 1,rowAt (B+12) 1 1,rowAt (B+14) 2 2, .slice none 0 0⟩
def nS (w:World) (B:Nat) (bs:Value):Prop:=
 (eP w (B+2) #[.int .i64 1] 3/\eP w (B+3) #[.int .i64 1] 3/\eP w (B+4) #[.int .i64 2, .int .i64 1] 3/\eP w (B+5) #[.int .i64 2] 3/\
  eP w (B+6) #[.slice none 0 0, .slice none 0 0, .slice none 0 0, .slice none 0 0,rowAt (B+2) 1 1,rowAt (B+3) 1 1,rowAt (B+4) 2 2,rowAt (B+5) 1 1] 109)/\
 (eP w (B+7) #[.string (xg [119]), .string (xg [102]), .int .i64 2, .string (xg [119]), .string (xg [103]), .int .i64 1] 118/\eP w (B+8) #[.int .i64 0, .int .i64 3] 3/\
  eP w (B+9) #[.bool true, .int .i64 1, .int .i64 0, .bool false, .int .i64 2, .int .i64 5] 120/\eP w (B+10) #[.string (xg [109,97,105,110]), .int .i64 2] 111)/\
 (eP w (B+11) #[.int .i64 0, .int .i64 2, .int .i64 3] 3/\eP w (B+12) #[.int .i64 0,rowAt (B+11) 3 3] 95)/\
 eP w (B+13) #[.int .i64 32, .int .i64 0, .int .i64 0, .slice none 0 0] 27/\eP w (B+14) #[.slice none 0 0,bs, .slice none 0 0,rowAt (B+13) 1 1] 69
theorem nS.below {w w':World} {B:Nat} {bs:Value} (h:nS w B bs) (hb:Below w.heap.size w w'):nS w' B bs:=by
 obtain⟨⟨h1,h2,h3,h4,h5⟩,⟨h6,h7,h8,h9⟩,⟨h10,h11⟩,NJ,h13⟩:=h;exact⟨⟨h1.below hb h1.lt,h2.below hb h2.lt,h3.below hb h3.lt,h4.below hb h4.lt,h5.below hb h5.lt⟩,⟨h6.below hb h6.lt,h7.below hb h7.lt,h8.below hb h8.lt,h9.below hb h9.lt⟩,⟨h10.below hb h10.lt,h11.below hb h11.lt⟩,NJ.below hb NJ.lt,h13.below hb h13.lt⟩
theorem nS.setBody {w:World} {B:Nat} {bs:Value} (h:nS w B bs) (v:Value):nS (w.setCell ⟨B+14,1,none⟩ v) B v:=by
 obtain⟨⟨h1,h2,h3,h4,h5⟩,⟨h6,h7,h8,h9⟩,⟨h10,h11⟩,NJ,h13⟩:=h;exact⟨⟨h1.other _ _ (by simp),h2.other _ _ (by simp),h3.other _ _ (by simp),h4.other _ _ (by simp),h5.other _ _ (by simp)⟩,⟨h6.other _ _ (by simp),h7.other _ _ (by simp),h8.other _ _ (by simp),h9.other _ _ (by simp)⟩,⟨h10.other _ _ (by simp),h11.other _ _ (by simp)⟩,NJ.other _ _ (by simp),h13.set 1 v⟩
theorem nS.is {w:World} {B:Nat} {bs:Value} (h:nS w B bs) {body:List eS} (hb:gx w bs body):eD w (rh B) (fe body):=by
 obtain⟨⟨h1,h2,h3,h4,h5⟩,⟨h6,h7,h8,h9⟩,⟨h10,h11⟩,NJ,h13⟩:=h;refine⟨?_,h6.rws Lf [⟨xg [119],xg [102],2⟩,⟨xg [119],xg [103],1⟩] [] rfl 2 (ag _) (by decide),h7.rws wk [0,3] [] rfl 2 (ag _) (by decide),h8.rws KW [⟨true,⟨1,0⟩⟩,⟨false,⟨2,5⟩⟩] [] rfl 2 (ag _) (by decide),h9.rws JV [⟨xg [109,97,105,110],2⟩] [] rfl 1 (ag _) (by decide),?_,?_,et.nil w,?_⟩
 ·refine h5.deep Kk [⟨[],[]⟩,⟨[],[]⟩,⟨[1],[1]⟩,⟨[2,1],[2]⟩] [(.slice none 0 0, .slice none 0 0),(.slice none 0 0, .slice none 0 0),(rowAt (B+2) 1 1,rowAt (B+3) 1 1),(rowAt (B+4) 2 2,rowAt (B+5) 1 1)] rfl [] rfl 4 (ag _) (by decide) ?_
  intro i x u hx hu
  match i,hx,hu with
  | 0,hx,hu=>
   injection hx with hx;injection hu with hu;subst hx hu;exact⟨⟨ew.nil w,ew.nil w⟩,by simp [gN.ok]⟩
  | 1,hx,hu=>
   injection hx with hx;injection hu with hu;subst hx hu;exact⟨⟨ew.nil w,ew.nil w⟩,by simp [gN.ok]⟩
  | 2,hx,hu=>
   injection hx with hx;injection hu with hu;subst hx hu;exact⟨⟨h1.rws wk [1] [] rfl 1 (ag _) (by decide),h2.rws wk [1] [] rfl 1 (ag _) (by decide)⟩,by simp [gN.ok,iP]⟩
  | 3,hx,hu=>
   injection hx with hx;injection hu with hu;subst hx hu;exact⟨⟨h3.rws wk [2,1] [] rfl 2 (ag _) (by decide),h4.rws wk [2] [] rfl 1 (ag _) (by decide)⟩,by simp [gN.ok,iP]⟩
  | i+4,hx,hu=>simp at hx
 ·refine h11.deep Lh [⟨0,[0,2,3]⟩] [rowAt (B+11) 3 3] rfl [] rfl 1 (ag _) (by decide) ?_
  intro i x u hx hu
  match i,hx,hu with
  | 0,hx,hu=>
   injection hx with hx;injection hu with hu;subst hx hu;exact⟨h10.rws wk [0,2,3] [] rfl 3 (ag _) (by decide),by simp [jb.ok,iP]⟩
  | i+1,hx,hu=>simp at hx
 ·refine h13.deep Kp [⟨[],body⟩,⟨[],[⟨32,0,0,[]⟩]⟩] [(.slice none 0 0,bs),(.slice none 0 0,rowAt (B+13) 1 1)] rfl [] rfl 2 (ag _) (by decide) ?_
  intro i x u hx hu
  match i,hx,hu with
  | 0,hx,hu=>
   injection hx with hx;injection hu with hu;subst hx hu;exact⟨⟨ew.nil w,hb⟩,by simp⟩
  | 1,hx,hu=>
   injection hx with hx;injection hu with hu;subst hx hu;exact⟨⟨ew.nil w,NJ.body [⟨32,0,0,[]⟩] [] rfl (by simp [qX,iP]) 1 (ag _) (by decide)⟩,by simp⟩
  | i+2,hx,hu=>simp at hx
 ·refine⟨by simp [fe,iP],by simp [fe,iP],by simp [fe,gf.ok,iP],by simp [fe,gf.ok,iP],by simp [fe,fm.ok],by simp [fe,iP]⟩
def rp (B:Nat):List Obj:=[Obj.cells ((rh B).cells (fe [])) 62,Obj.cells #[.slice none 0 0, .slice none 0 0] 109,Obj.cells #[.int .i64 1] 3,Obj.cells #[.int .i64 1] 3,Obj.cells #[.int .i64 2, .int .i64 1] 3,Obj.cells #[.int .i64 2] 3,
 Obj.cells #[.slice none 0 0, .slice none 0 0, .slice none 0 0, .slice none 0 0,rowAt (B+2) 1 1,rowAt (B+3) 1 1,rowAt (B+4) 2 2,rowAt (B+5) 1 1] 109,
 Obj.cells #[.string (xg [119]), .string (xg [102]), .int .i64 2, .string (xg [119]), .string (xg [103]), .int .i64 1] 118,Obj.cells #[.int .i64 0, .int .i64 3] 3,
 Obj.cells #[.bool true, .int .i64 1, .int .i64 0, .bool false, .int .i64 2, .int .i64 5] 120,Obj.cells #[.string (xg [109,97,105,110]), .int .i64 2] 111,
 Obj.cells #[.int .i64 0, .int .i64 2, .int .i64 3] 3,Obj.cells #[.int .i64 0,rowAt (B+11) 3 3] 95,
 Obj.cells #[.int .i64 32, .int .i64 0, .int .i64 0, .slice none 0 0] 27,Obj.cells #[.slice none 0 0, .slice none 0 0, .slice none 0 0,rowAt (B+13) 1 1] 69]
def Hb (w:World) (e:Ending) (w':World):Prop:=e= .returned (.agg ((rh w.heap.size).cells (fe [])))/\nS w' w.heap.size (.slice none 0 0)/\Below w.heap.size w w'/\w'.heap.size=w.heap.size+15
theorem sD (w:World):Calls prog 16 #[.slice none 0 0, .int .i64 0] w (Hb w):=by
 go_enter func16,ntmps16;go_wp2_with fail;refine c9 1 ?_;rw [cO];go_wp2_with fail;have H:=oZ w (rp w.heap.size);have G:=uN w (rp w.heap.size);have g:eP (pn w (rp w.heap.size)) w.heap.size ((rh w.heap.size).cells (fe [])) 62:=G 0 _ _ rfl;have HS:nS (pn w (rp w.heap.size)) w.heap.size (.slice none 0 0):=
  ⟨⟨G 2 _ _ rfl,G 3 _ _ rfl,G 4 _ _ rfl,G 5 _ _ rfl,G 6 _ _ rfl⟩,⟨G 7 _ _ rfl,G 8 _ _ rfl,G 9 _ _ rfl,G 10 _ _ rfl⟩,⟨G 11 _ _ rfl,G 12 _ _ rfl⟩,G 13 _ _ rfl,G 14 _ _ rfl⟩
 refine aN (eG rfl _ _ rfl g.mH) rfl ?_;exact⟨rfl,HS,H.1,H.2⟩
def rW (C:Nat) (w:World):World:=mask (fun k=>k==C) w
theorem pX {C:Nat} {w w':World} (h:ee (fun i=>i=C) w w'):Ext (rW C w) (rW C w'):=iY h (fun _ _ hk=>by simp [hk]) (fun _ _ hk=>hk)
theorem xj {C:Nat} {w w':World} (h:Below w.heap.size w w'):Ext (rW C w) (rW C w'):=iY (ee.eh (S:=fun _=>False) h) (fun _ _ hk=>hk.elim) (fun _ _ hk=>hk)
theorem tk {C:Nat} {w w':World} (h:ee (fun i=>i=C) w w'):Ext (rW C w) w':=sw h (fun _ _ hk=>by simp [hk])
theorem yZ (C:Nat) (w:World):Ext (rW C w) w:=tk (ee.refl _ _)
theorem CD {α:Type} {t:TypeId} {k:Nat} {enc:α ->List Value} (hk:∀x,(enc x).length=k) {w:World} {B C:Nat} {v:Value} {l:List α} (h:ea t k enc w B v l) (hB:C < B):ew k enc (rW C w) v l:=
 (ea.mask h (fun b hb=>by
  have:b≠C:=by omega
  simp [this])).fR hk
theorem mo {P:Program} (w:World) {ops:Array Oper} {rest:List Oper} {o:Oper} {a:Act} {Q:Exit ->Act ->World ->Prop} (O9:o.guard=none) (s x:Operand)
  (hP:P=prog) (ho:o.op= .call {callee:= .builtin .append,args:=#[s,x],argTypes:=#[25,25]})
  (B:Nat) (v:Value) (l:List Int) (hs:a.eval s=v) (Lo:ea 3 1 fp w B v l)
  (b:Value) (m:List Int) (hx:a.eval x=b) (hm:ew 1 fp w b m)
  (PC:l.length+m.length <=1000000) (LY:B <=w.heap.size)
  (h:∀v' w',ea 3 1 fp w' B v' (l++m) ->ee (eH v) w w' ->eM w v v' ->wpList P ops Q rest (a.put o.dst v') w'):wpList P ops Q (o::rest) a w:=by
 subst hP;cases m with
 | cons y m=>
  have hm':=hm;obtain⟨ad,cap,rfl,M9,Mj,Rc⟩:=hm';obtain⟨b,off,rfl,_⟩:=Rc 0 y rfl;exact kU w O9 s x 25 ho _ 8 (by kernel_rfl) jT rfl (by decide) (by decide) B v l hs Lo fH (y::m) ⟨b,off,none⟩ (y::m).length cap hx hm (fun z _=>CV z) PC LY h
 | nil=>
  obtain⟨i0,hi,NW,MP,Nu⟩:=bX jT;obtain⟨ad,cap,rfl,M9,Mj,Rc⟩:=hm;have key:∃v' w',(Builtin.append_ #[25,25] o.type #[v, .slice ad 0 cap]).run prog w= .ok v' w'/\ea 3 1 fp w' B v' (l++[])/\ee (eH v) w w'/\eM w v v':=by
   cases ad with
   | some ad=>
    obtain⟨v',w',h1,h2,h3,h4⟩:=tj (P:=prog) w B 25 o.type 3 i0 (.int .i64 0) 1 8 (by kernel_rfl) hi NW MP Nu rfl (by decide) v l.length (l.flatMap fp) Lo ad 0 cap [] rfl (by simp) (by simp) (by simp only [aL]at PC;simp only [maxLen];omega) (by simp only [aL]at PC;omega) LY;exact⟨v',w',h1,by simpa [ea] using h2,h3,h4⟩
   | none=>
    have ht:prog.underlying 25=some (.slice 3):=by kernel_rfl
    rcases Lo.2 with⟨rfl,h0⟩ | ⟨g,LO,cur,rfl,hb,hg,hn,hm,hs,O3⟩
    ·refine⟨.slice none 0 0,w,?_,by simpa using Lo,ee.refl _ _,eM.refl _ _⟩
     simp [Builtin.append_,bx ht,sizeOf,typeInfo,hi,Builtin.lenOf,Builtin.firstCells]
    ·refine⟨.slice (some ⟨g,0,none⟩) l.length LO,w,?_,by simpa using Lo,ee.refl _ _,eM.refl _ _⟩
     simp [Builtin.append_,bx ht,sizeOf,typeInfo,hi,Builtin.lenOf,Builtin.firstCells,hn];simp [storeCells]
  obtain⟨v',w',hr,h2,h3,h4⟩:=key;refine dV O9 fun _ hK=>?_;unfold Oper.wp execOp;simp only [ho,resolve,invoke,builtin,cL,cg,cC,dy,bG,cV,hs,hx,hr,aL];exact hK _ _ (h v' w' h2 h3 h4)
def tm (u:eL) (m:eI) (lv v v':Value) (bad:Bool):Array Value:=
 #[u.types,u.imports,u.funcs, .bool m.table.has, .int .i64 m.table.min, .int .i64 m.table.max, .bool m.mem.has, .int .i64 m.mem.min, .int .i64 m.mem.max,u.globals,u.ep,u.elems,u.eA,u.eK,lv,v,v', .bool bad]
def gA (w1:World) (C:Nat) (u:eL) (m:eI) (lv:Value) (w:World) (c:eU):Prop:=
 ∃v v',eP w C (tm u m lv v v' c.bad) 181/\ea 3 1 fp w w1.heap.size v c.ej/\ea 186 4 yp w w1.heap.size v' c.eT/\ee (fun i=>i=C) w1 w/\C < w1.heap.size
theorem gA.below {w1 w w':World} {C:Nat} {u:eL} {m:eI} {lv:Value} {c:eU} (h:gA w1 C u m lv w c) (hb:Below w.heap.size w w'):gA w1 C u m lv w' c:=by
 obtain⟨v,v',h1,h2,h3,h4,h5⟩:=h;exact⟨v,v',h1.below hb h1.lt,h2.below hb,h3.below hb,h4.trans (ee.eh (S:=fun _=>False) hb) (fun _ h=>h.elim),h5⟩
theorem gA.drew {w1 w:World} {C:Nat} {u:eL} {m:eI} {lv:Value} {c:eU} (h:gA w1 C u m lv w c):gA w1 C u m lv w.drew c:=by
 obtain⟨v,v',h1,h2,h3,h4,h5⟩:=h;exact⟨v,v',h1.drew,h2,h3,h4.drew,h5⟩
theorem gA.alloc {w1 w:World} {C:Nat} {u:eL} {m:eI} {lv:Value} {c:eU} (h:gA w1 C u m lv w c) (o:Obj):gA w1 C u m lv (w.alloc o) c:=h.below ((an _ _).alloc (ag _) o)
theorem gA.lt {w1 w:World} {C:Nat} {u:eL} {m:eI} {lv:Value} {c:eU} (h:gA w1 C u m lv w c):C < w.heap.size/\C < w1.heap.size/\w1.heap.size <=w.heap.size:=by
 obtain⟨v,v',h1,h2,h3,h4,h5⟩:=h;exact⟨h1.lt,h5,h4.size⟩
theorem gA.old {w1 w:World} {C:Nat} {u:eL} {m:eI} {lv:Value} {c:eU} (h:gA w1 C u m lv w c):ee (fun i=>i=C) w1 w:=by
 obtain⟨v,v',h1,h2,h3,h4,h5⟩:=h;exact h4
def CW (w1:World) (C:Nat) (u:eL) (m:eI) (lv:Value) (val:Value) (c:eU) (w:World) (e:Ending) (w':World):Prop:=e= .returned val/\gA w1 C u m lv w' c/\ee (fun i=>i=C) w w'/\w'.cell? ⟨C,16,none⟩=w.cell? ⟨C,16,none⟩
def nP (w1:World) (C:Nat) (u:eL) (m:eI) (lv:Value) (val:Value) (c:eU) (e:Ending) (w':World):Prop:=e= .returned val/\gA w1 C u m lv w' c
theorem jW (w1:World) (C:Nat) (u:eL) (m:eI) (lv:Value) (w:World) (c:eU) (ok:Bool) (h:gA w1 C u m lv w c):
  Calls prog 196 #[.pointer (some ⟨C,0,none⟩), .bool ok] w (CW w1 C u m lv (.tuple #[]) (c.need ok) w):=by
 obtain⟨ej,eT,bad⟩:=c;obtain⟨v,v',hb,hv,hc,hk,hC⟩:=h;have c17:w.cell? ⟨C,17,none⟩=some (.bool bad):=hb.cell 17;have z17:=hb.free 17;have HB:=V hb;clear hb;simp only at hv hc;cases bad <;>cases ok
 ·skip
  go_enter func196,ntmps196;go_wp2_with fail
  go_end0
  exact⟨rfl,⟨v,v',HB.out.set 17 _,hv.keeps (eC w C 17 _) (fun i hi h=>by have:=(eE hv hi).1;omega),hc.keeps (eC w C 17 _) (fun i hi h=>by have:=(eE hc hi).1;omega),hk.trans (eC w C 17 _) (fun i hi=> .inl hi),hC⟩,eC w C 17 _,cB _ _ _ _ (by simp)⟩
 ·skip
  go_enter func196,ntmps196;go_wp2_with fail
  go_end0
  exact⟨rfl,⟨v,v',HB.out.set 17 _,hv.keeps (eC w C 17 _) (fun i hi h=>by have:=(eE hv hi).1;omega),hc.keeps (eC w C 17 _) (fun i hi h=>by have:=(eE hc hi).1;omega),hk.trans (eC w C 17 _) (fun i hi=> .inl hi),hC⟩,eC w C 17 _,cB _ _ _ _ (by simp)⟩
 ·skip
  go_enter func196,ntmps196;go_wp2_with fail
  go_end0
  exact⟨rfl,⟨v,v',HB.out.set 17 _,hv.keeps (eC w C 17 _) (fun i hi h=>by have:=(eE hv hi).1;omega),hc.keeps (eC w C 17 _) (fun i hi h=>by have:=(eE hc hi).1;omega),hk.trans (eC w C 17 _) (fun i hi=> .inl hi),hC⟩,eC w C 17 _,cB _ _ _ _ (by simp)⟩
 ·skip
  go_enter func196,ntmps196;go_wp2_with fail
  go_end0
  exact⟨rfl,⟨v,v',HB.out.set 17 _,hv.keeps (eC w C 17 _) (fun i hi h=>by have:=(eE hv hi).1;omega),hc.keeps (eC w C 17 _) (fun i hi h=>by have:=(eE hc hi).1;omega),hk.trans (eC w C 17 _) (fun i hi=> .inl hi),hC⟩,eC w C 17 _,cB _ _ _ _ (by simp)⟩
def IA (C:Nat) (k:Int) (w:World) (e:Ending) (w':World):Prop:=∃v,e= .returned v/\ew 1 fp (rW C w') v (gF k)/\Below w.heap.size w w'
theorem mS (k:Int) (w:World) (C:Nat) (hC:C < w.heap.size):Calls prog 198 #[.int .i64 k] w (IA C k w):=by
 by_cases q:k=0
 ·have f1:=eQ q
  have HL:Hid (gF k=[]):=V (by simp [gF,q]);clear q;go_enter func198,ntmps198;go_wp2_with fail;go_ret;exact⟨_,rfl,by rw [HL.out];exact ew.nil _,an _ _⟩
 ·have f1:=ed q
  have HL:Hid (gF k=[k]):=V (by simp [gF,q]);clear q;go_enter func198,ntmps198;go_wp2_with fail;go_ret;refine⟨_,rfl,?_,(an _ _).alloc (ag _) _⟩;rw [HL.out];have hx:=eP.new w #[.int .i64 k] 3;refine CD fH (B:=w.heap.size) (t:=3) ⟨by simp [fp], .inr ⟨w.heap.size,1,_,rfl,ag _,hx,by simp,by simp [maxLen],by simp,by simp [fp]⟩⟩ hC
theorem mj (w1:World) (C:Nat) (u:eL) (m:eI) (lv:Value) (w:World) (c:eU) (kv:Value) (l:List Int) (h:gA w1 C u m lv w c) (hl:ew 1 fp (rW C w) kv l) (hn:c.ej.length+l.length <=100000):
  Calls prog 197 #[.pointer (some ⟨C,0,none⟩),kv] w (nP w1 C u m lv (.tuple #[]) (c.push l)):=by
 obtain⟨ej,eT,bad⟩:=c;obtain⟨v,v',hb,hv,hc,hk,hC⟩:=h;simp only at hv hc hn hb;obtain⟨av,cv,rfl,-,-⟩:=hv.slice;have OS:w.cell? ⟨C,15,none⟩=some (.slice av ej.length cv):=hb.cell 15;have z15:=hb.free 15;have HB:=V hb;have HL:=V (hl.ext (yZ C w));have Mr:=hk.size;have HV:=V hv;have HC:=V hc;have HK:=V hk;have R9:=V (fun g (hg:eH (.slice av ej.length cv) g)=>ea.ne hv hc (by decide) g hg);clear hb hl hv hc hk;obtain⟨ak,ck,rfl,-,-,-⟩:=id HL.out;go_enter func197,ntmps197;go_wp2_with (first | (at_builtin;refine mo w rfl _ _ rfl rfl w1.heap.size _ ej rfl HV.out _ l rfl HL.out (by omega) Mr ?_));intro v2 w2 ho Lv LB;obtain⟨a2,c2,rfl,-,-⟩:=ho.slice;have Lr:=HB.out.keeps Lv (fun h=>by have:=(eE HV.out h).1;omega);have Mj:=HC.out.keeps Lv (fun i hi h=>R9.out i h hi);have L5:=HK.out.trans Lv (fun i hi=> .inr (eE HV.out hi).1);have OS:w2.cell? ⟨C,15,none⟩=some (.slice av ej.length cv):=Lr.cell 15;have z15:=Lr.free 15;have HB:=V Lr;have HC2:=V Mj;have PT:=V L5;have HO:=V (show ea 3 1 fp w2 w1.heap.size (.slice a2 (ej.length+l.length) c2) (ej++l)by rw [<- ah];exact ho);clear Lr Mj L5 ho Lv LB;go_wp2_with fail
 go_end0
 exact⟨rfl,⟨_,v',HB.out.set 15 _,HO.out.keeps (eC _ C 15 _) (fun i hi h=>by have:=(eE HO.out hi).1;omega),HC2.out.keeps (eC _ C 15 _) (fun i hi h=>by have:=(eE HC2.out hi).1;omega),PT.out.trans (eC _ C 15 _) (fun i hi=> .inl hi),hC⟩⟩
theorem rf {α:Type} {l:List α} (h:l≠[]):∃cs t,l=cs++[t]:=⟨l.dropLast,l.getLast h,(cS h).symm⟩
theorem nz (ej:List Int) (cs:List lG) (t:lG) (bad:Bool):eU.top ⟨ej,cs++[t],bad⟩=t:=by simp [eU.top]
def BQ (C g n cap:Nat) (t:lG) (w:World):Prop:=
 w.cell? ⟨C,16,none⟩=some (.slice (some ⟨g,0,none⟩) (n+1) cap)/\w.cell? ⟨g,n*4,none⟩=some (.int .i64 t.op)/\w.cell? ⟨g,n*4+1,none⟩=some (.int .i64 t.kind)/\w.cell? ⟨g,n*4+2,none⟩=some (.int .i64 t.eR)/\w.cell? ⟨g,n*4+3,none⟩=some (.bool t.dead)
theorem BQ.keeps {C g n cap:Nat} {t:lG} {w w':World} {S:Nat ->Prop} (h:BQ C g n cap t w) (hk:ee S w w') (h1:C < w.heap.size/\¬ S C) (h2:g < w.heap.size/\¬ S g):BQ C g n cap t w':=by
 obtain⟨a,b,c,d,e⟩:=h;exact⟨(hk.cell h1.1 h1.2).trans a,(hk.cell h2.1 h2.2).trans b,(hk.cell h2.1 h2.2).trans c,(hk.cell h2.1 h2.2).trans d,(hk.cell h2.1 h2.2).trans e⟩
theorem BQ.of {w:World} {B C:Nat} {v':Value} {cs:List lG} {t:lG} {xs:Array Value} {T:TypeId} (hb:eP w C xs T) (hx:xs[16]?=some v') (h:ea 186 4 yp w B v' (cs++[t])):
  ∃g cap,v'= .slice (some ⟨g,0,none⟩) (cs.length+1) cap/\cs.length+1 <=cap/\cap <=9223372036854775807/\B <=g/\g < w.heap.size/\BQ C g cs.length cap t w:=by
 obtain⟨g,cap,cur,rfl,PE,NY,hg3,Mk,hm⟩:=h.open (by simp);have e:(cs++[t]).length=cs.length+1:=by simp
 rw [e]at h Mk;refine⟨g,cap,by rw [e],Mk,by simpa [maxLen] using hm,PE,NY,?_,?_,?_,?_,?_⟩
 ·rw [hb.cell 16,hx,e]
 ·exact ea.cell jZ h (i:=cs.length) (j:=0) (x:=t) (u:= .int .i64 t.op) (by simp) rfl
 ·exact ea.cell jZ h (i:=cs.length) (j:=1) (x:=t) (u:= .int .i64 t.kind) (by simp) rfl
 ·exact ea.cell jZ h (i:=cs.length) (j:=2) (x:=t) (u:= .int .i64 t.eR) (by simp) rfl
 ·exact ea.cell jZ h (i:=cs.length) (j:=3) (x:=t) (u:= .bool t.dead) (by simp) rfl
theorem DP {w:World} {B:Nat} {v:Value} {vs:List Int} {k:Int} (h:ea 3 1 fp w B v (vs++[k])):
  ∃g cap,v= .slice (some ⟨g,0,none⟩) (vs.length+1) cap/\vs.length+1 <=cap/\cap <=9223372036854775807/\B <=g/\g < w.heap.size/\w.cell? ⟨g,vs.length,none⟩=some (.int .i64 k):=by
 obtain⟨g,cap,cur,rfl,PE,NY,hg3,Mk,hm⟩:=h.open (by simp);have e:(vs++[k]).length=vs.length+1:=by simp
 rw [e]at h Mk;refine⟨g,cap,by rw [e],Mk,by simpa [maxLen] using hm,PE,NY,?_⟩;have:=ea.cell fH h (i:=vs.length) (j:=0) (x:=k) (u:= .int .i64 k) (by simp) rfl
 rwa [bq,aK]at this
def E8 (w:World) (t:lG):World:=(w.alloc (.cells #[.int .i64 t.op, .int .i64 t.kind, .int .i64 t.eR, .bool t.dead] 186)).drew
theorem qB (w:World) (t:lG):Below w.heap.size w (E8 w t):=((an w.heap.size w).alloc (ag _) _).drew
theorem vz (w:World) (t:lG):eP (E8 w t) w.heap.size #[.int .i64 t.op, .int .i64 t.kind, .int .i64 t.eR, .bool t.dead] 186:=(eP.new w _ _).drew
theorem CA (w1:World) (C:Nat) (u:eL) (m:eI) (lv:Value) (w:World) (c:eU) (want:Int) (h:gA w1 C u m lv w c) (hn:c.eT≠[]) (hs:c.top.eR <=c.ej.length):
  Calls prog 195 #[.pointer (some ⟨C,0,none⟩), .int .i64 want] w (CW w1 C u m lv (.int .i64 (c.pop want).1) (c.pop want).2 w):=by
 have H:=V h;obtain⟨ej,eT,bad⟩:=c;obtain⟨cs,t,rfl⟩:=rf hn;rw [nz]at hs;simp only at hs;obtain⟨v,v',hb,hv,hc,hk,hC⟩:=h;have hCl:=hb.lt;obtain⟨g,cap,rfl,Mk,NC,PE,NY,Od⟩:=BQ.of hb rfl hc;simp only at hv;have Mr:=hk.size;have Pw:=V Od;have HV:=V hv;have HB:=V hb;clear hb hc hk hn hv;go_enter func195,ntmps195;go_wp2_with fail;refine eu (BQ C g cs.length cap t) (up 0 12 ((12,false)::(13,false)::[])) (by kernel_rfl) (by kernel_rfl) (Od.keeps (ee.refl (fun _=>False) w).drew ⟨hCl,fun h=>h⟩ ⟨NY,fun h=>h⟩) ?_;clear Od;iterate 12 (first | (apply sk rfl rfl;simp only [pt]) | (apply ef rfl rfl rfl;·(rintro w' ⟨t0,t1,t2,t3,t4⟩;go_wp2;exact⟨rfl,rfl,rfl⟩)))
 refine eo rfl rfl ?_;go_wp2_with fail;refine⟨Pw.out.keeps ((ee.refl (fun _=>False) w).drew.alloc _) ⟨hCl,fun h=>h⟩ ⟨NY,fun h=>h⟩,?_⟩;refine eo rfl rfl ?_;go_wp2_with fail;have LS:=V (qB w t);have HX:=V (vz w t);unfold E8 at LS HX;have HS:=V (H.out.below LS.out);have Pw:=V (Pw.out.keeps (ee.eh (S:=fun _=>False) LS.out) ⟨hCl,fun h=>h⟩ ⟨NY,fun h=>h⟩);have hK:ee (fun i=>i=C) w _:=ee.eh LS.out;have HK:=V hK;have HQ:Hid (_=w.cell? ⟨C,16,none⟩):=V (LS.out.cell hCl);refine⟨Pw.out,?_⟩;refine eV ?_;refine aD ?_;clear hK;generalize(w.alloc (.cells #[.int .i64 t.op, .int .i64 t.kind, .int .i64 t.eR, .bool t.dead] 186)).drew=wb at HX HS Pw HK HQ⊢;clear LS;obtain⟨⟨x0,x1,x2,x3⟩,-,-,-,-⟩:=HX.out.four;by_cases q:ej.length=t.eR
 ·have f1:((ej.length:Int)==(t.eR:Int))=true:=eQ (by omega)
  have f2:(ej.length==t.eR)=true:=by simp [q]
  have HP:Hid (eU.pop ⟨ej,cs++[t],bad⟩ want=(want,eU.need ⟨ej,cs++[t],bad⟩ t.dead)):=V (by
   unfold eU.pop;rw [nz,aJ q])
  obtain⟨v,v',hb,hv,-,-,-⟩:=HS.out;obtain⟨av,cv,rfl,-,-⟩:=hv.slice;have OS:wb.cell? ⟨C,15,none⟩=some (.slice av ej.length cv):=hb.cell 15;clear hb hv q x0 x1 Pw;go_wp2_with fail;refine eu (fun w'=>w'.cell? ⟨C,15,none⟩=some (.slice av ej.length cv)/\w'.cell? ⟨w.heap.size,2,none⟩=some (.int .i64 t.eR)) (up 0 8 []) (by kernel_rfl) (by kernel_rfl) ⟨OS,x2⟩ ?_;iterate 8 (first | (apply sk rfl rfl;simp only [pt]) | (apply ef rfl rfl rfl;·(rintro w' ⟨t0,t1⟩;go_wp2;exact⟨rfl,rfl,rfl⟩)))
  refine eV ?_;refine aD ?_;have x3:wb.drew.cell? ⟨w.heap.size,3,none⟩=some (.bool t.dead):=x3;have HS:=V HS.out.drew;have HK:=V HK.out.drew;have HQ:=V (show wb.drew.cell? ⟨C,16,none⟩=w.cell? ⟨C,16,none⟩from HQ.out);generalize wb.drew=wc at HS HK HQ x3⊢;clear OS x2;go_wp2_with fail;refine(jW w1 C u m lv wc _ t.dead HS.out).mono ?_;rintro e w2 ⟨rfl,LB,Lv,Se⟩;have HS:=V LB;have HK:=V (HK.out.trans Lv (fun _ h=> .inl h));have HQ:=V (Se.trans HQ.out);clear LB Lv x3 Se;go_wp2_with fail;go_ret;rw [HP.out];exact⟨rfl,HS.out,HK.out,HQ.out⟩
 ·obtain⟨vs,k,rfl⟩:=rf (l:=ej) (fun h=>by subst h;simp only [aL]at hs q;omega)
  have Oo:(vs++[k]).length=vs.length+1:=by simp
  rw [Oo]at q hs;have f1:((vs.length:Int)+1==(t.eR:Int))=false:=ed (by omega);have f2:(vs.length+1==t.eR)=false:=by simp [q]
  have HP:Hid (eU.pop ⟨vs++[k],cs++[t],bad⟩ want=if k=0 then(want,⟨vs,cs++[t],bad⟩)else(k,eU.need ⟨vs,cs++[t],bad⟩ (want==0 || k==want))):=V (by
   unfold eU.pop;rw [nz,Oo,aC q];simp)
  obtain⟨v,v',hb,hv,hc,hk,-⟩:=HS.out;simp only at hv hc;obtain⟨gv,LR,rfl,hcapv,hcmv,hgv1,hgv2,MF⟩:=DP hv;have OS:wb.cell? ⟨C,15,none⟩=some (.slice (some ⟨gv,0,none⟩) (vs.length+1) LR):=hb.cell 15;have LG:=V hb;have QO:=V hv;have HCC:=V hc;have Qa:=V hk;clear hb hv hc hk q x0 x1 x3 Pw H HV HB hs Oo;go_wp2_with fail;refine eu (fun w'=>w'.cell? ⟨C,15,none⟩=some (.slice (some ⟨gv,0,none⟩) (vs.length+1) LR)/\w'.cell? ⟨w.heap.size,2,none⟩=some (.int .i64 t.eR)) (up 0 8 []) (by kernel_rfl) (by kernel_rfl) ⟨OS,x2⟩ ?_;iterate 8 (first | (apply sk rfl rfl;simp only [pt]) | (apply ef rfl rfl rfl;·(rintro w' ⟨t0,t1⟩;go_wp2;exact⟨rfl,rfl,rfl⟩)))
  refine eV ?_;refine aD ?_;have OS:wb.drew.cell? ⟨C,15,none⟩=some (.slice (some ⟨gv,0,none⟩) (vs.length+1) LR):=OS;have MF:wb.drew.cell? ⟨gv,vs.length,none⟩=some (.int .i64 k):=MF;clear x2 f1 f2;go_wp2_with fail;refine eu (fun w'=>w'.cell? ⟨C,15,none⟩=some (.slice (some ⟨gv,0,none⟩) (vs.length+1) LR)/\w'.cell? ⟨gv,vs.length,none⟩=some (.int .i64 k)) (up 0 13 []) (by kernel_rfl) (by kernel_rfl) ⟨OS,MF⟩ ?_;iterate 13 (first | (apply sk rfl rfl;simp only [pt]) | (apply ef rfl rfl rfl;·(rintro w' ⟨t0,t1⟩;go_wp2;exact⟨rfl,rfl,rfl⟩)))
  refine eV ?_;refine aD ?_;have OS:wb.drew.drew.cell? ⟨C,15,none⟩=some (.slice (some ⟨gv,0,none⟩) (vs.length+1) LR):=OS;clear MF;have MU:=fun wx=>nT (some ⟨gv,0,none⟩) (vs.length+1) LR vs.length (by omega) wx;go_wp2_with fail;refine eX (fun w'=>w'.cell? ⟨C,15,none⟩=some (.slice (some ⟨gv,0,none⟩) (vs.length+1) LR)) 14 (up 0 14 []) (by kernel_rfl) (by kernel_rfl) OS ?_;iterate 14 (first | (apply sk rfl rfl;simp only [pt]) | (apply ef rfl rfl rfl;·(rintro w' t0;go_wp2;exact⟨rfl,rfl,rfl⟩)))
  refine fP rfl rfl ?_;have OS:wb.drew.drew.drew.cell? ⟨C,15,none⟩=some (.slice (some ⟨gv,0,none⟩) (vs.length+1) LR):=OS;have z15:wb.drew.drew.drew.frozen? ⟨C,15,none⟩=false:=LG.out.drew.drew.drew.free 15;have Lt:=eC wb C 15 (.slice (some ⟨gv,0,none⟩) vs.length LR);have hT:=ea.take fH QO.out vs.length (by simp);rw [dF rfl]at hT;have LZ:Hid (gA w1 C u m lv (wb.setCell ⟨C,15,none⟩ (.slice (some ⟨gv,0,none⟩) vs.length LR)).drew.drew.drew ⟨vs,cs++[t],bad⟩):=V ((((show gA w1 C u m lv (wb.setCell ⟨C,15,none⟩ (.slice (some ⟨gv,0,none⟩) vs.length LR)) ⟨vs,cs++[t],bad⟩from
   ⟨_,v',LG.out.set 15 _,hT.keeps Lt (fun i hi h=>by have:=(eE hT hi).1;omega),HCC.out.keeps Lt (fun i hi h=>by have:=(eE HCC.out hi).1;omega),Qa.out.trans Lt (fun _ h=> .inl h),hC⟩).drew).drew).drew)
  have MI:=V ((HK.out.trans Lt (fun _ h=> .inl h)).drew.drew.drew);have HQ:=V (show(wb.setCell ⟨C,15,none⟩ (.slice (some ⟨gv,0,none⟩) vs.length LR)).drew.drew.drew.cell? ⟨C,16,none⟩=w.cell? ⟨C,16,none⟩from(cB wb _ _ _ (by simp)).trans HQ.out);clear Lt MU hT;go_wp2_with fail;refine⟨trivial,?_⟩;refine aD ?_;generalize(wb.setCell ⟨C,15,none⟩ (.slice (some ⟨gv,0,none⟩) vs.length LR)).drew.drew.drew=wd at LZ MI HQ⊢;clear OS z15;by_cases q0:k=0
  ·have f1:=eQ q0
   have HP:=V (show eU.pop ⟨vs++[k],cs++[t],bad⟩ want=(want,⟨vs,cs++[t],bad⟩)by rw [HP.out,aJ q0]);clear q0;go_wp2_with fail;go_ret;rw [HP.out];exact⟨rfl,LZ.out,MI.out,HQ.out⟩
  have f1:=ed q0;have HP:=V (show eU.pop ⟨vs++[k],cs++[t],bad⟩ want=(k,eU.need ⟨vs,cs++[t],bad⟩ (want==0 || k==want))by rw [HP.out,aC q0]);clear q0;by_cases q1:want=0
  ·have f2:=eQ q1
   have HP:=V (show eU.pop ⟨vs++[k],cs++[t],bad⟩ want=(k,eU.need ⟨vs,cs++[t],bad⟩ true)by rw [HP.out,f2,Bool.true_or]);clear q1;go_wp2_with fail;refine(jW w1 C u m lv wd _ true LZ.out).mono ?_;rintro e w2 ⟨rfl,LB,Lv,Se⟩;have HS:=V LB;have HK:=V (MI.out.trans Lv (fun _ h=> .inl h));have HQ:=V (Se.trans HQ.out);clear LB Lv Se;go_wp2_with fail;go_ret;rw [HP.out];exact⟨rfl,HS.out,HK.out,HQ.out⟩
  have f2:=ed q1;clear q1;by_cases q2:k=want
  ·have f3:=eQ q2
   have HP:=V (show eU.pop ⟨vs++[k],cs++[t],bad⟩ want=(k,eU.need ⟨vs,cs++[t],bad⟩ true)by rw [HP.out,f3,Bool.or_true]);clear q2;go_wp2_with fail;refine(jW w1 C u m lv wd _ true LZ.out).mono ?_;rintro e w2 ⟨rfl,LB,Lv,Se⟩;have HS:=V LB;have HK:=V (MI.out.trans Lv (fun _ h=> .inl h));have HQ:=V (Se.trans HQ.out);clear LB Lv Se;go_wp2_with fail;go_ret;rw [HP.out];exact⟨rfl,HS.out,HK.out,HQ.out⟩
  ·have f3:=ed q2
   have HP:=V (show eU.pop ⟨vs++[k],cs++[t],bad⟩ want=(k,eU.need ⟨vs,cs++[t],bad⟩ false)by rw [HP.out,f2,f3];rfl);clear q2;go_wp2_with fail;refine(jW w1 C u m lv wd _ false LZ.out).mono ?_;rintro e w2 ⟨rfl,LB,Lv,Se⟩;have HS:=V LB;have HK:=V (MI.out.trans Lv (fun _ h=> .inl h));have HQ:=V (Se.trans HQ.out);clear LB Lv Se;go_wp2_with fail;go_ret;rw [HP.out];exact⟨rfl,HS.out,HK.out,HQ.out⟩
theorem eU.CQ (c:eU) (k:Int):(c.pop k).2.ej.length <=c.ej.length:=by
 unfold eU.pop;split
 ·exact ag _
 ·split
  ·simp
  ·simp [eU.need]
theorem eU.uK:∀(l:List Int) (c:eU),(c.nR l).ej.length <=c.ej.length
 | [],_=>ag _
 | k::l,c=>aW (eU.uK l _) (eU.CQ c k)
theorem eU.lJ (c:eU) (l:List Int):(c.gb l).ej.length <=c.ej.length:=eU.uK _ _
def ia (c:eU):Prop:=c.sound/\c.eT≠[]
theorem ia.top {c:eU} (h:ia c):c.top.eR <=c.ej.length:=h.1.top h.2
theorem ia.pop {c:eU} (h:ia c) (k:Int):ia (c.pop k).2:=⟨h.1.pop h.2 k,by rw [eU.pV];exact h.2⟩
theorem ia.gb {c:eU} (h:ia c) (l:List Int):ia (c.gb l):=⟨h.1.gb h.2 l,by rw [eU.iD];exact h.2⟩
theorem ia.need {c:eU} (h:ia c) (b:Bool):ia (c.need b):=⟨⟨h.1.1,h.1.2⟩,h.2⟩
theorem ia.push {c:eU} (h:ia c) (l:List Int):ia (c.push l):=⟨h.1.push l,h.2⟩
theorem ia.begin {c:eU} (h:ia c) (op kind:Int):ia (c.begin op kind):=⟨h.1.begin op kind,by simp [eU.begin]⟩
theorem ia.fail {c:eU} (h:ia c):ia {c with bad:=true}:=⟨⟨h.1.1,h.1.2⟩,h.2⟩
theorem ia.label {c:eU} (h:ia c) (n:Int):ia (c.label n).2:=by
 unfold eU.label;split
 ·exact h.fail
 ·exact h
theorem sM (c:eU) (n:Int):(c.label n).2.eT=c.eT/\(c.label n).2.ej=c.ej:=by
 unfold eU.label;split <;>exact⟨rfl,rfl⟩
theorem DB (c:eU) (n:Int):(c.label n).1.length <=1:=by
 unfold eU.label;split
 ·simp
 ·simp only
  split
  ·simp
  ·unfold gF;split <;>simp
theorem ia.local {c:eU} (h:ia c) (ls:List Int) (n:Int):ia (eU.local ls c n).2:=by
 unfold eU.local;split
 ·exact h.fail
 ·exact h
theorem pz (c:eU) (ls:List Int) (n:Int):(eU.local ls c n).2.eT=c.eT/\(eU.local ls c n).2.ej=c.ej:=by
 unfold eU.local;split <;>exact⟨rfl,rfl⟩
theorem qH (c:eU):c.shut.2.eT=c.eT.dropLast:=by
 unfold eU.shut eU.uV;simp only [eU.ni,eU.iD]
theorem rv (c:eU):c.shut.2.ej.length <=c.ej.length:=eU.lJ c _
theorem AV {c:eU} (h:ia c):c.shut.2.sound:=by
 have h1:=h.gb (gF c.top.kind);have ht:(c.gb (gF c.top.kind)).top=c.top:=by unfold eU.top;rw [eU.iD]
 have h2:=h1.top;rw [ht]at h2;have hle:=h.1.le_top h.2;refine⟨fun x hx=>?_,?_⟩
 ·rw [qH]at hx
  have:=hle x ((List.dropLast_sublist _).subset hx);exact aW this h2
 ·rw [qH]
  exact h.1.2.sublist (List.dropLast_sublist _)
theorem BG {c:eU} (h:c.eT≠[]):c.dead.eT.length=c.eT.length:=by
 have:=List.length_pos_iff.2 h;simp [eU.dead];omega
theorem GC (c:eU):c.dead.ej.length <=c.ej.length:=by simp [eU.dead];omega
theorem ia.dead {c:eU} (h:ia c):ia c.dead:=by
 have hle:=h.1.le_top h.2;have ht:=h.top;obtain⟨cs,t,RG⟩:∃cs t,c.eT=cs++[t]:=⟨c.eT.dropLast,c.eT.getLast h.2,(cS h.2).symm⟩;have htop:c.top=t:=by unfold eU.top;rw [RG];simp
 have hd:c.dead.eT=cs++[{t with dead:=true}]:=by unfold eU.dead;simp only [RG,htop];simp
 have hv:c.dead.ej.length=t.eR:=by simp [eU.dead,htop];rw [htop]at ht;omega
 rw [htop]at hle;refine⟨⟨fun x hx=>?_,?_⟩,by rw [hd];simp⟩
 ·rw [hv]
  rw [hd]at hx;rcases aZ.1 hx with h1 | h1
  ·exact hle x (by rw [RG];simp [h1])
  ·rw [aQ.1 h1]
   exact ag _
 ·rw [hd]
  have hp:=h.1.2;rw [RG,cG]at hp;rw [cG];exact⟨hp.1,by simp,fun a ha b hb=>by rw [aQ.1 hb];exact hp.2.2 a ha t (by simp)⟩
def KQ (w1:World) (C:Nat) (u:eL) (m:eI) (lv:Value) (c:eU) (l:List Int) (w w':World) (c':eU) (n:Nat):Prop:=
 n <=l.length/\c.gb l=c'.nR (l.take n).reverse/\gA w1 C u m lv w' c'/\ia c'/\ee (fun i=>i=C) w w'/\w'.cell? ⟨C,16,none⟩=w.cell? ⟨C,16,none⟩
theorem oT (w1:World) (C:Nat) (u:eL) (m:eI) (lv:Value) (w:World) (c:eU) (kv:Value) (l:List Int) (h:gA w1 C u m lv w c) (ho:ia c) (hl:ew 1 fp (rW C w) kv l) (Pa:l.length <=1000000):
  Calls prog 199 #[.pointer (some ⟨C,0,none⟩),kv] w (CW w1 C u m lv (.tuple #[]) (c.gb l) w):=by
 have HL:=V hl;obtain⟨ak,ck,rfl,-,-,-⟩:=id hl;clear hl;go_enter func199,ntmps199;go_wp2_with fail;refine eJ (fun a' w'=>∃(c':eU) (n:Nat),a'=fr (.pointer (some ⟨C,0,none⟩):: .slice ak l.length ck::gs a' 2 2 (.int .i64 ((n:Int) - 1)::gs a' 5 13 []))/\KQ w1 C u m lv c l w w' c' n) (fun a' _=>(intOf (a'.tmps.getD 4 undef)+1).toNat) ?_ ?_
 ·exact⟨c,l.length,rfl,ag _,by rw [aV];rfl,h,ho,ee.refl _ _,rfl⟩
 ·clear h ho
  rintro R a' w1 ⟨c',n,Lp,hJ⟩ HR;dsimp only [fr,gs]at Lp;generalize slot a'=f at Lp;subst Lp;obtain⟨hn,hpa,LI,Ly,hk,hq⟩:=hJ;have HQ:=V hq;have HPA:=V hpa;have Ls:=V LI;have ME:=V Ly;have HK:=V hk;clear hpa LI Ly hq;cases n with
  | zero=>
   have HP:=V (show c.gb l=c' by rw [HPA.out];rfl);clear hk;go_wp2_with fail
   go_end0
   rw [HP.out];exact⟨rfl,Ls.out,HK.out,HQ.out⟩
  | succ n=>
   obtain⟨x,hx⟩:∃x,l[n]?=some x:=⟨_,aw (by omega)⟩;have Ro:=HL.out.ext (tk hk);obtain⟨_,_,hv,_,_,Ln⟩:=Ro;injection hv with e1 e2 e3;subst e1;obtain⟨b,off,rfl,Lw,hc⟩:=Ln n x hx;have c0:=hc 0 _ rfl;rw [aK,bq]at c0;have f1:decide ((0:Int) <=(n:Int))=true:=aA (by omega);have f2:(n:Int) < (l.length:Int):=by omega
   have HT:=V (show(l.take (n+1)).reverse=x::(l.take n).reverse by rw [aR,hx];simp);clear e2 e3 hc Ln hx hk;go_wp2_with fail;refine(CA _ C u m lv _ c' x Ls.out ME.out.2 ME.out.top).mono ?_;rintro e w2 ⟨rfl,LB,Lv,Se⟩;have HQ2:=V (Se.trans HQ.out);have MY:=V LB;have MI:=V (HK.out.trans Lv (fun _ h=> .inl h));clear LB Lv c0 Se;go_wp2_with fail;refine HR.out _ _ ⟨(c'.pop x).2,n,rfl,by omega,?_,MY.out,ME.out.pop x,MI.out,HQ2.out⟩ ?_
   ·rw [HPA.out,HT.out]
    rfl
   ·simp [intOf]
theorem uL (w1:World) (C:Nat) (u:eL) (m:eI) (lv:Value) (w:World) (c:eU) (op kind:Int) (h:gA w1 C u m lv w c) (hn:c.eT.length <=100000):
  Calls prog 103 #[.pointer (some ⟨C,0,none⟩), .int .i64 op, .int .i64 kind] w (nP w1 C u m lv (.tuple #[]) (c.begin op kind)):=by
 obtain⟨v,v',hb,hv,hc,hk,hC⟩:=h.drew;obtain⟨ej,eT,bad⟩:=c;simp only at hb hv hc hn;obtain⟨av,cv,rfl,-,-⟩:=hv.slice;obtain⟨ac,cc,rfl,-,-⟩:=hc.slice;have OS:w.drew.cell? ⟨C,15,none⟩=some (.slice av ej.length cv):=hb.cell 15;have Ru:w.drew.cell? ⟨C,16,none⟩=some (.slice ac eT.length cc):=hb.cell 16;have HB:=V hb;have HV:=V hv;have HC:=V hc;have HK:=V hk;have Mr:=hk.size;have R9:=V (fun g (hg:eH (.slice av ej.length cv) g)=>ea.ne hv hc (by decide) g hg);clear hb hv hc hk h;go_enter func103,ntmps103;go_wp2_with fail;refine eX (fun w'=>w'.cell? ⟨C,15,none⟩=some (.slice av ej.length cv)/\w'.cell? ⟨C,16,none⟩=some (.slice ac eT.length cc)) 17 (up 0 13 ((13,false)::(14,false)::(15,true)::(16,true)::[])) (by kernel_rfl) (by kernel_rfl) ⟨OS,Ru⟩ ?_;clear OS Ru;generalize w.drew=wa at HB HV HC HK Mr⊢;iterate 13 (first | (apply sk rfl rfl;simp only [pt]) | (apply ef rfl rfl rfl;·(rintro w' ⟨t0,t1⟩;go_wp2;exact⟨rfl,rfl,rfl⟩)))
 refine eo rfl rfl ?_;go_wp2_with fail;refine⟨⟨(HB.out.alloc _).cell 15,(HB.out.alloc _).cell 16⟩,?_⟩;refine eo rfl rfl ?_;go_wp2_with (first | (at_builtin;refine fb wa rfl _ _ 179 rfl _ 32 (by kernel_rfl) wG rfl (by decide) (by decide) w1.heap.size (.slice ac eT.length cc) eT rfl HC.out ⟨op,kind,ej.length,false⟩ _ rfl rfl (Fa _) rfl (by omega) Mr ?_));intro v2 w2 ho Lv LB;obtain⟨a2,c2,rfl,-,-⟩:=ho.slice;have HO:=V (show ea 186 4 yp w2 w1.heap.size (.slice a2 (eT.length+1) c2) (eT++[⟨op,kind,ej.length,false⟩])by have:=ho;rwa [ah,aB]at this);have HB:=V (HB.out.keeps Lv (fun h=>by have:=(eE HC.out h).1;omega));have HV:=V (HV.out.keeps Lv (fun i hi h=>R9.out i hi h));have HK:=V (HK.out.trans Lv (fun i hi=> .inr (eE HC.out hi).1));clear ho Lv LB;go_wp2_with fail;refine⟨⟨HB.out.cell 15,HB.out.cell 16⟩,?_⟩;iterate 2 (first | (apply sk rfl rfl;simp only [pt]) | (apply ef rfl rfl rfl;·(rintro w' ⟨t0,t1⟩;go_wp2;exact⟨rfl,rfl,rfl⟩)))
 refine fP rfl rfl ?_;have Ru:w2.cell? ⟨C,16,none⟩=some (.slice ac eT.length cc):=HB.out.cell 16;have z16:=HB.out.free 16;go_wp2_with fail;refine⟨trivial,?_⟩;refine aD ?_;clear Ru z16;go_wp2_with fail
 go_end0
 have Lt:=eC w2 C 16 (.slice a2 (eT.length+1) c2);exact⟨rfl,⟨_,_,HB.out.set 16 _,HV.out.keeps Lt (fun i hi h=>by have:=(eE HV.out hi).1;omega),HO.out.keeps Lt (fun i hi h=>by have:=(eE HO.out hi).1;omega),HK.out.trans Lt (fun i hi=> .inl hi),hC⟩⟩
theorem Aw (w1:World) (C:Nat) (u:eL) (m:eI) (lv:Value) (w:World) (c:eU) (h:gA w1 C u m lv w c) (Ly:ia c):
  Calls prog 194 #[.pointer (some ⟨C,0,none⟩)] w (nP w1 C u m lv (.tuple #[]) c.dead):=by
 have hs:=Ly.top;have hn:=Ly.2;obtain⟨v,v',hb,hv,hc,hk,hC⟩:=h.drew.drew;obtain⟨ej,eT,bad⟩:=c;obtain⟨cs,t,rfl⟩:=rf hn;rw [nz]at hs;simp only at hb hv hc hs;obtain⟨av,cv,rfl,MR,-⟩:=hv.slice;obtain⟨g,cap,rfl,Mk,NC,PE,NY,Od⟩:=BQ.of hb rfl hc;have hCl:=hb.lt;have HD:Hid (eU.dead ⟨ej,cs++[t],bad⟩=⟨ej.take t.eR,cs++[{t with dead:=true}],bad⟩):=V (by
  unfold eU.dead;rw [nz];simp)
 have hct0:BQ C g cs.length cap t w.drew:=Od;have HB:=V hb;have HV:=V hv;have HC:=V hc;have HK:=V hk;have Pw:=V Od;have Mr:=hk.size;have R9:=V (fun g' (hg:eH (.slice av ej.length cv) g')=>ea.ne hv hc (by decide) g' hg);have MU:=fun wx=>nT av ej.length cv t.eR (by omega) wx;clear hb hv hc hk h Od hn Ly;go_enter func194,ntmps194;go_wp2_with fail;refine eu (BQ C g cs.length cap t) (up 0 12 []) (by kernel_rfl) (by kernel_rfl) hct0 ?_;iterate 12 (first | (apply sk rfl rfl;simp only [pt]) | (apply ef rfl rfl rfl;·(rintro w' ⟨t0,t1,t2,t3,t4⟩;go_wp2;exact⟨rfl,rfl,rfl⟩)))
 refine eV ?_;refine aD ?_;clear hct0;go_wp2_with fail;refine eu (fun w'=>w'.cell? ⟨g,cs.length*4+2,none⟩=some (.int .i64 t.eR)) (up 0 5 (up 6 4 ((5,false)::up 10 3 ((13,false)::(14,true)::(15,true)::(16,false)::[])))) (by kernel_rfl) (by kernel_rfl) Pw.out.2.2.2.1 ?_;generalize w.drew.drew=wa at HB HV HC HK Pw Mr hCl NY⊢;iterate 9 (first | (apply sk rfl rfl;simp only [pt]) | (apply ef rfl rfl rfl;·(rintro w' t0;go_wp2;exact⟨rfl,rfl,rfl⟩)))
 refine eo rfl rfl ?_;have OS:wa.cell? ⟨C,15,none⟩=some (.slice av ej.length cv):=HB.out.cell 15;go_wp2_with fail;refine⟨Pw.out.2.2.2.1,?_⟩;iterate 3 (first | (apply sk rfl rfl;simp only [pt]) | (apply ef rfl rfl rfl;·(rintro w' t0;go_wp2;exact⟨rfl,rfl,rfl⟩)))
 refine eo rfl rfl ?_;have z15:=HB.out.free 15;go_wp2_with fail;have Lt:=eC wa C 15 (.slice av t.eR cv);have hgC:g≠C:=by omega
 have HCT2:=V (Pw.out.2.2.2.1);have HCD:=V (Pw.out.2.2.2.2);have k2:(wa.setCell ⟨C,15,none⟩ (.slice av t.eR cv)).cell? ⟨g,cs.length*4+2,none⟩=some (.int .i64 t.eR):=(Lt.cell NY hgC).trans HCT2.out;have k3:(wa.setCell ⟨C,15,none⟩ (.slice av t.eR cv)).cell? ⟨g,cs.length*4+3,none⟩=some (.bool t.dead):=(Lt.cell NY hgC).trans HCD.out;have hT:=ea.take fH HV.out t.eR hs;have HT:=V (hT.keeps Lt (fun i hi h=>by have:=(eE hT hi).1;omega));have HC2:=V (HC.out.keeps Lt (fun i hi h=>by have:=(eE HC.out hi).1;omega));have LS:=V (HB.out.set 15 (.slice av t.eR cv));have MI:=V (HK.out.trans Lt (fun _ h=> .inl h));refine⟨k2,?_⟩;iterate 2 (first | (apply sk rfl rfl;simp only [pt]) | (apply ef rfl rfl rfl;·(rintro w' t0;go_wp2;exact⟨rfl,rfl,rfl⟩)))
 refine eo rfl rfl ?_;generalize wa.setCell ⟨C,15,none⟩ (.slice av t.eR cv)=wc at HT HC2 LS MI k2 k3⊢;have zg:=ea.free HC2.out (cs.length*4+3);clear OS z15 Lt hT;go_wp2_with fail;have Lt:=eC wc g (cs.length*4+3) (.bool true);have Nm:C≠g:=fun h=>hgC h.symm;refine⟨(by
  show(wc.setCell ⟨g,cs.length*4+3,none⟩ (.bool true)).cell? ⟨g,cs.length*4+2,none⟩=_;rw [cB _ _ _ _ (by simp)];exact k2),?_⟩
 refine eV ?_;refine aD ?_;go_wp2_with fail
 go_end0
 rw [HD.out];have h1:=ea.set jZ HC2.out (i:=cs.length) (j:=3) (x:=t) (y:={t with dead:=true}) (u:= .bool true) (by simp) (by decide) rfl;have h2:(cs++[t]).set cs.length {t with dead:=true}=cs++[{t with dead:=true}]:=by simp
 rw [h2]at h1;exact⟨rfl,⟨_,_,LS.out.keeps Lt Nm,HT.out.keeps Lt (fun i hi h=>R9.out i ((ea.same i).1 hi) (by simp [eH,Value.ownBlock,h])),h1,MI.out.trans Lt (fun i hi=> .inr (by omega)),hC⟩⟩
def JC (C g n cap i:Nat) (t:lG) (w:World):Prop:=
 w.cell? ⟨C,16,none⟩=some (.slice (some ⟨g,0,none⟩) n cap)/\w.cell? ⟨g,i*4,none⟩=some (.int .i64 t.op)/\w.cell? ⟨g,i*4+1,none⟩=some (.int .i64 t.kind)/\w.cell? ⟨g,i*4+2,none⟩=some (.int .i64 t.eR)/\w.cell? ⟨g,i*4+3,none⟩=some (.bool t.dead)
theorem JC.keeps {C g n cap i:Nat} {t:lG} {w w':World} {S:Nat ->Prop} (h:JC C g n cap i t w) (hk:ee S w w') (h1:C < w.heap.size/\¬ S C) (h2:g < w.heap.size/\¬ S g):JC C g n cap i t w':=by
 obtain⟨a,b,c,d,e⟩:=h;exact⟨(hk.cell h1.1 h1.2).trans a,(hk.cell h2.1 h2.2).trans b,(hk.cell h2.1 h2.2).trans c,(hk.cell h2.1 h2.2).trans d,(hk.cell h2.1 h2.2).trans e⟩
theorem JC.of {w:World} {B C:Nat} {v':Value} {l:List lG} {i:Nat} {t:lG} {xs:Array Value} {T:TypeId} (hb:eP w C xs T) (hx:xs[16]?=some v') (h:ea 186 4 yp w B v' l) (hi:l[i]?=some t):
  ∃g cap,v'= .slice (some ⟨g,0,none⟩) l.length cap/\l.length <=cap/\cap <=9223372036854775807/\B <=g/\g < w.heap.size/\JC C g l.length cap i t w:=by
 obtain⟨g,cap,cur,rfl,PE,NY,hg3,Mk,hm⟩:=h.open (fun e=>by rw [e]at hi;simp at hi);refine⟨g,cap,rfl,Mk,by simpa [maxLen] using hm,PE,NY,?_,?_,?_,?_,?_⟩
 ·rw [hb.cell 16,hx]
 ·exact ea.cell jZ h (i:=i) (j:=0) (x:=t) (u:= .int .i64 t.op) hi rfl
 ·exact ea.cell jZ h (i:=i) (j:=1) (x:=t) (u:= .int .i64 t.kind) hi rfl
 ·exact ea.cell jZ h (i:=i) (j:=2) (x:=t) (u:= .int .i64 t.eR) hi rfl
 ·exact ea.cell jZ h (i:=i) (j:=3) (x:=t) (u:= .bool t.dead) hi rfl
def JN (w1:World) (C:Nat) (u:eL) (m:eI) (lv:Value) (l:List Int) (c:eU) (w:World) (e:Ending) (w':World):Prop:=
 ∃v,e= .returned v/\ew 1 fp (rW C w') v l/\gA w1 C u m lv w' c/\ee (fun i=>i=C) w w'
theorem BP {c:eU} {k:Nat} {t:lG} (hk:k < c.eT.length) (ht:c.eT[c.eT.length - 1 - k]?=some t):c.label (k:Int)=(if t.op=3 then []else gF t.kind,c):=by
 unfold eU.label eU.rL;rw [aC (by omega),cI,ht];rfl
theorem D0 (w1:World) (C:Nat) (u:eL) (m:eI) (lv:Value) (w:World) (c:eU) (k:Nat) (h:gA w1 C u m lv w c):
  Calls prog 200 #[.pointer (some ⟨C,0,none⟩), .int .i64 k] w (JN w1 C u m lv (c.label k).1 (c.label k).2 w):=by
 have H:=V h;by_cases q:k < c.eT.length
 ·obtain⟨t,ht⟩:∃t,c.eT[c.eT.length - 1 - k]?=some t:=⟨_,aw (by omega)⟩
  have HLB:=V (BP q ht);obtain⟨v,v',hb,hv,hc,hk,hC⟩:=h.drew;have hCl:=hb.lt;obtain⟨g,cap,rfl,Mk,NC,PE,NY,Od⟩:=JC.of hb rfl hc ht;have Mr:=hk.size;obtain⟨N,hN⟩:∃N,c.eT.length=N:=⟨_,rfl⟩;rw [hN]at q Mk Od;obtain⟨i,hi⟩:∃i,N - 1 - k=i:=⟨_,rfl⟩;rw [hi]at Od;have hidx:(N:Int) - 1 - (k:Int)=(i:Int):=by omega
  have OR:i < N:=by omega
  have f1:decide ((N:Int) <=(k:Int))=false:=aq (by omega);have f2:decide (N <=k)=false:=aq (by omega);have Ru:w.cell? ⟨C,16,none⟩=some (.slice (some ⟨g,0,none⟩) N cap):=Od.1;have Pw:=V Od;clear hb hc hk hv h ht hN hi Od q;go_enter func200,ntmps200;go_wp2_with fail;refine eu (JC C g N cap i t) (up 0 14 ((14,false)::(15,false)::[])) (by kernel_rfl) (by kernel_rfl) Pw.out ?_;clear Ru;iterate 14 (first | (apply sk rfl rfl;simp only [pt]) | (apply ef rfl rfl rfl;·(rintro w' ⟨t0,t1,t2,t3,t4⟩;go_wp2;exact⟨rfl,rfl,rfl⟩)))
  refine eo rfl rfl ?_;go_wp2_with fail;refine⟨Pw.out.keeps ((ee.refl (fun _=>False) w.drew).alloc _) ⟨hCl,fun h=>h⟩ ⟨NY,fun h=>h⟩,?_⟩;refine eo rfl rfl ?_;go_wp2_with fail;have LS:=V (qB w t);have HX:=V (vz w t);unfold E8 at LS HX;have HS:=V (H.out.below LS.out);have HK:=V (ee.eh (S:=fun i=>i=C) LS.out);refine⟨Pw.out.keeps (ee.eh (S:=fun _=>False) (show Below w.drew.heap.size w.drew _ from⟨LS.out.os,LS.out.tape,LS.out.output,LS.out.size,LS.out.block⟩)) ⟨hCl,fun h=>h⟩ ⟨NY,fun h=>h⟩,?_⟩;refine eV ?_;refine aD ?_;generalize(w.alloc (.cells #[.int .i64 t.op, .int .i64 t.kind, .int .i64 t.eR, .bool t.dead] 186)).drew=wb at HX HS HK⊢;clear LS;obtain⟨⟨x0,x1,x2,x3⟩,-,-,-,-⟩:=HX.out.four;clear x2 x3;by_cases q3:t.op=3
  ·have g1:=eQ q3
   have HLB:=V (show c.label k=([],c)by rw [HLB.out,aJ q3]);clear q3;go_wp2_with fail;go_ret;rw [HLB.out];exact⟨_,rfl,ew.nil _,HS.out,HK.out⟩
  ·have g1:=ed q3
   have HLB:=V (show c.label k=(gF t.kind,c)by rw [HLB.out,aC q3]);clear q3;go_wp2_with fail;refine(mS t.kind wb C HS.out.lt.1).mono ?_;rintro e w2 ⟨v,rfl,hl,hb⟩;have HL:=V hl;have HS:=V (HS.out.below hb);have HK:=V (HK.out.trans (ee.eh (S:=fun _=>False) hb) (fun _ h=>h.elim));clear hl hb x0 x1;go_wp2_with fail;go_ret;rw [HLB.out];exact⟨_,rfl,HL.out,HS.out,HK.out⟩
 ·obtain⟨v,v',hb,hv,hc,hk,hC⟩:=h
  obtain⟨ac,cc,rfl,-,-⟩:=hc.slice;have HLB:Hid (c.label k=([],{c with bad:=true})):=V (by unfold eU.label;rw [if_pos (by omega)]);obtain⟨N,hN⟩:∃N,c.eT.length=N:=⟨_,rfl⟩;rw [hN]at q hc hb;have f1:decide ((N:Int) <=(k:Int))=true:=aA (by omega);have f2:decide (N <=k)=true:=aA (by omega);have Ru:w.cell? ⟨C,16,none⟩=some (.slice ac N cc):=hb.cell 16;have c17:w.cell? ⟨C,17,none⟩=some (.bool c.bad):=hb.cell 17;have z17:=hb.free 17;have HB:=V hb;have HV:=V hv;have HC:=V hc;have HK:=V hk;clear hb hv hc hk q hN;go_enter func200,ntmps200;go_wp2_with fail;go_ret;have Lt:=eC w C 17 (.bool true);rw [HLB.out];exact⟨_,rfl,ew.nil _,⟨v,_,HB.out.set 17 _,HV.out.keeps Lt (fun i hi h=>by have:=(eE HV.out hi).1;omega),HC.out.keeps Lt (fun i hi h=>by have:=(eE HC.out hi).1;omega),HK.out.trans Lt (fun _ h=> .inl h),hC⟩,Lt⟩
end Go.Proofs.YthbjdhjppbcneaaGreatDoor
