/-
  Walk of state.Eq.
-/
import Derived.Test.YtpknafidbmnjpaaStE
namespace Go.Proofs.Ytpknafidbmnjpaa
open Go.RowKit


set_option maxRecDepth 100000 in
set_option maxHeartbeats 4000000 in
theorem eqPredF_any (c d : FEnt) (u x u2 x2 : Value) (w : World) (hu : IsRws 2 encV w u c.locals) (hx : IsRws 2 encL w x c.labels) (hu2 : IsRws 2 encV w u2 d.locals) (hx2 : IsRws 2 encL w x2 d.labels) :
    Calls Try.prog 33 #[.agg #[.int .i64 c.fn, .int .i64 c.pc, u, .int .i64 c.base, x], .agg #[.int .i64 d.fn, .int .i64 d.pc, u2, .int .i64 d.base, x2]] w
      (fun e w' => ∃ r : Bool, e = .returned (.bool r) ∧ (r = true ↔ c = d) ∧ Below w.heap.size w w') := by
  have HU := Lib.hid hu
  have HV := Lib.hid hx
  have HU2 := Lib.hid hu2
  have HV2 := Lib.hid hx2
  obtain ⟨au, capu, rfl, _, _, _⟩ := hu
  obtain ⟨ax, capx, rfl, _, _, _⟩ := hx
  obtain ⟨au2, capu2, rfl, _, _, _⟩ := hu2
  obtain ⟨ax2, capx2, rfl, _, _, _⟩ := hx2
  have hb : Below w.heap.size w ((w.alloc (.cells #[.int .i64 c.fn, .int .i64 c.pc, .slice au c.locals.length capu, .int .i64 c.base, .slice ax c.labels.length capx] 42)).alloc (.cells #[.int .i64 d.fn, .int .i64 d.pc, .slice au2 d.locals.length capu2, .int .i64 d.base, .slice ax2 d.labels.length capx2] 42)) :=
    ((Below.refl w.heap.size w).alloc (Nat.le_refl _) _).alloc (by simp) _
  have hbx : Blk ((w.alloc (.cells #[.int .i64 c.fn, .int .i64 c.pc, .slice au c.locals.length capu, .int .i64 c.base, .slice ax c.labels.length capx] 42)).alloc (.cells #[.int .i64 d.fn, .int .i64 d.pc, .slice au2 d.locals.length capu2, .int .i64 d.base, .slice ax2 d.labels.length capx2] 42)) w.heap.size #[.int .i64 c.fn, .int .i64 c.pc, .slice au c.locals.length capu, .int .i64 c.base, .slice ax c.labels.length capx] 42 := (Blk.new w _ _).alloc _
  have hby : Blk ((w.alloc (.cells #[.int .i64 c.fn, .int .i64 c.pc, .slice au c.locals.length capu, .int .i64 c.base, .slice ax c.labels.length capx] 42)).alloc (.cells #[.int .i64 d.fn, .int .i64 d.pc, .slice au2 d.locals.length capu2, .int .i64 d.base, .slice ax2 d.labels.length capx2] 42)) (w.heap.size + 1) #[.int .i64 d.fn, .int .i64 d.pc, .slice au2 d.locals.length capu2, .int .i64 d.base, .slice ax2 d.labels.length capx2] 42 := by
    have := Blk.new (w.alloc (.cells #[.int .i64 c.fn, .int .i64 c.pc, .slice au c.locals.length capu, .int .i64 c.base, .slice ax c.labels.length capx] 42)) #[.int .i64 d.fn, .int .i64 d.pc, .slice au2 d.locals.length capu2, .int .i64 d.base, .slice ax2 d.labels.length capx2] 42
    rw [World.size_alloc] at this
    exact this
  go_enter Try.func33, Try.ntmps33
  by_cases q1 : c.fn = d.fn
  rotate_left
  · have f1 := ieq_false q1
    have HX := Lib.hid (show c.fn ≠ d.fn from q1)
    clear q1
    go_wp2_with fail
    go_ret
    exact ⟨false, rfl, ⟨fun h => (by cases h), fun h => (HX.out (by rw [h])).elim⟩, hb⟩
  have f1 := ieq_true q1
  have Q1 := Lib.hid q1
  clear q1
  by_cases q2 : c.pc = d.pc
  rotate_left
  · have f2 := ieq_false q2
    have HX := Lib.hid (show c.pc ≠ d.pc from q2)
    clear q2
    go_wp2_with fail
    go_ret
    exact ⟨false, rfl, ⟨fun h => (by cases h), fun h => (HX.out (by rw [h])).elim⟩, hb⟩
  have f2 := ieq_true q2
  have Q2 := Lib.hid q2
  clear q2
  by_cases q3 : c.base = d.base
  rotate_left
  · have f3 := ieq_false q3
    have HX := Lib.hid (show c.base ≠ d.base from q3)
    clear q3
    go_wp2_with fail
    go_ret
    exact ⟨false, rfl, ⟨fun h => (by cases h), fun h => (HX.out (by rw [h])).elim⟩, hb⟩
  have f3 := ieq_true q3
  have Q3 := Lib.hid q3
  clear q3
  go_wp2_with fail
  refine (slEqual_any _ _ c.locals d.locals _ (HU.out.below (hb.mono (Nat.le_refl _))) (HU2.out.below (hb.mono (Nat.le_refl _)))).mono ?_
  rintro y w2 ⟨r, rfl, hr, hb2⟩
  have hbx2 := hbx.below hb2 hbx.lt
  have hby2 := hby.below hb2 hby.lt
  have hb' := hb.trans (hb2.mono hb.size)
  have HRR := Lib.hid hr
  obtain ⟨x0, x1, x2, x3, x4⟩ := hbx2.five
  obtain ⟨y0, y1, y2, y3, y4⟩ := hby2.five
  clear hr hb2 hbx hby hb hbx2 hby2
  cases r with
  | false =>
    go_wp2_with fail
    go_ret
    refine ⟨false, rfl, ⟨fun h => (by cases h), fun h => ?_⟩, hb'⟩
    have g := HRR.out.2 (by rw [h])
    simp at g
  | true =>
    go_wp2_with fail
    refine (slEqualL_any _ _ c.labels d.labels _ (HV.out.below (hb'.mono (Nat.le_refl _))) (HV2.out.below (hb'.mono (Nat.le_refl _)))).mono ?_
    rintro y w3 ⟨r2, rfl, hr2, hb3⟩
    have hb'' := hb'.trans (hb3.mono hb'.size)
    have HRR2 := Lib.hid hr2
    clear hr2 hb3 hb' x0 x1 x2 x3 x4 y0 y1 y2 y3 y4
    go_wp2_with fail
    go_ret
    refine ⟨r2, rfl, ⟨fun h => ?_, fun h => HRR2.out.2 (by rw [h])⟩, hb''⟩
    have g := HRR.out.1 (by simp)
    have g' := HRR2.out.1 h
    obtain ⟨p0, p1, p2, p3, p4⟩ := c
    obtain ⟨s0, s1, s2, s3, s4⟩ := d
    have g1 := Q1.out
    have g2 := Q2.out
    have g3 := Q3.out
    simp only at g g' g1 g2 g3
    rw [g, g', g1, g2, g3]

set_option maxRecDepth 100000 in
set_option maxHeartbeats 4000000 in
theorem eqFuncF_any (va vb : Value) (la lb : List FEnt) (w : World) (ha : IsFrames w va la) (hb : IsFrames w vb lb) :
    Calls Try.prog 32 #[va, vb, .func (.func 33) #[] #[]] w (EqVEnd la lb w) := by
  have HA := Lib.hid ha
  have HB := Lib.hid hb
  obtain ⟨a, cap, rfl, h1, h2⟩ := ha.slice
  obtain ⟨a2, cap2, rfl, h3, h4⟩ := hb.slice
  clear ha hb
  by_cases hlen : la.length = lb.length
  rotate_left
  · have f1 : (((la.length : Int)) != ((lb.length : Int))) = true := ine_true (by omega)
    have HL := Lib.hid hlen
    clear hlen
    go_enter Try.func32, Try.ntmps32
    go_wp2_with fail
    go_ret
    exact ⟨false, rfl, ⟨fun h => (by cases h), fun h => absurd (congrArg List.length h) HL.out⟩, Below.refl _ _⟩
  rw [← hlen] at h3 HB ⊢
  have HL := Lib.hid hlen
  clear hlen
  go_enter Try.func32, Try.ntmps32
  go_wp2_with fail
  refine wp_loop_r (fun a' w' => ∃ (k : Nat), a' = { tmps := #[.slice a la.length cap, .slice a2 la.length cap2, .func (.func 33) #[] #[], slot a' 3, slot a' 4, slot a' 5, slot a' 6, slot a' 7, slot a' 8, slot a' 9, slot a' 10, slot a' 11, slot a' 12, slot a' 13, slot a' 14, .slice a la.length cap, .int .i64 la.length, .int .i64 k, slot a' 18, slot a' 19, slot a' 20, slot a' 21, slot a' 22, slot a' 23, slot a' 24, slot a' 25, slot a' 26, slot a' 27, slot a' 28, slot a' 29, slot a' 30, slot a' 31], defers := [] } ∧ EqVJ la lb w w' k) (fun a' _ => (la.length - (intOf (a'.tmps.getD 17 undef)).toNat)) ?_ ?_
  · exact ⟨0, rfl, by omega, rfl, Below.refl _ _⟩
  · skip
    rintro R a' w1 ⟨k, hfr, hJ⟩ HR
    obtain ⟨f, hf⟩ : ∃ f, f = slot a' := ⟨_, rfl⟩
    rw [← hf] at hfr
    clear hf
    subst hfr
    obtain ⟨hk, htk, hb⟩ := hJ
    have HT := Lib.hid htk
    clear htk
    by_cases hkl : k < la.length
    rotate_left
    · obtain rfl : k = la.length := by omega
      go_wp2_with fail
      go_ret
      refine ⟨true, rfl, ⟨fun _ => ?_, fun _ => rfl⟩, hb⟩
      have := HT.out
      rw [List.take_length, HL.out, List.take_length] at this
      exact this
    obtain ⟨c, he⟩ : ∃ e, la[k]? = some e := ⟨_, List.getElem?_eq_getElem hkl⟩
    obtain ⟨d, hd⟩ : ∃ d, lb[k]? = some d := ⟨_, List.getElem?_eq_getElem (by have := HL.out; omega)⟩
    obtain ⟨b, off, u, x, rfl, hlt, ⟨c0, c1, c2, c3, c4⟩, hu, hx, -⟩ := (HA.out.below (hb.mono (Nat.le_refl _))).get he
    obtain ⟨b2, off2, u2, x2, rfl, hlt2, ⟨d0, d1, d2, d3, d4⟩, hu2, hx2, -⟩ := (HB.out.below (hb.mono (Nat.le_refl _))).get hd
    have HU := Lib.hid hu
    have HV := Lib.hid hx
    have HU2 := Lib.hid hu2
    have HV2 := Lib.hid hx2
    obtain ⟨au, capu, rfl, _, _, _⟩ := hu
    obtain ⟨ax, capx, rfl, _, _, _⟩ := hx
    obtain ⟨au2, capu2, rfl, _, _, _⟩ := hu2
    obtain ⟨ax2, capx2, rfl, _, _, _⟩ := hx2
    have HE := Lib.hid he
    have HD := Lib.hid hd
    clear he hd
    have hba : Below w1.heap.size w1 (w1.alloc (.cells #[.int .i64 c.fn, .int .i64 c.pc, .slice au c.locals.length capu, .int .i64 c.base, .slice ax c.labels.length capx] 42)) := (Below.refl w1.heap.size w1).alloc (Nat.le_refl _) _
    have hbb : Below w1.heap.size w1 ((w1.alloc (.cells #[.int .i64 c.fn, .int .i64 c.pc, .slice au c.locals.length capu, .int .i64 c.base, .slice ax c.labels.length capx] 42)).alloc (.cells #[.int .i64 d.fn, .int .i64 d.pc, .slice au2 d.locals.length capu2, .int .i64 d.base, .slice ax2 d.labels.length capx2] 42)) := hba.alloc (by simp) _
    have e0 := (hba.cell (p := ⟨b2, off2 + k * 5, none⟩) hlt2).trans d0
    have e1 := (hba.cell (p := ⟨b2, off2 + k * 5 + 1, none⟩) hlt2).trans d1
    have e2 := (hba.cell (p := ⟨b2, off2 + k * 5 + 2, none⟩) hlt2).trans d2
    have e3 := (hba.cell (p := ⟨b2, off2 + k * 5 + 3, none⟩) hlt2).trans d3
    have e4 := (hba.cell (p := ⟨b2, off2 + k * 5 + 4, none⟩) hlt2).trans d4
    go_wp2_with fail
    refine (eqPredF_any c d _ _ _ _ _ (HU.out.below hbb) (HV.out.below hbb) (HU2.out.below hbb) (HV2.out.below hbb)).mono ?_
    rintro y w2 ⟨r, rfl, hr, hb2⟩
    replace hb := hb.trans ((hbb.trans (hb2.mono hbb.size)).mono hb.size)
    clear hb2 hbb hba c0 c1 c2 c3 c4 d0 d1 d2 d3 d4 e0 e1 e2 e3 e4
    have HRR := Lib.hid hr
    clear hr
    cases r with
    | false =>
      go_wp2_with fail
      go_ret
      refine ⟨false, rfl, ⟨fun h => (by cases h), fun h => ?_⟩, hb⟩
      have h1 := HE.out
      rw [h, HD.out] at h1
      injection h1 with h1
      exact HRR.out.2 h1.symm
    | true =>
      go_wp2_with fail
      refine HR.out _ _ ⟨k + 1, rfl, by omega, ?_, hb⟩ ?_
      · rw [List.take_add_one, List.take_add_one, HT.out, HE.out, HD.out, HRR.out.1 (by simp)]
      · simp [intOf]
        omega

set_option maxRecDepth 100000 in
set_option maxHeartbeats 4000000 in
theorem eqState_any (uv uf uv2 uf2 : Value) (s t : SEnt) (w : World) (hs : IsState w uv uf s) (ht : IsState w uv2 uf2 t) :
    Calls Try.prog 13 #[.agg #[uv, uf, .int .i64 s.asks], .agg #[uv2, uf2, .int .i64 t.asks]] w
      (fun e w' => ∃ r : Bool, e = .returned (.bool r) ∧ (r = true ↔ s = t) ∧ Below w.heap.size w w') := by
  obtain ⟨hv, hf, -⟩ := hs
  obtain ⟨hv2, hf2, -⟩ := ht
  have HV := Lib.hid hv
  have HF := Lib.hid hf
  have HV2 := Lib.hid hv2
  have HF2 := Lib.hid hf2
  obtain ⟨av, capv, rfl, _, _, _⟩ := hv
  obtain ⟨af, capf, rfl, _, _⟩ := hf.slice
  obtain ⟨av2, capv2, rfl, _, _, _⟩ := hv2
  obtain ⟨af2, capf2, rfl, _, _⟩ := hf2.slice
  clear hf hf2
  have hb : Below w.heap.size w ((w.alloc (.cells #[.slice av s.vals.length capv, .slice af s.frames.length capf, .int .i64 s.asks] 25)).alloc (.cells #[.slice av2 t.vals.length capv2, .slice af2 t.frames.length capf2, .int .i64 t.asks] 25)) :=
    ((Below.refl w.heap.size w).alloc (Nat.le_refl _) _).alloc (by simp) _
  have hbx : Blk ((w.alloc (.cells #[.slice av s.vals.length capv, .slice af s.frames.length capf, .int .i64 s.asks] 25)).alloc (.cells #[.slice av2 t.vals.length capv2, .slice af2 t.frames.length capf2, .int .i64 t.asks] 25)) w.heap.size #[.slice av s.vals.length capv, .slice af s.frames.length capf, .int .i64 s.asks] 25 := (Blk.new w _ _).alloc _
  have hby : Blk ((w.alloc (.cells #[.slice av s.vals.length capv, .slice af s.frames.length capf, .int .i64 s.asks] 25)).alloc (.cells #[.slice av2 t.vals.length capv2, .slice af2 t.frames.length capf2, .int .i64 t.asks] 25)) (w.heap.size + 1) #[.slice av2 t.vals.length capv2, .slice af2 t.frames.length capf2, .int .i64 t.asks] 25 := by
    have := Blk.new (w.alloc (.cells #[.slice av s.vals.length capv, .slice af s.frames.length capf, .int .i64 s.asks] 25)) #[.slice av2 t.vals.length capv2, .slice af2 t.frames.length capf2, .int .i64 t.asks] 25
    rw [World.size_alloc] at this
    exact this
  go_enter Try.func13, Try.ntmps13
  by_cases q1 : s.asks = t.asks
  rotate_left
  · have f1 := ieq_false q1
    have HX := Lib.hid (show s.asks ≠ t.asks from q1)
    clear q1
    go_wp2_with fail
    go_ret
    exact ⟨false, rfl, ⟨fun h => (by cases h), fun h => (HX.out (by rw [h])).elim⟩, hb⟩
  have f1 := ieq_true q1
  have Q1 := Lib.hid q1
  clear q1
  go_wp2_with fail
  refine (slEqual_any _ _ s.vals t.vals _ (HV.out.below (hb.mono (Nat.le_refl _))) (HV2.out.below (hb.mono (Nat.le_refl _)))).mono ?_
  rintro y w2 ⟨r, rfl, hr, hb2⟩
  have hbx2 := hbx.below hb2 hbx.lt
  have hby2 := hby.below hb2 hby.lt
  have hb' := hb.trans (hb2.mono hb.size)
  have HRR := Lib.hid hr
  obtain ⟨x0, x1, x2⟩ := hbx2.three
  obtain ⟨y0, y1, y2⟩ := hby2.three
  clear hr hb2 hbx hby hb hbx2 hby2
  cases r with
  | false =>
    go_wp2_with fail
    go_ret
    refine ⟨false, rfl, ⟨fun h => (by cases h), fun h => ?_⟩, hb'⟩
    have g := HRR.out.2 (by rw [h])
    simp at g
  | true =>
    go_wp2_with fail
    refine (eqFuncF_any _ _ s.frames t.frames _ (HF.out.below (hb'.mono (Nat.le_refl _))) (HF2.out.below (hb'.mono (Nat.le_refl _)))).mono ?_
    rintro y w3 ⟨r2, rfl, hr2, hb3⟩
    have hb'' := hb'.trans (hb3.mono hb'.size)
    have HRR2 := Lib.hid hr2
    clear hr2 hb3 hb' x0 x1 x2 y0 y1 y2
    go_wp2_with fail
    go_ret
    refine ⟨r2, rfl, ⟨fun h => ?_, fun h => HRR2.out.2 (by rw [h])⟩, hb''⟩
    have g := HRR.out.1 (by simp)
    have g' := HRR2.out.1 h
    obtain ⟨p0, p1, p2⟩ := s
    obtain ⟨s0, s1, s2⟩ := t
    have g1 := Q1.out
    simp only at g g' g1
    rw [g, g', g1]
end Go.Proofs.Ytpknafidbmnjpaa
