/-
  Walk of calls.Eq.
-/
import Derived.Test.YtbgeijdfkdfdoaaCallE
namespace Go.Proofs.Ytbgeijdfkdfdoaa
open Go.RowKit


set_option maxRecDepth 100000 in
set_option maxHeartbeats 4000000 in
theorem eqPred_any (c d : CEnt) (u x : Value) (w : World) (hu : IsRws 2 encV w u c.args) (hx : IsRws 2 encV w x d.args) :
    Calls Try.prog 57 #[.agg #[.int .i64 c.n, .int .i64 c.fn, .int .i64 c.pos, u, .bool c.has, .int .i64 c.ans], .agg #[.int .i64 d.n, .int .i64 d.fn, .int .i64 d.pos, x, .bool d.has, .int .i64 d.ans]] w
      (fun e w' => ∃ r : Bool, e = .returned (.bool r) ∧ (r = true ↔ c = d) ∧ Below w.heap.size w w') := by
  have HU := Lib.hid hu
  have HV := Lib.hid hx
  obtain ⟨au, capu, rfl, _, _, _⟩ := hu
  obtain ⟨ax, capx, rfl, _, _, _⟩ := hx
  have hb : Below w.heap.size w ((w.alloc (.cells #[.int .i64 c.n, .int .i64 c.fn, .int .i64 c.pos, .slice au c.args.length capu, .bool c.has, .int .i64 c.ans] 82)).alloc (.cells #[.int .i64 d.n, .int .i64 d.fn, .int .i64 d.pos, .slice ax d.args.length capx, .bool d.has, .int .i64 d.ans] 82)) :=
    ((Below.refl w.heap.size w).alloc (Nat.le_refl _) _).alloc (by simp) _
  go_enter Try.func57, Try.ntmps57
  by_cases q1 : c.n = d.n
  rotate_left
  · have f1 := ieq_false q1
    have HX := Lib.hid (show c.n ≠ d.n from q1)
    clear q1
    go_wp2_with fail
    go_ret
    exact ⟨false, rfl, ⟨fun h => (by cases h), fun h => (HX.out (by rw [h])).elim⟩, hb⟩
  have f1 := ieq_true q1
  have Q1 := Lib.hid q1
  clear q1
  by_cases q2 : c.fn = d.fn
  rotate_left
  · have f2 := ieq_false q2
    have HX := Lib.hid (show c.fn ≠ d.fn from q2)
    clear q2
    go_wp2_with fail
    go_ret
    exact ⟨false, rfl, ⟨fun h => (by cases h), fun h => (HX.out (by rw [h])).elim⟩, hb⟩
  have f2 := ieq_true q2
  have Q2 := Lib.hid q2
  clear q2
  by_cases q3 : c.pos = d.pos
  rotate_left
  · have f3 := ieq_false q3
    have HX := Lib.hid (show c.pos ≠ d.pos from q3)
    clear q3
    go_wp2_with fail
    go_ret
    exact ⟨false, rfl, ⟨fun h => (by cases h), fun h => (HX.out (by rw [h])).elim⟩, hb⟩
  have f3 := ieq_true q3
  have Q3 := Lib.hid q3
  clear q3
  by_cases q4 : c.has = d.has
  rotate_left
  · have f4 : (c.has == d.has) = false := beq_eq_false_iff_ne.2 q4
    have HX := Lib.hid (show c.has ≠ d.has from q4)
    clear q4
    go_wp2_with fail
    go_ret
    exact ⟨false, rfl, ⟨fun h => (by cases h), fun h => (HX.out (by rw [h])).elim⟩, hb⟩
  have f4 : (c.has == d.has) = true := beq_iff_eq.2 q4
  have Q4 := Lib.hid q4
  clear q4
  by_cases q5 : c.ans = d.ans
  rotate_left
  · have f5 := ieq_false q5
    have HX := Lib.hid (show c.ans ≠ d.ans from q5)
    clear q5
    go_wp2_with fail
    go_ret
    exact ⟨false, rfl, ⟨fun h => (by cases h), fun h => (HX.out (by rw [h])).elim⟩, hb⟩
  have f5 := ieq_true q5
  have Q5 := Lib.hid q5
  clear q5
  go_wp2_with fail
  refine (slEqual_any _ _ c.args d.args _ (HU.out.below (hb.mono (Nat.le_refl _))) (HV.out.below (hb.mono (Nat.le_refl _)))).mono ?_
  rintro y w2 ⟨r, rfl, hr, hb2⟩
  have hb' := hb.trans (hb2.mono hb.size)
  have HRR := Lib.hid hr
  clear hr hb2
  go_wp2_with fail
  go_ret
  refine ⟨r, rfl, ⟨fun h => ?_, fun h => HRR.out.2 (by rw [h])⟩, hb'⟩
  have g := HRR.out.1 h
  obtain ⟨x0, x1, x2, x3, x4, x5⟩ := c
  obtain ⟨y0, y1, y2, y3, y4, y5⟩ := d
  have g1 := Q1.out
  have g2 := Q2.out
  have g3 := Q3.out
  have g4 := Q4.out
  have g5 := Q5.out
  simp only at g g1 g2 g3 g4 g5
  rw [g, g1, g2, g3, g4, g5]

set_option maxRecDepth 100000 in
set_option maxHeartbeats 4000000 in
theorem eqFunc_any (va vb : Value) (la lb : List CEnt) (w : World) (ha : IsCalls w va la) (hb : IsCalls w vb lb) :
    Calls Try.prog 56 #[va, vb, .func (.func 57) #[] #[]] w (EqVEnd la lb w) := by
  have HA := Lib.hid ha
  have HB := Lib.hid hb
  obtain ⟨a, cap, rfl, h1, h2⟩ := ha.slice
  obtain ⟨a2, cap2, rfl, h3, h4⟩ := hb.slice
  clear ha hb
  by_cases hlen : la.length = lb.length
  rotate_left
  · have f1 : (((la.length : Int)) != ((lb.length : Int))) = true := ine_true (by omega)
    have HL := Lib.hid hlen
    clear hlen
    go_enter Try.func56, Try.ntmps56
    go_wp2_with fail
    go_ret
    exact ⟨false, rfl, ⟨fun h => (by cases h), fun h => absurd (congrArg List.length h) HL.out⟩, Below.refl _ _⟩
  rw [← hlen] at h3 HB ⊢
  have HL := Lib.hid hlen
  clear hlen
  go_enter Try.func56, Try.ntmps56
  go_wp2_with fail
  refine wp_loop_r (fun a' w' => ∃ (k : Nat), a' = { tmps := #[.slice a la.length cap, .slice a2 la.length cap2, .func (.func 57) #[] #[], slot a' 3, slot a' 4, slot a' 5, slot a' 6, slot a' 7, slot a' 8, slot a' 9, slot a' 10, slot a' 11, slot a' 12, slot a' 13, slot a' 14, .slice a la.length cap, .int .i64 la.length, .int .i64 k, slot a' 18, slot a' 19, slot a' 20, slot a' 21, slot a' 22, slot a' 23, slot a' 24, slot a' 25, slot a' 26, slot a' 27, slot a' 28, slot a' 29, slot a' 30, slot a' 31], defers := [] } ∧ EqVJ la lb w w' k) (fun a' _ => (la.length - (intOf (a'.tmps.getD 17 undef)).toNat)) ?_ ?_
  · exact ⟨0, rfl, by omega, rfl, Below.refl _ _⟩
  · skip
    rintro R a' w1 ⟨k, hfr, hJ⟩ HR
    obtain ⟨f, hf⟩ : ∃ f, f = slot a' := ⟨_, rfl⟩
    rw [← hf] at hfr
    clear hf
    subst hfr
    obtain ⟨hk, htk, hb⟩ := hJ
    have HT := Lib.hid htk
    clear htk
    by_cases hkl : k < la.length
    rotate_left
    · obtain rfl : k = la.length := by omega
      go_wp2_with fail
      go_ret
      refine ⟨true, rfl, ⟨fun _ => ?_, fun _ => rfl⟩, hb⟩
      have := HT.out
      rw [List.take_length, HL.out, List.take_length] at this
      exact this
    obtain ⟨c, he⟩ : ∃ e, la[k]? = some e := ⟨_, List.getElem?_eq_getElem hkl⟩
    obtain ⟨d, hd⟩ : ∃ d, lb[k]? = some d := ⟨_, List.getElem?_eq_getElem (by have := HL.out; omega)⟩
    obtain ⟨b, off, u, rfl, hlt, ⟨c0, c1, c2, c3, c4, c5⟩, hu, -⟩ := (HA.out.below (hb.mono (Nat.le_refl _))).get he
    obtain ⟨b2, off2, x, rfl, hlt2, ⟨d0, d1, d2, d3, d4, d5⟩, hx, -⟩ := (HB.out.below (hb.mono (Nat.le_refl _))).get hd
    have HU := Lib.hid hu
    have HV := Lib.hid hx
    obtain ⟨au, capu, rfl, _, _, _⟩ := hu
    obtain ⟨ax, capx, rfl, _, _, _⟩ := hx
    have HE := Lib.hid he
    have HD := Lib.hid hd
    clear he hd
    have hbb : Below w1.heap.size w1 ((w1.alloc (.cells #[.int .i64 c.n, .int .i64 c.fn, .int .i64 c.pos, .slice au c.args.length capu, .bool c.has, .int .i64 c.ans] 82)).alloc (.cells #[.int .i64 d.n, .int .i64 d.fn, .int .i64 d.pos, .slice ax d.args.length capx, .bool d.has, .int .i64 d.ans] 82)) :=
      ((Below.refl w1.heap.size w1).alloc (Nat.le_refl _) _).alloc (by simp) _
    have e0 : (w1.alloc (.cells #[.int .i64 c.n, .int .i64 c.fn, .int .i64 c.pos, .slice au c.args.length capu, .bool c.has, .int .i64 c.ans] 82)).cell? ⟨b2, off2 + k * 6, none⟩ = some (.int .i64 d.n) := by rw [((Below.refl w1.heap.size w1).alloc (Nat.le_refl _) _).cell hlt2]; exact d0
    have e1 : (w1.alloc (.cells #[.int .i64 c.n, .int .i64 c.fn, .int .i64 c.pos, .slice au c.args.length capu, .bool c.has, .int .i64 c.ans] 82)).cell? ⟨b2, off2 + k * 6 + 1, none⟩ = some (.int .i64 d.fn) := by rw [((Below.refl w1.heap.size w1).alloc (Nat.le_refl _) _).cell hlt2]; exact d1
    have e2 : (w1.alloc (.cells #[.int .i64 c.n, .int .i64 c.fn, .int .i64 c.pos, .slice au c.args.length capu, .bool c.has, .int .i64 c.ans] 82)).cell? ⟨b2, off2 + k * 6 + 2, none⟩ = some (.int .i64 d.pos) := by rw [((Below.refl w1.heap.size w1).alloc (Nat.le_refl _) _).cell hlt2]; exact d2
    have e3 : (w1.alloc (.cells #[.int .i64 c.n, .int .i64 c.fn, .int .i64 c.pos, .slice au c.args.length capu, .bool c.has, .int .i64 c.ans] 82)).cell? ⟨b2, off2 + k * 6 + 3, none⟩ = some (.slice ax d.args.length capx) := by rw [((Below.refl w1.heap.size w1).alloc (Nat.le_refl _) _).cell hlt2]; exact d3
    have e4 : (w1.alloc (.cells #[.int .i64 c.n, .int .i64 c.fn, .int .i64 c.pos, .slice au c.args.length capu, .bool c.has, .int .i64 c.ans] 82)).cell? ⟨b2, off2 + k * 6 + 4, none⟩ = some (.bool d.has) := by rw [((Below.refl w1.heap.size w1).alloc (Nat.le_refl _) _).cell hlt2]; exact d4
    have e5 : (w1.alloc (.cells #[.int .i64 c.n, .int .i64 c.fn, .int .i64 c.pos, .slice au c.args.length capu, .bool c.has, .int .i64 c.ans] 82)).cell? ⟨b2, off2 + k * 6 + 5, none⟩ = some (.int .i64 d.ans) := by rw [((Below.refl w1.heap.size w1).alloc (Nat.le_refl _) _).cell hlt2]; exact d5
    go_wp2_with fail
    refine (eqPred_any c d _ _ _ (HU.out.below hbb) (HV.out.below hbb)).mono ?_
    rintro y w2 ⟨r, rfl, hr, hb2⟩
    replace hb := hb.trans ((hbb.trans (hb2.mono hbb.size)).mono hb.size)
    clear hb2 hbb c0 c1 c2 c3 c4 c5 d0 d1 d2 d3 d4 d5 e0 e1 e2 e3 e4 e5
    have HRR := Lib.hid hr
    clear hr
    cases r with
    | false =>
      go_wp2_with fail
      go_ret
      refine ⟨false, rfl, ⟨fun h => (by cases h), fun h => ?_⟩, hb⟩
      have h1 := HE.out
      rw [h, HD.out] at h1
      injection h1 with h1
      exact HRR.out.2 h1.symm
    | true =>
      go_wp2_with fail
      refine HR.out _ _ ⟨k + 1, rfl, by omega, ?_, hb⟩ ?_
      · rw [List.take_add_one, List.take_add_one, HT.out, HE.out, HD.out, HRR.out.1 (by simp)]
      · simp [intOf]
        omega

theorem eqCalls_any (va vb : Value) (la lb : List CEnt) (w : World) (ha : IsCalls w va la) (hb : IsCalls w vb lb) : Calls Try.prog 41 #[va, vb] w (EqVEnd la lb w) := by
  go_enter Try.func41, Try.ntmps41
  go_wp2_with fail
  refine (eqFunc_any va vb la lb w ha hb).mono ?_
  rintro y w2 ⟨r, rfl, hr, hb2⟩
  go_wp2_with fail
  go_ret
  exact ⟨r, rfl, hr, hb2⟩
end Go.Proofs.Ytbgeijdfkdfdoaa
