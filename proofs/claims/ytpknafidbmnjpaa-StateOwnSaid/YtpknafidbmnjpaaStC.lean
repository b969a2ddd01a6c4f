/-
  Walk of state.May: which states may be.
-/
import Derived.Test.YtpknafidbmnjpaaStB
namespace Go.Proofs.Ytpknafidbmnjpaa
open Go.RowKit

theorem Blk.five {w : World} {X : Nat} {t : TypeId} {x0 x1 x2 x3 x4 : Value} (h : Blk w X #[x0, x1, x2, x3, x4] t) :
    w.cell? ⟨X, 0, none⟩ = some x0 ∧ w.cell? ⟨X, 1, none⟩ = some x1 ∧ w.cell? ⟨X, 2, none⟩ = some x2 ∧ w.cell? ⟨X, 3, none⟩ = some x3 ∧ w.cell? ⟨X, 4, none⟩ = some x4 := ⟨h.cell 0, h.cell 1, h.cell 2, h.cell 3, h.cell 4⟩
theorem Blk.three {w : World} {X : Nat} {t : TypeId} {x0 x1 x2 : Value} (h : Blk w X #[x0, x1, x2] t) :
    w.cell? ⟨X, 0, none⟩ = some x0 ∧ w.cell? ⟨X, 1, none⟩ = some x1 ∧ w.cell? ⟨X, 2, none⟩ = some x2 := ⟨h.cell 0, h.cell 1, h.cell 2⟩

def badF (f : FEnt) : Bool := !decide f.may

theorem anyBadV (l : List VEnt) : l.any badV = false ↔ ∀ v ∈ l, v.may := by
  rw [List.any_eq_false]
  constructor
  · intro h v hv
    have := h v hv
    simpa [badV] using this
  · intro h v hv
    simpa [badV] using h v hv
theorem anyBadL (l : List LEnt) : l.any badL = false ↔ ∀ v ∈ l, v.may := by
  rw [List.any_eq_false]
  constructor
  · intro h v hv
    have := h v hv
    simpa [badL] using this
  · intro h v hv
    simpa [badL] using h v hv
theorem anyBadF (l : List FEnt) : l.any badF = false ↔ ∀ v ∈ l, v.may := by
  rw [List.any_eq_false]
  constructor
  · intro h v hv
    have := h v hv
    simpa [badF] using this
  · intro h v hv
    simpa [badF] using h v hv


set_option maxRecDepth 100000 in
set_option maxHeartbeats 2000000 in
theorem framePred_any (f : FEnt) (u x : Value) (w : World) (hu : IsRws 2 encV w u f.locals) (hx : IsRws 2 encL w x f.labels) :
    Calls Try.prog 25 #[.agg #[.int .i64 f.fn, .int .i64 f.pc, u, .int .i64 f.base, x]] w (BoolEnd (badF f) w) := by
  have HU := Lib.hid hu
  have HV := Lib.hid hx
  obtain ⟨au, capu, rfl, _, hcu, _⟩ := hu
  obtain ⟨ax, capx, rfl, _, hcx, _⟩ := hx
  unfold maxLen at hcu hcx
  have hbad : ∀ b, (f.may → b = false) → (b = false → f.may) → badF f = b := by
    intro b h1 h2
    by_cases h : f.may
    · rw [badF, decide_eq_true h, h1 h]; rfl
    · cases b
      · exact absurd (h2 rfl) h
      · rw [badF, decide_eq_false h]; rfl
  have HBAD := Lib.hid (show ¬ f.may → badF f = true from fun h => by rw [badF, decide_eq_false h]; rfl)
  have HGOOD := Lib.hid (show f.may → badF f = false from fun h => by rw [badF, decide_eq_true h]; rfl)
  have HL := Lib.hid (anyBadL f.labels)
  have HLV := Lib.hid (anyBadV f.locals)
  clear hbad
  go_enter Try.func25, Try.ntmps25
  go_wp2_with fail
  have hbx := Blk.new w #[.int .i64 f.fn, .int .i64 f.pc, .slice au f.locals.length capu, .int .i64 f.base, .slice ax f.labels.length capx] 42
  refine (hasBadL_any _ f.labels _ (HV.out.below ((Below.refl _ _).alloc (Nat.le_refl _) _))).mono ?_
  rintro y w1 ⟨rfl, hb1⟩
  replace hbx := hbx.below hb1 (by simp)
  have hb : Below w.heap.size w w1 := ((Below.refl w.heap.size w).alloc (Nat.le_refl _) _).trans (hb1.mono (by simp))
  clear hb1
  obtain ⟨x0, x1, x2, x3, x4⟩ := hbx.five
  cases q1 : f.labels.any badL with
  | true =>
    have Q1 := Lib.hid q1
    clear q1 hbx
    have HX := Lib.hid (show badF f = true from HBAD.out (fun h => by have := HL.out.2 h.1; rw [Q1.out] at this; cases this))
    go_wp2_with fail
    go_ret
    exact ⟨by rw [HX.out]; rfl, hb⟩
  | false =>
    have Q1 := Lib.hid (HL.out.1 q1)
    clear q1
    by_cases q2 : 40 < f.labels.length
    · have f2 : decide (40 < (f.labels.length : Int)) = true := decide_eq_true (by omega)
      clear hbx
      have HX := Lib.hid (show badF f = true from HBAD.out (fun h => by have := h.2.1; omega))
      go_wp2_with fail
      go_ret
      exact ⟨by rw [HX.out]; rfl, hb⟩
    have f2 : decide (40 < (f.labels.length : Int)) = false := decide_eq_false (by omega)
    by_cases q3 : 32 < f.locals.length
    · have f3 : decide (32 < (f.locals.length : Int)) = true := decide_eq_true (by omega)
      clear hbx
      have HX := Lib.hid (show badF f = true from HBAD.out (fun h => by have := h.2.2.1; omega))
      go_wp2_with fail
      go_ret
      exact ⟨by rw [HX.out]; rfl, hb⟩
    have f3 : decide (32 < (f.locals.length : Int)) = false := decide_eq_false (by omega)
    go_wp2_with fail
    refine (values_any _ f.locals _ (HU.out.below (hb.mono (Nat.le_refl _)))).mono ?_
    rintro y w2 ⟨rfl, hb2⟩
    replace hbx := hbx.below hb2 hbx.lt
    replace hb := below_next hb hb2
    clear hb2 x0 x1 x2 x3 x4
    obtain ⟨x0, x1, x2, x3, x4⟩ := hbx.five
    clear hbx
    cases q4 : f.locals.any badV with
    | true =>
      have Q4 := Lib.hid q4
      clear q4
      have HX := Lib.hid (show badF f = true from HBAD.out (fun h => by have := HLV.out.2 h.2.2.2.1; rw [Q4.out] at this; cases this))
      go_wp2_with fail
      go_ret
      exact ⟨by rw [HX.out]; rfl, hb⟩
    | false =>
      have Q4 := Lib.hid (HLV.out.1 q4)
      clear q4
      go_wp2_with fail
      have hl := lit_ints3 w2 f.fn f.pc f.base 3
      refine (small_any _ _ _ hl).mono ?_
      rintro y w3 ⟨rfl, hb3⟩
      replace hb := below_next hb (((Below.refl w2.heap.size w2).alloc (Nat.le_refl _) _).trans (hb3.mono (by simp)))
      clear hb3 x0 x1 x2 x3 x4 hl
      cases q5 : [f.fn, f.pc, f.base].any badN with
      | true =>
        have Q5 := Lib.hid q5
        clear q5
        have HX := Lib.hid (show badF f = true from HBAD.out (fun h => by have g := Q5.out; simp [badN_iff.2 h.2.2.2.2.1, badN_iff.2 h.2.2.2.2.2.1, badN_iff.2 h.2.2.2.2.2.2] at g))
        go_wp2_with fail
        go_ret
        exact ⟨by rw [HX.out]; rfl, hb⟩
      | false =>
        have Q5 := Lib.hid q5
        clear q5
        have HX := Lib.hid (show badF f = false from HGOOD.out (by have g := Q5.out; simp at g; exact ⟨Q1.out, by omega, by omega, Q4.out, badN_iff.1 g.1, badN_iff.1 g.2.1, badN_iff.1 g.2.2⟩))
        go_wp2_with fail
        go_ret
        exact ⟨by rw [HX.out]; rfl, hb⟩

set_option maxRecDepth 100000 in
set_option maxHeartbeats 2000000 in
theorem ixFrames_any (v : Value) (l : List FEnt) (w : World) (hl : IsFrames w v l) :
    Calls Try.prog 47 #[v, .func (.func 25) #[] #[]] w (IdxEnd badF l w) := by
  have HI := Lib.hid hl
  obtain ⟨a, cap, rfl, h1, h2⟩ := hl.slice
  clear hl
  go_enter Try.func47, Try.ntmps47
  go_wp2_with fail
  refine wp_loop_r (fun a' w' => ∃ (k : Nat), a' = { tmps := #[.slice a l.length cap, .func (.func 25) #[] #[], slot a' 2, slot a' 3, slot a' 4, slot a' 5, slot a' 6, .int .i64 l.length, .int .i64 k, slot a' 9, slot a' 10, slot a' 11, slot a' 12, slot a' 13, slot a' 14, slot a' 15, slot a' 16, slot a' 17, slot a' 18], defers := [] } ∧ IdxJ badF l w w' k) (fun a' _ => (l.length - (intOf (a'.tmps.getD 8 undef)).toNat)) ?_ ?_
  · exact ⟨0, rfl, by omega, fun i hi => by omega, Below.refl _ _⟩
  · skip
    rintro R a' w1 ⟨k, hfr, hJ⟩ HR
    obtain ⟨f, hf⟩ : ∃ f, f = slot a' := ⟨_, rfl⟩
    rw [← hf] at hfr
    clear hf
    subst hfr
    obtain ⟨hk, hm, hb⟩ := hJ
    have HMM := Lib.hid hm
    clear hm
    by_cases hkl : k < l.length
    rotate_left
    · obtain rfl : k = l.length := by omega
      go_wp2_with fail
      go_ret
      exact ⟨by rw [idxR_miss HMM.out]; rfl, hb⟩
    obtain ⟨e, he⟩ : ∃ e, l[k]? = some e := ⟨_, List.getElem?_eq_getElem hkl⟩
    obtain ⟨b, off, u, x, rfl, hlt, ⟨c0, c1, c2, c3, c4⟩, hu, hx, -⟩ := (HI.out.below (hb.mono (Nat.le_refl _))).get he
    have hcall := framePred_any e u x w1 hu hx
    obtain ⟨au, capu, rfl, -, -, -⟩ := hu
    obtain ⟨ax, capx, rfl, -, -, -⟩ := hx
    have HE := Lib.hid he
    clear he
    cases hq : badF e
    all_goals
      rw [hq] at hcall
      have HQ := Lib.hid hq
      clear hq
      go_wp2_with fail
      refine hcall.mono ?_
      rintro x w2 ⟨rfl, hb2⟩
      replace hb := below_next hb hb2
      clear hcall hb2 c0 c1 c2 c3 c4
      go_wp2_with fail
    · refine HR.out _ _ ⟨k + 1, rfl, by omega, ?_, hb⟩ ?_
      · intro i hi d hd
        rcases Nat.lt_or_ge i k with h | h
        · exact HMM.out i h d hd
        · obtain rfl : i = k := by omega
          rw [HE.out] at hd
          injection hd with hd
          rw [← hd]
          exact HQ.out
      · simp [intOf]
        omega
    · go_ret
      exact ⟨by rw [idxR_hit HE.out HQ.out HMM.out]; rfl, hb⟩

theorem hasBadF_any (v : Value) (l : List FEnt) (w : World) (hl : IsFrames w v l) :
    Calls Try.prog 24 #[v, .func (.func 25) #[] #[]] w (BoolEnd (l.any badF) w) := by
  go_enter Try.func24, Try.ntmps24
  go_wp2_with fail
  refine (ixFrames_any v l _ hl).mono ?_
  rintro x w2 ⟨rfl, hb⟩
  go_wp2_with fail
  go_ret
  exact ⟨by rw [← idxR_any]; rfl, hb⟩


set_option maxRecDepth 100000 in
set_option maxHeartbeats 2000000 in
theorem mayState_any (uv uf : Value) (s : SEnt) (w : World) (hs : IsState w uv uf s) :
    Calls Try.prog 11 #[.agg #[uv, uf, .int .i64 s.asks]] w (BoolEnd (decide s.may) w) := by
  have HS := Lib.hid hs
  obtain ⟨hv, hf, ⟨⟨o1, o2⟩, -, -⟩⟩ := hs
  obtain ⟨av, capv, rfl, _, hcv, _⟩ := hv
  obtain ⟨af, capf, rfl, _, hcf⟩ := hf.slice
  unfold maxLen at hcv
  have HL := Lib.hid (anyBadF s.frames)
  have HLV := Lib.hid (anyBadV s.vals)
  clear hf
  have hb : Below w.heap.size w (w.alloc (.cells #[.slice av s.vals.length capv, .slice af s.frames.length capf, .int .i64 s.asks] 25)) := (Below.refl _ _).alloc (Nat.le_refl _) _
  go_enter Try.func11, Try.ntmps11
  by_cases q1 : 1000 < s.vals.length
  · have f1 : decide (1000 < (s.vals.length : Int)) = true := decide_eq_true (by omega)
    have HX := Lib.hid (show decide s.may = false from decide_eq_false (fun h => by have := h.1; omega))
    go_wp2_with fail
    go_ret
    exact ⟨by rw [HX.out]; rfl, hb⟩
  have f1 : decide (1000 < (s.vals.length : Int)) = false := decide_eq_false (by omega)
  by_cases q2 : 32 < s.frames.length
  · have f2 : decide (32 < (s.frames.length : Int)) = true := decide_eq_true (by omega)
    have HX := Lib.hid (show decide s.may = false from decide_eq_false (fun h => by have := h.2.1; omega))
    go_wp2_with fail
    go_ret
    exact ⟨by rw [HX.out]; rfl, hb⟩
  have f2 : decide (32 < (s.frames.length : Int)) = false := decide_eq_false (by omega)
  by_cases q3 : s.asks < -1
  · have f3 : decide (s.asks < -1) = true := decide_eq_true q3
    have HX := Lib.hid (show decide s.may = false from decide_eq_false (fun h => by have := h.2.2.1; omega))
    go_wp2_with fail
    go_ret
    exact ⟨by rw [HX.out]; rfl, hb⟩
  have f3 : decide (s.asks < -1) = false := decide_eq_false q3
  by_cases q4 : 10000 < s.asks
  · have f4 : decide (10000 < s.asks) = true := decide_eq_true q4
    have HX := Lib.hid (show decide s.may = false from decide_eq_false (fun h => by have := h.2.2.2.1; omega))
    go_wp2_with fail
    go_ret
    exact ⟨by rw [HX.out]; rfl, hb⟩
  have f4 : decide (10000 < s.asks) = false := decide_eq_false q4
  go_wp2_with fail
  have hbx := Blk.new w #[.slice av s.vals.length capv, .slice af s.frames.length capf, .int .i64 s.asks] 25
  refine (values_any _ s.vals _ (HS.out.1.below (hb.mono (Nat.le_refl _)))).mono ?_
  rintro y w1 ⟨rfl, hb1⟩
  replace hbx := hbx.below hb1 (by simp)
  have hb := hb.trans (hb1.mono hb.size)
  clear hb1
  obtain ⟨x0, x1, x2⟩ := hbx.three
  clear hbx
  cases q5 : s.vals.any badV with
  | true =>
    have Q5 := Lib.hid q5
    clear q5
    have HX := Lib.hid (show decide s.may = false from decide_eq_false (fun h => by have := HLV.out.2 h.2.2.2.2.1; rw [Q5.out] at this; cases this))
    go_wp2_with fail
    go_ret
    exact ⟨by rw [HX.out]; rfl, hb⟩
  | false =>
    have Q5 := Lib.hid (HLV.out.1 q5)
    clear q5
    go_wp2_with fail
    refine (hasBadF_any _ s.frames _ (HS.out.2.1.below (hb.mono (Nat.le_refl _)))).mono ?_
    rintro y w2 ⟨rfl, hb2⟩
    replace hb := below_next hb hb2
    clear hb2 x0 x1 x2
    cases q6 : s.frames.any badF with
    | true =>
      have Q6 := Lib.hid q6
      clear q6
      have HX := Lib.hid (show decide s.may = false from decide_eq_false (fun h => by have := HL.out.2 h.2.2.2.2.2; rw [Q6.out] at this; cases this))
      go_wp2_with fail
      go_ret
      exact ⟨by rw [HX.out]; rfl, hb⟩
    | false =>
      have Q6 := Lib.hid (HL.out.1 q6)
      clear q6
      have HX := Lib.hid (show decide s.may = true from decide_eq_true ⟨by omega, by omega, by omega, by omega, Q5.out, Q6.out⟩)
      go_wp2_with fail
      go_ret
      exact ⟨by rw [HX.out]; rfl, hb⟩
end Go.Proofs.Ytpknafidbmnjpaa
