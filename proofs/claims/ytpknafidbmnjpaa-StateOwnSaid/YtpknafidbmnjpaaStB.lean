/-
  Walks of state.small, values, May: which states may be.
-/
import Derived.Test.YtpknafidbmnjpaaStA
import Derived.Test.YtpknafidbmnjpaaPredS
namespace Go.Proofs.Ytpknafidbmnjpaa
open Go.RowKit


theorem smallPred_any (n : Int) (w : World) : Calls Try.prog 50 #[.int .i64 n] w (BoolEnd (badN n) w) := by
  by_cases q0 : n < 0
  · have f0 : decide (n < 0) = true := decide_eq_true q0
    have HB := Lib.hid (show badN n = true by rw [badN, f0]; rfl)
    go_enter Try.func50, Try.ntmps50
    go_wp2_with fail
    go_ret
    exact ⟨by rw [HB.out]; rfl, Below.refl _ _⟩
  have f0 : decide (n < 0) = false := decide_eq_false q0
  by_cases q1 : 10000 < n
  · have f1 : decide (10000 < n) = true := decide_eq_true q1
    have HB := Lib.hid (show badN n = true by rw [badN, f0, f1]; rfl)
    go_enter Try.func50, Try.ntmps50
    go_wp2_with fail
    go_ret
    exact ⟨by rw [HB.out]; rfl, Below.refl _ _⟩
  · have f1 : decide (10000 < n) = false := decide_eq_false q1
    have HB := Lib.hid (show badN n = false by rw [badN, f0, f1]; rfl)
    go_enter Try.func50, Try.ntmps50
    go_wp2_with fail
    go_ret
    exact ⟨by rw [HB.out]; rfl, Below.refl _ _⟩

def encI (n : Int) : List Value := [.int .i64 n]

set_option maxRecDepth 100000 in
set_option maxHeartbeats 2000000 in
theorem ixInts_any (v : Value) (l : List Int) (w : World) (hl : IsRws 1 encI w v l) :
    Calls Try.prog 55 #[v, .func (.func 50) #[] #[]] w (IdxEnd badN l w) := by
  have HI := Lib.hid hl
  have hl' := hl
  obtain ⟨a, cap, rfl, h1, h2, _⟩ := hl'
  unfold maxLen at h2
  clear hl
  go_enter Try.func55, Try.ntmps55
  go_wp2_with fail
  refine wp_loop_r (fun a' w' => ∃ (k : Nat), a' = { tmps := #[.slice a l.length cap, .func (.func 50) #[] #[], slot a' 2, slot a' 3, slot a' 4, slot a' 5, slot a' 6, .int .i64 l.length, .int .i64 k, slot a' 9, slot a' 10, slot a' 11, slot a' 12, slot a' 13, slot a' 14, slot a' 15, slot a' 16, slot a' 17, slot a' 18], defers := [] } ∧ IdxJ badN l w w' k) (fun a' _ => (l.length - (intOf (a'.tmps.getD 8 undef)).toNat)) ?_ ?_
  · exact ⟨0, rfl, by omega, fun i hi => by omega, Below.refl _ _⟩
  · skip
    rintro R a' w1 ⟨k, hfr, hJ⟩ HR
    obtain ⟨f, hf⟩ : ∃ f, f = slot a' := ⟨_, rfl⟩
    rw [← hf] at hfr
    clear hf
    subst hfr
    obtain ⟨hk, hm, hb⟩ := hJ
    have HMM := Lib.hid hm
    clear hm
    by_cases hkl : k < l.length
    rotate_left
    · obtain rfl : k = l.length := by omega
      go_wp2_with fail
      go_ret
      exact ⟨by rw [idxR_miss HMM.out]; rfl, hb⟩
    obtain ⟨e, he⟩ : ∃ e, l[k]? = some e := ⟨_, List.getElem?_eq_getElem hkl⟩
    obtain ⟨a', cap', hv, _, _, hcells⟩ := HI.out.below (hb.mono (Nat.le_refl _))
    injection hv with e1 e2 e3
    subst e1 e3
    obtain ⟨b, off, rfl, hlt, hc⟩ := hcells k e he
    have c0 := hc 0 _ rfl
    rw [Nat.add_zero, Nat.mul_one] at c0
    have HE := Lib.hid he
    clear hcells e2 he hc
    have hcall := smallPred_any e w1
    cases hq : badN e
    all_goals
      rw [hq] at hcall
      have HQ := Lib.hid hq
      clear hq
      go_wp2_with fail
      refine hcall.mono ?_
      rintro x w2 ⟨rfl, hb2⟩
      replace hb := below_next hb hb2
      clear hcall hb2
      go_wp2_with fail
    · refine HR.out _ _ ⟨k + 1, rfl, by omega, ?_, hb⟩ ?_
      · intro i hi d hd
        rcases Nat.lt_or_ge i k with h | h
        · exact HMM.out i h d hd
        · obtain rfl : i = k := by omega
          rw [HE.out] at hd
          injection hd with hd
          rw [← hd]
          exact HQ.out
      · simp [intOf]
        omega
    · go_ret
      exact ⟨by rw [idxR_hit HE.out HQ.out HMM.out]; rfl, hb⟩

theorem hasBadI_any (v : Value) (l : List Int) (w : World) (hl : IsRws 1 encI w v l) :
    Calls Try.prog 49 #[v, .func (.func 50) #[] #[]] w (BoolEnd (l.any badN) w) := by
  go_enter Try.func49, Try.ntmps49
  go_wp2_with fail
  refine (ixInts_any v l _ hl).mono ?_
  rintro x w2 ⟨rfl, hb⟩
  go_wp2_with fail
  go_ret
  exact ⟨by rw [← idxR_any]; rfl, hb⟩

theorem small_any (v : Value) (l : List Int) (w : World) (hl : IsRws 1 encI w v l) : Calls Try.prog 28 #[v] w (BoolEnd (!l.any badN) w) := by
  go_enter Try.func28, Try.ntmps28
  go_wp2_with fail
  refine (hasBadI_any v l _ hl).mono ?_
  rintro x w2 ⟨rfl, hb⟩
  go_wp2_with fail
  go_ret
  exact ⟨rfl, hb⟩

theorem values_any (v : Value) (l : List VEnt) (w : World) (hl : IsRws 2 encV w v l) : Calls Try.prog 23 #[v] w (BoolEnd (!l.any badV) w) := by
  go_enter Try.func23, Try.ntmps23
  go_wp2_with fail
  refine (hasBad_any v l _ hl).mono ?_
  rintro x w2 ⟨rfl, hb⟩
  go_wp2_with fail
  go_ret
  exact ⟨rfl, hb⟩

theorem lit_ints2 (w : World) (x y : Int) (t : TypeId) : IsRws 1 encI (w.alloc (.cells #[.int .i64 x, .int .i64 y] t)) (.slice (some ⟨w.heap.size, 0, none⟩) 2 2) [x, y] := by
  refine ⟨_, 2, rfl, Nat.le_refl _, by simp [maxLen], fun i z hz => ⟨w.heap.size, 0, rfl, by simp, fun j v hv => ?_⟩⟩
  rw [World.cell?_alloc_new]
  match j, hv with
  | 0, hv =>
    simp [encI] at hv
    subst hv
    match i, hz with
    | 0, hz => simp at hz; subst hz; rfl
    | 1, hz => simp at hz; subst hz; rfl
    | i + 2, hz => simp at hz
  | j + 1, hv => simp [encI] at hv

theorem lit_ints3 (w : World) (x y z : Int) (t : TypeId) : IsRws 1 encI (w.alloc (.cells #[.int .i64 x, .int .i64 y, .int .i64 z] t)) (.slice (some ⟨w.heap.size, 0, none⟩) 3 3) [x, y, z] := by
  refine ⟨_, 3, rfl, Nat.le_refl _, by simp [maxLen], fun i q hq => ⟨w.heap.size, 0, rfl, by simp, fun j v hv => ?_⟩⟩
  rw [World.cell?_alloc_new]
  match j, hv with
  | 0, hv =>
    simp [encI] at hv
    subst hv
    match i, hq with
    | 0, hq => simp at hq; subst hq; rfl
    | 1, hq => simp at hq; subst hq; rfl
    | 2, hq => simp at hq; subst hq; rfl
    | i + 3, hq => simp at hq
  | j + 1, hv => simp [encI] at hv

def badL (l : LEnt) : Bool := !decide l.may

theorem labPred_any (l : LEnt) (w : World) : Calls Try.prog 27 #[.agg #[.int .i64 l.pos, .int .i64 l.height]] w (BoolEnd (badL l) w) := by
  have hd : ([l.pos, l.height].any badN) = badL l := by
    by_cases h : l.may
    · rw [badL, decide_eq_true h]
      simp [badN_iff.2 h.1, badN_iff.2 h.2]
    · rw [badL, decide_eq_false h]
      by_cases h1 : 0 ≤ l.pos ∧ l.pos ≤ 10000
      · have h2 : ¬ (0 ≤ l.height ∧ l.height ≤ 10000) := fun g => h ⟨h1, g⟩
        simp [badN_true.2 h2]
      · simp [badN_true.2 h1]
  have HD := Lib.hid hd
  clear hd
  go_enter Try.func27, Try.ntmps27
  go_wp2_with fail
  have hl := lit_ints2 (w.alloc (.cells #[.int .i64 l.pos, .int .i64 l.height] 44)) l.pos l.height 3
  rw [World.size_alloc] at hl
  refine (small_any _ _ _ hl).mono ?_
  rintro x w2 ⟨rfl, hb⟩
  rw [HD.out]
  have hb' : Below w.heap.size w w2 := (((Below.refl w.heap.size w).alloc (Nat.le_refl _) _).alloc (by simp) _).trans (hb.mono (by simp; omega))
  clear hl hb
  go_wp2_with fail
  go_ret
  exact ⟨by simp, hb'⟩

set_option maxRecDepth 100000 in
set_option maxHeartbeats 2000000 in
theorem ixLabs_any (v : Value) (l : List LEnt) (w : World) (hl : IsRws 2 encL w v l) :
    Calls Try.prog 48 #[v, .func (.func 27) #[] #[]] w (IdxEnd badL l w) := by
  have HI := Lib.hid hl
  have hl' := hl
  obtain ⟨a, cap, rfl, h1, h2, _⟩ := hl'
  unfold maxLen at h2
  clear hl
  go_enter Try.func48, Try.ntmps48
  go_wp2_with fail
  refine wp_loop_r (fun a' w' => ∃ (k : Nat), a' = { tmps := #[.slice a l.length cap, .func (.func 27) #[] #[], slot a' 2, slot a' 3, slot a' 4, slot a' 5, slot a' 6, .int .i64 l.length, .int .i64 k, slot a' 9, slot a' 10, slot a' 11, slot a' 12, slot a' 13, slot a' 14, slot a' 15, slot a' 16, slot a' 17, slot a' 18], defers := [] } ∧ IdxJ badL l w w' k) (fun a' _ => (l.length - (intOf (a'.tmps.getD 8 undef)).toNat)) ?_ ?_
  · exact ⟨0, rfl, by omega, fun i hi => by omega, Below.refl _ _⟩
  · skip
    rintro R a' w1 ⟨k, hfr, hJ⟩ HR
    obtain ⟨f, hf⟩ : ∃ f, f = slot a' := ⟨_, rfl⟩
    rw [← hf] at hfr
    clear hf
    subst hfr
    obtain ⟨hk, hm, hb⟩ := hJ
    have HMM := Lib.hid hm
    clear hm
    by_cases hkl : k < l.length
    rotate_left
    · obtain rfl : k = l.length := by omega
      go_wp2_with fail
      go_ret
      exact ⟨by rw [idxR_miss HMM.out]; rfl, hb⟩
    obtain ⟨e, he⟩ : ∃ e, l[k]? = some e := ⟨_, List.getElem?_eq_getElem hkl⟩
    obtain ⟨a', cap', hv, _, _, hcells⟩ := HI.out.below (hb.mono (Nat.le_refl _))
    injection hv with e1 e2 e3
    subst e1 e3
    obtain ⟨b, off, rfl, hlt, hc⟩ := hcells k e he
    have c0 := hc 0 _ rfl
    have c1 := hc 1 _ rfl
    rw [Nat.add_zero] at c0
    have HE := Lib.hid he
    clear hcells e2 he hc
    have hcall := labPred_any e w1
    cases hq : badL e
    all_goals
      rw [hq] at hcall
      have HQ := Lib.hid hq
      clear hq
      go_wp2_with fail
      refine hcall.mono ?_
      rintro x w2 ⟨rfl, hb2⟩
      replace hb := below_next hb hb2
      clear hcall hb2
      go_wp2_with fail
    · refine HR.out _ _ ⟨k + 1, rfl, by omega, ?_, hb⟩ ?_
      · intro i hi d hd
        rcases Nat.lt_or_ge i k with h | h
        · exact HMM.out i h d hd
        · obtain rfl : i = k := by omega
          rw [HE.out] at hd
          injection hd with hd
          rw [← hd]
          exact HQ.out
      · simp [intOf]
        omega
    · go_ret
      exact ⟨by rw [idxR_hit HE.out HQ.out HMM.out]; rfl, hb⟩

theorem hasBadL_any (v : Value) (l : List LEnt) (w : World) (hl : IsRws 2 encL w v l) :
    Calls Try.prog 26 #[v, .func (.func 27) #[] #[]] w (BoolEnd (l.any badL) w) := by
  go_enter Try.func26, Try.ntmps26
  go_wp2_with fail
  refine (ixLabs_any v l _ hl).mono ?_
  rintro x w2 ⟨rfl, hb⟩
  go_wp2_with fail
  go_ret
  exact ⟨by rw [← idxR_any]; rfl, hb⟩
end Go.Proofs.Ytpknafidbmnjpaa
