/-
  Walk of the reference GetS.
-/
import Derived.Test.YtbgeijdfkdfdoaaLebR2
namespace Go.Proofs.Ytbgeijdfkdfdoaa
open Go.RowKit

theorem sRes_range {bits : Int} {l : List UInt8} (h : bits < 1 ∨ 64 < bits) : sRes bits l = (0, 0, 3) := by
  have : lenRes bits l = (0, 3) := by rw [lenRes, if_pos h]
  rw [sRes, this]
  rfl

def GSJ (l : List UInt8) (k : Nat) (w w' : World) (x : Int) (i : Nat) : Prop :=
  w' = w ∧ i + 1 ≤ k ∧ x = w64 (svl (sgn (l.take k)) ((l.take k).drop i))

theorem step7rs (x : Int) (y : Nat) : wrap64 (wrap64 (x * 128) + ((y : Int) % 128)) = w64 ((y % 128 : Nat) + 128 * x) := by
  unfold wrap64 w64
  omega

theorem wrap_pow (n : Nat) (h : n ≤ 62) : wrap64 (2 ^ n) = 2 ^ n ∧ wrap64 (-2 ^ n) = -2 ^ n := by
  have h1 : (2 : Nat) ^ n ≤ 2 ^ 62 := Nat.pow_le_pow_right (by omega) h
  have h2 : ((2 : Int) ^ n) = ((2 ^ n : Nat) : Int) := by simp
  rw [h2]
  have key : ∀ N : Nat, N ≤ 2 ^ 62 → wrap64 (N : Int) = (N : Int) ∧ wrap64 (-(N : Int)) = -(N : Int) := by
    intro N hN
    unfold wrap64
    omega
  exact key _ h1


set_option maxRecDepth 100000 in
set_option maxHeartbeats 4000000 in
theorem GetS_any (b : Value) (l : List UInt8) (bits : Int) (w : World) (hb : IsBytes w b l) (hb1 : -9223372036854775808 ≤ bits) (hb2 : bits ≤ 9223372036854775807) :
    Calls Try.prog 24 #[b, .int .i64 bits] w (SEnd bits l w) := by
  by_cases h1 : bits < 1
  · clear hb
    go_enter Try.func24, Try.ntmps24
    go_wp2
    go_ret3
    exact ⟨by rw [sRes_range (.inl h1)]; rfl, Below.refl _ _⟩
  by_cases h2 : 64 < bits
  · clear hb
    go_enter Try.func24, Try.ntmps24
    go_wp2
    go_ret3
    exact ⟨by rw [sRes_range (.inr h2)]; rfl, Below.refl _ _⟩
  by_cases he : (lenRes bits l).2 = 0
  · obtain ⟨k, hk⟩ : ∃ k, k = (lenRes bits l).1 := ⟨_, rfl⟩
    have HK := Lib.hid hk
    have hbw := Lib.hid hb
    obtain ⟨hb3, hb4, hk1, hk2, hk3⟩ := lenRes_ok he
    have hk0 : 1 ≤ k := by omega
    have hkl : k ≤ l.length := by omega
    have hk10 : k ≤ 10 := by omega
    clear hk1 hk2 hk3
    obtain ⟨a, cap, rfl, hl, hm, hc⟩ := hb
    unfold maxLen at hm
    have HC := Lib.hid hc
    have HE := Lib.hid he
    clear hc hk he
    obtain ⟨y, hy⟩ : ∃ y, l[k - 1]? = some y := ⟨_, List.getElem?_eq_getElem (show k - 1 < l.length by omega)⟩
    obtain ⟨b, off, rfl, hc⟩ := HC.out (k - 1) y hy
    obtain ⟨j, rfl⟩ : ∃ j, k = j + 1 := ⟨k - 1, by omega⟩
    rw [Nat.add_sub_cancel] at hc
    have hy8 := y.toNat_lt
    have HY := Lib.hid hy
    clear hy
    rcases Nat.lt_or_ge (y.toNat % 128) 64 with hy6 | hy6
    · go_enter Try.func24, Try.ntmps24
      go_wp2_with (go_at_call 47; refine (whole_any _ l _ _ hbw.out (by omega) (by omega)).mono ?_; rintro e w' ⟨rfl, rfl⟩; rw [HE.out, ← HK.out])
      rw [show ((j : Int) + 1 - 2) = (j : Int) - 1 from by omega]
      refine wp_loop_r (fun a' w' => ∃ (x : Int) (i : Nat), a' = { tmps := #[.slice (some ⟨b, off, none⟩) l.length cap, .int .i64 bits, undef, undef, .int .i64 0, .int .i64 0, .int .i64 0, .int .i64 ((j : Int) + 1), slot a' 8, .int .i64 x, .int .i64 ((i : Int) - 1), slot a' 11, slot a' 12, slot a' 13, slot a' 14, slot a' 15, slot a' 16, slot a' 17, slot a' 18, slot a' 19, slot a' 20, slot a' 21, slot a' 22, slot a' 23, slot a' 24, slot a' 25, slot a' 26, slot a' 27, slot a' 28, slot a' 29, slot a' 30, slot a' 31, slot a' 32, slot a' 33, slot a' 34, slot a' 35, slot a' 36, slot a' 37, slot a' 38, slot a' 39, slot a' 40, slot a' 41, slot a' 42, slot a' 43, slot a' 44, slot a' 45, slot a' 46, slot a' 47, slot a' 48, slot a' 49, slot a' 50, slot a' 51, slot a' 52, slot a' 53, slot a' 54, slot a' 55, slot a' 56, slot a' 57, slot a' 58, slot a' 59, slot a' 60, slot a' 61, slot a' 62, slot a' 63, slot a' 64, slot a' 65, slot a' 66, slot a' 67, slot a' 68, slot a' 69, slot a' 70, slot a' 71, slot a' 72, slot a' 73, slot a' 74, slot a' 75, slot a' 76, slot a' 77, slot a' 78, slot a' 79, slot a' 80, slot a' 81], defers := [] } ∧ GSJ l (j + 1) w w' x i) (fun a' _ => (intOf (a'.tmps.getD 10 undef) + 1).toNat) ?_ ?_
      · refine ⟨_, j, rfl, rfl, Nat.le_refl _, ?_⟩
        rw [svl_drop (j := j) HY.out (by omega), List.drop_eq_nil_of_le (by rw [List.length_take]; omega), svl, sgn_take (j := j) HY.out, if_pos hy6]
        unfold w64
        omega
      · skip
        rintro R a' w1 ⟨x, i, hfr, hJ⟩ HR
        obtain ⟨f, hf⟩ : ∃ f, f = slot a' := ⟨_, rfl⟩
        rw [← hf] at hfr
        clear hf
        subst hfr
        obtain ⟨rfl, hik, hx⟩ := hJ
        have HX := Lib.hid hx
        clear hx
        by_cases hi : i = 0
        · subst hi
          rw [List.drop_zero] at HX
          have hx64 : -9223372036854775808 ≤ x ∧ x ≤ 9223372036854775807 := by rw [HX.out]; unfold w64; omega
          have hbt : IsBytes w1 (.slice (some ⟨b, off, none⟩) (j + 1) cap) (l.take (j + 1)) := hbw.out.take (j + 1) hkl
          have HBT := Lib.hid hbt
          clear hbt
          by_cases hs : (l.take (j + 1) == putS x) = true
          · have hq : ((bs (putS x)).toList == (bs (l.take (j + 1))).toList) = true := by rw [bs_toList, bs_toList]; simp at hs ⊢; exact hs.symm
            have HS := Lib.hid hs
            clear hs
            by_cases h64 : bits < 64
            · have hd : decide (bits < 64) = true := by simpa using h64
              obtain ⟨p1, p2⟩ := wrap_pow (bits.toNat - 1) (by omega)
              have P1 := Lib.hid p1
              have P2 := Lib.hid p2
              clear p1 p2
              by_cases ha : x < -(2 ^ (bits.toNat - 1))
              · have hA : decide (x < wrap64 (-2 ^ (bits.toNat - 1))) = true := by rw [P2.out]; simpa using ha
                have HA := Lib.hid ha
                clear ha
                go_wp2_with fail
                refine wp_region_seq (fun w' => (convert 22 9 (.slice (some ⟨b, off, none⟩) (j + 1) cap)).run Try.prog w' = .ok (.string (bs (l.take (j + 1)))) w') [(0, true), (1, true), (2, true), (3, true), (4, true), (5, true), (6, true), (7, true), (8, true), (9, true), (10, true), (11, true), (12, true), (13, true), (14, true), (15, true), (16, true), (17, true), (18, true), (19, true), (22, true), (23, true), (24, true), (25, true), (20, false), (21, false), (26, true), (27, true)] (by kernel_rfl) (by kernel_rfl) (run_str (w := w1.drew) HBT.out) ?_
                iterate 28 (first | (apply seg_skip rfl rfl; simp only [Act.put, List.setIfInBounds_toArray, List.set_cons_succ, List.set_cons_zero]) | (apply seg_pure rfl rfl rfl; · (rintro w' hS; go_wp2; exact ⟨rfl, rfl, rfl⟩)))
                refine seg_nil ?_
                refine NoPanic.normal ?_
                go_wp2_with fail
                go_ret3
                refine ⟨?_, (Below.refl _ _).drew⟩
                rw [sRes_bad HE.out HK.out HX.out (.inr (by rw [div_pow_zero, div_pow_neg]; have := HA.out; omega))]
                rfl
              have hA : decide (x < wrap64 (-2 ^ (bits.toNat - 1))) = false := by rw [P2.out]; simpa using ha
              by_cases hb : 2 ^ (bits.toNat - 1) ≤ x
              · have hB : decide (wrap64 (2 ^ (bits.toNat - 1)) ≤ x) = true := by rw [P1.out]; simpa using hb
                have HA := Lib.hid ha
                have HB := Lib.hid hb
                clear ha hb
                go_wp2_with fail
                refine wp_region_seq (fun w' => (convert 22 9 (.slice (some ⟨b, off, none⟩) (j + 1) cap)).run Try.prog w' = .ok (.string (bs (l.take (j + 1)))) w') [(0, true), (1, true), (2, true), (3, true), (4, true), (5, true), (6, true), (7, true), (8, true), (9, true), (10, true), (11, true), (12, true), (13, true), (14, true), (15, true), (16, true), (17, true), (18, true), (19, true), (22, true), (23, true), (24, true), (25, true), (20, false), (21, false), (26, true), (27, true)] (by kernel_rfl) (by kernel_rfl) (run_str (w := w1.drew) HBT.out) ?_
                iterate 28 (first | (apply seg_skip rfl rfl; simp only [Act.put, List.setIfInBounds_toArray, List.set_cons_succ, List.set_cons_zero]) | (apply seg_pure rfl rfl rfl; · (rintro w' hS; go_wp2; exact ⟨rfl, rfl, rfl⟩)))
                refine seg_nil ?_
                refine NoPanic.normal ?_
                go_wp2_with fail
                go_ret3
                refine ⟨?_, (Below.refl _ _).drew⟩
                rw [sRes_bad HE.out HK.out HX.out (.inr (by rw [div_pow_zero, div_pow_neg]; have := HA.out; have := HB.out; omega))]
                rfl
              · have hB : decide (wrap64 (2 ^ (bits.toNat - 1)) ≤ x) = false := by rw [P1.out]; simpa using hb
                have HA := Lib.hid ha
                have HB := Lib.hid hb
                clear ha hb
                go_wp2_with fail
                refine wp_region_seq (fun w' => (convert 22 9 (.slice (some ⟨b, off, none⟩) (j + 1) cap)).run Try.prog w' = .ok (.string (bs (l.take (j + 1)))) w') [(0, true), (1, true), (2, true), (3, true), (4, true), (5, true), (6, true), (7, true), (8, true), (9, true), (10, true), (11, true), (12, true), (13, true), (14, true), (15, true), (16, true), (17, true), (18, true), (19, true), (22, true), (23, true), (24, true), (25, true), (20, false), (21, false), (26, true), (27, true)] (by kernel_rfl) (by kernel_rfl) (run_str (w := w1.drew) HBT.out) ?_
                iterate 24 (first | (apply seg_skip rfl rfl; simp only [Act.put, List.setIfInBounds_toArray, List.set_cons_succ, List.set_cons_zero]) | (apply seg_pure rfl rfl rfl; · (rintro w' hS; go_wp2; exact ⟨rfl, rfl, rfl⟩)))
                refine seg_loud rfl rfl ?_
                go_wp2_with fail
                refine (refS_any x hx64.1 hx64.2 w1.drew).mono ?_
                rintro e w2 ⟨v2, rfl, ho2, hb2'⟩
                have hb2 : Below w1.heap.size w1 w2 := below_undrew hb2'
                have hs1 := run_str (HBT.out.below hb2)
                have HS1 := Lib.hid hs1
                clear hs1
                go_wp2_with fail
                refine ⟨HS1.out, ?_⟩
                refine seg_loud rfl rfl ?_
                have hs2 := run_str ho2.isBytes
                go_wp2_with fail
                refine ⟨HS1.out, ?_⟩
                clear hs2
                iterate 2 (first | (apply seg_skip rfl rfl; simp only [Act.put, List.setIfInBounds_toArray, List.set_cons_succ, List.set_cons_zero]) | (apply seg_pure rfl rfl rfl; · (rintro w' hS; go_wp2; exact ⟨rfl, rfl, rfl⟩)))
                refine seg_nil ?_
                refine NoPanic.normal ?_
                go_wp2_with fail
                go_ret3
                refine ⟨?_, hb2⟩
                rw [sRes_ok HE.out HK.out HX.out HS.out (by rw [div_pow_zero, div_pow_neg]; have := HA.out; have := HB.out; omega)]
                rfl
            · have hd : decide (bits < 64) = false := by simpa using h64
              go_wp2_with fail
              refine wp_region_seq (fun w' => (convert 22 9 (.slice (some ⟨b, off, none⟩) (j + 1) cap)).run Try.prog w' = .ok (.string (bs (l.take (j + 1)))) w') [(0, true), (1, true), (2, true), (3, true), (4, true), (5, true), (6, true), (7, true), (8, true), (9, true), (10, true), (11, true), (12, true), (13, true), (14, true), (15, true), (16, true), (17, true), (18, true), (19, true), (22, true), (23, true), (24, true), (25, true), (20, false), (21, false), (26, true), (27, true)] (by kernel_rfl) (by kernel_rfl) (run_str (w := w1.drew) HBT.out) ?_
              iterate 24 (first | (apply seg_skip rfl rfl; simp only [Act.put, List.setIfInBounds_toArray, List.set_cons_succ, List.set_cons_zero]) | (apply seg_pure rfl rfl rfl; · (rintro w' hS; go_wp2; exact ⟨rfl, rfl, rfl⟩)))
              refine seg_loud rfl rfl ?_
              go_wp2_with fail
              refine (refS_any x hx64.1 hx64.2 w1.drew).mono ?_
              rintro e w2 ⟨v2, rfl, ho2, hb2'⟩
              have hb2 : Below w1.heap.size w1 w2 := below_undrew hb2'
              have hs1 := run_str (HBT.out.below hb2)
              have HS1 := Lib.hid hs1
              clear hs1
              go_wp2_with fail
              refine ⟨HS1.out, ?_⟩
              refine seg_loud rfl rfl ?_
              have hs2 := run_str ho2.isBytes
              go_wp2_with fail
              refine ⟨HS1.out, ?_⟩
              clear hs2
              iterate 2 (first | (apply seg_skip rfl rfl; simp only [Act.put, List.setIfInBounds_toArray, List.set_cons_succ, List.set_cons_zero]) | (apply seg_pure rfl rfl rfl; · (rintro w' hS; go_wp2; exact ⟨rfl, rfl, rfl⟩)))
              refine seg_nil ?_
              refine NoPanic.normal ?_
              go_wp2_with fail
              go_ret3
              refine ⟨?_, hb2⟩
              rw [sRes_ok HE.out HK.out HX.out HS.out ?_]
              · rfl
              · rw [div_pow_zero, div_pow_neg, show bits.toNat - 1 = 63 from by omega]
                have h63 : (2 : Int) ^ 63 = 9223372036854775808 := rfl
                rw [h63]
                omega
          · rw [Bool.not_eq_true] at hs
            have hq : ((bs (putS x)).toList == (bs (l.take (j + 1))).toList) = false := by rw [bs_toList, bs_toList]; simp at hs ⊢; exact fun h => hs h.symm
            have HS := Lib.hid hs
            clear hs
            by_cases h64 : bits < 64
            · have hd : decide (bits < 64) = true := by simpa using h64
              obtain ⟨p1, p2⟩ := wrap_pow (bits.toNat - 1) (by omega)
              have P1 := Lib.hid p1
              have P2 := Lib.hid p2
              clear p1 p2
              by_cases ha : x < -(2 ^ (bits.toNat - 1))
              · have hA : decide (x < wrap64 (-2 ^ (bits.toNat - 1))) = true := by rw [P2.out]; simpa using ha
                clear ha
                go_wp2_with fail
                refine wp_region_seq (fun w' => (convert 22 9 (.slice (some ⟨b, off, none⟩) (j + 1) cap)).run Try.prog w' = .ok (.string (bs (l.take (j + 1)))) w') [(0, true), (1, true), (2, true), (3, true), (4, true), (5, true), (6, true), (7, true), (8, true), (9, true), (10, true), (11, true), (12, true), (13, true), (14, true), (15, true), (16, true), (17, true), (18, true), (19, true), (22, true), (23, true), (24, true), (25, true), (20, false), (21, false), (26, true), (27, true)] (by kernel_rfl) (by kernel_rfl) (run_str (w := w1.drew) HBT.out) ?_
                iterate 28 (first | (apply seg_skip rfl rfl; simp only [Act.put, List.setIfInBounds_toArray, List.set_cons_succ, List.set_cons_zero]) | (apply seg_pure rfl rfl rfl; · (rintro w' hS; go_wp2; exact ⟨rfl, rfl, rfl⟩)))
                refine seg_nil ?_
                refine NoPanic.normal ?_
                go_wp2_with fail
                go_ret3
                refine ⟨?_, (Below.refl _ _).drew⟩
                rw [sRes_bad HE.out HK.out HX.out (.inl HS.out)]
                rfl
              have hA : decide (x < wrap64 (-2 ^ (bits.toNat - 1))) = false := by rw [P2.out]; simpa using ha
              clear ha
              by_cases hb : 2 ^ (bits.toNat - 1) ≤ x
              · have hB : decide (wrap64 (2 ^ (bits.toNat - 1)) ≤ x) = true := by rw [P1.out]; simpa using hb
                clear hb
                go_wp2_with fail
                refine wp_region_seq (fun w' => (convert 22 9 (.slice (some ⟨b, off, none⟩) (j + 1) cap)).run Try.prog w' = .ok (.string (bs (l.take (j + 1)))) w') [(0, true), (1, true), (2, true), (3, true), (4, true), (5, true), (6, true), (7, true), (8, true), (9, true), (10, true), (11, true), (12, true), (13, true), (14, true), (15, true), (16, true), (17, true), (18, true), (19, true), (22, true), (23, true), (24, true), (25, true), (20, false), (21, false), (26, true), (27, true)] (by kernel_rfl) (by kernel_rfl) (run_str (w := w1.drew) HBT.out) ?_
                iterate 28 (first | (apply seg_skip rfl rfl; simp only [Act.put, List.setIfInBounds_toArray, List.set_cons_succ, List.set_cons_zero]) | (apply seg_pure rfl rfl rfl; · (rintro w' hS; go_wp2; exact ⟨rfl, rfl, rfl⟩)))
                refine seg_nil ?_
                refine NoPanic.normal ?_
                go_wp2_with fail
                go_ret3
                refine ⟨?_, (Below.refl _ _).drew⟩
                rw [sRes_bad HE.out HK.out HX.out (.inl HS.out)]
                rfl
              · have hB : decide (wrap64 (2 ^ (bits.toNat - 1)) ≤ x) = false := by rw [P1.out]; simpa using hb
                clear hb
                go_wp2_with fail
                refine wp_region_seq (fun w' => (convert 22 9 (.slice (some ⟨b, off, none⟩) (j + 1) cap)).run Try.prog w' = .ok (.string (bs (l.take (j + 1)))) w') [(0, true), (1, true), (2, true), (3, true), (4, true), (5, true), (6, true), (7, true), (8, true), (9, true), (10, true), (11, true), (12, true), (13, true), (14, true), (15, true), (16, true), (17, true), (18, true), (19, true), (22, true), (23, true), (24, true), (25, true), (20, false), (21, false), (26, true), (27, true)] (by kernel_rfl) (by kernel_rfl) (run_str (w := w1.drew) HBT.out) ?_
                iterate 24 (first | (apply seg_skip rfl rfl; simp only [Act.put, List.setIfInBounds_toArray, List.set_cons_succ, List.set_cons_zero]) | (apply seg_pure rfl rfl rfl; · (rintro w' hS; go_wp2; exact ⟨rfl, rfl, rfl⟩)))
                refine seg_loud rfl rfl ?_
                go_wp2_with fail
                refine (refS_any x hx64.1 hx64.2 w1.drew).mono ?_
                rintro e w2 ⟨v2, rfl, ho2, hb2'⟩
                have hb2 : Below w1.heap.size w1 w2 := below_undrew hb2'
                have hs1 := run_str (HBT.out.below hb2)
                have HS1 := Lib.hid hs1
                clear hs1
                go_wp2_with fail
                refine ⟨HS1.out, ?_⟩
                refine seg_loud rfl rfl ?_
                have hs2 := run_str ho2.isBytes
                go_wp2_with fail
                refine ⟨HS1.out, ?_⟩
                clear hs2
                iterate 2 (first | (apply seg_skip rfl rfl; simp only [Act.put, List.setIfInBounds_toArray, List.set_cons_succ, List.set_cons_zero]) | (apply seg_pure rfl rfl rfl; · (rintro w' hS; go_wp2; exact ⟨rfl, rfl, rfl⟩)))
                refine seg_nil ?_
                refine NoPanic.normal ?_
                go_wp2_with fail
                go_ret3
                refine ⟨?_, hb2⟩
                rw [sRes_bad HE.out HK.out HX.out (.inl HS.out)]
                rfl
            · have hd : decide (bits < 64) = false := by simpa using h64
              go_wp2_with fail
              refine wp_region_seq (fun w' => (convert 22 9 (.slice (some ⟨b, off, none⟩) (j + 1) cap)).run Try.prog w' = .ok (.string (bs (l.take (j + 1)))) w') [(0, true), (1, true), (2, true), (3, true), (4, true), (5, true), (6, true), (7, true), (8, true), (9, true), (10, true), (11, true), (12, true), (13, true), (14, true), (15, true), (16, true), (17, true), (18, true), (19, true), (22, true), (23, true), (24, true), (25, true), (20, false), (21, false), (26, true), (27, true)] (by kernel_rfl) (by kernel_rfl) (run_str (w := w1.drew) HBT.out) ?_
              iterate 24 (first | (apply seg_skip rfl rfl; simp only [Act.put, List.setIfInBounds_toArray, List.set_cons_succ, List.set_cons_zero]) | (apply seg_pure rfl rfl rfl; · (rintro w' hS; go_wp2; exact ⟨rfl, rfl, rfl⟩)))
              refine seg_loud rfl rfl ?_
              go_wp2_with fail
              refine (refS_any x hx64.1 hx64.2 w1.drew).mono ?_
              rintro e w2 ⟨v2, rfl, ho2, hb2'⟩
              have hb2 : Below w1.heap.size w1 w2 := below_undrew hb2'
              have hs1 := run_str (HBT.out.below hb2)
              have HS1 := Lib.hid hs1
              clear hs1
              go_wp2_with fail
              refine ⟨HS1.out, ?_⟩
              refine seg_loud rfl rfl ?_
              have hs2 := run_str ho2.isBytes
              go_wp2_with fail
              refine ⟨HS1.out, ?_⟩
              clear hs2
              iterate 2 (first | (apply seg_skip rfl rfl; simp only [Act.put, List.setIfInBounds_toArray, List.set_cons_succ, List.set_cons_zero]) | (apply seg_pure rfl rfl rfl; · (rintro w' hS; go_wp2; exact ⟨rfl, rfl, rfl⟩)))
              refine seg_nil ?_
              refine NoPanic.normal ?_
              go_wp2_with fail
              go_ret3
              refine ⟨?_, hb2⟩
              rw [sRes_bad HE.out HK.out HX.out (.inl HS.out)]
              rfl
        · obtain ⟨p, rfl⟩ : ∃ p, i = p + 1 := ⟨i - 1, by omega⟩
          obtain ⟨z, hz⟩ : ∃ z, l[p]? = some z := ⟨_, List.getElem?_eq_getElem (show p < l.length by omega)⟩
          obtain ⟨b', off', he', hc'⟩ := HC.out p z hz
          injection he' with he'
          injection he' with e1 e2
          subst e1 e2
          have hz8 := z.toNat_lt
          have HZ := Lib.hid hz
          clear hz
          have hlt : p < l.length := by omega
          have e1 : ((p + 1 : Nat) : Int) - 1 = (p : Int) := by omega
          rw [e1]
          clear e1
          go_wp2_with fail
          rw [step7rs x z.toNat]
          refine HR.out _ _ ⟨_, p, rfl, rfl, by omega, ?_⟩ ?_
          · rw [svl_drop HZ.out (by omega), HX.out, w64_step]
          · simp [intOf]
    · go_enter Try.func24, Try.ntmps24
      go_wp2_with (go_at_call 47; refine (whole_any _ l _ _ hbw.out (by omega) (by omega)).mono ?_; rintro e w' ⟨rfl, rfl⟩; rw [HE.out, ← HK.out])
      rw [show ((j : Int) + 1 - 2) = (j : Int) - 1 from by omega]
      refine wp_loop_r (fun a' w' => ∃ (x : Int) (i : Nat), a' = { tmps := #[.slice (some ⟨b, off, none⟩) l.length cap, .int .i64 bits, undef, undef, .int .i64 0, .int .i64 0, .int .i64 0, .int .i64 ((j : Int) + 1), slot a' 8, .int .i64 x, .int .i64 ((i : Int) - 1), slot a' 11, slot a' 12, slot a' 13, slot a' 14, slot a' 15, slot a' 16, slot a' 17, slot a' 18, slot a' 19, slot a' 20, slot a' 21, slot a' 22, slot a' 23, slot a' 24, slot a' 25, slot a' 26, slot a' 27, slot a' 28, slot a' 29, slot a' 30, slot a' 31, slot a' 32, slot a' 33, slot a' 34, slot a' 35, slot a' 36, slot a' 37, slot a' 38, slot a' 39, slot a' 40, slot a' 41, slot a' 42, slot a' 43, slot a' 44, slot a' 45, slot a' 46, slot a' 47, slot a' 48, slot a' 49, slot a' 50, slot a' 51, slot a' 52, slot a' 53, slot a' 54, slot a' 55, slot a' 56, slot a' 57, slot a' 58, slot a' 59, slot a' 60, slot a' 61, slot a' 62, slot a' 63, slot a' 64, slot a' 65, slot a' 66, slot a' 67, slot a' 68, slot a' 69, slot a' 70, slot a' 71, slot a' 72, slot a' 73, slot a' 74, slot a' 75, slot a' 76, slot a' 77, slot a' 78, slot a' 79, slot a' 80, slot a' 81], defers := [] } ∧ GSJ l (j + 1) w w' x i) (fun a' _ => (intOf (a'.tmps.getD 10 undef) + 1).toNat) ?_ ?_
      · refine ⟨_, j, rfl, rfl, Nat.le_refl _, ?_⟩
        rw [svl_drop (j := j) HY.out (by omega), List.drop_eq_nil_of_le (by rw [List.length_take]; omega), svl, sgn_take (j := j) HY.out, if_neg (by omega)]
        unfold w64
        omega
      · skip
        rintro R a' w1 ⟨x, i, hfr, hJ⟩ HR
        obtain ⟨f, hf⟩ : ∃ f, f = slot a' := ⟨_, rfl⟩
        rw [← hf] at hfr
        clear hf
        subst hfr
        obtain ⟨rfl, hik, hx⟩ := hJ
        have HX := Lib.hid hx
        clear hx
        by_cases hi : i = 0
        · subst hi
          rw [List.drop_zero] at HX
          have hx64 : -9223372036854775808 ≤ x ∧ x ≤ 9223372036854775807 := by rw [HX.out]; unfold w64; omega
          have hbt : IsBytes w1 (.slice (some ⟨b, off, none⟩) (j + 1) cap) (l.take (j + 1)) := hbw.out.take (j + 1) hkl
          have HBT := Lib.hid hbt
          clear hbt
          by_cases hs : (l.take (j + 1) == putS x) = true
          · have hq : ((bs (putS x)).toList == (bs (l.take (j + 1))).toList) = true := by rw [bs_toList, bs_toList]; simp at hs ⊢; exact hs.symm
            have HS := Lib.hid hs
            clear hs
            by_cases h64 : bits < 64
            · have hd : decide (bits < 64) = true := by simpa using h64
              obtain ⟨p1, p2⟩ := wrap_pow (bits.toNat - 1) (by omega)
              have P1 := Lib.hid p1
              have P2 := Lib.hid p2
              clear p1 p2
              by_cases ha : x < -(2 ^ (bits.toNat - 1))
              · have hA : decide (x < wrap64 (-2 ^ (bits.toNat - 1))) = true := by rw [P2.out]; simpa using ha
                have HA := Lib.hid ha
                clear ha
                go_wp2_with fail
                refine wp_region_seq (fun w' => (convert 22 9 (.slice (some ⟨b, off, none⟩) (j + 1) cap)).run Try.prog w' = .ok (.string (bs (l.take (j + 1)))) w') [(0, true), (1, true), (2, true), (3, true), (4, true), (5, true), (6, true), (7, true), (8, true), (9, true), (10, true), (11, true), (12, true), (13, true), (14, true), (15, true), (16, true), (17, true), (18, true), (19, true), (22, true), (23, true), (24, true), (25, true), (20, false), (21, false), (26, true), (27, true)] (by kernel_rfl) (by kernel_rfl) (run_str (w := w1.drew) HBT.out) ?_
                iterate 28 (first | (apply seg_skip rfl rfl; simp only [Act.put, List.setIfInBounds_toArray, List.set_cons_succ, List.set_cons_zero]) | (apply seg_pure rfl rfl rfl; · (rintro w' hS; go_wp2; exact ⟨rfl, rfl, rfl⟩)))
                refine seg_nil ?_
                refine NoPanic.normal ?_
                go_wp2_with fail
                go_ret3
                refine ⟨?_, (Below.refl _ _).drew⟩
                rw [sRes_bad HE.out HK.out HX.out (.inr (by rw [div_pow_zero, div_pow_neg]; have := HA.out; omega))]
                rfl
              have hA : decide (x < wrap64 (-2 ^ (bits.toNat - 1))) = false := by rw [P2.out]; simpa using ha
              by_cases hb : 2 ^ (bits.toNat - 1) ≤ x
              · have hB : decide (wrap64 (2 ^ (bits.toNat - 1)) ≤ x) = true := by rw [P1.out]; simpa using hb
                have HA := Lib.hid ha
                have HB := Lib.hid hb
                clear ha hb
                go_wp2_with fail
                refine wp_region_seq (fun w' => (convert 22 9 (.slice (some ⟨b, off, none⟩) (j + 1) cap)).run Try.prog w' = .ok (.string (bs (l.take (j + 1)))) w') [(0, true), (1, true), (2, true), (3, true), (4, true), (5, true), (6, true), (7, true), (8, true), (9, true), (10, true), (11, true), (12, true), (13, true), (14, true), (15, true), (16, true), (17, true), (18, true), (19, true), (22, true), (23, true), (24, true), (25, true), (20, false), (21, false), (26, true), (27, true)] (by kernel_rfl) (by kernel_rfl) (run_str (w := w1.drew) HBT.out) ?_
                iterate 28 (first | (apply seg_skip rfl rfl; simp only [Act.put, List.setIfInBounds_toArray, List.set_cons_succ, List.set_cons_zero]) | (apply seg_pure rfl rfl rfl; · (rintro w' hS; go_wp2; exact ⟨rfl, rfl, rfl⟩)))
                refine seg_nil ?_
                refine NoPanic.normal ?_
                go_wp2_with fail
                go_ret3
                refine ⟨?_, (Below.refl _ _).drew⟩
                rw [sRes_bad HE.out HK.out HX.out (.inr (by rw [div_pow_zero, div_pow_neg]; have := HA.out; have := HB.out; omega))]
                rfl
              · have hB : decide (wrap64 (2 ^ (bits.toNat - 1)) ≤ x) = false := by rw [P1.out]; simpa using hb
                have HA := Lib.hid ha
                have HB := Lib.hid hb
                clear ha hb
                go_wp2_with fail
                refine wp_region_seq (fun w' => (convert 22 9 (.slice (some ⟨b, off, none⟩) (j + 1) cap)).run Try.prog w' = .ok (.string (bs (l.take (j + 1)))) w') [(0, true), (1, true), (2, true), (3, true), (4, true), (5, true), (6, true), (7, true), (8, true), (9, true), (10, true), (11, true), (12, true), (13, true), (14, true), (15, true), (16, true), (17, true), (18, true), (19, true), (22, true), (23, true), (24, true), (25, true), (20, false), (21, false), (26, true), (27, true)] (by kernel_rfl) (by kernel_rfl) (run_str (w := w1.drew) HBT.out) ?_
                iterate 24 (first | (apply seg_skip rfl rfl; simp only [Act.put, List.setIfInBounds_toArray, List.set_cons_succ, List.set_cons_zero]) | (apply seg_pure rfl rfl rfl; · (rintro w' hS; go_wp2; exact ⟨rfl, rfl, rfl⟩)))
                refine seg_loud rfl rfl ?_
                go_wp2_with fail
                refine (refS_any x hx64.1 hx64.2 w1.drew).mono ?_
                rintro e w2 ⟨v2, rfl, ho2, hb2'⟩
                have hb2 : Below w1.heap.size w1 w2 := below_undrew hb2'
                have hs1 := run_str (HBT.out.below hb2)
                have HS1 := Lib.hid hs1
                clear hs1
                go_wp2_with fail
                refine ⟨HS1.out, ?_⟩
                refine seg_loud rfl rfl ?_
                have hs2 := run_str ho2.isBytes
                go_wp2_with fail
                refine ⟨HS1.out, ?_⟩
                clear hs2
                iterate 2 (first | (apply seg_skip rfl rfl; simp only [Act.put, List.setIfInBounds_toArray, List.set_cons_succ, List.set_cons_zero]) | (apply seg_pure rfl rfl rfl; · (rintro w' hS; go_wp2; exact ⟨rfl, rfl, rfl⟩)))
                refine seg_nil ?_
                refine NoPanic.normal ?_
                go_wp2_with fail
                go_ret3
                refine ⟨?_, hb2⟩
                rw [sRes_ok HE.out HK.out HX.out HS.out (by rw [div_pow_zero, div_pow_neg]; have := HA.out; have := HB.out; omega)]
                rfl
            · have hd : decide (bits < 64) = false := by simpa using h64
              go_wp2_with fail
              refine wp_region_seq (fun w' => (convert 22 9 (.slice (some ⟨b, off, none⟩) (j + 1) cap)).run Try.prog w' = .ok (.string (bs (l.take (j + 1)))) w') [(0, true), (1, true), (2, true), (3, true), (4, true), (5, true), (6, true), (7, true), (8, true), (9, true), (10, true), (11, true), (12, true), (13, true), (14, true), (15, true), (16, true), (17, true), (18, true), (19, true), (22, true), (23, true), (24, true), (25, true), (20, false), (21, false), (26, true), (27, true)] (by kernel_rfl) (by kernel_rfl) (run_str (w := w1.drew) HBT.out) ?_
              iterate 24 (first | (apply seg_skip rfl rfl; simp only [Act.put, List.setIfInBounds_toArray, List.set_cons_succ, List.set_cons_zero]) | (apply seg_pure rfl rfl rfl; · (rintro w' hS; go_wp2; exact ⟨rfl, rfl, rfl⟩)))
              refine seg_loud rfl rfl ?_
              go_wp2_with fail
              refine (refS_any x hx64.1 hx64.2 w1.drew).mono ?_
              rintro e w2 ⟨v2, rfl, ho2, hb2'⟩
              have hb2 : Below w1.heap.size w1 w2 := below_undrew hb2'
              have hs1 := run_str (HBT.out.below hb2)
              have HS1 := Lib.hid hs1
              clear hs1
              go_wp2_with fail
              refine ⟨HS1.out, ?_⟩
              refine seg_loud rfl rfl ?_
              have hs2 := run_str ho2.isBytes
              go_wp2_with fail
              refine ⟨HS1.out, ?_⟩
              clear hs2
              iterate 2 (first | (apply seg_skip rfl rfl; simp only [Act.put, List.setIfInBounds_toArray, List.set_cons_succ, List.set_cons_zero]) | (apply seg_pure rfl rfl rfl; · (rintro w' hS; go_wp2; exact ⟨rfl, rfl, rfl⟩)))
              refine seg_nil ?_
              refine NoPanic.normal ?_
              go_wp2_with fail
              go_ret3
              refine ⟨?_, hb2⟩
              rw [sRes_ok HE.out HK.out HX.out HS.out ?_]
              · rfl
              · rw [div_pow_zero, div_pow_neg, show bits.toNat - 1 = 63 from by omega]
                have h63 : (2 : Int) ^ 63 = 9223372036854775808 := rfl
                rw [h63]
                omega
          · rw [Bool.not_eq_true] at hs
            have hq : ((bs (putS x)).toList == (bs (l.take (j + 1))).toList) = false := by rw [bs_toList, bs_toList]; simp at hs ⊢; exact fun h => hs h.symm
            have HS := Lib.hid hs
            clear hs
            by_cases h64 : bits < 64
            · have hd : decide (bits < 64) = true := by simpa using h64
              obtain ⟨p1, p2⟩ := wrap_pow (bits.toNat - 1) (by omega)
              have P1 := Lib.hid p1
              have P2 := Lib.hid p2
              clear p1 p2
              by_cases ha : x < -(2 ^ (bits.toNat - 1))
              · have hA : decide (x < wrap64 (-2 ^ (bits.toNat - 1))) = true := by rw [P2.out]; simpa using ha
                clear ha
                go_wp2_with fail
                refine wp_region_seq (fun w' => (convert 22 9 (.slice (some ⟨b, off, none⟩) (j + 1) cap)).run Try.prog w' = .ok (.string (bs (l.take (j + 1)))) w') [(0, true), (1, true), (2, true), (3, true), (4, true), (5, true), (6, true), (7, true), (8, true), (9, true), (10, true), (11, true), (12, true), (13, true), (14, true), (15, true), (16, true), (17, true), (18, true), (19, true), (22, true), (23, true), (24, true), (25, true), (20, false), (21, false), (26, true), (27, true)] (by kernel_rfl) (by kernel_rfl) (run_str (w := w1.drew) HBT.out) ?_
                iterate 28 (first | (apply seg_skip rfl rfl; simp only [Act.put, List.setIfInBounds_toArray, List.set_cons_succ, List.set_cons_zero]) | (apply seg_pure rfl rfl rfl; · (rintro w' hS; go_wp2; exact ⟨rfl, rfl, rfl⟩)))
                refine seg_nil ?_
                refine NoPanic.normal ?_
                go_wp2_with fail
                go_ret3
                refine ⟨?_, (Below.refl _ _).drew⟩
                rw [sRes_bad HE.out HK.out HX.out (.inl HS.out)]
                rfl
              have hA : decide (x < wrap64 (-2 ^ (bits.toNat - 1))) = false := by rw [P2.out]; simpa using ha
              clear ha
              by_cases hb : 2 ^ (bits.toNat - 1) ≤ x
              · have hB : decide (wrap64 (2 ^ (bits.toNat - 1)) ≤ x) = true := by rw [P1.out]; simpa using hb
                clear hb
                go_wp2_with fail
                refine wp_region_seq (fun w' => (convert 22 9 (.slice (some ⟨b, off, none⟩) (j + 1) cap)).run Try.prog w' = .ok (.string (bs (l.take (j + 1)))) w') [(0, true), (1, true), (2, true), (3, true), (4, true), (5, true), (6, true), (7, true), (8, true), (9, true), (10, true), (11, true), (12, true), (13, true), (14, true), (15, true), (16, true), (17, true), (18, true), (19, true), (22, true), (23, true), (24, true), (25, true), (20, false), (21, false), (26, true), (27, true)] (by kernel_rfl) (by kernel_rfl) (run_str (w := w1.drew) HBT.out) ?_
                iterate 28 (first | (apply seg_skip rfl rfl; simp only [Act.put, List.setIfInBounds_toArray, List.set_cons_succ, List.set_cons_zero]) | (apply seg_pure rfl rfl rfl; · (rintro w' hS; go_wp2; exact ⟨rfl, rfl, rfl⟩)))
                refine seg_nil ?_
                refine NoPanic.normal ?_
                go_wp2_with fail
                go_ret3
                refine ⟨?_, (Below.refl _ _).drew⟩
                rw [sRes_bad HE.out HK.out HX.out (.inl HS.out)]
                rfl
              · have hB : decide (wrap64 (2 ^ (bits.toNat - 1)) ≤ x) = false := by rw [P1.out]; simpa using hb
                clear hb
                go_wp2_with fail
                refine wp_region_seq (fun w' => (convert 22 9 (.slice (some ⟨b, off, none⟩) (j + 1) cap)).run Try.prog w' = .ok (.string (bs (l.take (j + 1)))) w') [(0, true), (1, true), (2, true), (3, true), (4, true), (5, true), (6, true), (7, true), (8, true), (9, true), (10, true), (11, true), (12, true), (13, true), (14, true), (15, true), (16, true), (17, true), (18, true), (19, true), (22, true), (23, true), (24, true), (25, true), (20, false), (21, false), (26, true), (27, true)] (by kernel_rfl) (by kernel_rfl) (run_str (w := w1.drew) HBT.out) ?_
                iterate 24 (first | (apply seg_skip rfl rfl; simp only [Act.put, List.setIfInBounds_toArray, List.set_cons_succ, List.set_cons_zero]) | (apply seg_pure rfl rfl rfl; · (rintro w' hS; go_wp2; exact ⟨rfl, rfl, rfl⟩)))
                refine seg_loud rfl rfl ?_
                go_wp2_with fail
                refine (refS_any x hx64.1 hx64.2 w1.drew).mono ?_
                rintro e w2 ⟨v2, rfl, ho2, hb2'⟩
                have hb2 : Below w1.heap.size w1 w2 := below_undrew hb2'
                have hs1 := run_str (HBT.out.below hb2)
                have HS1 := Lib.hid hs1
                clear hs1
                go_wp2_with fail
                refine ⟨HS1.out, ?_⟩
                refine seg_loud rfl rfl ?_
                have hs2 := run_str ho2.isBytes
                go_wp2_with fail
                refine ⟨HS1.out, ?_⟩
                clear hs2
                iterate 2 (first | (apply seg_skip rfl rfl; simp only [Act.put, List.setIfInBounds_toArray, List.set_cons_succ, List.set_cons_zero]) | (apply seg_pure rfl rfl rfl; · (rintro w' hS; go_wp2; exact ⟨rfl, rfl, rfl⟩)))
                refine seg_nil ?_
                refine NoPanic.normal ?_
                go_wp2_with fail
                go_ret3
                refine ⟨?_, hb2⟩
                rw [sRes_bad HE.out HK.out HX.out (.inl HS.out)]
                rfl
            · have hd : decide (bits < 64) = false := by simpa using h64
              go_wp2_with fail
              refine wp_region_seq (fun w' => (convert 22 9 (.slice (some ⟨b, off, none⟩) (j + 1) cap)).run Try.prog w' = .ok (.string (bs (l.take (j + 1)))) w') [(0, true), (1, true), (2, true), (3, true), (4, true), (5, true), (6, true), (7, true), (8, true), (9, true), (10, true), (11, true), (12, true), (13, true), (14, true), (15, true), (16, true), (17, true), (18, true), (19, true), (22, true), (23, true), (24, true), (25, true), (20, false), (21, false), (26, true), (27, true)] (by kernel_rfl) (by kernel_rfl) (run_str (w := w1.drew) HBT.out) ?_
              iterate 24 (first | (apply seg_skip rfl rfl; simp only [Act.put, List.setIfInBounds_toArray, List.set_cons_succ, List.set_cons_zero]) | (apply seg_pure rfl rfl rfl; · (rintro w' hS; go_wp2; exact ⟨rfl, rfl, rfl⟩)))
              refine seg_loud rfl rfl ?_
              go_wp2_with fail
              refine (refS_any x hx64.1 hx64.2 w1.drew).mono ?_
              rintro e w2 ⟨v2, rfl, ho2, hb2'⟩
              have hb2 : Below w1.heap.size w1 w2 := below_undrew hb2'
              have hs1 := run_str (HBT.out.below hb2)
              have HS1 := Lib.hid hs1
              clear hs1
              go_wp2_with fail
              refine ⟨HS1.out, ?_⟩
              refine seg_loud rfl rfl ?_
              have hs2 := run_str ho2.isBytes
              go_wp2_with fail
              refine ⟨HS1.out, ?_⟩
              clear hs2
              iterate 2 (first | (apply seg_skip rfl rfl; simp only [Act.put, List.setIfInBounds_toArray, List.set_cons_succ, List.set_cons_zero]) | (apply seg_pure rfl rfl rfl; · (rintro w' hS; go_wp2; exact ⟨rfl, rfl, rfl⟩)))
              refine seg_nil ?_
              refine NoPanic.normal ?_
              go_wp2_with fail
              go_ret3
              refine ⟨?_, hb2⟩
              rw [sRes_bad HE.out HK.out HX.out (.inl HS.out)]
              rfl
        · obtain ⟨p, rfl⟩ : ∃ p, i = p + 1 := ⟨i - 1, by omega⟩
          obtain ⟨z, hz⟩ : ∃ z, l[p]? = some z := ⟨_, List.getElem?_eq_getElem (show p < l.length by omega)⟩
          obtain ⟨b', off', he', hc'⟩ := HC.out p z hz
          injection he' with he'
          injection he' with e1 e2
          subst e1 e2
          have hz8 := z.toNat_lt
          have HZ := Lib.hid hz
          clear hz
          have hlt : p < l.length := by omega
          have e1 : ((p + 1 : Nat) : Int) - 1 = (p : Int) := by omega
          rw [e1]
          clear e1
          go_wp2_with fail
          rw [step7rs x z.toNat]
          refine HR.out _ _ ⟨_, p, rfl, rfl, by omega, ?_⟩ ?_
          · rw [svl_drop HZ.out (by omega), HX.out, w64_step]
          · simp [intOf]
  · have HE := Lib.hid he
    have hbw := Lib.hid hb
    have HB := Lib.hid (ieq_false he)
    clear he hb
    go_enter Try.func24, Try.ntmps24
    go_wp2_with (go_at_call 47; refine (whole_any _ l _ _ hbw.out (by omega) (by omega)).mono ?_; rintro e w' ⟨rfl, rfl⟩; have hb := HB.out)
    go_ret3
    refine ⟨?_, Below.refl _ _⟩
    rw [sRes, if_pos HE.out]
    rfl
end Go.Proofs.Ytbgeijdfkdfdoaa
