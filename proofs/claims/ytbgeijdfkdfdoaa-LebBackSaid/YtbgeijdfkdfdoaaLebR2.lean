/-
  Walk of the reference GetU.
-/
import Derived.Test.YtbgeijdfkdfdoaaLebR1
namespace Go.Proofs.Ytbgeijdfkdfdoaa
open Go.RowKit

/-- Over: some number on the way was too great for another seven bits. -/
def GUJ (l : List UInt8) (k : Nat) (w w' : World) (x : Nat) (i : Nat) (o : Bool) : Prop :=
  w' = w ∧ i ≤ k ∧ x = valU ((l.take k).drop i) % 18446744073709551616 ∧ (o = true ↔ 18446744073709551616 ≤ valU ((l.take k).drop i))

theorem uRes_range {bits : Int} {l : List UInt8} (h : bits < 1 ∨ 64 < bits) : uRes bits l = (0, 0, 3) := by
  have : lenRes bits l = (0, 3) := by rw [lenRes, if_pos h]
  rw [uRes, this]
  rfl

theorem step7r (x y : Nat) : IntKind.u64.wrap (IntKind.u64.wrap ((x : Int) * 128) + ((y : Int) % 128)) = (((y % 128 + 128 * x) % 18446744073709551616 : Nat) : Int) := by
  rw [wrap_u64, wrap_u64]
  omega

theorem wrap_small (n : Nat) (h : n ≤ 2 ^ 63) : IntKind.u64.wrap (n : Int) = (n : Int) := by
  rw [wrap_u64]
  omega

theorem uRes_over {bits : Int} {l : List UInt8} {k : Nat} (he : (lenRes bits l).2 = 0) (hk : k = (lenRes bits l).1) (hv : 18446744073709551616 ≤ valU (l.take k)) : uRes bits l = (0, 0, 1) := by
  obtain ⟨h1, h2, _⟩ := lenRes_ok he
  rw [uRes, if_neg (by rw [he]; simp), ← hk, if_neg]
  rintro ⟨h3, h4⟩
  have h5 : 2 ^ bits.toNat ≤ 2 ^ 64 := Nat.pow_le_pow_right (by omega) (by omega)
  omega

set_option maxRecDepth 100000 in
set_option maxHeartbeats 4000000 in
theorem GetU_any (b : Value) (l : List UInt8) (bits : Int) (w : World) (hb : IsBytes w b l) (hb1 : -9223372036854775808 ≤ bits) (hb2 : bits ≤ 9223372036854775807) :
    Calls Try.prog 23 #[b, .int .i64 bits] w (UEnd bits l w) := by
  by_cases h1 : bits < 1
  · clear hb
    go_enter Try.func23, Try.ntmps23
    go_wp2
    go_ret3
    exact ⟨by rw [uRes_range (.inl h1)]; rfl, Below.refl _ _⟩
  by_cases h2 : 64 < bits
  · clear hb
    go_enter Try.func23, Try.ntmps23
    go_wp2
    go_ret3
    exact ⟨by rw [uRes_range (.inr h2)]; rfl, Below.refl _ _⟩
  by_cases he : (lenRes bits l).2 = 0
  · obtain ⟨k, hk⟩ : ∃ k, k = (lenRes bits l).1 := ⟨_, rfl⟩
    have HK := Lib.hid hk
    have hbw := Lib.hid hb
    obtain ⟨hb3, hb4, hk1, hk2, hk3⟩ := lenRes_ok he
    have hk0 : 1 ≤ k := by omega
    have hkl : k ≤ l.length := by omega
    have hk10 : k ≤ 10 := by omega
    clear hk1 hk2 hk3
    obtain ⟨a, cap, rfl, hl, hm, hc⟩ := hb
    unfold maxLen at hm
    have HC := Lib.hid hc
    have HE := Lib.hid he
    clear hc hk he
    go_enter Try.func23, Try.ntmps23
    go_wp2_with (go_at_call 47; refine (whole_any _ l _ _ hbw.out (by omega) (by omega)).mono ?_; rintro e w' ⟨rfl, rfl⟩; rw [HE.out, ← HK.out])

    refine wp_loop_r (fun a' w' => ∃ (x i : Nat) (o : Bool), a' = { tmps := #[.slice a l.length cap, .int .i64 bits, undef, undef, .int .u64 0, .int .i64 0, .int .i64 0, .int .i64 k, .int .i64 0, .int .u64 x, .bool o, .int .i64 ((i : Int) - 1), slot a' 12, slot a' 13, slot a' 14, slot a' 15, slot a' 16, slot a' 17, slot a' 18, slot a' 19, slot a' 20, slot a' 21, slot a' 22, slot a' 23, slot a' 24, slot a' 25, slot a' 26, slot a' 27, slot a' 28, slot a' 29, slot a' 30, slot a' 31, slot a' 32, slot a' 33, slot a' 34, slot a' 35, slot a' 36, slot a' 37, slot a' 38, slot a' 39, slot a' 40, slot a' 41, slot a' 42, slot a' 43, slot a' 44, slot a' 45, slot a' 46, slot a' 47, slot a' 48, slot a' 49, slot a' 50, slot a' 51, slot a' 52, slot a' 53, slot a' 54, slot a' 55, slot a' 56, slot a' 57, slot a' 58, slot a' 59, slot a' 60, slot a' 61, slot a' 62, slot a' 63, slot a' 64, slot a' 65, slot a' 66, slot a' 67, slot a' 68, slot a' 69, slot a' 70], defers := [] } ∧ GUJ l k w w' x i o) (fun a' _ => (intOf (a'.tmps.getD 11 undef) + 1).toNat) ?_ ?_
    · refine ⟨0, k, false, rfl, rfl, Nat.le_refl _, ?_, ?_⟩
      · rw [List.drop_eq_nil_of_le (by rw [List.length_take]; omega)]
        rfl
      · rw [List.drop_eq_nil_of_le (by rw [List.length_take]; omega)]
        simp [valU]
    · skip
      rintro R a' w1 ⟨x, i, o, hfr, hJ⟩ HR
      obtain ⟨f, hf⟩ : ∃ f, f = slot a' := ⟨_, rfl⟩
      rw [← hf] at hfr
      clear hf
      subst hfr
      obtain ⟨rfl, hik, hx, ho⟩ := hJ
      have HX := Lib.hid hx
      have HO := Lib.hid ho
      clear hx ho
      by_cases hi : i = 0
      · subst hi
        rw [List.drop_zero] at HX HO
        have hx64 : x < 18446744073709551616 := by have := HX.out; omega
        have hbt : IsBytes w1 (.slice a k cap) (l.take k) := hbw.out.take k hkl
        have HBT := Lib.hid hbt
        clear hbt
        cases o
        · have hV : valU (l.take k) = x := by
            have := HX.out
            have := HO.out
            simp at this
            omega
          have HV := Lib.hid hV
          clear hV
          by_cases h64 : bits < 64
          · have hd : decide (bits < 64) = true := by simpa using h64
            have hp : IntKind.u64.wrap (2 ^ bits.toNat) = ((2 ^ bits.toNat : Nat) : Int) := by
              have h1 : (2 : Nat) ^ bits.toNat ≤ 2 ^ 63 := Nat.pow_le_pow_right (by omega) (by omega)
              have h2 : ((2 : Int) ^ bits.toNat) = ((2 ^ bits.toNat : Nat) : Int) := by simp
              rw [h2]
              exact wrap_small _ h1
            have HP := Lib.hid hp
            clear hp
            by_cases hc : 2 ^ bits.toNat ≤ x
            · have hcmp : decide (IntKind.u64.wrap (2 ^ bits.toNat) ≤ (x : Int)) = true := by rw [HP.out]; simp only [decide_eq_true_eq]; exact_mod_cast hc
              have HCC := Lib.hid hc
              clear hc
              go_wp2_with fail
              refine wp_region_seq (fun w' => (convert 22 9 (.slice a k cap)).run Try.prog w' = .ok (.string (bs (l.take k))) w') [(0, true), (1, true), (2, true), (3, true), (4, true), (5, true), (6, true), (7, true), (8, true), (9, true), (10, true), (11, true), (12, true), (13, true), (16, true), (17, true), (18, true), (19, true), (14, false), (15, false), (20, true), (21, true)] (by kernel_rfl) (by kernel_rfl) (run_str (w := w1.drew) HBT.out) ?_
              iterate 22 (first | (apply seg_skip rfl rfl; simp only [Act.put, List.setIfInBounds_toArray, List.set_cons_succ, List.set_cons_zero]) | (apply seg_pure rfl rfl rfl; · (rintro w' hS; go_wp2; exact ⟨rfl, rfl, rfl⟩)))
              refine seg_nil ?_
              refine NoPanic.normal ?_
              go_wp2_with fail
              go_ret3
              refine ⟨?_, (Below.refl _ _).drew⟩
              rw [uRes_bad HE.out HK.out HX.out (.inr ?_)]
              · rfl
              · rw [if_pos h64]
                intro h0
                have h1 : x / 2 ^ bits.toNat = 0 := by
                  have h2 : ((x / 2 ^ bits.toNat : Nat) : Int) = 0 := by rw [← h0]; simp
                  omega
                have := Nat.div_pos HCC.out (Nat.two_pow_pos _)
                omega
            · have hcmp : decide (IntKind.u64.wrap (2 ^ bits.toNat) ≤ (x : Int)) = false := by rw [HP.out]; simp only [decide_eq_false_iff_not]; exact_mod_cast hc
              have hr : (x : Int) / 2 ^ bits.toNat = 0 := by
                have h1 : x / 2 ^ bits.toNat = 0 := Nat.div_eq_of_lt (by omega)
                have h2 : ((x / 2 ^ bits.toNat : Nat) : Int) = 0 := by omega
                rw [← h2]
                simp
              have HR2 := Lib.hid hr
              clear hc hr
              by_cases hs : (l.take k == putU x) = true
              · have hq : ((bs (putU x)).toList == (bs (l.take k)).toList) = true := by rw [bs_toList, bs_toList]; simp at hs ⊢; exact hs.symm
                have HS := Lib.hid hs
                clear hs
                go_wp2_with fail
                refine wp_region_seq (fun w' => (convert 22 9 (.slice a k cap)).run Try.prog w' = .ok (.string (bs (l.take k))) w') [(0, true), (1, true), (2, true), (3, true), (4, true), (5, true), (6, true), (7, true), (8, true), (9, true), (10, true), (11, true), (12, true), (13, true), (16, true), (17, true), (18, true), (19, true), (14, false), (15, false), (20, true), (21, true)] (by kernel_rfl) (by kernel_rfl) (run_str (w := w1.drew) HBT.out) ?_
                iterate 18 (first | (apply seg_skip rfl rfl; simp only [Act.put, List.setIfInBounds_toArray, List.set_cons_succ, List.set_cons_zero]) | (apply seg_pure rfl rfl rfl; · (rintro w' hS; go_wp2; exact ⟨rfl, rfl, rfl⟩)))
                refine seg_loud rfl rfl ?_
                go_wp2_with fail
                refine (refU_any x hx64 w1.drew).mono ?_
                rintro e w2 ⟨v2, rfl, ho2, hb2'⟩
                have hb2 : Below w1.heap.size w1 w2 := below_undrew hb2'
                have hs1 := run_str (HBT.out.below hb2)
                have HS1 := Lib.hid hs1
                clear hs1
                go_wp2_with fail
                refine ⟨HS1.out, ?_⟩
                refine seg_loud rfl rfl ?_
                have hs2 := run_str ho2.isBytes
                go_wp2_with fail
                refine ⟨HS1.out, ?_⟩
                clear hs2
                iterate 2 (first | (apply seg_skip rfl rfl; simp only [Act.put, List.setIfInBounds_toArray, List.set_cons_succ, List.set_cons_zero]) | (apply seg_pure rfl rfl rfl; · (rintro w' hS; go_wp2; exact ⟨rfl, rfl, rfl⟩)))
                refine seg_nil ?_
                refine NoPanic.normal ?_
                go_wp2_with fail
                go_ret3
                refine ⟨?_, hb2⟩
                rw [uRes_ok HE.out HK.out HX.out HS.out (by rw [if_pos h64]; exact HR2.out)]
                rfl
              · rw [Bool.not_eq_true] at hs
                have hq : ((bs (putU x)).toList == (bs (l.take k)).toList) = false := by rw [bs_toList, bs_toList]; simp at hs ⊢; exact fun h => hs h.symm
                have HS := Lib.hid hs
                clear hs
                go_wp2_with fail
                refine wp_region_seq (fun w' => (convert 22 9 (.slice a k cap)).run Try.prog w' = .ok (.string (bs (l.take k))) w') [(0, true), (1, true), (2, true), (3, true), (4, true), (5, true), (6, true), (7, true), (8, true), (9, true), (10, true), (11, true), (12, true), (13, true), (16, true), (17, true), (18, true), (19, true), (14, false), (15, false), (20, true), (21, true)] (by kernel_rfl) (by kernel_rfl) (run_str (w := w1.drew) HBT.out) ?_
                iterate 18 (first | (apply seg_skip rfl rfl; simp only [Act.put, List.setIfInBounds_toArray, List.set_cons_succ, List.set_cons_zero]) | (apply seg_pure rfl rfl rfl; · (rintro w' hS; go_wp2; exact ⟨rfl, rfl, rfl⟩)))
                refine seg_loud rfl rfl ?_
                go_wp2_with fail
                refine (refU_any x hx64 w1.drew).mono ?_
                rintro e w2 ⟨v2, rfl, ho2, hb2'⟩
                have hb2 : Below w1.heap.size w1 w2 := below_undrew hb2'
                have hs1 := run_str (HBT.out.below hb2)
                have HS1 := Lib.hid hs1
                clear hs1
                go_wp2_with fail
                refine ⟨HS1.out, ?_⟩
                refine seg_loud rfl rfl ?_
                have hs2 := run_str ho2.isBytes
                go_wp2_with fail
                refine ⟨HS1.out, ?_⟩
                clear hs2
                iterate 2 (first | (apply seg_skip rfl rfl; simp only [Act.put, List.setIfInBounds_toArray, List.set_cons_succ, List.set_cons_zero]) | (apply seg_pure rfl rfl rfl; · (rintro w' hS; go_wp2; exact ⟨rfl, rfl, rfl⟩)))
                refine seg_nil ?_
                refine NoPanic.normal ?_
                go_wp2_with fail
                go_ret3
                refine ⟨?_, hb2⟩
                rw [uRes_bad HE.out HK.out HX.out (.inl HS.out)]
                rfl
          · have hd : decide (bits < 64) = false := by simpa using h64
            by_cases hs : (l.take k == putU x) = true
            · have hq : ((bs (putU x)).toList == (bs (l.take k)).toList) = true := by rw [bs_toList, bs_toList]; simp at hs ⊢; exact hs.symm
              have HS := Lib.hid hs
              clear hs
              go_wp2_with fail
              refine wp_region_seq (fun w' => (convert 22 9 (.slice a k cap)).run Try.prog w' = .ok (.string (bs (l.take k))) w') [(0, true), (1, true), (2, true), (3, true), (4, true), (5, true), (6, true), (7, true), (8, true), (9, true), (10, true), (11, true), (12, true), (13, true), (16, true), (17, true), (18, true), (19, true), (14, false), (15, false), (20, true), (21, true)] (by kernel_rfl) (by kernel_rfl) (run_str (w := w1.drew) HBT.out) ?_
              iterate 18 (first | (apply seg_skip rfl rfl; simp only [Act.put, List.setIfInBounds_toArray, List.set_cons_succ, List.set_cons_zero]) | (apply seg_pure rfl rfl rfl; · (rintro w' hS; go_wp2; exact ⟨rfl, rfl, rfl⟩)))
              refine seg_loud rfl rfl ?_
              go_wp2_with fail
              refine (refU_any x hx64 w1.drew).mono ?_
              rintro e w2 ⟨v2, rfl, ho2, hb2'⟩
              have hb2 : Below w1.heap.size w1 w2 := below_undrew hb2'
              have hs1 := run_str (HBT.out.below hb2)
              have HS1 := Lib.hid hs1
              clear hs1
              go_wp2_with fail
              refine ⟨HS1.out, ?_⟩
              refine seg_loud rfl rfl ?_
              have hs2 := run_str ho2.isBytes
              go_wp2_with fail
              refine ⟨HS1.out, ?_⟩
              clear hs2
              iterate 2 (first | (apply seg_skip rfl rfl; simp only [Act.put, List.setIfInBounds_toArray, List.set_cons_succ, List.set_cons_zero]) | (apply seg_pure rfl rfl rfl; · (rintro w' hS; go_wp2; exact ⟨rfl, rfl, rfl⟩)))
              refine seg_nil ?_
              refine NoPanic.normal ?_
              go_wp2_with fail
              go_ret3
              refine ⟨?_, hb2⟩
              rw [uRes_ok HE.out HK.out HX.out HS.out (by rw [if_neg (by omega)]; trivial)]
              rfl
            · rw [Bool.not_eq_true] at hs
              have hq : ((bs (putU x)).toList == (bs (l.take k)).toList) = false := by rw [bs_toList, bs_toList]; simp at hs ⊢; exact fun h => hs h.symm
              have HS := Lib.hid hs
              clear hs
              go_wp2_with fail
              refine wp_region_seq (fun w' => (convert 22 9 (.slice a k cap)).run Try.prog w' = .ok (.string (bs (l.take k))) w') [(0, true), (1, true), (2, true), (3, true), (4, true), (5, true), (6, true), (7, true), (8, true), (9, true), (10, true), (11, true), (12, true), (13, true), (16, true), (17, true), (18, true), (19, true), (14, false), (15, false), (20, true), (21, true)] (by kernel_rfl) (by kernel_rfl) (run_str (w := w1.drew) HBT.out) ?_
              iterate 18 (first | (apply seg_skip rfl rfl; simp only [Act.put, List.setIfInBounds_toArray, List.set_cons_succ, List.set_cons_zero]) | (apply seg_pure rfl rfl rfl; · (rintro w' hS; go_wp2; exact ⟨rfl, rfl, rfl⟩)))
              refine seg_loud rfl rfl ?_
              go_wp2_with fail
              refine (refU_any x hx64 w1.drew).mono ?_
              rintro e w2 ⟨v2, rfl, ho2, hb2'⟩
              have hb2 : Below w1.heap.size w1 w2 := below_undrew hb2'
              have hs1 := run_str (HBT.out.below hb2)
              have HS1 := Lib.hid hs1
              clear hs1
              go_wp2_with fail
              refine ⟨HS1.out, ?_⟩
              refine seg_loud rfl rfl ?_
              have hs2 := run_str ho2.isBytes
              go_wp2_with fail
              refine ⟨HS1.out, ?_⟩
              clear hs2
              iterate 2 (first | (apply seg_skip rfl rfl; simp only [Act.put, List.setIfInBounds_toArray, List.set_cons_succ, List.set_cons_zero]) | (apply seg_pure rfl rfl rfl; · (rintro w' hS; go_wp2; exact ⟨rfl, rfl, rfl⟩)))
              refine seg_nil ?_
              refine NoPanic.normal ?_
              go_wp2_with fail
              go_ret3
              refine ⟨?_, hb2⟩
              rw [uRes_bad HE.out HK.out HX.out (.inl HS.out)]
              rfl
        · skip
          go_wp2_with fail
          refine wp_region_seq (fun w' => (convert 22 9 (.slice a k cap)).run Try.prog w' = .ok (.string (bs (l.take k))) w') [(0, true), (1, true), (2, true), (3, true), (4, true), (5, true), (6, true), (7, true), (8, true), (9, true), (10, true), (11, true), (12, true), (13, true), (16, true), (17, true), (18, true), (19, true), (14, false), (15, false), (20, true), (21, true)] (by kernel_rfl) (by kernel_rfl) (run_str (w := w1.drew) HBT.out) ?_
          iterate 22 (first | (apply seg_skip rfl rfl; simp only [Act.put, List.setIfInBounds_toArray, List.set_cons_succ, List.set_cons_zero]) | (apply seg_pure rfl rfl rfl; · (rintro w' hS; go_wp2; exact ⟨rfl, rfl, rfl⟩)))
          refine seg_nil ?_
          refine NoPanic.normal ?_
          go_wp2_with fail
          go_ret3
          refine ⟨?_, (Below.refl _ _).drew⟩
          rw [uRes_over HE.out HK.out (HO.out.1 trivial)]
          rfl
      · obtain ⟨j, rfl⟩ : ∃ j, i = j + 1 := ⟨i - 1, by omega⟩
        obtain ⟨y, hy⟩ : ∃ y, l[j]? = some y := ⟨_, List.getElem?_eq_getElem (show j < l.length by omega)⟩
        obtain ⟨b, off, rfl, hc⟩ := HC.out j y hy
        have hy8 := y.toNat_lt
        have HY := Lib.hid hy
        clear hy
        have hlt : j < l.length := by omega
        have e1 : ((j + 1 : Nat) : Int) - 1 = (j : Int) := by omega
        rw [e1]
        clear e1
        have hx64 : x < 18446744073709551616 := by have := HX.out; omega
        have hvd := valU_drop HY.out (show j < k by omega)
        have HV := Lib.hid hvd
        clear hvd
        cases o
        · by_cases ho : 144115188075855872 ≤ x
          · have ho' : decide ((144115188075855872 : Int) ≤ (x : Int)) = true := by simp; omega
            go_wp2_with fail
            rw [step7r x y.toNat]
            refine HR.out _ _ ⟨_, j, true, rfl, rfl, by omega, ?_, ?_⟩ ?_
            · have := HV.out
              have := HX.out
              omega
            · have := HV.out
              have := HX.out
              simp
              omega
            · simp [intOf]
          · have ho' : decide ((144115188075855872 : Int) ≤ (x : Int)) = false := by simp; omega
            go_wp2_with fail
            rw [show (x : Int) * 128 + (y.toNat : Int) % 128 = ((y.toNat % 128 + 128 * x : Nat) : Int) from by omega]
            refine HR.out _ _ ⟨_, j, false, rfl, rfl, by omega, ?_, ?_⟩ ?_
            · have := HV.out
              have := HX.out
              have := HO.out
              simp at this
              omega
            · have := HV.out
              have := HX.out
              have := HO.out
              simp at this ⊢
              omega
            · simp [intOf]
        · go_wp2_with fail
          rw [step7r x y.toNat]
          refine HR.out _ _ ⟨_, j, true, rfl, rfl, by omega, ?_, ?_⟩ ?_
          · have := HV.out
            have := HX.out
            omega
          · have := HV.out
            have := HO.out
            simp at this ⊢
            omega
          · simp [intOf]
  · have HE := Lib.hid he
    have hbw := Lib.hid hb
    have HB := Lib.hid (ieq_false he)
    clear he hb
    go_enter Try.func23, Try.ntmps23
    go_wp2_with (go_at_call 47; refine (whole_any _ l _ _ hbw.out (by omega) (by omega)).mono ?_; rintro e w' ⟨rfl, rfl⟩; have hb := HB.out)
    go_ret3
    refine ⟨?_, Below.refl _ _⟩
    rw [uRes, if_pos HE.out]
    rfl
end Go.Proofs.Ytbgeijdfkdfdoaa
