/-
  Walk of leb.S: the signed number at the beginning of bytes.
-/
import Derived.Test.YtpknafidbmnjpaaLeb4
namespace Go.Proofs.Ytpknafidbmnjpaa
open Go.RowKit

/-- What bytes say, seven bits each, above s. -/
def svl (s : Int) : List UInt8 → Int
  | [] => s
  | x :: l => (x.toNat % 128 : Nat) + 128 * svl s l

/-- The sign that the last byte bears. -/
def sgn (l : List UInt8) : Int := match l.getLast? with
  | some x => if x.toNat % 128 < 64 then 0 else -1
  | none => 0

def valS (l : List UInt8) : Int := svl (sgn l) l

/-- leb.S's answer. -/
def sRes (bits : Int) (l : List UInt8) : Int × Nat × Int :=
  if (lenRes bits l).2 ≠ 0 then (0, 0, (lenRes bits l).2)
  else if putS (valS (l.take (lenRes bits l).1)) = l.take (lenRes bits l).1 ∧ -(2 ^ (bits.toNat - 1)) ≤ valS (l.take (lenRes bits l).1) ∧ valS (l.take (lenRes bits l).1) < 2 ^ (bits.toNat - 1) then (valS (l.take (lenRes bits l).1), (lenRes bits l).1, 0)
  else (0, 0, 1)

def SEnd (bits : Int) (l : List UInt8) (w : World) (e : Ending) (w' : World) : Prop :=
  e = .returned (.tuple #[.int .i64 (sRes bits l).1, .int .i64 (sRes bits l).2.1, .int .i64 (sRes bits l).2.2]) ∧ Below w.heap.size w w'

/-- Round, as int64. -/
def w64 (n : Int) : Int := (n + 9223372036854775808) % 18446744073709551616 - 9223372036854775808

theorem i64_or (a c : Int) (ha : a % 128 = 0) (h0 : 0 ≤ c) (h1 : c < 128) : bits .or .i64 a c = w64 (a + c) := by
  unfold bits w64
  simp only [IntKind.bits, IntKind.wrap_i64]
  have e1 : (BitVec.ofInt 64 a).toNat = (a % 18446744073709551616).toNat := by simp [BitVec.toNat_ofInt]
  have e2 : (BitVec.ofInt 64 c).toNat = c.toNat := by
    have : (BitVec.ofInt 64 c).toNat = (c % 18446744073709551616).toNat := by simp [BitVec.toNat_ofInt]
    rw [this]
    omega
  have e3 : (BitVec.ofInt 64 a ||| BitVec.ofInt 64 c).toNat = (a % 18446744073709551616).toNat + c.toNat := by
    rw [BitVec.toNat_or, e1, e2, nat_join 7 _ _ (by omega) (by omega)]
  have e4 := congrArg (fun n : Nat => ((n : Int) + 9223372036854775808) % 18446744073709551616 - 9223372036854775808) e3
  refine Eq.trans e4 ?_
  omega

theorem wrap64_w64 (n : Int) : wrap64 n = w64 n := by unfold wrap64 w64; omega

theorem and64y : ∀ x : Fin 256, x.val &&& 64 = if x.val % 128 < 64 then 0 else 64 := by decide +kernel
theorem bits_and64y (n : Nat) (h : n < 256) : bits .and .u8 (n : Int) 64 = if n % 128 < 64 then 0 else 64 := by
  have h0 := u8_and_nat n 64 h (by omega)
  rw [and64y ⟨n, h⟩] at h0
  refine h0.trans ?_
  by_cases h : n % 128 < 64
  · rw [if_pos h, if_pos h]; rfl
  · rw [if_neg h, if_neg h]; rfl

theorem step7s (x : Int) (y : Nat) (hy : y < 256) :
    bits .or .i64 (wrap64 (x * 128)) (wrap64 (bits .andNot .u8 (y : Int) 128)) = w64 ((y % 128 : Nat) + 128 * x) := by
  rw [low7 y hy]
  have h2 : wrap64 ((y % 128 : Nat) : Int) = ((y % 128 : Nat) : Int) := by unfold wrap64; omega
  rw [h2, i64_or _ _ (by unfold wrap64; omega) (by omega) (by omega)]
  unfold wrap64 w64
  omega

theorem w64_step (c x : Int) : w64 (c + 128 * w64 x) = w64 (c + 128 * x) := by
  unfold w64
  omega

theorem sgn_take {l : List UInt8} {j : Nat} {y : UInt8} (hy : l[j]? = some y) : sgn (l.take (j + 1)) = if y.toNat % 128 < 64 then 0 else -1 := by
  obtain ⟨hlt, he⟩ := List.getElem?_eq_some_iff.1 hy
  have : (l.take (j + 1)).getLast? = some y := by
    rw [List.getLast?_eq_getElem?, List.length_take, Nat.min_eq_left (by omega), Nat.add_sub_cancel, List.getElem?_take, if_pos (by omega), hy]
  rw [sgn, this]

theorem svl_putSF : ∀ (f : Nat) (n : Int), -((128 : Int) ^ (f + 1)) ≤ 2 * n → 2 * n < 128 ^ (f + 1) → putSF (f + 1) n ≠ [] ∧ svl (sgn (putSF (f + 1) n)) (putSF (f + 1) n) = n := by
  intro f
  induction f with
  | zero =>
    intro n h h'
    rw [putSF, if_pos (by omega)]
    refine ⟨by simp, ?_⟩
    simp only [sgn, List.getLast?_singleton, svl]
    rw [b8_toNat (by omega)]
    split <;> omega
  | succ f ih =>
    intro n h h'
    rw [putSF]
    split
    · rename_i hs
      refine ⟨by simp, ?_⟩
      simp only [sgn, List.getLast?_singleton, svl]
      rw [b8_toNat (by omega)]
      split <;> omega
    · rename_i hs
      rw [Int.pow_succ, Int.pow_succ] at h h'
      obtain ⟨h1, h2⟩ := ih (n / 128) (by rw [Int.pow_succ]; omega) (by rw [Int.pow_succ]; omega)
      refine ⟨by simp, ?_⟩
      have h3 : sgn (b8 ((n % 128).toNat + 128) :: putSF (f + 1) (n / 128)) = sgn (putSF (f + 1) (n / 128)) := by
        cases hc : putSF (f + 1) (n / 128) with
        | nil => exact absurd hc h1
        | cons x l => simp [sgn, List.getLast?_cons_cons]
      rw [h3, svl, h2, b8_toNat (by omega)]
      omega

theorem valS_putS {n : Int} (h : -9223372036854775808 ≤ n) (h' : n < 9223372036854775808) : valS (putS n) = n := (svl_putSF 9 n (by omega) (by omega)).2

theorem div_pow_zero {x : Int} {n : Nat} : x / 2 ^ n = 0 ↔ 0 ≤ x ∧ x < 2 ^ n := by
  have hp : (0 : Int) < 2 ^ n := Int.pow_pos (by omega)
  constructor
  · intro h
    have h1 := Int.emod_nonneg x (Int.ne_of_gt hp)
    have h2 := Int.emod_lt_of_pos x hp
    have h3 := Int.mul_ediv_add_emod x (2 ^ n)
    rw [h] at h3
    omega
  · rintro ⟨h1, h2⟩
    exact Int.ediv_eq_zero_of_lt h1 h2

theorem div_pow_neg {x : Int} {n : Nat} : x / 2 ^ n = -1 ↔ -(2 ^ n) ≤ x ∧ x < 0 := by
  have hp : (0 : Int) < 2 ^ n := Int.pow_pos (by omega)
  have e : x / 2 ^ n = (x + 2 ^ n) / 2 ^ n - 1 := by
    have := Int.add_mul_ediv_right x 1 (Int.ne_of_gt hp)
    rw [Int.one_mul] at this
    omega
  rw [e]
  have := @div_pow_zero (x + 2 ^ n) n
  omega

theorem sRes_ok {bits : Int} {l : List UInt8} {k : Nat} {x : Int} (he : (lenRes bits l).2 = 0) (hk : k = (lenRes bits l).1) (hx : x = w64 (svl (sgn (l.take k)) (l.take k)))
    (hs : (l.take k == putS x) = true) (hr : x / 2 ^ (bits.toNat - 1) = 0 ∨ x / 2 ^ (bits.toNat - 1) = -1) : sRes bits l = (x, k, 0) := by
  obtain ⟨h1, h2, _⟩ := lenRes_ok he
  have hs' : l.take k = putS x := by simpa using hs
  have hx1 : -9223372036854775808 ≤ x ∧ x < 9223372036854775808 := by rw [hx]; unfold w64; omega
  have hv : valS (l.take k) = x := by rw [hs']; exact valS_putS hx1.1 hx1.2
  rw [div_pow_zero, div_pow_neg] at hr
  have hp : (0 : Int) < 2 ^ (bits.toNat - 1) := Int.pow_pos (by omega)
  rw [sRes, if_neg (by rw [he]; simp), ← hk, hv, if_pos ⟨hs'.symm, by omega, by omega⟩]

theorem sRes_bad {bits : Int} {l : List UInt8} {k : Nat} {x : Int} (he : (lenRes bits l).2 = 0) (hk : k = (lenRes bits l).1) (hx : x = w64 (svl (sgn (l.take k)) (l.take k)))
    (hs : (l.take k == putS x) = false ∨ ¬ (x / 2 ^ (bits.toNat - 1) = 0 ∨ x / 2 ^ (bits.toNat - 1) = -1)) : sRes bits l = (0, 0, 1) := by
  obtain ⟨h1, h2, _⟩ := lenRes_ok he
  rw [sRes, if_neg (by rw [he]; simp), ← hk, if_neg]
  rintro ⟨h3, h4, h5⟩
  have h6 : (2 : Int) ^ (bits.toNat - 1) ≤ 9223372036854775808 := by
    have h7 : (2 : Nat) ^ (bits.toNat - 1) ≤ 2 ^ 63 := Nat.pow_le_pow_right (by omega) (by omega)
    have h8 : ((2 ^ (bits.toNat - 1) : Nat) : Int) ≤ ((2 ^ 63 : Nat) : Int) := Int.ofNat_le.2 h7
    rw [Int.natCast_pow] at h8
    exact h8
  have hv : x = valS (l.take k) := by
    rw [hx, ← valS]
    unfold w64
    omega
  rcases hs with h | h
  · rw [hv, h3, beq_self_eq_true] at h
    cases h
  · apply h
    rw [div_pow_zero, div_pow_neg, hv]
    omega

theorem svl_drop {s : Int} {l : List UInt8} {k j : Nat} {y : UInt8} (hy : l[j]? = some y) (hj : j < k) : svl s ((l.take k).drop j) = (y.toNat % 128 : Nat) + 128 * svl s ((l.take k).drop (j + 1)) := by
  have h : (l.take k)[j]? = some y := by rw [List.getElem?_take, if_pos hj]; exact hy
  obtain ⟨hlt, he⟩ := List.getElem?_eq_some_iff.1 h
  rw [List.drop_eq_getElem_cons hlt, svl, he]

def SJ (l : List UInt8) (k : Nat) (w w' : World) (x : Int) (i : Nat) : Prop := w' = w ∧ i ≤ k ∧ x = w64 (svl (sgn (l.take k)) ((l.take k).drop i))

set_option maxRecDepth 100000 in
set_option maxHeartbeats 2000000 in
theorem S_any (b : Value) (l : List UInt8) (bits : Int) (w : World) (hb : IsBytes w b l) (hb1 : -9223372036854775808 ≤ bits) (hb2 : bits ≤ 9223372036854775807) :
    Calls Try.prog 56 #[b, .int .i64 bits] w (SEnd bits l w) := by
  by_cases he : (lenRes bits l).2 = 0
  · obtain ⟨k, hk⟩ : ∃ k, k = (lenRes bits l).1 := ⟨_, rfl⟩
    have HK := Lib.hid hk
    have hbw := Lib.hid hb
    obtain ⟨hb3, hb4, hk1, hk2, hk3⟩ := lenRes_ok he
    have hk0 : 1 ≤ k := by omega
    have hkl : k ≤ l.length := by omega
    have hk10 : k ≤ 10 := by omega
    clear hk1 hk2 hk3
    obtain ⟨a, cap, rfl, hl, hm, hc⟩ := hb
    unfold maxLen at hm
    have HC := Lib.hid hc
    have HE := Lib.hid he
    clear hc hk he
    go_enter Try.func56, Try.ntmps56
    go_wp2
    refine wp_scope_goto 0 (fun a' w' => ∃ (x : Int) (i : Nat) (u8 u11 u12 u13 u14 u15 u16 u17 u18 u19 u20 u21 u22 u23 u24 u25 u26 u27 u28 u29 u30 u31 u32 u33 u34 u35 u36 u37 u38 u39 u40 u41 u42 u43 u44 u45 u46 u47 u48 u49 u50 u51 u52 u53 u54 u55 u56 u57 u58 u59 u60 u61 u62 : Value), a' = { tmps := #[.slice a l.length cap, .int .i64 bits, undef, undef, .int .i64 0, .int .i64 0, .int .i64 0, .int .i64 k, u8, .int .i64 x, .int .i64 i, u11, u12, u13, u14, u15, u16, u17, u18, u19, u20, u21, u22, u23, u24, u25, u26, u27, u28, u29, u30, u31, u32, u33, u34, u35, u36, u37, u38, u39, u40, u41, u42, u43, u44, u45, u46, u47, u48, u49, u50, u51, u52, u53, u54, u55, u56, u57, u58, u59, u60, u61, u62], defers := [] } ∧ SJ l k w w' x i) (fun a' _ => (intOf (a'.tmps.getD 10 undef)).toNat) rfl ?_ ?_
    · rintro a' w1 ⟨x, i, u8, u11, u12, u13, u14, u15, u16, u17, u18, u19, u20, u21, u22, u23, u24, u25, u26, u27, u28, u29, u30, u31, u32, u33, u34, u35, u36, u37, u38, u39, u40, u41, u42, u43, u44, u45, u46, u47, u48, u49, u50, u51, u52, u53, u54, u55, u56, u57, u58, u59, u60, u61, u62, rfl, hJ⟩
      obtain ⟨rfl, hik, hx⟩ := hJ
      have HX := Lib.hid hx
      clear hx
      by_cases hi : i = 0
      · subst hi
        rw [List.drop_zero] at HX
        have hx64 : -9223372036854775808 ≤ x ∧ x ≤ 9223372036854775807 := by rw [HX.out]; unfold w64; omega
        have hbt : IsBytes w1 (.slice a k cap) (l.take k) := hbw.out.take k hkl
        have HBT := Lib.hid hbt
        clear hbt
        by_cases hs : (l.take k == putS x) = true
        · by_cases hr : x / 2 ^ (bits.toNat - 1) = 0
          · have r1 := ieq_true hr
            have r2 : (x / 2 ^ (bits.toNat - 1) != 0) = false := ine_false hr
            have HR := Lib.hid hr
            clear hr
            have HS := Lib.hid hs
            clear hs
            go_wp2_with fail
            refine wp_region_seq (fun _ => True) [(0, true), (1, true), (2, true), (3, true), (4, false), (5, false), (6, true), (7, true), (8, true), (9, true), (10, true), (11, true), (12, true), (13, true), (14, true)] (by kernel_rfl) (by kernel_rfl) trivial ?_
            iterate 4 (first | (apply seg_skip rfl rfl; simp only [Act.put, List.setIfInBounds_toArray, List.set_cons_succ, List.set_cons_zero]) | (apply seg_pure rfl rfl rfl; · (intro w' _; go_wp2; exact ⟨rfl, rfl, rfl⟩)))
            refine seg_loud rfl rfl ?_
            go_wp2_with (go_at_call 43; refine (putS_any _ [] x hx64.1 hx64.2 w1.heap.size _ (OwnBytes.nil _ _) (by simp) (by simp)).mono ?_; rintro e w2 ⟨v2, rfl, ho2, hk2, hs2⟩)
            have hb2 := below_undrew (hk2.below (Nat.le_refl _) (by intro i hi; cases hi))
            refine ⟨trivial, ?_⟩
            refine seg_loud rfl rfl ?_
            go_wp2_with (go_at_call 58; refine (same_any _ _ (l.take k) (putS x) _ (HBT.out.below hb2) ho2.isBytes).mono ?_; rintro e w3 ⟨rfl, rfl⟩; rw [HS.out])
            refine ⟨trivial, ?_⟩
            iterate 9 (first | (apply seg_skip rfl rfl; simp only [Act.put, List.setIfInBounds_toArray, List.set_cons_succ, List.set_cons_zero]) | (apply seg_pure rfl rfl rfl; · (intro w' _; go_wp2; exact ⟨rfl, rfl, rfl⟩)))
            refine seg_nil ?_
            refine NoPanic.normal ?_
            go_wp2
            rw [jump_ret]
            go_ret3
            refine ⟨?_, hb2⟩
            rw [sRes_ok HE.out HK.out HX.out HS.out (.inl HR.out)]
            rfl
          by_cases hr' : x / 2 ^ (bits.toNat - 1) = -1
          · have r1 := ieq_true hr'
            have r2 : (x / 2 ^ (bits.toNat - 1) != 0) = true := ine_true hr
            have r3 : (x / 2 ^ (bits.toNat - 1) != -1) = false := ine_false hr'
            have HR := Lib.hid hr'
            clear hr hr'
            have HS := Lib.hid hs
            clear hs
            go_wp2_with fail
            refine wp_region_seq (fun _ => True) [(0, true), (1, true), (2, true), (3, true), (4, false), (5, false), (6, true), (7, true), (8, true), (9, true), (10, true), (11, true), (12, true), (13, true), (14, true)] (by kernel_rfl) (by kernel_rfl) trivial ?_
            iterate 4 (first | (apply seg_skip rfl rfl; simp only [Act.put, List.setIfInBounds_toArray, List.set_cons_succ, List.set_cons_zero]) | (apply seg_pure rfl rfl rfl; · (intro w' _; go_wp2; exact ⟨rfl, rfl, rfl⟩)))
            refine seg_loud rfl rfl ?_
            go_wp2_with (go_at_call 43; refine (putS_any _ [] x hx64.1 hx64.2 w1.heap.size _ (OwnBytes.nil _ _) (by simp) (by simp)).mono ?_; rintro e w2 ⟨v2, rfl, ho2, hk2, hs2⟩)
            have hb2 := below_undrew (hk2.below (Nat.le_refl _) (by intro i hi; cases hi))
            refine ⟨trivial, ?_⟩
            refine seg_loud rfl rfl ?_
            go_wp2_with (go_at_call 58; refine (same_any _ _ (l.take k) (putS x) _ (HBT.out.below hb2) ho2.isBytes).mono ?_; rintro e w3 ⟨rfl, rfl⟩; rw [HS.out])
            refine ⟨trivial, ?_⟩
            iterate 9 (first | (apply seg_skip rfl rfl; simp only [Act.put, List.setIfInBounds_toArray, List.set_cons_succ, List.set_cons_zero]) | (apply seg_pure rfl rfl rfl; · (intro w' _; go_wp2; exact ⟨rfl, rfl, rfl⟩)))
            refine seg_nil ?_
            refine NoPanic.normal ?_
            go_wp2
            rw [jump_ret]
            go_ret3
            refine ⟨?_, hb2⟩
            rw [sRes_ok HE.out HK.out HX.out HS.out (.inr HR.out)]
            rfl
          · have r2 : (x / 2 ^ (bits.toNat - 1) != 0) = true := ine_true hr
            have r3 : (x / 2 ^ (bits.toNat - 1) != -1) = true := ine_true hr'
            have HR := Lib.hid hr
            have HR' := Lib.hid hr'
            clear hr hr'
            have HS := Lib.hid hs
            clear hs
            go_wp2_with fail
            refine wp_region_seq (fun _ => True) [(0, true), (1, true), (2, true), (3, true), (4, false), (5, false), (6, true), (7, true), (8, true), (9, true), (10, true), (11, true), (12, true), (13, true), (14, true)] (by kernel_rfl) (by kernel_rfl) trivial ?_
            iterate 4 (first | (apply seg_skip rfl rfl; simp only [Act.put, List.setIfInBounds_toArray, List.set_cons_succ, List.set_cons_zero]) | (apply seg_pure rfl rfl rfl; · (intro w' _; go_wp2; exact ⟨rfl, rfl, rfl⟩)))
            refine seg_loud rfl rfl ?_
            go_wp2_with (go_at_call 43; refine (putS_any _ [] x hx64.1 hx64.2 w1.heap.size _ (OwnBytes.nil _ _) (by simp) (by simp)).mono ?_; rintro e w2 ⟨v2, rfl, ho2, hk2, hs2⟩)
            have hb2 := below_undrew (hk2.below (Nat.le_refl _) (by intro i hi; cases hi))
            refine ⟨trivial, ?_⟩
            refine seg_loud rfl rfl ?_
            go_wp2_with (go_at_call 58; refine (same_any _ _ (l.take k) (putS x) _ (HBT.out.below hb2) ho2.isBytes).mono ?_; rintro e w3 ⟨rfl, rfl⟩; rw [HS.out])
            refine ⟨trivial, ?_⟩
            iterate 9 (first | (apply seg_skip rfl rfl; simp only [Act.put, List.setIfInBounds_toArray, List.set_cons_succ, List.set_cons_zero]) | (apply seg_pure rfl rfl rfl; · (intro w' _; go_wp2; exact ⟨rfl, rfl, rfl⟩)))
            refine seg_nil ?_
            refine NoPanic.normal ?_
            go_wp2
            rw [jump_ret]
            go_ret3
            refine ⟨?_, hb2⟩
            rw [sRes_bad HE.out HK.out HX.out (.inr (fun h => h.elim HR.out HR'.out))]
            rfl
        · rw [Bool.not_eq_true] at hs
          have HS := Lib.hid hs
          clear hs
          go_wp2_with fail
          refine wp_region_seq (fun _ => True) [(0, true), (1, true), (2, true), (3, true), (4, false), (5, false), (6, true), (7, true), (8, true), (9, true), (10, true), (11, true), (12, true), (13, true), (14, true)] (by kernel_rfl) (by kernel_rfl) trivial ?_
          iterate 4 (first | (apply seg_skip rfl rfl; simp only [Act.put, List.setIfInBounds_toArray, List.set_cons_succ, List.set_cons_zero]) | (apply seg_pure rfl rfl rfl; · (intro w' _; go_wp2; exact ⟨rfl, rfl, rfl⟩)))
          refine seg_loud rfl rfl ?_
          go_wp2_with (go_at_call 43; refine (putS_any _ [] x hx64.1 hx64.2 w1.heap.size _ (OwnBytes.nil _ _) (by simp) (by simp)).mono ?_; rintro e w2 ⟨v2, rfl, ho2, hk2, hs2⟩)
          have hb2 := below_undrew (hk2.below (Nat.le_refl _) (by intro i hi; cases hi))
          refine ⟨trivial, ?_⟩
          refine seg_loud rfl rfl ?_
          go_wp2_with (go_at_call 58; refine (same_any _ _ (l.take k) (putS x) _ (HBT.out.below hb2) ho2.isBytes).mono ?_; rintro e w3 ⟨rfl, rfl⟩; rw [HS.out])
          refine ⟨trivial, ?_⟩
          iterate 9 (first | (apply seg_skip rfl rfl; simp only [Act.put, List.setIfInBounds_toArray, List.set_cons_succ, List.set_cons_zero]) | (apply seg_pure rfl rfl rfl; · (intro w' _; go_wp2; exact ⟨rfl, rfl, rfl⟩)))
          refine seg_nil ?_
          refine NoPanic.normal ?_
          go_wp2
          rw [jump_ret]
          go_ret3
          refine ⟨?_, hb2⟩
          rw [sRes_bad HE.out HK.out HX.out (.inl HS.out)]
          rfl
      · obtain ⟨j, rfl⟩ : ∃ j, i = j + 1 := ⟨i - 1, by omega⟩
        obtain ⟨y, hy⟩ : ∃ y, l[j]? = some y := ⟨_, List.getElem?_eq_getElem (show j < l.length by omega)⟩
        obtain ⟨b, off, rfl, hc⟩ := HC.out j y hy
        have hy8 := y.toNat_lt
        have HY := Lib.hid hy
        clear hy
        have hlt : j < l.length := by omega
        go_wp2_with fail
        go_step3
        simp only [Exit.then]
        rw [step7s x y.toNat hy8]
        refine jump_back ⟨_, j, _, _, _, _, _, _, _, _, _, _, _, _, _, _, _, _, _, _, _, _, _, _, _, _, _, _, _, _, _, _, _, _, _, _, _, _, _, _, _, _, _, _, _, _, _, _, _, _, _, _, _, _, _, rfl, rfl, by omega, ?_⟩ ?_
        · rw [svl_drop HY.out (by omega), HX.out, w64_step]
        · simp [intOf]
    · intro H
      have Hh := Lib.hid H
      clear H
      obtain ⟨y, hy⟩ : ∃ y, l[k - 1]? = some y := ⟨_, List.getElem?_eq_getElem (show k - 1 < l.length by omega)⟩
      obtain ⟨b, off, rfl, hc⟩ := HC.out (k - 1) y hy
      obtain ⟨j, rfl⟩ : ∃ j, k = j + 1 := ⟨k - 1, by omega⟩
      rw [Nat.add_sub_cancel] at hc
      have hy8 := y.toNat_lt
      have HY := Lib.hid hy
      clear hy
      have hb6 := bits_and64y y.toNat hy8
      have HB6 := Lib.hid hb6
      clear hb6
      rcases Nat.lt_or_ge (y.toNat % 128) 64 with hy6 | hy6
      · have r1 : (Go.bits .and .u8 (y.toNat : Int) 64 != 0) = false := by rw [HB6.out, if_pos hy6]; rfl
        go_wp2_with (go_at_call 57; refine (length_any _ l _ _ hbw.out (by omega) (by omega)).mono ?_; rintro e w' ⟨rfl, rfl⟩; rw [HE.out, ← HK.out])
        go_step3
        go_step
        go_step
        refine Hh.out _ _ ⟨_, j + 1, _, _, _, _, _, _, _, _, _, _, _, _, _, _, _, _, _, _, _, _, _, _, _, _, _, _, _, _, _, _, _, _, _, _, _, _, _, _, _, _, _, _, _, _, _, _, _, _, _, _, _, _, _, rfl, rfl, Nat.le_refl _, ?_⟩
        rw [List.drop_eq_nil_of_le (by rw [List.length_take]; omega), svl, sgn_take (j := j) HY.out, if_pos hy6]
        rfl
      · have r1 : (Go.bits .and .u8 (y.toNat : Int) 64 != 0) = true := by rw [HB6.out, if_neg (by omega)]; rfl
        go_wp2_with (go_at_call 57; refine (length_any _ l _ _ hbw.out (by omega) (by omega)).mono ?_; rintro e w' ⟨rfl, rfl⟩; rw [HE.out, ← HK.out])
        go_step3
        go_step
        go_step
        refine Hh.out _ _ ⟨_, j + 1, _, _, _, _, _, _, _, _, _, _, _, _, _, _, _, _, _, _, _, _, _, _, _, _, _, _, _, _, _, _, _, _, _, _, _, _, _, _, _, _, _, _, _, _, _, _, _, _, _, _, _, _, _, rfl, rfl, Nat.le_refl _, ?_⟩
        rw [List.drop_eq_nil_of_le (by rw [List.length_take]; omega), svl, sgn_take (j := j) HY.out, if_neg (by omega)]
        rfl
  · have HE := Lib.hid he
    have hbw := Lib.hid hb
    have HB := Lib.hid (ieq_false he)
    clear he hb
    go_enter Try.func56, Try.ntmps56
    go_wp2
    go_step3
    go_wp2_with (go_at_call 57; refine (length_any _ l _ _ hbw.out (by omega) (by omega)).mono ?_; rintro e w' ⟨rfl, rfl⟩; have hb := HB.out)
    rw [Exit.noGoto_ret]
    go_ret3
    refine ⟨?_, Below.refl _ _⟩
    rw [sRes, if_pos HE.out]
    rfl
end Go.Proofs.Ytpknafidbmnjpaa
