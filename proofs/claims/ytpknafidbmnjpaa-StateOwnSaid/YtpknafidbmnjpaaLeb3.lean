/-
  Walk of leb.U: the number at the beginning of bytes.
-/
import Derived.Test.YtpknafidbmnjpaaLeb2
import Derived.Test.YtpknafidbmnjpaaSeq
namespace Go.Proofs.Ytpknafidbmnjpaa
open Go.RowKit

/-- What bytes say, seven bits each. -/
def valU : List UInt8 → Nat
  | [] => 0
  | x :: l => x.toNat % 128 + 128 * valU l

/-- leb.U's answer. -/
def uRes (bits : Int) (l : List UInt8) : Nat × Nat × Int :=
  if (lenRes bits l).2 ≠ 0 then (0, 0, (lenRes bits l).2)
  else if putU (valU (l.take (lenRes bits l).1)) = l.take (lenRes bits l).1 ∧ valU (l.take (lenRes bits l).1) < 2 ^ bits.toNat then (valU (l.take (lenRes bits l).1), (lenRes bits l).1, 0)
  else (0, 0, 1)

theorem lenRes_ok {bits : Int} {l : List UInt8} (h : (lenRes bits l).2 = 0) :
    1 ≤ bits ∧ bits ≤ 64 ∧ (lenRes bits l).1 = cont l + 1 ∧ cont l + 1 ≤ l.length ∧ (cont l : Int) + 1 ≤ (bits + 6) / 7 := by
  have := cont_le l
  unfold lenRes at *
  by_cases h1 : bits < 1 ∨ 64 < bits
  · rw [if_pos h1] at h; cases h
  rw [if_neg h1] at *
  by_cases h2 : (bits + 6) / 7 ≤ cont l
  · rw [if_pos h2] at h; cases h
  rw [if_neg h2] at *
  by_cases h3 : cont l = l.length
  · rw [if_pos h3] at h; cases h
  rw [if_neg h3]
  exact ⟨by omega, by omega, rfl, by omega, by omega⟩

theorem wrap_u64 (n : Int) : IntKind.u64.wrap n = n % 18446744073709551616 := by simp [IntKind.wrap, IntKind.bits, IntKind.signed]

theorem low7 (y : Nat) (h : y < 256) : bits .andNot .u8 (y : Int) 128 = ((y % 128 : Nat) : Int) := by
  have h0 := u8_andNot_nat y 128 h (by omega)
  rw [show (255 - 128 : Nat) = 127 from rfl, nat_mask7] at h0
  exact h0

theorem step7 (x y : Nat) (hy : y < 256) :
    bits .or .u64 (IntKind.u64.wrap ((x : Int) * 128)) (IntKind.u64.wrap (bits .andNot .u8 (y : Int) 128)) = (((y % 128 + 128 * x) % 18446744073709551616 : Nat) : Int) := by
  rw [low7 y hy, wrap_u64, wrap_u64]
  have h1 : ((x : Int) * 128) % 18446744073709551616 = ((x * 128 % 18446744073709551616 : Nat) : Int) := by omega
  have h2 : (((y % 128 : Nat) : Int)) % 18446744073709551616 = ((y % 128 : Nat) : Int) := by omega
  rw [h1, h2, u64_or_nat _ _ (by omega) (by omega), nat_join 7 _ _ (by omega) (by omega)]
  congr 1
  omega

theorem valU_drop {l : List UInt8} {k j : Nat} {y : UInt8} (hy : l[j]? = some y) (hj : j < k) : valU ((l.take k).drop j) = y.toNat % 128 + 128 * valU ((l.take k).drop (j + 1)) := by
  have h : (l.take k)[j]? = some y := by rw [List.getElem?_take, if_pos hj]; exact hy
  obtain ⟨hlt, he⟩ := List.getElem?_eq_some_iff.1 h
  rw [List.drop_eq_getElem_cons hlt, valU, he]

theorem valU_putUF : ∀ (f n : Nat), n < 128 ^ f → valU (putUF f n) = n
  | 0, n, h => by
    simp at h
    subst h
    rfl
  | f + 1, n, h => by
    rw [putUF]
    split
    · rw [valU, valU, b8_toNat (by omega)]
      omega
    · rw [valU, b8_toNat (by omega), valU_putUF f (n / 128) (by rw [Nat.pow_succ] at h; omega)]
      omega

theorem valU_putU {n : Nat} (h : n < 18446744073709551616) : valU (putU n) = n := valU_putUF 10 n (by omega)

theorem uRes_ok {bits : Int} {l : List UInt8} {k x : Nat} (he : (lenRes bits l).2 = 0) (hk : k = (lenRes bits l).1) (hx : x = valU (l.take k) % 18446744073709551616)
    (hs : (l.take k == putU x) = true) (hr : if bits < 64 then (x : Int) / 2 ^ bits.toNat = 0 else True) : uRes bits l = (x, k, 0) := by
  obtain ⟨h1, h2, _⟩ := lenRes_ok he
  have hs' : l.take k = putU x := by simpa using hs
  have hx64 : x < 18446744073709551616 := by omega
  have hv : valU (l.take k) = x := by rw [hs']; exact valU_putU hx64
  have hlt : x < 2 ^ bits.toNat := by
    by_cases h : bits < 64
    · rw [if_pos h] at hr
      have h0 : ((x / 2 ^ bits.toNat : Nat) : Int) = 0 := by rw [← hr]; simp
      have h3 : x / 2 ^ bits.toNat = 0 := by omega
      rcases Nat.lt_or_ge x (2 ^ bits.toNat) with h4 | h4
      · exact h4
      · have := Nat.div_pos h4 (Nat.two_pow_pos _)
        omega
    · obtain rfl : bits = 64 := by omega
      exact hx64
  rw [uRes, if_neg (by rw [he]; simp), ← hk, hv, if_pos ⟨hs'.symm, hlt⟩]

theorem uRes_bad {bits : Int} {l : List UInt8} {k x : Nat} (he : (lenRes bits l).2 = 0) (hk : k = (lenRes bits l).1) (hx : x = valU (l.take k) % 18446744073709551616)
    (hs : (l.take k == putU x) = false ∨ ¬ (if bits < 64 then (x : Int) / 2 ^ bits.toNat = 0 else True)) : uRes bits l = (0, 0, 1) := by
  obtain ⟨h1, h2, _⟩ := lenRes_ok he
  rw [uRes, if_neg (by rw [he]; simp), ← hk, if_neg]
  rintro ⟨h3, h4⟩
  have h5 : 2 ^ bits.toNat ≤ 18446744073709551616 := by
    have : 2 ^ bits.toNat ≤ 2 ^ 64 := Nat.pow_le_pow_right (by omega) (by omega)
    exact this
  have hv : x = valU (l.take k) := by omega
  rcases hs with h | h
  · rw [hv, h3] at h
    simp at h
  · apply h
    split
    · have h6 : x / 2 ^ bits.toNat = 0 := Nat.div_eq_of_lt (by omega)
      have h7 : ((x / 2 ^ bits.toNat : Nat) : Int) = 0 := by omega
      rw [← h7]
      simp
    · trivial

def UEnd (bits : Int) (l : List UInt8) (w : World) (e : Ending) (w' : World) : Prop :=
  e = .returned (.tuple #[.int .u64 (uRes bits l).1, .int .i64 (uRes bits l).2.1, .int .i64 (uRes bits l).2.2]) ∧ Below w.heap.size w w'

def UJ (l : List UInt8) (k : Nat) (w w' : World) (x i : Nat) : Prop := w' = w ∧ i ≤ k ∧ x = valU ((l.take k).drop i) % 18446744073709551616

set_option maxRecDepth 100000 in
set_option maxHeartbeats 2000000 in
theorem U_any (b : Value) (l : List UInt8) (bits : Int) (w : World) (hb : IsBytes w b l) (hb1 : -9223372036854775808 ≤ bits) (hb2 : bits ≤ 9223372036854775807) :
    Calls Try.prog 53 #[b, .int .i64 bits] w (UEnd bits l w) := by
  by_cases he : (lenRes bits l).2 = 0
  · obtain ⟨k, hk⟩ : ∃ k, k = (lenRes bits l).1 := ⟨_, rfl⟩
    have HK := Lib.hid hk
    have hbw := Lib.hid hb
    obtain ⟨hb3, hb4, hk1, hk2, hk3⟩ := lenRes_ok he
    have hk0 : 1 ≤ k := by omega
    have hkl : k ≤ l.length := by omega
    have hk10 : k ≤ 10 := by omega
    clear hk1 hk2 hk3
    obtain ⟨a, cap, rfl, hl, hm, hc⟩ := hb
    unfold maxLen at hm
    have HC := Lib.hid hc
    have HE := Lib.hid he
    clear hc hk he
    go_enter Try.func53, Try.ntmps53
    go_wp2
    refine wp_scope_goto 0 (fun a' w' => ∃ (x i : Nat) (u8 u11 u12 u13 u14 u15 u16 u17 u18 u19 u20 u21 u22 u23 u24 u25 u26 u27 u28 u29 u30 u31 u32 u33 u34 u35 u36 u37 u38 u39 u40 u41 u42 u43 u44 u45 u46 u47 u48 u49 u50 u51 u52 : Value), a' = { tmps := #[.slice a l.length cap, .int .i64 bits, undef, undef, .int .u64 0, .int .i64 0, .int .i64 0, .int .i64 k, u8, .int .u64 x, .int .i64 i, u11, u12, u13, u14, u15, u16, u17, u18, u19, u20, u21, u22, u23, u24, u25, u26, u27, u28, u29, u30, u31, u32, u33, u34, u35, u36, u37, u38, u39, u40, u41, u42, u43, u44, u45, u46, u47, u48, u49, u50, u51, u52], defers := [] } ∧ UJ l k w w' x i) (fun a' _ => (intOf (a'.tmps.getD 10 undef)).toNat) rfl ?_ ?_
    · rintro a' w1 ⟨x, i, u8, u11, u12, u13, u14, u15, u16, u17, u18, u19, u20, u21, u22, u23, u24, u25, u26, u27, u28, u29, u30, u31, u32, u33, u34, u35, u36, u37, u38, u39, u40, u41, u42, u43, u44, u45, u46, u47, u48, u49, u50, u51, u52, rfl, hJ⟩
      obtain ⟨rfl, hik, hx⟩ := hJ
      have HX := Lib.hid hx
      clear hx
      by_cases hi : i = 0
      · subst hi
        rw [List.drop_zero] at HX
        have hx64 : x < 18446744073709551616 := by have := HX.out; omega
        have hbt : IsBytes w1 (.slice a k cap) (l.take k) := hbw.out.take k hkl
        have HBT := Lib.hid hbt
        clear hbt
        by_cases hs : (l.take k == putU x) = true
        · by_cases h64 : bits < 64
          · have hd : decide (bits < 64) = true := by simpa using h64
            by_cases hr : (x : Int) / 2 ^ bits.toNat = 0
            · have hr1 : (((x : Int) / 2 ^ bits.toNat) != 0) = false := by simp [hr]
              have hr2 : (((x : Int) / 2 ^ bits.toNat) == 0) = true := by simp [hr]
              have HR := Lib.hid hr
              clear hr
              have HS := Lib.hid hs
              clear hs
              go_wp2_with fail
              refine wp_region_seq (fun _ => True) [(0, true), (1, true), (2, true), (3, true), (4, false), (5, false), (6, true), (7, true), (8, true), (9, true), (10, true), (11, true), (12, true), (13, true), (14, true), (15, true), (16, true)] (by kernel_rfl) (by kernel_rfl) trivial ?_
              iterate 4 (first | (apply seg_skip rfl rfl; simp only [Act.put, List.setIfInBounds_toArray, List.set_cons_succ, List.set_cons_zero]) | (apply seg_pure rfl rfl rfl; · (intro w' _; go_wp2; exact ⟨rfl, rfl, rfl⟩)))
              refine seg_loud rfl rfl ?_
              go_wp2_with (go_at_call 42; refine (putU_any _ [] x hx64 w1.heap.size _ (OwnBytes.nil _ _) (by simp) (by simp)).mono ?_; rintro e w2 ⟨v2, rfl, ho2, hk2, hs2⟩)
              have hb2 := below_undrew (hk2.below (Nat.le_refl _) (by intro i hi; cases hi))
              refine ⟨trivial, ?_⟩
              refine seg_loud rfl rfl ?_
              go_wp2_with (go_at_call 58; refine (same_any _ _ (l.take k) (putU x) _ (HBT.out.below hb2) ho2.isBytes).mono ?_; rintro e w3 ⟨rfl, rfl⟩; rw [HS.out])
              refine ⟨trivial, ?_⟩
              iterate 11 (first | (apply seg_skip rfl rfl; simp only [Act.put, List.setIfInBounds_toArray, List.set_cons_succ, List.set_cons_zero]) | (apply seg_pure rfl rfl rfl; · (intro w' _; go_wp2; exact ⟨rfl, rfl, rfl⟩)))
              refine seg_nil ?_
              refine NoPanic.normal ?_
              go_wp2
              rw [jump_ret]
              go_ret3
              refine ⟨?_, hb2⟩
              rw [uRes_ok HE.out HK.out HX.out HS.out (by rw [if_pos h64]; exact HR.out)]
              rfl
            · have hr1 : (((x : Int) / 2 ^ bits.toNat) != 0) = true := by simp [hr]
              have hr2 : (((x : Int) / 2 ^ bits.toNat) == 0) = false := by simp [hr]
              have HR := Lib.hid hr
              clear hr
              have HS := Lib.hid hs
              clear hs
              go_wp2_with fail
              refine wp_region_seq (fun _ => True) [(0, true), (1, true), (2, true), (3, true), (4, false), (5, false), (6, true), (7, true), (8, true), (9, true), (10, true), (11, true), (12, true), (13, true), (14, true), (15, true), (16, true)] (by kernel_rfl) (by kernel_rfl) trivial ?_
              iterate 4 (first | (apply seg_skip rfl rfl; simp only [Act.put, List.setIfInBounds_toArray, List.set_cons_succ, List.set_cons_zero]) | (apply seg_pure rfl rfl rfl; · (intro w' _; go_wp2; exact ⟨rfl, rfl, rfl⟩)))
              refine seg_loud rfl rfl ?_
              go_wp2_with (go_at_call 42; refine (putU_any _ [] x hx64 w1.heap.size _ (OwnBytes.nil _ _) (by simp) (by simp)).mono ?_; rintro e w2 ⟨v2, rfl, ho2, hk2, hs2⟩)
              have hb2 := below_undrew (hk2.below (Nat.le_refl _) (by intro i hi; cases hi))
              refine ⟨trivial, ?_⟩
              refine seg_loud rfl rfl ?_
              go_wp2_with (go_at_call 58; refine (same_any _ _ (l.take k) (putU x) _ (HBT.out.below hb2) ho2.isBytes).mono ?_; rintro e w3 ⟨rfl, rfl⟩; rw [HS.out])
              refine ⟨trivial, ?_⟩
              iterate 11 (first | (apply seg_skip rfl rfl; simp only [Act.put, List.setIfInBounds_toArray, List.set_cons_succ, List.set_cons_zero]) | (apply seg_pure rfl rfl rfl; · (intro w' _; go_wp2; exact ⟨rfl, rfl, rfl⟩)))
              refine seg_nil ?_
              refine NoPanic.normal ?_
              go_wp2
              rw [jump_ret]
              go_ret3
              refine ⟨?_, hb2⟩
              rw [uRes_bad HE.out HK.out HX.out (.inr (by rw [if_pos h64]; exact HR.out))]
              rfl
          · have hd : decide (bits < 64) = false := by simpa using h64
            have HS := Lib.hid hs
            clear hs
            go_wp2_with fail
            refine wp_region_seq (fun _ => True) [(0, true), (1, true), (2, true), (3, true), (4, false), (5, false), (6, true), (7, true), (8, true), (9, true), (10, true), (11, true), (12, true), (13, true), (14, true), (15, true), (16, true)] (by kernel_rfl) (by kernel_rfl) trivial ?_
            iterate 4 (first | (apply seg_skip rfl rfl; simp only [Act.put, List.setIfInBounds_toArray, List.set_cons_succ, List.set_cons_zero]) | (apply seg_pure rfl rfl rfl; · (intro w' _; go_wp2; exact ⟨rfl, rfl, rfl⟩)))
            refine seg_loud rfl rfl ?_
            go_wp2_with (go_at_call 42; refine (putU_any _ [] x hx64 w1.heap.size _ (OwnBytes.nil _ _) (by simp) (by simp)).mono ?_; rintro e w2 ⟨v2, rfl, ho2, hk2, hs2⟩)
            have hb2 := below_undrew (hk2.below (Nat.le_refl _) (by intro i hi; cases hi))
            refine ⟨trivial, ?_⟩
            refine seg_loud rfl rfl ?_
            go_wp2_with (go_at_call 58; refine (same_any _ _ (l.take k) (putU x) _ (HBT.out.below hb2) ho2.isBytes).mono ?_; rintro e w3 ⟨rfl, rfl⟩; rw [HS.out])
            refine ⟨trivial, ?_⟩
            iterate 11 (first | (apply seg_skip rfl rfl; simp only [Act.put, List.setIfInBounds_toArray, List.set_cons_succ, List.set_cons_zero]) | (apply seg_pure rfl rfl rfl; · (intro w' _; go_wp2; exact ⟨rfl, rfl, rfl⟩)))
            refine seg_nil ?_
            refine NoPanic.normal ?_
            go_wp2
            rw [jump_ret]
            go_ret3
            refine ⟨?_, hb2⟩
            rw [uRes_ok HE.out HK.out HX.out HS.out (by rw [if_neg (by omega)]; trivial)]
            rfl
        · rw [Bool.not_eq_true] at hs
          have HS := Lib.hid hs
          clear hs
          go_wp2_with fail
          refine wp_region_seq (fun _ => True) [(0, true), (1, true), (2, true), (3, true), (4, false), (5, false), (6, true), (7, true), (8, true), (9, true), (10, true), (11, true), (12, true), (13, true), (14, true), (15, true), (16, true)] (by kernel_rfl) (by kernel_rfl) trivial ?_
          iterate 4 (first | (apply seg_skip rfl rfl; simp only [Act.put, List.setIfInBounds_toArray, List.set_cons_succ, List.set_cons_zero]) | (apply seg_pure rfl rfl rfl; · (intro w' _; go_wp2; exact ⟨rfl, rfl, rfl⟩)))
          refine seg_loud rfl rfl ?_
          go_wp2_with (go_at_call 42; refine (putU_any _ [] x hx64 w1.heap.size _ (OwnBytes.nil _ _) (by simp) (by simp)).mono ?_; rintro e w2 ⟨v2, rfl, ho2, hk2, hs2⟩)
          have hb2 := below_undrew (hk2.below (Nat.le_refl _) (by intro i hi; cases hi))
          refine ⟨trivial, ?_⟩
          refine seg_loud rfl rfl ?_
          go_wp2_with (go_at_call 58; refine (same_any _ _ (l.take k) (putU x) _ (HBT.out.below hb2) ho2.isBytes).mono ?_; rintro e w3 ⟨rfl, rfl⟩; rw [HS.out])
          refine ⟨trivial, ?_⟩
          iterate 11 (first | (apply seg_skip rfl rfl; simp only [Act.put, List.setIfInBounds_toArray, List.set_cons_succ, List.set_cons_zero]) | (apply seg_pure rfl rfl rfl; · (intro w' _; go_wp2; exact ⟨rfl, rfl, rfl⟩)))
          refine seg_nil ?_
          refine NoPanic.normal ?_
          go_wp2
          rw [jump_ret]
          go_ret3
          refine ⟨?_, hb2⟩
          rw [uRes_bad HE.out HK.out HX.out (.inl HS.out)]
          rfl
      · obtain ⟨j, rfl⟩ : ∃ j, i = j + 1 := ⟨i - 1, by omega⟩
        obtain ⟨y, hy⟩ : ∃ y, l[j]? = some y := ⟨_, List.getElem?_eq_getElem (show j < l.length by omega)⟩
        obtain ⟨b, off, rfl, hc⟩ := HC.out j y hy
        have hy8 := y.toNat_lt
        have HY := Lib.hid hy
        clear hy
        have hlt : j < l.length := by omega
        go_wp2_with fail
        go_step3
        simp only [Exit.then]
        rw [step7 x y.toNat hy8]
        refine jump_back ⟨_, j, _, _, _, _, _, _, _, _, _, _, _, _, _, _, _, _, _, _, _, _, _, _, _, _, _, _, _, _, _, _, _, _, _, _, _, _, _, _, _, _, _, _, _, rfl, rfl, by omega, ?_⟩ ?_
        · rw [valU_drop HY.out (by omega), HX.out]
          omega
        · simp [intOf]
    · intro H
      have Hh := Lib.hid H
      clear H
      go_wp2_with (go_at_call 57; refine (length_any _ l _ _ hbw.out (by omega) (by omega)).mono ?_; rintro e w' ⟨rfl, rfl⟩; rw [HE.out, ← HK.out])
      go_step3
      go_step
      go_step
      refine Hh.out _ _ ⟨0, k, _, _, _, _, _, _, _, _, _, _, _, _, _, _, _, _, _, _, _, _, _, _, _, _, _, _, _, _, _, _, _, _, _, _, _, _, _, _, _, _, _, _, _, rfl, rfl, Nat.le_refl _, ?_⟩
      rw [List.drop_eq_nil_of_le (by rw [List.length_take]; omega)]
      rfl
  · have HE := Lib.hid he
    have hbw := Lib.hid hb
    have HB := Lib.hid (ieq_false he)
    clear he hb
    go_enter Try.func53, Try.ntmps53
    go_wp2
    go_step3
    go_wp2_with (go_at_call 57; refine (length_any _ l _ _ hbw.out (by omega) (by omega)).mono ?_; rintro e w' ⟨rfl, rfl⟩; have hb := HB.out)
    rw [Exit.noGoto_ret]
    go_ret3
    refine ⟨?_, Below.refl _ _⟩
    rw [uRes, if_pos HE.out]
    rfl
end Go.Proofs.Ytpknafidbmnjpaa
