/-
  The law LebBack: numbers go to bytes and back, whatever stands about, where they fit. No condition.
-/
import Derived.Test.YtbgeijdfkdfdoaaLebLong
import Derived.Test.YtbgeijdfkdfdoaaLebMany
namespace Go.Proofs.Ytbgeijdfkdfdoaa
open Go.RowKit

theorem putUF_big : ∀ (f n : Nat), n < 128 ^ f → (putUF f n).length ≤ 1 ∨ 128 ^ ((putUF f n).length - 1) ≤ n
  | 0, n, _ => by simp [putUF]
  | f + 1, n, h => by
    rw [putUF]
    split
    · left; simp
    · rename_i hge
      right
      rcases putUF_big f (n / 128) (by rw [Nat.pow_succ] at h; omega) with h1 | h1
      · have : (b8 (n % 128 + 128) :: putUF f (n / 128)).length - 1 ≤ 1 := by simp; exact h1
        have h2 : 128 ^ ((b8 (n % 128 + 128) :: putUF f (n / 128)).length - 1) ≤ 128 ^ 1 := Nat.pow_le_pow_right (by omega) this
        omega
      · rw [List.length_cons, Nat.add_sub_cancel]
        rcases Nat.eq_zero_or_pos (putUF f (n / 128)).length with h0 | h0
        · rw [h0]
          omega
        · obtain ⟨m, hm⟩ : ∃ m, (putUF f (n / 128)).length = m + 1 := ⟨_, (Nat.succ_pred_eq_of_pos h0).symm⟩
          rw [hm] at h1 ⊢
          rw [Nat.add_sub_cancel] at h1
          rw [Nat.pow_succ]
          have := Nat.mul_le_mul_right 128 h1
          omega

theorem lenRes_all (p : List UInt8) (z : UInt8) (bits : Int) (hb1 : 1 ≤ bits) (hb2 : bits ≤ 64) (hp : ∀ y ∈ p, 128 ≤ y.toNat) (hz : z.toNat < 128) :
    lenRes bits (p ++ [z]) = if (bits + 6) / 7 ≤ p.length then (0, 1) else (p.length + 1, 0) := by
  unfold lenRes
  rw [if_neg (by omega), cont_shape p z [] hp hz]
  by_cases h : (bits + 6) / 7 ≤ p.length
  · rw [if_pos h, if_pos h]
  · rw [if_neg h, if_neg h, if_neg (by simp)]

/-- A number's bytes are read just where the number fits. -/
theorem uRes_fits (u : Nat) (bits : Int) (hu : u < 18446744073709551616) (hb1 : 1 ≤ bits) (hb2 : bits ≤ 63) : (uRes bits (putU u)).2.2 = if u < 2 ^ bits.toNat then 0 else 1 := by
  obtain ⟨p, z, h1, h2, h3, h4⟩ := putUF_shape2 9 u (by omega)
  change putU u = p ++ [z] at h1
  have hl := lenRes_all p z bits hb1 (by omega) h2 h3
  rw [← h1] at hl
  by_cases hc : (bits + 6) / 7 ≤ p.length
  · rw [if_pos hc] at hl
    unfold uRes
    rw [hl, if_pos (by simp)]
    rw [if_neg]
    rcases putUF_big 10 u (by omega) with h | h
    · change (putU u).length ≤ 1 at h
      rw [h1] at h
      simp at h
      simp [h] at hc
      omega
    · change 128 ^ ((putU u).length - 1) ≤ u at h
      rw [h1, List.length_append, List.length_singleton, Nat.add_sub_cancel] at h
      have e : (128 : Nat) ^ p.length = 2 ^ (7 * p.length) := by rw [Nat.pow_mul]
      have : 2 ^ bits.toNat ≤ 2 ^ (7 * p.length) := Nat.pow_le_pow_right (by omega) (by omega)
      omega
  · rw [if_neg hc] at hl
    have ht : (putU u).take (p.length + 1) = putU u := List.take_of_length_le (by rw [h1]; simp)
    unfold uRes
    rw [hl, if_neg (by simp)]
    simp only [ht]
    rw [valU_putU hu]
    by_cases h : u < 2 ^ bits.toNat
    · rw [if_pos ⟨rfl, h⟩, if_pos h]
    · rw [if_neg (fun g => h g.2), if_neg h]

theorem putSF_big : ∀ (f : Nat) (n : Int), -((128 : Int) ^ (f + 1)) ≤ 2 * n → 2 * n < 128 ^ (f + 1) → (putSF (f + 1) n).length = 1 ∨ ((putSF (f + 1) n).length ≠ 0 ∧ ¬ (-(64 * 128 ^ ((putSF (f + 1) n).length - 2)) ≤ n ∧ n < 64 * 128 ^ ((putSF (f + 1) n).length - 2))) := by
  intro f
  induction f with
  | zero =>
    intro n h h'
    left
    rw [putSF, if_pos (by omega)]
    rfl
  | succ f ih =>
    intro n h h'
    rw [putSF]
    split
    · left; rfl
    · rename_i hs
      right
      rw [Int.pow_succ, Int.pow_succ] at h h'
      obtain h1 | h1 := ih (n / 128) (by rw [Int.pow_succ]; omega) (by rw [Int.pow_succ]; omega)
      · rw [List.length_cons, h1]
        simp
        omega
      · rw [List.length_cons]
        obtain ⟨h0, h1⟩ := h1
        obtain ⟨m, hm⟩ : ∃ m, (putSF (f + 1) (n / 128)).length = m + 1 := ⟨_, (Nat.succ_pred_eq_of_pos (Nat.pos_of_ne_zero h0)).symm⟩
        rw [hm] at h1 ⊢
        refine ⟨by omega, ?_⟩
        rcases Nat.eq_zero_or_pos m with hm0 | hm0
        · subst hm0
          simp
          omega
        · obtain ⟨m', rfl⟩ : ∃ m', m = m' + 1 := ⟨m - 1, by omega⟩
          rw [show m' + 1 + 1 - 2 = m' from by omega] at h1
          rw [show m' + 1 + 1 + 1 - 2 = m' + 1 from by omega, Int.pow_succ]
          omega

theorem sRes_fits (n : Int) (bits : Int) (h0 : -9223372036854775808 ≤ n) (h1 : n ≤ 9223372036854775807) (hb1 : 1 ≤ bits) (hb2 : bits ≤ 63) :
    (sRes bits (putS n)).2.2 = if -(2 ^ (bits.toNat - 1)) ≤ n ∧ n < 2 ^ (bits.toNat - 1) then 0 else 1 := by
  obtain ⟨p, z, e1, h2, h3, h4⟩ := putSF_shape 9 n (by omega) (by omega)
  change putS n = p ++ [z] at e1
  have hl := lenRes_all p z bits hb1 (by omega) h2 h3
  rw [← e1] at hl
  by_cases hc : (bits + 6) / 7 ≤ p.length
  · rw [if_pos hc] at hl
    unfold sRes
    rw [hl, if_pos (by simp)]
    rw [if_neg]
    rcases putSF_big 9 n (by omega) (by omega) with h | ⟨_, h⟩
    · change (putS n).length = 1 at h
      rw [e1] at h
      simp at h
      simp [h] at hc
      omega
    · change ¬ (-(64 * 128 ^ ((putS n).length - 2)) ≤ n ∧ n < 64 * 128 ^ ((putS n).length - 2)) at h
      rw [e1, List.length_append, List.length_singleton] at h
      have hp1 : 1 ≤ p.length := by omega
      have e : (64 : Int) * 128 ^ (p.length + 1 - 2) = ((2 ^ (7 * p.length - 1) : Nat) : Int) := by
        have e2 : (64 : Nat) * 128 ^ (p.length + 1 - 2) = 2 ^ (7 * p.length - 1) := by
          rw [show (128 : Nat) = 2 ^ 7 from rfl, show (64 : Nat) = 2 ^ 6 from rfl, ← Nat.pow_mul, ← Nat.pow_add]
          congr 1
          omega
        rw [← e2]
        simp
      rw [e] at h
      have h5 : 2 ^ (bits.toNat - 1) ≤ 2 ^ (7 * p.length - 1) := Nat.pow_le_pow_right (by omega) (by omega)
      have h6 : ((2 ^ (bits.toNat - 1) : Nat) : Int) = (2 : Int) ^ (bits.toNat - 1) := by simp
      rw [← h6]
      omega
  · rw [if_neg hc] at hl
    have ht : (putS n).take (p.length + 1) = putS n := List.take_of_length_le (by rw [e1]; simp)
    unfold sRes
    rw [hl, if_neg (by simp)]
    simp only [ht]
    rw [valS_putS h0 (by omega)]
    by_cases h : -(2 ^ (bits.toNat - 1)) ≤ n ∧ n < 2 ^ (bits.toNat - 1)
    · rw [if_pos ⟨rfl, h⟩, if_pos h]
    · rw [if_neg (fun g => h g.2), if_neg h]
end Go.Proofs.Ytbgeijdfkdfdoaa
