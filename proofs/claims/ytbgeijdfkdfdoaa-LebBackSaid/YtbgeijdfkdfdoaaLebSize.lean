/-
  The law LebSize: a number has as many bytes as its digits need, by sevens; a greater one no fewer. No condition.
-/
import Derived.Test.YtbgeijdfkdfdoaaLeb6
import Derived.OpenShut
namespace Go.Proofs.Ytbgeijdfkdfdoaa
open Go.RowKit

theorem putUF_mono : ∀ (f m n : Nat), m ≤ n → (putUF f m).length ≤ (putUF f n).length
  | 0, _, _, _ => Nat.le_refl _
  | f + 1, m, n, h => by
    rw [putUF, putUF]
    have := putUF_mono f (m / 128) (n / 128) (by omega)
    split
    · split <;> simp
    · rw [if_neg (by omega)]
      simpa using this

theorem putU_len (n : Nat) : 1 ≤ (putU n).length ∧ (putU n).length ≤ 10 := by
  have h : ∀ f n, (putUF f n).length ≤ f := by
    intro f
    induction f with
    | zero => intro n; simp [putUF]
    | succ f ih =>
      intro n
      rw [putUF]
      split
      · simp
      · have := ih (n / 128)
        simp
        omega
  refine ⟨?_, h 10 n⟩
  rw [putU, putUF]
  split <;> simp


set_option maxRecDepth 100000 in
set_option maxHeartbeats 1000000 in
/-- k out of its bounds. -/
theorem size_out (u v : Nat) (k : Int) (hu : u < 18446744073709551616) (hv : v < 18446744073709551616) (w : World) (hk1 : -9223372036854775808 ≤ k) (hk2 : k ≤ 9223372036854775807) (hk : k < 1 ∨ 9 < k) :
    Calls Try.prog 7 #[.int .u64 u, .int .u64 v, .int .i64 k] w (TrueEnd w) := by
  have t1 : ([] ++ putU 18446744073709551615).length = 10 := by decide +kernel
  have T1 := Lib.hid t1
  clear t1
  rcases Nat.lt_or_ge v u with h | h
  · have hm := putUF_mono 10 v u (by omega)
    change (putU v).length ≤ (putU u).length at hm
    rcases hk with hk | hk
    · go_enter Try.func7, Try.ntmps7
      go_wp2_with fail
      refine (begun_any _).mono ?_
      rintro e w1 ⟨rfl, hb⟩
      go_wp2_with fail
      refine (putU_any _ [] v (by omega) _ _ (OwnBytes.nil _ _) (by simp) (Nat.le_refl _)).mono ?_
      rintro e w2 ⟨v1, rfl, ho, hk, _⟩
      replace hb := below_next hb (keeps_nil hk rfl)
      obtain ⟨a1, c1, rfl, -, -, -⟩ := ho.isBytes
      clear ho hk
      rw [List.nil_append]
      go_wp2_with fail
      refine (putU_any _ [] u (by omega) _ _ (OwnBytes.nil _ _) (by simp) (Nat.le_refl _)).mono ?_
      rintro e w2 ⟨v1, rfl, ho, hk, _⟩
      replace hb := below_next hb (keeps_nil hk rfl)
      obtain ⟨a1, c1, rfl, -, -, -⟩ := ho.isBytes
      clear ho hk
      rw [List.nil_append]
      go_wp2_with fail
      refine (putU_any _ [] 18446744073709551615 (by omega) _ _ (OwnBytes.nil _ _) (by simp) (Nat.le_refl _)).mono ?_
      rintro e w2 ⟨v1, rfl, ho, hk, _⟩
      replace hb := below_next hb (keeps_nil hk rfl)
      obtain ⟨a1, c1, rfl, -, -, -⟩ := ho.isBytes
      clear ho hk
      rw [T1.out]
      go_wp2_with fail
      go_ret
      exact ⟨rfl, hb⟩
    · have hk' : ¬ k < 1 := by omega
      go_enter Try.func7, Try.ntmps7
      go_wp2_with fail
      refine (begun_any _).mono ?_
      rintro e w1 ⟨rfl, hb⟩
      go_wp2_with fail
      refine (putU_any _ [] v (by omega) _ _ (OwnBytes.nil _ _) (by simp) (Nat.le_refl _)).mono ?_
      rintro e w2 ⟨v1, rfl, ho, hk, _⟩
      replace hb := below_next hb (keeps_nil hk rfl)
      obtain ⟨a1, c1, rfl, -, -, -⟩ := ho.isBytes
      clear ho hk
      rw [List.nil_append]
      go_wp2_with fail
      refine (putU_any _ [] u (by omega) _ _ (OwnBytes.nil _ _) (by simp) (Nat.le_refl _)).mono ?_
      rintro e w2 ⟨v1, rfl, ho, hk, _⟩
      replace hb := below_next hb (keeps_nil hk rfl)
      obtain ⟨a1, c1, rfl, -, -, -⟩ := ho.isBytes
      clear ho hk
      rw [List.nil_append]
      go_wp2_with fail
      refine (putU_any _ [] 18446744073709551615 (by omega) _ _ (OwnBytes.nil _ _) (by simp) (Nat.le_refl _)).mono ?_
      rintro e w2 ⟨v1, rfl, ho, hk, _⟩
      replace hb := below_next hb (keeps_nil hk rfl)
      obtain ⟨a1, c1, rfl, -, -, -⟩ := ho.isBytes
      clear ho hk
      rw [T1.out]
      go_wp2_with fail
      go_ret
      exact ⟨rfl, hb⟩
  · have hm := putUF_mono 10 u v (by omega)
    change (putU u).length ≤ (putU v).length at hm
    rcases hk with hk | hk
    · go_enter Try.func7, Try.ntmps7
      go_wp2_with fail
      refine (begun_any _).mono ?_
      rintro e w1 ⟨rfl, hb⟩
      go_wp2_with fail
      refine (putU_any _ [] u (by omega) _ _ (OwnBytes.nil _ _) (by simp) (Nat.le_refl _)).mono ?_
      rintro e w2 ⟨v1, rfl, ho, hk, _⟩
      replace hb := below_next hb (keeps_nil hk rfl)
      obtain ⟨a1, c1, rfl, -, -, -⟩ := ho.isBytes
      clear ho hk
      rw [List.nil_append]
      go_wp2_with fail
      refine (putU_any _ [] v (by omega) _ _ (OwnBytes.nil _ _) (by simp) (Nat.le_refl _)).mono ?_
      rintro e w2 ⟨v1, rfl, ho, hk, _⟩
      replace hb := below_next hb (keeps_nil hk rfl)
      obtain ⟨a1, c1, rfl, -, -, -⟩ := ho.isBytes
      clear ho hk
      rw [List.nil_append]
      go_wp2_with fail
      refine (putU_any _ [] 18446744073709551615 (by omega) _ _ (OwnBytes.nil _ _) (by simp) (Nat.le_refl _)).mono ?_
      rintro e w2 ⟨v1, rfl, ho, hk, _⟩
      replace hb := below_next hb (keeps_nil hk rfl)
      obtain ⟨a1, c1, rfl, -, -, -⟩ := ho.isBytes
      clear ho hk
      rw [T1.out]
      go_wp2_with fail
      go_ret
      exact ⟨rfl, hb⟩
    · have hk' : ¬ k < 1 := by omega
      go_enter Try.func7, Try.ntmps7
      go_wp2_with fail
      refine (begun_any _).mono ?_
      rintro e w1 ⟨rfl, hb⟩
      go_wp2_with fail
      refine (putU_any _ [] u (by omega) _ _ (OwnBytes.nil _ _) (by simp) (Nat.le_refl _)).mono ?_
      rintro e w2 ⟨v1, rfl, ho, hk, _⟩
      replace hb := below_next hb (keeps_nil hk rfl)
      obtain ⟨a1, c1, rfl, -, -, -⟩ := ho.isBytes
      clear ho hk
      rw [List.nil_append]
      go_wp2_with fail
      refine (putU_any _ [] v (by omega) _ _ (OwnBytes.nil _ _) (by simp) (Nat.le_refl _)).mono ?_
      rintro e w2 ⟨v1, rfl, ho, hk, _⟩
      replace hb := below_next hb (keeps_nil hk rfl)
      obtain ⟨a1, c1, rfl, -, -, -⟩ := ho.isBytes
      clear ho hk
      rw [List.nil_append]
      go_wp2_with fail
      refine (putU_any _ [] 18446744073709551615 (by omega) _ _ (OwnBytes.nil _ _) (by simp) (Nat.le_refl _)).mono ?_
      rintro e w2 ⟨v1, rfl, ho, hk, _⟩
      replace hb := below_next hb (keeps_nil hk rfl)
      obtain ⟨a1, c1, rfl, -, -, -⟩ := ho.isBytes
      clear ho hk
      rw [T1.out]
      go_wp2_with fail
      go_ret
      exact ⟨rfl, hb⟩

set_option maxRecDepth 100000 in
set_option maxHeartbeats 1000000 in
theorem size_1 (u v : Nat) (hu : u < 18446744073709551616) (hv : v < 18446744073709551616) (w : World) :
    Calls Try.prog 7 #[.int .u64 u, .int .u64 v, .int .i64 1] w (TrueEnd w) := by
  have t1 : ([] ++ putU 127).length = 1 := by decide +kernel
  have t2 : ([] ++ putU 128).length = 1 + 1 := by decide +kernel
  have t3 : ([] ++ putS 63).length = 1 := by decide +kernel
  have t4 : ([] ++ putS (-64)).length = 1 := by decide +kernel
  have t5 : ([] ++ putS 64).length = 1 + 1 := by decide +kernel
  have T1 := Lib.hid t1
  have T2 := Lib.hid t2
  have T3 := Lib.hid t3
  have T4 := Lib.hid t4
  have T5 := Lib.hid t5
  clear t1 t2 t3 t4 t5
  rcases Nat.lt_or_ge v u with h | h
  · have hm := putUF_mono 10 v u (by omega)
    change (putU v).length ≤ (putU u).length at hm
    go_enter Try.func7, Try.ntmps7
    go_wp2_with fail
    refine (begun_any _).mono ?_
    rintro e w1 ⟨rfl, hb⟩
    go_wp2_with fail
    refine (putU_any _ [] v (by omega) _ _ (OwnBytes.nil _ _) (by simp) (Nat.le_refl _)).mono ?_
    rintro e w2 ⟨v1, rfl, ho, hk, _⟩
    replace hb := below_next hb (keeps_nil hk rfl)
    obtain ⟨a1, c1, rfl, -, -, -⟩ := ho.isBytes
    clear ho hk
    rw [List.nil_append]
    go_wp2_with fail
    refine (putU_any _ [] u (by omega) _ _ (OwnBytes.nil _ _) (by simp) (Nat.le_refl _)).mono ?_
    rintro e w2 ⟨v1, rfl, ho, hk, _⟩
    replace hb := below_next hb (keeps_nil hk rfl)
    obtain ⟨a1, c1, rfl, -, -, -⟩ := ho.isBytes
    clear ho hk
    rw [List.nil_append]
    go_wp2_with fail
    refine (putU_any _ [] 127 (by omega) _ _ (OwnBytes.nil _ _) (by simp) (Nat.le_refl _)).mono ?_
    rintro e w2 ⟨v1, rfl, ho, hk, _⟩
    replace hb := below_next hb (keeps_nil hk rfl)
    obtain ⟨a1, c1, rfl, -, -, -⟩ := ho.isBytes
    clear ho hk
    rw [T1.out]
    go_wp2_with fail
    refine (putU_any _ [] 128 (by omega) _ _ (OwnBytes.nil _ _) (by simp) (Nat.le_refl _)).mono ?_
    rintro e w2 ⟨v1, rfl, ho, hk, _⟩
    replace hb := below_next hb (keeps_nil hk rfl)
    obtain ⟨a1, c1, rfl, -, -, -⟩ := ho.isBytes
    clear ho hk
    rw [T2.out]
    go_wp2_with fail
    refine (putS_any _ [] 63 (by omega) (by omega) _ _ (OwnBytes.nil _ _) (by simp) (Nat.le_refl _)).mono ?_
    rintro e w2 ⟨v1, rfl, ho, hk, _⟩
    replace hb := below_next hb (keeps_nil hk rfl)
    obtain ⟨a1, c1, rfl, -, -, -⟩ := ho.isBytes
    clear ho hk
    rw [T3.out]
    go_wp2_with fail
    refine (putS_any _ [] (-64) (by omega) (by omega) _ _ (OwnBytes.nil _ _) (by simp) (Nat.le_refl _)).mono ?_
    rintro e w2 ⟨v1, rfl, ho, hk, _⟩
    replace hb := below_next hb (keeps_nil hk rfl)
    obtain ⟨a1, c1, rfl, -, -, -⟩ := ho.isBytes
    clear ho hk
    rw [T4.out]
    go_wp2_with fail
    refine (putS_any _ [] 64 (by omega) (by omega) _ _ (OwnBytes.nil _ _) (by simp) (Nat.le_refl _)).mono ?_
    rintro e w2 ⟨v1, rfl, ho, hk, _⟩
    replace hb := below_next hb (keeps_nil hk rfl)
    obtain ⟨a1, c1, rfl, -, -, -⟩ := ho.isBytes
    clear ho hk
    rw [T5.out]
    go_wp2_with fail
    go_ret
    exact ⟨rfl, hb⟩
  · have hm := putUF_mono 10 u v (by omega)
    change (putU u).length ≤ (putU v).length at hm
    go_enter Try.func7, Try.ntmps7
    go_wp2_with fail
    refine (begun_any _).mono ?_
    rintro e w1 ⟨rfl, hb⟩
    go_wp2_with fail
    refine (putU_any _ [] u (by omega) _ _ (OwnBytes.nil _ _) (by simp) (Nat.le_refl _)).mono ?_
    rintro e w2 ⟨v1, rfl, ho, hk, _⟩
    replace hb := below_next hb (keeps_nil hk rfl)
    obtain ⟨a1, c1, rfl, -, -, -⟩ := ho.isBytes
    clear ho hk
    rw [List.nil_append]
    go_wp2_with fail
    refine (putU_any _ [] v (by omega) _ _ (OwnBytes.nil _ _) (by simp) (Nat.le_refl _)).mono ?_
    rintro e w2 ⟨v1, rfl, ho, hk, _⟩
    replace hb := below_next hb (keeps_nil hk rfl)
    obtain ⟨a1, c1, rfl, -, -, -⟩ := ho.isBytes
    clear ho hk
    rw [List.nil_append]
    go_wp2_with fail
    refine (putU_any _ [] 127 (by omega) _ _ (OwnBytes.nil _ _) (by simp) (Nat.le_refl _)).mono ?_
    rintro e w2 ⟨v1, rfl, ho, hk, _⟩
    replace hb := below_next hb (keeps_nil hk rfl)
    obtain ⟨a1, c1, rfl, -, -, -⟩ := ho.isBytes
    clear ho hk
    rw [T1.out]
    go_wp2_with fail
    refine (putU_any _ [] 128 (by omega) _ _ (OwnBytes.nil _ _) (by simp) (Nat.le_refl _)).mono ?_
    rintro e w2 ⟨v1, rfl, ho, hk, _⟩
    replace hb := below_next hb (keeps_nil hk rfl)
    obtain ⟨a1, c1, rfl, -, -, -⟩ := ho.isBytes
    clear ho hk
    rw [T2.out]
    go_wp2_with fail
    refine (putS_any _ [] 63 (by omega) (by omega) _ _ (OwnBytes.nil _ _) (by simp) (Nat.le_refl _)).mono ?_
    rintro e w2 ⟨v1, rfl, ho, hk, _⟩
    replace hb := below_next hb (keeps_nil hk rfl)
    obtain ⟨a1, c1, rfl, -, -, -⟩ := ho.isBytes
    clear ho hk
    rw [T3.out]
    go_wp2_with fail
    refine (putS_any _ [] (-64) (by omega) (by omega) _ _ (OwnBytes.nil _ _) (by simp) (Nat.le_refl _)).mono ?_
    rintro e w2 ⟨v1, rfl, ho, hk, _⟩
    replace hb := below_next hb (keeps_nil hk rfl)
    obtain ⟨a1, c1, rfl, -, -, -⟩ := ho.isBytes
    clear ho hk
    rw [T4.out]
    go_wp2_with fail
    refine (putS_any _ [] 64 (by omega) (by omega) _ _ (OwnBytes.nil _ _) (by simp) (Nat.le_refl _)).mono ?_
    rintro e w2 ⟨v1, rfl, ho, hk, _⟩
    replace hb := below_next hb (keeps_nil hk rfl)
    obtain ⟨a1, c1, rfl, -, -, -⟩ := ho.isBytes
    clear ho hk
    rw [T5.out]
    go_wp2_with fail
    go_ret
    exact ⟨rfl, hb⟩
set_option maxRecDepth 100000 in
set_option maxHeartbeats 1000000 in
theorem size_2 (u v : Nat) (hu : u < 18446744073709551616) (hv : v < 18446744073709551616) (w : World) :
    Calls Try.prog 7 #[.int .u64 u, .int .u64 v, .int .i64 2] w (TrueEnd w) := by
  have t1 : ([] ++ putU 16383).length = 2 := by decide +kernel
  have t2 : ([] ++ putU 16384).length = 2 + 1 := by decide +kernel
  have t3 : ([] ++ putS 8191).length = 2 := by decide +kernel
  have t4 : ([] ++ putS (-8192)).length = 2 := by decide +kernel
  have t5 : ([] ++ putS 8192).length = 2 + 1 := by decide +kernel
  have T1 := Lib.hid t1
  have T2 := Lib.hid t2
  have T3 := Lib.hid t3
  have T4 := Lib.hid t4
  have T5 := Lib.hid t5
  clear t1 t2 t3 t4 t5
  rcases Nat.lt_or_ge v u with h | h
  · have hm := putUF_mono 10 v u (by omega)
    change (putU v).length ≤ (putU u).length at hm
    go_enter Try.func7, Try.ntmps7
    go_wp2_with fail
    refine (begun_any _).mono ?_
    rintro e w1 ⟨rfl, hb⟩
    go_wp2_with fail
    refine (putU_any _ [] v (by omega) _ _ (OwnBytes.nil _ _) (by simp) (Nat.le_refl _)).mono ?_
    rintro e w2 ⟨v1, rfl, ho, hk, _⟩
    replace hb := below_next hb (keeps_nil hk rfl)
    obtain ⟨a1, c1, rfl, -, -, -⟩ := ho.isBytes
    clear ho hk
    rw [List.nil_append]
    go_wp2_with fail
    refine (putU_any _ [] u (by omega) _ _ (OwnBytes.nil _ _) (by simp) (Nat.le_refl _)).mono ?_
    rintro e w2 ⟨v1, rfl, ho, hk, _⟩
    replace hb := below_next hb (keeps_nil hk rfl)
    obtain ⟨a1, c1, rfl, -, -, -⟩ := ho.isBytes
    clear ho hk
    rw [List.nil_append]
    go_wp2_with fail
    refine (putU_any _ [] 16383 (by omega) _ _ (OwnBytes.nil _ _) (by simp) (Nat.le_refl _)).mono ?_
    rintro e w2 ⟨v1, rfl, ho, hk, _⟩
    replace hb := below_next hb (keeps_nil hk rfl)
    obtain ⟨a1, c1, rfl, -, -, -⟩ := ho.isBytes
    clear ho hk
    rw [T1.out]
    go_wp2_with fail
    refine (putU_any _ [] 16384 (by omega) _ _ (OwnBytes.nil _ _) (by simp) (Nat.le_refl _)).mono ?_
    rintro e w2 ⟨v1, rfl, ho, hk, _⟩
    replace hb := below_next hb (keeps_nil hk rfl)
    obtain ⟨a1, c1, rfl, -, -, -⟩ := ho.isBytes
    clear ho hk
    rw [T2.out]
    go_wp2_with fail
    refine (putS_any _ [] 8191 (by omega) (by omega) _ _ (OwnBytes.nil _ _) (by simp) (Nat.le_refl _)).mono ?_
    rintro e w2 ⟨v1, rfl, ho, hk, _⟩
    replace hb := below_next hb (keeps_nil hk rfl)
    obtain ⟨a1, c1, rfl, -, -, -⟩ := ho.isBytes
    clear ho hk
    rw [T3.out]
    go_wp2_with fail
    refine (putS_any _ [] (-8192) (by omega) (by omega) _ _ (OwnBytes.nil _ _) (by simp) (Nat.le_refl _)).mono ?_
    rintro e w2 ⟨v1, rfl, ho, hk, _⟩
    replace hb := below_next hb (keeps_nil hk rfl)
    obtain ⟨a1, c1, rfl, -, -, -⟩ := ho.isBytes
    clear ho hk
    rw [T4.out]
    go_wp2_with fail
    refine (putS_any _ [] 8192 (by omega) (by omega) _ _ (OwnBytes.nil _ _) (by simp) (Nat.le_refl _)).mono ?_
    rintro e w2 ⟨v1, rfl, ho, hk, _⟩
    replace hb := below_next hb (keeps_nil hk rfl)
    obtain ⟨a1, c1, rfl, -, -, -⟩ := ho.isBytes
    clear ho hk
    rw [T5.out]
    go_wp2_with fail
    go_ret
    exact ⟨rfl, hb⟩
  · have hm := putUF_mono 10 u v (by omega)
    change (putU u).length ≤ (putU v).length at hm
    go_enter Try.func7, Try.ntmps7
    go_wp2_with fail
    refine (begun_any _).mono ?_
    rintro e w1 ⟨rfl, hb⟩
    go_wp2_with fail
    refine (putU_any _ [] u (by omega) _ _ (OwnBytes.nil _ _) (by simp) (Nat.le_refl _)).mono ?_
    rintro e w2 ⟨v1, rfl, ho, hk, _⟩
    replace hb := below_next hb (keeps_nil hk rfl)
    obtain ⟨a1, c1, rfl, -, -, -⟩ := ho.isBytes
    clear ho hk
    rw [List.nil_append]
    go_wp2_with fail
    refine (putU_any _ [] v (by omega) _ _ (OwnBytes.nil _ _) (by simp) (Nat.le_refl _)).mono ?_
    rintro e w2 ⟨v1, rfl, ho, hk, _⟩
    replace hb := below_next hb (keeps_nil hk rfl)
    obtain ⟨a1, c1, rfl, -, -, -⟩ := ho.isBytes
    clear ho hk
    rw [List.nil_append]
    go_wp2_with fail
    refine (putU_any _ [] 16383 (by omega) _ _ (OwnBytes.nil _ _) (by simp) (Nat.le_refl _)).mono ?_
    rintro e w2 ⟨v1, rfl, ho, hk, _⟩
    replace hb := below_next hb (keeps_nil hk rfl)
    obtain ⟨a1, c1, rfl, -, -, -⟩ := ho.isBytes
    clear ho hk
    rw [T1.out]
    go_wp2_with fail
    refine (putU_any _ [] 16384 (by omega) _ _ (OwnBytes.nil _ _) (by simp) (Nat.le_refl _)).mono ?_
    rintro e w2 ⟨v1, rfl, ho, hk, _⟩
    replace hb := below_next hb (keeps_nil hk rfl)
    obtain ⟨a1, c1, rfl, -, -, -⟩ := ho.isBytes
    clear ho hk
    rw [T2.out]
    go_wp2_with fail
    refine (putS_any _ [] 8191 (by omega) (by omega) _ _ (OwnBytes.nil _ _) (by simp) (Nat.le_refl _)).mono ?_
    rintro e w2 ⟨v1, rfl, ho, hk, _⟩
    replace hb := below_next hb (keeps_nil hk rfl)
    obtain ⟨a1, c1, rfl, -, -, -⟩ := ho.isBytes
    clear ho hk
    rw [T3.out]
    go_wp2_with fail
    refine (putS_any _ [] (-8192) (by omega) (by omega) _ _ (OwnBytes.nil _ _) (by simp) (Nat.le_refl _)).mono ?_
    rintro e w2 ⟨v1, rfl, ho, hk, _⟩
    replace hb := below_next hb (keeps_nil hk rfl)
    obtain ⟨a1, c1, rfl, -, -, -⟩ := ho.isBytes
    clear ho hk
    rw [T4.out]
    go_wp2_with fail
    refine (putS_any _ [] 8192 (by omega) (by omega) _ _ (OwnBytes.nil _ _) (by simp) (Nat.le_refl _)).mono ?_
    rintro e w2 ⟨v1, rfl, ho, hk, _⟩
    replace hb := below_next hb (keeps_nil hk rfl)
    obtain ⟨a1, c1, rfl, -, -, -⟩ := ho.isBytes
    clear ho hk
    rw [T5.out]
    go_wp2_with fail
    go_ret
    exact ⟨rfl, hb⟩
set_option maxRecDepth 100000 in
set_option maxHeartbeats 1000000 in
theorem size_3 (u v : Nat) (hu : u < 18446744073709551616) (hv : v < 18446744073709551616) (w : World) :
    Calls Try.prog 7 #[.int .u64 u, .int .u64 v, .int .i64 3] w (TrueEnd w) := by
  have t1 : ([] ++ putU 2097151).length = 3 := by decide +kernel
  have t2 : ([] ++ putU 2097152).length = 3 + 1 := by decide +kernel
  have t3 : ([] ++ putS 1048575).length = 3 := by decide +kernel
  have t4 : ([] ++ putS (-1048576)).length = 3 := by decide +kernel
  have t5 : ([] ++ putS 1048576).length = 3 + 1 := by decide +kernel
  have T1 := Lib.hid t1
  have T2 := Lib.hid t2
  have T3 := Lib.hid t3
  have T4 := Lib.hid t4
  have T5 := Lib.hid t5
  clear t1 t2 t3 t4 t5
  rcases Nat.lt_or_ge v u with h | h
  · have hm := putUF_mono 10 v u (by omega)
    change (putU v).length ≤ (putU u).length at hm
    go_enter Try.func7, Try.ntmps7
    go_wp2_with fail
    refine (begun_any _).mono ?_
    rintro e w1 ⟨rfl, hb⟩
    go_wp2_with fail
    refine (putU_any _ [] v (by omega) _ _ (OwnBytes.nil _ _) (by simp) (Nat.le_refl _)).mono ?_
    rintro e w2 ⟨v1, rfl, ho, hk, _⟩
    replace hb := below_next hb (keeps_nil hk rfl)
    obtain ⟨a1, c1, rfl, -, -, -⟩ := ho.isBytes
    clear ho hk
    rw [List.nil_append]
    go_wp2_with fail
    refine (putU_any _ [] u (by omega) _ _ (OwnBytes.nil _ _) (by simp) (Nat.le_refl _)).mono ?_
    rintro e w2 ⟨v1, rfl, ho, hk, _⟩
    replace hb := below_next hb (keeps_nil hk rfl)
    obtain ⟨a1, c1, rfl, -, -, -⟩ := ho.isBytes
    clear ho hk
    rw [List.nil_append]
    go_wp2_with fail
    refine (putU_any _ [] 2097151 (by omega) _ _ (OwnBytes.nil _ _) (by simp) (Nat.le_refl _)).mono ?_
    rintro e w2 ⟨v1, rfl, ho, hk, _⟩
    replace hb := below_next hb (keeps_nil hk rfl)
    obtain ⟨a1, c1, rfl, -, -, -⟩ := ho.isBytes
    clear ho hk
    rw [T1.out]
    go_wp2_with fail
    refine (putU_any _ [] 2097152 (by omega) _ _ (OwnBytes.nil _ _) (by simp) (Nat.le_refl _)).mono ?_
    rintro e w2 ⟨v1, rfl, ho, hk, _⟩
    replace hb := below_next hb (keeps_nil hk rfl)
    obtain ⟨a1, c1, rfl, -, -, -⟩ := ho.isBytes
    clear ho hk
    rw [T2.out]
    go_wp2_with fail
    refine (putS_any _ [] 1048575 (by omega) (by omega) _ _ (OwnBytes.nil _ _) (by simp) (Nat.le_refl _)).mono ?_
    rintro e w2 ⟨v1, rfl, ho, hk, _⟩
    replace hb := below_next hb (keeps_nil hk rfl)
    obtain ⟨a1, c1, rfl, -, -, -⟩ := ho.isBytes
    clear ho hk
    rw [T3.out]
    go_wp2_with fail
    refine (putS_any _ [] (-1048576) (by omega) (by omega) _ _ (OwnBytes.nil _ _) (by simp) (Nat.le_refl _)).mono ?_
    rintro e w2 ⟨v1, rfl, ho, hk, _⟩
    replace hb := below_next hb (keeps_nil hk rfl)
    obtain ⟨a1, c1, rfl, -, -, -⟩ := ho.isBytes
    clear ho hk
    rw [T4.out]
    go_wp2_with fail
    refine (putS_any _ [] 1048576 (by omega) (by omega) _ _ (OwnBytes.nil _ _) (by simp) (Nat.le_refl _)).mono ?_
    rintro e w2 ⟨v1, rfl, ho, hk, _⟩
    replace hb := below_next hb (keeps_nil hk rfl)
    obtain ⟨a1, c1, rfl, -, -, -⟩ := ho.isBytes
    clear ho hk
    rw [T5.out]
    go_wp2_with fail
    go_ret
    exact ⟨rfl, hb⟩
  · have hm := putUF_mono 10 u v (by omega)
    change (putU u).length ≤ (putU v).length at hm
    go_enter Try.func7, Try.ntmps7
    go_wp2_with fail
    refine (begun_any _).mono ?_
    rintro e w1 ⟨rfl, hb⟩
    go_wp2_with fail
    refine (putU_any _ [] u (by omega) _ _ (OwnBytes.nil _ _) (by simp) (Nat.le_refl _)).mono ?_
    rintro e w2 ⟨v1, rfl, ho, hk, _⟩
    replace hb := below_next hb (keeps_nil hk rfl)
    obtain ⟨a1, c1, rfl, -, -, -⟩ := ho.isBytes
    clear ho hk
    rw [List.nil_append]
    go_wp2_with fail
    refine (putU_any _ [] v (by omega) _ _ (OwnBytes.nil _ _) (by simp) (Nat.le_refl _)).mono ?_
    rintro e w2 ⟨v1, rfl, ho, hk, _⟩
    replace hb := below_next hb (keeps_nil hk rfl)
    obtain ⟨a1, c1, rfl, -, -, -⟩ := ho.isBytes
    clear ho hk
    rw [List.nil_append]
    go_wp2_with fail
    refine (putU_any _ [] 2097151 (by omega) _ _ (OwnBytes.nil _ _) (by simp) (Nat.le_refl _)).mono ?_
    rintro e w2 ⟨v1, rfl, ho, hk, _⟩
    replace hb := below_next hb (keeps_nil hk rfl)
    obtain ⟨a1, c1, rfl, -, -, -⟩ := ho.isBytes
    clear ho hk
    rw [T1.out]
    go_wp2_with fail
    refine (putU_any _ [] 2097152 (by omega) _ _ (OwnBytes.nil _ _) (by simp) (Nat.le_refl _)).mono ?_
    rintro e w2 ⟨v1, rfl, ho, hk, _⟩
    replace hb := below_next hb (keeps_nil hk rfl)
    obtain ⟨a1, c1, rfl, -, -, -⟩ := ho.isBytes
    clear ho hk
    rw [T2.out]
    go_wp2_with fail
    refine (putS_any _ [] 1048575 (by omega) (by omega) _ _ (OwnBytes.nil _ _) (by simp) (Nat.le_refl _)).mono ?_
    rintro e w2 ⟨v1, rfl, ho, hk, _⟩
    replace hb := below_next hb (keeps_nil hk rfl)
    obtain ⟨a1, c1, rfl, -, -, -⟩ := ho.isBytes
    clear ho hk
    rw [T3.out]
    go_wp2_with fail
    refine (putS_any _ [] (-1048576) (by omega) (by omega) _ _ (OwnBytes.nil _ _) (by simp) (Nat.le_refl _)).mono ?_
    rintro e w2 ⟨v1, rfl, ho, hk, _⟩
    replace hb := below_next hb (keeps_nil hk rfl)
    obtain ⟨a1, c1, rfl, -, -, -⟩ := ho.isBytes
    clear ho hk
    rw [T4.out]
    go_wp2_with fail
    refine (putS_any _ [] 1048576 (by omega) (by omega) _ _ (OwnBytes.nil _ _) (by simp) (Nat.le_refl _)).mono ?_
    rintro e w2 ⟨v1, rfl, ho, hk, _⟩
    replace hb := below_next hb (keeps_nil hk rfl)
    obtain ⟨a1, c1, rfl, -, -, -⟩ := ho.isBytes
    clear ho hk
    rw [T5.out]
    go_wp2_with fail
    go_ret
    exact ⟨rfl, hb⟩
set_option maxRecDepth 100000 in
set_option maxHeartbeats 1000000 in
theorem size_4 (u v : Nat) (hu : u < 18446744073709551616) (hv : v < 18446744073709551616) (w : World) :
    Calls Try.prog 7 #[.int .u64 u, .int .u64 v, .int .i64 4] w (TrueEnd w) := by
  have t1 : ([] ++ putU 268435455).length = 4 := by decide +kernel
  have t2 : ([] ++ putU 268435456).length = 4 + 1 := by decide +kernel
  have t3 : ([] ++ putS 134217727).length = 4 := by decide +kernel
  have t4 : ([] ++ putS (-134217728)).length = 4 := by decide +kernel
  have t5 : ([] ++ putS 134217728).length = 4 + 1 := by decide +kernel
  have T1 := Lib.hid t1
  have T2 := Lib.hid t2
  have T3 := Lib.hid t3
  have T4 := Lib.hid t4
  have T5 := Lib.hid t5
  clear t1 t2 t3 t4 t5
  rcases Nat.lt_or_ge v u with h | h
  · have hm := putUF_mono 10 v u (by omega)
    change (putU v).length ≤ (putU u).length at hm
    go_enter Try.func7, Try.ntmps7
    go_wp2_with fail
    refine (begun_any _).mono ?_
    rintro e w1 ⟨rfl, hb⟩
    go_wp2_with fail
    refine (putU_any _ [] v (by omega) _ _ (OwnBytes.nil _ _) (by simp) (Nat.le_refl _)).mono ?_
    rintro e w2 ⟨v1, rfl, ho, hk, _⟩
    replace hb := below_next hb (keeps_nil hk rfl)
    obtain ⟨a1, c1, rfl, -, -, -⟩ := ho.isBytes
    clear ho hk
    rw [List.nil_append]
    go_wp2_with fail
    refine (putU_any _ [] u (by omega) _ _ (OwnBytes.nil _ _) (by simp) (Nat.le_refl _)).mono ?_
    rintro e w2 ⟨v1, rfl, ho, hk, _⟩
    replace hb := below_next hb (keeps_nil hk rfl)
    obtain ⟨a1, c1, rfl, -, -, -⟩ := ho.isBytes
    clear ho hk
    rw [List.nil_append]
    go_wp2_with fail
    refine (putU_any _ [] 268435455 (by omega) _ _ (OwnBytes.nil _ _) (by simp) (Nat.le_refl _)).mono ?_
    rintro e w2 ⟨v1, rfl, ho, hk, _⟩
    replace hb := below_next hb (keeps_nil hk rfl)
    obtain ⟨a1, c1, rfl, -, -, -⟩ := ho.isBytes
    clear ho hk
    rw [T1.out]
    go_wp2_with fail
    refine (putU_any _ [] 268435456 (by omega) _ _ (OwnBytes.nil _ _) (by simp) (Nat.le_refl _)).mono ?_
    rintro e w2 ⟨v1, rfl, ho, hk, _⟩
    replace hb := below_next hb (keeps_nil hk rfl)
    obtain ⟨a1, c1, rfl, -, -, -⟩ := ho.isBytes
    clear ho hk
    rw [T2.out]
    go_wp2_with fail
    refine (putS_any _ [] 134217727 (by omega) (by omega) _ _ (OwnBytes.nil _ _) (by simp) (Nat.le_refl _)).mono ?_
    rintro e w2 ⟨v1, rfl, ho, hk, _⟩
    replace hb := below_next hb (keeps_nil hk rfl)
    obtain ⟨a1, c1, rfl, -, -, -⟩ := ho.isBytes
    clear ho hk
    rw [T3.out]
    go_wp2_with fail
    refine (putS_any _ [] (-134217728) (by omega) (by omega) _ _ (OwnBytes.nil _ _) (by simp) (Nat.le_refl _)).mono ?_
    rintro e w2 ⟨v1, rfl, ho, hk, _⟩
    replace hb := below_next hb (keeps_nil hk rfl)
    obtain ⟨a1, c1, rfl, -, -, -⟩ := ho.isBytes
    clear ho hk
    rw [T4.out]
    go_wp2_with fail
    refine (putS_any _ [] 134217728 (by omega) (by omega) _ _ (OwnBytes.nil _ _) (by simp) (Nat.le_refl _)).mono ?_
    rintro e w2 ⟨v1, rfl, ho, hk, _⟩
    replace hb := below_next hb (keeps_nil hk rfl)
    obtain ⟨a1, c1, rfl, -, -, -⟩ := ho.isBytes
    clear ho hk
    rw [T5.out]
    go_wp2_with fail
    go_ret
    exact ⟨rfl, hb⟩
  · have hm := putUF_mono 10 u v (by omega)
    change (putU u).length ≤ (putU v).length at hm
    go_enter Try.func7, Try.ntmps7
    go_wp2_with fail
    refine (begun_any _).mono ?_
    rintro e w1 ⟨rfl, hb⟩
    go_wp2_with fail
    refine (putU_any _ [] u (by omega) _ _ (OwnBytes.nil _ _) (by simp) (Nat.le_refl _)).mono ?_
    rintro e w2 ⟨v1, rfl, ho, hk, _⟩
    replace hb := below_next hb (keeps_nil hk rfl)
    obtain ⟨a1, c1, rfl, -, -, -⟩ := ho.isBytes
    clear ho hk
    rw [List.nil_append]
    go_wp2_with fail
    refine (putU_any _ [] v (by omega) _ _ (OwnBytes.nil _ _) (by simp) (Nat.le_refl _)).mono ?_
    rintro e w2 ⟨v1, rfl, ho, hk, _⟩
    replace hb := below_next hb (keeps_nil hk rfl)
    obtain ⟨a1, c1, rfl, -, -, -⟩ := ho.isBytes
    clear ho hk
    rw [List.nil_append]
    go_wp2_with fail
    refine (putU_any _ [] 268435455 (by omega) _ _ (OwnBytes.nil _ _) (by simp) (Nat.le_refl _)).mono ?_
    rintro e w2 ⟨v1, rfl, ho, hk, _⟩
    replace hb := below_next hb (keeps_nil hk rfl)
    obtain ⟨a1, c1, rfl, -, -, -⟩ := ho.isBytes
    clear ho hk
    rw [T1.out]
    go_wp2_with fail
    refine (putU_any _ [] 268435456 (by omega) _ _ (OwnBytes.nil _ _) (by simp) (Nat.le_refl _)).mono ?_
    rintro e w2 ⟨v1, rfl, ho, hk, _⟩
    replace hb := below_next hb (keeps_nil hk rfl)
    obtain ⟨a1, c1, rfl, -, -, -⟩ := ho.isBytes
    clear ho hk
    rw [T2.out]
    go_wp2_with fail
    refine (putS_any _ [] 134217727 (by omega) (by omega) _ _ (OwnBytes.nil _ _) (by simp) (Nat.le_refl _)).mono ?_
    rintro e w2 ⟨v1, rfl, ho, hk, _⟩
    replace hb := below_next hb (keeps_nil hk rfl)
    obtain ⟨a1, c1, rfl, -, -, -⟩ := ho.isBytes
    clear ho hk
    rw [T3.out]
    go_wp2_with fail
    refine (putS_any _ [] (-134217728) (by omega) (by omega) _ _ (OwnBytes.nil _ _) (by simp) (Nat.le_refl _)).mono ?_
    rintro e w2 ⟨v1, rfl, ho, hk, _⟩
    replace hb := below_next hb (keeps_nil hk rfl)
    obtain ⟨a1, c1, rfl, -, -, -⟩ := ho.isBytes
    clear ho hk
    rw [T4.out]
    go_wp2_with fail
    refine (putS_any _ [] 134217728 (by omega) (by omega) _ _ (OwnBytes.nil _ _) (by simp) (Nat.le_refl _)).mono ?_
    rintro e w2 ⟨v1, rfl, ho, hk, _⟩
    replace hb := below_next hb (keeps_nil hk rfl)
    obtain ⟨a1, c1, rfl, -, -, -⟩ := ho.isBytes
    clear ho hk
    rw [T5.out]
    go_wp2_with fail
    go_ret
    exact ⟨rfl, hb⟩
set_option maxRecDepth 100000 in
set_option maxHeartbeats 1000000 in
theorem size_5 (u v : Nat) (hu : u < 18446744073709551616) (hv : v < 18446744073709551616) (w : World) :
    Calls Try.prog 7 #[.int .u64 u, .int .u64 v, .int .i64 5] w (TrueEnd w) := by
  have t1 : ([] ++ putU 34359738367).length = 5 := by decide +kernel
  have t2 : ([] ++ putU 34359738368).length = 5 + 1 := by decide +kernel
  have t3 : ([] ++ putS 17179869183).length = 5 := by decide +kernel
  have t4 : ([] ++ putS (-17179869184)).length = 5 := by decide +kernel
  have t5 : ([] ++ putS 17179869184).length = 5 + 1 := by decide +kernel
  have T1 := Lib.hid t1
  have T2 := Lib.hid t2
  have T3 := Lib.hid t3
  have T4 := Lib.hid t4
  have T5 := Lib.hid t5
  clear t1 t2 t3 t4 t5
  rcases Nat.lt_or_ge v u with h | h
  · have hm := putUF_mono 10 v u (by omega)
    change (putU v).length ≤ (putU u).length at hm
    go_enter Try.func7, Try.ntmps7
    go_wp2_with fail
    refine (begun_any _).mono ?_
    rintro e w1 ⟨rfl, hb⟩
    go_wp2_with fail
    refine (putU_any _ [] v (by omega) _ _ (OwnBytes.nil _ _) (by simp) (Nat.le_refl _)).mono ?_
    rintro e w2 ⟨v1, rfl, ho, hk, _⟩
    replace hb := below_next hb (keeps_nil hk rfl)
    obtain ⟨a1, c1, rfl, -, -, -⟩ := ho.isBytes
    clear ho hk
    rw [List.nil_append]
    go_wp2_with fail
    refine (putU_any _ [] u (by omega) _ _ (OwnBytes.nil _ _) (by simp) (Nat.le_refl _)).mono ?_
    rintro e w2 ⟨v1, rfl, ho, hk, _⟩
    replace hb := below_next hb (keeps_nil hk rfl)
    obtain ⟨a1, c1, rfl, -, -, -⟩ := ho.isBytes
    clear ho hk
    rw [List.nil_append]
    go_wp2_with fail
    refine (putU_any _ [] 34359738367 (by omega) _ _ (OwnBytes.nil _ _) (by simp) (Nat.le_refl _)).mono ?_
    rintro e w2 ⟨v1, rfl, ho, hk, _⟩
    replace hb := below_next hb (keeps_nil hk rfl)
    obtain ⟨a1, c1, rfl, -, -, -⟩ := ho.isBytes
    clear ho hk
    rw [T1.out]
    go_wp2_with fail
    refine (putU_any _ [] 34359738368 (by omega) _ _ (OwnBytes.nil _ _) (by simp) (Nat.le_refl _)).mono ?_
    rintro e w2 ⟨v1, rfl, ho, hk, _⟩
    replace hb := below_next hb (keeps_nil hk rfl)
    obtain ⟨a1, c1, rfl, -, -, -⟩ := ho.isBytes
    clear ho hk
    rw [T2.out]
    go_wp2_with fail
    refine (putS_any _ [] 17179869183 (by omega) (by omega) _ _ (OwnBytes.nil _ _) (by simp) (Nat.le_refl _)).mono ?_
    rintro e w2 ⟨v1, rfl, ho, hk, _⟩
    replace hb := below_next hb (keeps_nil hk rfl)
    obtain ⟨a1, c1, rfl, -, -, -⟩ := ho.isBytes
    clear ho hk
    rw [T3.out]
    go_wp2_with fail
    refine (putS_any _ [] (-17179869184) (by omega) (by omega) _ _ (OwnBytes.nil _ _) (by simp) (Nat.le_refl _)).mono ?_
    rintro e w2 ⟨v1, rfl, ho, hk, _⟩
    replace hb := below_next hb (keeps_nil hk rfl)
    obtain ⟨a1, c1, rfl, -, -, -⟩ := ho.isBytes
    clear ho hk
    rw [T4.out]
    go_wp2_with fail
    refine (putS_any _ [] 17179869184 (by omega) (by omega) _ _ (OwnBytes.nil _ _) (by simp) (Nat.le_refl _)).mono ?_
    rintro e w2 ⟨v1, rfl, ho, hk, _⟩
    replace hb := below_next hb (keeps_nil hk rfl)
    obtain ⟨a1, c1, rfl, -, -, -⟩ := ho.isBytes
    clear ho hk
    rw [T5.out]
    go_wp2_with fail
    go_ret
    exact ⟨rfl, hb⟩
  · have hm := putUF_mono 10 u v (by omega)
    change (putU u).length ≤ (putU v).length at hm
    go_enter Try.func7, Try.ntmps7
    go_wp2_with fail
    refine (begun_any _).mono ?_
    rintro e w1 ⟨rfl, hb⟩
    go_wp2_with fail
    refine (putU_any _ [] u (by omega) _ _ (OwnBytes.nil _ _) (by simp) (Nat.le_refl _)).mono ?_
    rintro e w2 ⟨v1, rfl, ho, hk, _⟩
    replace hb := below_next hb (keeps_nil hk rfl)
    obtain ⟨a1, c1, rfl, -, -, -⟩ := ho.isBytes
    clear ho hk
    rw [List.nil_append]
    go_wp2_with fail
    refine (putU_any _ [] v (by omega) _ _ (OwnBytes.nil _ _) (by simp) (Nat.le_refl _)).mono ?_
    rintro e w2 ⟨v1, rfl, ho, hk, _⟩
    replace hb := below_next hb (keeps_nil hk rfl)
    obtain ⟨a1, c1, rfl, -, -, -⟩ := ho.isBytes
    clear ho hk
    rw [List.nil_append]
    go_wp2_with fail
    refine (putU_any _ [] 34359738367 (by omega) _ _ (OwnBytes.nil _ _) (by simp) (Nat.le_refl _)).mono ?_
    rintro e w2 ⟨v1, rfl, ho, hk, _⟩
    replace hb := below_next hb (keeps_nil hk rfl)
    obtain ⟨a1, c1, rfl, -, -, -⟩ := ho.isBytes
    clear ho hk
    rw [T1.out]
    go_wp2_with fail
    refine (putU_any _ [] 34359738368 (by omega) _ _ (OwnBytes.nil _ _) (by simp) (Nat.le_refl _)).mono ?_
    rintro e w2 ⟨v1, rfl, ho, hk, _⟩
    replace hb := below_next hb (keeps_nil hk rfl)
    obtain ⟨a1, c1, rfl, -, -, -⟩ := ho.isBytes
    clear ho hk
    rw [T2.out]
    go_wp2_with fail
    refine (putS_any _ [] 17179869183 (by omega) (by omega) _ _ (OwnBytes.nil _ _) (by simp) (Nat.le_refl _)).mono ?_
    rintro e w2 ⟨v1, rfl, ho, hk, _⟩
    replace hb := below_next hb (keeps_nil hk rfl)
    obtain ⟨a1, c1, rfl, -, -, -⟩ := ho.isBytes
    clear ho hk
    rw [T3.out]
    go_wp2_with fail
    refine (putS_any _ [] (-17179869184) (by omega) (by omega) _ _ (OwnBytes.nil _ _) (by simp) (Nat.le_refl _)).mono ?_
    rintro e w2 ⟨v1, rfl, ho, hk, _⟩
    replace hb := below_next hb (keeps_nil hk rfl)
    obtain ⟨a1, c1, rfl, -, -, -⟩ := ho.isBytes
    clear ho hk
    rw [T4.out]
    go_wp2_with fail
    refine (putS_any _ [] 17179869184 (by omega) (by omega) _ _ (OwnBytes.nil _ _) (by simp) (Nat.le_refl _)).mono ?_
    rintro e w2 ⟨v1, rfl, ho, hk, _⟩
    replace hb := below_next hb (keeps_nil hk rfl)
    obtain ⟨a1, c1, rfl, -, -, -⟩ := ho.isBytes
    clear ho hk
    rw [T5.out]
    go_wp2_with fail
    go_ret
    exact ⟨rfl, hb⟩
set_option maxRecDepth 100000 in
set_option maxHeartbeats 1000000 in
theorem size_6 (u v : Nat) (hu : u < 18446744073709551616) (hv : v < 18446744073709551616) (w : World) :
    Calls Try.prog 7 #[.int .u64 u, .int .u64 v, .int .i64 6] w (TrueEnd w) := by
  have t1 : ([] ++ putU 4398046511103).length = 6 := by decide +kernel
  have t2 : ([] ++ putU 4398046511104).length = 6 + 1 := by decide +kernel
  have t3 : ([] ++ putS 2199023255551).length = 6 := by decide +kernel
  have t4 : ([] ++ putS (-2199023255552)).length = 6 := by decide +kernel
  have t5 : ([] ++ putS 2199023255552).length = 6 + 1 := by decide +kernel
  have T1 := Lib.hid t1
  have T2 := Lib.hid t2
  have T3 := Lib.hid t3
  have T4 := Lib.hid t4
  have T5 := Lib.hid t5
  clear t1 t2 t3 t4 t5
  rcases Nat.lt_or_ge v u with h | h
  · have hm := putUF_mono 10 v u (by omega)
    change (putU v).length ≤ (putU u).length at hm
    go_enter Try.func7, Try.ntmps7
    go_wp2_with fail
    refine (begun_any _).mono ?_
    rintro e w1 ⟨rfl, hb⟩
    go_wp2_with fail
    refine (putU_any _ [] v (by omega) _ _ (OwnBytes.nil _ _) (by simp) (Nat.le_refl _)).mono ?_
    rintro e w2 ⟨v1, rfl, ho, hk, _⟩
    replace hb := below_next hb (keeps_nil hk rfl)
    obtain ⟨a1, c1, rfl, -, -, -⟩ := ho.isBytes
    clear ho hk
    rw [List.nil_append]
    go_wp2_with fail
    refine (putU_any _ [] u (by omega) _ _ (OwnBytes.nil _ _) (by simp) (Nat.le_refl _)).mono ?_
    rintro e w2 ⟨v1, rfl, ho, hk, _⟩
    replace hb := below_next hb (keeps_nil hk rfl)
    obtain ⟨a1, c1, rfl, -, -, -⟩ := ho.isBytes
    clear ho hk
    rw [List.nil_append]
    go_wp2_with fail
    refine (putU_any _ [] 4398046511103 (by omega) _ _ (OwnBytes.nil _ _) (by simp) (Nat.le_refl _)).mono ?_
    rintro e w2 ⟨v1, rfl, ho, hk, _⟩
    replace hb := below_next hb (keeps_nil hk rfl)
    obtain ⟨a1, c1, rfl, -, -, -⟩ := ho.isBytes
    clear ho hk
    rw [T1.out]
    go_wp2_with fail
    refine (putU_any _ [] 4398046511104 (by omega) _ _ (OwnBytes.nil _ _) (by simp) (Nat.le_refl _)).mono ?_
    rintro e w2 ⟨v1, rfl, ho, hk, _⟩
    replace hb := below_next hb (keeps_nil hk rfl)
    obtain ⟨a1, c1, rfl, -, -, -⟩ := ho.isBytes
    clear ho hk
    rw [T2.out]
    go_wp2_with fail
    refine (putS_any _ [] 2199023255551 (by omega) (by omega) _ _ (OwnBytes.nil _ _) (by simp) (Nat.le_refl _)).mono ?_
    rintro e w2 ⟨v1, rfl, ho, hk, _⟩
    replace hb := below_next hb (keeps_nil hk rfl)
    obtain ⟨a1, c1, rfl, -, -, -⟩ := ho.isBytes
    clear ho hk
    rw [T3.out]
    go_wp2_with fail
    refine (putS_any _ [] (-2199023255552) (by omega) (by omega) _ _ (OwnBytes.nil _ _) (by simp) (Nat.le_refl _)).mono ?_
    rintro e w2 ⟨v1, rfl, ho, hk, _⟩
    replace hb := below_next hb (keeps_nil hk rfl)
    obtain ⟨a1, c1, rfl, -, -, -⟩ := ho.isBytes
    clear ho hk
    rw [T4.out]
    go_wp2_with fail
    refine (putS_any _ [] 2199023255552 (by omega) (by omega) _ _ (OwnBytes.nil _ _) (by simp) (Nat.le_refl _)).mono ?_
    rintro e w2 ⟨v1, rfl, ho, hk, _⟩
    replace hb := below_next hb (keeps_nil hk rfl)
    obtain ⟨a1, c1, rfl, -, -, -⟩ := ho.isBytes
    clear ho hk
    rw [T5.out]
    go_wp2_with fail
    go_ret
    exact ⟨rfl, hb⟩
  · have hm := putUF_mono 10 u v (by omega)
    change (putU u).length ≤ (putU v).length at hm
    go_enter Try.func7, Try.ntmps7
    go_wp2_with fail
    refine (begun_any _).mono ?_
    rintro e w1 ⟨rfl, hb⟩
    go_wp2_with fail
    refine (putU_any _ [] u (by omega) _ _ (OwnBytes.nil _ _) (by simp) (Nat.le_refl _)).mono ?_
    rintro e w2 ⟨v1, rfl, ho, hk, _⟩
    replace hb := below_next hb (keeps_nil hk rfl)
    obtain ⟨a1, c1, rfl, -, -, -⟩ := ho.isBytes
    clear ho hk
    rw [List.nil_append]
    go_wp2_with fail
    refine (putU_any _ [] v (by omega) _ _ (OwnBytes.nil _ _) (by simp) (Nat.le_refl _)).mono ?_
    rintro e w2 ⟨v1, rfl, ho, hk, _⟩
    replace hb := below_next hb (keeps_nil hk rfl)
    obtain ⟨a1, c1, rfl, -, -, -⟩ := ho.isBytes
    clear ho hk
    rw [List.nil_append]
    go_wp2_with fail
    refine (putU_any _ [] 4398046511103 (by omega) _ _ (OwnBytes.nil _ _) (by simp) (Nat.le_refl _)).mono ?_
    rintro e w2 ⟨v1, rfl, ho, hk, _⟩
    replace hb := below_next hb (keeps_nil hk rfl)
    obtain ⟨a1, c1, rfl, -, -, -⟩ := ho.isBytes
    clear ho hk
    rw [T1.out]
    go_wp2_with fail
    refine (putU_any _ [] 4398046511104 (by omega) _ _ (OwnBytes.nil _ _) (by simp) (Nat.le_refl _)).mono ?_
    rintro e w2 ⟨v1, rfl, ho, hk, _⟩
    replace hb := below_next hb (keeps_nil hk rfl)
    obtain ⟨a1, c1, rfl, -, -, -⟩ := ho.isBytes
    clear ho hk
    rw [T2.out]
    go_wp2_with fail
    refine (putS_any _ [] 2199023255551 (by omega) (by omega) _ _ (OwnBytes.nil _ _) (by simp) (Nat.le_refl _)).mono ?_
    rintro e w2 ⟨v1, rfl, ho, hk, _⟩
    replace hb := below_next hb (keeps_nil hk rfl)
    obtain ⟨a1, c1, rfl, -, -, -⟩ := ho.isBytes
    clear ho hk
    rw [T3.out]
    go_wp2_with fail
    refine (putS_any _ [] (-2199023255552) (by omega) (by omega) _ _ (OwnBytes.nil _ _) (by simp) (Nat.le_refl _)).mono ?_
    rintro e w2 ⟨v1, rfl, ho, hk, _⟩
    replace hb := below_next hb (keeps_nil hk rfl)
    obtain ⟨a1, c1, rfl, -, -, -⟩ := ho.isBytes
    clear ho hk
    rw [T4.out]
    go_wp2_with fail
    refine (putS_any _ [] 2199023255552 (by omega) (by omega) _ _ (OwnBytes.nil _ _) (by simp) (Nat.le_refl _)).mono ?_
    rintro e w2 ⟨v1, rfl, ho, hk, _⟩
    replace hb := below_next hb (keeps_nil hk rfl)
    obtain ⟨a1, c1, rfl, -, -, -⟩ := ho.isBytes
    clear ho hk
    rw [T5.out]
    go_wp2_with fail
    go_ret
    exact ⟨rfl, hb⟩
set_option maxRecDepth 100000 in
set_option maxHeartbeats 1000000 in
theorem size_7 (u v : Nat) (hu : u < 18446744073709551616) (hv : v < 18446744073709551616) (w : World) :
    Calls Try.prog 7 #[.int .u64 u, .int .u64 v, .int .i64 7] w (TrueEnd w) := by
  have t1 : ([] ++ putU 562949953421311).length = 7 := by decide +kernel
  have t2 : ([] ++ putU 562949953421312).length = 7 + 1 := by decide +kernel
  have t3 : ([] ++ putS 281474976710655).length = 7 := by decide +kernel
  have t4 : ([] ++ putS (-281474976710656)).length = 7 := by decide +kernel
  have t5 : ([] ++ putS 281474976710656).length = 7 + 1 := by decide +kernel
  have T1 := Lib.hid t1
  have T2 := Lib.hid t2
  have T3 := Lib.hid t3
  have T4 := Lib.hid t4
  have T5 := Lib.hid t5
  clear t1 t2 t3 t4 t5
  rcases Nat.lt_or_ge v u with h | h
  · have hm := putUF_mono 10 v u (by omega)
    change (putU v).length ≤ (putU u).length at hm
    go_enter Try.func7, Try.ntmps7
    go_wp2_with fail
    refine (begun_any _).mono ?_
    rintro e w1 ⟨rfl, hb⟩
    go_wp2_with fail
    refine (putU_any _ [] v (by omega) _ _ (OwnBytes.nil _ _) (by simp) (Nat.le_refl _)).mono ?_
    rintro e w2 ⟨v1, rfl, ho, hk, _⟩
    replace hb := below_next hb (keeps_nil hk rfl)
    obtain ⟨a1, c1, rfl, -, -, -⟩ := ho.isBytes
    clear ho hk
    rw [List.nil_append]
    go_wp2_with fail
    refine (putU_any _ [] u (by omega) _ _ (OwnBytes.nil _ _) (by simp) (Nat.le_refl _)).mono ?_
    rintro e w2 ⟨v1, rfl, ho, hk, _⟩
    replace hb := below_next hb (keeps_nil hk rfl)
    obtain ⟨a1, c1, rfl, -, -, -⟩ := ho.isBytes
    clear ho hk
    rw [List.nil_append]
    go_wp2_with fail
    refine (putU_any _ [] 562949953421311 (by omega) _ _ (OwnBytes.nil _ _) (by simp) (Nat.le_refl _)).mono ?_
    rintro e w2 ⟨v1, rfl, ho, hk, _⟩
    replace hb := below_next hb (keeps_nil hk rfl)
    obtain ⟨a1, c1, rfl, -, -, -⟩ := ho.isBytes
    clear ho hk
    rw [T1.out]
    go_wp2_with fail
    refine (putU_any _ [] 562949953421312 (by omega) _ _ (OwnBytes.nil _ _) (by simp) (Nat.le_refl _)).mono ?_
    rintro e w2 ⟨v1, rfl, ho, hk, _⟩
    replace hb := below_next hb (keeps_nil hk rfl)
    obtain ⟨a1, c1, rfl, -, -, -⟩ := ho.isBytes
    clear ho hk
    rw [T2.out]
    go_wp2_with fail
    refine (putS_any _ [] 281474976710655 (by omega) (by omega) _ _ (OwnBytes.nil _ _) (by simp) (Nat.le_refl _)).mono ?_
    rintro e w2 ⟨v1, rfl, ho, hk, _⟩
    replace hb := below_next hb (keeps_nil hk rfl)
    obtain ⟨a1, c1, rfl, -, -, -⟩ := ho.isBytes
    clear ho hk
    rw [T3.out]
    go_wp2_with fail
    refine (putS_any _ [] (-281474976710656) (by omega) (by omega) _ _ (OwnBytes.nil _ _) (by simp) (Nat.le_refl _)).mono ?_
    rintro e w2 ⟨v1, rfl, ho, hk, _⟩
    replace hb := below_next hb (keeps_nil hk rfl)
    obtain ⟨a1, c1, rfl, -, -, -⟩ := ho.isBytes
    clear ho hk
    rw [T4.out]
    go_wp2_with fail
    refine (putS_any _ [] 281474976710656 (by omega) (by omega) _ _ (OwnBytes.nil _ _) (by simp) (Nat.le_refl _)).mono ?_
    rintro e w2 ⟨v1, rfl, ho, hk, _⟩
    replace hb := below_next hb (keeps_nil hk rfl)
    obtain ⟨a1, c1, rfl, -, -, -⟩ := ho.isBytes
    clear ho hk
    rw [T5.out]
    go_wp2_with fail
    go_ret
    exact ⟨rfl, hb⟩
  · have hm := putUF_mono 10 u v (by omega)
    change (putU u).length ≤ (putU v).length at hm
    go_enter Try.func7, Try.ntmps7
    go_wp2_with fail
    refine (begun_any _).mono ?_
    rintro e w1 ⟨rfl, hb⟩
    go_wp2_with fail
    refine (putU_any _ [] u (by omega) _ _ (OwnBytes.nil _ _) (by simp) (Nat.le_refl _)).mono ?_
    rintro e w2 ⟨v1, rfl, ho, hk, _⟩
    replace hb := below_next hb (keeps_nil hk rfl)
    obtain ⟨a1, c1, rfl, -, -, -⟩ := ho.isBytes
    clear ho hk
    rw [List.nil_append]
    go_wp2_with fail
    refine (putU_any _ [] v (by omega) _ _ (OwnBytes.nil _ _) (by simp) (Nat.le_refl _)).mono ?_
    rintro e w2 ⟨v1, rfl, ho, hk, _⟩
    replace hb := below_next hb (keeps_nil hk rfl)
    obtain ⟨a1, c1, rfl, -, -, -⟩ := ho.isBytes
    clear ho hk
    rw [List.nil_append]
    go_wp2_with fail
    refine (putU_any _ [] 562949953421311 (by omega) _ _ (OwnBytes.nil _ _) (by simp) (Nat.le_refl _)).mono ?_
    rintro e w2 ⟨v1, rfl, ho, hk, _⟩
    replace hb := below_next hb (keeps_nil hk rfl)
    obtain ⟨a1, c1, rfl, -, -, -⟩ := ho.isBytes
    clear ho hk
    rw [T1.out]
    go_wp2_with fail
    refine (putU_any _ [] 562949953421312 (by omega) _ _ (OwnBytes.nil _ _) (by simp) (Nat.le_refl _)).mono ?_
    rintro e w2 ⟨v1, rfl, ho, hk, _⟩
    replace hb := below_next hb (keeps_nil hk rfl)
    obtain ⟨a1, c1, rfl, -, -, -⟩ := ho.isBytes
    clear ho hk
    rw [T2.out]
    go_wp2_with fail
    refine (putS_any _ [] 281474976710655 (by omega) (by omega) _ _ (OwnBytes.nil _ _) (by simp) (Nat.le_refl _)).mono ?_
    rintro e w2 ⟨v1, rfl, ho, hk, _⟩
    replace hb := below_next hb (keeps_nil hk rfl)
    obtain ⟨a1, c1, rfl, -, -, -⟩ := ho.isBytes
    clear ho hk
    rw [T3.out]
    go_wp2_with fail
    refine (putS_any _ [] (-281474976710656) (by omega) (by omega) _ _ (OwnBytes.nil _ _) (by simp) (Nat.le_refl _)).mono ?_
    rintro e w2 ⟨v1, rfl, ho, hk, _⟩
    replace hb := below_next hb (keeps_nil hk rfl)
    obtain ⟨a1, c1, rfl, -, -, -⟩ := ho.isBytes
    clear ho hk
    rw [T4.out]
    go_wp2_with fail
    refine (putS_any _ [] 281474976710656 (by omega) (by omega) _ _ (OwnBytes.nil _ _) (by simp) (Nat.le_refl _)).mono ?_
    rintro e w2 ⟨v1, rfl, ho, hk, _⟩
    replace hb := below_next hb (keeps_nil hk rfl)
    obtain ⟨a1, c1, rfl, -, -, -⟩ := ho.isBytes
    clear ho hk
    rw [T5.out]
    go_wp2_with fail
    go_ret
    exact ⟨rfl, hb⟩
set_option maxRecDepth 100000 in
set_option maxHeartbeats 1000000 in
theorem size_8 (u v : Nat) (hu : u < 18446744073709551616) (hv : v < 18446744073709551616) (w : World) :
    Calls Try.prog 7 #[.int .u64 u, .int .u64 v, .int .i64 8] w (TrueEnd w) := by
  have t1 : ([] ++ putU 72057594037927935).length = 8 := by decide +kernel
  have t2 : ([] ++ putU 72057594037927936).length = 8 + 1 := by decide +kernel
  have t3 : ([] ++ putS 36028797018963967).length = 8 := by decide +kernel
  have t4 : ([] ++ putS (-36028797018963968)).length = 8 := by decide +kernel
  have t5 : ([] ++ putS 36028797018963968).length = 8 + 1 := by decide +kernel
  have T1 := Lib.hid t1
  have T2 := Lib.hid t2
  have T3 := Lib.hid t3
  have T4 := Lib.hid t4
  have T5 := Lib.hid t5
  clear t1 t2 t3 t4 t5
  rcases Nat.lt_or_ge v u with h | h
  · have hm := putUF_mono 10 v u (by omega)
    change (putU v).length ≤ (putU u).length at hm
    go_enter Try.func7, Try.ntmps7
    go_wp2_with fail
    refine (begun_any _).mono ?_
    rintro e w1 ⟨rfl, hb⟩
    go_wp2_with fail
    refine (putU_any _ [] v (by omega) _ _ (OwnBytes.nil _ _) (by simp) (Nat.le_refl _)).mono ?_
    rintro e w2 ⟨v1, rfl, ho, hk, _⟩
    replace hb := below_next hb (keeps_nil hk rfl)
    obtain ⟨a1, c1, rfl, -, -, -⟩ := ho.isBytes
    clear ho hk
    rw [List.nil_append]
    go_wp2_with fail
    refine (putU_any _ [] u (by omega) _ _ (OwnBytes.nil _ _) (by simp) (Nat.le_refl _)).mono ?_
    rintro e w2 ⟨v1, rfl, ho, hk, _⟩
    replace hb := below_next hb (keeps_nil hk rfl)
    obtain ⟨a1, c1, rfl, -, -, -⟩ := ho.isBytes
    clear ho hk
    rw [List.nil_append]
    go_wp2_with fail
    refine (putU_any _ [] 72057594037927935 (by omega) _ _ (OwnBytes.nil _ _) (by simp) (Nat.le_refl _)).mono ?_
    rintro e w2 ⟨v1, rfl, ho, hk, _⟩
    replace hb := below_next hb (keeps_nil hk rfl)
    obtain ⟨a1, c1, rfl, -, -, -⟩ := ho.isBytes
    clear ho hk
    rw [T1.out]
    go_wp2_with fail
    refine (putU_any _ [] 72057594037927936 (by omega) _ _ (OwnBytes.nil _ _) (by simp) (Nat.le_refl _)).mono ?_
    rintro e w2 ⟨v1, rfl, ho, hk, _⟩
    replace hb := below_next hb (keeps_nil hk rfl)
    obtain ⟨a1, c1, rfl, -, -, -⟩ := ho.isBytes
    clear ho hk
    rw [T2.out]
    go_wp2_with fail
    refine (putS_any _ [] 36028797018963967 (by omega) (by omega) _ _ (OwnBytes.nil _ _) (by simp) (Nat.le_refl _)).mono ?_
    rintro e w2 ⟨v1, rfl, ho, hk, _⟩
    replace hb := below_next hb (keeps_nil hk rfl)
    obtain ⟨a1, c1, rfl, -, -, -⟩ := ho.isBytes
    clear ho hk
    rw [T3.out]
    go_wp2_with fail
    refine (putS_any _ [] (-36028797018963968) (by omega) (by omega) _ _ (OwnBytes.nil _ _) (by simp) (Nat.le_refl _)).mono ?_
    rintro e w2 ⟨v1, rfl, ho, hk, _⟩
    replace hb := below_next hb (keeps_nil hk rfl)
    obtain ⟨a1, c1, rfl, -, -, -⟩ := ho.isBytes
    clear ho hk
    rw [T4.out]
    go_wp2_with fail
    refine (putS_any _ [] 36028797018963968 (by omega) (by omega) _ _ (OwnBytes.nil _ _) (by simp) (Nat.le_refl _)).mono ?_
    rintro e w2 ⟨v1, rfl, ho, hk, _⟩
    replace hb := below_next hb (keeps_nil hk rfl)
    obtain ⟨a1, c1, rfl, -, -, -⟩ := ho.isBytes
    clear ho hk
    rw [T5.out]
    go_wp2_with fail
    go_ret
    exact ⟨rfl, hb⟩
  · have hm := putUF_mono 10 u v (by omega)
    change (putU u).length ≤ (putU v).length at hm
    go_enter Try.func7, Try.ntmps7
    go_wp2_with fail
    refine (begun_any _).mono ?_
    rintro e w1 ⟨rfl, hb⟩
    go_wp2_with fail
    refine (putU_any _ [] u (by omega) _ _ (OwnBytes.nil _ _) (by simp) (Nat.le_refl _)).mono ?_
    rintro e w2 ⟨v1, rfl, ho, hk, _⟩
    replace hb := below_next hb (keeps_nil hk rfl)
    obtain ⟨a1, c1, rfl, -, -, -⟩ := ho.isBytes
    clear ho hk
    rw [List.nil_append]
    go_wp2_with fail
    refine (putU_any _ [] v (by omega) _ _ (OwnBytes.nil _ _) (by simp) (Nat.le_refl _)).mono ?_
    rintro e w2 ⟨v1, rfl, ho, hk, _⟩
    replace hb := below_next hb (keeps_nil hk rfl)
    obtain ⟨a1, c1, rfl, -, -, -⟩ := ho.isBytes
    clear ho hk
    rw [List.nil_append]
    go_wp2_with fail
    refine (putU_any _ [] 72057594037927935 (by omega) _ _ (OwnBytes.nil _ _) (by simp) (Nat.le_refl _)).mono ?_
    rintro e w2 ⟨v1, rfl, ho, hk, _⟩
    replace hb := below_next hb (keeps_nil hk rfl)
    obtain ⟨a1, c1, rfl, -, -, -⟩ := ho.isBytes
    clear ho hk
    rw [T1.out]
    go_wp2_with fail
    refine (putU_any _ [] 72057594037927936 (by omega) _ _ (OwnBytes.nil _ _) (by simp) (Nat.le_refl _)).mono ?_
    rintro e w2 ⟨v1, rfl, ho, hk, _⟩
    replace hb := below_next hb (keeps_nil hk rfl)
    obtain ⟨a1, c1, rfl, -, -, -⟩ := ho.isBytes
    clear ho hk
    rw [T2.out]
    go_wp2_with fail
    refine (putS_any _ [] 36028797018963967 (by omega) (by omega) _ _ (OwnBytes.nil _ _) (by simp) (Nat.le_refl _)).mono ?_
    rintro e w2 ⟨v1, rfl, ho, hk, _⟩
    replace hb := below_next hb (keeps_nil hk rfl)
    obtain ⟨a1, c1, rfl, -, -, -⟩ := ho.isBytes
    clear ho hk
    rw [T3.out]
    go_wp2_with fail
    refine (putS_any _ [] (-36028797018963968) (by omega) (by omega) _ _ (OwnBytes.nil _ _) (by simp) (Nat.le_refl _)).mono ?_
    rintro e w2 ⟨v1, rfl, ho, hk, _⟩
    replace hb := below_next hb (keeps_nil hk rfl)
    obtain ⟨a1, c1, rfl, -, -, -⟩ := ho.isBytes
    clear ho hk
    rw [T4.out]
    go_wp2_with fail
    refine (putS_any _ [] 36028797018963968 (by omega) (by omega) _ _ (OwnBytes.nil _ _) (by simp) (Nat.le_refl _)).mono ?_
    rintro e w2 ⟨v1, rfl, ho, hk, _⟩
    replace hb := below_next hb (keeps_nil hk rfl)
    obtain ⟨a1, c1, rfl, -, -, -⟩ := ho.isBytes
    clear ho hk
    rw [T5.out]
    go_wp2_with fail
    go_ret
    exact ⟨rfl, hb⟩
set_option maxRecDepth 100000 in
set_option maxHeartbeats 1000000 in
theorem size_9 (u v : Nat) (hu : u < 18446744073709551616) (hv : v < 18446744073709551616) (w : World) :
    Calls Try.prog 7 #[.int .u64 u, .int .u64 v, .int .i64 9] w (TrueEnd w) := by
  have t1 : ([] ++ putU 9223372036854775807).length = 9 := by decide +kernel
  have t2 : ([] ++ putU 9223372036854775808).length = 9 + 1 := by decide +kernel
  have t3 : ([] ++ putS 4611686018427387903).length = 9 := by decide +kernel
  have t4 : ([] ++ putS (-4611686018427387904)).length = 9 := by decide +kernel
  have t5 : ([] ++ putS 4611686018427387904).length = 9 + 1 := by decide +kernel
  have T1 := Lib.hid t1
  have T2 := Lib.hid t2
  have T3 := Lib.hid t3
  have T4 := Lib.hid t4
  have T5 := Lib.hid t5
  clear t1 t2 t3 t4 t5
  rcases Nat.lt_or_ge v u with h | h
  · have hm := putUF_mono 10 v u (by omega)
    change (putU v).length ≤ (putU u).length at hm
    go_enter Try.func7, Try.ntmps7
    go_wp2_with fail
    refine (begun_any _).mono ?_
    rintro e w1 ⟨rfl, hb⟩
    go_wp2_with fail
    refine (putU_any _ [] v (by omega) _ _ (OwnBytes.nil _ _) (by simp) (Nat.le_refl _)).mono ?_
    rintro e w2 ⟨v1, rfl, ho, hk, _⟩
    replace hb := below_next hb (keeps_nil hk rfl)
    obtain ⟨a1, c1, rfl, -, -, -⟩ := ho.isBytes
    clear ho hk
    rw [List.nil_append]
    go_wp2_with fail
    refine (putU_any _ [] u (by omega) _ _ (OwnBytes.nil _ _) (by simp) (Nat.le_refl _)).mono ?_
    rintro e w2 ⟨v1, rfl, ho, hk, _⟩
    replace hb := below_next hb (keeps_nil hk rfl)
    obtain ⟨a1, c1, rfl, -, -, -⟩ := ho.isBytes
    clear ho hk
    rw [List.nil_append]
    go_wp2_with fail
    refine (putU_any _ [] 9223372036854775807 (by omega) _ _ (OwnBytes.nil _ _) (by simp) (Nat.le_refl _)).mono ?_
    rintro e w2 ⟨v1, rfl, ho, hk, _⟩
    replace hb := below_next hb (keeps_nil hk rfl)
    obtain ⟨a1, c1, rfl, -, -, -⟩ := ho.isBytes
    clear ho hk
    rw [T1.out]
    go_wp2_with fail
    refine (putU_any _ [] 9223372036854775808 (by omega) _ _ (OwnBytes.nil _ _) (by simp) (Nat.le_refl _)).mono ?_
    rintro e w2 ⟨v1, rfl, ho, hk, _⟩
    replace hb := below_next hb (keeps_nil hk rfl)
    obtain ⟨a1, c1, rfl, -, -, -⟩ := ho.isBytes
    clear ho hk
    rw [T2.out]
    go_wp2_with fail
    refine (putS_any _ [] 4611686018427387903 (by omega) (by omega) _ _ (OwnBytes.nil _ _) (by simp) (Nat.le_refl _)).mono ?_
    rintro e w2 ⟨v1, rfl, ho, hk, _⟩
    replace hb := below_next hb (keeps_nil hk rfl)
    obtain ⟨a1, c1, rfl, -, -, -⟩ := ho.isBytes
    clear ho hk
    rw [T3.out]
    go_wp2_with fail
    refine (putS_any _ [] (-4611686018427387904) (by omega) (by omega) _ _ (OwnBytes.nil _ _) (by simp) (Nat.le_refl _)).mono ?_
    rintro e w2 ⟨v1, rfl, ho, hk, _⟩
    replace hb := below_next hb (keeps_nil hk rfl)
    obtain ⟨a1, c1, rfl, -, -, -⟩ := ho.isBytes
    clear ho hk
    rw [T4.out]
    go_wp2_with fail
    refine (putS_any _ [] 4611686018427387904 (by omega) (by omega) _ _ (OwnBytes.nil _ _) (by simp) (Nat.le_refl _)).mono ?_
    rintro e w2 ⟨v1, rfl, ho, hk, _⟩
    replace hb := below_next hb (keeps_nil hk rfl)
    obtain ⟨a1, c1, rfl, -, -, -⟩ := ho.isBytes
    clear ho hk
    rw [T5.out]
    go_wp2_with fail
    go_ret
    exact ⟨rfl, hb⟩
  · have hm := putUF_mono 10 u v (by omega)
    change (putU u).length ≤ (putU v).length at hm
    go_enter Try.func7, Try.ntmps7
    go_wp2_with fail
    refine (begun_any _).mono ?_
    rintro e w1 ⟨rfl, hb⟩
    go_wp2_with fail
    refine (putU_any _ [] u (by omega) _ _ (OwnBytes.nil _ _) (by simp) (Nat.le_refl _)).mono ?_
    rintro e w2 ⟨v1, rfl, ho, hk, _⟩
    replace hb := below_next hb (keeps_nil hk rfl)
    obtain ⟨a1, c1, rfl, -, -, -⟩ := ho.isBytes
    clear ho hk
    rw [List.nil_append]
    go_wp2_with fail
    refine (putU_any _ [] v (by omega) _ _ (OwnBytes.nil _ _) (by simp) (Nat.le_refl _)).mono ?_
    rintro e w2 ⟨v1, rfl, ho, hk, _⟩
    replace hb := below_next hb (keeps_nil hk rfl)
    obtain ⟨a1, c1, rfl, -, -, -⟩ := ho.isBytes
    clear ho hk
    rw [List.nil_append]
    go_wp2_with fail
    refine (putU_any _ [] 9223372036854775807 (by omega) _ _ (OwnBytes.nil _ _) (by simp) (Nat.le_refl _)).mono ?_
    rintro e w2 ⟨v1, rfl, ho, hk, _⟩
    replace hb := below_next hb (keeps_nil hk rfl)
    obtain ⟨a1, c1, rfl, -, -, -⟩ := ho.isBytes
    clear ho hk
    rw [T1.out]
    go_wp2_with fail
    refine (putU_any _ [] 9223372036854775808 (by omega) _ _ (OwnBytes.nil _ _) (by simp) (Nat.le_refl _)).mono ?_
    rintro e w2 ⟨v1, rfl, ho, hk, _⟩
    replace hb := below_next hb (keeps_nil hk rfl)
    obtain ⟨a1, c1, rfl, -, -, -⟩ := ho.isBytes
    clear ho hk
    rw [T2.out]
    go_wp2_with fail
    refine (putS_any _ [] 4611686018427387903 (by omega) (by omega) _ _ (OwnBytes.nil _ _) (by simp) (Nat.le_refl _)).mono ?_
    rintro e w2 ⟨v1, rfl, ho, hk, _⟩
    replace hb := below_next hb (keeps_nil hk rfl)
    obtain ⟨a1, c1, rfl, -, -, -⟩ := ho.isBytes
    clear ho hk
    rw [T3.out]
    go_wp2_with fail
    refine (putS_any _ [] (-4611686018427387904) (by omega) (by omega) _ _ (OwnBytes.nil _ _) (by simp) (Nat.le_refl _)).mono ?_
    rintro e w2 ⟨v1, rfl, ho, hk, _⟩
    replace hb := below_next hb (keeps_nil hk rfl)
    obtain ⟨a1, c1, rfl, -, -, -⟩ := ho.isBytes
    clear ho hk
    rw [T4.out]
    go_wp2_with fail
    refine (putS_any _ [] 4611686018427387904 (by omega) (by omega) _ _ (OwnBytes.nil _ _) (by simp) (Nat.le_refl _)).mono ?_
    rintro e w2 ⟨v1, rfl, ho, hk, _⟩
    replace hb := below_next hb (keeps_nil hk rfl)
    obtain ⟨a1, c1, rfl, -, -, -⟩ := ho.isBytes
    clear ho hk
    rw [T5.out]
    go_wp2_with fail
    go_ret
    exact ⟨rfl, hb⟩

/-- THE WALK of the law. -/
theorem size_any (u v : Int) (k : Int) (w : World) (h0 : (Lit.int .u64 u).wf = true) (h1 : (Lit.int .u64 v).wf = true) (h2 : (Lit.int .i64 k).wf = true) :
    Calls Try.prog 7 #[.int .u64 u, .int .u64 v, .int .i64 k] w (TrueEnd w) := by
  obtain ⟨a0, a1⟩ := bounds_u64 h0
  obtain ⟨b0, b1⟩ := bounds_u64 h1
  obtain ⟨c0, c1⟩ := bounds_i64 h2
  obtain ⟨u, rfl⟩ := Int.eq_ofNat_of_zero_le a0
  obtain ⟨v, rfl⟩ := Int.eq_ofNat_of_zero_le b0
  have hu : u < 18446744073709551616 := by omega
  have hv : v < 18446744073709551616 := by omega
  by_cases hk : k < 1 ∨ 9 < k
  · exact size_out u v k hu hv w c0 c1 hk
  have h : k = 1 ∨ k = 2 ∨ k = 3 ∨ k = 4 ∨ k = 5 ∨ k = 6 ∨ k = 7 ∨ k = 8 ∨ k = 9 := by omega
  rcases h with rfl | rfl | rfl | rfl | rfl | rfl | rfl | rfl | rfl
  · exact size_1 u v hu hv w
  · exact size_2 u v hu hv w
  · exact size_3 u v hu hv w
  · exact size_4 u v hu hv w
  · exact size_5 u v hu hv w
  · exact size_6 u v hu hv w
  · exact size_7 u v hu hv w
  · exact size_8 u v hu hv w
  · exact size_9 u v hu hv w
end Go.Proofs.Ytbgeijdfkdfdoaa
