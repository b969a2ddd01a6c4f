/-
  Walks of the reference's U and of Short.
-/
import Derived.Test.YtbgeijdfkdfdoaaPlain
namespace Go.Proofs.Ytbgeijdfkdfdoaa
open Go.RowKit

def RefEnd (l : List UInt8) (w : World) (e : Ending) (w' : World) : Prop := ∃ v, e = .returned v ∧ OwnBytes w' w.heap.size v l ∧ Below w.heap.size w w'

def RefUJ (u : Nat) (w w' : World) (v : Value) (n : Nat) : Prop :=
  ∃ (ys : List UInt8) (k f : Nat), OwnBytes w' w.heap.size v ys ∧ Below w.heap.size w w' ∧ ys.length ≤ k ∧ k + f = 9 ∧ n < 2 * 128 ^ f ∧ n < 18446744073709551616 ∧ ys ++ putUF (f + 1) n = putUF 10 u

set_option maxRecDepth 100000 in
set_option maxHeartbeats 1000000 in
theorem refU_any (u : Nat) (h1 : u < 18446744073709551616) (w : World) : Calls Try.prog 19 #[.int .u64 u] w (RefEnd (putU u) w) := by
  go_enter Try.func19, Try.ntmps19
  go_wp2

  refine wp_loop (fun a' w' => ∃ (v : Value) (n : Nat) (u4 u5 u6 u7 u8 u9 u10 u11 u12 u13 u14 u15 u16 u17 u18 u19 : Value), a' = { tmps := #[.int .u64 n, undef, .slice none 0 0, v, u4, u5, u6, u7, u8, u9, u10, u11, u12, u13, u14, u15, u16, u17, u18, u19], defers := [] } ∧ RefUJ u w w' v n) (fun a' _ => (intOf (a'.tmps.getD 0 undef)).toNat) ?_ ?_
  · exact ⟨_, u, _, _, _, _, _, _, _, _, _, _, _, _, _, _, _, _, rfl, [], 0, 9, OwnBytes.nil _ _, Below.refl _ _, by simp, rfl, by omega, h1, rfl⟩
  · rintro a' w1 ⟨v, n, u4, u5, u6, u7, u8, u9, u10, u11, u12, u13, u14, u15, u16, u17, u18, u19, rfl, hJ⟩
    obtain ⟨ys, k, f, hown, hb, hlen, hkf, hnf, hn64, heq⟩ := hJ
    have HE := Lib.hid heq
    have HK := Lib.hid hkf
    have hk9 : k ≤ 9 := by omega
    clear heq hkf
    have hsz := hb.size
    by_cases hlt : n < 128
    · go_wp2_with (first | (at_builtin; refine wpList_byte w1 rfl _ _ rfl rfl w.heap.size v ys rfl hown (b8 n) _ ?_ rfl ?_ ?_ ?_))
      · rw [b8_toNat (by omega)]
      · omega
      · omega
      · intro v' w2 ho2 hk2 hs2
        go_wp2
        go_ret
        refine ⟨v', rfl, ?_, hb.trans (hk2.below hsz (fun i hi => (own_lt hown hi).1))⟩
        have h := HE.out
        rw [putUF, if_pos hlt] at h
        rw [putU, ← h]
        exact ho2
    · go_wp2_with (first | (at_builtin; refine wpList_byte w1 rfl _ _ rfl rfl w.heap.size v ys rfl hown (b8 (n % 128 + 128)) _ ?_ rfl ?_ ?_ ?_))
      · rw [b8_toNat (by omega)]
        omega
      · omega
      · omega
      · intro v' w2 ho2 hk2 hs2
        go_wp2
        have hf : f ≠ 0 := by
          rintro rfl
          omega
        obtain ⟨f', rfl⟩ : ∃ f', f = f' + 1 := ⟨f - 1, by omega⟩
        have hnq : ((n : Int) / 128) = ((n / 128 : Nat) : Int) := by omega
        rw [hnq]
        refine ⟨⟨v', n / 128, _, _, _, _, _, _, _, _, _, _, _, _, _, _, _, _, rfl, ys ++ [b8 (n % 128 + 128)], k + 1, f', ho2, hb.trans (hk2.below hsz (fun i hi => (own_lt hown hi).1)), ?_, ?_, ?_, ?_, ?_⟩, ?_⟩
        · simp
          omega
        · have := HK.out
          omega
        · rw [Nat.pow_succ] at hnf
          omega
        · omega
        · have h := HE.out
          rw [putUF, if_neg hlt] at h
          rw [← h]
          simp
        · simp [intOf]
          omega

def ShortEnd (l : List UInt8) (n : Nat) (w : World) (e : Ending) (w' : World) : Prop := w = w' ∧ ∃ v, e = .returned v ∧ IsBytes w v (l.take n)

theorem short_any (b : Value) (l : List UInt8) (n : Nat) (hn : n ≤ 1000000) (w : World) (hb : IsBytes w b l) :
    Calls Try.prog 16 #[b, .int .i64 n] w (ShortEnd l n w) := by
  have HB := Lib.hid hb
  obtain ⟨a, cap, rfl, hl, hm, _⟩ := hb
  unfold maxLen at hm
  by_cases h : n < l.length
  · go_enter Try.func16, Try.ntmps16
    go_wp2
    go_ret
    exact ⟨rfl, _, rfl, HB.out.take n (by omega)⟩
  · go_enter Try.func16, Try.ntmps16
    go_wp2
    go_ret
    refine ⟨rfl, _, rfl, ?_⟩
    rw [List.take_of_length_le (by omega)]
    exact HB.out
end Go.Proofs.Ytbgeijdfkdfdoaa
