/-
  Walks of leb.PutU, leb.PutS, diapauseref1.U, diapauseref1.S: they append the number's bytes.
-/
import Derived.Test.YtpknafidbmnjpaaBase
namespace Go.Proofs.Ytpknafidbmnjpaa
open Go.RowKit

/-- A number's bytes, by sevens. -/
def putUF : Nat → Nat → List UInt8
  | 0, _ => []
  | f + 1, n => if n < 128 then [b8 n] else b8 (n % 128 + 128) :: putUF f (n / 128)

def putU (n : Nat) : List UInt8 := putUF 10 n

def PutUJ (xs : List UInt8) (u : Nat) (B : Nat) (b : Value) (w w' : World) (v : Value) (n : Nat) : Prop :=
  ∃ (ys : List UInt8) (k f : Nat), OwnBytes w' B v ys ∧ Keeps (OwnB b) w w' ∧ SameOrNew w b v ∧ ys.length ≤ xs.length + k ∧ k + f = 9 ∧ n < 2 * 128 ^ f ∧ ys ++ putUF (f + 1) n = xs ++ putUF 10 u

def PutUEnd (xs : List UInt8) (u : Nat) (B : Nat) (b : Value) (w : World) (e : Ending) (w' : World) : Prop :=
  ∃ v, e = .returned v ∧ OwnBytes w' B v (xs ++ putU u) ∧ Keeps (OwnB b) w w' ∧ SameOrNew w b v

theorem putU_b (n : Nat) : bits .or .u8 ((n : Int) % 256) 128 = ((b8 (n % 128 + 128)).toNat : Int) := by
  have h := bits_or128 (n % 256) (by omega)
  rw [show n % 256 % 128 = n % 128 from by omega] at h
  rw [b8_toNat (by omega), ← h]
  rfl

set_option maxRecDepth 100000 in
theorem putU_any (b : Value) (xs : List UInt8) (u : Nat) (h1 : u < 18446744073709551616) (B : Nat) (w : World) (hown : OwnBytes w B b xs) (hn : xs.length ≤ 1000000) (hB : B ≤ w.heap.size) :
    Calls Try.prog 42 #[b, .int .u64 u] w (PutUEnd xs u B b w) := by
  go_enter Try.func42, Try.ntmps42
  go_wp2
  refine wp_scope_goto 0 (fun a' w' => ∃ (v : Value) (n : Nat) (u5 u6 u7 u8 u9 u10 u11 u12 u13 u14 u15 u16 u17 u18 u19 : Value), a' = { tmps := #[v, .int .u64 n, undef, undef, .slice none 0 0, u5, u6, u7, u8, u9, u10, u11, u12, u13, u14, u15, u16, u17, u18, u19], defers := [] } ∧ PutUJ xs u B b w w' v n) (fun a' _ => (intOf (a'.tmps.getD 1 undef)).toNat) rfl ?_ ?_
  · rintro a' w1 ⟨v, n, u5, u6, u7, u8, u9, u10, u11, u12, u13, u14, u15, u16, u17, u18, u19, rfl, hJ⟩
    obtain ⟨ys, k, f, hown', hk, hs, hlen, hkf, hnf, heq⟩ := hJ
    have HE := Lib.hid heq
    have HK := Lib.hid hkf
    have hk9 : k ≤ 9 := by omega
    clear heq hkf hown
    have hsz := hk.size
    by_cases hlt : n < 128
    · go_wp2_with (first | (at_builtin; refine wpList_byte w1 rfl _ _ rfl rfl B v ys rfl hown' (b8 n) _ ?_ rfl ?_ ?_ ?_))
      · rw [b8_toNat (by omega)]
      · omega
      · omega
      · intro v' w2 ho2 hk2 hs2
        go_wp2
        rw [jump_ret]
        go_ret
        refine ⟨v', rfl, ?_, hk.trans hk2 ?_, hs.trans hs2 hsz⟩
        · have h := HE.out
          rw [putUF, if_pos hlt] at h
          rw [putU, ← h]
          exact ho2
        · exact fun i hi => hs i hi
    · go_wp2_with (first | (at_builtin; refine wpList_byte w1 rfl _ _ rfl rfl B v ys rfl hown' (b8 (n % 128 + 128)) _ (putU_b n) rfl ?_ ?_ ?_))
      · omega
      · omega
      · intro v' w2 ho2 hk2 hs2
        go_wp2
        go_step3
        have hf : f ≠ 0 := by
          rintro rfl
          omega
        obtain ⟨f', rfl⟩ : ∃ f', f = f' + 1 := ⟨f - 1, by omega⟩
        have hnq : ((n : Int) / 128) = ((n / 128 : Nat) : Int) := by omega
        rw [hnq]
        refine jump_back ⟨v', n / 128, _, _, _, _, _, _, _, _, _, _, _, _, _, _, _, rfl, ys ++ [b8 (n % 128 + 128)], k + 1, f', ho2, hk.trans hk2 (fun i hi => hs i hi), hs.trans hs2 hsz, ?_, ?_, ?_, ?_⟩ ?_
        · simp
          omega
        · have := HK.out
          omega
        · rw [Nat.pow_succ] at hnf
          omega
        · have h := HE.out
          rw [putUF, if_neg hlt] at h
          rw [← h]
          simp
        · simp [intOf]
          omega
  · intro H
    apply wp_seq_k
    intro K hK
    apply wp_label
    apply hK
    exact H _ _ ⟨b, u, _, _, _, _, _, _, _, _, _, _, _, _, _, _, _, rfl, xs, 0, 9, hown, Keeps.refl _ _, SameOrNew.refl _ _, by omega, rfl, by omega, rfl⟩
end Go.Proofs.Ytpknafidbmnjpaa
