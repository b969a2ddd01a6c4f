/-
  Walk of leb.PutS: it appends the signed number's bytes.
-/
import Derived.Test.YtpknafidbmnjpaaLeb3
namespace Go.Proofs.Ytpknafidbmnjpaa
open Go.RowKit

/-- A signed number's bytes, by sevens. -/
def putSF : Nat → Int → List UInt8
  | 0, _ => []
  | f + 1, n => if -64 ≤ n ∧ n < 64 then [b8 (n % 128).toNat] else b8 ((n % 128).toNat + 128) :: putSF f (n / 128)

def putS (n : Int) : List UInt8 := putSF 10 n

def PutSJ (xs : List UInt8) (u : Int) (B : Nat) (b : Value) (w w' : World) (v : Value) (n : Int) : Prop :=
  ∃ (ys : List UInt8) (k f : Nat), OwnBytes w' B v ys ∧ Keeps (OwnB b) w w' ∧ SameOrNew w b v ∧ ys.length ≤ xs.length + k ∧ k + f = 9 ∧ -((128 : Int) ^ f) ≤ n ∧ n < 128 ^ f ∧ ys ++ putSF (f + 1) n = xs ++ putSF 10 u

def PutSEnd (xs : List UInt8) (u : Int) (B : Nat) (b : Value) (w : World) (e : Ending) (w' : World) : Prop :=
  ∃ v, e = .returned v ∧ OwnBytes w' B v (xs ++ putS u) ∧ Keeps (OwnB b) w w' ∧ SameOrNew w b v

theorem low7i (n : Int) : bits .andNot .u8 (n % 256) 128 = n % 128 := by
  obtain ⟨m, hm⟩ : ∃ m : Nat, (m : Int) = n % 256 := ⟨(n % 256).toNat, by omega⟩
  rw [← hm, low7 m (by omega)]
  omega

theorem and64 : ∀ x : Fin 128, x.val &&& 64 = if x.val < 64 then 0 else 64 := by decide +kernel
theorem bits_and64 (n : Int) : bits .and .u8 (n % 128) 64 = if n % 128 < 64 then 0 else 64 := by
  obtain ⟨m, hm⟩ : ∃ m : Nat, (m : Int) = n % 128 := ⟨(n % 128).toNat, by omega⟩
  have h0 := u8_and_nat m 64 (by omega) (by omega)
  rw [and64 ⟨m, by omega⟩] at h0
  rw [← hm]
  refine h0.trans ?_
  by_cases h : m < 64
  · rw [if_pos h, if_pos (by omega)]; rfl
  · rw [if_neg h, if_neg (by omega)]; rfl

theorem sgn_b (n : Int) : bits .andNot .u8 (n % 256) 128 = ((b8 (n % 128).toNat).toNat : Int) := by
  rw [low7i, b8_toNat (by omega)]
  omega
theorem sgn_m (n : Int) : bits .or .u8 (bits .andNot .u8 (n % 256) 128) 128 = ((b8 ((n % 128).toNat + 128)).toNat : Int) := by
  rw [low7i, b8_toNat (by omega)]
  obtain ⟨m, hm⟩ : ∃ m : Nat, (m : Int) = n % 128 := ⟨(n % 128).toNat, by omega⟩
  rw [← hm, bits_or128 m (by omega)]
  omega


set_option maxRecDepth 100000 in
set_option maxHeartbeats 1000000 in
theorem putS_any (b : Value) (xs : List UInt8) (u : Int) (h0 : -9223372036854775808 ≤ u) (h1 : u ≤ 9223372036854775807) (B : Nat) (w : World) (hown : OwnBytes w B b xs) (hn : xs.length ≤ 1000000) (hB : B ≤ w.heap.size) :
    Calls Try.prog 43 #[b, .int .i64 u] w (PutSEnd xs u B b w) := by
  go_enter Try.func43, Try.ntmps43
  go_wp2
  refine wp_scope_goto 0 (fun a' w' => ∃ (v : Value) (n : Int) (u5 u6 u7 u8 u9 u10 u11 u12 u13 u14 u15 u16 u17 u18 u19 u20 u21 u22 u23 u24 u25 u26 u27 u28 u29 u30 u31 u32 u33 u34 u35 : Value), a' = { tmps := #[v, .int .i64 n, undef, undef, .slice none 0 0, u5, u6, u7, u8, u9, u10, u11, u12, u13, u14, u15, u16, u17, u18, u19, u20, u21, u22, u23, u24, u25, u26, u27, u28, u29, u30, u31, u32, u33, u34, u35], defers := [] } ∧ PutSJ xs u B b w w' v n) (fun a' _ => (intOf (a'.tmps.getD 1 undef)).natAbs) rfl ?_ ?_
  · rintro a' w1 ⟨v, n, u5, u6, u7, u8, u9, u10, u11, u12, u13, u14, u15, u16, u17, u18, u19, u20, u21, u22, u23, u24, u25, u26, u27, u28, u29, u30, u31, u32, u33, u34, u35, rfl, hJ⟩
    obtain ⟨ys, k, f, hown', hk, hs, hlen, hkf, hnf1, hnf2, heq⟩ := hJ
    have HE := Lib.hid heq
    have HK := Lib.hid hkf
    have hk9 : k ≤ 9 := by omega
    clear heq hkf hown
    have hsz := hk.size
    have hc := bits_and64 n
    rw [← low7i] at hc
    have HC := Lib.hid hc
    clear hc
    by_cases n0 : n / 128 = 0
    · by_cases n1 : n % 128 < 64
      · have e1 := ieq_true n0
        have e2 : (bits .and .u8 (bits .andNot .u8 (n % 256) 128) 64 == 0) = true := by rw [HC.out, low7i, if_pos n1]; rfl
        have hstop : -64 ≤ n ∧ n < 64 := by omega
        clear n0
        have HS := Lib.hid hstop
        clear hstop
        go_wp2_with (first | (at_builtin; refine wpList_byte w1 rfl _ _ rfl rfl B v ys rfl hown' (b8 (n % 128).toNat) _ (sgn_b n) rfl ?_ ?_ ?_))
        · omega
        · omega
        · intro v' w2 ho2 hk2 hs2
          go_wp2
          rw [jump_ret]
          go_ret
          refine ⟨v', rfl, ?_, hk.trans hk2 ?_, hs.trans hs2 hsz⟩
          · have h := HE.out
            rw [putSF, if_pos HS.out] at h
            rw [putS, ← h]
            exact ho2
          · exact fun i hi => hs i hi
      · have e1 := ieq_true n0
        have e2 : (bits .and .u8 (bits .andNot .u8 (n % 256) 128) 64 == 0) = false := by rw [HC.out, low7i, if_neg n1]; rfl
        have e3 := ieq_false (a := n / 128) (b := -1) (by omega)
        have hstop : ¬ (-64 ≤ n ∧ n < 64) := by omega
        clear n0
        have HS := Lib.hid hstop
        clear hstop
        go_wp2_with (first | (at_builtin; refine wpList_byte w1 rfl _ _ rfl rfl B v ys rfl hown' (b8 ((n % 128).toNat + 128)) _ (sgn_m n) rfl ?_ ?_ ?_))
        · omega
        · omega
        · intro v' w2 ho2 hk2 hs2
          go_wp2
          go_step3
          have hstop := HS.out
          have hf : f ≠ 0 := by
            rintro rfl
            omega
          obtain ⟨f', rfl⟩ : ∃ f', f = f' + 1 := ⟨f - 1, by omega⟩
          refine jump_back ⟨v', n / 128, _, _, _, _, _, _, _, _, _, _, _, _, _, _, _, _, _, _, _, _, _, _, _, _, _, _, _, _, _, _, _, rfl, ys ++ [b8 ((n % 128).toNat + 128)], k + 1, f', ho2, hk.trans hk2 (fun i hi => hs i hi), hs.trans hs2 hsz, ?_, ?_, ?_, ?_, ?_⟩ ?_
          · simp
            omega
          · have := HK.out
            omega
          · rw [Int.pow_succ] at hnf1
            omega
          · rw [Int.pow_succ] at hnf2
            omega
          · have h := HE.out
            rw [putSF, if_neg hstop] at h
            rw [← h]
            simp
          · simp [intOf]
            omega
    by_cases n0 : n / 128 = -1
    · by_cases n1 : n % 128 < 64
      · have e1 := ieq_true n0
        have e2 : (bits .and .u8 (bits .andNot .u8 (n % 256) 128) 64 != 0) = false := by rw [HC.out, low7i, if_pos n1]; rfl
        have e3 := ieq_false (a := n / 128) (b := 0) (by omega)
        have hstop : ¬ (-64 ≤ n ∧ n < 64) := by omega
        clear n0
        have HS := Lib.hid hstop
        clear hstop
        go_wp2_with (first | (at_builtin; refine wpList_byte w1 rfl _ _ rfl rfl B v ys rfl hown' (b8 ((n % 128).toNat + 128)) _ (sgn_m n) rfl ?_ ?_ ?_))
        · omega
        · omega
        · intro v' w2 ho2 hk2 hs2
          go_wp2
          go_step3
          have hstop := HS.out
          have hf : f ≠ 0 := by
            rintro rfl
            omega
          obtain ⟨f', rfl⟩ : ∃ f', f = f' + 1 := ⟨f - 1, by omega⟩
          refine jump_back ⟨v', n / 128, _, _, _, _, _, _, _, _, _, _, _, _, _, _, _, _, _, _, _, _, _, _, _, _, _, _, _, _, _, _, _, rfl, ys ++ [b8 ((n % 128).toNat + 128)], k + 1, f', ho2, hk.trans hk2 (fun i hi => hs i hi), hs.trans hs2 hsz, ?_, ?_, ?_, ?_, ?_⟩ ?_
          · simp
            omega
          · have := HK.out
            omega
          · rw [Int.pow_succ] at hnf1
            omega
          · rw [Int.pow_succ] at hnf2
            omega
          · have h := HE.out
            rw [putSF, if_neg hstop] at h
            rw [← h]
            simp
          · simp [intOf]
            omega
      · have e1 := ieq_true n0
        have e2 : (bits .and .u8 (bits .andNot .u8 (n % 256) 128) 64 != 0) = true := by rw [HC.out, low7i, if_neg n1]; rfl
        have e3 := ieq_false (a := n / 128) (b := 0) (by omega)
        have hstop : -64 ≤ n ∧ n < 64 := by omega
        clear n0
        have HS := Lib.hid hstop
        clear hstop
        go_wp2_with (first | (at_builtin; refine wpList_byte w1 rfl _ _ rfl rfl B v ys rfl hown' (b8 (n % 128).toNat) _ (sgn_b n) rfl ?_ ?_ ?_))
        · omega
        · omega
        · intro v' w2 ho2 hk2 hs2
          go_wp2
          rw [jump_ret]
          go_ret
          refine ⟨v', rfl, ?_, hk.trans hk2 ?_, hs.trans hs2 hsz⟩
          · have h := HE.out
            rw [putSF, if_pos HS.out] at h
            rw [putS, ← h]
            exact ho2
          · exact fun i hi => hs i hi
    · have e1 := ieq_false (a := n / 128) (b := 0) (by omega)
      have e2 := ieq_false (a := n / 128) (b := -1) (by omega)
      have hstop : ¬ (-64 ≤ n ∧ n < 64) := by omega
      have HS := Lib.hid hstop
      clear hstop
      go_wp2_with (first | (at_builtin; refine wpList_byte w1 rfl _ _ rfl rfl B v ys rfl hown' (b8 ((n % 128).toNat + 128)) _ (sgn_m n) rfl ?_ ?_ ?_))
      · omega
      · omega
      · intro v' w2 ho2 hk2 hs2
        go_wp2
        go_step3
        have hstop := HS.out
        have hf : f ≠ 0 := by
          rintro rfl
          omega
        obtain ⟨f', rfl⟩ : ∃ f', f = f' + 1 := ⟨f - 1, by omega⟩
        refine jump_back ⟨v', n / 128, _, _, _, _, _, _, _, _, _, _, _, _, _, _, _, _, _, _, _, _, _, _, _, _, _, _, _, _, _, _, _, rfl, ys ++ [b8 ((n % 128).toNat + 128)], k + 1, f', ho2, hk.trans hk2 (fun i hi => hs i hi), hs.trans hs2 hsz, ?_, ?_, ?_, ?_, ?_⟩ ?_
        · simp
          omega
        · have := HK.out
          omega
        · rw [Int.pow_succ] at hnf1
          omega
        · rw [Int.pow_succ] at hnf2
          omega
        · have h := HE.out
          rw [putSF, if_neg hstop] at h
          rw [← h]
          simp
        · simp [intOf]
          omega
  · intro H
    apply wp_seq_k
    intro K hK
    apply wp_label
    apply hK
    exact H _ _ ⟨b, u, _, _, _, _, _, _, _, _, _, _, _, _, _, _, _, _, _, _, _, _, _, _, _, _, _, _, _, _, _, _, _, rfl, xs, 0, 9, hown, Keeps.refl _ _, SameOrNew.refl _ _, by omega, rfl, by omega, by omega, rfl⟩
end Go.Proofs.Ytpknafidbmnjpaa
