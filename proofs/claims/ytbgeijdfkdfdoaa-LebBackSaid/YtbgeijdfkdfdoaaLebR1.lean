/-
  Walks of the references U, S, whole.
-/
import Derived.Test.YtbgeijdfkdfdoaaLeb6
namespace Go.Proofs.Ytbgeijdfkdfdoaa
open Go.RowKit

def RefEnd (l : List UInt8) (w : World) (e : Ending) (w' : World) : Prop := ∃ v, e = .returned v ∧ OwnBytes w' w.heap.size v l ∧ Below w.heap.size w w'

def RefUJ (u : Nat) (w w' : World) (v : Value) (n : Nat) : Prop :=
  ∃ (ys : List UInt8) (k f : Nat), OwnBytes w' w.heap.size v ys ∧ Below w.heap.size w w' ∧ ys.length ≤ k ∧ k + f = 9 ∧ n < 2 * 128 ^ f ∧ n < 18446744073709551616 ∧ ys ++ putUF (f + 1) n = putUF 10 u

set_option maxRecDepth 100000 in
set_option maxHeartbeats 1000000 in
theorem refU_any (u : Nat) (h1 : u < 18446744073709551616) (w : World) : Calls Try.prog 19 #[.int .u64 u] w (RefEnd (putU u) w) := by
  go_enter Try.func19, Try.ntmps19
  go_wp2

  refine wp_loop (fun a' w' => ∃ (v : Value) (n : Nat) (u4 u5 u6 u7 u8 u9 u10 u11 u12 u13 u14 u15 u16 u17 u18 u19 : Value), a' = { tmps := #[.int .u64 n, undef, .slice none 0 0, v, u4, u5, u6, u7, u8, u9, u10, u11, u12, u13, u14, u15, u16, u17, u18, u19], defers := [] } ∧ RefUJ u w w' v n) (fun a' _ => (intOf (a'.tmps.getD 0 undef)).toNat) ?_ ?_
  · exact ⟨_, u, _, _, _, _, _, _, _, _, _, _, _, _, _, _, _, _, rfl, [], 0, 9, OwnBytes.nil _ _, Below.refl _ _, by simp, rfl, by omega, h1, rfl⟩
  · rintro a' w1 ⟨v, n, u4, u5, u6, u7, u8, u9, u10, u11, u12, u13, u14, u15, u16, u17, u18, u19, rfl, hJ⟩
    obtain ⟨ys, k, f, hown, hb, hlen, hkf, hnf, hn64, heq⟩ := hJ
    have HE := Lib.hid heq
    have HK := Lib.hid hkf
    have hk9 : k ≤ 9 := by omega
    clear heq hkf
    have hsz := hb.size
    by_cases hlt : n < 128
    · go_wp2_with (first | (at_builtin; refine wpList_byte w1 rfl _ _ rfl rfl w.heap.size v ys rfl hown (b8 n) _ ?_ rfl ?_ ?_ ?_))
      · rw [b8_toNat (by omega)]
      · omega
      · omega
      · intro v' w2 ho2 hk2 hs2
        go_wp2
        go_ret
        refine ⟨v', rfl, ?_, hb.trans (hk2.below hsz (fun i hi => (own_lt hown hi).1))⟩
        have h := HE.out
        rw [putUF, if_pos hlt] at h
        rw [putU, ← h]
        exact ho2
    · go_wp2_with (first | (at_builtin; refine wpList_byte w1 rfl _ _ rfl rfl w.heap.size v ys rfl hown (b8 (n % 128 + 128)) _ ?_ rfl ?_ ?_ ?_))
      · rw [b8_toNat (by omega)]
        omega
      · omega
      · omega
      · intro v' w2 ho2 hk2 hs2
        go_wp2
        have hf : f ≠ 0 := by
          rintro rfl
          omega
        obtain ⟨f', rfl⟩ : ∃ f', f = f' + 1 := ⟨f - 1, by omega⟩
        have hnq : ((n : Int) / 128) = ((n / 128 : Nat) : Int) := by omega
        rw [hnq]
        refine ⟨⟨v', n / 128, _, _, _, _, _, _, _, _, _, _, _, _, _, _, _, _, rfl, ys ++ [b8 (n % 128 + 128)], k + 1, f', ho2, hb.trans (hk2.below hsz (fun i hi => (own_lt hown hi).1)), ?_, ?_, ?_, ?_, ?_⟩, ?_⟩
        · simp
          omega
        · have := HK.out
          omega
        · rw [Nat.pow_succ] at hnf
          omega
        · omega
        · have h := HE.out
          rw [putUF, if_neg hlt] at h
          rw [← h]
          simp
        · simp [intOf]
          omega

theorem and127 (n : Int) : bits .and .i64 n 127 = n % 128 := by
  unfold bits
  simp only [IntKind.bits, IntKind.wrap_i64]
  have e1 : (BitVec.ofInt 64 n).toNat = (n % 18446744073709551616).toNat := by simp [BitVec.toNat_ofInt]
  have e3 : (BitVec.ofInt 64 n &&& BitVec.ofInt 64 127).toNat = (n % 18446744073709551616).toNat % 128 := by
    rw [BitVec.toNat_and, e1]
    exact nat_mask7 _
  have e4 := congrArg (fun n : Nat => ((n : Int) + 9223372036854775808) % 18446744073709551616 - 9223372036854775808) e3
  refine Eq.trans e4 ?_
  omega

def RefSJ (u : Int) (w w' : World) (v : Value) (n : Int) : Prop :=
  ∃ (ys : List UInt8) (k f : Nat), OwnBytes w' w.heap.size v ys ∧ Below w.heap.size w w' ∧ ys.length ≤ k ∧ k + f = 9 ∧ -((128 : Int) ^ f) ≤ n ∧ n < 128 ^ f ∧ ys ++ putSF (f + 1) n = putSF 10 u


set_option maxRecDepth 100000 in
set_option maxHeartbeats 1000000 in
theorem refS_any (u : Int) (h0 : -9223372036854775808 ≤ u) (h1 : u ≤ 9223372036854775807) (w : World) : Calls Try.prog 20 #[.int .i64 u] w (RefEnd (putS u) w) := by
  go_enter Try.func20, Try.ntmps20
  go_wp2
  refine wp_loop (fun a' w' => ∃ (v : Value) (n : Int) (u4 u5 u6 u7 u8 u9 u10 u11 u12 u13 u14 u15 u16 u17 u18 u19 u20 u21 u22 u23 u24 : Value), a' = { tmps := #[.int .i64 n, undef, .slice none 0 0, v, u4, u5, u6, u7, u8, u9, u10, u11, u12, u13, u14, u15, u16, u17, u18, u19, u20, u21, u22, u23, u24], defers := [] } ∧ RefSJ u w w' v n) (fun a' _ => (intOf (a'.tmps.getD 0 undef)).natAbs) ?_ ?_
  · exact ⟨_, u, _, _, _, _, _, _, _, _, _, _, _, _, _, _, _, _, _, _, _, _, _, rfl, [], 0, 9, OwnBytes.nil _ _, Below.refl _ _, by simp, rfl, by omega, by omega, rfl⟩
  · rintro a' w1 ⟨v, n, u4, u5, u6, u7, u8, u9, u10, u11, u12, u13, u14, u15, u16, u17, u18, u19, u20, u21, u22, u23, u24, rfl, hJ⟩
    obtain ⟨ys, k, f, hown, hb, hlen, hkf, hnf1, hnf2, heq⟩ := hJ
    have HE := Lib.hid heq
    have HK := Lib.hid hkf
    have hk9 : k ≤ 9 := by omega
    clear heq hkf
    have hsz := hb.size
    have h63 : ys.length ≤ 140737488355327 := by omega
    by_cases n0 : n < -64
    · have hstop : ¬ (-64 ≤ n ∧ n < 64) := by omega
      have hm : (bits .and .i64 n 127 + 128) % 256 = ((b8 ((n % 128).toNat + 128)).toNat : Int) := by
        rw [b8_toNat (by omega), and127]
        omega
      have HM := Lib.hid hm
      clear hm
      have HS := Lib.hid hstop
      clear hstop
      go_wp2_with (first | (at_builtin; refine wpList_byte w1 rfl _ _ rfl rfl w.heap.size v ys rfl hown (b8 ((n % 128).toNat + 128)) _ HM.out rfl h63 hsz ?_))
      · intro v' w2 ho2 hk2 hs2
        go_wp2
        have hstop := HS.out
        have hf : f ≠ 0 := by
          rintro rfl
          omega
        obtain ⟨f', rfl⟩ : ∃ f', f = f' + 1 := ⟨f - 1, by omega⟩
        refine ⟨⟨v', n / 128, _, _, _, _, _, _, _, _, _, _, _, _, _, _, _, _, _, _, _, _, _, rfl, ys ++ [b8 ((n % 128).toNat + 128)], k + 1, f', ho2, hb.trans (hk2.below hsz (fun i hi => (own_lt hown hi).1)), ?_, ?_, ?_, ?_, ?_⟩, ?_⟩
        · simp
          omega
        · have := HK.out
          omega
        · rw [Int.pow_succ] at hnf1
          omega
        · rw [Int.pow_succ] at hnf2
          omega
        · have h := HE.out
          rw [putSF, if_neg hstop] at h
          rw [← h]
          simp
        · simp [intOf]
          omega
    by_cases n1 : 63 < n
    · have hstop : ¬ (-64 ≤ n ∧ n < 64) := by omega
      have hm : (bits .and .i64 n 127 + 128) % 256 = ((b8 ((n % 128).toNat + 128)).toNat : Int) := by
        rw [b8_toNat (by omega), and127]
        omega
      have HM := Lib.hid hm
      clear hm
      have HS := Lib.hid hstop
      clear hstop
      go_wp2_with (first | (at_builtin; refine wpList_byte w1 rfl _ _ rfl rfl w.heap.size v ys rfl hown (b8 ((n % 128).toNat + 128)) _ HM.out rfl h63 hsz ?_))
      · intro v' w2 ho2 hk2 hs2
        go_wp2
        have hstop := HS.out
        have hf : f ≠ 0 := by
          rintro rfl
          omega
        obtain ⟨f', rfl⟩ : ∃ f', f = f' + 1 := ⟨f - 1, by omega⟩
        refine ⟨⟨v', n / 128, _, _, _, _, _, _, _, _, _, _, _, _, _, _, _, _, _, _, _, _, _, rfl, ys ++ [b8 ((n % 128).toNat + 128)], k + 1, f', ho2, hb.trans (hk2.below hsz (fun i hi => (own_lt hown hi).1)), ?_, ?_, ?_, ?_, ?_⟩, ?_⟩
        · simp
          omega
        · have := HK.out
          omega
        · rw [Int.pow_succ] at hnf1
          omega
        · rw [Int.pow_succ] at hnf2
          omega
        · have h := HE.out
          rw [putSF, if_neg hstop] at h
          rw [← h]
          simp
        · simp [intOf]
          omega
    · have hstop : -64 ≤ n ∧ n < 64 := by omega
      have HS := Lib.hid hstop
      clear hstop
      have hm : bits .and .i64 n 127 % 256 = ((b8 (n % 128).toNat).toNat : Int) := by
        rw [b8_toNat (by omega), and127]
        omega
      have HM := Lib.hid hm
      clear hm
      go_wp2_with (first | (at_builtin; refine wpList_byte w1 rfl _ _ rfl rfl w.heap.size v ys rfl hown (b8 (n % 128).toNat) _ HM.out rfl h63 hsz ?_))
      · intro v' w2 ho2 hk2 hs2
        go_wp2
        go_ret
        refine ⟨v', rfl, ?_, hb.trans (hk2.below hsz (fun i hi => (own_lt hown hi).1))⟩
        have h := HE.out
        rw [putSF, if_pos HS.out] at h
        rw [putS, ← h]
        exact ho2

/-- whole: for bits in range it is lenRes. -/
def WJ (l : List UInt8) (q : Nat) (w w' : World) (n : Nat) : Prop := w' = w ∧ n ≤ q ∧ n ≤ cont l

set_option maxRecDepth 100000 in
set_option maxHeartbeats 1000000 in
theorem whole_any (b : Value) (l : List UInt8) (bits : Int) (w : World) (hb : IsBytes w b l) (hb1 : 1 ≤ bits) (hb2 : bits ≤ 64) :
    Calls Try.prog 47 #[b, .int .i64 bits] w (LenEnd bits l w) := by
  obtain ⟨a, cap, rfl, hl, hm, hc⟩ := hb
  unfold maxLen at hm
  have HC := Lib.hid hc
  clear hc
  have hcl := cont_le l
  obtain ⟨q, hq⟩ : ∃ q : Nat, (q : Int) = (bits + 6) / 7 := ⟨((bits + 6) / 7).toNat, by omega⟩
  have hq0 : 1 ≤ q := by omega
  have hq1 : q ≤ 10 := by omega
  have HQ := Lib.hid hq
  clear hq
  go_enter Try.func47, Try.ntmps47
  go_wp2
  rw [← HQ.out]
  refine wp_loop (fun a' w' => ∃ (n : Nat) (u8 u9 u10 u11 u12 u13 u14 u15 u16 u17 u18 u19 u20 u21 u22 u23 u24 u25 u26 u27 u28 u29 u30 u31 u32 : Value), a' = { tmps := #[.slice a l.length cap, .int .i64 bits, undef, undef, .int .i64 0, .int .i64 0, .int .i64 q, .int .i64 n, u8, u9, u10, u11, u12, u13, u14, u15, u16, u17, u18, u19, u20, u21, u22, u23, u24, u25, u26, u27, u28, u29, u30, u31, u32], defers := [] } ∧ WJ l q w w' n) (fun a' _ => q - (intOf (a'.tmps.getD 7 undef)).toNat) ?_ ?_
  · exact ⟨0, _, _, _, _, _, _, _, _, _, _, _, _, _, _, _, _, _, _, _, _, _, _, _, _, _, rfl, rfl, by omega, by omega⟩
  · rintro a' w1 ⟨n, u8, u9, u10, u11, u12, u13, u14, u15, u16, u17, u18, u19, u20, u21, u22, u23, u24, u25, u26, u27, u28, u29, u30, u31, u32, rfl, hJ⟩
    obtain ⟨rfl, hn, hnc⟩ := hJ
    by_cases e2 : n < l.length
    · by_cases e1 : n < q
      · obtain ⟨x, hx⟩ : ∃ x, l[n]? = some x := ⟨_, List.getElem?_eq_getElem e2⟩
        obtain ⟨b, off, rfl, hc⟩ := HC.out n x hx
        have hx8 := x.toNat_lt
        have HX := Lib.hid hx
        clear hx
        by_cases e3 : x.toNat < 128
        · have hnc' : n = cont l := by
            rcases Nat.lt_or_ge n (cont l) with h | h
            · have := cont_lt l n x HX.out h
              omega
            · omega
          have HN := Lib.hid hnc'
          clear hnc'
          go_wp2
          go_ret2
          refine ⟨?_, rfl⟩
          have := HQ.out
          rw [lenRes, if_neg (by omega), if_neg (by have := HN.out; omega), if_neg (by have := HN.out; omega), ← HN.out]
          go_num
        · have hnc' : n < cont l := by
            rcases Nat.lt_or_ge n (cont l) with h | h
            · exact h
            · obtain rfl : n = cont l := by omega
              have := cont_at l x HX.out
              omega
          go_wp2
          refine ⟨⟨n + 1, _, _, _, _, _, _, _, _, _, _, _, _, _, _, _, _, _, _, _, _, _, _, _, _, _, rfl, rfl, by omega, by omega⟩, ?_⟩
          simp [intOf]
          omega
      · have hnq : n = q := by omega
        have HN := Lib.hid hnq
        clear hnq
        have hge : q ≤ l.length := by omega
        go_wp2
        go_ret2
        refine ⟨?_, rfl⟩
        have := HQ.out
        rw [lenRes, if_neg (by omega), if_pos (by have := HN.out; omega)]
        rfl
    · have hnl : n = l.length := by omega
      have hcc : cont l = l.length := by omega
      by_cases e1 : q ≤ l.length
      · have HN := Lib.hid hnl
        have HC := Lib.hid hcc
        clear hnl hcc
        go_wp2
        go_ret2
        refine ⟨?_, rfl⟩
        have := HQ.out
        rw [lenRes, if_neg (by omega), if_pos (by have := HC.out; omega)]
        rfl
      · have HN := Lib.hid hnl
        have HC := Lib.hid hcc
        clear hnl hcc
        go_wp2
        go_ret2
        refine ⟨?_, rfl⟩
        have := HQ.out
        rw [lenRes, if_neg (by omega), if_neg (by have := HC.out; omega), if_pos HC.out]
        rfl
end Go.Proofs.Ytbgeijdfkdfdoaa
