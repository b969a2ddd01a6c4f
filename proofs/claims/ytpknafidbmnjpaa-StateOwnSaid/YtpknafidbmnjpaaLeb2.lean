/-
  Walks of leb.length, leb.same: what they tell of bytes.
-/
import Derived.Test.YtpknafidbmnjpaaLeb1
import Derived.Deep.RegionWith
import Derived.Deep.QuietTactic
import Derived.BigQuiet
namespace Go.Proofs.Ytpknafidbmnjpaa
open Go.RowKit

/-- How many bytes at the beginning say that another one follows. -/
def cont : List UInt8 → Nat
  | [] => 0
  | x :: l => if 128 ≤ x.toNat then cont l + 1 else 0

theorem cont_le : ∀ l : List UInt8, cont l ≤ l.length
  | [] => Nat.le_refl _
  | x :: l => by
    have := cont_le l
    simp only [cont, List.length_cons]
    split <;> omega

theorem cont_lt : ∀ (l : List UInt8) (i : Nat) (x : UInt8), l[i]? = some x → i < cont l → 128 ≤ x.toNat
  | [], i, x, h, _ => by simp at h
  | y :: l, 0, x, h, hi => by
    simp at h
    subst h
    simp only [cont] at hi
    split at hi
    · assumption
    · omega
  | y :: l, i + 1, x, h, hi => by
    simp only [cont] at hi
    split at hi
    · exact cont_lt l i x (by simpa using h) (by omega)
    · omega

theorem cont_at : ∀ (l : List UInt8) (x : UInt8), l[cont l]? = some x → x.toNat < 128
  | [], x, h => by simp at h
  | y :: l, x, h => by
    simp only [cont] at h
    split at h
    · exact cont_at l x (by simpa using h)
    · rename_i hy
      simp at h
      subst h
      omega

/-- leb.length's answer: how many bytes, which error. -/
def lenRes (bits : Int) (l : List UInt8) : Nat × Int :=
  if bits < 1 ∨ 64 < bits then (0, 3)
  else if (bits + 6) / 7 ≤ cont l then (0, 1)
  else if cont l = l.length then (0, 2)
  else (cont l + 1, 0)

def LenEnd (bits : Int) (l : List UInt8) (w : World) (e : Ending) (w' : World) : Prop :=
  e = .returned (.tuple #[.int .i64 (lenRes bits l).1, .int .i64 (lenRes bits l).2]) ∧ w = w'

/-- The loop's head: n bytes have been looked at. -/
def LenJ (l : List UInt8) (most : Nat) (w w' : World) (n : Nat) : Prop := w' = w ∧ n ≤ most ∧ n ≤ cont l

set_option maxRecDepth 100000 in
theorem length_any (b : Value) (l : List UInt8) (bits : Int) (w : World) (hb : IsBytes w b l) (hb1 : -9223372036854775808 ≤ bits) (hb2 : bits ≤ 9223372036854775807) :
    Calls Try.prog 57 #[b, .int .i64 bits] w (LenEnd bits l w) := by
  obtain ⟨a, cap, rfl, hl, hm, hc⟩ := hb
  unfold maxLen at hm
  have HC := Lib.hid hc
  clear hc
  by_cases h1 : bits < 1
  · go_enter Try.func57, Try.ntmps57
    go_wp2
    go_step3
    go_wp2
    rw [Exit.noGoto_ret]
    go_ret2
    exact ⟨by rw [lenRes, if_pos (.inl h1)]; rfl, rfl⟩
  by_cases h2 : 64 < bits
  · go_enter Try.func57, Try.ntmps57
    go_wp2
    go_step3
    go_wp2
    rw [Exit.noGoto_ret]
    go_ret2
    exact ⟨by rw [lenRes, if_pos (.inr h2)]; rfl, rfl⟩
  have hcl := cont_le l
  obtain ⟨q, hq⟩ : ∃ q : Nat, (q : Int) = (bits + 6) / 7 := ⟨((bits + 6) / 7).toNat, by omega⟩
  have hq0 : 1 ≤ q := by omega
  have hq1 : q ≤ 10 := by omega
  have HQ := Lib.hid hq
  clear hq
  go_enter Try.func57, Try.ntmps57
  go_wp2
  refine wp_scope_goto 0 (fun a' w' => ∃ (n : Nat) (u8 u9 u10 u11 u12 u13 u14 u15 u16 u17 u18 u19 u20 u21 u22 u23 u24 u25 u26 u27 u28 u29 u30 u31 u32 u33 u34 u35 u36 : Value), a' = { tmps := #[.slice a l.length cap, .int .i64 bits, undef, undef, .int .i64 0, .int .i64 0, .int .i64 n, .int .i64 q, u8, u9, u10, u11, u12, u13, u14, u15, u16, u17, u18, u19, u20, u21, u22, u23, u24, u25, u26, u27, u28, u29, u30, u31, u32, u33, u34, u35, u36], defers := [] } ∧ LenJ l q w w' n) (fun a' _ => (q - (intOf (a'.tmps.getD 6 undef)).toNat)) rfl ?_ ?_
  · rintro a' w1 ⟨n, u8, u9, u10, u11, u12, u13, u14, u15, u16, u17, u18, u19, u20, u21, u22, u23, u24, u25, u26, u27, u28, u29, u30, u31, u32, u33, u34, u35, u36, rfl, hJ⟩
    obtain ⟨rfl, hn, hnc⟩ := hJ
    by_cases e1 : n = q
    · subst e1
      go_wp2
      rw [jump_ret]
      go_ret2
      exact ⟨by rw [lenRes, if_neg (by omega), if_pos (by have := HQ.out; omega)]; rfl, rfl⟩
    have b1 := ieq_false (a := (n : Int)) (b := (q : Int)) (by omega)
    by_cases e2 : n = l.length
    · subst e2
      go_wp2
      rw [jump_ret]
      go_ret2
      exact ⟨by rw [lenRes, if_neg (by omega), if_neg (by have := HQ.out; omega), if_pos (by omega)]; rfl, rfl⟩
    have b2 := ieq_false (a := (n : Int)) (b := (l.length : Int)) (by omega)
    obtain ⟨x, hx⟩ : ∃ x, l[n]? = some x := ⟨_, List.getElem?_eq_getElem (show n < l.length by omega)⟩
    obtain ⟨b, off, rfl, hc⟩ := HC.out n x hx
    have hx8 := x.toNat_lt
    have HX := Lib.hid hx
    clear hx
    have hlt : n < l.length := by omega
    by_cases e3 : 128 ≤ x.toNat
    · have hnc' : n < cont l := by
        rcases Nat.lt_or_ge n (cont l) with h | h
        · exact h
        · obtain rfl : n = cont l := by omega
          have := cont_at l x HX.out
          omega
      go_wp2
      go_step3
      simp only [Exit.inBlock, Exit.then]
      refine jump_back ⟨n + 1, _, _, _, _, _, _, _, _, _, _, _, _, _, _, _, _, _, _, _, _, _, _, _, _, _, _, _, _, _, rfl, rfl, by omega, by omega⟩ ?_
      simp [intOf]
      omega
    · have hnc' : n = cont l := by
        rcases Nat.lt_or_ge n (cont l) with h | h
        · have := cont_lt l n x HX.out h
          omega
        · omega
      have HN := Lib.hid hnc'
      clear hnc'
      go_wp2
      rw [jump_ret]
      go_ret2
      refine ⟨?_, rfl⟩
      have := HN.out
      have := HQ.out
      rw [lenRes, if_neg (by omega), if_neg (by omega), if_neg (by omega), ← HN.out]
      go_num
  · intro H
    have Hh := Lib.hid H
    clear H
    go_wp2
    go_step3
    go_step
    go_step
    have e7 : (bits + 7 - 1) / 7 = (q : Int) := by have := HQ.out; omega
    rw [e7]
    refine Hh.out _ _ ⟨0, _, _, _, _, _, _, _, _, _, _, _, _, _, _, _, _, _, _, _, _, _, _, _, _, _, _, _, _, _, rfl, rfl, by omega, by omega⟩

def SameEnd (l m : List UInt8) (w : World) (e : Ending) (w' : World) : Prop := e = .returned (.bool (l == m)) ∧ w = w'

theorem same_any (a b : Value) (l m : List UInt8) (w : World) (ha : IsBytes w a l) (hb : IsBytes w b m) :
    Calls Try.prog 58 #[a, b] w (SameEnd l m w) := by
  have h1 := run_str ha
  have h2 := run_str hb
  clear ha hb
  go_enter Try.func58, Try.ntmps58
  go_wp2
  go_ret
  exact ⟨by rw [bs_toList, bs_toList]; rfl, rfl⟩
end Go.Proofs.Ytpknafidbmnjpaa
