/-
  Walk of Short.
-/
import Derived.Test.YtpknafidbmnjpaaPlain
namespace Go.Proofs.Ytpknafidbmnjpaa
open Go.RowKit

def ShortEnd (l : List UInt8) (n : Nat) (w : World) (e : Ending) (w' : World) : Prop := w = w' ∧ ∃ v, e = .returned v ∧ IsBytes w v (l.take n)

theorem short_any (b : Value) (l : List UInt8) (n : Nat) (hn : n ≤ 1000000) (w : World) (hb : IsBytes w b l) :
    Calls Try.prog 16 #[b, .int .i64 n] w (ShortEnd l n w) := by
  have HB := Lib.hid hb
  obtain ⟨a, cap, rfl, hl, hm, _⟩ := hb
  unfold maxLen at hm
  by_cases h : n < l.length
  · go_enter Try.func16, Try.ntmps16
    go_wp2
    go_ret
    exact ⟨rfl, _, rfl, HB.out.take n (by omega)⟩
  · go_enter Try.func16, Try.ntmps16
    go_wp2
    go_ret
    refine ⟨rfl, _, rfl, ?_⟩
    rw [List.take_of_length_le (by omega)]
    exact HB.out
end Go.Proofs.Ytpknafidbmnjpaa
