/-
  The law LebAny: any bytes begin with a number, or not, of any bits. No condition.
-/
import Derived.Test.YtbgeijdfkdfdoaaLebR3
import Derived.Test.YtbgeijdfkdfdoaaRow
namespace Go.Proofs.Ytbgeijdfkdfdoaa
open Go.RowKit

def ShortEnd (l : List UInt8) (n : Nat) (w : World) (e : Ending) (w' : World) : Prop := w = w' ∧ ∃ v, e = .returned v ∧ IsBytes w v (l.take n)

theorem short_any (b : Value) (l : List UInt8) (n : Nat) (hn : n ≤ 1000000) (w : World) (hb : IsBytes w b l) :
    Calls Try.prog 16 #[b, .int .i64 n] w (ShortEnd l n w) := by
  have HB := Lib.hid hb
  obtain ⟨a, cap, rfl, hl, hm, _⟩ := hb
  unfold maxLen at hm
  by_cases h : n < l.length
  · go_enter Try.func16, Try.ntmps16
    go_wp2
    go_ret
    exact ⟨rfl, _, rfl, HB.out.take n (by omega)⟩
  · go_enter Try.func16, Try.ntmps16
    go_wp2
    go_ret
    refine ⟨rfl, _, rfl, ?_⟩
    rw [List.take_of_length_le (by omega)]
    exact HB.out

set_option maxRecDepth 100000 in
set_option maxHeartbeats 1000000 in
theorem any_any (b : Value) (l : List UInt8) (bits : Int) (w : World) (hb : IsBytes w b l) (hb1 : -9223372036854775808 ≤ bits) (hb2 : bits ≤ 9223372036854775807) :
    Calls Try.prog 4 #[b, .int .i64 bits] w (TrueEnd w) := by
  go_enter Try.func4, Try.ntmps4
  go_wp2_with fail
  refine (begun_any _).mono ?_
  rintro e w1 ⟨rfl, h1⟩
  replace hb := hb.below h1
  go_wp2_with fail
  refine (short_any b l 20 (by omega) w1 hb).mono ?_
  rintro e w2 ⟨rfl, v, rfl, hv⟩
  generalize l.take 20 = m at hv
  clear hb
  go_wp2_with fail
  refine (U_any v m bits _ hv hb1 hb2).mono ?_
  rintro e w2 ⟨rfl, h2⟩
  replace hv := hv.below h2
  replace h1 := below_next h1 h2
  clear h2
  go_wp2_with fail
  refine (GetU_any v m bits _ hv hb1 hb2).mono ?_
  rintro e w3 ⟨rfl, h2⟩
  replace hv := hv.below h2
  replace h1 := below_next h1 h2
  clear h2
  go_wp2_with fail
  refine (S_any v m bits _ hv hb1 hb2).mono ?_
  rintro e w4 ⟨rfl, h2⟩
  replace hv := hv.below h2
  replace h1 := below_next h1 h2
  clear h2
  go_wp2_with fail
  refine (GetS_any v m bits _ hv hb1 hb2).mono ?_
  rintro e w5 ⟨rfl, h2⟩
  replace h1 := below_next h1 h2
  clear h2
  go_wp2_with fail
  go_ret
  exact ⟨rfl, h1⟩

theorem any_row (a0 : Option Addr) (len0 cap0 : Nat) (z0 : List Int) (bits : Int) (w : World) (w0 : RowIs .u8 w a0 len0 cap0 z0) (w1 : (Lit.int .i64 bits).wf = true) :
    Calls Try.prog 4 #[.slice a0 len0 cap0, .int .i64 bits] w (TrueEnd w) := by
  obtain ⟨l, _, hl⟩ := row_bytes w0
  obtain ⟨h1, h2⟩ := bounds_i64 w1
  exact any_any _ l bits w hl h1 h2
end Go.Proofs.Ytbgeijdfkdfdoaa
