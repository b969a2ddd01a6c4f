/-
  Walk of diapauselaw1.begun: the statements' own first example.
-/
import Derived.Test.YtbgeijdfkdfdoaaLeb5
namespace Go.Proofs.Ytbgeijdfkdfdoaa
open Go.RowKit

def TrueEnd (w : World) (e : Ending) (w' : World) : Prop := e = .returned (.bool true) ∧ Below w.heap.size w w'

theorem IsBytes.alloc {w : World} {v : Value} {l : List UInt8} (h : IsBytes w v l) (o : Obj) : IsBytes (w.alloc o) v l := h.below ((Below.refl _ _).alloc (Nat.le_refl _) o)
theorem below_next {a b c : World} (h : Below a.heap.size a b) (k : Below b.heap.size b c) : Below a.heap.size a c := h.trans (k.mono h.size)
theorem below_alloc {a b : World} (h : Below a.heap.size a b) (o : Obj) : Below a.heap.size a (b.alloc o) := h.alloc h.size o
theorem keeps_nil {a b : World} {v : Value} (h : Keeps (OwnB v) a b) (hv : v.ownBlock = none) : Below a.heap.size a b := h.below (Nat.le_refl _) (fun i hi => by rw [OwnB, hv] at hi; cases hi)

theorem lit_isBytes (w : World) (l : List UInt8) (h : l.length ≤ 1000000) : IsBytes (w.alloc (.cells (l.map bv).toArray 5)) (.slice (some ⟨w.heap.size, 0, none⟩) l.length l.length) l := by
  refine ⟨_, l.length, rfl, Nat.le_refl _, by simp [maxLen]; omega, fun i x hx => ⟨w.heap.size, 0, rfl, ?_⟩⟩
  rw [Nat.zero_add, World.cell?_alloc_new]
  simp [hx]

set_option maxRecDepth 100000 in
set_option maxHeartbeats 2000000 in
theorem begun_any (w : World) : Calls Try.prog 15 #[] w (TrueEnd w) := by
  have u1 : putU 624485 = [0xe5, 0x8e, 0x26] := by decide +kernel
  have u2 : putS (-123456) = [0xc0, 0xbb, 0x78] := by decide +kernel
  have u3 : uRes 32 [0xe5, 0x8e, 0x26] = (624485, 3, 0) := by decide +kernel
  have u4 : sRes 32 [0xc0, 0xbb, 0x78] = (-123456, 3, 0) := by decide +kernel
  have u5 : uRes 32 [0x80, 0] = (0, 0, 1) := by decide +kernel
  have u6 : sRes 32 [0x80] = (0, 0, 2) := by decide +kernel
  have U1 := Lib.hid u1
  have U2 := Lib.hid u2
  have U3 := Lib.hid u3
  have U4 := Lib.hid u4
  have U5 := Lib.hid u5
  have U6 := Lib.hid u6
  clear u1 u2 u3 u4 u5 u6
  go_enter Try.func15, Try.ntmps15
  go_wp2_with fail
  refine (putU_any _ [] 624485 (by omega) w.heap.size w (OwnBytes.nil _ _) (by simp) (Nat.le_refl _)).mono ?_
  rintro e w1 ⟨v1, rfl, ho1, hk1, _⟩
  have hb1 := keeps_nil hk1 rfl
  have i1 := ho1.isBytes
  rw [List.nil_append, U1.out] at i1
  clear ho1 hk1
  go_wp2_with fail
  refine (U_any _ _ 32 w1 i1 (by omega) (by omega)).mono ?_
  rintro e w2 ⟨rfl, hb2⟩
  replace i1 := i1.below hb2
  replace hb1 := below_next hb1 hb2
  rw [U3.out]
  clear hb2
  go_wp2_with fail
  refine (putS_any _ [] (-123456) (by omega) (by omega) w2.heap.size w2 (OwnBytes.nil _ _) (by simp) (Nat.le_refl _)).mono ?_
  rintro e w3 ⟨v3, rfl, ho3, hk3, _⟩
  have hb3 := keeps_nil hk3 rfl
  have i3 := ho3.isBytes
  rw [List.nil_append, U2.out] at i3
  replace i1 := i1.below hb3
  replace hb1 := below_next hb1 hb3
  clear ho3 hk3 hb3
  go_wp2_with fail
  refine (S_any _ _ 32 w3 i3 (by omega) (by omega)).mono ?_
  rintro e w4 ⟨rfl, hb4⟩
  replace i1 := i1.below hb4
  replace i3 := i3.below hb4
  replace hb1 := below_next hb1 hb4
  rw [U4.out]
  clear hb4
  go_wp2_with fail
  refine (U_any _ _ 32 _ (lit_isBytes w4 [0x80, 0] (by simp)) (by omega) (by omega)).mono ?_
  rintro e w5 ⟨rfl, hb5⟩
  replace i1 := (i1.alloc _).below hb5
  replace i3 := (i3.alloc _).below hb5
  replace hb1 := below_next (below_alloc hb1 _) hb5
  rw [U5.out]
  clear hb5
  go_wp2_with fail
  refine (S_any _ _ 32 _ (lit_isBytes w5 [0x80] (by simp)) (by omega) (by omega)).mono ?_
  rintro e w6 ⟨rfl, hb6⟩
  replace i1 := (i1.alloc _).below hb6
  replace i3 := (i3.alloc _).below hb6
  replace hb1 := below_next (below_alloc hb1 _) hb6
  rw [U6.out]
  clear hb6 U1 U2 U3 U4 U5 U6
  obtain ⟨a1, c1, rfl, _, _, f1⟩ := i1
  obtain ⟨a3, c3, rfl, _, _, _⟩ := i3
  obtain ⟨b, off, rfl, hc⟩ := f1 0 _ rfl
  clear f1
  rw [Nat.add_zero] at hc
  go_wp2_with fail
  go_ret
  exact ⟨rfl, hb1⟩
end Go.Proofs.Ytbgeijdfkdfdoaa
