/-
  What the kit's shell tells of a slice that came in, in this seat's words. No condition.
-/
import Derived.Test.YtpknafidbmnjpaaBase
import Derived.OpenShut
namespace Go.Proofs.Ytpknafidbmnjpaa
open Go.RowKit

/-- A slice of numbers. -/
def IsInts (k : IntKind) (w : World) (a : Option Addr) (zs : List Int) : Prop :=
  ∀ i x, zs[i]? = some x → ∃ b off, a = some ⟨b, off, none⟩ ∧ w.cell? ⟨b, off + i, none⟩ = some (.int k x)

theorem IsInts.below {k : IntKind} {w w' : World} {a : Option Addr} {zs : List Int} (h : IsInts k w a zs) (hb : Below w.heap.size w w') : IsInts k w' a zs := fun i x hx => by
  obtain ⟨b, off, ha, hc⟩ := h i x hx
  exact ⟨b, off, ha, by rw [hb.cell (World.block_lt_of_cell? w _ hc)]; exact hc⟩

def RowIs (k : IntKind) (w : World) (a : Option Addr) (len cap : Nat) (zs : List Int) : Prop :=
  (a = none ∧ len = 0 ∧ cap = 0 ∧ zs = []) ∨
  ∃ x, a = some x ∧ len ≤ cap ∧ cap ≤ maxLen ∧ zs.length = cap ∧ (∀ i, i < zs.length → w.cell? (x.add i) = some (.int k (zs.getD i 0))) ∧ ∀ n ∈ zs, (Lit.int k n).wf = true

theorem row_ints {k : IntKind} {w : World} {a : Option Addr} {len cap : Nat} {zs : List Int} (h : RowIs k w a len cap zs) :
    (zs.take len).length = len ∧ len ≤ cap ∧ cap ≤ maxLen ∧ IsInts k w a (zs.take len) ∧ ∀ x ∈ zs.take len, (Lit.int k x).wf = true := by
  rcases h with ⟨rfl, rfl, rfl, rfl⟩ | ⟨x, rfl, h1, h2, h3, h4, h5⟩
  · exact ⟨rfl, Nat.le_refl _, by simp [maxLen], fun i x hx => by simp at hx, by simp⟩
  · refine ⟨by rw [List.length_take]; omega, h1, h2, fun i y hy => ?_, fun y hy => h5 y (List.mem_of_mem_take hy)⟩
    rw [List.getElem?_take] at hy
    split at hy
    · rename_i hi
      have hiz : i < zs.length := (List.getElem?_eq_some_iff.1 hy).1
      obtain ⟨b, off, spot⟩ := x
      have c0 := h4 0 (by omega)
      have hs : spot = none := by simpa [Addr.add] using World.cell?_spot c0
      subst hs
      refine ⟨b, off, rfl, ?_⟩
      have ci := h4 i hiz
      have e : zs.getD i 0 = y := by simp [List.getD, hy]
      rw [e] at ci
      have hadd : (⟨b, off, none⟩ : Addr).add i = ⟨b, off + i, none⟩ := by
        unfold Addr.add
        split <;> simp_all
      rwa [hadd] at ci
    · cases hy

theorem row_bytes {w : World} {a : Option Addr} {len cap : Nat} {zs : List Int} (h : RowIs .u8 w a len cap zs) : ∃ l : List UInt8, l.length = len ∧ IsBytes w (.slice a len cap) l := by
  obtain ⟨h1, h2, h3, h4, h5⟩ := row_ints h
  refine ⟨(zs.take len).map fun n => b8 n.toNat, by simpa using h1, a, cap, by rw [List.length_map, h1], by rw [List.length_map, h1]; exact h2, h3, fun i x hx => ?_⟩
  rw [List.getElem?_map] at hx
  cases hz : (zs.take len)[i]? with
  | none => rw [hz] at hx; cases hx
  | some z =>
    rw [hz] at hx
    injection hx with hx
    subst hx
    obtain ⟨b, off, ha, hc⟩ := h4 i z hz
    refine ⟨b, off, ha, ?_⟩
    rw [hc]
    obtain ⟨g1, g2⟩ := bounds_u8 (h5 z (List.mem_of_getElem? hz))
    rw [bv, b8_toNat (by omega)]
    congr 2
    omega
end Go.Proofs.Ytpknafidbmnjpaa
