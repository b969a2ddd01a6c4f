/-
  A block of cells by itself: what it holds, through calls and stores.
-/
import Derived.Test.YtpknafidbmnjpaaBase
namespace Go.Proofs.Ytpknafidbmnjpaa
open Go.RowKit

/-- A block holds just these cells, none of them frozen. -/
def Blk (w : World) (X : Nat) (xs : Array Value) (t : TypeId) : Prop := w.heap[X]? = some (.cells xs t)

section
variable {w w' : World} {X : Nat} {xs : Array Value} {t : TypeId}

theorem Blk.lt (h : Blk w X xs t) : X < w.heap.size := (Array.getElem?_eq_some_iff.1 h).1

theorem Blk.new (w : World) (xs : Array Value) (t : TypeId) : Blk (w.alloc (.cells xs t)) w.heap.size xs t := heap_alloc_new w _

theorem Blk.keeps {S : Nat → Prop} (h : Blk w X xs t) (hk : Keeps S w w') (hs : ¬ S X) : Blk w' X xs t := (hk.block X h.lt hs).trans h

theorem Blk.below {B : Nat} (h : Blk w X xs t) (hb : Below B w w') (hX : X < B) : Blk w' X xs t := (hb.block X hX).trans h

theorem Blk.alloc (h : Blk w X xs t) (o : Obj) : Blk (w.alloc o) X xs t := h.below ((Below.refl w.heap.size w).alloc (Nat.le_refl _) o) h.lt

theorem Blk.drew (h : Blk w X xs t) : Blk w.drew X xs t := h

theorem Blk.cell (h : Blk w X xs t) (i : Nat) : w.cell? ⟨X, i, none⟩ = xs[i]? := by
  have := cell_of_row w X i xs _ _ h
  simpa using this

theorem Blk.free (h : Blk w X xs t) (i : Nat) : w.frozen? ⟨X, i, none⟩ = false := frozen_of_row w X i xs _ h

theorem Blk.set (h : Blk w X xs t) (i : Nat) (v : Value) : Blk (w.setCell ⟨X, i, none⟩ v) X (xs.setIfInBounds i v) t := heap_setCell_same w X i xs _ _ h

theorem Blk.other (h : Blk w X xs t) (a : Addr) (v : Value) (ha : X ≠ a.block) : Blk (w.setCell a v) X xs t := (Below.heap_setCell w a v X ha).trans h

theorem Blk.setRow (h : Blk w X xs t) (ys : Array Value) : Blk (w.setRow X ys) X ys t := setRow_heap w X xs ys _ _ h

theorem Blk.otherRow {Y : Nat} {ys : Array Value} (h : Blk w X xs t) (ha : X ≠ Y) : Blk (w.setRow Y ys) X xs t := (setRow_other w Y X ys ha).trans h

theorem Blk.four {x0 x1 x2 x3 : Value} (h : Blk w X #[x0, x1, x2, x3] t) :
    (w.cell? ⟨X, 0, none⟩ = some x0 ∧ w.cell? ⟨X, 1, none⟩ = some x1 ∧ w.cell? ⟨X, 2, none⟩ = some x2 ∧ w.cell? ⟨X, 3, none⟩ = some x3) ∧
    w.frozen? ⟨X, 0, none⟩ = false ∧ w.frozen? ⟨X, 1, none⟩ = false ∧ w.frozen? ⟨X, 2, none⟩ = false ∧ w.frozen? ⟨X, 3, none⟩ = false :=
  ⟨⟨h.cell 0, h.cell 1, h.cell 2, h.cell 3⟩, h.free 0, h.free 1, h.free 2, h.free 3⟩

theorem Blk.set4 {x0 x1 x2 x3 : Value} (h : Blk w X #[x0, x1, x2, x3] t) (y0 y1 y2 y3 : Value) :
    Blk ((((w.setCell ⟨X, 0, none⟩ y0).setCell ⟨X, 1, none⟩ y1).setCell ⟨X, 2, none⟩ y2).setCell ⟨X, 3, none⟩ y3) X #[y0, y1, y2, y3] t := by
  have := (((h.set 0 y0).set 1 y1).set 2 y2).set 3 y3
  simpa using this

theorem Blk.six {x0 x1 x2 x3 x4 x5 : Value} (h : Blk w X #[x0, x1, x2, x3, x4, x5] t) :
    (w.cell? ⟨X, 0, none⟩ = some x0 ∧ w.cell? ⟨X, 1, none⟩ = some x1 ∧ w.cell? ⟨X, 2, none⟩ = some x2 ∧ w.cell? ⟨X, 3, none⟩ = some x3 ∧ w.cell? ⟨X, 4, none⟩ = some x4 ∧ w.cell? ⟨X, 5, none⟩ = some x5) ∧
    w.frozen? ⟨X, 0, none⟩ = false ∧ w.frozen? ⟨X, 1, none⟩ = false ∧ w.frozen? ⟨X, 2, none⟩ = false ∧ w.frozen? ⟨X, 3, none⟩ = false ∧ w.frozen? ⟨X, 4, none⟩ = false ∧ w.frozen? ⟨X, 5, none⟩ = false :=
  ⟨⟨h.cell 0, h.cell 1, h.cell 2, h.cell 3, h.cell 4, h.cell 5⟩, h.free 0, h.free 1, h.free 2, h.free 3, h.free 4, h.free 5⟩

/-- Two results, the first one in a cell. -/
theorem results_cell2 {P : Program} {fn : Func} {t0 u0 : Tmp} {ty : TypeId} (h : fn.results = #[.cell t0 ty, .tmp u0]) (tmps : Array Value) (w : World) {a : Addr} {v : Value} (ht : tmps.getD t0 undef = .pointer (some a))
    (hl : (loadVar ty a).run P w = .ok v w) : (results fn tmps).run P w = .ok (.tuple #[v, tmps.getD u0 undef]) w := by
  have ht' : tmps[t0]?.getD undef = .pointer (some a) := by simpa using ht
  simp [results, h, ht', asAddr, hl]
end
end Go.Proofs.Ytpknafidbmnjpaa
