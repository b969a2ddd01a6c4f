/-
  An operation with a guard that is met, walked as one without. No condition.
-/
import Derived.Test.YtpknafidbmnjpaaSeq
namespace Go.Proofs.Ytpknafidbmnjpaa
open Go.RowKit

theorem wpList_unguard {P : Program} {ops : Array Oper} {rest : List Oper} {o : Oper} {a : Act} {w : World} {Q : Exit → Act → World → Prop} (hg : gdOk ops.toList o.guard a = true)
    (h : wpList P ops Q (⟨o.dst, o.op, o.type, o.pos, o.after, none⟩ :: rest) a w) : wpList P ops Q (o :: rest) a w := by
  rw [← gdOk_eq] at hg
  unfold wpList at h ⊢
  rw [if_pos hg]
  rw [if_pos (by simp [Region.wanted])] at h
  exact h
end Go.Proofs.Ytpknafidbmnjpaa
