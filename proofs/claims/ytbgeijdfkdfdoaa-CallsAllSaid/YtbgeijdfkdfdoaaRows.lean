/-
  No cell of these rows narrows 'for every input' (looked for: loops, veiled, ifaces, maps, wideKeys, modest, calm, conditions, laid).
  DERIVED. THE GIVEN ROWS OF THIS SEAT. 12 by the template 'for every input the law returns true; each argument reads behind the call as it read before'; 0 by the template 'total and deterministic' (their statements: YtbgeijdfkdfdoaaTotals.lean).
  GIVEN WITH THE SEED: the statements are not yours to turn. If you find one false, say at which input.
  Laid BY PROGRAM, IN A SANDBOX (cutbox-rows.mjs): the forced cells as the released guide's own fill.sh prints them over the translation fef6acc384e44cc5… (all of the seat's roots in one cut). By AI agents, Wed Nov 11 2026. No macro, syntax, notation, axiom, sorry.
-/
import Derived.Test.YtbgeijdfkdfdoaaChecked
import GoSem.Claim
import GoSem.ClaimJoined
import GoSem.ClaimMapViews
import Derived.JoinedTies
import Derived.KernelRfl
namespace Go.Proofs.Ytbgeijdfkdfdoaa
/- THE CELL 'sum', in the pinned program and in every row, IS THE sha256 OF THE DUMP (.gsa) THAT YtbgeijdfkdfdoaaProg.lean LOADS. Nothing in Lean hashes anything: it is a label: what it is worth is what the hold of that sum in a sandbox is worth. -/
noncomputable def Try.pinned : Pinned := { name := "ytbgeijdfkdfdoaa", sum := "fef6acc384e44cc528b993153a3a15feb148e207abb730ac13768504f7a7a09e", checked := Try.checked }
namespace Rows
def none {H : Type} : Left H := { results := [], args := [] }

/-- 'diapauselaw1.LebBack': WHATEVER THE INPUT: true; the input reads as it did. -/
def lebBackSpec : ChangeSpec := { name := "lebBack", fn := fun _ => fun
  | [d1, d2, d3, d4, d5] => { results := [.lit (.bool true)], args := [d1, d2, d3, d4, d5] }
  | _ => none }
def lebBackRow : OpenClaim := { program := "ytbgeijdfkdfdoaa", sum := "fef6acc384e44cc528b993153a3a15feb148e207abb730ac13768504f7a7a09e", func := "diapause/diapauselaw1.LebBack", spec := "lebBack", apart := false }
def LebBackSaid : Prop := lebBackRow.holds Try.pinned (OpenSpec.ofChange lebBackSpec)

/-- ITS FALSE NEIGHBOUR: 'it returns false'. Refute it at one input. -/
def lebBackWrong : ChangeSpec := { name := "lebBack", fn := fun _ => fun
  | [d1, d2, d3, d4, d5] => { results := [.lit (.bool false)], args := [d1, d2, d3, d4, d5] }
  | _ => none }
def LebBackWrongFalsely : Prop := lebBackRow.holds Try.pinned (OpenSpec.ofChange lebBackWrong)

/-- 'diapauselaw1.LebAny': WHATEVER THE INPUT: true; the input reads as it did. -/
def lebAnySpec : ChangeSpec := { name := "lebAny", fn := fun _ => fun
  | [d1, d2] => { results := [.lit (.bool true)], args := [d1, d2] }
  | _ => none }
def lebAnyRow : OpenClaim := { program := "ytbgeijdfkdfdoaa", sum := "fef6acc384e44cc528b993153a3a15feb148e207abb730ac13768504f7a7a09e", func := "diapause/diapauselaw1.LebAny", spec := "lebAny", apart := false }
def LebAnySaid : Prop := lebAnyRow.holds Try.pinned (OpenSpec.ofChange lebAnySpec)

/-- ITS FALSE NEIGHBOUR: 'it returns false'. Refute it at one input. -/
def lebAnyWrong : ChangeSpec := { name := "lebAny", fn := fun _ => fun
  | [d1, d2] => { results := [.lit (.bool false)], args := [d1, d2] }
  | _ => none }
def LebAnyWrongFalsely : Prop := lebAnyRow.holds Try.pinned (OpenSpec.ofChange lebAnyWrong)

/-- 'diapauselaw1.LebLong': WHATEVER THE INPUT: true; the input reads as it did. -/
def lebLongSpec : ChangeSpec := { name := "lebLong", fn := fun _ => fun
  | [d1, d2, d3] => { results := [.lit (.bool true)], args := [d1, d2, d3] }
  | _ => none }
def lebLongRow : OpenClaim := { program := "ytbgeijdfkdfdoaa", sum := "fef6acc384e44cc528b993153a3a15feb148e207abb730ac13768504f7a7a09e", func := "diapause/diapauselaw1.LebLong", spec := "lebLong", apart := false }
def LebLongSaid : Prop := lebLongRow.holds Try.pinned (OpenSpec.ofChange lebLongSpec)

/-- ITS FALSE NEIGHBOUR: 'it returns false'. Refute it at one input. -/
def lebLongWrong : ChangeSpec := { name := "lebLong", fn := fun _ => fun
  | [d1, d2, d3] => { results := [.lit (.bool false)], args := [d1, d2, d3] }
  | _ => none }
def LebLongWrongFalsely : Prop := lebLongRow.holds Try.pinned (OpenSpec.ofChange lebLongWrong)

/-- 'diapauselaw1.LebMany': WHATEVER THE INPUT: true; the input reads as it did. -/
def lebManySpec : ChangeSpec := { name := "lebMany", fn := fun _ => fun
  | [d1, d2] => { results := [.lit (.bool true)], args := [d1, d2] }
  | _ => none }
def lebManyRow : OpenClaim := { program := "ytbgeijdfkdfdoaa", sum := "fef6acc384e44cc528b993153a3a15feb148e207abb730ac13768504f7a7a09e", func := "diapause/diapauselaw1.LebMany", spec := "lebMany", apart := false }
def LebManySaid : Prop := lebManyRow.holds Try.pinned (OpenSpec.ofChange lebManySpec)

/-- ITS FALSE NEIGHBOUR: 'it returns false'. Refute it at one input. -/
def lebManyWrong : ChangeSpec := { name := "lebMany", fn := fun _ => fun
  | [d1, d2] => { results := [.lit (.bool false)], args := [d1, d2] }
  | _ => none }
def LebManyWrongFalsely : Prop := lebManyRow.holds Try.pinned (OpenSpec.ofChange lebManyWrong)

/-- 'diapauselaw1.LebSize': WHATEVER THE INPUT: true; the input reads as it did. -/
def lebSizeSpec : ChangeSpec := { name := "lebSize", fn := fun _ => fun
  | [d1, d2, d3] => { results := [.lit (.bool true)], args := [d1, d2, d3] }
  | _ => none }
def lebSizeRow : OpenClaim := { program := "ytbgeijdfkdfdoaa", sum := "fef6acc384e44cc528b993153a3a15feb148e207abb730ac13768504f7a7a09e", func := "diapause/diapauselaw1.LebSize", spec := "lebSize", apart := false }
def LebSizeSaid : Prop := lebSizeRow.holds Try.pinned (OpenSpec.ofChange lebSizeSpec)

/-- ITS FALSE NEIGHBOUR: 'it returns false'. Refute it at one input. -/
def lebSizeWrong : ChangeSpec := { name := "lebSize", fn := fun _ => fun
  | [d1, d2, d3] => { results := [.lit (.bool false)], args := [d1, d2, d3] }
  | _ => none }
def LebSizeWrongFalsely : Prop := lebSizeRow.holds Try.pinned (OpenSpec.ofChange lebSizeWrong)

/-- 'diapauselaw1.LebPad': WHATEVER THE INPUT: true; the input reads as it did. -/
def lebPadSpec : ChangeSpec := { name := "lebPad", fn := fun _ => fun
  | [d1, d2] => { results := [.lit (.bool true)], args := [d1, d2] }
  | _ => none }
def lebPadRow : OpenClaim := { program := "ytbgeijdfkdfdoaa", sum := "fef6acc384e44cc528b993153a3a15feb148e207abb730ac13768504f7a7a09e", func := "diapause/diapauselaw1.LebPad", spec := "lebPad", apart := false }
def LebPadSaid : Prop := lebPadRow.holds Try.pinned (OpenSpec.ofChange lebPadSpec)

/-- ITS FALSE NEIGHBOUR: 'it returns false'. Refute it at one input. -/
def lebPadWrong : ChangeSpec := { name := "lebPad", fn := fun _ => fun
  | [d1, d2] => { results := [.lit (.bool false)], args := [d1, d2] }
  | _ => none }
def LebPadWrongFalsely : Prop := lebPadRow.holds Try.pinned (OpenSpec.ofChange lebPadWrong)

/-- 'diapauselaw20.DirAll': WHATEVER THE INPUT: true; the input reads as it did. -/
def dirAllSpec : ChangeSpec := { name := "dirAll", fn := fun _ => fun
  | [d1, d2, d3] => { results := [.lit (.bool true)], args := [d1, d2, d3] }
  | _ => none }
def dirAllRow : OpenClaim := { program := "ytbgeijdfkdfdoaa", sum := "fef6acc384e44cc528b993153a3a15feb148e207abb730ac13768504f7a7a09e", func := "diapause/diapauselaw20.DirAll", spec := "dirAll", unfollowed := true, recurses := true, apart := false }
def DirAllSaid : Prop := dirAllRow.holds Try.pinned (OpenSpec.ofChange dirAllSpec)

/-- ITS FALSE NEIGHBOUR: 'it returns false'. Refute it at one input. -/
def dirAllWrong : ChangeSpec := { name := "dirAll", fn := fun _ => fun
  | [d1, d2, d3] => { results := [.lit (.bool false)], args := [d1, d2, d3] }
  | _ => none }
def DirAllWrongFalsely : Prop := dirAllRow.holds Try.pinned (OpenSpec.ofChange dirAllWrong)

/-- 'diapauselaw20.DirAny': WHATEVER THE INPUT: true; the input reads as it did. -/
def dirAnySpec : ChangeSpec := { name := "dirAny", fn := fun _ => fun
  | [d1, d2, d3, d4] => { results := [.lit (.bool true)], args := [d1, d2, d3, d4] }
  | _ => none }
def dirAnyRow : OpenClaim := { program := "ytbgeijdfkdfdoaa", sum := "fef6acc384e44cc528b993153a3a15feb148e207abb730ac13768504f7a7a09e", func := "diapause/diapauselaw20.DirAny", spec := "dirAny", unfollowed := true, recurses := true, apart := false }
def DirAnySaid : Prop := dirAnyRow.holds Try.pinned (OpenSpec.ofChange dirAnySpec)

/-- ITS FALSE NEIGHBOUR: 'it returns false'. Refute it at one input. -/
def dirAnyWrong : ChangeSpec := { name := "dirAny", fn := fun _ => fun
  | [d1, d2, d3, d4] => { results := [.lit (.bool false)], args := [d1, d2, d3, d4] }
  | _ => none }
def DirAnyWrongFalsely : Prop := dirAnyRow.holds Try.pinned (OpenSpec.ofChange dirAnyWrong)

/-- 'diapauselaw20.DirMany': WHATEVER THE INPUT: true; the input reads as it did. -/
def dirManySpec : ChangeSpec := { name := "dirMany", fn := fun _ => fun
  | [d1, d2] => { results := [.lit (.bool true)], args := [d1, d2] }
  | _ => none }
def dirManyRow : OpenClaim := { program := "ytbgeijdfkdfdoaa", sum := "fef6acc384e44cc528b993153a3a15feb148e207abb730ac13768504f7a7a09e", func := "diapause/diapauselaw20.DirMany", spec := "dirMany", unfollowed := true, recurses := true, apart := false }
def DirManySaid : Prop := dirManyRow.holds Try.pinned (OpenSpec.ofChange dirManySpec)

/-- ITS FALSE NEIGHBOUR: 'it returns false'. Refute it at one input. -/
def dirManyWrong : ChangeSpec := { name := "dirMany", fn := fun _ => fun
  | [d1, d2] => { results := [.lit (.bool false)], args := [d1, d2] }
  | _ => none }
def DirManyWrongFalsely : Prop := dirManyRow.holds Try.pinned (OpenSpec.ofChange dirManyWrong)

/-- 'diapauselaw20.DirSpan': WHATEVER THE INPUT: true; the input reads as it did. -/
def dirSpanSpec : ChangeSpec := { name := "dirSpan", fn := fun _ => fun
  | [d1, d2, d3] => { results := [.lit (.bool true)], args := [d1, d2, d3] }
  | _ => none }
def dirSpanRow : OpenClaim := { program := "ytbgeijdfkdfdoaa", sum := "fef6acc384e44cc528b993153a3a15feb148e207abb730ac13768504f7a7a09e", func := "diapause/diapauselaw20.DirSpan", spec := "dirSpan", unfollowed := true, recurses := true, apart := false }
def DirSpanSaid : Prop := dirSpanRow.holds Try.pinned (OpenSpec.ofChange dirSpanSpec)

/-- ITS FALSE NEIGHBOUR: 'it returns false'. Refute it at one input. -/
def dirSpanWrong : ChangeSpec := { name := "dirSpan", fn := fun _ => fun
  | [d1, d2, d3] => { results := [.lit (.bool false)], args := [d1, d2, d3] }
  | _ => none }
def DirSpanWrongFalsely : Prop := dirSpanRow.holds Try.pinned (OpenSpec.ofChange dirSpanWrong)

/-- 'diapauselaw23.CallsAll': WHATEVER THE INPUT: true; the input reads as it did. -/
def callsAllSpec : ChangeSpec := { name := "callsAll", fn := fun _ => fun
  | [d1, d2] => { results := [.lit (.bool true)], args := [d1, d2] }
  | _ => none }
def callsAllRow : OpenClaim := { program := "ytbgeijdfkdfdoaa", sum := "fef6acc384e44cc528b993153a3a15feb148e207abb730ac13768504f7a7a09e", func := "diapause/diapauselaw23.CallsAll", spec := "callsAll", unfollowed := true, recurses := true, apart := false }
def CallsAllSaid : Prop := callsAllRow.holds Try.pinned (OpenSpec.ofChange callsAllSpec)

/-- ITS FALSE NEIGHBOUR: 'it returns false'. Refute it at one input. -/
def callsAllWrong : ChangeSpec := { name := "callsAll", fn := fun _ => fun
  | [d1, d2] => { results := [.lit (.bool false)], args := [d1, d2] }
  | _ => none }
def CallsAllWrongFalsely : Prop := callsAllRow.holds Try.pinned (OpenSpec.ofChange callsAllWrong)

/-- 'diapauselaw23.CallsAny': WHATEVER THE INPUT: true; the input reads as it did. -/
def callsAnySpec : ChangeSpec := { name := "callsAny", fn := fun _ => fun
  | [d1, d2, d3, d4] => { results := [.lit (.bool true)], args := [d1, d2, d3, d4] }
  | _ => none }
def callsAnyRow : OpenClaim := { program := "ytbgeijdfkdfdoaa", sum := "fef6acc384e44cc528b993153a3a15feb148e207abb730ac13768504f7a7a09e", func := "diapause/diapauselaw23.CallsAny", spec := "callsAny", unfollowed := true, recurses := true, apart := false }
def CallsAnySaid : Prop := callsAnyRow.holds Try.pinned (OpenSpec.ofChange callsAnySpec)

/-- ITS FALSE NEIGHBOUR: 'it returns false'. Refute it at one input. -/
def callsAnyWrong : ChangeSpec := { name := "callsAny", fn := fun _ => fun
  | [d1, d2, d3, d4] => { results := [.lit (.bool false)], args := [d1, d2, d3, d4] }
  | _ => none }
def CallsAnyWrongFalsely : Prop := callsAnyRow.holds Try.pinned (OpenSpec.ofChange callsAnyWrong)

/- THE SECOND FORM. 'bulk': how many values and letters a reading holds, each counted each time it is reached (what is shared counts as often as it is met; a slice's spare places count too). A statement '..UptoSaid' is the law's where the arguments, and the package variables that the reading takes, are together of bulk at most 1048576: NARROWER than '..Said'. Prove '..Said' where nothing that the law and all that it calls make is longer than what came in: it says more and counts as full. Else prove '..UptoSaid'. A law counts once. -/
mutual
def uptoBulk {H : Type} : DataW H → Nat
  | .lit (.string bytes) => bytes.length + 1
  | .lit _ => 1
  | .nil => 1
  | .ptr d => uptoBulk d + 1
  | .slice elems spare => uptoBulkAll elems + uptoBulkAll spare + 1
  | .agg parts => uptoBulkAll parts + 1
  | .iface _ d => uptoBulk d + 1
  | .map entries => uptoBulkEntries entries + 1
  | .held _ => 1
def uptoBulkAll {H : Type} : List (DataW H) → Nat
  | [] => 0
  | d :: r => uptoBulk d + uptoBulkAll r
def uptoBulkEntries {H : Type} : List (Lit × DataW H) → Nat
  | [] => 0
  | x :: r => uptoBulkEntry x + uptoBulkEntries r
def uptoBulkEntry {H : Type} : Lit × DataW H → Nat
  | (.string bytes, d) => bytes.length + uptoBulk d + 1
  | (_, d) => uptoBulk d + 1
 end
def uptoSmall : (H : Type) → List (DataW H) → Bool := fun _ ds => decide (uptoBulkAll ds ≤ 1048576)
def OpenSpec.upto (s : _root_.Go.ChangeSpec) : _root_.Go.OpenSpec := { _root_.Go.OpenSpec.ofChange s with cond := some uptoSmall }

/-- 'diapauselaw1.LebBack', WHERE WHAT IT READS IS OF BULK AT MOST 1048576: true; the input reads as it did. -/
def lebBackUptoRow : OpenClaim := { program := "ytbgeijdfkdfdoaa", sum := "fef6acc384e44cc528b993153a3a15feb148e207abb730ac13768504f7a7a09e", func := "diapause/diapauselaw1.LebBack", spec := "lebBack", apart := false, narrowed := true }
def LebBackUptoSaid : Prop := lebBackUptoRow.holds Try.pinned (OpenSpec.upto lebBackSpec)

/-- 'diapauselaw1.LebAny', WHERE WHAT IT READS IS OF BULK AT MOST 1048576: true; the input reads as it did. -/
def lebAnyUptoRow : OpenClaim := { program := "ytbgeijdfkdfdoaa", sum := "fef6acc384e44cc528b993153a3a15feb148e207abb730ac13768504f7a7a09e", func := "diapause/diapauselaw1.LebAny", spec := "lebAny", apart := false, narrowed := true }
def LebAnyUptoSaid : Prop := lebAnyUptoRow.holds Try.pinned (OpenSpec.upto lebAnySpec)

/-- 'diapauselaw1.LebLong', WHERE WHAT IT READS IS OF BULK AT MOST 1048576: true; the input reads as it did. -/
def lebLongUptoRow : OpenClaim := { program := "ytbgeijdfkdfdoaa", sum := "fef6acc384e44cc528b993153a3a15feb148e207abb730ac13768504f7a7a09e", func := "diapause/diapauselaw1.LebLong", spec := "lebLong", apart := false, narrowed := true }
def LebLongUptoSaid : Prop := lebLongUptoRow.holds Try.pinned (OpenSpec.upto lebLongSpec)

/-- 'diapauselaw1.LebMany', WHERE WHAT IT READS IS OF BULK AT MOST 1048576: true; the input reads as it did. -/
def lebManyUptoRow : OpenClaim := { program := "ytbgeijdfkdfdoaa", sum := "fef6acc384e44cc528b993153a3a15feb148e207abb730ac13768504f7a7a09e", func := "diapause/diapauselaw1.LebMany", spec := "lebMany", apart := false, narrowed := true }
def LebManyUptoSaid : Prop := lebManyUptoRow.holds Try.pinned (OpenSpec.upto lebManySpec)

/-- 'diapauselaw1.LebSize', WHERE WHAT IT READS IS OF BULK AT MOST 1048576: true; the input reads as it did. -/
def lebSizeUptoRow : OpenClaim := { program := "ytbgeijdfkdfdoaa", sum := "fef6acc384e44cc528b993153a3a15feb148e207abb730ac13768504f7a7a09e", func := "diapause/diapauselaw1.LebSize", spec := "lebSize", apart := false, narrowed := true }
def LebSizeUptoSaid : Prop := lebSizeUptoRow.holds Try.pinned (OpenSpec.upto lebSizeSpec)

/-- 'diapauselaw1.LebPad', WHERE WHAT IT READS IS OF BULK AT MOST 1048576: true; the input reads as it did. -/
def lebPadUptoRow : OpenClaim := { program := "ytbgeijdfkdfdoaa", sum := "fef6acc384e44cc528b993153a3a15feb148e207abb730ac13768504f7a7a09e", func := "diapause/diapauselaw1.LebPad", spec := "lebPad", apart := false, narrowed := true }
def LebPadUptoSaid : Prop := lebPadUptoRow.holds Try.pinned (OpenSpec.upto lebPadSpec)

/-- 'diapauselaw20.DirAll', WHERE WHAT IT READS IS OF BULK AT MOST 1048576: true; the input reads as it did. -/
def dirAllUptoRow : OpenClaim := { program := "ytbgeijdfkdfdoaa", sum := "fef6acc384e44cc528b993153a3a15feb148e207abb730ac13768504f7a7a09e", func := "diapause/diapauselaw20.DirAll", spec := "dirAll", unfollowed := true, recurses := true, apart := false, narrowed := true }
def DirAllUptoSaid : Prop := dirAllUptoRow.holds Try.pinned (OpenSpec.upto dirAllSpec)

/-- 'diapauselaw20.DirAny', WHERE WHAT IT READS IS OF BULK AT MOST 1048576: true; the input reads as it did. -/
def dirAnyUptoRow : OpenClaim := { program := "ytbgeijdfkdfdoaa", sum := "fef6acc384e44cc528b993153a3a15feb148e207abb730ac13768504f7a7a09e", func := "diapause/diapauselaw20.DirAny", spec := "dirAny", unfollowed := true, recurses := true, apart := false, narrowed := true }
def DirAnyUptoSaid : Prop := dirAnyUptoRow.holds Try.pinned (OpenSpec.upto dirAnySpec)

/-- 'diapauselaw20.DirMany', WHERE WHAT IT READS IS OF BULK AT MOST 1048576: true; the input reads as it did. -/
def dirManyUptoRow : OpenClaim := { program := "ytbgeijdfkdfdoaa", sum := "fef6acc384e44cc528b993153a3a15feb148e207abb730ac13768504f7a7a09e", func := "diapause/diapauselaw20.DirMany", spec := "dirMany", unfollowed := true, recurses := true, apart := false, narrowed := true }
def DirManyUptoSaid : Prop := dirManyUptoRow.holds Try.pinned (OpenSpec.upto dirManySpec)

/-- 'diapauselaw20.DirSpan', WHERE WHAT IT READS IS OF BULK AT MOST 1048576: true; the input reads as it did. -/
def dirSpanUptoRow : OpenClaim := { program := "ytbgeijdfkdfdoaa", sum := "fef6acc384e44cc528b993153a3a15feb148e207abb730ac13768504f7a7a09e", func := "diapause/diapauselaw20.DirSpan", spec := "dirSpan", unfollowed := true, recurses := true, apart := false, narrowed := true }
def DirSpanUptoSaid : Prop := dirSpanUptoRow.holds Try.pinned (OpenSpec.upto dirSpanSpec)

/-- 'diapauselaw23.CallsAll', WHERE WHAT IT READS IS OF BULK AT MOST 1048576: true; the input reads as it did. -/
def callsAllUptoRow : OpenClaim := { program := "ytbgeijdfkdfdoaa", sum := "fef6acc384e44cc528b993153a3a15feb148e207abb730ac13768504f7a7a09e", func := "diapause/diapauselaw23.CallsAll", spec := "callsAll", unfollowed := true, recurses := true, apart := false, narrowed := true }
def CallsAllUptoSaid : Prop := callsAllUptoRow.holds Try.pinned (OpenSpec.upto callsAllSpec)

/-- 'diapauselaw23.CallsAny', WHERE WHAT IT READS IS OF BULK AT MOST 1048576: true; the input reads as it did. -/
def callsAnyUptoRow : OpenClaim := { program := "ytbgeijdfkdfdoaa", sum := "fef6acc384e44cc528b993153a3a15feb148e207abb730ac13768504f7a7a09e", func := "diapause/diapauselaw23.CallsAny", spec := "callsAny", unfollowed := true, recurses := true, apart := false, narrowed := true }
def CallsAnyUptoSaid : Prop := callsAnyUptoRow.holds Try.pinned (OpenSpec.upto callsAnySpec)

end Rows
end Go.Proofs.Ytbgeijdfkdfdoaa
