/-
  No cell of these rows narrows 'for every input' (looked for: loops, veiled, ifaces, maps, wideKeys, modest, calm, conditions, laid).
  DERIVED. THE GIVEN ROWS OF THIS SEAT. 10 by the template 'for every input the law returns true; each argument reads behind the call as it read before'; 0 by the template 'total and deterministic' (their statements: YtcmmdllnbijipaaTotals.lean).
  GIVEN WITH THE SEED: the statements are not yours to turn. If you find one false, say at which input.
  Laid BY PROGRAM, IN A SANDBOX (cutbox-rows.mjs): the forced cells as the released guide's own fill.sh prints them over the translation a9bfd45486d0261e… (all of the seat's roots in one cut). By AI agents, Wed Nov 11 2026. No macro, syntax, notation, axiom, sorry.
-/
import Derived.Test.YtcmmdllnbijipaaChecked
import GoSem.Claim
import GoSem.ClaimJoined
import GoSem.ClaimMapViews
import Derived.JoinedTies
import Derived.KernelRfl
namespace Go.Proofs.Ytcmmdllnbijipaa
/- THE CELL 'sum', in the pinned program and in every row, IS THE sha256 OF THE DUMP (.gsa) THAT YtcmmdllnbijipaaProg.lean LOADS. Nothing in Lean hashes anything: it is a label: what it is worth is what the hold of that sum in a sandbox is worth. -/
noncomputable def Try.pinned : Pinned := { name := "ytcmmdllnbijipaa", sum := "a9bfd45486d0261e71209dbe3bcff29cff5bb4b00dc5241697c5523b1fc07fdb", checked := Try.checked }
namespace Rows
def none {H : Type} : Left H := { results := [], args := [] }

/-- 'pontoonlaw15.GridFills': WHATEVER THE INPUT: true; the input reads as it did. -/
def gridFillsSpec : ChangeSpec := { name := "gridFills", fn := fun _ => fun
  | [d1, d2, d3, d4, d5] => { results := [.lit (.bool true)], args := [d1, d2, d3, d4, d5] }
  | _ => none }
def gridFillsRow : OpenClaim := { program := "ytcmmdllnbijipaa", sum := "a9bfd45486d0261e71209dbe3bcff29cff5bb4b00dc5241697c5523b1fc07fdb", func := "pontoon/pontoonlaw15.GridFills", spec := "gridFills", apart := false }
def GridFillsSaid : Prop := gridFillsRow.holds Try.pinned (OpenSpec.ofChange gridFillsSpec)

/-- ITS FALSE NEIGHBOUR: 'it returns false'. Refute it at one input. -/
def gridFillsWrong : ChangeSpec := { name := "gridFills", fn := fun _ => fun
  | [d1, d2, d3, d4, d5] => { results := [.lit (.bool false)], args := [d1, d2, d3, d4, d5] }
  | _ => none }
def GridFillsWrongFalsely : Prop := gridFillsRow.holds Try.pinned (OpenSpec.ofChange gridFillsWrong)

/-- 'pontoonlaw14.CellSgr': WHATEVER THE INPUT: true; the input reads as it did. -/
def cellSgrSpec : ChangeSpec := { name := "cellSgr", fn := fun _ => fun
  | [d1, d2, d3] => { results := [.lit (.bool true)], args := [d1, d2, d3] }
  | _ => none }
def cellSgrRow : OpenClaim := { program := "ytcmmdllnbijipaa", sum := "a9bfd45486d0261e71209dbe3bcff29cff5bb4b00dc5241697c5523b1fc07fdb", func := "pontoon/pontoonlaw14.CellSgr", spec := "cellSgr", apart := false }
def CellSgrSaid : Prop := cellSgrRow.holds Try.pinned (OpenSpec.ofChange cellSgrSpec)

/-- ITS FALSE NEIGHBOUR: 'it returns false'. Refute it at one input. -/
def cellSgrWrong : ChangeSpec := { name := "cellSgr", fn := fun _ => fun
  | [d1, d2, d3] => { results := [.lit (.bool false)], args := [d1, d2, d3] }
  | _ => none }
def CellSgrWrongFalsely : Prop := cellSgrRow.holds Try.pinned (OpenSpec.ofChange cellSgrWrong)

/-- 'pontoonlaw14.CellColors': WHATEVER THE INPUT: true; the input reads as it did. -/
def cellColorsSpec : ChangeSpec := { name := "cellColors", fn := fun _ => fun
  | [d1, d2] => { results := [.lit (.bool true)], args := [d1, d2] }
  | _ => none }
def cellColorsRow : OpenClaim := { program := "ytcmmdllnbijipaa", sum := "a9bfd45486d0261e71209dbe3bcff29cff5bb4b00dc5241697c5523b1fc07fdb", func := "pontoon/pontoonlaw14.CellColors", spec := "cellColors", apart := false }
def CellColorsSaid : Prop := cellColorsRow.holds Try.pinned (OpenSpec.ofChange cellColorsSpec)

/-- ITS FALSE NEIGHBOUR: 'it returns false'. Refute it at one input. -/
def cellColorsWrong : ChangeSpec := { name := "cellColors", fn := fun _ => fun
  | [d1, d2] => { results := [.lit (.bool false)], args := [d1, d2] }
  | _ => none }
def CellColorsWrongFalsely : Prop := cellColorsRow.holds Try.pinned (OpenSpec.ofChange cellColorsWrong)

/-- 'pontoonlaw15.GridMoves': WHATEVER THE INPUT: true; the input reads as it did. -/
def gridMovesSpec : ChangeSpec := { name := "gridMoves", fn := fun _ => fun
  | [d1, d2, d3, d4] => { results := [.lit (.bool true)], args := [d1, d2, d3, d4] }
  | _ => none }
def gridMovesRow : OpenClaim := { program := "ytcmmdllnbijipaa", sum := "a9bfd45486d0261e71209dbe3bcff29cff5bb4b00dc5241697c5523b1fc07fdb", func := "pontoon/pontoonlaw15.GridMoves", spec := "gridMoves", apart := false }
def GridMovesSaid : Prop := gridMovesRow.holds Try.pinned (OpenSpec.ofChange gridMovesSpec)

/-- ITS FALSE NEIGHBOUR: 'it returns false'. Refute it at one input. -/
def gridMovesWrong : ChangeSpec := { name := "gridMoves", fn := fun _ => fun
  | [d1, d2, d3, d4] => { results := [.lit (.bool false)], args := [d1, d2, d3, d4] }
  | _ => none }
def GridMovesWrongFalsely : Prop := gridMovesRow.holds Try.pinned (OpenSpec.ofChange gridMovesWrong)

/-- 'pontoonlaw15.GridSizes': WHATEVER THE INPUT: true; the input reads as it did. -/
def gridSizesSpec : ChangeSpec := { name := "gridSizes", fn := fun _ => fun
  | [d1, d2, d3, d4, d5] => { results := [.lit (.bool true)], args := [d1, d2, d3, d4, d5] }
  | _ => none }
def gridSizesRow : OpenClaim := { program := "ytcmmdllnbijipaa", sum := "a9bfd45486d0261e71209dbe3bcff29cff5bb4b00dc5241697c5523b1fc07fdb", func := "pontoon/pontoonlaw15.GridSizes", spec := "gridSizes", apart := false }
def GridSizesSaid : Prop := gridSizesRow.holds Try.pinned (OpenSpec.ofChange gridSizesSpec)

/-- ITS FALSE NEIGHBOUR: 'it returns false'. Refute it at one input. -/
def gridSizesWrong : ChangeSpec := { name := "gridSizes", fn := fun _ => fun
  | [d1, d2, d3, d4, d5] => { results := [.lit (.bool false)], args := [d1, d2, d3, d4, d5] }
  | _ => none }
def GridSizesWrongFalsely : Prop := gridSizesRow.holds Try.pinned (OpenSpec.ofChange gridSizesWrong)

/-- 'pontoonlaw15.GridRows': WHATEVER THE INPUT: true; the input reads as it did. -/
def gridRowsSpec : ChangeSpec := { name := "gridRows", fn := fun _ => fun
  | [d1, d2, d3, d4] => { results := [.lit (.bool true)], args := [d1, d2, d3, d4] }
  | _ => none }
def gridRowsRow : OpenClaim := { program := "ytcmmdllnbijipaa", sum := "a9bfd45486d0261e71209dbe3bcff29cff5bb4b00dc5241697c5523b1fc07fdb", func := "pontoon/pontoonlaw15.GridRows", spec := "gridRows", apart := false }
def GridRowsSaid : Prop := gridRowsRow.holds Try.pinned (OpenSpec.ofChange gridRowsSpec)

/-- ITS FALSE NEIGHBOUR: 'it returns false'. Refute it at one input. -/
def gridRowsWrong : ChangeSpec := { name := "gridRows", fn := fun _ => fun
  | [d1, d2, d3, d4] => { results := [.lit (.bool false)], args := [d1, d2, d3, d4] }
  | _ => none }
def GridRowsWrongFalsely : Prop := gridRowsRow.holds Try.pinned (OpenSpec.ofChange gridRowsWrong)

/-- 'pontoonlaw15.GridOf': WHATEVER THE INPUT: true; the input reads as it did. -/
def gridOfSpec : ChangeSpec := { name := "gridOf", fn := fun _ => fun
  | [d] => { results := [.lit (.bool true)], args := [d] }
  | _ => none }
def gridOfRow : OpenClaim := { program := "ytcmmdllnbijipaa", sum := "a9bfd45486d0261e71209dbe3bcff29cff5bb4b00dc5241697c5523b1fc07fdb", func := "pontoon/pontoonlaw15.GridOf", spec := "gridOf", apart := false }
def GridOfSaid : Prop := gridOfRow.holds Try.pinned (OpenSpec.ofChange gridOfSpec)

/-- ITS FALSE NEIGHBOUR: 'it returns false'. Refute it at one input. -/
def gridOfWrong : ChangeSpec := { name := "gridOf", fn := fun _ => fun
  | [d] => { results := [.lit (.bool false)], args := [d] }
  | _ => none }
def GridOfWrongFalsely : Prop := gridOfRow.holds Try.pinned (OpenSpec.ofChange gridOfWrong)

/-- 'pontoonlaw15.GridPlays': WHATEVER THE INPUT: true; the input reads as it did. -/
def gridPlaysSpec : ChangeSpec := { name := "gridPlays", fn := fun _ => fun
  | [d1, d2, d3, d4, d5] => { results := [.lit (.bool true)], args := [d1, d2, d3, d4, d5] }
  | _ => none }
def gridPlaysRow : OpenClaim := { program := "ytcmmdllnbijipaa", sum := "a9bfd45486d0261e71209dbe3bcff29cff5bb4b00dc5241697c5523b1fc07fdb", func := "pontoon/pontoonlaw15.GridPlays", spec := "gridPlays", apart := false }
def GridPlaysSaid : Prop := gridPlaysRow.holds Try.pinned (OpenSpec.ofChange gridPlaysSpec)

/-- ITS FALSE NEIGHBOUR: 'it returns false'. Refute it at one input. -/
def gridPlaysWrong : ChangeSpec := { name := "gridPlays", fn := fun _ => fun
  | [d1, d2, d3, d4, d5] => { results := [.lit (.bool false)], args := [d1, d2, d3, d4, d5] }
  | _ => none }
def GridPlaysWrongFalsely : Prop := gridPlaysRow.holds Try.pinned (OpenSpec.ofChange gridPlaysWrong)

/-- 'pontoonlaw14.CellBack': WHATEVER THE INPUT: true; the input reads as it did. -/
def cellBackSpec : ChangeSpec := { name := "cellBack", fn := fun _ => fun
  | [d1, d2] => { results := [.lit (.bool true)], args := [d1, d2] }
  | _ => none }
def cellBackRow : OpenClaim := { program := "ytcmmdllnbijipaa", sum := "a9bfd45486d0261e71209dbe3bcff29cff5bb4b00dc5241697c5523b1fc07fdb", func := "pontoon/pontoonlaw14.CellBack", spec := "cellBack", apart := false }
def CellBackSaid : Prop := cellBackRow.holds Try.pinned (OpenSpec.ofChange cellBackSpec)

/-- ITS FALSE NEIGHBOUR: 'it returns false'. Refute it at one input. -/
def cellBackWrong : ChangeSpec := { name := "cellBack", fn := fun _ => fun
  | [d1, d2] => { results := [.lit (.bool false)], args := [d1, d2] }
  | _ => none }
def CellBackWrongFalsely : Prop := cellBackRow.holds Try.pinned (OpenSpec.ofChange cellBackWrong)

/-- 'pontoonlaw14.CellTells': WHATEVER THE INPUT: true; the input reads as it did. -/
def cellTellsSpec : ChangeSpec := { name := "cellTells", fn := fun _ => fun
  | [d1, d2, d3, d4, d5] => { results := [.lit (.bool true)], args := [d1, d2, d3, d4, d5] }
  | _ => none }
def cellTellsRow : OpenClaim := { program := "ytcmmdllnbijipaa", sum := "a9bfd45486d0261e71209dbe3bcff29cff5bb4b00dc5241697c5523b1fc07fdb", func := "pontoon/pontoonlaw14.CellTells", spec := "cellTells", apart := false }
def CellTellsSaid : Prop := cellTellsRow.holds Try.pinned (OpenSpec.ofChange cellTellsSpec)

/-- ITS FALSE NEIGHBOUR: 'it returns false'. Refute it at one input. -/
def cellTellsWrong : ChangeSpec := { name := "cellTells", fn := fun _ => fun
  | [d1, d2, d3, d4, d5] => { results := [.lit (.bool false)], args := [d1, d2, d3, d4, d5] }
  | _ => none }
def CellTellsWrongFalsely : Prop := cellTellsRow.holds Try.pinned (OpenSpec.ofChange cellTellsWrong)

/- THE SECOND FORM. 'bulk': how many values and letters a reading holds, each counted each time it is reached (what is shared counts as often as it is met; a slice's spare places count too). A statement '..UptoSaid' is the law's where the arguments, and the package variables that the reading takes, are together of bulk at most 1048576: NARROWER than '..Said'. Prove '..Said' where nothing that the law and all that it calls make is longer than what came in: it says more and counts as full. Else prove '..UptoSaid'. A law counts once. -/
mutual
def uptoBulk {H : Type} : DataW H → Nat
  | .lit (.string bytes) => bytes.length + 1
  | .lit _ => 1
  | .nil => 1
  | .ptr d => uptoBulk d + 1
  | .slice elems spare => uptoBulkAll elems + uptoBulkAll spare + 1
  | .agg parts => uptoBulkAll parts + 1
  | .iface _ d => uptoBulk d + 1
  | .map entries => uptoBulkEntries entries + 1
  | .held _ => 1
def uptoBulkAll {H : Type} : List (DataW H) → Nat
  | [] => 0
  | d :: r => uptoBulk d + uptoBulkAll r
def uptoBulkEntries {H : Type} : List (Lit × DataW H) → Nat
  | [] => 0
  | x :: r => uptoBulkEntry x + uptoBulkEntries r
def uptoBulkEntry {H : Type} : Lit × DataW H → Nat
  | (.string bytes, d) => bytes.length + uptoBulk d + 1
  | (_, d) => uptoBulk d + 1
 end
def uptoSmall : (H : Type) → List (DataW H) → Bool := fun _ ds => decide (uptoBulkAll ds ≤ 1048576)
def OpenSpec.upto (s : _root_.Go.ChangeSpec) : _root_.Go.OpenSpec := { _root_.Go.OpenSpec.ofChange s with cond := some uptoSmall }

/-- 'pontoonlaw15.GridFills', WHERE WHAT IT READS IS OF BULK AT MOST 1048576: true; the input reads as it did. -/
def gridFillsUptoRow : OpenClaim := { program := "ytcmmdllnbijipaa", sum := "a9bfd45486d0261e71209dbe3bcff29cff5bb4b00dc5241697c5523b1fc07fdb", func := "pontoon/pontoonlaw15.GridFills", spec := "gridFills", apart := false, narrowed := true }
def GridFillsUptoSaid : Prop := gridFillsUptoRow.holds Try.pinned (OpenSpec.upto gridFillsSpec)

/-- 'pontoonlaw14.CellSgr', WHERE WHAT IT READS IS OF BULK AT MOST 1048576: true; the input reads as it did. -/
def cellSgrUptoRow : OpenClaim := { program := "ytcmmdllnbijipaa", sum := "a9bfd45486d0261e71209dbe3bcff29cff5bb4b00dc5241697c5523b1fc07fdb", func := "pontoon/pontoonlaw14.CellSgr", spec := "cellSgr", apart := false, narrowed := true }
def CellSgrUptoSaid : Prop := cellSgrUptoRow.holds Try.pinned (OpenSpec.upto cellSgrSpec)

/-- 'pontoonlaw14.CellColors', WHERE WHAT IT READS IS OF BULK AT MOST 1048576: true; the input reads as it did. -/
def cellColorsUptoRow : OpenClaim := { program := "ytcmmdllnbijipaa", sum := "a9bfd45486d0261e71209dbe3bcff29cff5bb4b00dc5241697c5523b1fc07fdb", func := "pontoon/pontoonlaw14.CellColors", spec := "cellColors", apart := false, narrowed := true }
def CellColorsUptoSaid : Prop := cellColorsUptoRow.holds Try.pinned (OpenSpec.upto cellColorsSpec)

/-- 'pontoonlaw15.GridMoves', WHERE WHAT IT READS IS OF BULK AT MOST 1048576: true; the input reads as it did. -/
def gridMovesUptoRow : OpenClaim := { program := "ytcmmdllnbijipaa", sum := "a9bfd45486d0261e71209dbe3bcff29cff5bb4b00dc5241697c5523b1fc07fdb", func := "pontoon/pontoonlaw15.GridMoves", spec := "gridMoves", apart := false, narrowed := true }
def GridMovesUptoSaid : Prop := gridMovesUptoRow.holds Try.pinned (OpenSpec.upto gridMovesSpec)

/-- 'pontoonlaw15.GridSizes', WHERE WHAT IT READS IS OF BULK AT MOST 1048576: true; the input reads as it did. -/
def gridSizesUptoRow : OpenClaim := { program := "ytcmmdllnbijipaa", sum := "a9bfd45486d0261e71209dbe3bcff29cff5bb4b00dc5241697c5523b1fc07fdb", func := "pontoon/pontoonlaw15.GridSizes", spec := "gridSizes", apart := false, narrowed := true }
def GridSizesUptoSaid : Prop := gridSizesUptoRow.holds Try.pinned (OpenSpec.upto gridSizesSpec)

/-- 'pontoonlaw15.GridRows', WHERE WHAT IT READS IS OF BULK AT MOST 1048576: true; the input reads as it did. -/
def gridRowsUptoRow : OpenClaim := { program := "ytcmmdllnbijipaa", sum := "a9bfd45486d0261e71209dbe3bcff29cff5bb4b00dc5241697c5523b1fc07fdb", func := "pontoon/pontoonlaw15.GridRows", spec := "gridRows", apart := false, narrowed := true }
def GridRowsUptoSaid : Prop := gridRowsUptoRow.holds Try.pinned (OpenSpec.upto gridRowsSpec)

/-- 'pontoonlaw15.GridOf', WHERE WHAT IT READS IS OF BULK AT MOST 1048576: true; the input reads as it did. -/
def gridOfUptoRow : OpenClaim := { program := "ytcmmdllnbijipaa", sum := "a9bfd45486d0261e71209dbe3bcff29cff5bb4b00dc5241697c5523b1fc07fdb", func := "pontoon/pontoonlaw15.GridOf", spec := "gridOf", apart := false, narrowed := true }
def GridOfUptoSaid : Prop := gridOfUptoRow.holds Try.pinned (OpenSpec.upto gridOfSpec)

/-- 'pontoonlaw15.GridPlays', WHERE WHAT IT READS IS OF BULK AT MOST 1048576: true; the input reads as it did. -/
def gridPlaysUptoRow : OpenClaim := { program := "ytcmmdllnbijipaa", sum := "a9bfd45486d0261e71209dbe3bcff29cff5bb4b00dc5241697c5523b1fc07fdb", func := "pontoon/pontoonlaw15.GridPlays", spec := "gridPlays", apart := false, narrowed := true }
def GridPlaysUptoSaid : Prop := gridPlaysUptoRow.holds Try.pinned (OpenSpec.upto gridPlaysSpec)

/-- 'pontoonlaw14.CellBack', WHERE WHAT IT READS IS OF BULK AT MOST 1048576: true; the input reads as it did. -/
def cellBackUptoRow : OpenClaim := { program := "ytcmmdllnbijipaa", sum := "a9bfd45486d0261e71209dbe3bcff29cff5bb4b00dc5241697c5523b1fc07fdb", func := "pontoon/pontoonlaw14.CellBack", spec := "cellBack", apart := false, narrowed := true }
def CellBackUptoSaid : Prop := cellBackUptoRow.holds Try.pinned (OpenSpec.upto cellBackSpec)

/-- 'pontoonlaw14.CellTells', WHERE WHAT IT READS IS OF BULK AT MOST 1048576: true; the input reads as it did. -/
def cellTellsUptoRow : OpenClaim := { program := "ytcmmdllnbijipaa", sum := "a9bfd45486d0261e71209dbe3bcff29cff5bb4b00dc5241697c5523b1fc07fdb", func := "pontoon/pontoonlaw14.CellTells", spec := "cellTells", apart := false, narrowed := true }
def CellTellsUptoSaid : Prop := cellTellsUptoRow.holds Try.pinned (OpenSpec.upto cellTellsSpec)

end Rows
end Go.Proofs.Ytcmmdllnbijipaa
