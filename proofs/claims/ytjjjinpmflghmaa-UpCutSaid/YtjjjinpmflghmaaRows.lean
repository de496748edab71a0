/-
  No cell of these rows narrows 'for every input' (looked for: loops, veiled, ifaces, maps, wideKeys, modest, calm, conditions, laid).
  DERIVED. THE GIVEN ROWS OF THIS SEAT. 7 by the template 'for every input the law returns true; each argument reads behind the call as it read before'; 0 by the template 'total and deterministic' (their statements: YtjjjinpmflghmaaTotals.lean).
  GIVEN WITH THE SEED: the statements are not yours to turn. If you find one false, say at which input.
  Laid BY PROGRAM, IN A SANDBOX (cutbox-rows.mjs): the forced cells as the released guide's own fill.sh prints them over the translation db48793279a8f647… (all of the seat's roots in one cut). By AI agents, Wed Nov 11 2026. No macro, syntax, notation, axiom, sorry.
-/
import Derived.Test.YtjjjinpmflghmaaChecked
import GoSem.Claim
import GoSem.ClaimJoined
import GoSem.ClaimMapViews
import Derived.JoinedTies
import Derived.KernelRfl
namespace Go.Proofs.Ytjjjinpmflghmaa
/- THE CELL 'sum', in the pinned program and in every row, IS THE sha256 OF THE DUMP (.gsa) THAT YtjjjinpmflghmaaProg.lean LOADS. Nothing in Lean hashes anything: it is a label: what it is worth is what the hold of that sum in a sandbox is worth. -/
noncomputable def Try.pinned : Pinned := { name := "ytjjjinpmflghmaa", sum := "db48793279a8f64798266669cfe5a5dc6126f30b24eae401248ac86881cfd81f", checked := Try.checked }
namespace Rows
def none {H : Type} : Left H := { results := [], args := [] }

/-- 'pontoonlaw20.KeysBounds': WHATEVER THE INPUT: true; the input reads as it did. -/
def keysBoundsSpec : ChangeSpec := { name := "keysBounds", fn := fun _ => fun
  | [d1, d2] => { results := [.lit (.bool true)], args := [d1, d2] }
  | _ => none }
def keysBoundsRow : OpenClaim := { program := "ytjjjinpmflghmaa", sum := "db48793279a8f64798266669cfe5a5dc6126f30b24eae401248ac86881cfd81f", func := "pontoon/pontoonlaw20.KeysBounds", spec := "keysBounds", inPlace := ["sync/atomic.AddInt64", "sync/atomic.LoadInt64", "sync/atomic.SwapInt64"], apart := false }
def KeysBoundsSaid : Prop := keysBoundsRow.holds Try.pinned (OpenSpec.ofChange keysBoundsSpec)

/-- ITS FALSE NEIGHBOUR: 'it returns false'. Refute it at one input. -/
def keysBoundsWrong : ChangeSpec := { name := "keysBounds", fn := fun _ => fun
  | [d1, d2] => { results := [.lit (.bool false)], args := [d1, d2] }
  | _ => none }
def KeysBoundsWrongFalsely : Prop := keysBoundsRow.holds Try.pinned (OpenSpec.ofChange keysBoundsWrong)

/-- 'pontoonlaw22.DownTells': WHATEVER THE INPUT: true; the input reads as it did. -/
def downTellsSpec : ChangeSpec := { name := "downTells", fn := fun _ => fun
  | [d1, d2, d3, d4, d5] => { results := [.lit (.bool true)], args := [d1, d2, d3, d4, d5] }
  | _ => none }
def downTellsRow : OpenClaim := { program := "ytjjjinpmflghmaa", sum := "db48793279a8f64798266669cfe5a5dc6126f30b24eae401248ac86881cfd81f", func := "pontoon/pontoonlaw22.DownTells", spec := "downTells", apart := false }
def DownTellsSaid : Prop := downTellsRow.holds Try.pinned (OpenSpec.ofChange downTellsSpec)

/-- ITS FALSE NEIGHBOUR: 'it returns false'. Refute it at one input. -/
def downTellsWrong : ChangeSpec := { name := "downTells", fn := fun _ => fun
  | [d1, d2, d3, d4, d5] => { results := [.lit (.bool false)], args := [d1, d2, d3, d4, d5] }
  | _ => none }
def DownTellsWrongFalsely : Prop := downTellsRow.holds Try.pinned (OpenSpec.ofChange downTellsWrong)

/-- 'pontoonlaw22.DownCut': WHATEVER THE INPUT: true; the input reads as it did. -/
def downCutSpec : ChangeSpec := { name := "downCut", fn := fun _ => fun
  | [d1, d2, d3, d4, d5] => { results := [.lit (.bool true)], args := [d1, d2, d3, d4, d5] }
  | _ => none }
def downCutRow : OpenClaim := { program := "ytjjjinpmflghmaa", sum := "db48793279a8f64798266669cfe5a5dc6126f30b24eae401248ac86881cfd81f", func := "pontoon/pontoonlaw22.DownCut", spec := "downCut", apart := false }
def DownCutSaid : Prop := downCutRow.holds Try.pinned (OpenSpec.ofChange downCutSpec)

/-- ITS FALSE NEIGHBOUR: 'it returns false'. Refute it at one input. -/
def downCutWrong : ChangeSpec := { name := "downCut", fn := fun _ => fun
  | [d1, d2, d3, d4, d5] => { results := [.lit (.bool false)], args := [d1, d2, d3, d4, d5] }
  | _ => none }
def DownCutWrongFalsely : Prop := downCutRow.holds Try.pinned (OpenSpec.ofChange downCutWrong)

/-- 'pontoonlaw20.KeysPlay': WHATEVER THE INPUT: true; the input reads as it did. -/
def keysPlaySpec : ChangeSpec := { name := "keysPlay", fn := fun _ => fun
  | [d] => { results := [.lit (.bool true)], args := [d] }
  | _ => none }
def keysPlayRow : OpenClaim := { program := "ytjjjinpmflghmaa", sum := "db48793279a8f64798266669cfe5a5dc6126f30b24eae401248ac86881cfd81f", func := "pontoon/pontoonlaw20.KeysPlay", spec := "keysPlay", inPlace := ["sync/atomic.AddInt64", "sync/atomic.LoadInt64", "sync/atomic.SwapInt64"], apart := false }
def KeysPlaySaid : Prop := keysPlayRow.holds Try.pinned (OpenSpec.ofChange keysPlaySpec)

/-- ITS FALSE NEIGHBOUR: 'it returns false'. Refute it at one input. -/
def keysPlayWrong : ChangeSpec := { name := "keysPlay", fn := fun _ => fun
  | [d] => { results := [.lit (.bool false)], args := [d] }
  | _ => none }
def KeysPlayWrongFalsely : Prop := keysPlayRow.holds Try.pinned (OpenSpec.ofChange keysPlayWrong)

/-- 'pontoonlaw20.KeysFlow': WHATEVER THE INPUT: true; the input reads as it did. -/
def keysFlowSpec : ChangeSpec := { name := "keysFlow", fn := fun _ => fun
  | [d1, d2] => { results := [.lit (.bool true)], args := [d1, d2] }
  | _ => none }
def keysFlowRow : OpenClaim := { program := "ytjjjinpmflghmaa", sum := "db48793279a8f64798266669cfe5a5dc6126f30b24eae401248ac86881cfd81f", func := "pontoon/pontoonlaw20.KeysFlow", spec := "keysFlow", inPlace := ["sync/atomic.AddInt64", "sync/atomic.LoadInt64", "sync/atomic.SwapInt64"], apart := false }
def KeysFlowSaid : Prop := keysFlowRow.holds Try.pinned (OpenSpec.ofChange keysFlowSpec)

/-- ITS FALSE NEIGHBOUR: 'it returns false'. Refute it at one input. -/
def keysFlowWrong : ChangeSpec := { name := "keysFlow", fn := fun _ => fun
  | [d1, d2] => { results := [.lit (.bool false)], args := [d1, d2] }
  | _ => none }
def KeysFlowWrongFalsely : Prop := keysFlowRow.holds Try.pinned (OpenSpec.ofChange keysFlowWrong)

/-- 'pontoonlaw23.UpTells': WHATEVER THE INPUT: true; the input reads as it did. -/
def upTellsSpec : ChangeSpec := { name := "upTells", fn := fun _ => fun
  | [d1, d2, d3, d4] => { results := [.lit (.bool true)], args := [d1, d2, d3, d4] }
  | _ => none }
def upTellsRow : OpenClaim := { program := "ytjjjinpmflghmaa", sum := "db48793279a8f64798266669cfe5a5dc6126f30b24eae401248ac86881cfd81f", func := "pontoon/pontoonlaw23.UpTells", spec := "upTells", unfollowed := true, recurses := true, apart := false }
def UpTellsSaid : Prop := upTellsRow.holds Try.pinned (OpenSpec.ofChange upTellsSpec)

/-- ITS FALSE NEIGHBOUR: 'it returns false'. Refute it at one input. -/
def upTellsWrong : ChangeSpec := { name := "upTells", fn := fun _ => fun
  | [d1, d2, d3, d4] => { results := [.lit (.bool false)], args := [d1, d2, d3, d4] }
  | _ => none }
def UpTellsWrongFalsely : Prop := upTellsRow.holds Try.pinned (OpenSpec.ofChange upTellsWrong)

/-- 'pontoonlaw23.UpCut': WHATEVER THE INPUT: true; the input reads as it did. -/
def upCutSpec : ChangeSpec := { name := "upCut", fn := fun _ => fun
  | [d1, d2, d3, d4, d5] => { results := [.lit (.bool true)], args := [d1, d2, d3, d4, d5] }
  | _ => none }
def upCutRow : OpenClaim := { program := "ytjjjinpmflghmaa", sum := "db48793279a8f64798266669cfe5a5dc6126f30b24eae401248ac86881cfd81f", func := "pontoon/pontoonlaw23.UpCut", spec := "upCut", unfollowed := true, recurses := true, apart := false }
def UpCutSaid : Prop := upCutRow.holds Try.pinned (OpenSpec.ofChange upCutSpec)

/-- ITS FALSE NEIGHBOUR: 'it returns false'. Refute it at one input. -/
def upCutWrong : ChangeSpec := { name := "upCut", fn := fun _ => fun
  | [d1, d2, d3, d4, d5] => { results := [.lit (.bool false)], args := [d1, d2, d3, d4, d5] }
  | _ => none }
def UpCutWrongFalsely : Prop := upCutRow.holds Try.pinned (OpenSpec.ofChange upCutWrong)

/- THE SECOND FORM. 'bulk': how many values and letters a reading holds, each counted each time it is reached (what is shared counts as often as it is met; a slice's spare places count too). A statement '..UptoSaid' is the law's where the arguments, and the package variables that the reading takes, are together of bulk at most 1048576: NARROWER than '..Said'. Prove '..Said' where nothing that the law and all that it calls make is longer than what came in: it says more and counts as full. Else prove '..UptoSaid'. A law counts once. -/
mutual
def uptoBulk {H : Type} : DataW H → Nat
  | .lit (.string bytes) => bytes.length + 1
  | .lit _ => 1
  | .nil => 1
  | .ptr d => uptoBulk d + 1
  | .slice elems spare => uptoBulkAll elems + uptoBulkAll spare + 1
  | .agg parts => uptoBulkAll parts + 1
  | .iface _ d => uptoBulk d + 1
  | .map entries => uptoBulkEntries entries + 1
  | .held _ => 1
def uptoBulkAll {H : Type} : List (DataW H) → Nat
  | [] => 0
  | d :: r => uptoBulk d + uptoBulkAll r
def uptoBulkEntries {H : Type} : List (Lit × DataW H) → Nat
  | [] => 0
  | x :: r => uptoBulkEntry x + uptoBulkEntries r
def uptoBulkEntry {H : Type} : Lit × DataW H → Nat
  | (.string bytes, d) => bytes.length + uptoBulk d + 1
  | (_, d) => uptoBulk d + 1
 end
def uptoSmall : (H : Type) → List (DataW H) → Bool := fun _ ds => decide (uptoBulkAll ds ≤ 1048576)
def OpenSpec.upto (s : _root_.Go.ChangeSpec) : _root_.Go.OpenSpec := { _root_.Go.OpenSpec.ofChange s with cond := some uptoSmall }

/-- 'pontoonlaw20.KeysBounds', WHERE WHAT IT READS IS OF BULK AT MOST 1048576: true; the input reads as it did. -/
def keysBoundsUptoRow : OpenClaim := { program := "ytjjjinpmflghmaa", sum := "db48793279a8f64798266669cfe5a5dc6126f30b24eae401248ac86881cfd81f", func := "pontoon/pontoonlaw20.KeysBounds", spec := "keysBounds", inPlace := ["sync/atomic.AddInt64", "sync/atomic.LoadInt64", "sync/atomic.SwapInt64"], apart := false, narrowed := true }
def KeysBoundsUptoSaid : Prop := keysBoundsUptoRow.holds Try.pinned (OpenSpec.upto keysBoundsSpec)

/-- 'pontoonlaw22.DownTells', WHERE WHAT IT READS IS OF BULK AT MOST 1048576: true; the input reads as it did. -/
def downTellsUptoRow : OpenClaim := { program := "ytjjjinpmflghmaa", sum := "db48793279a8f64798266669cfe5a5dc6126f30b24eae401248ac86881cfd81f", func := "pontoon/pontoonlaw22.DownTells", spec := "downTells", apart := false, narrowed := true }
def DownTellsUptoSaid : Prop := downTellsUptoRow.holds Try.pinned (OpenSpec.upto downTellsSpec)

/-- 'pontoonlaw22.DownCut', WHERE WHAT IT READS IS OF BULK AT MOST 1048576: true; the input reads as it did. -/
def downCutUptoRow : OpenClaim := { program := "ytjjjinpmflghmaa", sum := "db48793279a8f64798266669cfe5a5dc6126f30b24eae401248ac86881cfd81f", func := "pontoon/pontoonlaw22.DownCut", spec := "downCut", apart := false, narrowed := true }
def DownCutUptoSaid : Prop := downCutUptoRow.holds Try.pinned (OpenSpec.upto downCutSpec)

/-- 'pontoonlaw20.KeysPlay', WHERE WHAT IT READS IS OF BULK AT MOST 1048576: true; the input reads as it did. -/
def keysPlayUptoRow : OpenClaim := { program := "ytjjjinpmflghmaa", sum := "db48793279a8f64798266669cfe5a5dc6126f30b24eae401248ac86881cfd81f", func := "pontoon/pontoonlaw20.KeysPlay", spec := "keysPlay", inPlace := ["sync/atomic.AddInt64", "sync/atomic.LoadInt64", "sync/atomic.SwapInt64"], apart := false, narrowed := true }
def KeysPlayUptoSaid : Prop := keysPlayUptoRow.holds Try.pinned (OpenSpec.upto keysPlaySpec)

/-- 'pontoonlaw20.KeysFlow', WHERE WHAT IT READS IS OF BULK AT MOST 1048576: true; the input reads as it did. -/
def keysFlowUptoRow : OpenClaim := { program := "ytjjjinpmflghmaa", sum := "db48793279a8f64798266669cfe5a5dc6126f30b24eae401248ac86881cfd81f", func := "pontoon/pontoonlaw20.KeysFlow", spec := "keysFlow", inPlace := ["sync/atomic.AddInt64", "sync/atomic.LoadInt64", "sync/atomic.SwapInt64"], apart := false, narrowed := true }
def KeysFlowUptoSaid : Prop := keysFlowUptoRow.holds Try.pinned (OpenSpec.upto keysFlowSpec)

/-- 'pontoonlaw23.UpTells', WHERE WHAT IT READS IS OF BULK AT MOST 1048576: true; the input reads as it did. -/
def upTellsUptoRow : OpenClaim := { program := "ytjjjinpmflghmaa", sum := "db48793279a8f64798266669cfe5a5dc6126f30b24eae401248ac86881cfd81f", func := "pontoon/pontoonlaw23.UpTells", spec := "upTells", unfollowed := true, recurses := true, apart := false, narrowed := true }
def UpTellsUptoSaid : Prop := upTellsUptoRow.holds Try.pinned (OpenSpec.upto upTellsSpec)

/-- 'pontoonlaw23.UpCut', WHERE WHAT IT READS IS OF BULK AT MOST 1048576: true; the input reads as it did. -/
def upCutUptoRow : OpenClaim := { program := "ytjjjinpmflghmaa", sum := "db48793279a8f64798266669cfe5a5dc6126f30b24eae401248ac86881cfd81f", func := "pontoon/pontoonlaw23.UpCut", spec := "upCut", unfollowed := true, recurses := true, apart := false, narrowed := true }
def UpCutUptoSaid : Prop := upCutUptoRow.holds Try.pinned (OpenSpec.upto upCutSpec)

end Rows
end Go.Proofs.Ytjjjinpmflghmaa
