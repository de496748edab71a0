/-
  No cell of these rows narrows 'for every input' (looked for: loops, veiled, ifaces, maps, wideKeys, modest, calm, conditions, laid).
  DERIVED. THE GIVEN ROWS OF THIS SEAT. 7 by the template 'for every input the law returns true; each argument reads behind the call as it read before'; 0 by the template 'total and deterministic' (their statements: YtgilccdajlpeaaaTotals.lean).
  GIVEN WITH THE SEED: the statements are not yours to turn. If you find one false, say at which input.
  Laid BY PROGRAM, IN A SANDBOX (cutbox-rows.mjs): the forced cells as the released guide's own fill.sh prints them over the translation 13e81c603a033312… (all of the seat's roots in one cut). By AI agents, Wed Nov 11 2026. No macro, syntax, notation, axiom, sorry.
-/
import Derived.Test.YtgilccdajlpeaaaChecked
import GoSem.Claim
import GoSem.ClaimJoined
import GoSem.ClaimMapViews
import Derived.JoinedTies
import Derived.KernelRfl
namespace Go.Proofs.Ytgilccdajlpeaaa
/- THE CELL 'sum', in the pinned program and in every row, IS THE sha256 OF THE DUMP (.gsa) THAT YtgilccdajlpeaaaProg.lean LOADS. Nothing in Lean hashes anything: it is a label: what it is worth is what the hold of that sum in a sandbox is worth. -/
noncomputable def Try.pinned : Pinned := { name := "ytgilccdajlpeaaa", sum := "13e81c603a033312ff99a49e4325ea109bf1e31a875d83d0dff4e6229bac2e3e", checked := Try.checked }
namespace Rows
def none {H : Type} : Left H := { results := [], args := [] }

/-- 'pontoonlaw6.WindowOnce': WHATEVER THE INPUT: true; the input reads as it did. -/
def windowOnceSpec : ChangeSpec := { name := "windowOnce", fn := fun _ => fun
  | [d1, d2] => { results := [.lit (.bool true)], args := [d1, d2] }
  | _ => none }
def windowOnceRow : OpenClaim := { program := "ytgilccdajlpeaaa", sum := "13e81c603a033312ff99a49e4325ea109bf1e31a875d83d0dff4e6229bac2e3e", func := "pontoon/pontoonlaw6.WindowOnce", spec := "windowOnce", apart := false }
def WindowOnceSaid : Prop := windowOnceRow.holds Try.pinned (OpenSpec.ofChange windowOnceSpec)

/-- ITS FALSE NEIGHBOUR: 'it returns false'. Refute it at one input. -/
def windowOnceWrong : ChangeSpec := { name := "windowOnce", fn := fun _ => fun
  | [d1, d2] => { results := [.lit (.bool false)], args := [d1, d2] }
  | _ => none }
def WindowOnceWrongFalsely : Prop := windowOnceRow.holds Try.pinned (OpenSpec.ofChange windowOnceWrong)

/-- 'pontoonlaw6.WindowShift': WHATEVER THE INPUT: true; the input reads as it did. -/
def windowShiftSpec : ChangeSpec := { name := "windowShift", fn := fun _ => fun
  | [d1, d2] => { results := [.lit (.bool true)], args := [d1, d2] }
  | _ => none }
def windowShiftRow : OpenClaim := { program := "ytgilccdajlpeaaa", sum := "13e81c603a033312ff99a49e4325ea109bf1e31a875d83d0dff4e6229bac2e3e", func := "pontoon/pontoonlaw6.WindowShift", spec := "windowShift", apart := false }
def WindowShiftSaid : Prop := windowShiftRow.holds Try.pinned (OpenSpec.ofChange windowShiftSpec)

/-- ITS FALSE NEIGHBOUR: 'it returns false'. Refute it at one input. -/
def windowShiftWrong : ChangeSpec := { name := "windowShift", fn := fun _ => fun
  | [d1, d2] => { results := [.lit (.bool false)], args := [d1, d2] }
  | _ => none }
def WindowShiftWrongFalsely : Prop := windowShiftRow.holds Try.pinned (OpenSpec.ofChange windowShiftWrong)

/-- 'pontoonlaw21.WaitApart': WHATEVER THE INPUT: true; the input reads as it did. -/
def waitApartSpec : ChangeSpec := { name := "waitApart", fn := fun _ => fun
  | [d1, d2, d3] => { results := [.lit (.bool true)], args := [d1, d2, d3] }
  | _ => none }
def waitApartRow : OpenClaim := { program := "ytgilccdajlpeaaa", sum := "13e81c603a033312ff99a49e4325ea109bf1e31a875d83d0dff4e6229bac2e3e", func := "pontoon/pontoonlaw21.WaitApart", spec := "waitApart", apart := false }
def WaitApartSaid : Prop := waitApartRow.holds Try.pinned (OpenSpec.ofChange waitApartSpec)

/-- ITS FALSE NEIGHBOUR: 'it returns false'. Refute it at one input. -/
def waitApartWrong : ChangeSpec := { name := "waitApart", fn := fun _ => fun
  | [d1, d2, d3] => { results := [.lit (.bool false)], args := [d1, d2, d3] }
  | _ => none }
def WaitApartWrongFalsely : Prop := waitApartRow.holds Try.pinned (OpenSpec.ofChange waitApartWrong)

/-- 'pontoonlaw21.WaitDoubles': WHATEVER THE INPUT: true; the input reads as it did. -/
def waitDoublesSpec : ChangeSpec := { name := "waitDoubles", fn := fun _ => fun
  | [d1, d2, d3, d4] => { results := [.lit (.bool true)], args := [d1, d2, d3, d4] }
  | _ => none }
def waitDoublesRow : OpenClaim := { program := "ytgilccdajlpeaaa", sum := "13e81c603a033312ff99a49e4325ea109bf1e31a875d83d0dff4e6229bac2e3e", func := "pontoon/pontoonlaw21.WaitDoubles", spec := "waitDoubles", apart := false }
def WaitDoublesSaid : Prop := waitDoublesRow.holds Try.pinned (OpenSpec.ofChange waitDoublesSpec)

/-- ITS FALSE NEIGHBOUR: 'it returns false'. Refute it at one input. -/
def waitDoublesWrong : ChangeSpec := { name := "waitDoubles", fn := fun _ => fun
  | [d1, d2, d3, d4] => { results := [.lit (.bool false)], args := [d1, d2, d3, d4] }
  | _ => none }
def WaitDoublesWrongFalsely : Prop := waitDoublesRow.holds Try.pinned (OpenSpec.ofChange waitDoublesWrong)

/-- 'pontoonlaw21.WaitFar': WHATEVER THE INPUT: true; the input reads as it did. -/
def waitFarSpec : ChangeSpec := { name := "waitFar", fn := fun _ => fun
  | [d1, d2, d3, d4] => { results := [.lit (.bool true)], args := [d1, d2, d3, d4] }
  | _ => none }
def waitFarRow : OpenClaim := { program := "ytgilccdajlpeaaa", sum := "13e81c603a033312ff99a49e4325ea109bf1e31a875d83d0dff4e6229bac2e3e", func := "pontoon/pontoonlaw21.WaitFar", spec := "waitFar", apart := false }
def WaitFarSaid : Prop := waitFarRow.holds Try.pinned (OpenSpec.ofChange waitFarSpec)

/-- ITS FALSE NEIGHBOUR: 'it returns false'. Refute it at one input. -/
def waitFarWrong : ChangeSpec := { name := "waitFar", fn := fun _ => fun
  | [d1, d2, d3, d4] => { results := [.lit (.bool false)], args := [d1, d2, d3, d4] }
  | _ => none }
def WaitFarWrongFalsely : Prop := waitFarRow.holds Try.pinned (OpenSpec.ofChange waitFarWrong)

/-- 'pontoonlaw6.WindowPlays': WHATEVER THE INPUT: true; the input reads as it did. -/
def windowPlaysSpec : ChangeSpec := { name := "windowPlays", fn := fun _ => fun
  | [d1, d2] => { results := [.lit (.bool true)], args := [d1, d2] }
  | _ => none }
def windowPlaysRow : OpenClaim := { program := "ytgilccdajlpeaaa", sum := "13e81c603a033312ff99a49e4325ea109bf1e31a875d83d0dff4e6229bac2e3e", func := "pontoon/pontoonlaw6.WindowPlays", spec := "windowPlays", apart := false }
def WindowPlaysSaid : Prop := windowPlaysRow.holds Try.pinned (OpenSpec.ofChange windowPlaysSpec)

/-- ITS FALSE NEIGHBOUR: 'it returns false'. Refute it at one input. -/
def windowPlaysWrong : ChangeSpec := { name := "windowPlays", fn := fun _ => fun
  | [d1, d2] => { results := [.lit (.bool false)], args := [d1, d2] }
  | _ => none }
def WindowPlaysWrongFalsely : Prop := windowPlaysRow.holds Try.pinned (OpenSpec.ofChange windowPlaysWrong)

/-- 'pontoonlaw6.WindowFar': WHATEVER THE INPUT: true; the input reads as it did. -/
def windowFarSpec : ChangeSpec := { name := "windowFar", fn := fun _ => fun
  | [d1, d2, d3] => { results := [.lit (.bool true)], args := [d1, d2, d3] }
  | _ => none }
def windowFarRow : OpenClaim := { program := "ytgilccdajlpeaaa", sum := "13e81c603a033312ff99a49e4325ea109bf1e31a875d83d0dff4e6229bac2e3e", func := "pontoon/pontoonlaw6.WindowFar", spec := "windowFar", apart := false }
def WindowFarSaid : Prop := windowFarRow.holds Try.pinned (OpenSpec.ofChange windowFarSpec)

/-- ITS FALSE NEIGHBOUR: 'it returns false'. Refute it at one input. -/
def windowFarWrong : ChangeSpec := { name := "windowFar", fn := fun _ => fun
  | [d1, d2, d3] => { results := [.lit (.bool false)], args := [d1, d2, d3] }
  | _ => none }
def WindowFarWrongFalsely : Prop := windowFarRow.holds Try.pinned (OpenSpec.ofChange windowFarWrong)

/- THE SECOND FORM. 'bulk': how many values and letters a reading holds, each counted each time it is reached (what is shared counts as often as it is met; a slice's spare places count too). A statement '..UptoSaid' is the law's where the arguments, and the package variables that the reading takes, are together of bulk at most 1048576: NARROWER than '..Said'. Prove '..Said' where nothing that the law and all that it calls make is longer than what came in: it says more and counts as full. Else prove '..UptoSaid'. A law counts once. -/
mutual
def uptoBulk {H : Type} : DataW H → Nat
  | .lit (.string bytes) => bytes.length + 1
  | .lit _ => 1
  | .nil => 1
  | .ptr d => uptoBulk d + 1
  | .slice elems spare => uptoBulkAll elems + uptoBulkAll spare + 1
  | .agg parts => uptoBulkAll parts + 1
  | .iface _ d => uptoBulk d + 1
  | .map entries => uptoBulkEntries entries + 1
  | .held _ => 1
def uptoBulkAll {H : Type} : List (DataW H) → Nat
  | [] => 0
  | d :: r => uptoBulk d + uptoBulkAll r
def uptoBulkEntries {H : Type} : List (Lit × DataW H) → Nat
  | [] => 0
  | x :: r => uptoBulkEntry x + uptoBulkEntries r
def uptoBulkEntry {H : Type} : Lit × DataW H → Nat
  | (.string bytes, d) => bytes.length + uptoBulk d + 1
  | (_, d) => uptoBulk d + 1
 end
def uptoSmall : (H : Type) → List (DataW H) → Bool := fun _ ds => decide (uptoBulkAll ds ≤ 1048576)
def OpenSpec.upto (s : _root_.Go.ChangeSpec) : _root_.Go.OpenSpec := { _root_.Go.OpenSpec.ofChange s with cond := some uptoSmall }

/-- 'pontoonlaw6.WindowOnce', WHERE WHAT IT READS IS OF BULK AT MOST 1048576: true; the input reads as it did. -/
def windowOnceUptoRow : OpenClaim := { program := "ytgilccdajlpeaaa", sum := "13e81c603a033312ff99a49e4325ea109bf1e31a875d83d0dff4e6229bac2e3e", func := "pontoon/pontoonlaw6.WindowOnce", spec := "windowOnce", apart := false, narrowed := true }
def WindowOnceUptoSaid : Prop := windowOnceUptoRow.holds Try.pinned (OpenSpec.upto windowOnceSpec)

/-- 'pontoonlaw6.WindowShift', WHERE WHAT IT READS IS OF BULK AT MOST 1048576: true; the input reads as it did. -/
def windowShiftUptoRow : OpenClaim := { program := "ytgilccdajlpeaaa", sum := "13e81c603a033312ff99a49e4325ea109bf1e31a875d83d0dff4e6229bac2e3e", func := "pontoon/pontoonlaw6.WindowShift", spec := "windowShift", apart := false, narrowed := true }
def WindowShiftUptoSaid : Prop := windowShiftUptoRow.holds Try.pinned (OpenSpec.upto windowShiftSpec)

/-- 'pontoonlaw21.WaitApart', WHERE WHAT IT READS IS OF BULK AT MOST 1048576: true; the input reads as it did. -/
def waitApartUptoRow : OpenClaim := { program := "ytgilccdajlpeaaa", sum := "13e81c603a033312ff99a49e4325ea109bf1e31a875d83d0dff4e6229bac2e3e", func := "pontoon/pontoonlaw21.WaitApart", spec := "waitApart", apart := false, narrowed := true }
def WaitApartUptoSaid : Prop := waitApartUptoRow.holds Try.pinned (OpenSpec.upto waitApartSpec)

/-- 'pontoonlaw21.WaitDoubles', WHERE WHAT IT READS IS OF BULK AT MOST 1048576: true; the input reads as it did. -/
def waitDoublesUptoRow : OpenClaim := { program := "ytgilccdajlpeaaa", sum := "13e81c603a033312ff99a49e4325ea109bf1e31a875d83d0dff4e6229bac2e3e", func := "pontoon/pontoonlaw21.WaitDoubles", spec := "waitDoubles", apart := false, narrowed := true }
def WaitDoublesUptoSaid : Prop := waitDoublesUptoRow.holds Try.pinned (OpenSpec.upto waitDoublesSpec)

/-- 'pontoonlaw21.WaitFar', WHERE WHAT IT READS IS OF BULK AT MOST 1048576: true; the input reads as it did. -/
def waitFarUptoRow : OpenClaim := { program := "ytgilccdajlpeaaa", sum := "13e81c603a033312ff99a49e4325ea109bf1e31a875d83d0dff4e6229bac2e3e", func := "pontoon/pontoonlaw21.WaitFar", spec := "waitFar", apart := false, narrowed := true }
def WaitFarUptoSaid : Prop := waitFarUptoRow.holds Try.pinned (OpenSpec.upto waitFarSpec)

/-- 'pontoonlaw6.WindowPlays', WHERE WHAT IT READS IS OF BULK AT MOST 1048576: true; the input reads as it did. -/
def windowPlaysUptoRow : OpenClaim := { program := "ytgilccdajlpeaaa", sum := "13e81c603a033312ff99a49e4325ea109bf1e31a875d83d0dff4e6229bac2e3e", func := "pontoon/pontoonlaw6.WindowPlays", spec := "windowPlays", apart := false, narrowed := true }
def WindowPlaysUptoSaid : Prop := windowPlaysUptoRow.holds Try.pinned (OpenSpec.upto windowPlaysSpec)

/-- 'pontoonlaw6.WindowFar', WHERE WHAT IT READS IS OF BULK AT MOST 1048576: true; the input reads as it did. -/
def windowFarUptoRow : OpenClaim := { program := "ytgilccdajlpeaaa", sum := "13e81c603a033312ff99a49e4325ea109bf1e31a875d83d0dff4e6229bac2e3e", func := "pontoon/pontoonlaw6.WindowFar", spec := "windowFar", apart := false, narrowed := true }
def WindowFarUptoSaid : Prop := windowFarUptoRow.holds Try.pinned (OpenSpec.upto windowFarSpec)

end Rows
end Go.Proofs.Ytgilccdajlpeaaa
