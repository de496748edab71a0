/- HostPlays over plain arguments. Conditions: those in each theorem. -/
import Derived.Test.YtmdhiimgeocgeaaLawHP
import Derived.OpenShut
namespace Go.Proofs.Ytmdhiimgeocgeaa.Host
open Go.RowKit Go.Proofs.Ytmdhiimgeocgeaa.Mem Go.Proofs.Ytmdhiimgeocgeaa.Row Go.Proofs.Ytmdhiimgeocgeaa.Tally Go.Proofs.Ytmdhiimgeocgeaa.Obj Go.Proofs.Ytmdhiimgeocgeaa.Opens Go.Proofs.YtmdhiimgeocgeaaW.PrintWords Go.Proofs.YtmdhiimgeocgeaaW.PrintMore Go.Proofs.YtmdhiimgeocgeaaW.PrintLast Go.Proofs.Ytmdhiimgeocgeaa.PHostPlays
open Go.Proofs.Ytmdhiimgeocgeaa.BookTx (BK LS foot mem_foot Own)
attribute [local go_sem] min2_i max2_i max_two min_two
set_option linter.unusedVariables false
set_option linter.unusedSimpArgs false
set_option maxRecDepth 100000 in
theorem hplays_over (A0 : Option Addr) (n c0 : Nat) (w : World) (hl : 80 < n) :
    Calls Try.prog 6 #[.slice A0 n c0] w fun r w' => r = .returned (.bool true) ∧ Below w.heap.size w w' := by
  have hlI : (80 : Int) < (n : Int) := by omega
  go_enter Try.func6, Try.ntmps6
  go_wp2_with fail
  refine (alive25 _).mono ?_
  rintro e0 w0 ⟨rfl, hb0⟩
  go_wp2
  go_ret
  exact ⟨rfl, hb0⟩
theorem hplays_row (A : Option Addr) (c : Nat) (l : List HOp) (w : World) (h : Kd.C kHop w A l.length l ∧ ∀ y ∈ l, WfHop y) (hc : l.length ≤ c) :
    Calls Try.prog 6 #[.slice A l.length c] w fun r w' => r = .returned (.bool true) ∧ Below w.heap.size w w' := by
  by_cases hl : l.length ≤ 80
  · exact hplays_live A c l w h.1 h.2 hl
  · exact hplays_over A l.length c w (by omega)
end Go.Proofs.Ytmdhiimgeocgeaa.Host
