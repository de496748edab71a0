/- RingPlays for every list of calls. Conditions: those in each theorem. -/
import Derived.Test.YtheieigeipppnaaLawRPlays
namespace Go.Proofs.Ytheieigeipppnaa.RingP
open Go.RowKit Go.Proofs.YtheieigeipppnaaW.PrintWords Go.Proofs.YtheieigeipppnaaW.PrintMore Go.Proofs.Ytheieigeipppnaa.PRingPlays Go.Proofs.Ytheieigeipppnaa.Opens Go.Proofs.Ytheieigeipppnaa.Obj Go.Proofs.Ytheieigeipppnaa.Lent
attribute [local go_sem] max2_int min2_int max_two min_two max_three min_three max_four min_four
set_option linter.unusedVariables false
set_option linter.unusedSimpArgs false
set_option maxHeartbeats 1000000 in
set_option maxRecDepth 100000 in
theorem rplays_over (room : Int) (A : Option Addr) (c : Nat) (ops : List ROp) (w : World) (hl : ¬ ops.length ≤ 60) :
    Calls Try.prog 8 #[.int .i64 room, .slice A ops.length c] w fun r w' => r = .returned (.bool true) ∧ Below w.heap.size w w' := by
  have hl6 : (60 : Int) < (ops.length : Int) := by omega
  clear hl
  go_enter Try.func8, Try.ntmps8
  go_wp2_with fail
  refine (alive2 _).mono ?_
  rintro e0 w0 ⟨rfl, hb0⟩
  have HB := Aside0.mk hb0
  clear hb0
  go_wp2
  go_ret
  exact ⟨rfl, HB.out⟩
theorem rplays (room : Int) (A : Option Addr) (c : Nat) (ops : List ROp) (w : World) (_hr : (Lit.int .i64 room).wf = true) (hops : Kd.C kOp w A ops.length ops) (hc : ops.length ≤ c) :
    Calls Try.prog 8 #[.int .i64 room, .slice A ops.length c] w fun r w' => r = .returned (.bool true) ∧ Below w.heap.size w w' := by
  by_cases hl : ops.length ≤ 60
  · exact rplays_live room A c ops w hops hc hl
  · exact rplays_over room A c ops w hl
end Go.Proofs.Ytheieigeipppnaa.RingP
namespace Go.Proofs.Ytheieigeipppnaa.Opens
open Go.Proofs.Ytheieigeipppnaa.RingP
theorem opens_rop : Opens Try.prog 51 kOp := RingP.opens_rop
end Go.Proofs.Ytheieigeipppnaa.Opens
