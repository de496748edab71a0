/- The walk of CellSgr over plain arguments. Conditions: those in each theorem. -/
import Derived.Test.YtcmmdllnbijipaaPureCellSgr
namespace Go.Proofs.Ytcmmdllnbijipaa.Sgr
open Go.RowKit Go.Proofs.Ytcmmdllnbijipaa.PCellSgr Go.Proofs.Ytcmmdllnbijipaa.Pure Go.Proofs.YtcmmdllnbijipaaW.PrintWords Go.Proofs.YtcmmdllnbijipaaW.PrintLast Go.Proofs.YtcmmdllnbijipaaW.PrintMore
theorem walk (a0 a1 : Int) (b0 b1 b2 : Bool) (A1 : Option Addr) (len1 cap1 : Nat) (z1 : List Int) (A2 : Option Addr) (len2 cap2 : Nat) (z2 : List Int) (w : World)
    (_u0 : (Lit.int .i64 a0).wf = true) (_u1 : (Lit.int .i64 a1).wf = true)
    (w1 : (A1 = none ∧ len1 = 0 ∧ cap1 = 0 ∧ z1 = []) ∨ ∃ x, A1 = some x ∧ len1 ≤ cap1 ∧ cap1 ≤ maxLen ∧ z1.length = cap1 ∧ (∀ i, i < z1.length → w.cell? (x.add i) = some (.int .i64 (z1.getD i 0))) ∧ ∀ n ∈ z1, (Lit.int .i64 n).wf = true) (_y1 : len1 * 8 ≤ 140737488351232)
    (w2 : (A2 = none ∧ len2 = 0 ∧ cap2 = 0 ∧ z2 = []) ∨ ∃ x, A2 = some x ∧ len2 ≤ cap2 ∧ cap2 ≤ maxLen ∧ z2.length = cap2 ∧ (∀ i, i < z2.length → w.cell? (x.add i) = some (.int .i64 (z2.getD i 0))) ∧ ∀ n ∈ z2, (Lit.int .i64 n).wf = true) (_y2 : len2 * 8 ≤ 140737488351232) :
    Calls Try.prog 4 #[.agg #[.int .i64 a0, .int .i64 a1, .bool b0, .bool b1, .bool b2], .slice A1 len1 cap1, .slice A2 len2 cap2] w fun e w' => e = .returned (.bool true) ∧ Below w.heap.size w w' := by
  obtain ⟨l1, rfl, hr1, _, _, hc1⟩ := ReadsInt.ofRowC w1
  obtain ⟨l2, rfl, hr2, _, _, hc2⟩ := ReadsInt.ofRowC w2
  refine (pontoonlaw14_CellSgr.calls 400 a0 a1 b0 b1 b2 _ _ l1 _ _ l2 true w (Kd.C_of_reads (d := (0 : Int)) (h1 := fun _ => rfl) hr1) hc1 (Kd.C_of_reads (d := (0 : Int)) (h1 := fun _ => rfl) hr2) hc2 (CellSgr_pure (a0, a1, b0, b1, b2) l1 l2)).mono ?_
  rintro e w' ⟨rfl, hd⟩
  exact ⟨rfl, hd⟩
end Go.Proofs.Ytcmmdllnbijipaa.Sgr
