/- The tallies, and the rows of events, of keys.Out and keys.In. Conditions: those in each theorem. -/
import Derived.Test.YtjjjinpmflghmaaMem
import Derived.Test.YtjjjinpmflghmaaObj
import Derived.Test.YtjjjinpmflghmaaPKeysBoundsx1
import Derived.Laws.LoneSync
import Derived.Laws.MakeOwn
import Derived.Tactics
import Derived.RowKit3
import Derived.Deep.LoopGhost
import Derived.Deep.QuietTactic
import Derived.BigQuiet
import Derived.WideLaws
import Derived.Deep.DeepCutAuto
import Derived.Deep.CutBlock
import Derived.Deep.RegionHeld3
import Derived.Laws.Slices
import Derived.Outline
import Derived.Lib.Hide
import Derived.OrdersHeld
import Derived.RowKit
import Derived.WalkSpells
import Derived.StillTailTactics
namespace Go.Proofs.Ytjjjinpmflghmaa.Keys
open Go.RowKit Go.Proofs.Ytjjjinpmflghmaa.Mem Go.Proofs.YtjjjinpmflghmaaW.PrintWords Go.Proofs.YtjjjinpmflghmaaW.PrintMore Go.Proofs.YtjjjinpmflghmaaW.PrintLast
set_option linter.unusedVariables false
set_option linter.unusedSimpArgs false
/-! ### Atomic numbers -/
theorem run_call_swap {P : Program} {f : Nat} {fn : Func} (hf : P.funcs[f]? = some fn) (hname : (fn.name == "runtime.NumGoroutine") = false) (hb : fn.body.isNone = true) (hn : Extern.findNext fn = none) (k : IntKind)
    (he : Extern.find fn = some (Extern.Atomic.swapT (.int k))) {a : Addr} {x y : Int} {w : World} (hc : w.cell? a = some (.int k x)) (hz : w.frozen? a = false) :
    (callFunc f #[.pointer (some a), .int k y]).run P w = .ok (.value (.int k x)) (w.setCell a (.int k y)) := by
  rw [run_callFunc_extern hf hname hb hn he]
  change (Sem.run P (do
    let a' ← asAddr (.pointer (some a))
    let old ← Extern.Atomic.read (.int k) a'
    store a' (.int k y) .atomic
    pure old) w).andThen _ = _
  simp [Extern.Atomic.read, asAddr, hc, hz, run_store P w a (.int k y) .atomic rfl, Result.andThen]
theorem iload_calls (g k : Nat) (x : Int) (w : World) (hc : w.cell? ⟨g, k, none⟩ = some (.int .i64 x)) :
    Calls Try.prog 104 #[.pointer (some ⟨g, k, none⟩)] w fun r w' => r = .returned (.int .i64 x) ∧ w = w' := by
  have hl := run_call_load (P := Try.prog) Try.func136 (by kernel_rfl) (by kernel_rfl) (by kernel_rfl) .i64 (by kernel_rfl) hc
  go_enter Try.func104, Try.ntmps104
  go_wp2
  go_ret
  exact ⟨rfl, rfl⟩
theorem iadd_calls (g k : Nat) (x y s : Int) (w : World) (hc : w.cell? ⟨g, k, none⟩ = some (.int .i64 x)) (hz : w.frozen? ⟨g, k, none⟩ = false) (hs : s = x + y) (h1 : -9223372036854775808 ≤ s) (h2 : s ≤ 9223372036854775807) :
    Calls Try.prog 103 #[.pointer (some ⟨g, k, none⟩), .int .i64 y] w fun r w' => r = .returned (.int .i64 s) ∧ w.setCell ⟨g, k, none⟩ (.int .i64 s) = w' := by
  have ha := run_call_add (P := Try.prog) Try.func135 (by kernel_rfl) (by kernel_rfl) (by kernel_rfl) .i64 (by kernel_rfl) (y := y) (s := s) hc hz (by
    subst hs
    have : IntKind.i64.wrap (x + y) = x + y := IntWalk.i64_in _ (by omega)
    simp [Op.intArith, this])
  clear hs
  go_enter Try.func103, Try.ntmps103
  go_wp2
  go_ret
  exact ⟨rfl, rfl⟩
theorem iswap_calls (g k : Nat) (x y : Int) (w : World) (hc : w.cell? ⟨g, k, none⟩ = some (.int .i64 x)) (hz : w.frozen? ⟨g, k, none⟩ = false) :
    Calls Try.prog 105 #[.pointer (some ⟨g, k, none⟩), .int .i64 y] w fun r w' => r = .returned (.int .i64 x) ∧ w.setCell ⟨g, k, none⟩ (.int .i64 y) = w' := by
  have ha := run_call_swap (P := Try.prog) Try.func137 (by kernel_rfl) (by kernel_rfl) (by kernel_rfl) .i64 (by kernel_rfl) (y := y) hc hz
  go_enter Try.func105, Try.ntmps105
  go_wp2
  go_ret
  exact ⟨rfl, rfl⟩
/-! ### Tallies -/
theorem eql_tally (a : Addr) (w : World) : Sem.run Try.prog (binOp .eql 145 (.pointer (some a)) (.pointer none)) w = .ok (.bool false) w := by kernel_rfl
theorem now_calls (g k : Nat) (x : Int) (w : World) (hc : w.cell? ⟨g, k, none⟩ = some (.int .i64 x)) :
    Calls Try.prog 51 #[.pointer (some ⟨g, k, none⟩)] w fun r w' => r = .returned (.int .i64 x) ∧ w = w' := by
  have hn := eql_tally ⟨g, k, none⟩
  have HC := Aside0.mk hc
  clear hc
  go_enter Try.func51, Try.ntmps51
  go_wp2_with fail
  refine (iload_calls g k x w HC.out).mono ?_
  rintro e1 w1 ⟨rfl, rfl⟩
  go_wp2
  go_ret
  exact ⟨rfl, rfl⟩
theorem swap_calls (g k : Nat) (x y : Int) (w : World) (hc : w.cell? ⟨g, k, none⟩ = some (.int .i64 x)) (hz : w.frozen? ⟨g, k, none⟩ = false) :
    Calls Try.prog 54 #[.pointer (some ⟨g, k, none⟩), .int .i64 y] w fun r w' => r = .returned (.int .i64 x) ∧ w.setCell ⟨g, k, none⟩ (.int .i64 y) = w' := by
  have hn := eql_tally ⟨g, k, none⟩
  have HC := Aside0.mk hc
  clear hc
  go_enter Try.func54, Try.ntmps54
  go_wp2_with fail
  refine (iswap_calls g k x y w HC.out hz).mono ?_
  rintro e1 w1 ⟨rfl, rfl⟩
  go_wp2
  go_ret
  exact ⟨rfl, rfl⟩
theorem add1_calls (g k b : Nat) (x s : Int) (w : World) (hc : w.cell? ⟨g, k, none⟩ = some (.int .i64 x)) (hz : w.frozen? ⟨g, k, none⟩ = false) (hb : w.cell? ⟨b, 0, none⟩ = some (.int .i64 1)) (hs : s = x + 1) (h1 : -9223372036854775808 ≤ s) (h2 : s ≤ 9223372036854775807) :
    Calls Try.prog 50 #[.pointer (some ⟨g, k, none⟩), .slice (some ⟨b, 0, none⟩) 1 1] w fun r w' => r = .returned (.int .i64 s) ∧ w.setCell ⟨g, k, none⟩ (.int .i64 s) = w' := by
  have hn := eql_tally ⟨g, k, none⟩
  have HC := Aside0.mk hc
  have HS := Aside0.mk hs
  clear hc hs
  go_enter Try.func50, Try.ntmps50
  go_wp2
  refine wp_loop_rounds 2 ?_
  rw [rounds_succ]
  go_wp2
  rw [rounds_succ]
  go_wp2_with fail
  refine (iadd_calls g k x 1 s w HC.out hz HS.out h1 h2).mono ?_
  rintro e1 w1 ⟨rfl, rfl⟩
  go_wp2
  go_ret
  exact ⟨rfl, rfl⟩
end Go.Proofs.Ytjjjinpmflghmaa.Keys
