/- KeyQ, KeyO, KeyAdd, KeyTake, KeyAl, KeyWait, in one text. Conditions: those in each theorem. -/
import Derived.Test.YtjjjinpmflghmaaMA
import Derived.Test.YtjjjinpmflghmaaPKeysBoundsx1
import Derived.Laws.LoneSync
import Derived.Laws.MakeOwn
import Derived.Tactics
import Derived.RowKit3
import Derived.Deep.LoopGhost
import Derived.Deep.QuietTactic
import Derived.BigQuiet
import Derived.WideLaws
import Derived.Deep.DeepCutAuto
import Derived.Deep.CutBlock
import Derived.Deep.RegionHeld3
import Derived.Laws.Slices
import Derived.Outline
import Derived.Lib.Hide
import Derived.OrdersHeld
import Derived.RowKit
import Derived.WalkSpells
import Derived.StillTailTactics
import Derived.Lib.SliceRun
import Derived.Deep.RegionLaw
namespace Go.Proofs.Ytjjjinpmflghmaa.Keys
open Go.RowKit Go.Proofs.Ytjjjinpmflghmaa.Mem Go.Proofs.YtjjjinpmflghmaaW.PrintWords Go.Proofs.YtjjjinpmflghmaaW.PrintMore Go.Proofs.YtjjjinpmflghmaaW.PrintLast
set_option linter.unusedVariables false
set_option linter.unusedSimpArgs false
/-! ### Atomic numbers -/
theorem run_call_swap {P : Program} {f : Nat} {fn : Func} (hf : P.funcs[f]? = some fn) (hname : (fn.name == "runtime.NumGoroutine") = false) (hb : fn.body.isNone = true) (hn : Extern.findNext fn = none) (k : IntKind)
    (he : Extern.find fn = some (Extern.Atomic.swapT (.int k))) {a : Addr} {x y : Int} {w : World} (hc : w.cell? a = some (.int k x)) (hz : w.frozen? a = false) :
    (callFunc f #[.pointer (some a), .int k y]).run P w = .ok (.value (.int k x)) (w.setCell a (.int k y)) := by
  rw [run_callFunc_extern hf hname hb hn he]
  change (Sem.run P (do
    let a' ← asAddr (.pointer (some a))
    let old ← Extern.Atomic.read (.int k) a'
    store a' (.int k y) .atomic
    pure old) w).andThen _ = _
  simp [Extern.Atomic.read, asAddr, hc, hz, run_store P w a (.int k y) .atomic rfl, Result.andThen]
theorem iload_calls (g k : Nat) (x : Int) (w : World) (hc : w.cell? ⟨g, k, none⟩ = some (.int .i64 x)) :
    Calls Try.prog 104 #[.pointer (some ⟨g, k, none⟩)] w fun r w' => r = .returned (.int .i64 x) ∧ w = w' := by
  have hl := run_call_load (P := Try.prog) Try.func136 (by kernel_rfl) (by kernel_rfl) (by kernel_rfl) .i64 (by kernel_rfl) hc
  go_enter Try.func104, Try.ntmps104
  go_wp2
  go_ret
  exact ⟨rfl, rfl⟩
theorem iadd_calls (g k : Nat) (x y s : Int) (w : World) (hc : w.cell? ⟨g, k, none⟩ = some (.int .i64 x)) (hz : w.frozen? ⟨g, k, none⟩ = false) (hs : s = x + y) (h1 : -9223372036854775808 ≤ s) (h2 : s ≤ 9223372036854775807) :
    Calls Try.prog 103 #[.pointer (some ⟨g, k, none⟩), .int .i64 y] w fun r w' => r = .returned (.int .i64 s) ∧ w.setCell ⟨g, k, none⟩ (.int .i64 s) = w' := by
  have ha := run_call_add (P := Try.prog) Try.func135 (by kernel_rfl) (by kernel_rfl) (by kernel_rfl) .i64 (by kernel_rfl) (y := y) (s := s) hc hz (by
    subst hs
    have : IntKind.i64.wrap (x + y) = x + y := IntWalk.i64_in _ (by omega)
    simp [Op.intArith, this])
  clear hs
  go_enter Try.func103, Try.ntmps103
  go_wp2
  go_ret
  exact ⟨rfl, rfl⟩
theorem iswap_calls (g k : Nat) (x y : Int) (w : World) (hc : w.cell? ⟨g, k, none⟩ = some (.int .i64 x)) (hz : w.frozen? ⟨g, k, none⟩ = false) :
    Calls Try.prog 105 #[.pointer (some ⟨g, k, none⟩), .int .i64 y] w fun r w' => r = .returned (.int .i64 x) ∧ w.setCell ⟨g, k, none⟩ (.int .i64 y) = w' := by
  have ha := run_call_swap (P := Try.prog) Try.func137 (by kernel_rfl) (by kernel_rfl) (by kernel_rfl) .i64 (by kernel_rfl) (y := y) hc hz
  go_enter Try.func105, Try.ntmps105
  go_wp2
  go_ret
  exact ⟨rfl, rfl⟩
/-! ### Tallies -/
theorem eql_tally (a : Addr) (w : World) : Sem.run Try.prog (binOp .eql 145 (.pointer (some a)) (.pointer none)) w = .ok (.bool false) w := by kernel_rfl
theorem now_calls (g k : Nat) (x : Int) (w : World) (hc : w.cell? ⟨g, k, none⟩ = some (.int .i64 x)) :
    Calls Try.prog 51 #[.pointer (some ⟨g, k, none⟩)] w fun r w' => r = .returned (.int .i64 x) ∧ w = w' := by
  have hn := eql_tally ⟨g, k, none⟩
  have HC := Aside0.mk hc
  clear hc
  go_enter Try.func51, Try.ntmps51
  go_wp2_with fail
  refine (iload_calls g k x w HC.out).mono ?_
  rintro e1 w1 ⟨rfl, rfl⟩
  go_wp2
  go_ret
  exact ⟨rfl, rfl⟩
theorem swap_calls (g k : Nat) (x y : Int) (w : World) (hc : w.cell? ⟨g, k, none⟩ = some (.int .i64 x)) (hz : w.frozen? ⟨g, k, none⟩ = false) :
    Calls Try.prog 54 #[.pointer (some ⟨g, k, none⟩), .int .i64 y] w fun r w' => r = .returned (.int .i64 x) ∧ w.setCell ⟨g, k, none⟩ (.int .i64 y) = w' := by
  have hn := eql_tally ⟨g, k, none⟩
  have HC := Aside0.mk hc
  clear hc
  go_enter Try.func54, Try.ntmps54
  go_wp2_with fail
  refine (iswap_calls g k x y w HC.out hz).mono ?_
  rintro e1 w1 ⟨rfl, rfl⟩
  go_wp2
  go_ret
  exact ⟨rfl, rfl⟩
theorem add1_calls (g k b : Nat) (x s : Int) (w : World) (hc : w.cell? ⟨g, k, none⟩ = some (.int .i64 x)) (hz : w.frozen? ⟨g, k, none⟩ = false) (hb : w.cell? ⟨b, 0, none⟩ = some (.int .i64 1)) (hs : s = x + 1) (h1 : -9223372036854775808 ≤ s) (h2 : s ≤ 9223372036854775807) :
    Calls Try.prog 50 #[.pointer (some ⟨g, k, none⟩), .slice (some ⟨b, 0, none⟩) 1 1] w fun r w' => r = .returned (.int .i64 s) ∧ w.setCell ⟨g, k, none⟩ (.int .i64 s) = w' := by
  have hn := eql_tally ⟨g, k, none⟩
  have HC := Aside0.mk hc
  have HS := Aside0.mk hs
  clear hc hs
  go_enter Try.func50, Try.ntmps50
  go_wp2
  refine wp_loop_rounds 2 ?_
  rw [rounds_succ]
  go_wp2
  rw [rounds_succ]
  go_wp2_with fail
  refine (iadd_calls g k x 1 s w HC.out hz HS.out h1 h2).mono ?_
  rintro e1 w1 ⟨rfl, rfl⟩
  go_wp2
  go_ret
  exact ⟨rfl, rfl⟩
end Go.Proofs.Ytjjjinpmflghmaa.Keys
namespace Go.Proofs.Ytjjjinpmflghmaa.Keys
open Go.RowKit Go.Proofs.Ytjjjinpmflghmaa.Mem Go.Proofs.YtjjjinpmflghmaaW.PrintWords Go.Proofs.YtjjjinpmflghmaaW.PrintMore Go.Proofs.YtjjjinpmflghmaaW.PrintLast
set_option linter.unusedVariables false
set_option linter.unusedSimpArgs false
/-! ### Rows of events -/
structure E4 where
  k : Int
  s : ByteArray
  x : Int
  y : Int
def E4.cells (e : E4) : List Value := [.int .i64 e.k, .string e.s, .int .i64 e.x, .int .i64 e.y]
def E4.val (e : E4) : Value := .agg #[.int .i64 e.k, .string e.s, .int .i64 e.x, .int .i64 e.y]
def fe : List E4 → List Value
  | [] => []
  | e :: l => e.cells ++ fe l
theorem fe_len : ∀ l : List E4, (fe l).length = l.length * 4
  | [] => rfl
  | e :: l => by simp [fe, E4.cells, fe_len l]; omega
theorem fe_app : ∀ a b : List E4, fe (a ++ b) = fe a ++ fe b
  | [], b => rfl
  | e :: a, b => by simp [fe, fe_app a b]
theorem fe_drop : ∀ (n : Nat) (l : List E4), (fe l).drop (n * 4) = fe (l.drop n)
  | 0, l => by simp
  | n + 1, [] => by simp [fe]
  | n + 1, e :: l => by
    have h : (n + 1) * 4 = n * 4 + 4 := by omega
    rw [h, List.drop_succ_cons, ← fe_drop n l]
    simp only [fe, E4.cells]
    rw [Nat.add_comm (n * 4) 4, ← List.drop_drop]
    rfl
theorem fe_take : ∀ (n : Nat) (l : List E4), (fe l).take (n * 4) = fe (l.take n)
  | 0, l => by simp [fe]
  | n + 1, [] => by simp [fe]
  | n + 1, e :: l => by
    rw [List.take_succ_cons]
    show (e.cells ++ fe l).take _ = e.cells ++ fe (l.take n)
    rw [List.take_append, List.take_of_length_le (by simp [E4.cells]; omega), show (n + 1) * 4 - e.cells.length = n * 4 by simp [E4.cells]; omega, fe_take]
theorem fe_one (l : List E4) : ∀ u ∈ fe l, u.oneCell' = true := by
  induction l with
  | nil => simp [fe]
  | cons e l ih =>
    intro u hu
    simp only [fe, List.mem_append] at hu
    rcases hu with hu | hu
    · simp only [E4.cells, List.mem_cons, List.not_mem_nil, or_false] at hu
      rcases hu with rfl | rfl | rfl | rfl <;> rfl
    · exact ih u hu
/-- Cells of a row in memory. -/
def SrcE (w : World) (A : Option Addr) (l : List E4) : Prop := l = [] ∨ ∃ a, A = some a ∧ ∀ j u, (fe l)[j]? = some u → w.cell? (a.add j) = some u
theorem SrcE.below {w w' : World} {A : Option Addr} {l : List E4} (h : SrcE w A l) (hb : Below w.heap.size w w') : SrcE w' A l := h.imp id (fun ⟨a, h1, h2⟩ => ⟨a, h1, fun j u hj => pw_cell_below hb (h2 j u hj)⟩)
theorem infoEv : (Try.prog.info? 38).map (fun i => (i.zero, i.size, i.bytes)) = some (some (.agg #[.int .i64 0, .string ⟨#[]⟩, .int .i64 0, .int .i64 0]), 4, 40) := by kernel_rfl
theorem wpList_append_of {P : Program} {w w' : World} {v : Value} {ops : Array Oper} {rest : List Oper} {o : Oper} {a : Act} {Q : Exit → Act → World → Prop} (hgd : o.guard = none) (d s : Operand) (dT sT : TypeId) (x y : Value)
    (ho : o.op = .call { callee := .builtin .append, args := #[d, s], argTypes := #[dT, sT] }) (hd : a.eval d = x) (hs : a.eval s = y)
    (hr : (Builtin.append_ #[dT, sT] o.type #[x, y]).run P w = .ok v w')
    (h : wpList P ops Q rest (a.put o.dst v) w') : wpList P ops Q (o :: rest) a w :=
  wpList_plain hgd fun _ hK => by
    unfold Oper.wp execOp
    simp only [ho, resolve, invoke, builtin, Sem.run_bind, Sem.run_pure, Result.andThen_ok, List.map_toArray, List.map_cons, List.map_nil, hd, hs, hr]
    exact hK _ _ h
set_option maxHeartbeats 1000000 in
set_option maxRecDepth 100000 in
theorem clone_some (ad : Addr) (m c : Nat) (l : List E4) (w : World) (hs : SrcE w (some ad) l) (hm : l.length = m) (hl : m ≤ 100000) :
    Calls Try.prog 53 #[.slice (some ad) m c] w fun r w' => (∃ v, r = .returned v ∧ w'.ownsRow w.heap.size 38 4 v m (fe l)) ∧ Below w.heap.size w w' := by
  have HS := Aside0.mk (hs.below (below_alloc (Below.refl _ _) (.cells #[] 38)))
  have hnil := fun W1 : World => Lib.run_eql_slice_nil W1 24 38 (some ad) m c 0 0 Try.underlying24
  have HOW := Aside0.mk (World.ownsRow_made (base := w.heap.size) (size := 4) (e := 38) w #[] 0 (Nat.le_refl _) (by simp) rfl)
  have HB := Aside0.mk (below_alloc (Below.refl w.heap.size w) (.cells #[] 38))
  clear hs
  have hsrc : ∀ j u, (fe l)[j]? = some u → (w.alloc (.cells #[] 38)).cell? (ad.add j) = some u := by
    rcases HS.out with h | ⟨ad', h, h2⟩
    · subst h; intro j u hj; simp [fe] at hj
    · injection h with h
      subst h
      exact h2
  obtain ⟨iC, hiC, hz0, hz1, hz2⟩ := info_parts infoEv
  obtain ⟨v2, w2, hr, ho, hg, _, _⟩ := run_append_own_at (P := Try.prog) _ w.heap.size 24 24 38 iC _ 4 40 Try.underlying24 hiC hz0 hz1 hz2 rfl (by decide) _ 0 [] HOW.out ad m c (fe l) (by rw [fe_len, hm]) hsrc (fe_one l) (by unfold maxLen; omega) (by omega) (by simp)
  rw [Nat.zero_add, List.nil_append] at ho
  have HO := Aside0.mk ho
  have HB2 := Aside0.mk (show Below w.heap.size w w2 from HB.out.trans ⟨hg.os, hg.tape, hg.output, hg.size, fun k hk => hg.block k (by simp; omega) (by simp [Value.ownBlock]; omega)⟩)
  have HR := Aside0.mk hr
  clear hr ho hg hsrc hiC hz0 hz1 hz2 hm
  go_enter Try.func53, Try.ntmps53
  go_wp2_with (with_reducible refine wpList_append_of rfl (.tmp 5) (.tmp 6) 24 24 (.slice (some ⟨w.heap.size, 0, none⟩) 0 0) (.slice (some ad) m c) rfl ?_ ?_ HR.out ?_)
  · rfl
  · rfl
  go_ret
  exact ⟨⟨_, rfl, HO.out⟩, HB2.out⟩
set_option maxHeartbeats 1000000 in
set_option maxRecDepth 100000 in
theorem clone_none (c : Nat) (w : World) :
    Calls Try.prog 53 #[.slice none 0 c] w fun r w' => r = .returned (.slice none 0 0) ∧ w = w' := by
  have hnil := fun W1 : World => Lib.run_eql_slice_nil W1 24 38 none 0 c 0 0 Try.underlying24
  go_enter Try.func53, Try.ntmps53
  go_wp2
  go_ret
  exact ⟨rfl, rfl⟩
/-! ### The objects -/
/-- A block of a queue: its events' row, and two numbers. -/
structure IsQ (w : World) (g : Nat) (T : TypeId) (v : Value) (l : List E4) (a b : Int) : Prop where
  blk : Blk w g T #[v, .int .i64 a, .int .i64 b]
  row : w.ownsRow 0 38 4 v l.length (fe l)
theorem own_form {w : World} {B n : Nat} {v : Value} {xs : List Value} (h : w.ownsRow B 38 4 v n xs) : (v = .slice none 0 0 ∧ n = 0) ∨ ∃ b c, v = .slice (some ⟨b, 0, none⟩) n c ∧ n ≤ c ∧ ∀ j u, xs[j]? = some u → w.cell? ⟨b, j, none⟩ = some u := by
  obtain ⟨hl, h⟩ := h
  rcases h with ⟨h1, h2⟩ | ⟨g, cap, cur, rfl, h3, h4, h5, h6, h7, h8⟩
  · exact .inl ⟨h1, h2⟩
  · refine .inr ⟨g, cap, rfl, by omega, fun j u hj => ?_⟩
    rw [cell_of_row w g j cur 38 (0, 0) h4]
    rw [← h8, List.getElem?_take] at hj
    split at hj
    · simpa using hj
    · cases hj
theorem own_sl {w : World} {B n : Nat} {v : Value} {xs : List Value} (h : w.ownsRow B 38 4 v n xs) : ∃ A c, v = .slice A n c := by
  rcases own_form h with ⟨h1, h2⟩ | ⟨b, c, h1, _⟩
  · exact ⟨none, 0, by rw [h1, h2]⟩
  · exact ⟨_, _, h1⟩
theorem src_of {w : World} {b : Nat} {l : List E4} (h : ∀ j u, (fe l)[j]? = some u → w.cell? ⟨b, j, none⟩ = some u) (k : Nat) : SrcE w (some ⟨b, k * 4, none⟩) (l.drop k) := by
  refine .inr ⟨_, rfl, fun j u hj => ?_⟩
  rw [← fe_drop, List.getElem?_drop] at hj
  have e : (⟨b, k * 4, none⟩ : Addr).add j = ⟨b, k * 4 + j, none⟩ := by unfold Addr.add; split <;> simp_all
  rw [e]
  exact h _ _ hj
/-- What a call on a queue turns: its block, its events' row; that row is the same block, or a new one. -/
structure Turn (g : Nat) (v : Value) (w w' : World) (v' : Value) : Prop where
  o : Only (g :: v.ownBlock.toList) w w'
  n : ∀ k, v'.ownBlock = some k → v.ownBlock = some k ∨ w.heap.size ≤ k
theorem Turn.refl (g : Nat) (v : Value) (w : World) : Turn g v w w v := ⟨Only.refl _ _, fun k hk => .inl hk⟩
theorem Turn.trans {g : Nat} {v v' v'' : Value} {a b c : World} (h : Turn g v a b v') (k : Turn g v' b c v'') : Turn g v a c v'' :=
  ⟨⟨k.o.os.trans h.o.os, k.o.tape.trans h.o.tape, k.o.output.trans h.o.output, Nat.le_trans h.o.size k.o.size, fun i hi hn => (k.o.block i (Nat.lt_of_lt_of_le hi h.o.size) (fun he => by
      rcases List.mem_cons.1 he with rfl | he
      · exact hn (by simp)
      · have he' : v'.ownBlock = some i := by simpa using he
        rcases h.n i he' with h1 | h1
        · exact hn (by simp [h1])
        · omega)).trans (h.o.block i hi hn)⟩,
   fun i hi => by
    rcases k.n i hi with h1 | h1
    · exact h.n i h1
    · exact .inr (Nat.le_trans h.o.size h1)⟩
theorem Turn.below {g : Nat} {v v' : Value} {a b c : World} (h : Turn g v a b v') (hb : Below b.heap.size b c) : Turn g v a c v' := ⟨h.o.below hb, h.n⟩
theorem IsQ.below {w w' : World} {g : Nat} {T : TypeId} {v : Value} {l : List E4} {a b : Int} (h : IsQ w g T v l a b) (hb : Below w.heap.size w w') : IsQ w' g T v l a b := ⟨h.blk.below' hb, pw_own_below h.row hb⟩
theorem row_new {w : World} {B n : Nat} {v : Value} {xs : List Value} (h : w.ownsRow B 38 4 v n xs) : w.ownsRow 0 38 4 v n xs := ⟨h.1, h.2.imp id (fun ⟨g, cap, cur, h1, h2, h3⟩ => ⟨g, cap, cur, h1, Nat.zero_le _, h3⟩)⟩
/-- A queue whose events' row is another one now, and one number. -/
theorem IsQ.put {w w2 : World} {g : Nat} {T : TypeId} {v v2 : Value} {l l2 : List E4} {a b a2 b2 x : Int} (j : Nat) (h : IsQ w2 g T v l a b) (hT : 38 ≠ T) (hlt : g < w.heap.size) (ho : w2.ownsRow w.heap.size 38 4 v2 l2.length (fe l2)) (hB : Below w.heap.size w w2)
    (hx : (#[v2, Value.int .i64 a, Value.int .i64 b] : Array Value).setIfInBounds j (.int .i64 x) = #[v2, Value.int .i64 a2, Value.int .i64 b2]) :
    IsQ ((w2.setCell ⟨g, 0, none⟩ v2).setCell ⟨g, j, none⟩ (.int .i64 x)) g T v2 l2 a2 b2 ∧ Turn g v w ((w2.setCell ⟨g, 0, none⟩ v2).setCell ⟨g, j, none⟩ (.int .i64 x)) v2 := by
  have hne := own_ne ho h.blk hT
  refine ⟨⟨?_, row_new (own_setCell (own_setCell ho hne _) hne _)⟩, ⟨((Only.of_below _ hB).setCell _ _ (.inl (by simp))).setCell _ _ (.inl (by simp)), fun k hk => .inr (own_base ho k hk)⟩⟩
  have h1 := (h.blk.set_ 0 v2).set_ j (.int .i64 x)
  rw [← hx]
  exact h1
theorem IsQ.setV {w : World} {g B : Nat} {T : TypeId} {v v2 : Value} {l l2 : List E4} {a b : Int} (h : IsQ w g T v l a b) (hT : 38 ≠ T) (ho : w.ownsRow B 38 4 v2 l2.length (fe l2)) : IsQ (w.setCell ⟨g, 0, none⟩ v2) g T v2 l2 a b :=
  have hne : some g ≠ v2.ownBlock := own_ne ho h.blk hT
  ⟨h.blk.set_ 0 v2, row_new (own_setCell ho hne _)⟩
theorem IsQ.setA {w : World} {g : Nat} {T : TypeId} {v : Value} {l : List E4} {a b : Int} (h : IsQ w g T v l a b) (hT : 38 ≠ T) (x : Int) : IsQ (w.setCell ⟨g, 1, none⟩ (.int .i64 x)) g T v l x b :=
  have hne : some g ≠ v.ownBlock := own_ne h.row h.blk hT
  ⟨h.blk.set_ 1 _, own_setCell h.row hne _⟩
theorem IsQ.setB {w : World} {g : Nat} {T : TypeId} {v : Value} {l : List E4} {a b : Int} (h : IsQ w g T v l a b) (hT : 38 ≠ T) (x : Int) : IsQ (w.setCell ⟨g, 2, none⟩ (.int .i64 x)) g T v l a x :=
  have hne : some g ≠ v.ownBlock := own_ne h.row h.blk hT
  ⟨h.blk.set_ 2 _, own_setCell h.row hne _⟩
theorem IsQ.far {w : World} {g : Nat} {T : TypeId} {v : Value} {l : List E4} {a b : Int} (h : IsQ w g T v l a b) {p : Addr} (hp : g ≠ p.block) (hv : some p.block ≠ v.ownBlock) (u : Value) : IsQ (w.setCell p u) g T v l a b := ⟨h.blk.far hp u, own_setCell h.row hv u⟩
theorem eql_pout (a : Addr) (w : World) : Sem.run Try.prog (binOp .eql 23 (.pointer (some a)) (.pointer none)) w = .ok (.bool false) w := by kernel_rfl
theorem eql_pin (a : Addr) (w : World) : Sem.run Try.prog (binOp .eql 34 (.pointer (some a)) (.pointer none)) w = .ok (.bool false) w := by kernel_rfl
theorem top_calls (g : Nat) (v : Value) (l : List E4) (a b : Int) (w : World) (h : IsQ w g 33 v l a b) :
    Calls Try.prog 34 #[.pointer (some ⟨g, 0, none⟩)] w fun r w' => r = .returned (.int .i64 a) ∧ w = w' := by
  have hn := eql_pout ⟨g, 0, none⟩
  have HC := Aside0.mk ((h.blk.cell 1).trans (show _ = some (Value.int .i64 a) from rfl))
  clear h
  go_enter Try.func34, Try.ntmps34
  go_wp2_with fail
  refine (now_calls g 1 a w HC.out).mono ?_
  rintro e1 w1 ⟨rfl, rfl⟩
  go_wp2
  go_ret
  exact ⟨rfl, rfl⟩
theorem acked_calls (g : Nat) (v : Value) (l : List E4) (a b : Int) (w : World) (h : IsQ w g 33 v l a b) :
    Calls Try.prog 36 #[.pointer (some ⟨g, 0, none⟩)] w fun r w' => r = .returned (.int .i64 b) ∧ w = w' := by
  have hn := eql_pout ⟨g, 0, none⟩
  have HC := Aside0.mk ((h.blk.cell 2).trans (show _ = some (Value.int .i64 b) from rfl))
  clear h
  go_enter Try.func36, Try.ntmps36
  go_wp2_with fail
  refine (now_calls g 2 b w HC.out).mono ?_
  rintro e1 w1 ⟨rfl, rfl⟩
  go_wp2
  go_ret
  exact ⟨rfl, rfl⟩
theorem done_calls (g : Nat) (v : Value) (l : List E4) (a b : Int) (w : World) (h : IsQ w g 36 v l a b) :
    Calls Try.prog 37 #[.pointer (some ⟨g, 0, none⟩)] w fun r w' => r = .returned (.int .i64 a) ∧ w = w' := by
  have hn := eql_pin ⟨g, 0, none⟩
  have HC := Aside0.mk ((h.blk.cell 1).trans (show _ = some (Value.int .i64 a) from rfl))
  clear h
  go_enter Try.func37, Try.ntmps37
  go_wp2_with fail
  refine (now_calls g 1 a w HC.out).mono ?_
  rintro e1 w1 ⟨rfl, rfl⟩
  go_wp2
  go_ret
  exact ⟨rfl, rfl⟩
theorem got_calls (g : Nat) (v : Value) (l : List E4) (a b : Int) (w : World) (h : IsQ w g 36 v l a b) :
    Calls Try.prog 38 #[.pointer (some ⟨g, 0, none⟩)] w fun r w' => r = .returned (.int .i64 b) ∧ w = w' := by
  have hn := eql_pin ⟨g, 0, none⟩
  have HC := Aside0.mk ((h.blk.cell 2).trans (show _ = some (Value.int .i64 b) from rfl))
  clear h
  go_enter Try.func38, Try.ntmps38
  go_wp2_with fail
  refine (now_calls g 2 b w HC.out).mono ?_
  rintro e1 w1 ⟨rfl, rfl⟩
  go_wp2
  go_ret
  exact ⟨rfl, rfl⟩
theorem len_calls (g : Nat) (v : Value) (l : List E4) (a b : Int) (w : World) (h : IsQ w g 36 v l a b) :
    Calls Try.prog 13 #[.pointer (some ⟨g, 0, none⟩)] w fun r w' => r = .returned (.int .i64 (l.length : Int)) ∧ w = w' := by
  have hn := eql_pin ⟨g, 0, none⟩
  obtain ⟨A, c, rfl⟩ : ∃ A c, v = .slice A l.length c := by
    rcases own_form h.row with ⟨h1, h2⟩ | ⟨b, c, h1, _⟩
    · exact ⟨none, 0, by rw [h1, h2]⟩
    · exact ⟨_, _, h1⟩
  have hc := (h.blk.cell 0).trans (show _ = some (Value.slice A l.length c) from rfl)
  clear h
  go_enter Try.func13, Try.ntmps13
  go_wp2
  go_ret
  exact ⟨rfl, rfl⟩
set_option maxHeartbeats 1000000 in
set_option maxRecDepth 100000 in
theorem ack_calls (g : Nat) (v : Value) (l : List E4) (a b n : Int) (w : World) (h : IsQ w g 33 v l a b) (hab : a - b = l.length) (hb : 0 ≤ b) (ha : a ≤ 1000000000000) (hl : l.length ≤ 100000) (hn1 : b < n) (hn2 : n ≤ a) :
    Calls Try.prog 15 #[.pointer (some ⟨g, 0, none⟩), .int .i64 n] w fun r w' => r = .returned (.int .i64 (n - b)) ∧ ∃ v', IsQ w' g 33 v' (l.drop (n - b).toNat) a n ∧ Turn g v w w' v' := by
  obtain ⟨k, hk⟩ : ∃ k : Nat, (k : Int) = n - b := ⟨(n - b).toNat, by omega⟩
  have hkN : (n - b).toNat = k := by omega
  rw [hkN]
  have hkl : k ≤ l.length := by omega
  rcases own_form h.row with ⟨h1, h2⟩ | ⟨gb, c, rfl, hlc, hcell⟩
  · omega
  · have HQ := Aside0.mk h
    have HS := Aside0.mk (src_of hcell k)
    have hc0 := (h.blk.cell 0).trans (show _ = some (Value.slice (some ⟨gb, 0, none⟩) l.length c) from rfl)
    have hw1 : IntKind.i64.wrap (n - b) = n - b := IntWalk.i64_in _ (by omega)
    clear h hcell
    go_enter Try.func15, Try.ntmps15
    go_wp2_with fail
    refine (acked_calls g _ l a b w HQ.out).mono ?_
    rintro e1 w1 ⟨rfl, rfl⟩
    go_wp2_with fail
    refine (acked_calls g _ l a b w HQ.out).mono ?_
    rintro e1 w1 ⟨rfl, rfl⟩
    go_wp2_with fail
    refine (top_calls g _ l a b w HQ.out).mono ?_
    rintro e1 w1 ⟨rfl, rfl⟩
    go_wp2_with fail
    · have hd : l.drop k = [] := List.drop_of_length_le (by omega)
      refine (clone_some _ (l.length - k) _ (l.drop k) w (.inl hd) (by simp) (by omega)).mono ?_
      rintro e2 w2 ⟨⟨v2, rfl, ho⟩, hB⟩
      obtain ⟨A2, C2, rfl⟩ := own_sl ho
      obtain ⟨v2, hv2⟩ : ∃ v2, v2 = Value.slice A2 (l.length - k) C2 := ⟨_, rfl⟩
      rw [← hv2, ← List.length_drop] at ho
      have HP := Aside0.mk (IsQ.put (x := n) (a2 := a) (b2 := n) 2 (HQ.out.below hB) (by decide) HQ.out.blk.lt ho hB rfl)
      have h0 := ((HQ.out.below hB).blk.cell 0).trans (show _ = some (Value.slice (some ⟨gb, 0, none⟩) l.length c) from rfl)
      have f0 := (HQ.out.below hB).blk.frozen 0
      have HW2 := Aside0.mk (((HQ.out.below hB).blk.set_ 0 v2))
      clear ho hB
      subst hv2
      go_wp2_with fail
      refine (swap_calls g 2 b n _ ((HW2.out.cell 2).trans rfl) (HW2.out.frozen 2)).mono ?_
      rintro e3 w3 ⟨rfl, rfl⟩
      go_wp2
      go_ret
      exact ⟨rfl, _, HP.out.1, HP.out.2⟩
    · refine (clone_some _ (l.length - k) _ (l.drop k) w HS.out (by simp) (by omega)).mono ?_
      rintro e2 w2 ⟨⟨v2, rfl, ho⟩, hB⟩
      obtain ⟨A2, C2, rfl⟩ := own_sl ho
      obtain ⟨v2, hv2⟩ : ∃ v2, v2 = Value.slice A2 (l.length - k) C2 := ⟨_, rfl⟩
      rw [← hv2, ← List.length_drop] at ho
      have HP := Aside0.mk (IsQ.put (x := n) (a2 := a) (b2 := n) 2 (HQ.out.below hB) (by decide) HQ.out.blk.lt ho hB rfl)
      have h0 := ((HQ.out.below hB).blk.cell 0).trans (show _ = some (Value.slice (some ⟨gb, 0, none⟩) l.length c) from rfl)
      have f0 := (HQ.out.below hB).blk.frozen 0
      have HW2 := Aside0.mk (((HQ.out.below hB).blk.set_ 0 v2))
      clear ho hB
      subst hv2
      go_wp2_with fail
      refine (swap_calls g 2 b n _ ((HW2.out.cell 2).trans rfl) (HW2.out.frozen 2)).mono ?_
      rintro e3 w3 ⟨rfl, rfl⟩
      go_wp2
      go_ret
      exact ⟨rfl, _, HP.out.1, HP.out.2⟩
/-- The first event's cells. -/
theorem first_cells {w : World} {g : Nat} {T : TypeId} {v : Value} {e : E4} {l : List E4} {a b : Int} (h : IsQ w g T v (e :: l) a b) : ∃ gb c, v = .slice (some ⟨gb, 0, none⟩) (l.length + 1) c ∧ l.length + 1 ≤ c ∧ w.cell? ⟨gb, 0, none⟩ = some (.int .i64 e.k) ∧ w.cell? ⟨gb, 1, none⟩ = some (.string e.s) ∧ w.cell? ⟨gb, 2, none⟩ = some (.int .i64 e.x) ∧ w.cell? ⟨gb, 3, none⟩ = some (.int .i64 e.y) ∧ ∀ j u, (fe (e :: l))[j]? = some u → w.cell? ⟨gb, j, none⟩ = some u := by
  rcases own_form h.row with ⟨_, h2⟩ | ⟨gb, c, h1, h2, h3⟩
  · simp at h2
  · exact ⟨gb, c, h1, h2, h3 0 _ rfl, h3 1 _ rfl, h3 2 _ rfl, h3 3 _ rfl, h3⟩
set_option maxHeartbeats 1000000 in
set_option maxRecDepth 100000 in
theorem first_none (g : Nat) (v : Value) (a b : Int) (w : World) (h : IsQ w g 36 v [] a b) :
    Calls Try.prog 52 #[.pointer (some ⟨g, 0, none⟩)] w fun r w' => r = .returned (.tuple #[.agg #[.int .i64 0, .string ⟨#[]⟩, .int .i64 0, .int .i64 0], .bool false]) ∧ Below w.heap.size w w' := by
  have HN := Blk.new w 38 #[.int .i64 0, .string ⟨#[]⟩, .int .i64 0, .int .i64 0]
  have HQ := Aside0.mk (h.below (below_alloc (Below.refl _ _) (.cells #[.int .i64 0, .string ⟨#[]⟩, .int .i64 0, .int .i64 0] 38)))
  have HN := Aside0.mk HN
  clear h
  go_enter Try.func52, Try.ntmps52
  go_wp2_with fail
  refine (len_calls g v [] a b _ HQ.out).mono ?_
  rintro e1 w1 ⟨rfl, rfl⟩
  go_wp2_with fail
  exact bodyPost_ret (results_ct rfl _ _ w.heap.size 38 _ (0, 0) _ rfl HN.out Try.underlying38 rfl (by kernel_rfl)) rfl ⟨rfl, below_alloc (Below.refl _ _) _⟩
set_option maxHeartbeats 1000000 in
set_option maxRecDepth 100000 in
theorem first_some (g : Nat) (v : Value) (e : E4) (l : List E4) (a b : Int) (w : World) (h : IsQ w g 36 v (e :: l) a b) :
    Calls Try.prog 52 #[.pointer (some ⟨g, 0, none⟩)] w fun r w' => r = .returned (.tuple #[e.val, .bool true]) ∧ Below w.heap.size w w' := by
  have HN := Aside0.mk (Blk.new w 38 #[.int .i64 0, .string ⟨#[]⟩, .int .i64 0, .int .i64 0])
  have HQ := Aside0.mk (h.below (below_alloc (Below.refl _ _) (.cells #[.int .i64 0, .string ⟨#[]⟩, .int .i64 0, .int .i64 0] 38)))
  obtain ⟨gb, c, hv, hc, e0, e1, e2, e3, _⟩ := first_cells HQ.out
  have hq := (HQ.out.blk.cell 0).trans (show _ = some v from rfl)
  subst hv
  have hll : (0 : Int) < (l.length : Int) + 1 := by omega
  clear h
  go_enter Try.func52, Try.ntmps52
  go_wp2_with fail
  refine (len_calls g _ (e :: l) a b _ HQ.out).mono ?_
  rintro e5 w5 ⟨rfl, rfl⟩
  go_wp2_with fail
  exact bodyPost_ret (results_ct rfl _ _ w.heap.size 38 _ (0, 0) _ rfl (Blk.new w 38 #[.int .i64 e.k, .string e.s, .int .i64 e.x, .int .i64 e.y]) Try.underlying38 rfl (by kernel_rfl)) rfl ⟨rfl, below_alloc (Below.refl _ _) _⟩
set_option maxHeartbeats 1000000 in
set_option maxRecDepth 100000 in
theorem next_none (g : Nat) (v : Value) (a b : Int) (w : World) (h : IsQ w g 36 v [] a b) :
    Calls Try.prog 14 #[.pointer (some ⟨g, 0, none⟩)] w fun r w' => r = .returned (.tuple #[.agg #[.int .i64 0, .string ⟨#[]⟩, .int .i64 0, .int .i64 0], .bool false]) ∧ Below w.heap.size w w' := by
  have HN := Aside0.mk (Blk.new w 38 #[.int .i64 0, .string ⟨#[]⟩, .int .i64 0, .int .i64 0])
  have HQ := Aside0.mk (h.below (below_alloc (Below.refl _ _) (.cells #[.int .i64 0, .string ⟨#[]⟩, .int .i64 0, .int .i64 0] 38)))
  have HB := Aside0.mk (below_alloc (Below.refl w.heap.size w) (.cells #[.int .i64 0, .string ⟨#[]⟩, .int .i64 0, .int .i64 0] 38))
  clear h
  go_enter Try.func14, Try.ntmps14
  go_wp2_with fail
  refine (first_none g v a b _ HQ.out).mono ?_
  rintro e1 w1 ⟨rfl, hb1⟩
  have HN := Aside0.mk (HN.out.below' hb1)
  have HB := Aside0.mk (below_step HB.out hb1)
  clear hb1
  have c0 : (w1.alloc (.cells #[.int .i64 0, .string ⟨#[]⟩, .int .i64 0, .int .i64 0] 38)).cell? ⟨w.heap.size, 0, none⟩ = some (.int .i64 0) := ((HN.out.alloc _).cell 0).trans rfl
  have f0 : (w1.alloc (.cells #[.int .i64 0, .string ⟨#[]⟩, .int .i64 0, .int .i64 0] 38)).frozen? ⟨w.heap.size, 0, none⟩ = false := (HN.out.alloc _).frozen 0
  have c1 : (w1.alloc (.cells #[.int .i64 0, .string ⟨#[]⟩, .int .i64 0, .int .i64 0] 38)).cell? ⟨w.heap.size, 1, none⟩ = some (.string ⟨#[]⟩) := ((HN.out.alloc _).cell 1).trans rfl
  have f1 : (w1.alloc (.cells #[.int .i64 0, .string ⟨#[]⟩, .int .i64 0, .int .i64 0] 38)).frozen? ⟨w.heap.size, 1, none⟩ = false := (HN.out.alloc _).frozen 1
  have c2 : (w1.alloc (.cells #[.int .i64 0, .string ⟨#[]⟩, .int .i64 0, .int .i64 0] 38)).cell? ⟨w.heap.size, 2, none⟩ = some (.int .i64 0) := ((HN.out.alloc _).cell 2).trans rfl
  have f2 : (w1.alloc (.cells #[.int .i64 0, .string ⟨#[]⟩, .int .i64 0, .int .i64 0] 38)).frozen? ⟨w.heap.size, 2, none⟩ = false := (HN.out.alloc _).frozen 2
  have c3 : (w1.alloc (.cells #[.int .i64 0, .string ⟨#[]⟩, .int .i64 0, .int .i64 0] 38)).cell? ⟨w.heap.size, 3, none⟩ = some (.int .i64 0) := ((HN.out.alloc _).cell 3).trans rfl
  have f3 : (w1.alloc (.cells #[.int .i64 0, .string ⟨#[]⟩, .int .i64 0, .int .i64 0] 38)).frozen? ⟨w.heap.size, 3, none⟩ = false := (HN.out.alloc _).frozen 3
  go_wp2_with fail
  exact bodyPost_ret (results_ct rfl _ _ w.heap.size 38 #[.int .i64 0, .string ⟨#[]⟩, .int .i64 0, .int .i64 0] (0, 0) _ rfl (((((HN.out.alloc _).set_ 0 _).set_ 1 _).set_ 2 _).set_ 3 _) Try.underlying38 rfl (by kernel_rfl)) rfl
    ⟨rfl, (((((Only.of_below [] (show Below w.heap.size w _ from below_alloc HB.out _)).setCell _ _ (.inr (Nat.le_refl _))).setCell _ _ (.inr (Nat.le_refl _))).setCell _ _ (.inr (Nat.le_refl _))).setCell _ _ (.inr (Nat.le_refl _))).toBelow (Nat.le_refl _) (by simp)⟩
set_option maxHeartbeats 1000000 in
set_option maxRecDepth 100000 in
theorem next_some (g : Nat) (v : Value) (e : E4) (l : List E4) (a b : Int) (w : World) (h : IsQ w g 36 v (e :: l) a b) (ha : 0 ≤ a) (ha2 : a ≤ 1000000000000) (hl : l.length ≤ 100000) :
    Calls Try.prog 14 #[.pointer (some ⟨g, 0, none⟩)] w fun r w' => r = .returned (.tuple #[e.val, .bool true]) ∧ ∃ v', IsQ w' g 36 v' l (a + 1) b ∧ Turn g v w w' v' := by
  have HN := Aside0.mk (Blk.new w 38 #[.int .i64 0, .string ⟨#[]⟩, .int .i64 0, .int .i64 0])
  have HQ := Aside0.mk (h.below (below_alloc (Below.refl _ _) (.cells #[.int .i64 0, .string ⟨#[]⟩, .int .i64 0, .int .i64 0] 38)))
  have HB := Aside0.mk (below_alloc (Below.refl w.heap.size w) (.cells #[.int .i64 0, .string ⟨#[]⟩, .int .i64 0, .int .i64 0] 38))
  have HLT := Aside0.mk h.blk.lt
  clear h
  go_enter Try.func14, Try.ntmps14
  go_wp2_with fail
  refine (first_some g v e l a b _ HQ.out).mono ?_
  rintro e1 w1 ⟨rfl, hb1⟩
  have HN := Aside0.mk (HN.out.below' hb1)
  have HN0 := HN
  have HB := Aside0.mk (below_step HB.out hb1)
  have HQ := Aside0.mk (HQ.out.below hb1)
  clear hb1
  have HE := Aside0.mk (Blk.new w1 38 #[.int .i64 e.k, .string e.s, .int .i64 e.x, .int .i64 e.y])
  have HN := Aside0.mk (HN.out.alloc (.cells #[.int .i64 e.k, .string e.s, .int .i64 e.x, .int .i64 e.y] 38))
  have HQ := Aside0.mk (HQ.out.below (below_alloc (Below.refl _ _) (.cells #[.int .i64 e.k, .string e.s, .int .i64 e.x, .int .i64 e.y] 38)))
  have HB := Aside0.mk (below_alloc HB.out (.cells #[.int .i64 e.k, .string e.s, .int .i64 e.x, .int .i64 e.y] 38))
  obtain ⟨gb, c, hv, hc, _, _, _, _, hcell⟩ := first_cells HQ.out
  have HS := Aside0.mk (src_of hcell 1)
  have hq := (HQ.out.blk.cell 0).trans (show _ = some v from rfl)
  subst hv
  clear hcell
  unfold E4.val
  have hgr : w.heap.size < w1.heap.size := HN0.out.lt
  have hX : w1.heap.size ≤ (w1.alloc (.cells #[.int .i64 e.k, .string e.s, .int .i64 e.x, .int .i64 e.y] 38)).heap.size := by simp
  generalize hWX : w1.alloc (.cells #[.int .i64 e.k, .string e.s, .int .i64 e.x, .int .i64 e.y] 38) = WX at *
  by_cases hc1 : c = 1
  · subst hc1
    obtain rfl : l = [] := List.length_eq_zero_iff.1 (by omega)
    go_wp2_with fail
    refine (clone_some _ 0 _ [] WX (.inl rfl) rfl (by omega)).mono ?_
    rintro e2 w2 ⟨⟨v2, rfl, ho⟩, hB2⟩
    obtain ⟨A2, C2, rfl⟩ := own_sl ho
    obtain ⟨v2, hv2⟩ : ∃ v2, v2 = Value.slice A2 0 C2 := ⟨_, rfl⟩
    rw [← hv2] at ho
    have HO2 := Aside0.mk ho
    have hres : some w.heap.size ≠ v2.ownBlock := fun he => by have := own_base ho _ he.symm; omega
    have hne2 := own_ne ho (HQ.out.below hB2).blk (show 38 ≠ 36 by decide)
    have HQ2 := Aside0.mk ((HQ.out.below hB2).setV (by decide) ho)
    have HE2 := Aside0.mk ((HE.out.below' hB2).far (p := ⟨g, 0, none⟩) (by have := HLT.out; simp only; omega) v2)
    have HN2 := Aside0.mk ((HN.out.below' hB2).far (p := ⟨g, 0, none⟩) (by have := HLT.out; simp only; omega) v2)
    have HT2 := Aside0.mk ((Only.of_below (g :: (Value.slice (some ⟨gb, 0, none⟩) (([] : List E4).length + 1) 1).ownBlock.toList) (show Below w.heap.size w w2 from HB.out.trans (hB2.mono HB.out.size))).setCell ⟨g, 0, none⟩ v2 (.inl (by simp)))
    have h0 := ((HQ.out.below hB2).blk.cell 0).trans (show _ = some (Value.slice (some ⟨gb, 0, none⟩) (([] : List E4).length + 1) 1) from rfl)
    have f0 := (HQ.out.below hB2).blk.frozen 0
    clear ho hB2
    subst hv2
    clear hq
    go_wp2_with fail
    clear h0 f0
    have HSZ := Aside0.mk (show (w2.setCell ⟨g, 0, none⟩ (Value.slice A2 0 C2)).heap.size = w2.heap.size by simp)
    generalize w2.setCell ⟨g, 0, none⟩ (Value.slice A2 0 C2) = W3 at HQ2 HSZ HE2 HN2 HT2 ⊢
    have HQ3 := Aside0.mk (HQ2.out.below (below_alloc (Below.refl _ _) (.cells #[.int .i64 1] 3)))
    have HE3 := Aside0.mk (HE2.out.alloc (.cells #[.int .i64 1] 3))
    have HN3 := Aside0.mk (HN2.out.alloc (.cells #[.int .i64 1] 3))
    have HT3 := Aside0.mk (HT2.out.alloc (.cells #[.int .i64 1] 3))
    refine (add1_calls g 1 w2.heap.size a (a + 1) _ ((HQ3.out.blk.cell 1).trans rfl) (HQ3.out.blk.frozen 1) (by rw [← HSZ.out]; exact ((Blk.new W3 3 #[.int .i64 1]).cell 0).trans rfl) rfl (by omega) (by omega)).mono ?_
    rintro e4 w4 ⟨rfl, rfl⟩
    have HQ4 := Aside0.mk (HQ3.out.setA (by decide) (a + 1))
    have HE4 := Aside0.mk (HE3.out.far (p := ⟨g, 1, none⟩) (by have := HLT.out; simp only; omega) (.int .i64 (a + 1)))
    have HN4 := Aside0.mk (HN3.out.far (p := ⟨g, 1, none⟩) (by have := HLT.out; simp only; omega) (.int .i64 (a + 1)))
    have HT4 := Aside0.mk (HT3.out.setCell ⟨g, 1, none⟩ (.int .i64 (a + 1)) (.inl (by simp)))
    generalize (W3.alloc (.cells #[.int .i64 1] 3)).setCell ⟨g, 1, none⟩ (.int .i64 (a + 1)) = W4 at HQ4 HE4 HN4 HT4 ⊢
    have c0 : W4.cell? ⟨w.heap.size, 0, none⟩ = some (.int .i64 0) := (HN4.out.cell 0).trans rfl
    have c1 : W4.cell? ⟨w.heap.size, 1, none⟩ = some (.string ⟨#[]⟩) := (HN4.out.cell 1).trans rfl
    have c2 : W4.cell? ⟨w.heap.size, 2, none⟩ = some (.int .i64 0) := (HN4.out.cell 2).trans rfl
    have c3 : W4.cell? ⟨w.heap.size, 3, none⟩ = some (.int .i64 0) := (HN4.out.cell 3).trans rfl
    have f0 := HN4.out.frozen 0
    have f1 := HN4.out.frozen 1
    have f2 := HN4.out.frozen 2
    have f3 := HN4.out.frozen 3
    have d0 : W4.cell? ⟨w1.heap.size, 0, none⟩ = some (.int .i64 e.k) := (HE4.out.cell 0).trans rfl
    have d1 : W4.cell? ⟨w1.heap.size, 1, none⟩ = some (.string e.s) := (HE4.out.cell 1).trans rfl
    have d2 : W4.cell? ⟨w1.heap.size, 2, none⟩ = some (.int .i64 e.x) := (HE4.out.cell 2).trans rfl
    have d3 : W4.cell? ⟨w1.heap.size, 3, none⟩ = some (.int .i64 e.y) := (HE4.out.cell 3).trans rfl
    have hgw : g ≠ w.heap.size := by have := HLT.out; omega
    go_wp2_with fail
    exact bodyPost_ret (results_ct rfl _ _ w.heap.size 38 #[.int .i64 e.k, .string e.s, .int .i64 e.x, .int .i64 e.y] (0, 0) _ rfl ((((HN4.out.set_ 0 _).set_ 1 _).set_ 2 _).set_ 3 _) Try.underlying38 rfl (by kernel_rfl)) rfl
      ⟨rfl, _, (((HQ4.out.far (p := ⟨w.heap.size, 0, none⟩) hgw hres _).far (p := ⟨w.heap.size, 1, none⟩) hgw hres _).far (p := ⟨w.heap.size, 2, none⟩) hgw hres _).far (p := ⟨w.heap.size, 3, none⟩) hgw hres _,
        (((HT4.out.setCell _ _ (.inr (Nat.le_refl _))).setCell _ _ (.inr (Nat.le_refl _))).setCell _ _ (.inr (Nat.le_refl _))).setCell _ _ (.inr (Nat.le_refl _)), fun k hk => .inr (by have := own_base HO2.out k hk; omega)⟩
  · go_wp2_with fail
    refine (clone_some _ l.length _ l WX HS.out rfl hl).mono ?_
    rintro e2 w2 ⟨⟨v2, rfl, ho⟩, hB2⟩
    obtain ⟨A2, C2, rfl⟩ := own_sl ho
    obtain ⟨v2, hv2⟩ : ∃ v2, v2 = Value.slice A2 l.length C2 := ⟨_, rfl⟩
    rw [← hv2] at ho
    have HO2 := Aside0.mk ho
    have hres : some w.heap.size ≠ v2.ownBlock := fun he => by have := own_base ho _ he.symm; omega
    have hne2 := own_ne ho (HQ.out.below hB2).blk (show 38 ≠ 36 by decide)
    have HQ2 := Aside0.mk ((HQ.out.below hB2).setV (by decide) ho)
    have HE2 := Aside0.mk ((HE.out.below' hB2).far (p := ⟨g, 0, none⟩) (by have := HLT.out; simp only; omega) v2)
    have HN2 := Aside0.mk ((HN.out.below' hB2).far (p := ⟨g, 0, none⟩) (by have := HLT.out; simp only; omega) v2)
    have HT2 := Aside0.mk ((Only.of_below (g :: (Value.slice (some ⟨gb, 0, none⟩) (l.length + 1) c).ownBlock.toList) (show Below w.heap.size w w2 from HB.out.trans (hB2.mono HB.out.size))).setCell ⟨g, 0, none⟩ v2 (.inl (by simp)))
    have h0 := ((HQ.out.below hB2).blk.cell 0).trans (show _ = some (Value.slice (some ⟨gb, 0, none⟩) (l.length + 1) c) from rfl)
    have f0 := (HQ.out.below hB2).blk.frozen 0
    clear ho hB2
    subst hv2
    clear hq
    go_wp2_with fail
    clear h0 f0
    have HSZ := Aside0.mk (show (w2.setCell ⟨g, 0, none⟩ (Value.slice A2 l.length C2)).heap.size = w2.heap.size by simp)
    generalize w2.setCell ⟨g, 0, none⟩ (Value.slice A2 l.length C2) = W3 at HQ2 HSZ HE2 HN2 HT2 ⊢
    have HQ3 := Aside0.mk (HQ2.out.below (below_alloc (Below.refl _ _) (.cells #[.int .i64 1] 3)))
    have HE3 := Aside0.mk (HE2.out.alloc (.cells #[.int .i64 1] 3))
    have HN3 := Aside0.mk (HN2.out.alloc (.cells #[.int .i64 1] 3))
    have HT3 := Aside0.mk (HT2.out.alloc (.cells #[.int .i64 1] 3))
    refine (add1_calls g 1 w2.heap.size a (a + 1) _ ((HQ3.out.blk.cell 1).trans rfl) (HQ3.out.blk.frozen 1) (by rw [← HSZ.out]; exact ((Blk.new W3 3 #[.int .i64 1]).cell 0).trans rfl) rfl (by omega) (by omega)).mono ?_
    rintro e4 w4 ⟨rfl, rfl⟩
    have HQ4 := Aside0.mk (HQ3.out.setA (by decide) (a + 1))
    have HE4 := Aside0.mk (HE3.out.far (p := ⟨g, 1, none⟩) (by have := HLT.out; simp only; omega) (.int .i64 (a + 1)))
    have HN4 := Aside0.mk (HN3.out.far (p := ⟨g, 1, none⟩) (by have := HLT.out; simp only; omega) (.int .i64 (a + 1)))
    have HT4 := Aside0.mk (HT3.out.setCell ⟨g, 1, none⟩ (.int .i64 (a + 1)) (.inl (by simp)))
    generalize (W3.alloc (.cells #[.int .i64 1] 3)).setCell ⟨g, 1, none⟩ (.int .i64 (a + 1)) = W4 at HQ4 HE4 HN4 HT4 ⊢
    have c0 : W4.cell? ⟨w.heap.size, 0, none⟩ = some (.int .i64 0) := (HN4.out.cell 0).trans rfl
    have c1 : W4.cell? ⟨w.heap.size, 1, none⟩ = some (.string ⟨#[]⟩) := (HN4.out.cell 1).trans rfl
    have c2 : W4.cell? ⟨w.heap.size, 2, none⟩ = some (.int .i64 0) := (HN4.out.cell 2).trans rfl
    have c3 : W4.cell? ⟨w.heap.size, 3, none⟩ = some (.int .i64 0) := (HN4.out.cell 3).trans rfl
    have f0 := HN4.out.frozen 0
    have f1 := HN4.out.frozen 1
    have f2 := HN4.out.frozen 2
    have f3 := HN4.out.frozen 3
    have d0 : W4.cell? ⟨w1.heap.size, 0, none⟩ = some (.int .i64 e.k) := (HE4.out.cell 0).trans rfl
    have d1 : W4.cell? ⟨w1.heap.size, 1, none⟩ = some (.string e.s) := (HE4.out.cell 1).trans rfl
    have d2 : W4.cell? ⟨w1.heap.size, 2, none⟩ = some (.int .i64 e.x) := (HE4.out.cell 2).trans rfl
    have d3 : W4.cell? ⟨w1.heap.size, 3, none⟩ = some (.int .i64 e.y) := (HE4.out.cell 3).trans rfl
    have hgw : g ≠ w.heap.size := by have := HLT.out; omega
    go_wp2_with fail
    exact bodyPost_ret (results_ct rfl _ _ w.heap.size 38 #[.int .i64 e.k, .string e.s, .int .i64 e.x, .int .i64 e.y] (0, 0) _ rfl ((((HN4.out.set_ 0 _).set_ 1 _).set_ 2 _).set_ 3 _) Try.underlying38 rfl (by kernel_rfl)) rfl
      ⟨rfl, _, (((HQ4.out.far (p := ⟨w.heap.size, 0, none⟩) hgw hres _).far (p := ⟨w.heap.size, 1, none⟩) hgw hres _).far (p := ⟨w.heap.size, 2, none⟩) hgw hres _).far (p := ⟨w.heap.size, 3, none⟩) hgw hres _,
        (((HT4.out.setCell _ _ (.inr (Nat.le_refl _))).setCell _ _ (.inr (Nat.le_refl _))).setCell _ _ (.inr (Nat.le_refl _))).setCell _ _ (.inr (Nat.le_refl _)), fun k hk => .inr (by have := own_base HO2.out k hk; omega)⟩
end Go.Proofs.Ytjjjinpmflghmaa.Keys
namespace Go.Proofs.Ytjjjinpmflghmaa.Keys
open Go.RowKit Go.Proofs.Ytjjjinpmflghmaa.Mem Go.Proofs.YtjjjinpmflghmaaW.PrintWords Go.Proofs.YtjjjinpmflghmaaW.PrintMore Go.Proofs.YtjjjinpmflghmaaW.PrintLast Go.Proofs.Ytjjjinpmflghmaa.PKeysBounds
set_option linter.unusedVariables false
set_option linter.unusedSimpArgs false
def okE (e : E4) : Bool := (keys_Valid.f e.k e.s e.x e.y).getD false
theorem valid_some (e : E4) : keys_Valid.f e.k e.s e.x e.y = some (okE e) := by
  unfold okE keys_Valid.f
  repeat' split
  all_goals rfl
/-- Those that are taken. -/
def addE : Nat → List E4 → List E4
  | _, [] => []
  | m, e :: es => if okE e = true ∧ m < 40 then e :: addE (m + 1) es else []
theorem add_stop {m : Nat} {e : E4} {es : List E4} (h : okE e = false ∨ ¬ m < 40) : addE m (e :: es) = [] := by
  unfold addE
  rw [if_neg]
  rintro ⟨h1, h2⟩
  rcases h with h | h
  · rw [h1] at h; cases h
  · exact h h2
theorem add_end {m i : Nat} {es : List E4} (h : addE m es = es.take i ++ addE (m + i) (es.drop i)) (h2 : addE (m + i) (es.drop i) = []) (hi : i ≤ es.length) : addE m es = es.take i ∧ (es.take i).length = i := by
  rw [h, h2]
  simp
  omega
theorem drop_at {α : Type} {l : List α} {k : Nat} {x : α} (h : l[k]? = some x) : l.drop k = x :: l.drop (k + 1) := by
  obtain ⟨hk, rfl⟩ := List.getElem?_eq_some_iff.1 h
  exact List.drop_eq_getElem_cons hk
theorem take_at {α : Type} {l : List α} {k : Nat} {x : α} (h : l[k]? = some x) : l.take (k + 1) = l.take k ++ [x] := by
  obtain ⟨hk, rfl⟩ := List.getElem?_eq_some_iff.1 h
  rw [List.take_succ_eq_append_getElem hk]
theorem turn_grown {w w1 : World} {g : Nat} {v v1 : Value} (hg : w.drew.grownBy w1 v.ownBlock) (hb : v1.ownBlock = v.ownBlock ∨ ∃ b, v1.ownBlock = some b ∧ w.drew.heap.size ≤ b) (u : Value) : Turn g v w (w1.setCell ⟨g, 0, none⟩ u) v1 :=
  ⟨Only.setCell (gs := g :: v.ownBlock.toList) (w := w) (w' := w1) ⟨hg.os, hg.tape, hg.output, hg.size, fun k hk hn => hg.block k hk (fun he => hn (by simp [← he]))⟩ _ _ (.inl (by simp)), fun k hk => by
    rcases hb with h1 | ⟨b, h1, h2⟩
    · exact .inl (by rw [← h1]; exact hk)
    · rw [h1] at hk
      injection hk with hk
      subst hk
      exact .inr h2⟩
theorem four {w : World} {gb : Nat} {es : List E4} (h : ∀ j u, (fe es)[j]? = some u → w.cell? ⟨gb, j, none⟩ = some u) {i : Nat} {e : E4} (he : es[i]? = some e) :
    w.cell? ⟨gb, i * 4, none⟩ = some (.int .i64 e.k) ∧ w.cell? ⟨gb, i * 4 + 1, none⟩ = some (.string e.s) ∧ w.cell? ⟨gb, i * 4 + 2, none⟩ = some (.int .i64 e.x) ∧ w.cell? ⟨gb, i * 4 + 3, none⟩ = some (.int .i64 e.y) := by
  have key : ∀ j, j < 4 → (fe es)[i * 4 + j]? = e.cells[j]? := by
    intro j hj
    obtain ⟨hi, rfl⟩ := List.getElem?_eq_some_iff.1 he
    have h1 : (fe es)[i * 4 + j]? = ((fe es).drop (i * 4))[j]? := by rw [List.getElem?_drop]
    rw [h1, fe_drop, List.drop_eq_getElem_cons hi]
    simp only [fe]
    rw [List.getElem?_append_left (by simpa [E4.cells] using hj)]
  exact ⟨h _ _ (key 0 (by omega)), h _ _ (key 1 (by omega)), h _ _ (key 2 (by omega)), h _ _ (key 3 (by omega))⟩
set_option maxHeartbeats 4000000 in
set_option maxRecDepth 100000 in
theorem add_calls (g : Nat) (v : Value) (l es : List E4) (a b : Int) (gb c n : Nat) (w : World) (h : IsQ w g 33 v l a b) (hn : es.length = n) (hsrc : ∀ j u, (fe es)[j]? = some u → w.cell? ⟨gb, j, none⟩ = some u) (hg : gb ≠ g) (hv : some gb ≠ v.ownBlock)
    (ha : 0 ≤ a) (ha2 : a ≤ 1000000000000) (hl : l.length ≤ 40) (hnl : n ≤ 100000) :
    Calls Try.prog 11 #[.pointer (some ⟨g, 0, none⟩), .slice (some ⟨gb, 0, none⟩) n c] w fun r w' => r = .returned (.int .i64 ((addE l.length es).length : Int)) ∧ ∃ A' c', IsQ w' g 33 (.slice A' (l.length + (addE l.length es).length) c') (l ++ addE l.length es) (a + (addE l.length es).length) b ∧ Turn g v w w' (.slice A' (l.length + (addE l.length es).length) c') := by
  have HN := Aside0.mk hn
  have HSRC := Aside0.mk hsrc
  have HFAR := Aside0.mk (show gb ∉ g :: v.ownBlock.toList by
    intro hm
    rcases List.mem_cons.1 hm with h1 | h1
    · exact hg h1
    · have h2 : v.ownBlock = some gb := by simpa using h1
      exact hv h2.symm)
  obtain ⟨A0, c0, rfl⟩ := own_sl h.row
  have HQ0 := Aside0.mk h
  have hne := eql_pout ⟨g, 0, none⟩
  clear h hn hsrc hg hv
  go_enter Try.func11, Try.ntmps11
  go_wp2_with fail
  go_loopg [5, 12] n (fun kq v5 v12 wr => ∃ (i : Nat) (A' : Option Addr) (c' : Nat), v5 = .int .i64 (i : Int) ∧ v12 = .int .i64 (i : Int) ∧ Aside0 (i ≤ n ∧ kq = n - i ∧ addE l.length es = es.take i ++ addE (l.length + i) (es.drop i)) ∧ Aside0 (IsQ wr g 33 (.slice A' (l.length + i) c') (l ++ es.take i) (a + i) b) ∧ Aside0 (Turn g (.slice A0 l.length c0) w wr (.slice A' (l.length + i) c')))
  case atStart => exact ⟨0, A0, c0, rfl, rfl, ⟨Nat.zero_le _, rfl, by simp⟩, ⟨by simpa using HQ0.out⟩, ⟨Turn.refl _ _ _⟩⟩
  case round =>
    obtain ⟨i, A', c', rfl, rfl, ⟨hi, hkq, hadd⟩, HQ, HT⟩ := hrel
    have HK := Aside0.mk hkq
    have HA := Aside0.mk hadd
    clear hkq hadd
    by_cases hlt : i < n
    · obtain ⟨e, he⟩ : ∃ e, es[i]? = some e := ⟨es[i]'(by have := HN.out; omega), by simp⟩
      have HE := Aside0.mk he
      have hi0 : (0 : Int) ≤ (i : Int) := Int.natCast_nonneg _
      have hiI : (i : Int) < (n : Int) := by omega
      obtain ⟨q0, q1, q2, q3⟩ := four (w := wr) (gb := gb) (fun j u hj => HT.out.o.cell (HSRC.out j u hj) HFAR.out) he
      clear he
      have HX := Aside0.mk (Blk.new wr 38 #[.int .i64 e.k, .string e.s, .int .i64 e.x, .int .i64 e.y])
      have HQ1 := Aside0.mk (HQ.out.below (below_alloc (Below.refl _ _) (.cells #[.int .i64 e.k, .string e.s, .int .i64 e.x, .int .i64 e.y] 38)))
      have HT1 := Aside0.mk (HT.out.below (below_alloc (Below.refl _ _) (.cells #[.int .i64 e.k, .string e.s, .int .i64 e.x, .int .i64 e.y] 38)))
      go_wp2_with fail
      clear q0 q1 q2 q3
      refine (keys_Valid.calls e.k e.s e.x e.y (okE e) _ (valid_some e)).mono ?_
      rintro e2 w2 ⟨rfl, hb2⟩
      have HX2 := Aside0.mk (HX.out.below' hb2)
      have HQ2 := Aside0.mk (HQ1.out.below hb2)
      have HT2 := Aside0.mk (HT1.out.below hb2)
      clear hb2 HX HQ1 HT1
      have hq := (HQ2.out.blk.cell 0).trans (show _ = some (Value.slice A' (l.length + i) c') from rfl)
      cases hok : okE e with
      | false =>
        go_wp2
        go_ret
        obtain ⟨hE, hL⟩ := add_end HA.out (by rw [drop_at HE.out]; exact add_stop (.inl hok)) (by have := HN.out; omega)
        rw [hE, hL]
        exact ⟨rfl, A', c', HQ2.out, HT2.out⟩
      | true =>
        by_cases hroom : l.length + i < 40
        · have hroomI : (l.length : Int) + (i : Int) < 40 := by omega
          go_upto_region 8 with (fail)
          have hli : (l ++ es.take i).length = l.length + i := by have := HN.out; simp; omega
          have HROW := Aside0.mk (show w2.drew.ownsRow 0 38 4 (.slice A' (l.length + i) c') (l.length + i) (fe (l ++ es.take i)) by
            have h5 := pw_own_below HQ2.out.row (below_drew (Below.refl _ _))
            rw [hli] at h5
            exact h5)
          have HNE := Aside0.mk (own_ne HROW.out HQ2.out.blk (show 38 ≠ 33 by decide))
          have HFE := Aside0.mk (show fe (l ++ es.take (i + 1)) = fe (l ++ es.take i) ++ [.int .i64 e.k, .string e.s, .int .i64 e.x, .int .i64 e.y] by
            rw [take_at HE.out, ← List.append_assoc, fe_app]
            rfl)
          have HLE2 := Aside0.mk (show (l ++ es.take (i + 1)).length = l.length + (i + 1) by have := HN.out; simp; omega)
          clear hli
          go_cut [7] from 27 to 36 (fun v7 wc => v7 = .pointer (some ⟨wr.heap.size, 0, none⟩) ∧ ∃ A1 c1, Aside0 (IsQ wc g 33 (.slice A1 (l.length + (i + 1)) c1) (l ++ es.take (i + 1)) (a + i) b) ∧ Aside0 (Turn g (.slice A' (l.length + i) c') w2 wc (.slice A1 (l.length + (i + 1)) c1)))
          case first =>
            have x0 : w2.cell? ⟨wr.heap.size, 0, none⟩ = some (.int .i64 e.k) := (HX2.out.cell 0).trans rfl
            have x1 : w2.cell? ⟨wr.heap.size, 1, none⟩ = some (.string e.s) := (HX2.out.cell 1).trans rfl
            have x2 : w2.cell? ⟨wr.heap.size, 2, none⟩ = some (.int .i64 e.x) := (HX2.out.cell 2).trans rfl
            have x3 : w2.cell? ⟨wr.heap.size, 3, none⟩ = some (.int .i64 e.y) := (HX2.out.cell 3).trans rfl
            have hqa : (w2.alloc (.cells #[.int .i64 e.k, .string e.s, .int .i64 e.x, .int .i64 e.y] 38)).cell? ⟨g, 0, none⟩ = some (.slice A' (l.length + i) c') := ((HQ2.out.blk.alloc _).cell 0).trans rfl
            go_region_law (refine step_append_cells (w0 := w2.drew) (W := w2.drew) 0 (by kernel_rfl) (.tmp 31) (.tmp 33) 24 38 _ 4 40 rfl Try.underlying24 infoEv rfl (by decide) (by decide) (.slice A' (l.length + i) c') (l.length + i) (fe (l ++ es.take i)) [.int .i64 e.k, .string e.s, .int .i64 e.x, .int .i64 e.y] rfl rfl rfl (fe_one [e]) HROW.out (Below.refl _ _) (Nat.zero_le _) (by omega) ?_; intro v1 w1 ho1 hB1 hg1 hb1; obtain ⟨A1, C1, rfl⟩ := own_sl ho1; have HBK := Aside0.mk (show Blk w1 g 33 #[.slice A' (l.length + i) c', .int .i64 (a + i), .int .i64 b] from (hg1.block g HQ2.out.blk.lt HNE.out).trans HQ2.out.blk); have hc1 : w1.cell? ⟨g, 0, none⟩ = some (.slice A' (l.length + i) c') := (HBK.out.cell 0).trans rfl; have hf1 := HBK.out.frozen 0)
            all_goals (go_wp2; go_meet; have hne1 : some g ≠ (Value.slice A1 (l.length + i + 1) C1).ownBlock := own_ne ho1 HBK.out (by decide); have hrow := own_setCell (p := ⟨g, 0, none⟩) ho1 hne1 (.slice A1 (l.length + i + 1) C1); exact ⟨rfl, A1, C1, ⟨⟨HBK.out.set_ 0 _, by rw [HLE2.out, HFE.out]; exact hrow⟩⟩, ⟨turn_grown hg1 hb1 _⟩⟩)
          case rest =>
            obtain ⟨rfl, A1, c1, HQ3, HT3⟩ := hcut
            clear hq
            go_wp2_with fail
            have HQ4 := Aside0.mk (HQ3.out.below (below_alloc (Below.refl _ _) (.cells #[.int .i64 1] 3)))
            have HT4 := Aside0.mk (((HT2.out.trans HT3.out).o.alloc (.cells #[.int .i64 1] 3)).setCell ⟨g, 1, none⟩ (.int .i64 (a + ((i + 1 : Nat) : Int))) (.inl (by simp)))
            refine (add1_calls g 1 wc.heap.size (a + i) (a + ((i + 1 : Nat) : Int)) _ ((HQ4.out.blk.cell 1).trans rfl) (HQ4.out.blk.frozen 1) (((Blk.new wc 3 #[.int .i64 1]).cell 0).trans rfl) (by push_cast; omega) (by omega) (by omega)).mono ?_
            rintro e4 w4 ⟨rfl, rfl⟩
            go_wp2
            go_roundg (n - (i + 1))
            case measure => have := HK.out; omega
            case rel => exact ⟨i + 1, A1, c1, by go_num, by go_num, ⟨by omega, rfl, by rw [HA.out, drop_at HE.out, take_at HE.out, addE, if_pos ⟨hok, hroom⟩, List.append_assoc]; rfl⟩, ⟨HQ4.out.setA (by decide) _⟩, ⟨⟨HT4.out, (HT2.out.trans HT3.out).n⟩⟩⟩
        · have hroomI : ¬ (l.length : Int) + (i : Int) < 40 := by omega
          go_wp2
          go_ret
          obtain ⟨hE, hL⟩ := add_end HA.out (by rw [drop_at HE.out]; exact add_stop (.inr hroom)) (by have := HN.out; omega)
          rw [hE, hL]
          exact ⟨rfl, A', c', HQ2.out, HT2.out⟩
    · obtain rfl : i = n := by omega
      go_wp2
      go_ret
      obtain ⟨hE, hL⟩ := add_end HA.out (by rw [List.drop_of_length_le (by have := HN.out; omega)]; rfl) (by have := HN.out; omega)
      rw [hE, hL]
      exact ⟨rfl, A', c', HQ.out, HT.out⟩
end Go.Proofs.Ytjjjinpmflghmaa.Keys
namespace Go.Proofs.Ytjjjinpmflghmaa.Keys
open Go.RowKit Go.Proofs.Ytjjjinpmflghmaa.Mem Go.Proofs.YtjjjinpmflghmaaW.PrintWords Go.Proofs.YtjjjinpmflghmaaW.PrintMore Go.Proofs.YtjjjinpmflghmaaW.PrintLast Go.Proofs.Ytjjjinpmflghmaa.PKeysBounds
set_option linter.unusedVariables false
set_option linter.unusedSimpArgs false
/-- Those that are taken: of number 'first' on. -/
def takeE (first : Int) : Int → Nat → Int → List E4 → List E4
  | _, _, _, [] => []
  | k, m, d, e :: es => if d + 1 < first then [] else if first + k ≤ d then takeE first (k + 1) m d es else if okE e = true ∧ m < 40 then e :: takeE first (k + 1) (m + 1) (d + 1) es else []
theorem take_end {first b d : Int} {l q : List E4} {es es' : List E4} {i : Int} (h : l ++ takeE first 0 l.length b es = q ++ takeE first i q.length d es') (h2 : takeE first i q.length d es' = []) (hd : d + l.length = b + q.length) :
    l ++ takeE first 0 l.length b es = q ∧ b + ((takeE first 0 l.length b es).length : Int) = d := by
  rw [h2, List.append_nil] at h
  refine ⟨h, ?_⟩
  have := congrArg List.length h
  rw [List.length_append] at this
  omega
set_option maxHeartbeats 4000000 in
set_option maxRecDepth 100000 in
theorem take_calls (g : Nat) (v : Value) (l es : List E4) (a b first : Int) (gb c n : Nat) (w : World) (h : IsQ w g 36 v l a b) (hn : es.length = n) (hsrc : ∀ j u, (fe es)[j]? = some u → w.cell? ⟨gb, j, none⟩ = some u) (hg : gb ≠ g) (hv : some gb ≠ v.ownBlock)
    (ha : 0 ≤ b) (ha2 : b ≤ 1000000000000) (hl : l.length ≤ 40) (hnl : n ≤ 100000) (hf1 : -2000000000000 ≤ first) (hf2 : first ≤ 2000000000000) :
    Calls Try.prog 12 #[.pointer (some ⟨g, 0, none⟩), .int .i64 first, .slice (some ⟨gb, 0, none⟩) n c] w fun r w' => r = .returned (.int .i64 (b + ((takeE first 0 l.length b es).length : Int))) ∧ ∃ A' c', IsQ w' g 36 (.slice A' (l ++ takeE first 0 l.length b es).length c') (l ++ takeE first 0 l.length b es) a (b + ((takeE first 0 l.length b es).length : Int)) ∧ Turn g v w w' (.slice A' (l ++ takeE first 0 l.length b es).length c') := by
  have HN := Aside0.mk hn
  have HSRC := Aside0.mk hsrc
  have HFAR := Aside0.mk (show gb ∉ g :: v.ownBlock.toList by
    intro hm
    rcases List.mem_cons.1 hm with h1 | h1
    · exact hg h1
    · have h2 : v.ownBlock = some gb := by simpa using h1
      exact hv h2.symm)
  obtain ⟨A0, c0, rfl⟩ := own_sl h.row
  have HQ0 := Aside0.mk h
  have hne := eql_pin ⟨g, 0, none⟩
  clear h hn hsrc hg hv
  go_enter Try.func12, Try.ntmps12
  go_wp2_with fail
  go_loopg [14] n (fun kq v14 wr => ∃ (i : Nat) (q : List E4) (d : Int) (A' : Option Addr) (c' : Nat), v14 = .int .i64 (i : Int) ∧ Aside0 (i ≤ n ∧ kq = n - i ∧ d + l.length = b + q.length ∧ (l.length ≤ q.length ∧ q.length ≤ l.length + i) ∧ l ++ takeE first 0 l.length b es = q ++ takeE first i q.length d (es.drop i)) ∧ Aside0 (IsQ wr g 36 (.slice A' q.length c') q a d) ∧ Aside0 (Turn g (.slice A0 l.length c0) w wr (.slice A' q.length c')))
  case atStart => exact ⟨0, l, b, A0, c0, rfl, ⟨Nat.zero_le _, rfl, rfl, ⟨Nat.le_refl _, Nat.le_refl _⟩, by simp⟩, HQ0, ⟨Turn.refl _ _ _⟩⟩
  case round =>
    obtain ⟨i, q, d, A', c', rfl, ⟨hi, hkq, hd, hql, hadd⟩, HQ, HT⟩ := hrel
    have HK := Aside0.mk hkq
    have HA := Aside0.mk hadd
    have HD := Aside0.mk hd
    have hd0 : 0 ≤ d := by omega
    have hd1 : d ≤ 1000000100000 := by omega
    clear hkq hadd hd
    have hi0 : (0 : Int) ≤ (i : Int) := Int.natCast_nonneg _
    by_cases hlt : i < n
    · obtain ⟨e, he⟩ : ∃ e, es[i]? = some e := ⟨es[i]'(by have := HN.out; omega), by simp⟩
      have HE := Aside0.mk he
      have hiI : (i : Int) < (n : Int) := by omega
      obtain ⟨q0, q1, q2, q3⟩ := four (w := wr) (gb := gb) (fun j u hj => HT.out.o.cell (HSRC.out j u hj) HFAR.out) he
      clear he
      have HX := Aside0.mk (Blk.new wr 38 #[.int .i64 e.k, .string e.s, .int .i64 e.x, .int .i64 e.y])
      have HQ1 := Aside0.mk (HQ.out.below (below_alloc (Below.refl _ _) (.cells #[.int .i64 e.k, .string e.s, .int .i64 e.x, .int .i64 e.y] 38)))
      have HT1 := Aside0.mk (HT.out.below (below_alloc (Below.refl _ _) (.cells #[.int .i64 e.k, .string e.s, .int .i64 e.x, .int .i64 e.y] 38)))
      go_wp2_with fail
      clear q0 q1 q2 q3
      refine (now_calls g 2 d _ ((HQ1.out.blk.cell 2).trans rfl)).mono ?_
      rintro e1 w1 ⟨rfl, rfl⟩
      have hw1 : IntKind.i64.wrap (d + 1) = d + 1 := IntWalk.i64_in _ (by omega)
      have hw2 : IntKind.i64.wrap (first + (i : Int)) = first + (i : Int) := IntWalk.i64_in _ (by omega)
      by_cases hb1 : d + 1 < first
      · go_wp2_with fail
        refine (now_calls g 2 d _ ((HQ1.out.blk.cell 2).trans rfl)).mono ?_
        rintro e9 w9 ⟨rfl, rfl⟩
        go_wp2
        go_ret
        obtain ⟨hE, hL⟩ := take_end HA.out (by rw [drop_at HE.out, takeE, if_pos (by omega)]) HD.out
        rw [hE, hL]
        exact ⟨rfl, A', c', HQ1.out, HT1.out⟩
      · by_cases hb2 : first + (i : Int) ≤ d
        · go_wp2
          go_roundg (n - (i + 1))
          case measure => have := HK.out; omega
          case rel => exact ⟨i + 1, q, d, A', c', by go_num, ⟨by omega, rfl, HD.out, by omega, by rw [HA.out, drop_at HE.out, takeE, if_neg (by omega), if_pos (by omega)]; simp⟩, HQ1, HT1⟩
        · go_wp2_with fail
          refine (keys_Valid.calls e.k e.s e.x e.y (okE e) _ (valid_some e)).mono ?_
          rintro e2 w2 ⟨rfl, hb2'⟩
          have HX2 := Aside0.mk (HX.out.below' hb2')
          have HQ2 := Aside0.mk (HQ1.out.below hb2')
          have HT2 := Aside0.mk (HT1.out.below hb2')
          clear hb2' HX HQ1 HT1
          have hq := (HQ2.out.blk.cell 0).trans (show _ = some (Value.slice A' q.length c') from rfl)
          cases hok : okE e with
          | false =>
            go_wp2_with fail
            refine (now_calls g 2 d _ ((HQ2.out.blk.cell 2).trans rfl)).mono ?_
            rintro e9 w9 ⟨rfl, rfl⟩
            go_wp2
            go_ret
            obtain ⟨hE, hL⟩ := take_end HA.out (by rw [drop_at HE.out, takeE, if_neg (by omega), if_neg (by omega), if_neg (by rw [hok]; simp)]) HD.out
            rw [hE, hL]
            exact ⟨rfl, A', c', HQ2.out, HT2.out⟩
          | true =>
            by_cases hroom : q.length < 40
            · have hroomI : (q.length : Int) < 40 := by omega
              go_upto_region 10 with (fail)
              have HROW := Aside0.mk (show w2.drew.ownsRow 0 38 4 (.slice A' q.length c') q.length (fe q) from pw_own_below HQ2.out.row (below_drew (Below.refl _ _)))
              have HNE := Aside0.mk (own_ne HROW.out HQ2.out.blk (show 38 ≠ 36 by decide))
              have HFE := Aside0.mk (show fe (q ++ [e]) = fe q ++ [.int .i64 e.k, .string e.s, .int .i64 e.x, .int .i64 e.y] by
                rw [fe_app]
                rfl)
              go_cut [7] from 43 to 52 (fun v7 wc => v7 = .int .i64 (i : Int) ∧ ∃ A1 c1, Aside0 (IsQ wc g 36 (.slice A1 (q.length + 1) c1) (q ++ [e]) a d) ∧ Aside0 (Turn g (.slice A' q.length c') w2 wc (.slice A1 (q.length + 1) c1)))
              case first =>
                have x0 : w2.cell? ⟨wr.heap.size, 0, none⟩ = some (.int .i64 e.k) := (HX2.out.cell 0).trans rfl
                have x1 : w2.cell? ⟨wr.heap.size, 1, none⟩ = some (.string e.s) := (HX2.out.cell 1).trans rfl
                have x2 : w2.cell? ⟨wr.heap.size, 2, none⟩ = some (.int .i64 e.x) := (HX2.out.cell 2).trans rfl
                have x3 : w2.cell? ⟨wr.heap.size, 3, none⟩ = some (.int .i64 e.y) := (HX2.out.cell 3).trans rfl
                have hqa : (w2.alloc (.cells #[.int .i64 e.k, .string e.s, .int .i64 e.x, .int .i64 e.y] 38)).cell? ⟨g, 0, none⟩ = some (.slice A' q.length c') := ((HQ2.out.blk.alloc _).cell 0).trans rfl
                go_region_law (refine step_append_cells (w0 := w2.drew) (W := w2.drew) 0 (by kernel_rfl) (.tmp 47) (.tmp 49) 24 38 _ 4 40 rfl Try.underlying24 infoEv rfl (by decide) (by decide) (.slice A' q.length c') q.length (fe q) [.int .i64 e.k, .string e.s, .int .i64 e.x, .int .i64 e.y] rfl rfl rfl (fe_one [e]) HROW.out (Below.refl _ _) (Nat.zero_le _) (by omega) ?_; intro v1 w1 ho1 hB1 hg1 hb1; obtain ⟨A1, C1, rfl⟩ := own_sl ho1; have HBK := Aside0.mk (show Blk w1 g 36 #[.slice A' q.length c', .int .i64 a, .int .i64 d] from (hg1.block g HQ2.out.blk.lt HNE.out).trans HQ2.out.blk); have hc1 : w1.cell? ⟨g, 0, none⟩ = some (.slice A' q.length c') := (HBK.out.cell 0).trans rfl; have hf1 := HBK.out.frozen 0)
                all_goals (go_wp2; go_meet; have hne1 : some g ≠ (Value.slice A1 (q.length + 1) C1).ownBlock := own_ne ho1 HBK.out (by decide); have hrow := own_setCell (p := ⟨g, 0, none⟩) ho1 hne1 (.slice A1 (q.length + 1) C1); exact ⟨rfl, A1, C1, ⟨⟨HBK.out.set_ 0 _, by rw [List.length_append, HFE.out]; exact hrow⟩⟩, ⟨turn_grown hg1 hb1 _⟩⟩)
              case rest =>
                obtain ⟨rfl, A1, c1, HQ3, HT3⟩ := hcut
                clear hq
                go_wp2_with fail
                have HQ4 := Aside0.mk (HQ3.out.below (below_alloc (Below.refl _ _) (.cells #[.int .i64 1] 3)))
                have HT4 := Aside0.mk (((HT2.out.trans HT3.out).o.alloc (.cells #[.int .i64 1] 3)).setCell ⟨g, 2, none⟩ (.int .i64 (d + 1)) (.inl (by simp)))
                refine (add1_calls g 2 wc.heap.size d (d + 1) _ ((HQ4.out.blk.cell 2).trans rfl) (HQ4.out.blk.frozen 2) (((Blk.new wc 3 #[.int .i64 1]).cell 0).trans rfl) rfl (by omega) (by omega)).mono ?_
                rintro e4 w4 ⟨rfl, rfl⟩
                go_wp2
                go_roundg (n - (i + 1))
                case measure => have := HK.out; omega
                case rel => exact ⟨i + 1, q ++ [e], d + 1, A1, c1, by go_num, ⟨by omega, rfl, by have := HD.out; simp; omega, by simp; omega, by rw [HA.out, drop_at HE.out, takeE, if_neg (by omega), if_neg (by omega), if_pos ⟨hok, hroom⟩, List.append_assoc]; simp⟩, ⟨by rw [List.length_append]; exact HQ4.out.setB (by decide) _⟩, ⟨by rw [List.length_append]; exact ⟨HT4.out, (HT2.out.trans HT3.out).n⟩⟩⟩
            · have hroomI : ¬ (q.length : Int) < 40 := by omega
              go_wp2_with fail
              refine (now_calls g 2 d _ ((HQ2.out.blk.cell 2).trans rfl)).mono ?_
              rintro e9 w9 ⟨rfl, rfl⟩
              go_wp2
              go_ret
              obtain ⟨hE, hL⟩ := take_end HA.out (by rw [drop_at HE.out, takeE, if_neg (by omega), if_neg (by omega), if_neg (by omega)]) HD.out
              rw [hE, hL]
              exact ⟨rfl, A', c', HQ2.out, HT2.out⟩
    · obtain rfl : i = n := by omega
      go_wp2_with fail
      refine (now_calls g 2 d _ ((HQ.out.blk.cell 2).trans rfl)).mono ?_
      rintro e9 w9 ⟨rfl, rfl⟩
      go_wp2
      go_ret
      obtain ⟨hE, hL⟩ := take_end HA.out (by rw [List.drop_of_length_le (by have := HN.out; omega)]; rfl) HD.out
      rw [hE, hL]
      exact ⟨rfl, A', c', HQ.out, HT.out⟩
end Go.Proofs.Ytjjjinpmflghmaa.Keys
namespace Go.Proofs.Ytjjjinpmflghmaa.Keys
open Go.RowKit Go.Proofs.Ytjjjinpmflghmaa.Mem Go.Proofs.YtjjjinpmflghmaaW.PrintWords Go.Proofs.YtjjjinpmflghmaaW.PrintMore Go.Proofs.YtjjjinpmflghmaaW.PrintLast Go.Proofs.Ytjjjinpmflghmaa.PKeysBounds
set_option linter.unusedVariables false
set_option linter.unusedSimpArgs false
theorem own_only {gs : List Nat} {w w' : World} {B n : Nat} {v : Value} {xs : List Value} (h : w.ownsRow B 38 4 v n xs) (ho : Only gs w w') (hv : ∀ k, v.ownBlock = some k → k ∉ gs) : w'.ownsRow B 38 4 v n xs := by
  have hlt := own_lt h
  refine ⟨h.1, h.2.imp id ?_⟩
  rintro ⟨g', cap, cur, rfl, h2, h3, h4⟩
  exact ⟨g', cap, cur, rfl, h2, (ho.block g' (hlt g' rfl) (hv g' rfl)).trans h3, h4⟩
/-- Both queues, of one memory; nothing else that was there at the beginning is touched. -/
structure QQ (w0 : World) (go gi : Nat) (vo : Value) (lo : List E4) (ao bo : Int) (vi : Value) (li : List E4) (ai bi : Int) (w : World) : Prop where
  o : IsQ w go 33 vo lo ao bo
  i : IsQ w gi 36 vi li ai bi
  d : ∀ k, vo.ownBlock = some k → vi.ownBlock ≠ some k
  k : Only [go, gi] w0 w
  po : ∀ k, vo.ownBlock = some k → w0.heap.size ≤ k
  pi : ∀ k, vi.ownBlock = some k → w0.heap.size ≤ k
section
variable {w0 w w' : World} {go gi : Nat} {vo vi : Value} {lo li : List E4} {ao bo ai bi : Int}
theorem QQ.below (h : QQ w0 go gi vo lo ao bo vi li ai bi w) (hb : Below w.heap.size w w') : QQ w0 go gi vo lo ao bo vi li ai bi w' := ⟨h.o.below hb, h.i.below hb, h.d, h.k.below hb, h.po, h.pi⟩
theorem QQ.setO (h : QQ w0 go gi vo lo ao bo vi li ai bi w) {vo' : Value} {lo' : List E4} {ao' bo' : Int} (hq : IsQ w' go 33 vo' lo' ao' bo') (ht : Turn go vo w w' vo') : QQ w0 go gi vo' lo' ao' bo' vi li ai bi w' := by
  have hgn : gi ≠ go := (h.i.blk).ne_ h.o.blk (by decide)
  have hiv : some gi ≠ vo.ownBlock := own_ne h.o.row h.i.blk (by decide)
  have hov : some go ≠ vi.ownBlock := own_ne h.i.row h.o.blk (by decide)
  have hlt := own_lt h.i.row
  have hm : ∀ k, k ∈ go :: vo.ownBlock.toList → k = go ∨ vo.ownBlock = some k := fun k hk => by
    rcases List.mem_cons.1 hk with rfl | hk
    · exact .inl rfl
    · exact .inr (by simpa using hk)
  refine ⟨hq, ⟨h.i.blk.only ht.o (fun hk => ?_), own_only h.i.row ht.o (fun k hk hm' => ?_)⟩, fun k hk hk2 => ?_, ⟨ht.o.os.trans h.k.os, ht.o.tape.trans h.k.tape, ht.o.output.trans h.k.output, Nat.le_trans h.k.size ht.o.size, fun j hj hn => (ht.o.block j (Nat.lt_of_lt_of_le hj h.k.size) (fun he => ?_)).trans (h.k.block j hj hn)⟩, fun k hk => ?_, h.pi⟩
  · rcases hm _ hk with h1 | h1
    · exact hgn h1
    · exact hiv h1.symm
  · rcases hm _ hm' with rfl | h1
    · exact hov hk.symm
    · exact h.d k h1 hk
  · rcases ht.n k hk with h1 | h1
    · exact h.d k h1 hk2
    · have := hlt k hk2; omega
  · rcases hm _ he with rfl | h1
    · exact hn (by simp)
    · have := h.po j h1; omega
  · rcases ht.n k hk with h1 | h1
    · exact h.po k h1
    · exact Nat.le_trans h.k.size h1
theorem QQ.setI (h : QQ w0 go gi vo lo ao bo vi li ai bi w) {vi' : Value} {li' : List E4} {ai' bi' : Int} (hq : IsQ w' gi 36 vi' li' ai' bi') (ht : Turn gi vi w w' vi') : QQ w0 go gi vo lo ao bo vi' li' ai' bi' w' := by
  have hgn : go ≠ gi := (h.o.blk).ne_ h.i.blk (by decide)
  have hiv : some go ≠ vi.ownBlock := own_ne h.i.row h.o.blk (by decide)
  have hov : some gi ≠ vo.ownBlock := own_ne h.o.row h.i.blk (by decide)
  have hlt := own_lt h.o.row
  have hm : ∀ k, k ∈ gi :: vi.ownBlock.toList → k = gi ∨ vi.ownBlock = some k := fun k hk => by
    rcases List.mem_cons.1 hk with rfl | hk
    · exact .inl rfl
    · exact .inr (by simpa using hk)
  refine ⟨⟨h.o.blk.only ht.o (fun hk => ?_), own_only h.o.row ht.o (fun k hk hm' => ?_)⟩, hq, fun k hk hk2 => ?_, ⟨ht.o.os.trans h.k.os, ht.o.tape.trans h.k.tape, ht.o.output.trans h.k.output, Nat.le_trans h.k.size ht.o.size, fun j hj hn => (ht.o.block j (Nat.lt_of_lt_of_le hj h.k.size) (fun he => ?_)).trans (h.k.block j hj hn)⟩, h.po, fun k hk => ?_⟩
  · rcases hm _ hk with h1 | h1
    · exact hgn h1
    · exact hiv h1.symm
  · rcases hm _ hm' with rfl | h1
    · exact hov hk.symm
    · exact h.d k hk h1
  · rcases ht.n k hk2 with h1 | h1
    · exact h.d k hk h1
    · have := hlt k hk; omega
  · rcases hm _ he with rfl | h1
    · exact hn (by simp)
    · have := h.pi j h1; omega
  · rcases ht.n k hk with h1 | h1
    · exact h.pi k h1
    · exact Nat.le_trans h.k.size h1
theorem QQ.bump (h : QQ w0 go gi vo lo ao bo vi li ai bi w) : True := trivial
end
/-- A literal's cells. -/
theorem lit_src (w : World) (es : List E4) : ∀ j u, (fe es)[j]? = some u → (w.alloc (.cells (fe es).toArray 38)).cell? ⟨w.heap.size, j, none⟩ = some u := fun j u hj => by
  rw [(Blk.new w 38 (fe es).toArray).cell j]
  simpa using hj
theorem QQ.add {w0 w : World} {go gi : Nat} {vo vi : Value} {lo li : List E4} {ao bo ai bi : Int} (h : QQ w0 go gi vo lo ao bo vi li ai bi w) (es : List E4) (gb c n : Nat) (hn : es.length = n) (hsrc : ∀ j u, (fe es)[j]? = some u → w.cell? ⟨gb, j, none⟩ = some u) (hg : gb ≠ go) (hv : some gb ≠ vo.ownBlock)
    (ha : 0 ≤ ao) (ha2 : ao ≤ 1000000000000) (hl : lo.length ≤ 40) (hnl : n ≤ 100000) :
    Calls Try.prog 11 #[.pointer (some ⟨go, 0, none⟩), .slice (some ⟨gb, 0, none⟩) n c] w fun r w' => r = .returned (.int .i64 ((addE lo.length es).length : Int)) ∧ ∃ A' c', QQ w0 go gi (.slice A' (lo.length + (addE lo.length es).length) c') (lo ++ addE lo.length es) (ao + (addE lo.length es).length) bo vi li ai bi w' ∧ Turn go vo w w' (.slice A' (lo.length + (addE lo.length es).length) c') := by
  refine (add_calls go vo lo es ao bo gb c n w h.o hn hsrc hg hv ha ha2 hl hnl).mono ?_
  rintro e1 w1 ⟨rfl, A', c', hq, ht⟩
  exact ⟨rfl, A', c', h.setO hq ht, ht⟩
theorem QQ.take {w0 w : World} {go gi : Nat} {vo vi : Value} {lo li : List E4} {ao bo ai bi : Int} (h : QQ w0 go gi vo lo ao bo vi li ai bi w) (es : List E4) (first : Int) (gb c n : Nat) (hn : es.length = n) (hsrc : ∀ j u, (fe es)[j]? = some u → w.cell? ⟨gb, j, none⟩ = some u) (hg : gb ≠ gi) (hv : some gb ≠ vi.ownBlock)
    (ha : 0 ≤ bi) (ha2 : bi ≤ 1000000000000) (hl : li.length ≤ 40) (hnl : n ≤ 100000) (hf1 : -1000000000000 ≤ first) (hf2 : first ≤ 1000000000000) :
    Calls Try.prog 12 #[.pointer (some ⟨gi, 0, none⟩), .int .i64 first, .slice (some ⟨gb, 0, none⟩) n c] w fun r w' => r = .returned (.int .i64 (bi + ((takeE first 0 li.length bi es).length : Int))) ∧ ∃ A' c', QQ w0 go gi vo lo ao bo (.slice A' (li ++ takeE first 0 li.length bi es).length c') (li ++ takeE first 0 li.length bi es) ai (bi + ((takeE first 0 li.length bi es).length : Int)) w' ∧ Turn gi vi w w' (.slice A' (li ++ takeE first 0 li.length bi es).length c') := by
  refine (take_calls gi vi li es ai bi first gb c n w h.i hn hsrc hg hv ha ha2 hl hnl (by omega) (by omega)).mono ?_
  rintro e1 w1 ⟨rfl, A', c', hq, ht⟩
  exact ⟨rfl, A', c', h.setI hq ht, ht⟩
theorem far_new {w : World} {g : Nat} {T : TypeId} {v : Value} {l : List E4} {a b : Int} (h : IsQ w g T v l a b) : w.heap.size ≠ g ∧ some w.heap.size ≠ v.ownBlock :=
  ⟨fun e => by have := h.blk.lt; omega, fun e => by have := own_lt h.row _ e.symm; omega⟩
theorem QQ.new {w : World} {go gi : Nat} (h1 : Blk w go 33 #[.slice none 0 0, .int .i64 0, .int .i64 0]) (h2 : Blk w gi 36 #[.slice none 0 0, .int .i64 0, .int .i64 0]) : QQ w go gi (.slice none 0 0) [] 0 0 (.slice none 0 0) [] 0 0 w :=
  ⟨⟨h1, own_nil _ _ _ _⟩, ⟨h2, own_nil _ _ _ _⟩, fun k hk => by simp [Value.ownBlock] at hk, Only.refl _ _, fun k hk => by simp [Value.ownBlock] at hk, fun k hk => by simp [Value.ownBlock] at hk⟩
def eA : E4 := ⟨1, ⟨#[97]⟩, 0, 0⟩
def eB : E4 := ⟨2, ⟨#[]⟩, 10, 4⟩
theorem okA : okE eA = true := by decide +kernel
theorem okB : okE eB = true := by decide +kernel
theorem eql_ev (w : World) : (binOp .eql 38 (.agg #[.int .i64 1, .string ⟨#[97]⟩, .int .i64 0, .int .i64 0]) (.agg #[.int .i64 1, .string ⟨#[97]⟩, .int .i64 0, .int .i64 0])).run Try.prog w = .ok (.bool true) w := by kernel_rfl
set_option maxHeartbeats 4000000 in
set_option maxRecDepth 100000 in
theorem alive20 (w : World) : Calls Try.prog 10 #[] w fun r w' => r = .returned (.bool true) ∧ Below w.heap.size w w' := by
  have b1 := Blk.new w 33 #[.slice none 0 0, .int .i64 0, .int .i64 0]
  have b2 := Blk.new (w.alloc (.cells #[.slice none 0 0, .int .i64 0, .int .i64 0] 33)) 36 #[.slice none 0 0, .int .i64 0, .int .i64 0]
  have b3 := Blk.new ((w.alloc (.cells #[.slice none 0 0, .int .i64 0, .int .i64 0] 33)).alloc (.cells #[.slice none 0 0, .int .i64 0, .int .i64 0] 36)) 38 #[.int .i64 1, .string ⟨#[97]⟩, .int .i64 0, .int .i64 0]
  have b4 := Blk.new (((w.alloc (.cells #[.slice none 0 0, .int .i64 0, .int .i64 0] 33)).alloc (.cells #[.slice none 0 0, .int .i64 0, .int .i64 0] 36)).alloc (.cells #[.int .i64 1, .string ⟨#[97]⟩, .int .i64 0, .int .i64 0] 38)) 38 #[.int .i64 2, .string ⟨#[]⟩, .int .i64 10, .int .i64 4]
  simp only [World.size_alloc] at b2 b3 b4
  have H0 := Aside0.mk (QQ.new (((b1.alloc (.cells #[.slice none 0 0, .int .i64 0, .int .i64 0] 36)).alloc (.cells #[.int .i64 1, .string ⟨#[97]⟩, .int .i64 0, .int .i64 0] 38)).alloc (.cells #[.int .i64 2, .string ⟨#[]⟩, .int .i64 10, .int .i64 4] 38)) ((b2.alloc (.cells #[.int .i64 1, .string ⟨#[97]⟩, .int .i64 0, .int .i64 0] 38)).alloc (.cells #[.int .i64 2, .string ⟨#[]⟩, .int .i64 10, .int .i64 4] 38)))
  have HA := Aside0.mk (b3.alloc (.cells #[.int .i64 2, .string ⟨#[]⟩, .int .i64 10, .int .i64 4] 38))
  have HB := Aside0.mk b4
  have HW := Aside0.mk (below_alloc (below_alloc (below_alloc (below_alloc (Below.refl w.heap.size w) (.cells #[.slice none 0 0, .int .i64 0, .int .i64 0] 33)) (.cells #[.slice none 0 0, .int .i64 0, .int .i64 0] 36)) (.cells #[.int .i64 1, .string ⟨#[97]⟩, .int .i64 0, .int .i64 0] 38)) (.cells #[.int .i64 2, .string ⟨#[]⟩, .int .i64 10, .int .i64 4] 38))
  have HS := Aside0.mk (show ((((w.alloc (.cells #[.slice none 0 0, .int .i64 0, .int .i64 0] 33)).alloc (.cells #[.slice none 0 0, .int .i64 0, .int .i64 0] 36)).alloc (.cells #[.int .i64 1, .string ⟨#[97]⟩, .int .i64 0, .int .i64 0] 38)).alloc (.cells #[.int .i64 2, .string ⟨#[]⟩, .int .i64 10, .int .i64 4] 38)).heap.size = w.heap.size + 1 + 1 + 1 + 1 by simp)
  clear b1 b2 b3 b4
  go_enter Try.func10, Try.ntmps10
  go_wp2_with fail
  generalize (((w.alloc (.cells #[.slice none 0 0, .int .i64 0, .int .i64 0] 33)).alloc (.cells #[.slice none 0 0, .int .i64 0, .int .i64 0] 36)).alloc (.cells #[.int .i64 1, .string ⟨#[97]⟩, .int .i64 0, .int .i64 0] 38)).alloc (.cells #[.int .i64 2, .string ⟨#[]⟩, .int .i64 10, .int .i64 4] 38) = WB at H0 HA HB HW HS ⊢
  rw [← HS.out]
  have H1 := Aside0.mk (H0.out.below (below_alloc (Below.refl _ _) (.cells (fe [eA, eB]).toArray 38)))
  refine (H1.out.add [eA, eB] WB.heap.size 2 2 rfl (lit_src WB [eA, eB]) (far_new H0.out.o).1 (far_new H0.out.o).2 (by decide) (by decide) (by simp) (by decide)).mono ?_
  rw [show addE ([] : List E4).length [eA, eB] = [eA, eB] by simp [addE, okA, okB]]
  rintro e1 w1 ⟨rfl, Ao, co, H2, _⟩
  have H2 := Aside0.mk H2
  have pb0 : w1.cell? ⟨w.heap.size + 1 + 1 + 1, 0, none⟩ = some (.int .i64 2) := ((HB.out.only H2.out.k (by simp; omega)).cell 0).trans rfl
  have pb1 : w1.cell? ⟨w.heap.size + 1 + 1 + 1, 1, none⟩ = some (.string ⟨#[]⟩) := ((HB.out.only H2.out.k (by simp; omega)).cell 1).trans rfl
  have pb2 : w1.cell? ⟨w.heap.size + 1 + 1 + 1, 2, none⟩ = some (.int .i64 10) := ((HB.out.only H2.out.k (by simp; omega)).cell 2).trans rfl
  have pb3 : w1.cell? ⟨w.heap.size + 1 + 1 + 1, 3, none⟩ = some (.int .i64 4) := ((HB.out.only H2.out.k (by simp; omega)).cell 3).trans rfl
  go_wp2_with fail
  clear pb0 pb1 pb2 pb3
  have H2' := Aside0.mk (H2.out.below (below_alloc (Below.refl _ _) (.cells (fe [eB]).toArray 38)))
  refine (H2'.out.take [eB] 2 w1.heap.size 1 1 rfl (lit_src w1 [eB]) (far_new H2.out.i).1 (far_new H2.out.i).2 (by decide) (by decide) (by simp) (by decide) (by decide) (by decide)).mono ?_
  rw [show takeE 2 0 ([] : List E4).length 0 [eB] = [] by simp [takeE]]
  rintro e2 w2 ⟨rfl, Ai, ci, H3, _⟩
  have H3 := Aside0.mk H3
  have pa0 : w2.cell? ⟨w.heap.size + 1 + 1, 0, none⟩ = some (.int .i64 1) := ((HA.out.only H3.out.k (by simp; omega)).cell 0).trans rfl
  have pa1 : w2.cell? ⟨w.heap.size + 1 + 1, 1, none⟩ = some (.string ⟨#[97]⟩) := ((HA.out.only H3.out.k (by simp; omega)).cell 1).trans rfl
  have pa2 : w2.cell? ⟨w.heap.size + 1 + 1, 2, none⟩ = some (.int .i64 0) := ((HA.out.only H3.out.k (by simp; omega)).cell 2).trans rfl
  have pa3 : w2.cell? ⟨w.heap.size + 1 + 1, 3, none⟩ = some (.int .i64 0) := ((HA.out.only H3.out.k (by simp; omega)).cell 3).trans rfl
  have pb0 : w2.cell? ⟨w.heap.size + 1 + 1 + 1, 0, none⟩ = some (.int .i64 2) := ((HB.out.only H3.out.k (by simp; omega)).cell 0).trans rfl
  have pb1 : w2.cell? ⟨w.heap.size + 1 + 1 + 1, 1, none⟩ = some (.string ⟨#[]⟩) := ((HB.out.only H3.out.k (by simp; omega)).cell 1).trans rfl
  have pb2 : w2.cell? ⟨w.heap.size + 1 + 1 + 1, 2, none⟩ = some (.int .i64 10) := ((HB.out.only H3.out.k (by simp; omega)).cell 2).trans rfl
  have pb3 : w2.cell? ⟨w.heap.size + 1 + 1 + 1, 3, none⟩ = some (.int .i64 4) := ((HB.out.only H3.out.k (by simp; omega)).cell 3).trans rfl
  go_wp2_with fail
  clear pa0 pa1 pa2 pa3 pb0 pb1 pb2 pb3
  have H3' := Aside0.mk (H3.out.below (below_alloc (Below.refl _ _) (.cells (fe [eA, eB]).toArray 38)))
  refine (H3'.out.take [eA, eB] 1 w2.heap.size 2 2 rfl (lit_src w2 [eA, eB]) (far_new H3.out.i).1 (far_new H3.out.i).2 (by decide) (by decide) (by simp) (by decide) (by decide) (by decide)).mono ?_
  rw [show takeE 1 0 ([] ++ [] : List E4).length (0 + (([] : List E4).length : Int)) [eA, eB] = [eA, eB] by simp [takeE, okA, okB]]
  rintro e3 w3 ⟨rfl, Aj, cj, H4, _⟩
  have H4 := Aside0.mk H4
  go_wp2_with fail
  refine (next_some (w.heap.size + 1) _ eA [eB] 0 _ _ H4.out.i (by decide) (by decide) (by decide)).mono ?_
  rintro e4 w4 ⟨rfl, v5, hq5, ht5⟩
  have H5 := Aside0.mk (H4.out.setI hq5 ht5)
  clear hq5 ht5
  simp only [E4.val, eA]
  have H5' := Aside0.mk (H5.out.below (below_alloc (Below.refl _ _) (.cells #[.int .i64 1, .string ⟨#[97]⟩, .int .i64 0, .int .i64 0] 38)))
  have pa0 : (w4.alloc (.cells #[.int .i64 1, .string ⟨#[97]⟩, .int .i64 0, .int .i64 0] 38)).cell? ⟨w.heap.size + 1 + 1, 0, none⟩ = some (.int .i64 1) := ((HA.out.only H5'.out.k (by simp; omega)).cell 0).trans rfl
  have pa1 : (w4.alloc (.cells #[.int .i64 1, .string ⟨#[97]⟩, .int .i64 0, .int .i64 0] 38)).cell? ⟨w.heap.size + 1 + 1, 1, none⟩ = some (.string ⟨#[97]⟩) := ((HA.out.only H5'.out.k (by simp; omega)).cell 1).trans rfl
  have pa2 : (w4.alloc (.cells #[.int .i64 1, .string ⟨#[97]⟩, .int .i64 0, .int .i64 0] 38)).cell? ⟨w.heap.size + 1 + 1, 2, none⟩ = some (.int .i64 0) := ((HA.out.only H5'.out.k (by simp; omega)).cell 2).trans rfl
  have pa3 : (w4.alloc (.cells #[.int .i64 1, .string ⟨#[97]⟩, .int .i64 0, .int .i64 0] 38)).cell? ⟨w.heap.size + 1 + 1, 3, none⟩ = some (.int .i64 0) := ((HA.out.only H5'.out.k (by simp; omega)).cell 3).trans rfl
  have pb0 : (w4.alloc (.cells #[.int .i64 1, .string ⟨#[97]⟩, .int .i64 0, .int .i64 0] 38)).cell? ⟨w.heap.size + 1 + 1 + 1, 0, none⟩ = some (.int .i64 2) := ((HB.out.only H5'.out.k (by simp; omega)).cell 0).trans rfl
  have pb1 : (w4.alloc (.cells #[.int .i64 1, .string ⟨#[97]⟩, .int .i64 0, .int .i64 0] 38)).cell? ⟨w.heap.size + 1 + 1 + 1, 1, none⟩ = some (.string ⟨#[]⟩) := ((HB.out.only H5'.out.k (by simp; omega)).cell 1).trans rfl
  have pb2 : (w4.alloc (.cells #[.int .i64 1, .string ⟨#[97]⟩, .int .i64 0, .int .i64 0] 38)).cell? ⟨w.heap.size + 1 + 1 + 1, 2, none⟩ = some (.int .i64 10) := ((HB.out.only H5'.out.k (by simp; omega)).cell 2).trans rfl
  have pb3 : (w4.alloc (.cells #[.int .i64 1, .string ⟨#[97]⟩, .int .i64 0, .int .i64 0] 38)).cell? ⟨w.heap.size + 1 + 1 + 1, 3, none⟩ = some (.int .i64 4) := ((HB.out.only H5'.out.k (by simp; omega)).cell 3).trans rfl
  have heq := eql_ev
  go_wp2_with fail
  refine (done_calls _ _ _ _ _ _ H5'.out.i).mono ?_
  rintro e5 w5 ⟨rfl, rfl⟩
  go_wp2_with fail
  refine (got_calls _ _ _ _ _ _ H5'.out.i).mono ?_
  rintro e6 w6 ⟨rfl, rfl⟩
  clear pa0 pa1 pa2 pa3 pb0 pb1 pb2 pb3 heq
  go_wp2_with fail
  refine (ack_calls _ _ [eA, eB] 2 0 1 _ H5'.out.o (by decide) (by decide) (by decide) (by decide) (by decide) (by decide)).mono ?_
  rintro e7 w7 ⟨rfl, v7, hq7, ht7⟩
  have H7 := Aside0.mk (H5'.out.setO hq7 ht7)
  clear hq7 ht7
  have pb0 : w7.cell? ⟨w.heap.size + 1 + 1 + 1, 0, none⟩ = some (.int .i64 2) := ((HB.out.only H7.out.k (by simp; omega)).cell 0).trans rfl
  have pb1 : w7.cell? ⟨w.heap.size + 1 + 1 + 1, 1, none⟩ = some (.string ⟨#[]⟩) := ((HB.out.only H7.out.k (by simp; omega)).cell 1).trans rfl
  have pb2 : w7.cell? ⟨w.heap.size + 1 + 1 + 1, 2, none⟩ = some (.int .i64 10) := ((HB.out.only H7.out.k (by simp; omega)).cell 2).trans rfl
  have pb3 : w7.cell? ⟨w.heap.size + 1 + 1 + 1, 3, none⟩ = some (.int .i64 4) := ((HB.out.only H7.out.k (by simp; omega)).cell 3).trans rfl
  go_wp2_with fail
  refine (keys_Valid.calls 2 ⟨#[]⟩ 10 4 true _ (by decide +kernel)).mono ?_
  rintro e8 w8 ⟨rfl, hb8⟩
  have HF := Aside0.mk (below_step (H7.out.k.belowOf HW.out HW.out.size (by simp)) hb8)
  clear hb8
  go_wp2
  go_ret
  exact ⟨rfl, HF.out⟩
end Go.Proofs.Ytjjjinpmflghmaa.Keys
namespace Go.Proofs.Ytjjjinpmflghmaa.Keys
open Go.RowKit Go.Proofs.Ytjjjinpmflghmaa.Mem Go.Proofs.YtjjjinpmflghmaaW.PrintWords Go.Proofs.YtjjjinpmflghmaaW.PrintMore Go.Proofs.YtjjjinpmflghmaaW.PrintLast Go.Proofs.Ytjjjinpmflghmaa.PKeysBounds
set_option linter.unusedVariables false
set_option linter.unusedSimpArgs false
theorem takeH {P : Program} {md : Region.Mode} {ops : Array Oper} {Q : Exit → Act → World → Prop} {S : World → Prop} {i d : Nat} {oi : Oper} {v : Value} {fuel : Nat} {listed : Array Bool} {a : Act} {w : World} (hi : ops[i]? = some oi) (hd : oi.dst = some d)
    (hs : Region.noSelect ops = true) (hf : Region.free md ops listed i = true) (hr : (Region.ready md ops listed).contains i = true)
    (hQ : ∀ c a w, Q (.panic c) (a.put oi.dst v) w → Q (.panic c) a w) (hy : YieldsIf P ops S oi v a) (hS : S w)
    (h : wpAnyH P md ops Q S fuel (listed.setIfInBounds i true) { a with tmps := a.tmps.setIfInBounds d v } w) : wpAnyH P md ops Q S (fuel + 1) listed a w :=
  wpAnyH_take hi hs hf hr hQ hy hS (by rw [hd]; exact h)
theorem min2_w (k k' : IntKind) (x y : Int) : Builtin.min2 (.int k x) (.int k' y) = pure (.int k (min x y)) := by
  rw [min2_int]; congr 2; split <;> omega
theorem max2_w (k k' : IntKind) (x y : Int) : Builtin.max2 (.int k x) (.int k' y) = pure (.int k (max x y)) := by
  rw [max2_int]; congr 2; split <;> omega
attribute [local go_sem] min2_w max2_w min_two max_two
set_option maxHeartbeats 1000000 in
theorem wait_none (g : Nat) (v : Value) (a b most : Int) (w : World) (h : IsQ w g 33 v [] a b) :
    Calls Try.prog 28 #[.pointer (some ⟨g, 0, none⟩), .int .i64 most] w fun r w' => r = .returned (.tuple #[.int .i64 0, .slice none 0 0]) ∧ w = w' := by
  have hn := eql_pout ⟨g, 0, none⟩
  obtain ⟨A, c, rfl⟩ := own_sl h.row
  have hc := (h.blk.cell 0).trans (show _ = some (Value.slice A ([] : List E4).length c) from rfl)
  clear h
  go_enter Try.func28, Try.ntmps28
  go_wp2
  go_ret2
  exact ⟨rfl, rfl⟩
theorem take_src {w : World} {g gb c : Nat} {T : TypeId} {l : List E4} {a b : Int} (h : IsQ w g T (.slice (some ⟨gb, 0, none⟩) l.length c) l a b) (m : Nat) : SrcE w (some ⟨gb, 0, none⟩) (l.take m) := by
  rcases own_form h.row with ⟨h1, _⟩ | ⟨gb', c', h1, _, h3⟩
  · cases h1
  · injection h1 with h1
    injection h1 with h1
    injection h1 with h1
    subst h1
    refine .inr ⟨_, rfl, fun j u hj => ?_⟩
    have e : (⟨gb, 0, none⟩ : Addr).add j = ⟨gb, j, none⟩ := by unfold Addr.add; split <;> simp_all
    rw [e]
    rw [← fe_take, List.getElem?_take] at hj
    split at hj
    · exact h3 j u hj
    · cases hj
set_option maxHeartbeats 4000000 in
set_option maxRecDepth 100000 in
theorem wait_some (g gb c m : Nat) (l : List E4) (a b most : Int) (w : World) (h : IsQ w g 33 (.slice (some ⟨gb, 0, none⟩) l.length c) l a b) (hl : 0 < l.length) (hlc : l.length ≤ c) (hl2 : l.length ≤ 100000) (hb : 0 ≤ b) (hb2 : b ≤ 1000000000000) (hm : min (max most 0) (l.length : Int) = (m : Int)) (hml : m ≤ l.length) :
    Calls Try.prog 28 #[.pointer (some ⟨g, 0, none⟩), .int .i64 most] w fun r w' => (∃ v', r = .returned (.tuple #[.int .i64 (b + 1), v']) ∧ w'.ownsRow w.heap.size 38 4 v' m (fe (l.take m))) ∧ Below w.heap.size w w' := by
  have hn := eql_pout ⟨g, 0, none⟩
  have hc := (h.blk.cell 0).trans (show _ = some (Value.slice (some ⟨gb, 0, none⟩) l.length c) from rfl)
  have HQ := Aside0.mk h
  have hlI : (0 : Int) < (l.length : Int) := by omega
  have hw : IntKind.i64.wrap (b + 1) = b + 1 := IntWalk.i64_in _ (by omega)
  clear h
  go_enter Try.func28, Try.ntmps28
  go_upto_region 3 with (fail)
  have hmc : m ≤ c := by omega
  have hmc2 : ¬ c < m := by omega
  have XQ0 := Aside0.mk (show IsQ w.drew g 33 (.slice (some ⟨gb, 0, none⟩) l.length c) l a b ∧ Below w.heap.size w w.drew from ⟨HQ.out.below (below_drew (Below.refl _ _)), below_drew (Below.refl _ _)⟩)
  clear hc
  refine wp_region_held_drew (S := fun w' => IsQ w' g 33 (.slice (some ⟨gb, 0, none⟩) l.length c) l a b ∧ Below w.heap.size w w') (by kernel_rfl) (by exact XQ0.out) (fun hHeld => ?_)
  refine takeH (i := 0) (d := 16) (v := (.pointer (some ⟨g, 0, none⟩))) rfl rfl (by kernel_rfl) (by kernel_rfl) (by kernel_rfl) (fun _ _ _ h => h) (Or.inl ⟨by kernel_rfl, by intro w hSw; (try dsimp only at hSw); go_simp; done⟩) (by assumption) ?_
  try simp only [List.setIfInBounds_toArray, List.set_cons_zero, List.set_cons_succ]
  refine takeH (i := 3) (d := 19) (v := (.pointer (some ⟨g, 0, none⟩))) rfl rfl (by kernel_rfl) (by kernel_rfl) (by kernel_rfl) (fun _ _ _ h => h) (Or.inl ⟨by kernel_rfl, by intro w hSw; (try dsimp only at hSw); go_simp; done⟩) (by assumption) ?_
  try simp only [List.setIfInBounds_toArray, List.set_cons_zero, List.set_cons_succ]
  refine takeH (i := 4) (d := 20) (v := (.pointer (some ⟨g, 0, none⟩))) rfl rfl (by kernel_rfl) (by kernel_rfl) (by kernel_rfl) (fun _ _ _ h => h) (Or.inl ⟨by kernel_rfl, by intro w hSw; (try dsimp only at hSw); go_simp; done⟩) (by assumption) ?_
  try simp only [List.setIfInBounds_toArray, List.set_cons_zero, List.set_cons_succ]
  refine takeH (i := 5) (d := 21) (v := (.pointer (some ⟨g, 0, none⟩))) rfl rfl (by kernel_rfl) (by kernel_rfl) (by kernel_rfl) (fun _ _ _ h => h) (Or.inl ⟨by kernel_rfl, by intro w hSw; (try dsimp only at hSw); go_simp; done⟩) (by assumption) ?_
  try simp only [List.setIfInBounds_toArray, List.set_cons_zero, List.set_cons_succ]
  refine takeH (i := 6) (d := 22) (v := (.slice (some ⟨gb, 0, none⟩) l.length c)) rfl rfl (by kernel_rfl) (by kernel_rfl) (by kernel_rfl) (fun _ _ _ h => h) (Or.inl ⟨by kernel_rfl, by intro w hSw; (try dsimp only at hSw); have c0 := (hSw.1.blk.cell 0).trans (show _ = some (Value.slice (some ⟨gb, 0, none⟩) l.length c) from rfl); go_simp; done⟩) (by assumption) ?_
  try simp only [List.setIfInBounds_toArray, List.set_cons_zero, List.set_cons_succ]
  refine takeH (i := 7) (d := 23) (v := (.int .i64 most)) rfl rfl (by kernel_rfl) (by kernel_rfl) (by kernel_rfl) (fun _ _ _ h => h) (Or.inl ⟨by kernel_rfl, by intro w hSw; (try dsimp only at hSw); go_simp; done⟩) (by assumption) ?_
  try simp only [List.setIfInBounds_toArray, List.set_cons_zero, List.set_cons_succ]
  refine takeH (i := 8) (d := 24) (v := (.int .i64 (max most 0))) rfl rfl (by kernel_rfl) (by kernel_rfl) (by kernel_rfl) (fun _ _ _ h => h) (Or.inl ⟨by kernel_rfl, by intro w hSw; (try dsimp only at hSw); go_simp; done⟩) (by assumption) ?_
  try simp only [List.setIfInBounds_toArray, List.set_cons_zero, List.set_cons_succ]
  refine takeH (i := 9) (d := 25) (v := (.pointer (some ⟨g, 0, none⟩))) rfl rfl (by kernel_rfl) (by kernel_rfl) (by kernel_rfl) (fun _ _ _ h => h) (Or.inl ⟨by kernel_rfl, by intro w hSw; (try dsimp only at hSw); go_simp; done⟩) (by assumption) ?_
  try simp only [List.setIfInBounds_toArray, List.set_cons_zero, List.set_cons_succ]
  refine takeH (i := 10) (d := 26) (v := (.pointer (some ⟨g, 0, none⟩))) rfl rfl (by kernel_rfl) (by kernel_rfl) (by kernel_rfl) (fun _ _ _ h => h) (Or.inl ⟨by kernel_rfl, by intro w hSw; (try dsimp only at hSw); go_simp; done⟩) (by assumption) ?_
  try simp only [List.setIfInBounds_toArray, List.set_cons_zero, List.set_cons_succ]
  refine takeH (i := 11) (d := 27) (v := (.pointer (some ⟨g, 0, none⟩))) rfl rfl (by kernel_rfl) (by kernel_rfl) (by kernel_rfl) (fun _ _ _ h => h) (Or.inl ⟨by kernel_rfl, by intro w hSw; (try dsimp only at hSw); go_simp; done⟩) (by assumption) ?_
  try simp only [List.setIfInBounds_toArray, List.set_cons_zero, List.set_cons_succ]
  refine takeH (i := 12) (d := 28) (v := (.slice (some ⟨gb, 0, none⟩) l.length c)) rfl rfl (by kernel_rfl) (by kernel_rfl) (by kernel_rfl) (fun _ _ _ h => h) (Or.inl ⟨by kernel_rfl, by intro w hSw; (try dsimp only at hSw); have c0 := (hSw.1.blk.cell 0).trans (show _ = some (Value.slice (some ⟨gb, 0, none⟩) l.length c) from rfl); go_simp; done⟩) (by assumption) ?_
  try simp only [List.setIfInBounds_toArray, List.set_cons_zero, List.set_cons_succ]
  refine takeH (i := 13) (d := 29) (v := (.int .i64 (l.length : Int))) rfl rfl (by kernel_rfl) (by kernel_rfl) (by kernel_rfl) (fun _ _ _ h => h) (Or.inl ⟨by kernel_rfl, by intro w hSw; (try dsimp only at hSw); go_simp; done⟩) (by assumption) ?_
  try simp only [List.setIfInBounds_toArray, List.set_cons_zero, List.set_cons_succ]
  refine takeH (i := 14) (d := 30) (v := (.int .i64 (m : Int))) rfl rfl (by kernel_rfl) (by kernel_rfl) (by kernel_rfl) (fun _ _ _ h => h) (Or.inl ⟨by kernel_rfl, by intro w hSw; (try dsimp only at hSw); go_simp; done⟩) (by assumption) ?_
  try simp only [List.setIfInBounds_toArray, List.set_cons_zero, List.set_cons_succ]
  refine takeH (i := 15) (d := 31) (v := (.slice (some ⟨gb, 0, none⟩) m c)) rfl rfl (by kernel_rfl) (by kernel_rfl) (by kernel_rfl) (fun _ _ _ h => h) (Or.inl ⟨by kernel_rfl, by intro w hSw; (try dsimp only at hSw); go_simp; done⟩) (by assumption) ?_
  try simp only [List.setIfInBounds_toArray, List.set_cons_zero, List.set_cons_succ]
  refine wpAnyH_ready (rs := [1]) (by kernel_rfl) (by simp) ?_
  refine AllReadyH.cons (o := { dst := some 17, op := Op.call { callee := Callee.value (Operand.func 36), args := #[Operand.tmp 16], argTypes := #[23] }, type := 3, pos := "keys.go:110", after := #[{ on := 0, ground := Ground.data }], guard := none }) rfl (fun K hK => ?_) AllReadyH.nil
  rw [if_pos (by kernel_rfl)]
  go_simp
  refine (acked_calls g _ l a b _ XQ0.out.1).mono ?_
  rintro e1 w1 ⟨rfl, rfl⟩
  have XQ1 := Aside0.mk (XQ0.out)
  clear hHeld
  refine hK.out _ _ (XQ1.out) (fun hHeld => ?_)
  clear hK K
  try simp only [Act.put, List.setIfInBounds_toArray, List.set_cons_zero, List.set_cons_succ]
  refine takeH (i := 2) (d := 18) (v := (.int .i64 (b + 1))) rfl rfl (by kernel_rfl) (by kernel_rfl) (by kernel_rfl) (fun _ _ _ h => h) (Or.inl ⟨by kernel_rfl, by intro w hSw; (try dsimp only at hSw); go_simp; done⟩) (by assumption) ?_
  try simp only [List.setIfInBounds_toArray, List.set_cons_zero, List.set_cons_succ]
  refine wpAnyH_ready (rs := [16]) (by kernel_rfl) (by simp) ?_
  refine AllReadyH.cons (o := { dst := some 32, op := Op.call { callee := Callee.value (Operand.func 53), args := #[Operand.tmp 31], argTypes := #[24] }, type := 24, pos := "keys.go:110", after := #[{ on := 15, ground := Ground.data }, { on := 1, ground := Ground.chain }], guard := none }) rfl (fun K hK => ?_) AllReadyH.nil
  rw [if_pos (by kernel_rfl)]
  go_simp
  refine (clone_some ⟨gb, 0, none⟩ m c (l.take m) _ (take_src XQ1.out.1 m) (by simp; omega) (by omega)).mono ?_
  rintro e2 w2 ⟨⟨v3, rfl, ho3⟩, hb2⟩
  have XQ2 := Aside0.mk (show _ ∧ _ from ⟨XQ1.out.1.below hb2, XQ1.out.2.trans (hb2.mono XQ1.out.2.size)⟩)
  have HO3 := Aside0.mk (own_weaken ho3 XQ1.out.2.size)
  clear ho3 hb2
  clear hHeld
  refine hK.out _ _ (XQ2.out) (fun hHeld => ?_)
  clear hK K
  try simp only [Act.put, List.setIfInBounds_toArray, List.set_cons_zero, List.set_cons_succ]
  refine takeH (i := 17) (d := 4) (v := (.int .i64 (b + 1))) rfl rfl (by kernel_rfl) (by kernel_rfl) (by kernel_rfl) (fun _ _ _ h => h) (Or.inl ⟨by kernel_rfl, by intro w hSw; (try dsimp only at hSw); go_simp; done⟩) (by assumption) ?_
  try simp only [List.setIfInBounds_toArray, List.set_cons_zero, List.set_cons_succ]
  refine takeH (i := 18) (d := 5) (v := v3) rfl rfl (by kernel_rfl) (by kernel_rfl) (by kernel_rfl) (fun _ _ _ h => h) (Or.inl ⟨by kernel_rfl, by intro w hSw; (try dsimp only at hSw); go_simp; done⟩) (by assumption) ?_
  try simp only [List.setIfInBounds_toArray, List.set_cons_zero, List.set_cons_succ]
  refine wpAnyH_done (by kernel_rfl) ?_ _
  have XF := XQ2
  clear hHeld
  go_wp2
  go_ret2
  exact ⟨⟨v3, rfl, HO3.out⟩, XF.out.2⟩
end Go.Proofs.Ytjjjinpmflghmaa.Keys
