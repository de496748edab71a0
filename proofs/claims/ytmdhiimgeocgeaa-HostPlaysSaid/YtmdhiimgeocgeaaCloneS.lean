/- Copies of rows of texts. Conditions: those in each theorem. -/
import Derived.Test.YtmdhiimgeocgeaaRow
import Derived.Test.YtmdhiimgeocgeaaTally
import Derived.Lib.SliceRun
namespace Go.Proofs.Ytmdhiimgeocgeaa.Row
open Go.RowKit Go.Proofs.Ytmdhiimgeocgeaa.Mem Go.Proofs.YtmdhiimgeocgeaaW.PrintWords Go.Proofs.YtmdhiimgeocgeaaW.PrintMore Go.Proofs.YtmdhiimgeocgeaaW.PrintLast
set_option linter.unusedVariables false
set_option linter.unusedSimpArgs false
def fs (l : List ByteArray) : List Value := l.map .string
theorem fs_len (l : List ByteArray) : (fs l).length = l.length := by simp [fs]
theorem fs_one (l : List ByteArray) : ∀ u ∈ fs l, u.oneCell' = true := by
  intro u hu
  obtain ⟨s, _, rfl⟩ := List.mem_map.1 hu
  rfl
/-- Cells of a row in memory. -/
def SrcS (w : World) (A : Option Addr) (l : List ByteArray) : Prop := l = [] ∨ ∃ a, A = some a ∧ ∀ j u, (fs l)[j]? = some u → w.cell? (a.add j) = some u
theorem SrcS.below {w w' : World} {A : Option Addr} {l : List ByteArray} (h : SrcS w A l) (hb : Below w.heap.size w w') : SrcS w' A l := h.imp id (fun ⟨a, h1, h2⟩ => ⟨a, h1, fun j u hj => pw_cell_below hb (h2 j u hj)⟩)
theorem infoS : (Try.prog.info? 9).map (fun i => (i.zero, i.size, i.bytes)) = some (some (.string ⟨#[]⟩), 1, 16) := by kernel_rfl
theorem wpList_append_of {P : Program} {w w' : World} {v : Value} {ops : Array Oper} {rest : List Oper} {o : Oper} {a : Act} {Q : Exit → Act → World → Prop} (hgd : o.guard = none) (d s : Operand) (dT sT : TypeId) (x y : Value)
    (ho : o.op = .call { callee := .builtin .append, args := #[d, s], argTypes := #[dT, sT] }) (hd : a.eval d = x) (hs : a.eval s = y)
    (hr : (Builtin.append_ #[dT, sT] o.type #[x, y]).run P w = .ok v w')
    (h : wpList P ops Q rest (a.put o.dst v) w') : wpList P ops Q (o :: rest) a w :=
  wpList_plain hgd fun _ hK => by
    unfold Oper.wp execOp
    simp only [ho, resolve, invoke, builtin, Sem.run_bind, Sem.run_pure, Result.andThen_ok, List.map_toArray, List.map_cons, List.map_nil, hd, hs, hr]
    exact hK _ _ h
set_option maxHeartbeats 1000000 in
set_option maxRecDepth 100000 in
theorem clone_some (ad : Addr) (m c : Nat) (l : List ByteArray) (w : World) (hs : SrcS w (some ad) l) (hm : l.length = m) (hl : m ≤ 100000) :
    Calls Try.prog 59 #[.slice (some ad) m c] w fun r w' => (∃ v, r = .returned v ∧ w'.ownsRow w.heap.size 9 1 v m (fs l)) ∧ Below w.heap.size w w' := by
  have HS := Aside0.mk (hs.below (below_alloc (Below.refl _ _) (.cells #[] 9)))
  have hnil := fun W1 : World => Lib.run_eql_slice_nil W1 22 9 (some ad) m c 0 0 Try.underlying22
  have HOW := Aside0.mk (World.ownsRow_made (base := w.heap.size) (size := 1) (e := 9) w #[] 0 (Nat.le_refl _) (by simp) rfl)
  have HB := Aside0.mk (below_alloc (Below.refl w.heap.size w) (.cells #[] 9))
  clear hs
  have hsrc : ∀ j u, (fs l)[j]? = some u → (w.alloc (.cells #[] 9)).cell? (ad.add j) = some u := by
    rcases HS.out with h | ⟨ad', h, h2⟩
    · subst h; intro j u hj; simp [fs] at hj
    · injection h with h
      subst h
      exact h2
  obtain ⟨iC, hiC, hz0, hz1, hz2⟩ := info_parts infoS
  obtain ⟨v2, w2, hr, ho, hg, _, _⟩ := run_append_own_at (P := Try.prog) _ w.heap.size 22 22 9 iC _ 1 16 Try.underlying22 hiC hz0 hz1 hz2 rfl (by decide) _ 0 [] HOW.out ad m c (fs l) (by rw [fs_len, hm, Nat.mul_one]) hsrc (fs_one l) (by unfold maxLen; omega) (by omega) (by simp)
  rw [Nat.zero_add, List.nil_append] at ho
  have HO := Aside0.mk ho
  have HB2 := Aside0.mk (show Below w.heap.size w w2 from HB.out.trans ⟨hg.os, hg.tape, hg.output, hg.size, fun k hk => hg.block k (by simp; omega) (by simp [Value.ownBlock]; omega)⟩)
  have HR := Aside0.mk hr
  clear hr ho hg hsrc hiC hz0 hz1 hz2 hm
  go_enter Try.func59, Try.ntmps59
  go_wp2_with (with_reducible refine wpList_append_of rfl (.tmp 5) (.tmp 6) 22 22 (.slice (some ⟨w.heap.size, 0, none⟩) 0 0) (.slice (some ad) m c) rfl ?_ ?_ HR.out ?_)
  · rfl
  · rfl
  go_ret
  exact ⟨⟨_, rfl, HO.out⟩, HB2.out⟩
set_option maxHeartbeats 1000000 in
set_option maxRecDepth 100000 in
theorem clone_none (c : Nat) (w : World) :
    Calls Try.prog 59 #[.slice none 0 c] w fun r w' => r = .returned (.slice none 0 0) ∧ w = w' := by
  have hnil := fun W1 : World => Lib.run_eql_slice_nil W1 22 9 none 0 c 0 0 Try.underlying22
  go_enter Try.func59, Try.ntmps59
  go_wp2
  go_ret
  exact ⟨rfl, rfl⟩
end Go.Proofs.Ytmdhiimgeocgeaa.Row
