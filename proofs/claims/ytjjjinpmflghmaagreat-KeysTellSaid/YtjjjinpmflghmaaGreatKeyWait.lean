/- keys.Out's Wait: the first events that wait, copied. Conditions: those in each theorem. -/
import Derived.Test.YtjjjinpmflghmaaGreatMC
namespace Go.Proofs.YtjjjinpmflghmaaGreat.Keys
open Go.RowKit Go.Proofs.YtjjjinpmflghmaaGreat.Mem Go.Proofs.YtjjjinpmflghmaaGreatW.PrintWords Go.Proofs.YtjjjinpmflghmaaGreatW.PrintMore Go.Proofs.YtjjjinpmflghmaaGreatW.PrintLast Go.Proofs.YtjjjinpmflghmaaGreat.PKeysTell
set_option linter.unusedVariables false
set_option linter.unusedSimpArgs false
theorem takeH {P : Program} {md : Region.Mode} {ops : Array Oper} {Q : Exit → Act → World → Prop} {S : World → Prop} {i d : Nat} {oi : Oper} {v : Value} {fuel : Nat} {listed : Array Bool} {a : Act} {w : World} (hi : ops[i]? = some oi) (hd : oi.dst = some d)
    (hs : Region.noSelect ops = true) (hf : Region.free md ops listed i = true) (hr : (Region.ready md ops listed).contains i = true)
    (hQ : ∀ c a w, Q (.panic c) (a.put oi.dst v) w → Q (.panic c) a w) (hy : YieldsIf P ops S oi v a) (hS : S w)
    (h : wpAnyH P md ops Q S fuel (listed.setIfInBounds i true) { a with tmps := a.tmps.setIfInBounds d v } w) : wpAnyH P md ops Q S (fuel + 1) listed a w :=
  wpAnyH_take hi hs hf hr hQ hy hS (by rw [hd]; exact h)
theorem min2_w (k k' : IntKind) (x y : Int) : Builtin.min2 (.int k x) (.int k' y) = pure (.int k (min x y)) := by
  rw [min2_int]; congr 2; split <;> omega
theorem max2_w (k k' : IntKind) (x y : Int) : Builtin.max2 (.int k x) (.int k' y) = pure (.int k (max x y)) := by
  rw [max2_int]; congr 2; split <;> omega
attribute [local go_sem] min2_w max2_w min_two max_two
theorem take_src {w : World} {g gb c : Nat} {T : TypeId} {l : List E4} {a b : Int} (h : IsQ w g T (.slice (some ⟨gb, 0, none⟩) l.length c) l a b) (m : Nat) : SrcE w (some ⟨gb, 0, none⟩) (l.take m) := by
  rcases own_form h.row with ⟨h1, _⟩ | ⟨gb', c', h1, _, h3⟩
  · cases h1
  · injection h1 with h1
    injection h1 with h1
    injection h1 with h1
    subst h1
    refine .inr ⟨_, rfl, fun j u hj => ?_⟩
    have e : (⟨gb, 0, none⟩ : Addr).add j = ⟨gb, j, none⟩ := by unfold Addr.add; split <;> simp_all
    rw [e]
    rw [← fe_take, List.getElem?_take] at hj
    split at hj
    · exact h3 j u hj
    · cases hj
end Go.Proofs.YtjjjinpmflghmaaGreat.Keys
