/- Plain laws for WindowOnce: numbers in order, and a map of ones. Conditions: those in each theorem. -/
import Derived.Test.YtgilccdajlpeaaaPureWindowFar
import Derived.Maps.Views
namespace Go.Proofs.Ytgilccdajlpeaaa.Once
open Go.RowKit Go.Maps Go.Proofs.Ytgilccdajlpeaaa.PWindowFar Go.Proofs.Ytgilccdajlpeaaa.Pure Go.Proofs.YtgilccdajlpeaaaW.PrintWords Go.Proofs.YtgilccdajlpeaaaW.PrintLast Go.Proofs.YtgilccdajlpeaaaW.PrintMore
set_option linter.unusedVariables false

/-- All that is not too old came. -/
def WS (t s : Nat) : Prop := s < 2 ^ 64 ∧ ∀ d : Nat, d < 64 → d < t → s.testBit d = true
theorem ws_zero : WS 0 0 := ⟨by decide, fun d _ h => absurd h (Nat.not_lt_zero d)⟩
theorem mk_new {t s : Nat} (h : WS t s) (ht : t ≤ 1000) : ∃ s' : Nat, mk (t : Int) s ((t : Int) + 1) = ((t : Int) + 1, s', true) ∧ WS (t + 1) s' := by
  obtain ⟨hs, hb⟩ := h
  have hf : fr (t : Int) s ((t : Int) + 1) = true := by
    unfold fr
    rw [if_neg (by omega), if_neg (by omega), if_pos (by omega)]
  refine ⟨(s <<< 1) % 2 ^ 64 ||| 1, ?_, ?_, ?_⟩
  · unfold mk
    have e : (t : Int) + 1 - t = 1 := by omega
    rw [if_pos hf, if_neg (by omega), e, if_pos (by omega)]
    rfl
  · exact Nat.or_lt_two_pow (Nat.mod_lt _ (by decide)) (by decide)
  · intro d hd hdt
    rw [Nat.testBit_or, Nat.testBit_mod_two_pow, Nat.testBit_shiftLeft]
    cases d with
    | zero => simp
    | succ d =>
      have := hb d (by omega) (by omega)
      simp only [Nat.add_sub_cancel, this, decide_eq_true hd]
      simp
theorem mk_old {t s : Nat} (h : WS t s) {x : Int} (hx : x ≤ t) (h6 : (t : Int) - x < 64) : mk (t : Int) s x = ((t : Int), s, false) := by
  obtain ⟨hs, hb⟩ := h
  have hf : fr (t : Int) s x = false := by
    unfold fr
    by_cases h1 : x < 1
    · rw [if_pos h1]
    · by_cases h2 : x > 4611686018427387904
      · rw [if_neg h1, if_pos h2]
      · rw [if_neg h1, if_neg h2, if_neg (by omega), if_pos h6, hb _ (by omega) (by omega)]
        rfl
  unfold mk
  rw [hf, if_neg (by simp)]

/-- What was taken: each number up to i once. -/
def D : Nat → DataW Unit
  | 0 => .map []
  | i + 1 => (D i).put (.int .i64 ((i : Int) + 1)) (.lit (.int .i64 1))
theorem isKey (x : Int) : WideAt.IsKeyLit (.int .i64 x) := by trivial
theorem D_tidy : ∀ i, Tidy (D i)
  | 0 => tidy_empty
  | i + 1 => (D_tidy i).put (isKey _) _
theorem lit_ne {x y : Int} (h : x ≠ y) : (Lit.int .i64 x) ≠ .int .i64 y := by
  intro e
  exact h (by injection e)
theorem D_has (x : Int) : ∀ i : Nat, has (D i) (.int .i64 x) = decide (1 ≤ x ∧ x ≤ i)
  | 0 => by
    rw [decide_eq_false (by omega)]; rfl
  | i + 1 => by
    show has ((D i).put _ _) _ = _
    by_cases h : x = (i : Int) + 1
    · subst h
      rw [has_put_same (D_tidy i).isMap (isKey _), decide_eq_true (by omega)]
    · rw [has_put_other (lit_ne h), D_has x i]
      rw [Bool.eq_iff_iff]; simp; omega
theorem D_at (x : Int) : ∀ i : Nat, (D i).atKey (.int .i64 x) (.lit (.int .i64 0)) = .lit (.int .i64 (if 1 ≤ x ∧ x ≤ i then 1 else 0))
  | 0 => by
    rw [if_neg (by omega)]; rfl
  | i + 1 => by
    show ((D i).put _ _).atKey _ _ = _
    by_cases h : x = (i : Int) + 1
    · subst h
      rw [atKey_put_same (D_tidy i).isMap (isKey _), if_pos (by omega)]
    · rw [atKey_put_other (lit_ne h), D_at x i]
      by_cases h1 : 1 ≤ x ∧ x ≤ i
      · rw [if_pos h1, if_pos (by omega)]
      · rw [if_neg h1, if_neg (by omega)]
theorem D_size : ∀ i, Maps.size (D i) = i
  | 0 => rfl
  | i + 1 => by
    show Maps.size ((D i).put _ _) = _
    rw [size_put (D_tidy i), D_has, decide_eq_false (by omega), D_size i]
    simp
/-- One call of Mark in a round: a new number first, then ones that came. -/
theorem once_step {i t s k : Nat} {x : Int} (hS : WS t s) (hi : i ≤ 300) (ht : t = if k = 0 then i else i + 1) (hx : x ≤ (i : Int) + 1) (hx2 : (i : Int) + 1 - x < 64) (h0 : k = 0 → x = (i : Int) + 1) :
    ∃ s' : Nat, mk (t : Int) s x = ((i : Int) + 1, s', decide (k = 0)) ∧ WS (i + 1) s' := by
  by_cases hk : k = 0
  · rw [if_pos hk] at ht
    subst ht
    obtain ⟨s', h1, h2⟩ := mk_new hS (by omega)
    refine ⟨s', ?_, h2⟩
    rw [h0 hk, h1, decide_eq_true hk]
  · rw [if_neg hk] at ht
    subst ht
    refine ⟨s, ?_, hS⟩
    rw [mk_old hS (x := x) (by omega) (by omega), decide_eq_false hk]
    simp
theorem late_ok (i : Nat) (z : Int) (hi : i ≤ 300) : wrap64 ((i : Int) + 1 - (wrap64 (z.tmod 64 + 64)).tmod 64) ≤ (i : Int) + 1 ∧ (i : Int) + 1 - wrap64 ((i : Int) + 1 - (wrap64 (z.tmod 64 + 64)).tmod 64) < 64 := by
  have h1 : -64 < z.tmod 64 := Int.lt_tmod_of_pos z (by decide)
  have h2 : z.tmod 64 < 64 := Int.tmod_lt_of_pos z (by decide)
  generalize z.tmod 64 = a at *
  rw [k_wrap (x := a + 64) (by omega) (by omega)]
  have h3 : 0 ≤ (a + 64).tmod 64 := Int.tmod_nonneg _ (by omega)
  have h4 : (a + 64).tmod 64 < 64 := Int.tmod_lt_of_pos _ (by decide)
  generalize (a + 64).tmod 64 = b at *
  rw [k_wrap (by omega) (by omega)]
  omega
theorem at_new {t : Nat} {c : Int} (h : (D t).atKey (.int .i64 ((t : Int) + 1)) (.lit (.int .i64 0)) = .lit (.int .i64 c)) : c = 0 := by
  rw [D_at, if_neg (by omega)] at h
  injection h with e
  injection e with _ e
  exact e.symm
theorem at_old {t j : Nat} {c : Int} (hj : j < t) (h : (D t).atKey (.int .i64 ((j : Int) + 1)) (.lit (.int .i64 0)) = .lit (.int .i64 c)) : c = 1 := by
  rw [D_at, if_pos (by omega)] at h
  injection h with e
  injection e with _ e
  exact e.symm
end Go.Proofs.Ytgilccdajlpeaaa.Once
