/- The plain law of CellSgr. Conditions: those in each theorem. -/
import Derived.Test.YtcmmdllnbijipaaPCellSgrx
namespace Go.Proofs.Ytcmmdllnbijipaa.Pure
open Go.RowKit Go.Proofs.Ytcmmdllnbijipaa.PCellSgr Go.Proofs.YtcmmdllnbijipaaW.PrintWords Go.Proofs.YtcmmdllnbijipaaW.PrintLast Go.Proofs.YtcmmdllnbijipaaW.PrintMore

abbrev At : Type := Int × Int × Bool × Bool × Bool
theorem c_wrap {x : Int} (h : -9223372036854775808 ≤ x) (h' : x ≤ 9223372036854775807) : wrap64 x = x := by unfold wrap64; omega
/-- A color's number. -/
def colV (n b : Int) : Int × Bool :=
  if b ≤ n ∧ n < b + 8 then (n - b + 1, true) else if b + 60 ≤ n ∧ n < b + 68 then (n - b - 60 + 1 + 8, true) else if n = b + 8 + 1 then (0, true) else (0, false)
/-- A look that is changed by one number. -/
def O (a : At) (n : Int) : At :=
  if (colV n 30).2 = true then ((colV n 30).1, a.2) else if (colV n 40).2 = true then (a.1, (colV n 40).1, a.2.2)
  else if n = -1 ∨ n = 0 then (0, 0, false, false, false) else if n = 1 then (a.1, a.2.1, true, a.2.2.2.1, a.2.2.2.2) else if n = 22 then (a.1, a.2.1, false, a.2.2.2.1, a.2.2.2.2)
  else if n = 4 then (a.1, a.2.1, a.2.2.1, true, a.2.2.2.2) else if n = 24 then (a.1, a.2.1, a.2.2.1, false, a.2.2.2.2) else if n = 7 then (a.1, a.2.1, a.2.2.1, a.2.2.2.1, true) else if n = 27 then (a.1, a.2.1, a.2.2.1, a.2.2.2.1, false) else a
def V (a : At) : Prop := 0 ≤ a.1 ∧ a.1 ≤ 16 ∧ 0 ≤ a.2.1 ∧ a.2.1 ≤ 16
theorem colV_bounds (n b : Int) : 0 ≤ (colV n b).1 ∧ (colV n b).1 ≤ 16 := by
  unfold colV
  split
  · constructor <;> simp only <;> omega
  · split
    · constructor <;> simp only <;> omega
    · split <;> simp
theorem V_O {a : At} (h : V a) (n : Int) : V (O a n) := by
  obtain ⟨h1, h2, h3, h4⟩ := h
  have c3 := colV_bounds n 30
  have c4 := colV_bounds n 40
  unfold O V
  repeat' split
  all_goals first | exact ⟨c3.1, c3.2, h3, h4⟩ | exact ⟨h1, h2, c4.1, c4.2⟩ | exact ⟨h1, h2, h3, h4⟩ | exact ⟨by decide, by decide, by decide, by decide⟩
theorem color_ok (n b : Int) (k : Nat) (hk : 2 ≤ k) (h0 : 0 ≤ b) (h1 : b ≤ 100) : cell_color.f k n b = some (colV n b) := by
  obtain ⟨k, rfl⟩ : ∃ m, k = m + 2 := ⟨k - 2, by omega⟩
  unfold cell_color.f
  have e1 : wrap64 (b + 8) = b + 8 := c_wrap (by omega) (by omega)
  have e2 : wrap64 (b + 60) = b + 60 := c_wrap (by omega) (by omega)
  have e3 : wrap64 (b + 60 + 8) = b + 60 + 8 := c_wrap (by omega) (by omega)
  have e4 : wrap64 (b + 8 + 1) = b + 8 + 1 := c_wrap (by omega) (by omega)
  simp only [cell_color.j0, cell_color.j1, e1, e2, e3, e4]
  unfold colV
  by_cases c1 : b ≤ n ∧ n < b + 8
  · rw [if_pos c1, if_pos (by omega), if_pos (by simp; omega), c_wrap (x := n - b) (by omega) (by omega), c_wrap (x := n - b + 1) (by omega) (by omega)]
  · rw [if_neg c1]
    by_cases c2 : b + 60 ≤ n ∧ n < b + 68
    · rw [if_pos c2, if_pos (show n ≥ b by omega), if_neg (by simp; omega), if_pos (by omega), if_pos (by simp; omega), c_wrap (x := n - b) (by omega) (by omega), c_wrap (x := n - b - 60) (by omega) (by omega), c_wrap (x := n - b - 60 + 1) (by omega) (by omega), c_wrap (by omega) (by omega)]
    · rw [if_neg c2]
      by_cases c3 : n ≥ b
      · rw [if_pos c3, if_neg (by simp; omega)]
        by_cases c4 : n ≥ b + 60
        · rw [if_pos c4, if_neg (by simp; omega)]
          by_cases c5 : n = b + 8 + 1
          · rw [if_pos c5, if_pos c5]
          · rw [if_neg c5, if_neg c5]
        · rw [if_neg c4, if_neg (by simp)]
          by_cases c5 : n = b + 8 + 1
          · rw [if_pos c5, if_pos c5]
          · rw [if_neg c5, if_neg c5]
      · rw [if_neg c3, if_neg (by simp), if_neg (by omega), if_neg (by simp), if_neg (by omega), if_neg (by omega)]
theorem one_ok (a : At) (n : Int) (k : Nat) (hk : 3 ≤ k) : cell_one.f k a.1 a.2.1 a.2.2.1 a.2.2.2.1 a.2.2.2.2 n = some (O a n) := by
  obtain ⟨k, rfl⟩ : ∃ m, k = m + 1 := ⟨k - 1, by omega⟩
  unfold cell_one.f
  rw [color_ok n 30 _ (by omega) (by omega) (by omega), color_ok n 40 _ (by omega) (by omega) (by omega)]
  simp only [Option.bind_some, cell_one.j0]
  unfold O
  by_cases c1 : (colV n 30).2 = true
  · rw [if_pos c1, if_pos c1]
  · rw [if_neg c1, if_neg c1]
    by_cases c2 : (colV n 40).2 = true
    · rw [if_pos c2, if_pos c2]
    · rw [if_neg c2, if_neg c2]
      by_cases c3 : n = -1
      · rw [if_pos c3, if_pos (by simp [c3]), if_pos (Or.inl c3)]
      · rw [if_neg c3]
        by_cases c4 : n = 0
        · rw [if_pos (by simp [c4]), if_pos (Or.inr c4)]
        · rw [if_neg (by simp [c4]), if_neg (show ¬ (n = -1 ∨ n = 0) by omega)]
          repeat' split
          all_goals first | rfl | (exfalso; omega)
theorem wide_ok (a : At) (l : List Int) (_hl : 0 < l.length) (h : V a) (k : Nat) (hk : 1 ≤ k) :
    ∃ (b : At) (n : Int), cell_wide.f k a.1 a.2.1 a.2.2.1 a.2.2.2.1 a.2.2.2.2 l = some (b.1, b.2.1, b.2.2.1, b.2.2.2.1, b.2.2.2.2, n) ∧ V b ∧ 1 ≤ n := by
  obtain ⟨k, rfl⟩ : ∃ m, k = m + 1 := ⟨k - 1, by omega⟩
  unfold cell_wide.f
  by_cases c1 : (l.length : Int) < 2
  · rw [if_pos c1]; exact ⟨a, 1, rfl, h, by omega⟩
  rw [if_neg c1, if_pos (by omega)]
  by_cases c2 : rd l 1 = 2
  · rw [if_pos c2]; exact ⟨a, 5, rfl, h, by omega⟩
  rw [if_neg c2]
  by_cases c3 : rd l 1 = 5
  · rw [if_pos c3]
    have no : ∃ (b : At) (n : Int), cell_wide.j0 (k + 1) l false a.1 a.2.1 a.2.2.1 a.2.2.2.1 a.2.2.2.2 = some (b.1, b.2.1, b.2.2.1, b.2.2.2.1, b.2.2.2.2, n) ∧ V b ∧ 1 ≤ n := by
      simp only [cell_wide.j0]
      rw [if_neg (by simp)]
      exact ⟨a, 3, rfl, h, by omega⟩
    by_cases c4 : (l.length : Int) > 2
    · rw [if_pos c4, if_pos (by omega)]
      by_cases c5 : rd l 2 ≥ 0
      · rw [if_pos c5]
        by_cases c6 : rd l 2 < 16
        · rw [decide_eq_true c6]
          simp only [cell_wide.j0]
          rw [if_pos trivial, if_pos (by omega), c_wrap (x := rd l 2 + 1) (by omega) (by omega)]
          obtain ⟨h1, h2, h3, h4⟩ := h
          by_cases c7 : rd l 0 = 38
          · rw [if_pos c7, if_pos (by omega)]
            exact ⟨(rd l 2 + 1, a.2), 3, rfl, ⟨by simp only; omega, by simp only; omega, h3, h4⟩, by omega⟩
          · rw [if_neg c7, if_pos (by omega)]
            exact ⟨(a.1, rd l 2 + 1, a.2.2), 3, rfl, ⟨h1, h2, by simp only; omega, by simp only; omega⟩, by omega⟩
        · rw [decide_eq_false c6]; exact no
      · rw [if_neg c5]; exact no
    · rw [if_neg c4]; exact no
  · rw [if_neg c3]; exact ⟨a, 1, rfl, h, by omega⟩
/-- A look that is changed by numbers, where none takes others along. -/
theorem l0_nil (k : Nat) (a : At) : cell_Sgr.l0 (k + 1) [] a.1 a.2.1 a.2.2.1 a.2.2.2.1 a.2.2.2.2 = some a := by
  simp [cell_Sgr.l0]
theorem l0_one (k : Nat) (a : At) (n : Int) (m : List Int) (h1 : n ≠ 38) (h2 : n ≠ 48) (hk : 5 ≤ k) :
    cell_Sgr.l0 (k + 2) (n :: m) a.1 a.2.1 a.2.2.1 a.2.2.2.1 a.2.2.2.2 = cell_Sgr.l0 k m (O a n).1 (O a n).2.1 (O a n).2.2.1 (O a n).2.2.2.1 (O a n).2.2.2.2 := by
  have e0 : rd (n :: m) 0 = n := rfl
  have el : ((n :: m).length : Int) = (m.length : Int) + 1 := by simp
  simp only [cell_Sgr.l0, cell_Sgr.j1, e0, el]
  rw [if_pos (by omega), if_pos (by omega), if_neg h1, if_neg (by simp [h2]), if_pos (by omega), one_ok a n k (by omega)]
  simp only [Option.bind_some]
  have e1 : mn 1 ((m.length : Int) + 1) = 1 := by unfold mn; omega
  rw [e1, if_pos (by omega), if_pos (by omega)]
  rfl
theorem l0_fold (m : List Int) : ∀ (k : Nat) (a : At), (∀ n ∈ m, n ≠ 38 ∧ n ≠ 48) → 2 * m.length + 6 ≤ k →
    cell_Sgr.l0 k m a.1 a.2.1 a.2.2.1 a.2.2.2.1 a.2.2.2.2 = some (m.foldl O a) := by
  induction m with
  | nil =>
    intro k a _ hk
    obtain ⟨k, rfl⟩ : ∃ j, k = j + 1 := ⟨k - 1, by omega⟩
    exact l0_nil k a
  | cons n m ih =>
    intro k a h hk
    simp only [List.length_cons] at hk
    obtain ⟨k, rfl⟩ : ∃ j, k = j + 2 := ⟨k - 2, by omega⟩
    have hn := h n (by simp)
    rw [l0_one k a n m hn.1 hn.2 (by omega), ih k (O a n) (fun x hx => h x (by simp [hx])) (by omega)]
    rfl
theorem l0_ok (L : Nat) : ∀ (l : List Int) (k : Nat) (a : At), l.length ≤ L → 2 * L + 6 ≤ k → V a →
    ∃ b : At, cell_Sgr.l0 k l a.1 a.2.1 a.2.2.1 a.2.2.2.1 a.2.2.2.2 = some b ∧ V b := by
  induction L with
  | zero =>
    intro l k a hl hk h
    obtain ⟨k, rfl⟩ : ∃ j, k = j + 1 := ⟨k - 1, by omega⟩
    obtain rfl : l = [] := List.eq_nil_of_length_eq_zero (by omega)
    exact ⟨a, l0_nil k a, h⟩
  | succ L ih =>
    intro l k a hl hk h
    obtain ⟨k, rfl⟩ : ∃ j, k = j + 2 := ⟨k - 2, by omega⟩
    match l, hl with
    | [], _ => exact ⟨a, l0_nil (k + 1) a, h⟩
    | n :: m, hl =>
      simp only [List.length_cons] at hl
      by_cases hw : n = 38 ∨ n = 48
      · have e0 : rd (n :: m) 0 = n := rfl
        have el : ((n :: m).length : Int) = (m.length : Int) + 1 := by simp
        obtain ⟨b, q, hb, hv, hq⟩ := wide_ok a (n :: m) (by simp) h k (by omega)
        have hm1 : (1 : Int) ≤ mn q ((m.length : Int) + 1) ∧ mn q ((m.length : Int) + 1) ≤ (m.length : Int) + 1 := by unfold mn; omega
        obtain ⟨c, hc, hcv⟩ := ih ((n :: m).drop (mn q ((m.length : Int) + 1)).toNat) k b (by simp only [List.length_drop, List.length_cons]; omega) (by omega) hv
        refine ⟨c, ?_, hcv⟩
        have hj : cell_Sgr.j1 (k + 1) (n :: m) 1 true a.1 a.2.1 a.2.2.1 a.2.2.2.1 a.2.2.2.2 = some c := by
          simp only [cell_Sgr.j1, el]
          rw [if_pos trivial, hb]
          simp only [Option.bind_some]
          rw [if_pos (by omega), if_pos (by omega)]
          exact hc
        rw [cell_Sgr.l0, e0, el, if_pos (by omega), if_pos (by omega)]
        by_cases h38 : n = 38
        · rw [if_pos h38]; exact hj
        · rw [if_neg h38, show (n == 48) = true by simp; omega]; exact hj
      · obtain ⟨b, hb, hv⟩ := ih m k (O a n) (by omega) (by omega) (V_O h n)
        exact ⟨b, by rw [l0_one k a n m (by omega) (by omega) (by omega)]; exact hb, hv⟩
theorem l0_mono {j k : Nat} (h : j ≤ k) {l : List Int} {a b : At} (e : cell_Sgr.l0 j l a.1 a.2.1 a.2.2.1 a.2.2.2.1 a.2.2.2.2 = some b) : cell_Sgr.l0 k l a.1 a.2.1 a.2.2.1 a.2.2.2.1 a.2.2.2.2 = some b := by
  induction h with
  | refl => exact e
  | step _ ih => exact (cell_Sgr.mono_l _).1 _ _ _ _ _ _ _ ih
theorem zero_one (a : At) : O a 0 = (0, 0, false, false, false) := rfl
theorem sgr_cons {k : Nat} {a : At} {l : List Int} (h : l ≠ []) : cell_Sgr.f k a.1 a.2.1 a.2.2.1 a.2.2.2.1 a.2.2.2.2 l = cell_Sgr.l0 k l a.1 a.2.1 a.2.2.1 a.2.2.2.1 a.2.2.2.2 := by
  unfold cell_Sgr.f
  rw [if_neg (by have := List.length_pos_iff.2 h; omega)]
theorem V_zero : V ((0, 0, false, false, false) : At) := ⟨by decide, by decide, by decide, by decide⟩
theorem sgr_ok (l : List Int) (k : Nat) (a : At) (hk : 2 * l.length + 6 ≤ k) (h : V a) : ∃ b : At, cell_Sgr.f k a.1 a.2.1 a.2.2.1 a.2.2.2.1 a.2.2.2.2 l = some b ∧ V b := by
  by_cases e : l = []
  · subst e; exact ⟨_, rfl, V_zero⟩
  · rw [sgr_cons e]; exact l0_ok l.length l k a (Nat.le_refl _) hk h
theorem alive_ok (k : Nat) (hk : 20 ≤ k) : pontoonlaw14_alive.f k = some true :=
  at_rounds pontoonlaw14_alive.mono hk (show pontoonlaw14_alive.f 20 = some true by decide +kernel)

theorem sgr_fold (m : List Int) (d : Nat) : ∀ (k : Nat) (i : Nat) (a y : At), (∀ n ∈ m.take i, n ≠ 38 ∧ n ≠ 48) → y = (m.take i).foldl O a → i + d = m.length → m.length ≤ 40 → d + 100 < k →
    pontoonlaw14_CellSgr.l0 k m (i : Int) a.1 a.2.1 a.2.2.1 a.2.2.2.1 a.2.2.2.2 y.1 y.2.1 y.2.2.1 y.2.2.2.1 y.2.2.2.2 = some true := by
  induction d with
  | zero =>
    intro k i a y ht hy hi hm hk
    obtain ⟨k, rfl⟩ : ∃ j, k = j + 1 := ⟨k - 1, by omega⟩
    have hall : m.take i = m := List.take_of_length_le (by omega)
    rw [hall] at ht hy
    simp only [pontoonlaw14_CellSgr.l0]
    rw [if_neg (by omega)]
    by_cases h0 : (m.length : Int) = 0
    · rw [if_pos h0]
    · rw [if_neg h0, sgr_cons (by intro e; subst e; exact h0 rfl), l0_fold m k a ht (by omega), ← hy]
      simp
  | succ d ih =>
    intro k i a y ht hy hi hm hk
    obtain ⟨k, rfl⟩ : ∃ j, k = j + 1 := ⟨k - 1, by omega⟩
    have hlt : i < m.length := by omega
    have hr : rd m (i : Int) = m[i] := by simp [rd, hlt]
    have htk : m.take (i + 1) = m.take i ++ [m[i]] := List.take_succ_eq_append_getElem hlt
    simp only [pontoonlaw14_CellSgr.l0]
    rw [if_pos (by omega), if_pos (by omega), hr]
    by_cases h1 : m[i] = 38
    · rw [if_pos h1]
    rw [if_neg h1]
    by_cases h2 : m[i] = 48
    · rw [if_pos h2]
    rw [if_neg h2, sgr_cons (by simp), l0_fold [m[i]] k y (by intro n hn; simp at hn; subst hn; exact ⟨h1, h2⟩) (by simp; omega)]
    simp only [Option.bind_some, List.foldl_cons, List.foldl_nil]
    rw [c_wrap (x := (i : Int) + 1) (by omega) (by omega)]
    have hz := ih k (i + 1) a (O y m[i]) (by
      intro n hn
      rw [htk] at hn
      rcases List.mem_append.1 hn with hn | hn
      · exact ht n hn
      · simp at hn; subst hn; exact ⟨h1, h2⟩) (by rw [htk, List.foldl_append, ← hy]; rfl) (by omega) hm (by omega)
    simpa using hz

theorem CellSgr_pure (a : At) (l m : List Int) : pontoonlaw14_CellSgr.f 400 a.1 a.2.1 a.2.2.1 a.2.2.2.1 a.2.2.2.2 l m = some true := by
  unfold pontoonlaw14_CellSgr.f
  have dead : pontoonlaw14_CellSgr.j0 400 l m true a.1 a.2.1 a.2.2.1 a.2.2.2.1 a.2.2.2.2 = some true := by
    simp only [pontoonlaw14_CellSgr.j0]
    rw [if_pos trivial, alive_ok _ (by omega)]; rfl
  by_cases h1 : (l.length : Int) > 40
  · rw [if_pos h1]; exact dead
  rw [if_neg h1]
  by_cases h2 : (m.length : Int) > 40
  · rw [if_pos h2]; exact dead
  rw [if_neg h2]
  by_cases hv : V a
  · have e : pontoonref12_ValidAttr.f a.1 a.2.1 a.2.2.1 a.2.2.2.1 a.2.2.2.2 = some true := by
      obtain ⟨v1, v2, v3, v4⟩ := hv
      unfold pontoonref12_ValidAttr.f
      rw [if_pos v1, if_pos v2, if_pos v3, decide_eq_true v4]
    rw [e, alive_ok _ (by omega)]
    simp only [Option.bind_some, Bool.not_true]
    rw [if_pos trivial]
    simp only [pontoonlaw14_CellSgr.j0]
    rw [if_neg (by simp)]
    obtain ⟨x, hx, hxv⟩ := sgr_ok l 399 a (by omega) hv
    rw [hx]
    simp only [Option.bind_some]
    have ex : cell_Valid.f x.1 x.2.1 x.2.2.1 x.2.2.2.1 x.2.2.2.2 = some true := by
      obtain ⟨v1, v2, v3, v4⟩ := hxv
      unfold cell_Valid.f
      rw [if_pos v1, if_pos v2, if_pos v3, decide_eq_true v4]
    rw [ex]
    simp only [Option.bind_some]
    rw [if_pos trivial]
    have fin : pontoonlaw14_CellSgr.j1 399 m false a.1 a.2.1 a.2.2.1 a.2.2.2.1 a.2.2.2.2 = some true := by
      simp only [pontoonlaw14_CellSgr.j1]
      rw [if_neg (by simp)]
      have := sgr_fold m m.length 398 0 a a (by simp) (by simp) (by omega) (by omega) (by omega)
      exact this
    by_cases h3 : (m.length : Int) > 0
    · rw [if_pos h3]
      simp only [List.length_cons, List.length_nil]
      rw [if_pos (by omega)]
      obtain ⟨z, hz, hzv⟩ := sgr_ok m 397 (0, 0, false, false, false) (by omega) V_zero
      have hne : m ≠ [] := by intro e; subst e; simp at h3
      have hz' := hz
      rw [sgr_cons hne] at hz'
      have e1 : cell_Sgr.f 399 x.1 x.2.1 x.2.2.1 x.2.2.2.1 x.2.2.2.2 ([0] ++ m) = some z := by
        rw [sgr_cons (by simp)]
        show cell_Sgr.l0 (397 + 2) (0 :: m) x.1 x.2.1 x.2.2.1 x.2.2.2.1 x.2.2.2.2 = some z
        rw [l0_one 397 x 0 m (by decide) (by decide) (by omega), zero_one]
        exact hz'
      have e2 : cell_Sgr.f 399 0 0 false false false m = some z := by
        have := sgr_cons (k := 399) (a := (0, 0, false, false, false)) hne
        rw [this]
        exact l0_mono (by omega) hz'
      rw [e1]
      simp only [Option.bind_some]
      rw [e2]
      simp only [Option.bind_some]
      simpa using fin
    · rw [if_neg h3]
      simpa using fin
  · have e : pontoonref12_ValidAttr.f a.1 a.2.1 a.2.2.1 a.2.2.2.1 a.2.2.2.2 = some false := by
      unfold pontoonref12_ValidAttr.f
      by_cases v1 : a.1 ≥ 0
      · rw [if_pos v1]
        by_cases v2 : a.1 ≤ 16
        · rw [if_pos v2]
          by_cases v3 : a.2.1 ≥ 0
          · rw [if_pos v3, decide_eq_false (fun v4 => hv ⟨v1, v2, v3, v4⟩)]
          · rw [if_neg v3]
        · rw [if_neg v2]
      · rw [if_neg v1]
    rw [e]
    simp only [Option.bind_some]
    rw [if_neg (by simp)]
    exact dead

end Go.Proofs.Ytcmmdllnbijipaa.Pure
