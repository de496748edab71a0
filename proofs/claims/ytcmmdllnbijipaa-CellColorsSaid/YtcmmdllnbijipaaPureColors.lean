/- The plain law of CellColors. Conditions: those in each theorem. -/
import Derived.Test.YtcmmdllnbijipaaPureCellSgr
namespace Go.Proofs.Ytcmmdllnbijipaa.Pure
open Go.RowKit Go.Proofs.Ytcmmdllnbijipaa.PCellSgr Go.Proofs.YtcmmdllnbijipaaW.PrintWords Go.Proofs.YtcmmdllnbijipaaW.PrintLast Go.Proofs.YtcmmdllnbijipaaW.PrintMore

theorem sgr_wide {a b : At} {l : List Int} {q : Int} (hl : l ≠ []) (h : rd l 0 = 38 ∨ rd l 0 = 48) (hw : cell_wide.f 48 a.1 a.2.1 a.2.2.1 a.2.2.2.1 a.2.2.2.2 l = some (b.1, b.2.1, b.2.2.1, b.2.2.2.1, b.2.2.2.2, q)) (hq : (l.length : Int) ≤ q) :
    cell_Sgr.f 50 a.1 a.2.1 a.2.2.1 a.2.2.2.1 a.2.2.2.2 l = some b := by
  have h0 := List.length_pos_iff.2 hl
  have hm : mn q (l.length : Int) = (l.length : Int) := by unfold mn; omega
  have hj : cell_Sgr.j1 49 l 1 true a.1 a.2.1 a.2.2.1 a.2.2.2.1 a.2.2.2.2 = some b := by
    simp only [cell_Sgr.j1]
    rw [if_pos trivial, hw]
    simp only [Option.bind_some]
    rw [hm, if_pos (by omega), if_pos (by omega), Int.toNat_natCast, List.drop_length]
    exact l0_nil 47 b
  rw [sgr_cons hl, cell_Sgr.l0, if_pos (by omega), if_pos (by omega)]
  by_cases h38 : rd l 0 = 38
  · rw [if_pos h38]; exact hj
  · rw [if_neg h38, show (rd l 0 == 48) = true by simp; omega]; exact hj
theorem sgr_one (a : At) (n : Int) (h1 : n ≠ 38) (h2 : n ≠ 48) : cell_Sgr.f 50 a.1 a.2.1 a.2.2.1 a.2.2.2.1 a.2.2.2.2 [n] = some (O a n) := by
  rw [sgr_cons (by simp), l0_one 48 a n [] h1 h2 (by omega)]
  exact l0_nil 47 _
theorem colV_low {k : Int} (h0 : 0 ≤ k) (h1 : k < 16) : colV (if k < 8 then 30 + k else 82 + k) 30 = (k + 1, true) := by
  unfold colV
  by_cases h : k < 8
  · rw [if_pos h, if_pos (by omega)]
    simp; omega
  · rw [if_neg h, if_neg (by omega), if_pos (by omega)]
    simp; omega
theorem colV_low10 {k : Int} (h0 : 0 ≤ k) (h1 : k < 16) : colV ((if k < 8 then 30 + k else 82 + k) + 10) 30 = (0, false) ∧ colV ((if k < 8 then 30 + k else 82 + k) + 10) 40 = (k + 1, true) := by
  unfold colV
  by_cases h : k < 8
  · rw [if_pos h, if_neg (by omega), if_neg (by omega), if_neg (by omega), if_pos (by omega)]
    simp; omega
  · rw [if_neg h, if_neg (by omega), if_neg (by omega), if_neg (by omega), if_neg (by omega), if_pos (by omega)]
    simp; omega
theorem col1 (a : At) {k low : Int} (h0 : 0 ≤ k) (h1 : k < 16) (hl : low = if k < 8 then 30 + k else 82 + k) : cell_Sgr.f 50 a.1 a.2.1 a.2.2.1 a.2.2.2.1 a.2.2.2.2 [low] = some (k + 1, a.2) := by
  have e := colV_low h0 h1
  rw [← hl] at e
  have hr : low ≠ 38 ∧ low ≠ 48 := by rw [hl]; split <;> omega
  rw [sgr_one a low hr.1 hr.2]
  unfold O
  rw [e]
  simp
theorem col2 (a : At) {k low : Int} (h0 : 0 ≤ k) (h1 : k < 16) (hl : low = if k < 8 then 30 + k else 82 + k) : cell_Sgr.f 50 a.1 a.2.1 a.2.2.1 a.2.2.2.1 a.2.2.2.2 [low + 10] = some (a.1, k + 1, a.2.2) := by
  obtain ⟨e1, e2⟩ := colV_low10 h0 h1
  rw [← hl] at e1 e2
  have hr : low + 10 ≠ 38 ∧ low + 10 ≠ 48 := by rw [hl]; split <;> omega
  rw [sgr_one a _ hr.1 hr.2]
  unfold O
  rw [e1, e2]
  simp
theorem col3 (a : At) {k : Int} (h0 : 0 ≤ k) (h1 : k < 16) : cell_Sgr.f 50 a.1 a.2.1 a.2.2.1 a.2.2.2.1 a.2.2.2.2 [38, 5, k] = some (k + 1, a.2) :=
  sgr_wide (q := 3) (by simp) (Or.inl rfl) (by
    have e : rd [38, 5, k] 2 = k := rfl
    have e0 : rd [38, 5, k] 0 = 38 := rfl
    have e1 : rd [38, 5, k] 1 = 5 := rfl
    simp [cell_wide.f, cell_wide.j0, e, e0, e1, h0, h1, c_wrap (x := k + 1) (by omega) (by omega)]) (by simp)
theorem col4 (a : At) {k : Int} (h0 : 0 ≤ k) (h1 : k < 16) : cell_Sgr.f 50 a.1 a.2.1 a.2.2.1 a.2.2.2.1 a.2.2.2.2 [48, 5, k] = some (a.1, k + 1, a.2.2) :=
  sgr_wide (q := 3) (by simp) (Or.inr rfl) (by
    have e : rd [48, 5, k] 2 = k := rfl
    have e0 : rd [48, 5, k] 0 = 48 := rfl
    have e1 : rd [48, 5, k] 1 = 5 := rfl
    simp [cell_wide.f, cell_wide.j0, e, e0, e1, h0, h1, c_wrap (x := k + 1) (by omega) (by omega)]) (by simp)
theorem col5 (a : At) : cell_Sgr.f 50 a.1 a.2.1 a.2.2.1 a.2.2.2.1 a.2.2.2.2 [39] = some (0, a.2) := sgr_one a 39 (by decide) (by decide)
theorem col6 (a : At) {k : Int} (h0 : 0 ≤ k) (h1 : k < 16) : cell_Sgr.f 50 a.1 a.2.1 a.2.2.1 a.2.2.2.1 a.2.2.2.2 [38, 5, 16 + k] = some a :=
  sgr_wide (q := 3) (by simp) (Or.inl rfl) (by
    have e : rd [38, 5, 16 + k] 2 = 16 + k := rfl
    have e1 : rd [38, 5, 16 + k] 1 = 5 := rfl
    have h2 : ¬ 16 + k < 16 := by omega
    have h3 : 0 ≤ 16 + k := by omega
    simp [cell_wide.f, cell_wide.j0, e, e1, h2, h3]) (by simp)
theorem col7 (a : At) : cell_Sgr.f 50 a.1 a.2.1 a.2.2.1 a.2.2.2.1 a.2.2.2.2 [38, 2, 1, 4, 7] = some a :=
  sgr_wide (q := 5) (by simp) (Or.inl rfl) (by simp [cell_wide.f, show rd [38, 2, 1, 4, 7] 1 = 2 from rfl]) (by simp)
theorem col8 (a : At) : cell_Sgr.f 50 a.1 a.2.1 a.2.2.1 a.2.2.2.1 a.2.2.2.2 [38] = some a :=
  sgr_wide (q := 1) (by simp) (Or.inl rfl) (by simp [cell_wide.f]) (by simp)
theorem col9 (a : At) {k : Int} (h0 : 0 ≤ k) (h1 : k < 16) : cell_Sgr.f 50 a.1 a.2.1 a.2.2.1 a.2.2.2.1 a.2.2.2.2 [200 + k] = some a := by
  have e1 : colV (200 + k) 30 = (0, false) := by unfold colV; rw [if_neg (by omega), if_neg (by omega), if_neg (by omega)]
  have e2 : colV (200 + k) 40 = (0, false) := by unfold colV; rw [if_neg (by omega), if_neg (by omega), if_neg (by omega)]
  rw [sgr_one a (200 + k) (by omega) (by omega)]
  unfold O
  rw [e1, e2, if_neg (by simp), if_neg (by simp), if_neg (by omega), if_neg (by omega), if_neg (by omega), if_neg (by omega), if_neg (by omega), if_neg (by omega), if_neg (by omega)]
theorem col10 (a : At) : cell_Sgr.f 50 a.1 a.2.1 a.2.2.1 a.2.2.2.1 a.2.2.2.2 [38, 5] = some a :=
  sgr_wide (q := 3) (by simp) (Or.inl rfl) (by simp [cell_wide.f, cell_wide.j0, show rd [38, 5] 1 = 5 from rfl]) (by simp)
end Go.Proofs.Ytcmmdllnbijipaa.Pure
