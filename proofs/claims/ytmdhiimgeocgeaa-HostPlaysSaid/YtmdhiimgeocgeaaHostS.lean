/- Short texts, and texts one behind the other, as the laws' book has them. Conditions: those in each theorem. -/
import Derived.Test.YtmdhiimgeocgeaaHostN
namespace Go.Proofs.Ytmdhiimgeocgeaa.Host
open Go.RowKit Go.Proofs.YtmdhiimgeocgeaaW.PrintWords Go.Proofs.YtmdhiimgeocgeaaW.PrintMore Go.Proofs.Ytmdhiimgeocgeaa.PHostPlays
set_option linter.unusedVariables false
set_option linter.unusedSimpArgs false
theorem sumS_eq (ss : List ByteArray) : (joinS ss).size = (ss.map ByteArray.size).sum := by
  have h : ∀ l : List (List UInt8), (Lib.join l []).length = (l.map List.length).sum := by
    intro l
    cases l with
    | nil => rfl
    | cons x l =>
      rw [Lib.join_cons]
      simp [Lib.joinTail, List.length_flatten]
  have e : (joinS ss).size = (Lib.join (ss.map (·.data.toList)) (ByteArray.mk #[]).data.toList).length := rfl
  rw [e]
  show (Lib.join (ss.map (·.data.toList)) []).length = _
  rw [h, List.map_map]
  rfl
def dl (s : ByteArray) : List UInt8 := s.data.toList
theorem dl_len (s : ByteArray) : (dl s).length = s.size := by unfold dl; rw [Array.length_toList]; rfl
theorem dl_ext {a b : ByteArray} (h : dl a = dl b) : a = b := by
  apply ByteArray.ext
  exact Array.toList_inj.1 h
theorem dl_app (a b : ByteArray) : dl (a ++ b) = dl a ++ dl b := by simp [dl]
theorem w_id {x : Int} (h : -9223372036854775808 ≤ x) (h' : x ≤ 9223372036854775807) : wrap64 x = x := by unfold wrap64; omega
/-- One text: what room is left. -/
theorem room_one (k : Nat) (r : Int) (n : Nat) (h0 : 0 ≤ r) (h1 : r ≤ 1000000) : pontoonbook_Room.f (k + 2) r [(n : Int)] = some (if (n : Int) > r then -1 else r - n) := by
  unfold pontoonbook_Room.f
  simp only [pontoonbook_Room.l0]
  have e : rd [(n : Int)] 0 = (n : Int) := by simp [rd]
  rw [if_pos (by simp), if_neg (by omega), if_pos (by omega), e]
  by_cases h : (n : Int) > r
  · rw [if_pos h, if_pos h]
  · rw [if_neg h, if_neg h, w_id (x := r - n) (by omega) (by omega), w_id (x := 0 + 1) (by omega) (by omega), if_neg (by simp)]
theorem short_at (l : List ByteArray) (hl : l.length ≤ 1000) : ∀ (m i : Nat) (r : Int), l.length - i ≤ m → i ≤ l.length → -1 ≤ r → r ≤ 1000000 →
    ∃ b, pontoonbook_Short.l0 (m + 3) r l (i : Int) = some b ∧ (b = true → (((l.drop i).map ByteArray.size).sum : Int) ≤ r) := by
  intro m
  induction m with
  | zero =>
    intro i r h1 h2 h3 h4
    obtain rfl : i = l.length := by omega
    simp only [pontoonbook_Short.l0]
    rw [if_neg (by omega)]
    exact ⟨_, rfl, fun h => by rw [List.drop_length]; simpa using of_decide_eq_true h⟩
  | succ m ih =>
    intro i r h1 h2 h3 h4
    by_cases hlt : i < l.length
    · by_cases hr : r ≥ 0
      · obtain ⟨x, hx⟩ : ∃ x, x = rdOf ByteArray.empty l (i : Int) := ⟨_, rfl⟩
        have hxi : l[i] = x := by rw [hx]; simp [rdOf, hlt]
        have hw : wrap64 ((i : Int) + 1) = ((i + 1 : Nat) : Int) := by rw [w_id (by omega) (by omega)]; rfl
        obtain ⟨b, hb, hb2⟩ := ih (i + 1) (if (x.size : Int) > r then -1 else r - x.size) (by omega) (by omega) (by split <;> omega) (by split <;> omega)
        refine ⟨b, ?_, fun h => ?_⟩
        · show pontoonbook_Short.l0 ((m + 3) + 1) r l (i : Int) = some b
          simp only [pontoonbook_Short.l0]
          rw [if_pos (by omega), if_pos hr, if_pos (by omega), ← hx, show m + 3 = (m + 1) + 2 from rfl, room_one (m + 1) r x.size hr h4, Option.bind_some, hw]
          exact hb
        · have := hb2 h
          rw [List.drop_eq_getElem_cons hlt, hxi, List.map_cons, List.sum_cons]
          have hs : (0 : Int) ≤ (((l.drop (i + 1)).map ByteArray.size).sum : Nat) := Int.natCast_nonneg _
          split at this <;> omega
      · refine ⟨false, ?_, fun h => by cases h⟩
        show pontoonbook_Short.l0 ((m + 3) + 1) r l (i : Int) = some false
        simp only [pontoonbook_Short.l0]
        rw [if_pos (by omega), if_neg hr, decide_eq_false hr]
    · obtain rfl : i = l.length := by omega
      show ∃ b, pontoonbook_Short.l0 ((m + 3) + 1) r l (l.length : Int) = some b ∧ _
      simp only [pontoonbook_Short.l0]
      rw [if_neg (by omega)]
      exact ⟨_, rfl, fun h => by rw [List.drop_length]; simpa using of_decide_eq_true h⟩
theorem short_ok (few room : Nat) (l : List ByteArray) (h1 : few ≤ 1000) (h2 : room ≤ 1000000) : ∃ b, pontoonbook_Short.f (l.length + 3) few room l = some b ∧ (b = true → l.length ≤ few ∧ (l.map ByteArray.size).sum ≤ room) := by
  unfold pontoonbook_Short.f
  by_cases h : (l.length : Int) > few
  · rw [if_pos h]; exact ⟨false, rfl, fun h => by cases h⟩
  · rw [if_neg h]
    obtain ⟨b, hb, hb2⟩ := short_at l (by omega) l.length 0 (room : Int) (by omega) (by omega) (by omega) (by omega)
    refine ⟨b, hb, fun h => ⟨by omega, ?_⟩⟩
    have := hb2 h
    rw [List.drop_zero] at this
    omega
theorem dl_join (l : List ByteArray) : dl (joinS l) = (l.map dl).flatten := by
  show (Lib.join (l.map (·.data.toList)) []) = _
  cases l with
  | nil => rfl
  | cons x l =>
    rw [List.map_cons, Lib.join_cons]
    simp [Lib.joinTail, dl]
    rfl
theorem sum_drop (l : List ByteArray) : ∀ i, ((l.drop i).map ByteArray.size).sum ≤ (l.map ByteArray.size).sum := by
  induction l with
  | nil => intro i; simp
  | cons x l ih =>
    intro i
    cases i with
    | zero => simp
    | succ i => have := ih i; rw [List.drop_succ_cons, List.map_cons, List.sum_cons]; omega
theorem join_at (l : List ByteArray) (hl : l.length ≤ 1000) : ∀ (m i : Nat) (s : ByteArray), l.length - i ≤ m → i ≤ l.length → s.size + ((l.drop i).map ByteArray.size).sum ≤ 9223372036854775807 →
    ∃ r, pontoonbook_Join.l0 (m + 1) l s (i : Int) = some r ∧ dl r = dl s ++ ((l.drop i).map dl).flatten := by
  intro m
  induction m with
  | zero =>
    intro i s h1 h2 h3
    obtain rfl : i = l.length := by omega
    simp only [pontoonbook_Join.l0]
    rw [if_neg (by omega)]
    exact ⟨_, rfl, by simp⟩
  | succ m ih =>
    intro i s h1 h2 h3
    show ∃ r, pontoonbook_Join.l0 ((m + 1) + 1) l s (i : Int) = some r ∧ _
    simp only [pontoonbook_Join.l0]
    by_cases hlt : i < l.length
    · obtain ⟨x, hx⟩ : ∃ x, x = rdOf ByteArray.empty l (i : Int) := ⟨_, rfl⟩
      have hxi : l[i] = x := by rw [hx]; simp [rdOf, hlt]
      have hw : wrap64 ((i : Int) + 1) = ((i + 1 : Nat) : Int) := by rw [w_id (by omega) (by omega)]; rfl
      rw [List.drop_eq_getElem_cons hlt, hxi, List.map_cons, List.sum_cons] at h3
      obtain ⟨r, hr, hr2⟩ := ih (i + 1) (s ++ x) (by omega) (by omega) (by rw [ByteArray.size_append, Nat.add_assoc]; omega)
      refine ⟨r, ?_, ?_⟩
      · rw [if_pos (by omega), if_pos (by omega), ← hx, if_pos (by omega), hw]
        exact hr
      · rw [hr2, List.drop_eq_getElem_cons hlt, hxi, List.map_cons, List.flatten_cons, dl_app, List.append_assoc]
    · obtain rfl : i = l.length := by omega
      rw [if_neg (by omega)]
      exact ⟨_, rfl, by simp⟩
theorem join_ok (l : List ByteArray) (h1 : l.length ≤ 1000) (h2 : (l.map ByteArray.size).sum ≤ 1000000) : pontoonbook_Join.f (l.length + 1) l = some (joinS l) := by
  unfold pontoonbook_Join.f
  obtain ⟨r, hr, hr2⟩ := join_at l h1 l.length 0 ⟨#[]⟩ (by omega) (by omega) (by have : (⟨#[]⟩ : ByteArray).size = 0 := rfl; rw [this, List.drop_zero]; omega)
  rw [show ((0 : Nat) : Int) = 0 from rfl] at hr
  rw [hr]
  congr 1
  apply dl_ext
  rw [hr2, dl_join]
  simp [dl]

end Go.Proofs.Ytmdhiimgeocgeaa.Host
