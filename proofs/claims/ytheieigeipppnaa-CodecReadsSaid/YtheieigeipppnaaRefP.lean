/- The document's reader of numbers, in plain lists: it reads what codec's reader does. Conditions: those in each theorem. -/
import Derived.Test.YtheieigeipppnaaCodPure
namespace Go.Proofs.Ytheieigeipppnaa.Obj
open Go.RowKit Go.Proofs.YtheieigeipppnaaW.PrintWords Go.Proofs.YtheieigeipppnaaW.PrintMore
set_option linter.unusedVariables false

/-- How many bytes ahead say that there is more. -/
def cnt : List Int → Nat
  | [] => 0
  | x :: l => if 128 ≤ x then cnt l + 1 else 0
theorem cnt_le : ∀ l : List Int, cnt l ≤ l.length
  | [] => Nat.le_refl _
  | x :: l => by
    unfold cnt
    have := cnt_le l
    by_cases h : 128 ≤ x
    · rw [if_pos h, List.length_cons]; omega
    · rw [if_neg h]; omega
theorem cnt_lt : ∀ (l : List Int) (i : Nat), i < cnt l → ∃ x, l[i]? = some x ∧ 128 ≤ x
  | [], i, h => by simp [cnt] at h
  | x :: l, i, h => by
    unfold cnt at h
    by_cases hx : 128 ≤ x
    · rw [if_pos hx] at h
      cases i with
      | zero => exact ⟨x, rfl, hx⟩
      | succ i => exact cnt_lt l i (by omega)
    · rw [if_neg hx] at h; omega
theorem cnt_at : ∀ (l : List Int) (x : Int), l[cnt l]? = some x → x < 128
  | [], x, h => by simp [cnt] at h
  | y :: l, x, h => by
    unfold cnt at h
    by_cases hy : 128 ≤ y
    · rw [if_pos hy] at h
      exact cnt_at l x (by simpa using h)
    · rw [if_neg hy] at h
      simp at h
      omega
/-- A count that has come so far, and goes no farther, is it. -/
theorem cnt_eq (l : List Int) (n : Nat) (h : ∀ i, i < n → ∃ x, l[i]? = some x ∧ 128 ≤ x) (h' : n = l.length ∨ ∃ x, l[n]? = some x ∧ x < 128) : cnt l = n := by
  rcases Nat.lt_trichotomy (cnt l) n with hlt | heq | hgt
  · obtain ⟨x, hx, hx2⟩ := h _ hlt
    have := cnt_at l x hx
    omega
  · exact heq
  · obtain ⟨y, hy, hy2⟩ := cnt_lt l n hgt
    rcases h' with h' | ⟨x, hx, hx2⟩
    · have := cnt_le l; omega
    · rw [hy] at hx; injection hx with hx; omega
/-- The number, seven bits in a byte. -/
def hv : List Int → Nat
  | [] => 0
  | x :: l => x.toNat % 128 + 128 * hv l
theorem hv_lt : ∀ l : List Int, hv l < 128 ^ l.length
  | [] => by decide
  | x :: l => by
    have := hv_lt l
    rw [hv, List.length_cons, Nat.pow_succ]
    omega
/-- What stands in bytes, as the document has it. -/
def rNum (b : ByteArray) : Nat × ByteArray × Int :=
  if 8 < cnt (bytesOf b) ∧ 9 < b.size then (0, b, 3) else if cnt (bytesOf b) = b.size then (0, b, 2) else
    if 0 < cnt (bytesOf b) ∧ rd (bytesOf b) (cnt (bytesOf b) : Nat) = 0 then (0, b, 3) else (hv ((bytesOf b).take (cnt (bytesOf b) + 1)), b.extract (cnt (bytesOf b) + 1) b.size, 0)
theorem numGo_cnt : ∀ (m k v : Nat) (l : List Int), (∀ x ∈ l, 0 ≤ x ∧ x ≤ 255) →
    (m ≤ cnt l → numGo m k v (strOfNums l) = (0, if l.length = m then strOfNums [] else strOfNums (l.drop (m + 1)), if l.length = m then 2 else 3)) ∧
    (cnt l < m → (cnt l = l.length → ∃ b, numGo m k v (strOfNums l) = (0, b, 2)) ∧
      (∀ x, l[cnt l]? = some x → (x = 0 ∧ 0 < k + cnt l → ∃ b, numGo m k v (strOfNums l) = (0, b, 3)) ∧ (¬ (x = 0 ∧ 0 < k + cnt l) → numGo m k v (strOfNums l) = (v + hv (l.take (cnt l + 1)) * 128 ^ k, strOfNums (l.drop (cnt l + 1)), 0))))
  | 0, k, v, l, h => by
    refine ⟨fun _ => ?_, fun h => by omega⟩
    unfold numGo
    rw [strOfNums_size]
    by_cases hl : l.length = 0
    · rw [if_pos hl, if_pos hl, if_pos hl, List.eq_nil_of_length_eq_zero hl]
    · rw [if_neg hl, if_neg hl, if_neg hl]
      have := str_drop l 1
      rw [strOfNums_size] at this
      rw [this]
  | m + 1, k, v, [], h => by
    refine ⟨fun hm => by simp [cnt] at hm, fun _ => ⟨fun _ => ⟨_, numGo_none _ _ _⟩, fun x hx => by simp [cnt] at hx⟩⟩
  | m + 1, k, v, x :: l, h => by
    have h0 := h x (List.mem_cons_self ..)
    have hl : ∀ y ∈ l, 0 ≤ y ∧ y ≤ 255 := fun y hy => h y (List.mem_cons_of_mem _ hy)
    rw [numGo_step m k v x l (by omega) (by omega)]
    by_cases hx : 128 ≤ x
    · have hc : cnt (x :: l) = cnt l + 1 := by rw [cnt, if_pos hx]
      obtain ⟨i1, i2⟩ := numGo_cnt m (k + 1) (v + x.toNat % 128 * 128 ^ k) l hl
      rw [if_pos hx, hc]
      refine ⟨fun hm => ?_, fun hm => ⟨fun hn => ?_, fun y hy => ⟨fun hz => ?_, fun hz => ?_⟩⟩⟩
      · rw [i1 (by omega), List.length_cons, List.drop_succ_cons]
        by_cases hlm : l.length = m
        · rw [if_pos hlm, if_pos hlm, if_pos (by omega), if_pos (by omega)]
        · rw [if_neg hlm, if_neg hlm, if_neg (by omega), if_neg (by omega)]
      · exact (i2 (by omega)).1 (by rw [List.length_cons] at hn; omega)
      · exact ((i2 (by omega)).2 y (by simpa using hy)).1 ⟨hz.1, by omega⟩
      · rw [((i2 (by omega)).2 y (by simpa using hy)).2 (fun hq => hz ⟨hq.1, by omega⟩)]
        rw [List.take_succ_cons, List.drop_succ_cons, hv]
        congr 1
        rw [Nat.pow_succ, Nat.add_mul, Nat.add_assoc]
        congr 1
        congr 1
        rw [Nat.mul_comm 128 (hv _), Nat.mul_assoc, Nat.mul_comm 128]
    · have hc : cnt (x :: l) = 0 := by rw [cnt, if_neg hx]
      rw [if_neg hx, hc]
      refine ⟨fun hm => by omega, fun _ => ⟨fun hn => by simp at hn, fun y hy => ?_⟩⟩
      obtain rfl : x = y := by simpa using hy
      refine ⟨fun hz => ⟨_, by rw [if_pos ⟨hz.1, by omega⟩]⟩, fun hz => ?_⟩
      rw [if_neg (fun hq => hz ⟨hq.1, by omega⟩)]
      have : x.toNat % 128 = x.toNat := Nat.mod_eq_of_lt (by omega)
      simp [hv, this]
theorem bytesOf_all (b : ByteArray) : ∀ x ∈ bytesOf b, 0 ≤ x ∧ x ≤ 255 := by
  intro x hx
  obtain ⟨y, _, rfl⟩ := List.mem_map.1 hx
  have := y.toNat_lt
  omega
/-- The two readers read alike. -/
theorem rNum_iNum (b : ByteArray) : (rNum b).1 = (iNum b 0).1 ∧ (rNum b).2.2 = (iNum b 0).2.2 ∧ ((iNum b 0).2.2 = 0 → (rNum b).2.1 = (iNum b 0).2.1) := by
  obtain ⟨i1, i2⟩ := numGo_cnt 9 0 0 (bytesOf b) (bytesOf_all b)
  have hl := bytesOf_length b
  have hle := cnt_le (bytesOf b)
  rw [str_bytes] at i1 i2
  have hi : iNum b 0 = numGo 9 0 0 b := by unfold iNum; rw [if_neg (by decide)]
  rw [hi]
  unfold rNum
  by_cases h9 : 9 ≤ cnt (bytesOf b)
  · rw [i1 h9]
    by_cases hs : 9 < b.size
    · rw [if_pos ⟨by omega, hs⟩, if_neg (show ¬ (bytesOf b).length = 9 by omega), if_neg (show ¬ (bytesOf b).length = 9 by omega)]
      exact ⟨rfl, rfl, fun h => by cases h⟩
    · rw [if_neg (fun h => hs h.2), if_pos (by omega), if_pos (show (bytesOf b).length = 9 by omega), if_pos (show (bytesOf b).length = 9 by omega)]
      exact ⟨rfl, rfl, fun h => by cases h⟩
  · rw [if_neg (fun h => h9 (by omega))]
    obtain ⟨j1, j2⟩ := i2 (by omega)
    by_cases hn : cnt (bytesOf b) = b.size
    · obtain ⟨c, hc⟩ := j1 (by omega)
      rw [if_pos hn, hc]
      exact ⟨rfl, rfl, fun h => by cases h⟩
    · obtain ⟨x, hx⟩ : ∃ x, (bytesOf b)[cnt (bytesOf b)]? = some x := ⟨_, List.getElem?_eq_getElem (by omega)⟩
      have hr : rd (bytesOf b) (cnt (bytesOf b) : Nat) = x := by simp [rd, hx]
      rw [if_neg hn, hr]
      obtain ⟨k1, k2⟩ := j2 x hx
      by_cases hz : 0 < cnt (bytesOf b) ∧ x = 0
      · obtain ⟨c, hc⟩ := k1 ⟨hz.2, by omega⟩
        rw [if_pos hz, hc]
        exact ⟨rfl, rfl, fun h => by cases h⟩
      · rw [if_neg hz, k2 (fun h => hz ⟨by omega, h.1⟩)]
        refine ⟨by simp, rfl, fun _ => ?_⟩
        have := str_drop (bytesOf b) (cnt (bytesOf b) + 1)
        rw [str_bytes] at this
        exact this
end Go.Proofs.Ytheieigeipppnaa.Obj
