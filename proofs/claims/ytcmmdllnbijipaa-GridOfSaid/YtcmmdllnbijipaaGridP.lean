/- A grid's cells as a list, and what its calls make of it. Conditions: those in each theorem. -/
import Derived.Test.YtcmmdllnbijipaaMem
namespace Go.Proofs.Ytcmmdllnbijipaa.Grd
open Go.RowKit Go.Proofs.Ytcmmdllnbijipaa.Mem

/-- A cell: its rune, its colors, its three marks. -/
structure C6 where
  r : Int
  f : Int
  g : Int
  bo : Bool
  un : Bool
  iv : Bool
def C6.vals (c : C6) : List Value := [.int .i32 c.r, .int .i64 c.f, .int .i64 c.g, .bool c.bo, .bool c.un, .bool c.iv]
def C6.val (c : C6) : Value := .agg #[.int .i32 c.r, .int .i64 c.f, .int .i64 c.g, .bool c.bo, .bool c.un, .bool c.iv]
def zC : C6 := ⟨0, 0, 0, false, false, false⟩
/-- An empty cell. -/
def bC : C6 := ⟨32, 0, 0, false, false, false⟩
theorem vals_len (c : C6) : c.vals.length = 6 := rfl
theorem vals_one (c : C6) : ∀ v ∈ c.vals, v.oneCell' = true := by
  intro v hv
  simp only [C6.vals, List.mem_cons, List.not_mem_nil, or_false] at hv
  rcases hv with rfl | rfl | rfl | rfl | rfl | rfl <;> rfl
/-- Cells in memory. -/
def fl (l : List C6) : List Value := l.flatMap C6.vals
theorem fl_len (l : List C6) : (fl l).length = l.length * 6 := fl_length vals_len l
theorem fl_one (l : List C6) : ∀ v ∈ fl l, v.oneCell' = true := by
  intro v hv
  obtain ⟨c, _, hc⟩ := List.mem_flatMap.1 hv
  exact vals_one c v hc
theorem fl_cell {l : List C6} {i : Nat} {c : C6} (hi : l[i]? = some c) (j : Nat) (hj : j < 6) (rest : List Value) : ((fl l ++ rest).toArray)[i * 6 + j]? = (c.vals)[j]? := by
  have h := fl_at vals_len hi hj
  have hl : i * 6 + j < (fl l).length := by
    rw [fl_len]
    have := (List.getElem?_eq_some_iff.1 hi).1
    omega
  rw [List.getElem?_toArray, List.getElem?_append_left hl]
  exact h

/-! ### What stands where -/
theorem put_get {α : Type} (l : List α) (k : Nat) (news : List α) (h : k + news.length ≤ l.length) (i : Nat) : (put l k news)[i]? = if k ≤ i ∧ i < k + news.length then news[i - k]? else l[i]? := by
  unfold put
  have hk : (l.take k).length = k := by simp; omega
  rw [List.append_assoc]
  by_cases h1 : i < k
  · rw [if_neg (by omega), List.getElem?_append_left (by omega), List.getElem?_take, if_pos h1]
  · rw [List.getElem?_append_right (by omega), hk]
    by_cases h2 : i < k + news.length
    · rw [if_pos (by omega), List.getElem?_append_left (by omega)]
    · rw [if_neg (by omega), List.getElem?_append_right (by omega), List.getElem?_drop]
      congr 1
      omega
/-- Is a place within? -/
def inG (W H : Nat) (x y : Int) : Bool := decide (0 ≤ x) && (decide (x < W) && (decide (0 ≤ y) && decide (y < H)))
theorem inG_iff {W H : Nat} {x y : Int} : inG W H x y = true ↔ 0 ≤ x ∧ x < W ∧ 0 ≤ y ∧ y < H := by
  simp [inG, Bool.and_eq_true]
theorem inG_not {W H : Nat} {x y : Int} : inG W H x y = false ↔ ¬ (0 ≤ x ∧ x < W ∧ 0 ≤ y ∧ y < H) := by
  rw [← inG_iff]; simp
/-- Where a place's cell is. -/
def ix (W : Nat) (x y : Int) : Nat := y.toNat * W + x.toNat
theorem ix_lt {W H : Nat} {x y : Int} (h : inG W H x y = true) : ix W x y + (W - x.toNat) ≤ W * H := by
  rw [inG_iff] at h
  unfold ix
  have h1 : (y.toNat + 1) * W ≤ H * W := Nat.mul_le_mul_right W (by omega)
  rw [Nat.succ_mul] at h1
  rw [Nat.mul_comm W H]
  omega
theorem ix_lt' {W H : Nat} {x y : Int} (h : inG W H x y = true) : ix W x y < W * H := by
  have := ix_lt h
  rw [inG_iff] at h
  omega
/-- A place's cell. -/
def gAt (W H : Nat) (cs : List C6) (x y : Int) : C6 := if inG W H x y = true then cs.getD (ix W x y) zC else zC
/-- How many cells Set sets. -/
def gSetN (W H : Nat) (x y : Int) (n : Nat) : Nat := if inG W H x y = true then min n (W - x.toNat) else 0
def gSet (W H : Nat) (cs : List C6) (x y : Int) (l : List C6) : List C6 := if inG W H x y = true then put cs (ix W x y) (l.take (W - x.toNat)) else cs
theorem gSet_len {W H : Nat} {cs : List C6} (hc : cs.length = W * H) (x y : Int) (l : List C6) : (gSet W H cs x y l).length = W * H := by
  unfold gSet
  split
  · rename_i h
    have := ix_lt h
    rw [put_length _ _ _ (by rw [List.length_take]; omega), hc]
  · exact hc
/-- From a place to another one. -/
def gFill (cs : List C6) (a z : Int) (c : C6) : List C6 := if max a 0 < min z cs.length then put cs (max a 0).toNat (List.replicate ((min z cs.length) - (max a 0)).toNat c) else cs
theorem gFill_len (cs : List C6) (a z : Int) (c : C6) : (gFill cs a z c).length = cs.length := by
  unfold gFill
  split
  · rw [put_length _ _ _ (by rw [List.length_replicate]; omega)]
  · rfl
theorem gFill_get (cs : List C6) (a z : Int) (c : C6) (i : Nat) (hi : i < cs.length) : (gFill cs a z c)[i]? = if a ≤ i ∧ (i : Int) < z then some c else cs[i]? := by
  unfold gFill
  split
  · rw [put_get _ _ _ (by rw [List.length_replicate]; omega), List.length_replicate]
    by_cases h : a ≤ i ∧ (i : Int) < z
    · rw [if_pos h, if_pos (by omega), List.getElem?_replicate, if_pos (by omega)]
    · rw [if_neg h, if_neg (by omega)]
  · rw [if_neg (by omega)]
/-- What stands in the rows from top to bottom, n cells further up; n further down. -/
def less (n : Nat) (c : C6) (L : List C6) : List C6 := L.drop n ++ List.replicate (min n L.length) c
def more (n : Nat) (c : C6) (L : List C6) : List C6 := List.replicate (min n L.length) c ++ L.take (L.length - n)
theorem less_len (n : Nat) (c : C6) (L : List C6) : (less n c L).length = L.length := by simp [less]; omega
theorem more_len (n : Nat) (c : C6) (L : List C6) : (more n c L).length = L.length := by simp [more]; omega
/-- A part of the list is changed by a function. -/
def part (cs : List C6) (k m : Nat) (F : List C6 → List C6) : List C6 := put cs k (F ((cs.drop k).take m))
theorem part_len (cs : List C6) (k m : Nat) (F : List C6 → List C6) (hF : ∀ L, (F L).length = L.length) (h : k + m ≤ cs.length) : (part cs k m F).length = cs.length := by
  unfold part
  rw [put_length _ _ _ (by rw [hF, List.length_take, List.length_drop]; omega)]
/-- The rows from top to bottom: from which cell on, how many. -/
def rowsK (W : Nat) (top : Int) : Nat := top.toNat * W
def rowsM (W H : Nat) (top bottom : Int) : Nat := ((min bottom H) - (max top 0)).toNat * W
theorem rows_fit (W H : Nat) (top bottom : Int) (h : max top 0 < min bottom H) : rowsK W top + rowsM W H top bottom ≤ W * H := by
  unfold rowsK rowsM
  rw [← Nat.add_mul, Nat.mul_comm W H]
  exact Nat.mul_le_mul_right W (by omega)
/-- How many cells n rows are, of H at most. -/
def manyN (W H : Nat) (n : Int) : Nat := (min (max n 0) H).toNat * W
def gRows (W H : Nat) (cs : List C6) (top bottom n : Int) (F : Nat → List C6 → List C6) : List C6 := if max top 0 < min bottom H then part cs (rowsK W top) (rowsM W H top bottom) (F (manyN W H n)) else cs
def gRow (W H : Nat) (cs : List C6) (x y n : Int) (F : Nat → List C6 → List C6) : List C6 := if inG W H x y = true then part cs (ix W x y) (W - x.toNat) (F n.toNat) else cs
theorem gRows_len {W H : Nat} {cs : List C6} (hc : cs.length = W * H) (top bottom n : Int) (F : Nat → List C6 → List C6) (hF : ∀ k L, (F k L).length = L.length) : (gRows W H cs top bottom n F).length = W * H := by
  unfold gRows
  split
  · rename_i h
    rw [part_len _ _ _ _ (hF _) (by rw [hc]; exact rows_fit W H top bottom h), hc]
  · exact hc
theorem gRow_len {W H : Nat} {cs : List C6} (hc : cs.length = W * H) (x y n : Int) (F : Nat → List C6 → List C6) (hF : ∀ k L, (F k L).length = L.length) : (gRow W H cs x y n F).length = W * H := by
  unfold gRow
  split
  · rename_i h
    rw [part_len _ _ _ _ (hF _) (by rw [hc]; exact ix_lt h), hc]
  · exact hc
/-- A size that may be. -/
def clW (w : Int) : Nat := (min (max w 2) 40).toNat
def clH (h : Int) : Nat := (min (max h 1) 20).toNat
theorem clW_le (w : Int) : 2 ≤ clW w ∧ clW w ≤ 40 := by unfold clW; omega
theorem clH_le (h : Int) : 1 ≤ clH h ∧ clH h ≤ 20 := by unfold clH; omega
theorem wh_le {W H : Nat} (h1 : W ≤ 40) (h2 : H ≤ 20) : W * H ≤ 800 := Nat.mul_le_mul h1 h2
end Go.Proofs.Ytcmmdllnbijipaa.Grd
