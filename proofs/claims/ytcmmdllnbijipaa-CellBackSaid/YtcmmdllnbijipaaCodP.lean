/- What is laid, and read, in plain lists: numbers, bytes, texts. Conditions: those in each theorem. -/
import Derived.Test.YtcmmdllnbijipaaOut2
import Derived.Test.YtcmmdllnbijipaaInNum
namespace Go.Proofs.Ytcmmdllnbijipaa.Obj
open Go.RowKit Go.Proofs.YtcmmdllnbijipaaW.PrintWords Go.Proofs.YtcmmdllnbijipaaW.PrintMore

theorem oNum_ok : ∀ (xs : List Int) (bs : List Int), (∀ x ∈ xs, 0 ≤ x) → oNum (bs, 0) xs = (bs ++ xs.flatMap (fun x => numB x.toNat), 0)
  | [], bs, _ => by simp [oNum]
  | x :: xs, bs, h => by
    have h0 : 0 ≤ x := h x (by simp)
    rw [oNum, if_neg (by simp), if_neg (by omega), oNum_ok xs _ (fun y hy => h y (by simp [hy]))]
    simp
theorem oRaw_ok : ∀ (xs : List ByteArray) (bs : List Int), oRaw (bs, 0) xs = (bs ++ xs.flatMap bytesOf, 0)
  | [], bs => by simp [oRaw]
  | x :: xs, bs => by
    rw [oRaw, if_neg (by simp), oRaw_ok xs _]
    simp
theorem oText_ok : ∀ (xs : List ByteArray) (bs : List Int), oText (bs, 0) xs = (bs ++ xs.flatMap (fun s => numB s.size ++ bytesOf s), 0)
  | [], bs => by simp [oText]
  | x :: xs, bs => by
    rw [oText, oNum_ok _ _ (by simp), oRaw_ok, oText_ok xs _]
    simp
theorem oByte_ok : ∀ (xs : List Int) (bs : List Int), (∀ x ∈ xs, 0 ≤ x ∧ x ≤ 255) → oByte (bs, 0) xs = (bs ++ xs, 0)
  | [], bs, _ => by simp [oByte]
  | x :: xs, bs, h => by
    have h0 := h x (by simp)
    rw [oByte, if_neg (by simp), if_neg (by omega), oByte_ok xs _ (fun y hy => h y (by simp [hy]))]
    simp
theorem Fr.belowOf {B g : Nat} {w0 w w' : World} (h : Fr B g w w') (hb : Below B w0 w) (hB : B ≤ w.heap.size) (hg : B ≤ g) : Below B w0 w' := hb.trans (h.toBelow hB hg)
theorem Fg.belowOf {B g : Nat} {w0 w w' : World} (h : Fg g w w') (hb : Below B w0 w) (hB : B ≤ w.heap.size) (hg : B ≤ g) : Below B w0 w' := hb.trans (h.toBelow hB hg)
theorem str_ext {a b : ByteArray} (h : a.data.toList = b.data.toList) : a = b := by
  apply ByteArray.ext
  exact Array.toList_inj.1 h
theorem str_bytes (s : ByteArray) : strOfNums (bytesOf s) = s := by
  apply str_ext
  rw [strOfNums_data, bytesOf, List.map_map]
  conv => rhs; rw [← List.map_id s.data.toList]
  apply List.map_congr_left
  intro x _
  simp
theorem str_take (l : List Int) (n : Nat) : (strOfNums l).extract 0 n = strOfNums (l.take n) := by
  apply str_ext
  simp [strOfNums, List.map_take]
theorem str_drop (l : List Int) (n : Nat) : (strOfNums l).extract n (strOfNums l).size = strOfNums (l.drop n) := by
  apply str_ext
  rw [strOfNums_size]
  simp [strOfNums, List.map_drop]
  rw [List.take_of_length_le (by simp)]
theorem str_tail (x : Int) (l : List Int) : (strOfNums (x :: l)).extract 1 (strOfNums (x :: l)).size = strOfNums l := str_drop (x :: l) 1
theorem bt_str (x : Int) (l : List Int) (h : 0 ≤ x) (h' : x < 256) : bt (strOfNums (x :: l)) 0 = x := by
  unfold bt
  rw [dif_pos (by rw [strOfNums_size]; simp)]
  have : (strOfNums (x :: l))[(0 : Int).toNat]'(by rw [strOfNums_size]; simp) = UInt8.ofNat x.toNat := by simp [strOfNums, ByteArray.getElem_eq_getElem_data]
  rw [this, UInt8.toNat_ofNat']
  omega

theorem numGo_none (m k v : Nat) : numGo m k v (strOfNums []) = (0, strOfNums [], 2) := by
  have h : (strOfNums []).size = 0 := by rw [strOfNums_size]; rfl
  cases m with
  | zero => rw [numGo, if_pos h]
  | succ m => rw [numGo, if_pos h]
theorem numGo_step (m k v : Nat) (x : Int) (l : List Int) (h : 0 ≤ x) (h' : x < 256) :
    numGo (m + 1) k v (strOfNums (x :: l)) = if 128 ≤ x then numGo m (k + 1) (v + x.toNat % 128 * 128 ^ k) (strOfNums l) else if x = 0 ∧ 0 < k then (0, strOfNums l, 3) else (v + x.toNat * 128 ^ k, strOfNums l, 0) := by
  rw [numGo, if_neg (by rw [strOfNums_size]; simp), bt_str x l h h', str_tail]
theorem numGo_put (m : Nat) : ∀ (k v u : Nat) (rest : List Int), u < 128 ^ m → 1 ≤ m → (0 < k → 0 < u) →
    numGo m k v (strOfNums (numB u ++ rest)) = (v + u * 128 ^ k, strOfNums rest, 0) := by
  induction m with
  | zero => intro k v u rest _ h; omega
  | succ m ih =>
    intro k v u rest hu _ hk
    by_cases h : u < 128
    · rw [numB_small h]
      show numGo (m + 1) k v (strOfNums ((u : Int) :: rest)) = _
      rw [numGo_step m k v _ _ (by omega) (by omega), if_neg (by omega), if_neg (by omega), Int.toNat_natCast]
    · rw [numB_great h]
      show numGo (m + 1) k v (strOfNums (((u % 128 + 128 : Nat) : Int) :: (numB (u / 128) ++ rest))) = _
      have h1 : u / 128 < 128 ^ m := by rw [Nat.pow_succ] at hu; omega
      have hm : 1 ≤ m := by
        cases m with
        | zero => simp at h1; omega
        | succ m => omega
      rw [numGo_step m k v _ _ (by omega) (by omega), if_pos (by omega), Int.toNat_natCast, ih (k + 1) _ (u / 128) rest h1 hm (by omega)]
      have e1 : (u % 128 + 128) % 128 = u % 128 := by omega
      have e2 : u % 128 * 128 ^ k + u / 128 * 128 ^ (k + 1) = u * 128 ^ k := by
        rw [Nat.pow_succ, Nat.mul_comm (128 ^ k) 128, ← Nat.mul_assoc, ← Nat.add_mul]
        congr 1
        omega
      rw [e1, Nat.add_assoc, e2]
theorem numGo_cut (m : Nat) : ∀ (k v u j : Nat), u < 128 ^ m → j < (numB u).length →
    numGo m k v (strOfNums ((numB u).take j)) = (0, strOfNums [], 2) := by
  induction m with
  | zero =>
    intro k v u j hu hj
    obtain rfl : u = 0 := by simpa using hu
    rw [numB_small (by decide)] at hj ⊢
    obtain rfl : j = 0 := by simpa using hj
    exact numGo_none 0 k v
  | succ m ih =>
    intro k v u j hu hj
    cases j with
    | zero => exact numGo_none (m + 1) k v
    | succ j =>
      by_cases h : u < 128
      · rw [numB_small h] at hj
        simp at hj
      · rw [numB_great h] at hj ⊢
        have h1 : u / 128 < 128 ^ m := by rw [Nat.pow_succ] at hu; omega
        rw [List.take_succ_cons, numGo_step m k v _ _ (by omega) (by omega), if_pos (by omega)]
        exact ih (k + 1) _ (u / 128) j h1 (by simpa using hj)
theorem iNum_put {u : Nat} (rest : List Int) (hu : u < 9223372036854775808) : iNum (strOfNums (numB u ++ rest)) 0 = (u, strOfNums rest, 0) := by
  have e : (128 : Nat) ^ 9 = 9223372036854775808 := by decide
  have := numGo_put 9 0 0 u rest (by omega) (by omega) (by omega)
  unfold iNum
  rw [if_neg (by simp), this]
  simp
theorem iNum_cut {u j : Nat} (hu : u < 9223372036854775808) (hj : j < (numB u).length) : iNum (strOfNums ((numB u).take j)) 0 = (0, strOfNums [], 2) := by
  have e : (128 : Nat) ^ 9 = 9223372036854775808 := by decide
  unfold iNum
  rw [if_neg (by simp), numGo_cut 9 0 0 u j (by omega) hj]
theorem iNum_err {b : ByteArray} {e : Int} (he : e ≠ 0) : iNum b e = (0, b, e) := by simp [iNum, he]
theorem iRaw_err {b : ByteArray} {e n : Int} (he : e ≠ 0) : iRaw b e n = (ByteArray.empty, b, e) := by simp [iRaw, he]
theorem iRaw_put (l : List Int) (n : Nat) (hn : n ≤ l.length) : iRaw (strOfNums l) 0 (n : Int) = (strOfNums (l.take n), strOfNums (l.drop n), 0) := by
  unfold iRaw
  rw [if_neg (by simp), if_neg (by omega), if_neg (by rw [strOfNums_size]; omega), Int.toNat_natCast, str_take, str_drop]
theorem iRaw_cut (l : List Int) (n : Nat) (hn : l.length < n) : iRaw (strOfNums l) 0 (n : Int) = (ByteArray.empty, strOfNums l, 2) := by
  unfold iRaw
  rw [if_neg (by simp), if_neg (by omega), if_pos (by rw [strOfNums_size]; omega)]
/-- Text, read. -/
def iText (b : ByteArray) (e : Int) : ByteArray × ByteArray × Int := iRaw (iNum b e).2.1 (iNum b e).2.2 (iNum b e).1
theorem iText_put (s : ByteArray) (rest : List Int) (hs : s.size < 9223372036854775808) : iText (strOfNums (numB s.size ++ (bytesOf s ++ rest))) 0 = (s, strOfNums rest, 0) := by
  unfold iText
  rw [iNum_put _ hs]
  show iRaw (strOfNums (bytesOf s ++ rest)) 0 (s.size : Int) = _
  rw [iRaw_put _ _ (by rw [List.length_append, bytesOf_length]; omega), List.take_append_of_le_length (by rw [bytesOf_length]; omega), List.take_of_length_le (by rw [bytesOf_length]; omega),
    List.drop_append_of_le_length (by rw [bytesOf_length]; omega), List.drop_of_length_le (by rw [bytesOf_length]; omega), str_bytes, List.nil_append]
theorem iText_err {b : ByteArray} {e : Int} (he : e ≠ 0) : iText b e = (ByteArray.empty, b, e) := by
  unfold iText
  rw [iNum_err he]
  exact iRaw_err he
/-- A text that is cut off. -/
theorem iText_cut (s : ByteArray) (j : Nat) (hs : s.size < 9223372036854775808) (hj : j < (numB s.size).length + s.size) : ∃ b, iText (strOfNums ((numB s.size ++ bytesOf s).take j)) 0 = (ByteArray.empty, b, 2) := by
  unfold iText
  by_cases h : j < (numB s.size).length
  · rw [List.take_append_of_le_length (by omega), iNum_cut hs h]
    exact ⟨_, iRaw_err (by decide)⟩
  · rw [List.take_append, List.take_of_length_le (by omega), iNum_put _ hs]
    show ∃ b, iRaw (strOfNums _) 0 (s.size : Int) = _
    exact ⟨_, iRaw_cut _ _ (by simp [bytesOf_length]; omega)⟩
end Go.Proofs.Ytcmmdllnbijipaa.Obj
