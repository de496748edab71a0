/- RefP, RefIn, RefOut, RefIn2, in one text. Conditions: those in each theorem. -/
import Derived.Test.YtjjjinpmflghmaaMB
import Derived.OpenShut
import Derived.Deep.AppendLies
import Derived.Test.YtjjjinpmflghmaaKeyLayP
namespace Go.Proofs.Ytjjjinpmflghmaa.Obj
open Go.RowKit Go.Proofs.YtjjjinpmflghmaaW.PrintWords Go.Proofs.YtjjjinpmflghmaaW.PrintMore
set_option linter.unusedVariables false

/-- How many bytes ahead say that there is more. -/
def cnt : List Int → Nat
  | [] => 0
  | x :: l => if 128 ≤ x then cnt l + 1 else 0
theorem cnt_le : ∀ l : List Int, cnt l ≤ l.length
  | [] => Nat.le_refl _
  | x :: l => by
    unfold cnt
    have := cnt_le l
    by_cases h : 128 ≤ x
    · rw [if_pos h, List.length_cons]; omega
    · rw [if_neg h]; omega
theorem cnt_lt : ∀ (l : List Int) (i : Nat), i < cnt l → ∃ x, l[i]? = some x ∧ 128 ≤ x
  | [], i, h => by simp [cnt] at h
  | x :: l, i, h => by
    unfold cnt at h
    by_cases hx : 128 ≤ x
    · rw [if_pos hx] at h
      cases i with
      | zero => exact ⟨x, rfl, hx⟩
      | succ i => exact cnt_lt l i (by omega)
    · rw [if_neg hx] at h; omega
theorem cnt_at : ∀ (l : List Int) (x : Int), l[cnt l]? = some x → x < 128
  | [], x, h => by simp [cnt] at h
  | y :: l, x, h => by
    unfold cnt at h
    by_cases hy : 128 ≤ y
    · rw [if_pos hy] at h
      exact cnt_at l x (by simpa using h)
    · rw [if_neg hy] at h
      simp at h
      omega
/-- A count that has come so far, and goes no farther, is it. -/
theorem cnt_eq (l : List Int) (n : Nat) (h : ∀ i, i < n → ∃ x, l[i]? = some x ∧ 128 ≤ x) (h' : n = l.length ∨ ∃ x, l[n]? = some x ∧ x < 128) : cnt l = n := by
  rcases Nat.lt_trichotomy (cnt l) n with hlt | heq | hgt
  · obtain ⟨x, hx, hx2⟩ := h _ hlt
    have := cnt_at l x hx
    omega
  · exact heq
  · obtain ⟨y, hy, hy2⟩ := cnt_lt l n hgt
    rcases h' with h' | ⟨x, hx, hx2⟩
    · have := cnt_le l; omega
    · rw [hy] at hx; injection hx with hx; omega
/-- The number, seven bits in a byte. -/
def hv : List Int → Nat
  | [] => 0
  | x :: l => x.toNat % 128 + 128 * hv l
theorem hv_lt : ∀ l : List Int, hv l < 128 ^ l.length
  | [] => by decide
  | x :: l => by
    have := hv_lt l
    rw [hv, List.length_cons, Nat.pow_succ]
    omega
/-- What stands in bytes, as the document has it. -/
def rNum (b : ByteArray) : Nat × ByteArray × Int :=
  if 8 < cnt (bytesOf b) ∧ 9 < b.size then (0, b, 3) else if cnt (bytesOf b) = b.size then (0, b, 2) else
    if 0 < cnt (bytesOf b) ∧ rd (bytesOf b) (cnt (bytesOf b) : Nat) = 0 then (0, b, 3) else (hv ((bytesOf b).take (cnt (bytesOf b) + 1)), b.extract (cnt (bytesOf b) + 1) b.size, 0)
theorem numGo_cnt : ∀ (m k v : Nat) (l : List Int), (∀ x ∈ l, 0 ≤ x ∧ x ≤ 255) →
    (m ≤ cnt l → numGo m k v (strOfNums l) = (0, if l.length = m then strOfNums [] else strOfNums (l.drop (m + 1)), if l.length = m then 2 else 3)) ∧
    (cnt l < m → (cnt l = l.length → ∃ b, numGo m k v (strOfNums l) = (0, b, 2)) ∧
      (∀ x, l[cnt l]? = some x → (x = 0 ∧ 0 < k + cnt l → ∃ b, numGo m k v (strOfNums l) = (0, b, 3)) ∧ (¬ (x = 0 ∧ 0 < k + cnt l) → numGo m k v (strOfNums l) = (v + hv (l.take (cnt l + 1)) * 128 ^ k, strOfNums (l.drop (cnt l + 1)), 0))))
  | 0, k, v, l, h => by
    refine ⟨fun _ => ?_, fun h => by omega⟩
    unfold numGo
    rw [strOfNums_size]
    by_cases hl : l.length = 0
    · rw [if_pos hl, if_pos hl, if_pos hl, List.eq_nil_of_length_eq_zero hl]
    · rw [if_neg hl, if_neg hl, if_neg hl]
      have := str_drop l 1
      rw [strOfNums_size] at this
      rw [this]
  | m + 1, k, v, [], h => by
    refine ⟨fun hm => by simp [cnt] at hm, fun _ => ⟨fun _ => ⟨_, numGo_none _ _ _⟩, fun x hx => by simp [cnt] at hx⟩⟩
  | m + 1, k, v, x :: l, h => by
    have h0 := h x (List.mem_cons_self ..)
    have hl : ∀ y ∈ l, 0 ≤ y ∧ y ≤ 255 := fun y hy => h y (List.mem_cons_of_mem _ hy)
    rw [numGo_step m k v x l (by omega) (by omega)]
    by_cases hx : 128 ≤ x
    · have hc : cnt (x :: l) = cnt l + 1 := by rw [cnt, if_pos hx]
      obtain ⟨i1, i2⟩ := numGo_cnt m (k + 1) (v + x.toNat % 128 * 128 ^ k) l hl
      rw [if_pos hx, hc]
      refine ⟨fun hm => ?_, fun hm => ⟨fun hn => ?_, fun y hy => ⟨fun hz => ?_, fun hz => ?_⟩⟩⟩
      · rw [i1 (by omega), List.length_cons, List.drop_succ_cons]
        by_cases hlm : l.length = m
        · rw [if_pos hlm, if_pos hlm, if_pos (by omega), if_pos (by omega)]
        · rw [if_neg hlm, if_neg hlm, if_neg (by omega), if_neg (by omega)]
      · exact (i2 (by omega)).1 (by rw [List.length_cons] at hn; omega)
      · exact ((i2 (by omega)).2 y (by simpa using hy)).1 ⟨hz.1, by omega⟩
      · rw [((i2 (by omega)).2 y (by simpa using hy)).2 (fun hq => hz ⟨hq.1, by omega⟩)]
        rw [List.take_succ_cons, List.drop_succ_cons, hv]
        congr 1
        rw [Nat.pow_succ, Nat.add_mul, Nat.add_assoc]
        congr 1
        congr 1
        rw [Nat.mul_comm 128 (hv _), Nat.mul_assoc, Nat.mul_comm 128]
    · have hc : cnt (x :: l) = 0 := by rw [cnt, if_neg hx]
      rw [if_neg hx, hc]
      refine ⟨fun hm => by omega, fun _ => ⟨fun hn => by simp at hn, fun y hy => ?_⟩⟩
      obtain rfl : x = y := by simpa using hy
      refine ⟨fun hz => ⟨_, by rw [if_pos ⟨hz.1, by omega⟩]⟩, fun hz => ?_⟩
      rw [if_neg (fun hq => hz ⟨hq.1, by omega⟩)]
      have : x.toNat % 128 = x.toNat := Nat.mod_eq_of_lt (by omega)
      simp [hv, this]
theorem bytesOf_all (b : ByteArray) : ∀ x ∈ bytesOf b, 0 ≤ x ∧ x ≤ 255 := by
  intro x hx
  obtain ⟨y, _, rfl⟩ := List.mem_map.1 hx
  have := y.toNat_lt
  omega
/-- The two readers read alike. -/
theorem rNum_iNum (b : ByteArray) : (rNum b).1 = (iNum b 0).1 ∧ (rNum b).2.2 = (iNum b 0).2.2 ∧ ((iNum b 0).2.2 = 0 → (rNum b).2.1 = (iNum b 0).2.1) := by
  obtain ⟨i1, i2⟩ := numGo_cnt 9 0 0 (bytesOf b) (bytesOf_all b)
  have hl := bytesOf_length b
  have hle := cnt_le (bytesOf b)
  rw [str_bytes] at i1 i2
  have hi : iNum b 0 = numGo 9 0 0 b := by unfold iNum; rw [if_neg (by decide)]
  rw [hi]
  unfold rNum
  by_cases h9 : 9 ≤ cnt (bytesOf b)
  · rw [i1 h9]
    by_cases hs : 9 < b.size
    · rw [if_pos ⟨by omega, hs⟩, if_neg (show ¬ (bytesOf b).length = 9 by omega), if_neg (show ¬ (bytesOf b).length = 9 by omega)]
      exact ⟨rfl, rfl, fun h => by cases h⟩
    · rw [if_neg (fun h => hs h.2), if_pos (by omega), if_pos (show (bytesOf b).length = 9 by omega), if_pos (show (bytesOf b).length = 9 by omega)]
      exact ⟨rfl, rfl, fun h => by cases h⟩
  · rw [if_neg (fun h => h9 (by omega))]
    obtain ⟨j1, j2⟩ := i2 (by omega)
    by_cases hn : cnt (bytesOf b) = b.size
    · obtain ⟨c, hc⟩ := j1 (by omega)
      rw [if_pos hn, hc]
      exact ⟨rfl, rfl, fun h => by cases h⟩
    · obtain ⟨x, hx⟩ : ∃ x, (bytesOf b)[cnt (bytesOf b)]? = some x := ⟨_, List.getElem?_eq_getElem (by omega)⟩
      have hr : rd (bytesOf b) (cnt (bytesOf b) : Nat) = x := by simp [rd, hx]
      rw [if_neg hn, hr]
      obtain ⟨k1, k2⟩ := j2 x hx
      by_cases hz : 0 < cnt (bytesOf b) ∧ x = 0
      · obtain ⟨c, hc⟩ := k1 ⟨hz.2, by omega⟩
        rw [if_pos hz, hc]
        exact ⟨rfl, rfl, fun h => by cases h⟩
      · rw [if_neg hz, k2 (fun h => hz ⟨by omega, h.1⟩)]
        refine ⟨by simp, rfl, fun _ => ?_⟩
        have := str_drop (bytesOf b) (cnt (bytesOf b) + 1)
        rw [str_bytes] at this
        exact this
end Go.Proofs.Ytjjjinpmflghmaa.Obj
namespace Go.Proofs.Ytjjjinpmflghmaa.Obj
open Go.RowKit Go.Proofs.YtjjjinpmflghmaaW.PrintWords Go.Proofs.YtjjjinpmflghmaaW.PrintMore
set_option linter.unusedVariables false
set_option linter.unusedSimpArgs false

/-- The document's reader at block g: what is left, and the error. -/
def IsRIn (w : World) (g : Nat) (b : ByteArray) (e : Int) : Prop := w.heap[g]? = some (.cells #[.string b, .int .i64 e] 121 (0, 0))
theorem IsRIn.below {g : Nat} {w w' : World} {b : ByteArray} {e : Int} (h : IsRIn w g b e) (hb : Below w.heap.size w w') : IsRIn w' g b e := (hb.block g (blk_lt h)).trans h
theorem IsRIn.set0 {g : Nat} {w : World} {b : ByteArray} {e : Int} (h : IsRIn w g b e) (b' : ByteArray) : IsRIn (w.setCell ⟨g, 0, none⟩ (.string b')) g b' e := (blk_set h 0 _).trans rfl
theorem IsRIn.set1 {g : Nat} {w : World} {b : ByteArray} {e : Int} (h : IsRIn w g b e) (e' : Int) : IsRIn (w.setCell ⟨g, 1, none⟩ (.int .i64 e')) g b e' := (blk_set h 1 _).trans rfl
theorem rnum_err (g : Nat) (b : ByteArray) (e : Int) (he : e ≠ 0) (w : World) (h : IsRIn w g b e) :
    Calls Try.prog 63 #[.pointer (some ⟨g, 0, none⟩)] w fun r w' => r = .returned (.int .i64 0) ∧ w = w' := by
  have c1 : w.cell? ⟨g, 1, none⟩ = some (.int .i64 e) := (blk_cell h 1).trans rfl
  have he' : (e != 0) = true := by simpa using he
  clear h he
  go_enter Try.func63, Try.ntmps63
  go_wp2
  go_ret
  exact ⟨rfl, rfl⟩
set_option maxHeartbeats 4000000 in
set_option maxRecDepth 100000 in
theorem rnum_ok (g : Nat) (b : ByteArray) (w : World) (h : IsRIn w g b 0) (hs : b.size ≤ 140737488355328) :
    Calls Try.prog 63 #[.pointer (some ⟨g, 0, none⟩)] w fun r w' => r = .returned (.int .i64 (rNum b).1) ∧ IsRIn w' g (rNum b).2.1 (rNum b).2.2 ∧ Fg g w w' := by
  have c0 : w.cell? ⟨g, 0, none⟩ = some (.string b) := (blk_cell h 0).trans rfl
  have c1 : w.cell? ⟨g, 1, none⟩ = some (.int .i64 0) := (blk_cell h 1).trans rfl
  have f0 := blk_frozen h 0
  have f1 := blk_frozen h 1
  have HI := Aside0.mk h
  clear h
  go_enter Try.func63, Try.ntmps63
  go_wp2_with fail
  go_loopg [3] b.size (fun kq v3 wr => ∃ (n : Nat), v3 = .int .i64 (n : Int) ∧ Aside0 (n ≤ b.size ∧ kq = b.size - n) ∧ Aside0 (∀ i, i < n → ∃ x, (bytesOf b)[i]? = some x ∧ 128 ≤ x) ∧ wr = w)
  case atStart => exact ⟨0, rfl, ⟨Nat.zero_le _, rfl⟩, ⟨fun i hi => absurd hi (Nat.not_lt_zero i)⟩, rfl⟩
  case round =>
    obtain ⟨n, rfl, ⟨hn, hkq⟩, HN, rfl⟩ := hrel
    have HQ := Aside0.mk hkq
    clear hkq
    have hn0 : (0 : Int) ≤ (n : Int) := Int.natCast_nonneg _
    by_cases hlt : n < b.size
    · have hlt1 : (n : Int) < (b.size : Int) := by omega
      obtain ⟨c, hc⟩ : ∃ c : Nat, (b[n]'hlt).toNat = c := ⟨_, rfl⟩
      have hcn : (bytesOf b)[n]? = some (c : Int) := by
        rw [List.getElem?_eq_getElem (by rw [bytesOf_length]; exact hlt)]
        simp [bytesOf, ← hc]
        rfl
      have HC := Aside0.mk hcn
      clear hcn
      by_cases h128 : 128 ≤ (c : Int)
      · go_wp2
        go_roundg (b.size - (n + 1))
        case measure => have := HQ.out; omega
        case rel => exact ⟨n + 1, by go_num, ⟨by omega, rfl⟩, ⟨fun i hi => by
          rcases Nat.lt_succ_iff_lt_or_eq.1 hi with hi | rfl
          · exact HN.out i hi
          · exact ⟨_, HC.out, h128⟩⟩, rfl⟩
      · have HCN := Aside0.mk (cnt_eq (bytesOf b) n HN.out (.inr ⟨_, HC.out, by omega⟩))
        have hr : rd (bytesOf b) (n : Nat) = c := by have := HC.out; simp [rd, this]
        by_cases hlong : 8 < n ∧ 9 < b.size
        · have hl1 : (8 : Int) < (n : Int) := by omega
          have hl2 : (9 : Int) < (b.size : Int) := by omega
          have HR := Aside0.mk (show rNum b = (0, b, 3) by unfold rNum; rw [HCN.out, if_pos hlong])
          go_wp2
          go_ret
          exact ⟨by rw [HR.out]; rfl, by rw [HR.out]; exact HI.out.set1 3, Fg.set _ _ _ _⟩
        · have hn8 : n ≤ 8 := by omega
          have hn8I : (n : Int) ≤ 8 := by omega
          by_cases hz : 0 < n ∧ c = 0
          · have hz1 : (0 : Int) < (n : Int) := by omega
            obtain rfl := hz.2
            have HR := Aside0.mk (show rNum b = (0, b, 3) by unfold rNum; rw [HCN.out, if_neg hlong, if_neg (by omega), hr, if_pos ⟨hz.1, rfl⟩])
            go_wp2
            go_ret
            exact ⟨by rw [HR.out]; rfl, by rw [HR.out]; exact HI.out.set1 3, Fg.set _ _ _ _⟩
          · have HR := Aside0.mk (show rNum b = (hv ((bytesOf b).take (n + 1)), b.extract (n + 1) b.size, 0) by unfold rNum; rw [HCN.out, if_neg hlong, if_neg (by omega), hr, if_neg (by omega)])
            have hcase : ((decide ((0 : Int) < (n : Int))) && ((c : Int) == 0)) = false := by
              rw [Bool.and_eq_false_iff]
              by_cases h0 : 0 < n
              · right
                rw [beq_eq_false_iff_ne]
                omega
              · left
                rw [decide_eq_false_iff_not]
                omega
            have HN8 := Aside0.mk hz
            have hc128 : (c : Int) < 128 := by omega
            have hbl := bytesOf_length b
            obtain ⟨T, hT⟩ : ∃ T, T = (bytesOf b).take (n + 1) := ⟨_, rfl⟩
            have hTl : T.length = n + 1 := by rw [hT, List.length_take]; omega
            have HT := Aside0.mk hT
            have HTl := Aside0.mk hTl
            clear hT hTl hz hr hlong hbl hn
            go_wp2_with fail
            all_goals try (exfalso; have hc0 : ((c : Int) == 0) = true := by assumption
                           simp only [beq_iff_eq] at hc0
                           refine HN8.out ?_; constructor <;> omega)
            all_goals
              clear hcase
              go_loopg [4, 5] (n + 1) (fun kq v4 v5 wq => ∃ (m : Nat), v4 = .int .i64 (hv (T.drop m) : Nat) ∧ v5 = .int .i64 ((m : Int) - 1) ∧ Aside0 (m ≤ n + 1 ∧ kq = m) ∧ wq = wr)
              case atStart => exact ⟨n + 1, by rw [List.drop_of_length_le (by rw [HTl.out]; exact Nat.le_refl _)]; rfl, by congr 1; omega, ⟨Nat.le_refl _, rfl⟩, rfl⟩
              case round =>
                obtain ⟨m, rfl, rfl, ⟨hm, hmq⟩, rfl⟩ := hrel
                have HM := Aside0.mk hmq
                clear hmq
                cases m with
                | zero =>
                  have hl1 : (n : Int) + 1 ≤ (b.size : Int) := by omega
                  go_wp2
                  go_ret
                  exact ⟨by rw [HR.out, HT.out]; rfl, by rw [HR.out]; exact HI.out.set0 _, Fg.set _ _ _ _⟩
                | succ q =>
                  rw [show (((q + 1 : Nat) : Int) - 1) = (q : Int) by omega]
                  have hq0 : (0 : Int) ≤ (q : Int) := Int.natCast_nonneg _
                  have hqb : q < b.size := by omega
                  have hqb1 : (q : Int) < (b.size : Int) := by omega
                  obtain ⟨x, hx⟩ : ∃ x : Nat, (b[q]'hqb).toNat = x := ⟨_, rfl⟩
                  have hTq : T[q]? = some (x : Int) := by
                    rw [HT.out, List.getElem?_take, if_pos (by omega), List.getElem?_eq_getElem (by rw [bytesOf_length]; exact hqb)]
                    simp [bytesOf, ← hx]
                    rfl
                  have hd : T.drop q = (x : Int) :: T.drop (q + 1) := drop_at hTq
                  have hV : hv (T.drop q) = x % 128 + 128 * hv (T.drop (q + 1)) := by rw [hd]; rfl
                  have hVl := hv_lt (T.drop (q + 1))
                  rw [List.length_drop, HTl.out] at hVl
                  have hV8 : hv (T.drop (q + 1)) < 72057594037927936 := Nat.lt_of_lt_of_le hVl (Nat.le_trans (Nat.pow_le_pow_right (by decide) (show n + 1 - (q + 1) ≤ 8 by omega)) (by decide))
                  have HV := Aside0.mk hV
                  obtain ⟨V, hVV⟩ : ∃ V, V = hv (T.drop (q + 1)) := ⟨_, rfl⟩
                  rw [← hVV] at hV8 HV ⊢
                  have hV8I : (V : Int) < 72057594037927936 := by omega
                  have hV0 : (0 : Int) ≤ (V : Int) := by omega
                  clear hTq hd hV hVl hVV hc
                  go_wp2
                  go_roundg q
                  case measure => have := HM.out; omega
                  case rel => exact ⟨q, by rw [HV.out]; congr 1; omega, by go_num, ⟨by omega, rfl⟩, rfl⟩
    · have HCN := Aside0.mk (cnt_eq (bytesOf b) n HN.out (.inl (by rw [bytesOf_length]; omega)))
      obtain rfl : n = b.size := by omega
      by_cases hlong : 8 < b.size ∧ 9 < b.size
      · have hl1 : (8 : Int) < (b.size : Int) := by omega
        have hl2 : (9 : Int) < (b.size : Int) := by omega
        have HR := Aside0.mk (show rNum b = (0, b, 3) by unfold rNum; rw [HCN.out, if_pos hlong])
        go_wp2
        go_ret
        exact ⟨by rw [HR.out]; rfl, by rw [HR.out]; exact HI.out.set1 3, Fg.set _ _ _ _⟩
      · have hl2 : (b.size : Int) ≤ 9 := by omega
        have HR := Aside0.mk (show rNum b = (0, b, 2) by unfold rNum; rw [HCN.out, if_neg hlong, if_pos rfl])
        go_wp2
        all_goals go_ret
        all_goals exact ⟨by rw [HR.out]; rfl, by rw [HR.out]; exact HI.out.set1 2, Fg.set _ _ _ _⟩
end Go.Proofs.Ytjjjinpmflghmaa.Obj
namespace Go.Proofs.Ytjjjinpmflghmaa.Obj
open Go.RowKit Go.Proofs.YtjjjinpmflghmaaW.PrintWords Go.Proofs.YtjjjinpmflghmaaW.PrintMore
set_option linter.unusedVariables false
set_option linter.unusedSimpArgs false
set_option maxHeartbeats 4000000 in
set_option maxRecDepth 100000 in
theorem refnum_calls (v : Nat) (w : World) (hv : v < 9223372036854775808) :
    Calls Try.prog 23 #[.int .i64 (v : Int)] w fun r w' => r = .returned (.string (strOfNums (numB v))) ∧ Below w.heap.size w w' := by
  go_enter Try.func23, Try.ntmps23
  go_wp2_with fail
  go_loopg [0, 3] 10 (fun kq v0 v1 wr => ∃ (u : Nat) (A : Option Addr) (c : Nat) (bs : List Int), v0 = .int .i64 (u : Int) ∧ v1 = .slice A bs.length c ∧ Aside0 (u < 9223372036854775808 ∧ kq = 10 - bs.length ∧ bs ++ numB u = numB v) ∧ Aside0 (wr.ownsRow w.heap.size 5 1 (.slice A bs.length c) bs.length (nums .u8 bs) ∧ Below w.heap.size w wr))
  case atStart => exact ⟨v, none, 0, [], rfl, rfl, ⟨hv, rfl, rfl⟩, ⟨own_nil _ _ _ _, Below.refl _ _⟩⟩
  case round =>
    obtain ⟨u, A, c, bs, rfl, rfl, ⟨hu, hkq, hbs⟩, ⟨ho, hB⟩⟩ := hrel
    have HQ := Aside0.mk hkq
    have HBS := Aside0.mk hbs
    have HO := Aside0.mk ho
    have HB := Aside0.mk hB
    have hws : w.heap.size ≤ wr.heap.size := hB.size
    have hl9 := numB_len9 hv
    have hl : bs.length + (numB u).length ≤ 9 := by rw [← List.length_append, hbs]; exact hl9
    have hl1 : bs.length ≤ 9 := by omega
    have HL := Aside0.mk hl
    clear hkq hbs ho hB hl9 hl
    by_cases h128 : u < 128
    · have h128I : (u : Int) < 128 := by omega
      go_wp2_with (first | (at_builtin; refine Aside0.out ?_))
      refine ⟨?_⟩
      refine print_append_num (w0 := w) w.heap.size rfl (.tmp 15) (.tmp 18) 110 5 .u8 1 rfl Try.underlying110 infoB (by decide) (.slice A bs.length c) bs (u : Int) rfl rfl HO.out HB.out hws (by omega) ?_
      intro v1 w1 ho1 hB1 hg1 hb1
      have he : bs ++ [(u : Int)] = numB v := by rw [← HBS.out, numB_small h128]
      rw [he] at ho1
      have hcv := own_string (P := Try.prog) (src := 110) (dst := 9) Try.underlying110 Try.underlying5 Try.underlying9 ho1
      have HB1 := Aside0.mk hB1
      clear ho1 hB1 hg1 hb1 he
      go_wp2
      go_ret
      exact ⟨rfl, HB1.out⟩
    · have h128I : ¬ (u : Int) < 128 := by omega
      go_wp2_with (first | (at_builtin; refine Aside0.out ?_))
      refine ⟨?_⟩
      have hmod : ((u % 128 + 128 : Nat) : Int) = (u : Int) % 128 + 128 := by omega
      refine print_append_num (w0 := w) w.heap.size rfl (.tmp 6) (.tmp 11) 110 5 .u8 1 rfl Try.underlying110 infoB (by decide) (.slice A bs.length c) bs ((u : Int) % 128 + 128) rfl rfl HO.out HB.out hws (by omega) ?_
      intro v1 w1 ho1 hB1 hg1 hb1
      have hlen : (bs ++ [(u : Int) % 128 + 128]).length = bs.length + 1 := by simp
      obtain ⟨A1, c1, rfl⟩ := own_slice ho1
      obtain ⟨bs1, hbs1⟩ : ∃ x, x = bs ++ [(u : Int) % 128 + 128] := ⟨_, rfl⟩
      rw [← hbs1] at ho1 ⊢
      have HO1 := Aside0.mk ho1
      have HB1 := Aside0.mk hB1
      have HBS1 := Aside0.mk (show bs1 ++ numB (u / 128) = numB v by
        have := HBS.out
        rw [numB_great (by omega), hmod] at this
        rw [hbs1, ← this]
        simp)
      have hl2 : bs1.length = bs.length + 1 := by rw [hbs1]; exact hlen
      have HL2 := Aside0.mk hl2
      clear ho1 hB1 hg1 hb1 hlen hbs1 hl2
      go_wp2
      go_roundg (10 - bs1.length)
      case measure => have := HQ.out; have := HL2.out; omega
      case rel => exact ⟨u / 128, A1, c1, bs1, by first | (congr 1; omega) | go_num, rfl, ⟨by omega, rfl, HBS1.out⟩, ⟨HO1.out, HB1.out⟩⟩
end Go.Proofs.Ytjjjinpmflghmaa.Obj
namespace Go.Proofs.Ytjjjinpmflghmaa.Obj
open Go.RowKit Go.Proofs.YtjjjinpmflghmaaW.PrintWords Go.Proofs.YtjjjinpmflghmaaW.PrintMore
set_option linter.unusedVariables false
set_option linter.unusedSimpArgs false
/-- The document's number, in whatever state. -/
def rNumE (b : ByteArray) (e : Int) : Nat × ByteArray × Int := if e ≠ 0 then (0, b, e) else rNum b
theorem rNumE_eq {b : ByteArray} {e : Int} (h : (iNum b e).2.2 = 0) : rNumE b e = iNum b e := by
  obtain ⟨rfl, _⟩ := iNum_inv h
  obtain ⟨h1, h2, h3⟩ := rNum_iNum b
  unfold rNumE
  rw [if_neg (by simp)]
  exact Prod.ext h1 (Prod.ext (h3 h) h2)
theorem rNum_size (b : ByteArray) : (rNum b).2.1.size ≤ b.size := by
  unfold rNum
  repeat' split
  all_goals simp
theorem rNumE_size (b : ByteArray) (e : Int) : (rNumE b e).2.1.size ≤ b.size := by
  unfold rNumE
  split
  · exact Nat.le_refl _
  · exact rNum_size b
theorem rnumE_calls (g : Nat) (b : ByteArray) (e : Int) (w : World) (h : IsRIn w g b e) (hs : b.size ≤ 140737488355328) :
    Calls Try.prog 63 #[.pointer (some ⟨g, 0, none⟩)] w fun r w' => r = .returned (.int .i64 (rNumE b e).1) ∧ IsRIn w' g (rNumE b e).2.1 (rNumE b e).2.2 ∧ Fg g w w' := by
  unfold rNumE
  by_cases he : e ≠ 0
  · rw [if_pos he]
    refine (rnum_err g b e he w h).mono ?_
    rintro r w1 ⟨rfl, rfl⟩
    exact ⟨rfl, h, Fg.refl _ _⟩
  · rw [if_neg he]
    obtain rfl : e = 0 := by omega
    exact rnum_ok g b w h hs
set_option maxHeartbeats 1000000 in
theorem rraw_calls (g : Nat) (b : ByteArray) (e n : Int) (w : World) (h : IsRIn w g b e) (hs : b.size ≤ 140737488355328) :
    Calls Try.prog 141 #[.pointer (some ⟨g, 0, none⟩), .int .i64 n] w fun r w' => r = .returned (.string (iRaw b e n).1) ∧ IsRIn w' g (iRaw b e n).2.1 (iRaw b e n).2.2 ∧ Fg g w w' := by
  have c0 : w.cell? ⟨g, 0, none⟩ = some (.string b) := (blk_cell h 0).trans rfl
  have c1 : w.cell? ⟨g, 1, none⟩ = some (.int .i64 e) := (blk_cell h 1).trans rfl
  have f0 := blk_frozen h 0
  have f1 := blk_frozen h 1
  have H := Aside0.mk h
  unfold iRaw
  clear h
  by_cases he : e ≠ 0
  · rw [if_pos he]
    have he' : (e != 0) = true := by simpa using he
    clear he
    go_enter Try.func141, Try.ntmps141
    go_wp2
    go_ret
    exact ⟨rfl, H.out, Fg.refl _ _⟩
  · rw [if_neg he]
    obtain rfl : e = 0 := by omega
    by_cases hn : n < 0
    · rw [if_pos hn]
      go_enter Try.func141, Try.ntmps141
      go_wp2
      go_ret
      exact ⟨rfl, H.out.set1 1, Fg.set _ _ _ _⟩
    · rw [if_neg hn]
      by_cases hb : (b.size : Int) < n
      · rw [if_pos hb]
        go_enter Try.func141, Try.ntmps141
        go_wp2
        go_ret
        exact ⟨rfl, H.out.set1 2, Fg.set _ _ _ _⟩
      · rw [if_neg hb]
        obtain ⟨m, rfl⟩ : ∃ m : Nat, n = m := ⟨n.toNat, by omega⟩
        have hmb : m ≤ b.size := by omega
        have hmbI : (m : Int) ≤ (b.size : Int) := by omega
        have hm0 : (0 : Int) ≤ (m : Int) := by omega
        go_enter Try.func141, Try.ntmps141
        go_wp2
        go_ret
        exact ⟨rfl, H.out.set0 _, Fg.set _ _ _ _⟩
set_option maxHeartbeats 1000000 in
theorem rbyte_calls (g : Nat) (b : ByteArray) (e : Int) (w : World) (h : IsRIn w g b e) (hs : b.size ≤ 140737488355328) :
    Calls Try.prog 132 #[.pointer (some ⟨g, 0, none⟩)] w fun r w' => r = .returned (.int .i64 (iByte b e).1) ∧ IsRIn w' g (iByte b e).2.1 (iByte b e).2.2 ∧ Fg g w w' := by
  have HI := Aside0.mk h
  have HR := Aside0.mk (rraw_calls g b e 1 w h hs)
  clear h
  by_cases he : e ≠ 0
  · have hv : iByte b e = (0, b, e) := by simp [iByte, he]
    rw [iRaw_err he] at HR
    rw [hv]
    clear hv he
    go_enter Try.func132, Try.ntmps132
    go_wp2_with fail
    refine HR.out.mono ?_
    have hcc : ByteArray.empty.toList = [] := by decide +kernel
    rintro e1 w1 ⟨rfl, hI, hF⟩
    go_wp2
    go_ret
    exact ⟨rfl, hI, hF⟩
  · obtain rfl : e = 0 := by omega
    by_cases hz : b.size = 0
    · have hv : iByte b 0 = (0, b, 2) := by simp [iByte, hz]
      rw [iRaw1_none hz] at HR
      rw [hv]
      clear hv hz he
      go_enter Try.func132, Try.ntmps132
      go_wp2_with fail
      refine HR.out.mono ?_
      have hcc : ByteArray.empty.toList = [] := by decide +kernel
      rintro e1 w1 ⟨rfl, hI, hF⟩
      go_wp2
      go_ret
      exact ⟨rfl, hI, hF⟩
    · have HR := Aside0.mk (rraw_calls g b 0 1 w (by have := HI.out; exact this) hs)
      rw [iRaw1_some hz] at HR
      obtain ⟨c, hcb, hc256⟩ : ∃ c : Nat, bt b 0 = (c : Int) ∧ c < 256 := by
        have := bt_range b 0
        exact ⟨(bt b 0).toNat, by omega, by omega⟩
      have hx : (b.extract 0 1).size = 1 := by simp; omega
      have hxe : (b.extract 0 1).toList.isEmpty = false := extract1_ne hz
      have hxc : ∀ h : 0 < (b.extract 0 1).size, ((b.extract 0 1)[0]'h).toNat = c := fun h => extract1_at hz h hcb
      obtain ⟨x, hxx⟩ : ∃ x, x = b.extract 0 1 := ⟨_, rfl⟩
      rw [← hxx] at HR hx hxe hxc
      have hv : iByte b 0 = ((c : Int), b.extract 1 b.size, 0) := by simp [iByte, hz, hcb]
      rw [hv]
      clear hxx hz hv hcb he
      go_enter Try.func132, Try.ntmps132
      go_wp2_with fail
      refine HR.out.mono ?_
      rintro e1 w1 ⟨rfl, hI, hF⟩
      have HI2 := Aside0.mk hI
      have HF := Aside0.mk hF
      clear hI hF
      go_wp2
      go_ret
      exact ⟨rfl, HI2.out, HF.out⟩
/-- The document's text. -/
def rText (b : ByteArray) (e : Int) : ByteArray × ByteArray × Int := iRaw (rNumE b e).2.1 (rNumE b e).2.2 (rNumE b e).1
theorem rtext_calls (g : Nat) (b : ByteArray) (e : Int) (w : World) (h : IsRIn w g b e) (hs : b.size ≤ 140737488355328) :
    Calls Try.prog 133 #[.pointer (some ⟨g, 0, none⟩)] w fun r w' => r = .returned (.string (rText b e).1) ∧ IsRIn w' g (rText b e).2.1 (rText b e).2.2 ∧ Fg g w w' := by
  have HN := Aside0.mk (rnumE_calls g b e w h hs)
  have HZ := Aside0.mk (Nat.le_trans (rNumE_size b e) hs)
  unfold rText
  obtain ⟨n, hn⟩ : ∃ n, n = (rNumE b e).1 := ⟨_, rfl⟩
  obtain ⟨b1, hb1⟩ : ∃ b1, b1 = (rNumE b e).2.1 := ⟨_, rfl⟩
  obtain ⟨e1, he1⟩ : ∃ e1, e1 = (rNumE b e).2.2 := ⟨_, rfl⟩
  rw [← hn, ← hb1, ← he1] at HN ⊢
  rw [← hb1] at HZ
  clear h hs hn hb1 he1
  go_enter Try.func133, Try.ntmps133
  go_wp2_with fail
  refine HN.out.mono ?_
  rintro r1 w1 ⟨rfl, hI1, hF1⟩
  have HI1 := Aside0.mk hI1
  have HF1 := Aside0.mk hF1
  clear hI1 hF1
  go_wp2_with fail
  refine (rraw_calls g b1 e1 n w1 HI1.out HZ.out).mono ?_
  rintro r2 w2 ⟨rfl, hI2, hF2⟩
  have HI2 := Aside0.mk hI2
  have HF2 := Aside0.mk hF2
  clear hI2 hF2
  go_wp2
  go_ret
  exact ⟨rfl, HI2.out, HF1.out.trans HF2.out⟩
theorem rend_calls (g : Nat) (b : ByteArray) (e : Int) (w : World) (h : IsRIn w g b e) :
    Calls Try.prog 134 #[.pointer (some ⟨g, 0, none⟩)] w fun r w' => r = .returned (.int .i64 (if e = 0 then (if b.size = 0 then 0 else 3) else e)) ∧ Fg g w w' := by
  have c0 : w.cell? ⟨g, 0, none⟩ = some (.string b) := (blk_cell h 0).trans rfl
  have c1 : w.cell? ⟨g, 1, none⟩ = some (.int .i64 e) := (blk_cell h 1).trans rfl
  have f1 := blk_frozen h 1
  clear h
  by_cases he : e = 0
  · subst he
    rw [if_pos rfl]
    by_cases hz : b.size = 0
    · rw [if_pos hz]
      have hz' : ¬ (0 < b.size) := by omega
      go_enter Try.func134, Try.ntmps134
      go_wp2
      go_ret
      exact ⟨rfl, Fg.refl _ _⟩
    · rw [if_neg hz]
      have hz' : 0 < b.size := by omega
      have hzI : (0 : Int) < (b.size : Int) := by omega
      go_enter Try.func134, Try.ntmps134
      go_wp2
      go_ret
      exact ⟨rfl, Fg.set _ _ _ _⟩
  · rw [if_neg he]
    have he1 : (e == 0) = false := by simpa using he
    go_enter Try.func134, Try.ntmps134
    go_wp2
    go_ret
    exact ⟨rfl, Fg.refl _ _⟩
end Go.Proofs.Ytjjjinpmflghmaa.Obj
