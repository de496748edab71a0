/- What the methods of a grid.Grid come to: its cells, as a list. Conditions: those in each theorem. -/
import Derived.Test.YtcmmdllnbijipaaGridP
import Derived.Test.YtcmmdllnbijipaaObj
import Derived.Tactics
import Derived.RowKit3
import Derived.Deep.LoopGhost
import Derived.Deep.QuietTactic
import Derived.BigQuiet
import Derived.WideLaws
import Derived.Deep.DeepCutAuto
import Derived.Deep.CutBlock
import Derived.Deep.RegionHeld3
import Derived.Laws.Slices
import Derived.Outline
import Derived.Lib.Hide
import Derived.OrdersHeld
import Derived.RowKit
import Derived.WalkSpells
namespace Go.Proofs.Ytcmmdllnbijipaa.Grd
open Go.RowKit Go.Proofs.Ytcmmdllnbijipaa.Mem Go.Proofs.YtcmmdllnbijipaaW.PrintWords Go.Proofs.YtcmmdllnbijipaaW.PrintMore
theorem max2_i (k k' : IntKind) (x y : Int) : Builtin.max2 (.int k x) (.int k' y) = pure (.int k (max x y)) := by
  rw [max2_int]; congr 2; split <;> omega
theorem min2_i (k k' : IntKind) (x y : Int) : Builtin.min2 (.int k x) (.int k' y) = pure (.int k (min x y)) := by
  rw [min2_int]; congr 2; split <;> omega
attribute [local go_sem] max2_i min2_i max_two min_two
set_option linter.unusedVariables false
set_option linter.unusedSimpArgs false

theorem sizeCell : (Try.prog.info? 25).map (·.size) = some 6 := by kernel_rfl
theorem eql_grid (a : Addr) (w : World) : Sem.run Try.prog (binOp .eql 27 (.pointer (some a)) (.pointer none)) w = .ok (.bool false) w := by kernel_rfl
/-- A grid at block g, its cells at block b. -/
def IsGrid (w : World) (g b W H : Nat) (cs : List C6) : Prop :=
  cs.length = W * H ∧ 2 ≤ W ∧ W ≤ 40 ∧ 1 ≤ H ∧ H ≤ 20 ∧ ∃ cap rest, Blk w g 98 #[.int .i64 (W : Int), .int .i64 (H : Int), .slice (some ⟨b, 0, none⟩) (W * H) cap] ∧ Blk w b 25 (fl cs ++ rest).toArray ∧ W * H ≤ cap ∧ cap ≤ maxLen
theorem IsGrid.only {w w' : World} {g b W H : Nat} {cs : List C6} (h : IsGrid w g b W H cs) {gs : List Nat} (ho : Only gs w w') (hg : g ∉ gs) (hb : b ∉ gs) : IsGrid w' g b W H cs := by
  obtain ⟨h1, h2, h3, h4, h5, cap, rest, hG, hB, h6, h7⟩ := h
  exact ⟨h1, h2, h3, h4, h5, cap, rest, hG.only ho hg, hB.only ho hb, h6, h7⟩
theorem IsGrid.below {w w' : World} {g b W H : Nat} {cs : List C6} (h : IsGrid w g b W H cs) (hb : Below w.heap.size w w') : IsGrid w' g b W H cs := h.only (Only.of_below [] hb) (by simp) (by simp)
theorem IsGrid.lt {w : World} {g b W H : Nat} {cs : List C6} (h : IsGrid w g b W H cs) : g < w.heap.size ∧ b < w.heap.size := by
  obtain ⟨h1, h2, h3, h4, h5, cap, rest, hG, hB, h6, h7⟩ := h
  exact ⟨hG.lt, hB.lt⟩
theorem IsGrid.ne {w : World} {g b W H : Nat} {cs : List C6} (h : IsGrid w g b W H cs) : g ≠ b := by
  obtain ⟨h1, h2, h3, h4, h5, cap, rest, hG, hB, h6, h7⟩ := h
  exact hG.ne_ hB (by decide)
/-- Cells of one element. -/
theorem six {w : World} {b : Nat} {cs : List C6} {rest : List Value} (h : Blk w b 25 (fl cs ++ rest).toArray) {i : Nat} {c : C6} (hi : cs[i]? = some c) :
    w.cell? ⟨b, i * 6 + 0, none⟩ = some (.int .i32 c.r) ∧ w.cell? ⟨b, i * 6 + 1, none⟩ = some (.int .i64 c.f) ∧ w.cell? ⟨b, i * 6 + 2, none⟩ = some (.int .i64 c.g) ∧ w.cell? ⟨b, i * 6 + 3, none⟩ = some (.bool c.bo) ∧ w.cell? ⟨b, i * 6 + 4, none⟩ = some (.bool c.un) ∧ w.cell? ⟨b, i * 6 + 5, none⟩ = some (.bool c.iv) :=
  ⟨(h.cell _).trans (fl_cell hi 0 (by omega) rest), (h.cell _).trans (fl_cell hi 1 (by omega) rest), (h.cell _).trans (fl_cell hi 2 (by omega) rest), (h.cell _).trans (fl_cell hi 3 (by omega) rest), (h.cell _).trans (fl_cell hi 4 (by omega) rest), (h.cell _).trans (fl_cell hi 5 (by omega) rest)⟩
/-- One element more is set. -/
theorem put_one (cs : List C6) (rest : List Value) (k i : Nat) (x : C6) (h : k + i + 1 ≤ cs.length) :
    ((fl (put cs k (List.replicate i x)) ++ rest).take (k * 6 + i * 6) ++ x.vals ++ (fl (put cs k (List.replicate i x)) ++ rest).drop (k * 6 + i * 6 + x.vals.length)) = fl (put cs k (List.replicate (i + 1) x)) ++ rest := by
  have h1 := fl_put vals_len (put cs k (List.replicate i x)) rest (k + i) [x] (by rw [put_length _ _ _ (by simp; omega)]; simpa using h)
  have h2 : put (put cs k (List.replicate i x)) (k + i) [x] = put cs k (List.replicate (i + 1) x) := by
    apply List.ext_getElem?
    intro j
    rw [put_get _ _ _ (by rw [put_length _ _ _ (by simp; omega)]; simpa using h), put_get _ _ _ (by simp; omega), put_get _ _ _ (by simp; omega)]
    simp only [List.length_cons, List.length_nil, List.length_replicate]
    by_cases h1 : k + i ≤ j ∧ j < k + i + (0 + 1)
    · rw [if_pos h1, if_pos (by omega)]
      have : j = k + i := by omega
      subst this
      simp [List.getElem?_replicate]
    · rw [if_neg h1]
      by_cases h2 : k ≤ j ∧ j < k + i
      · rw [if_pos h2, if_pos (by omega), List.getElem?_replicate, List.getElem?_replicate, if_pos (by omega), if_pos (by omega)]
      · rw [if_neg h2, if_neg (by omega)]
  rw [h2] at h1
  simp only [List.flatMap_cons, List.flatMap_nil, List.append_nil, Nat.add_mul] at h1
  exact h1
set_option maxHeartbeats 1000000 in
theorem fill_calls (b k m c : Nat) (A : Option Addr) (cs : List C6) (rest : List Value) (x : C6) (w : World) (hb : Blk w b 25 (fl cs ++ rest).toArray) (hA : m = 0 ∨ A = some ⟨b, k * 6, none⟩) (hk : k + m ≤ cs.length) (hl : cs.length ≤ 1000) :
    Calls Try.prog 62 #[.slice A m c, x.val] w fun r w' => r = .returned (.tuple #[]) ∧ Blk w' b 25 (fl (put cs k (List.replicate m x)) ++ rest).toArray ∧ Only [b] w w' := by
  have HB := Aside0.mk hb
  have hbl := hb.lt
  clear hb
  unfold C6.val
  go_enter Try.func62, Try.ntmps62
  go_wp2
  have HG := Aside0.mk (Blk.new w 25 #[.int .i32 x.r, .int .i64 x.f, .int .i64 x.g, .bool x.bo, .bool x.un, .bool x.iv])
  have HB1 := Aside0.mk (HB.out.alloc (.cells #[.int .i32 x.r, .int .i64 x.f, .int .i64 x.g, .bool x.bo, .bool x.un, .bool x.iv] 25))
  have HO1 := Aside0.mk ((Only.refl [b] w).alloc (.cells #[.int .i32 x.r, .int .i64 x.f, .int .i64 x.g, .bool x.bo, .bool x.un, .bool x.iv] 25))
  go_loopg [7] m (fun kq v7 wr => ∃ i : Nat, v7 = .int .i64 i ∧ Aside0 (i ≤ m ∧ kq = m - i) ∧ Aside0 (Blk wr w.heap.size 25 #[.int .i32 x.r, .int .i64 x.f, .int .i64 x.g, .bool x.bo, .bool x.un, .bool x.iv]) ∧ Aside0 (Blk wr b 25 (fl (put cs k (List.replicate i x)) ++ rest).toArray) ∧ Aside0 (Only [b] w wr))
  case atStart => exact ⟨0, rfl, ⟨Nat.zero_le _, rfl⟩, HG, ⟨by simpa [put] using HB1.out⟩, HO1⟩
  case round =>
    obtain ⟨i, rfl, ⟨hi, hkq⟩, HGr, HBr, HOr⟩ := hrel
    have HQ := Aside0.mk hkq
    clear hkq HG HB1 HO1
    by_cases hlt : i < m
    · have hA' : A = some ⟨b, k * 6, none⟩ := by
        rcases hA with h | h
        · omega
        · exact h
      subst hA'
      clear hA
      have c0 : wr.cell? ⟨w.heap.size, 0, none⟩ = some (.int .i32 x.r) := (HGr.out.cell 0).trans rfl
      have c1 : wr.cell? ⟨w.heap.size, 1, none⟩ = some (.int .i64 x.f) := (HGr.out.cell 1).trans rfl
      have c2 : wr.cell? ⟨w.heap.size, 2, none⟩ = some (.int .i64 x.g) := (HGr.out.cell 2).trans rfl
      have c3 : wr.cell? ⟨w.heap.size, 3, none⟩ = some (.bool x.bo) := (HGr.out.cell 3).trans rfl
      have c4 : wr.cell? ⟨w.heap.size, 4, none⟩ = some (.bool x.un) := (HGr.out.cell 4).trans rfl
      have c5 : wr.cell? ⟨w.heap.size, 5, none⟩ = some (.bool x.iv) := (HGr.out.cell 5).trans rfl
      have hsz : k * 6 + i * 6 + 6 ≤ (fl (put cs k (List.replicate i x)) ++ rest).toArray.size := by
        have h1 : (fl (put cs k (List.replicate i x))).length = cs.length * 6 := by rw [fl_len, put_length _ _ _ (by simp; omega)]
        have h2 : (fl (put cs k (List.replicate i x)) ++ rest).toArray.size = (fl (put cs k (List.replicate i x))).length + rest.length := by simp
        omega
      have hone : ∀ v ∈ [Value.int .i32 x.r, .int .i64 x.f, .int .i64 x.g, .bool x.bo, .bool x.un, .bool x.iv], v.oneCell' = true := vals_one x
      have HS := Aside0.mk hsz
      have HN := Aside0.mk hone
      clear hsz hone
      go_wp2_with (refine wpList_store_at _ rfl 25 (.tmp 13) (.tmp 12) rfl b (k * 6 + i * 6) #[.int .i32 x.r, .int .i64 x.f, .int .i64 x.g, .bool x.bo, .bool x.un, .bool x.iv] rfl rfl 25 _ HBr.out sizeCell HS.out HN.out ?_)
      go_roundg (m - (i + 1))
      case measure => have := HQ.out; omega
      case rel =>
        refine ⟨i + 1, by go_num, ⟨by omega, rfl⟩, ⟨HGr.out.farRow (by omega) _⟩, ⟨?_⟩, ⟨HOr.out.setRow b _ (.inl (by simp))⟩⟩
        have h1 := put_one cs rest k i x (by omega)
        simp only [C6.vals, List.append_assoc, List.cons_append, List.nil_append, List.length_cons, List.length_nil] at h1
        rw [← h1]
        exact HBr.out.row _
    · obtain rfl : i = m := by omega
      go_wp2
      go_end0
      exact ⟨rfl, HBr.out, HOr.out⟩
/-- A segment of m elements from the k-th on. -/
def IsSeg (b k m : Nat) (v : Value) : Prop := ∃ A c, v = .slice A m c ∧ m ≤ c ∧ (m = 0 ∨ A = some ⟨b, k * 6, none⟩)
theorem row_in (g b W H X Y : Nat) (cs : List C6) (w : World) (h : IsGrid w g b W H cs) (hx : X < W) (hy : Y < H) :
    Calls Try.prog 63 #[.pointer (some ⟨g, 0, none⟩), .int .i64 (X : Int), .int .i64 (Y : Int)] w fun r w' => (∃ v, r = .returned v ∧ IsSeg b (Y * W + X) (W - X) v) ∧ ∃ n, w.drewN n = w' := by
  obtain ⟨h1, h2, h3, h4, h5, cap, rest, hG, hB, h6, h7⟩ := h
  have hn := eql_grid ⟨g, 0, none⟩
  have c0 : w.cell? ⟨g, 0, none⟩ = some (.int .i64 (W : Int)) := (hG.cell 0).trans rfl
  have c1 : w.cell? ⟨g, 1, none⟩ = some (.int .i64 (H : Int)) := (hG.cell 1).trans rfl
  have c2 : w.cell? ⟨g, 2, none⟩ = some (.slice (some ⟨b, 0, none⟩) (W * H) cap) := (hG.cell 2).trans rfl
  obtain ⟨P, hP⟩ : ∃ P, P = Y * W := ⟨_, rfl⟩
  obtain ⟨J, hJ⟩ : ∃ J, J = (Y + 1) * W := ⟨_, rfl⟩
  obtain ⟨N, hN⟩ : ∃ N, N = W * H := ⟨_, rfl⟩
  have hJN : J ≤ N := by rw [hJ, hN, Nat.mul_comm W H]; exact Nat.mul_le_mul_right W (by omega)
  have hJP : J = P + W := by rw [hJ, hP, Nat.succ_mul]
  have hNl : N ≤ 800 := by rw [hN]; exact wh_le h3 h5
  have hw1 : IntKind.i64.wrap ((Y : Int) * (W : Int)) = (P : Int) := by rw [hP, Int.natCast_mul]; exact IntWalk.i64_in _ (by rw [← Int.natCast_mul, ← hP]; omega)
  have hw2 : IntKind.i64.wrap ((P : Int) + (X : Int)) = ((P + X : Nat) : Int) := IntWalk.i64_in _ (by omega)
  have hw3 : IntKind.i64.wrap ((Y : Int) + 1) = ((Y + 1 : Nat) : Int) := IntWalk.i64_in _ (by omega)
  have hw4 : IntKind.i64.wrap (((Y + 1 : Nat) : Int) * (W : Int)) = (J : Int) := by rw [hJ, Int.natCast_mul]; exact IntWalk.i64_in _ (by rw [← Int.natCast_mul, ← hJ]; omega)
  rw [← hN] at c2 h6
  rw [← hP]
  obtain ⟨I, hI⟩ : ∃ I, I = P + X := ⟨_, rfl⟩
  rw [← hI] at hw2 ⊢
  obtain ⟨Y1, hY1⟩ : ∃ Y1, Y1 = Y + 1 := ⟨_, rfl⟩
  rw [← hY1] at hw3 hw4
  have hWX : W - X = J - I := by omega
  rw [hWX]
  have hIJ : I < J := by omega
  have hJc : J ≤ cap := by omega
  have hne : ¬ cap = I := by omega
  unfold maxLen at h7
  clear hG hB h1 hP hJ hN hJP hWX hI hY1
  go_enter Try.func63, Try.ntmps63
  go_wp2
  go_quiet (fail)
  go_wp2
  go_ret
  exact ⟨⟨_, rfl, _, _, rfl, by omega, .inr rfl⟩, _, rfl⟩
theorem row_out (g b W H : Nat) (x y : Int) (cs : List C6) (w : World) (h : IsGrid w g b W H cs) (hx : ¬ (0 ≤ x ∧ x < W ∧ 0 ≤ y ∧ y < H)) :
    Calls Try.prog 63 #[.pointer (some ⟨g, 0, none⟩), .int .i64 x, .int .i64 y] w fun r w' => r = .returned (.slice none 0 0) ∧ w = w' := by
  obtain ⟨h1, h2, h3, h4, h5, cap, rest, hG, hB, h6, h7⟩ := h
  have hn := eql_grid ⟨g, 0, none⟩
  have c0 : w.cell? ⟨g, 0, none⟩ = some (.int .i64 (W : Int)) := (hG.cell 0).trans rfl
  have c1 : w.cell? ⟨g, 1, none⟩ = some (.int .i64 (H : Int)) := (hG.cell 1).trans rfl
  clear hG hB h1 h6 h7
  by_cases hx0 : x < 0
  · clear hx
    go_enter Try.func63, Try.ntmps63
    go_wp2
    go_ret
    exact ⟨rfl, rfl⟩
  · by_cases hx1 : (W : Int) ≤ x
    · clear hx
      go_enter Try.func63, Try.ntmps63
      go_wp2
      go_ret
      exact ⟨rfl, rfl⟩
    · by_cases hy0 : y < 0
      · clear hx
        go_enter Try.func63, Try.ntmps63
        go_wp2
        go_ret
        exact ⟨rfl, rfl⟩
      · have hy1 : (H : Int) ≤ y := by omega
        clear hx
        go_enter Try.func63, Try.ntmps63
        go_wp2
        go_ret
        exact ⟨rfl, rfl⟩
theorem row_calls (g b W H : Nat) (x y : Int) (cs : List C6) (w : World) (h : IsGrid w g b W H cs) :
    Calls Try.prog 63 #[.pointer (some ⟨g, 0, none⟩), .int .i64 x, .int .i64 y] w fun r w' => (∃ v, r = .returned v ∧ IsSeg b (ix W x y) (if inG W H x y = true then W - x.toNat else 0) v) ∧ ∃ n, w.drewN n = w' := by
  by_cases hi : inG W H x y = true
  · rw [if_pos hi]
    have hi' := inG_iff.1 hi
    obtain ⟨X, rfl⟩ := Int.eq_ofNat_of_zero_le hi'.1
    obtain ⟨Y, rfl⟩ := Int.eq_ofNat_of_zero_le hi'.2.2.1
    exact row_in g b W H X Y cs w h (by omega) (by omega)
  · rw [if_neg hi]
    refine (row_out g b W H x y cs w h (fun h => hi (inG_iff.2 h))).mono ?_
    rintro r w' ⟨rfl, rfl⟩
    exact ⟨⟨_, rfl, _, _, rfl, Nat.le_refl _, .inl rfl⟩, 0, rfl⟩
set_option maxHeartbeats 1000000 in
set_option maxRecDepth 100000 in
theorem at_in (g b W H : Nat) (x y : Int) (cs : List C6) (q : C6) (w : World) (h : IsGrid w g b W H cs) (hi : inG W H x y = true) (hq : cs[ix W x y]? = some q) :
    Calls Try.prog 18 #[.pointer (some ⟨g, 0, none⟩), .int .i64 x, .int .i64 y] w fun r w' => r = .returned (.agg #[.int .i32 q.r, .int .i64 q.f, .int .i64 q.g, .bool q.bo, .bool q.un, .bool q.iv]) ∧ Below w.heap.size w w' := by
  have hu := Try.underlying25
  have hua := Try.underlying23
  have hlen := h.1
  have HG := Aside0.mk (h.below (below_alloc (Below.refl _ _) (.cells #[.int .i32 0, .int .i64 0, .int .i64 0, .bool false, .bool false, .bool false] 25)))
  have HN := Aside0.mk (Blk.new w 25 #[.int .i32 0, .int .i64 0, .int .i64 0, .bool false, .bool false, .bool false])
  have HB := Aside0.mk (below_alloc (Below.refl w.heap.size w) (.cells #[.int .i32 0, .int .i64 0, .int .i64 0, .bool false, .bool false, .bool false] 25))
  have hrow := fun W1 hh => row_calls g b W H x y cs W1 hh
  have hi' := inG_iff.1 hi
  simp only [hi, if_true] at hrow
  have HR := Aside0.mk hrow
  have HI := Aside0.mk hi
  obtain ⟨M, hM⟩ : ∃ M, M = W - x.toNat := ⟨_, rfl⟩
  rw [← hM] at HR
  have hm : 0 < M := by omega
  have hm0 : ¬ M = 0 := by omega
  clear h hrow hi hi' hM
  go_enter Try.func18, Try.ntmps18
  go_wp2_with fail
  refine (HR.out _ HG.out).mono ?_
  rintro e1 w1 ⟨⟨v, rfl, A, c, rfl, hc, hA⟩, n, rfl⟩
  have hA' : A = some ⟨b, ix W x y * 6, none⟩ := by
    rcases hA with h | h
    · omega
    · exact h
  subst hA'
  obtain ⟨h1, h2, h3, h4, h5, cap, rest, hG, hB, h6, h7⟩ := HG.out
  obtain ⟨c0, c1, c2, c3, c4, c5⟩ := six hB hq
  rw [Nat.add_zero] at c0
  obtain ⟨I, hI⟩ : ∃ I, I = ix W x y * 6 := ⟨_, rfl⟩
  rw [← hI] at c0 c1 c2 c3 c4 c5 ⊢
  have HNN := Aside0.mk (HN.out.drewN n)
  have HQ6 := Aside0.mk sizeCell
  have HB2 := Aside0.mk (HB.out.trans (pw_below_drewN (Below.refl _ _) n))
  clear hG hB h1 h2 h3 h4 h5 h6 h7 hq hA hI hlen
  have f0 := HNN.out.frozen
  go_wp2
  have HX := Blk.set_ (Blk.set_ (Blk.set_ (Blk.set_ (Blk.set_ (Blk.set_ HNN.out 0 (.int .i32 q.r)) 1 (.int .i64 q.f)) 2 (.int .i64 q.g)) 3 (.bool q.bo)) 4 (.bool q.un)) 5 (.bool q.iv)
  exact bodyPost_ret (results_cell_row rfl _ _ w.heap.size 25 #[.int .i32 q.r, .int .i64 q.f, .int .i64 q.g, .bool q.bo, .bool q.un, .bool q.iv] (0, 0) _ rfl HX hu rfl sizeCell) rfl ⟨rfl, (((((HB2.out.setCell (Nat.le_refl _) _).setCell (Nat.le_refl _) _).setCell (Nat.le_refl _) _).setCell (Nat.le_refl _) _).setCell (Nat.le_refl _) _).setCell (Nat.le_refl _) _⟩
theorem at_out (g b W H : Nat) (x y : Int) (cs : List C6) (w : World) (h : IsGrid w g b W H cs) (hi : ¬ (0 ≤ x ∧ x < W ∧ 0 ≤ y ∧ y < H)) :
    Calls Try.prog 18 #[.pointer (some ⟨g, 0, none⟩), .int .i64 x, .int .i64 y] w fun r w' => r = .returned (.agg #[.int .i32 0, .int .i64 0, .int .i64 0, .bool false, .bool false, .bool false]) ∧ Below w.heap.size w w' := by
  have hu := Try.underlying25
  have hua := Try.underlying23
  have HG := Aside0.mk (h.below (below_alloc (Below.refl _ _) (.cells #[.int .i32 0, .int .i64 0, .int .i64 0, .bool false, .bool false, .bool false] 25)))
  have HN := Aside0.mk (Blk.new w 25 #[.int .i32 0, .int .i64 0, .int .i64 0, .bool false, .bool false, .bool false])
  have HB := Aside0.mk (below_alloc (Below.refl w.heap.size w) (.cells #[.int .i32 0, .int .i64 0, .int .i64 0, .bool false, .bool false, .bool false] 25))
  have HI := Aside0.mk hi
  have HQ6 := Aside0.mk sizeCell
  clear h hi
  go_enter Try.func18, Try.ntmps18
  go_wp2_with fail
  refine (row_out g b W H x y cs _ HG.out HI.out).mono ?_
  rintro e1 w1 ⟨rfl, rfl⟩
  go_wp2_with (refine wpList_store_row rfl 25 (.tmp 6) (.tmp 15) rfl w.heap.size #[.int .i32 0, .int .i64 0, .int .i64 0, .bool false, .bool false, .bool false] rfl rfl 25 _ HN.out HQ6.out rfl rfl ?_)
  exact bodyPost_ret (results_cell_row rfl _ _ w.heap.size 25 _ (0, 0) _ rfl HN.out hu rfl sizeCell) rfl ⟨rfl, HB.out⟩
theorem at_calls (g b W H : Nat) (x y : Int) (cs : List C6) (w : World) (h : IsGrid w g b W H cs) :
    Calls Try.prog 18 #[.pointer (some ⟨g, 0, none⟩), .int .i64 x, .int .i64 y] w fun r w' => r = .returned (gAt W H cs x y).val ∧ Below w.heap.size w w' := by
  by_cases hi : inG W H x y = true
  · have hq : cs[ix W x y]? = some (gAt W H cs x y) := by
      have := ix_lt' hi
      have hl := h.1
      simp [gAt, hi, show ix W x y < cs.length by omega]
    exact at_in g b W H x y cs _ w h hi hq
  · have hg : gAt W H cs x y = zC := by simp [gAt, hi]
    rw [hg]
    exact at_out g b W H x y cs w h (fun h => hi (inG_iff.2 h))
theorem w_calls (g b W H : Nat) (cs : List C6) (w : World) (h : IsGrid w g b W H cs) : Calls Try.prog 15 #[.pointer (some ⟨g, 0, none⟩)] w fun r w' => r = .returned (.int .i64 (W : Int)) ∧ w = w' := by
  obtain ⟨h1, h2, h3, h4, h5, cap, rest, hG, hB, h6, h7⟩ := h
  have hn := eql_grid ⟨g, 0, none⟩
  have c0 : w.cell? ⟨g, 0, none⟩ = some (.int .i64 (W : Int)) := (hG.cell 0).trans rfl
  clear hG hB h1 h6 h7
  go_enter Try.func15, Try.ntmps15
  go_wp2
  go_ret
  exact ⟨rfl, rfl⟩
theorem h_calls (g b W H : Nat) (cs : List C6) (w : World) (h : IsGrid w g b W H cs) : Calls Try.prog 16 #[.pointer (some ⟨g, 0, none⟩)] w fun r w' => r = .returned (.int .i64 (H : Int)) ∧ w = w' := by
  obtain ⟨h1, h2, h3, h4, h5, cap, rest, hG, hB, h6, h7⟩ := h
  have hn := eql_grid ⟨g, 0, none⟩
  have c0 : w.cell? ⟨g, 1, none⟩ = some (.int .i64 (H : Int)) := (hG.cell 1).trans rfl
  clear hG hB h1 h6 h7
  go_enter Try.func16, Try.ntmps16
  go_wp2
  go_ret
  exact ⟨rfl, rfl⟩
/-- Cells that come in. -/
def Src (w : World) (A : Option Addr) (n : Nat) (l : List C6) : Prop := l.length = n ∧ (n = 0 ∨ ∃ ad, A = some ad ∧ ∀ j v, (fl l)[j]? = some v → w.cell? (ad.add j) = some v)
theorem Src.only {w w' : World} {A : Option Addr} {n : Nat} {l : List C6} (h : Src w A n l) (hb : Below w.heap.size w w') : Src w' A n l := by
  refine ⟨h.1, h.2.imp id ?_⟩
  rintro ⟨ad, hA, hc⟩
  exact ⟨ad, hA, fun j v hv => pw_cell_below hb (hc j v hv)⟩
theorem Src.drewN {w : World} {A : Option Addr} {n : Nat} {l : List C6} (h : Src w A n l) (k : Nat) : Src (w.drewN k) A n l := h
theorem Src.new (w : World) (l : List C6) (cs : Array Value) (hcs : cs = (fl l).toArray) : Src (w.alloc (.cells cs 25)) (some ⟨w.heap.size, 0, none⟩) l.length l := by
  subst hcs
  refine ⟨rfl, .inr ⟨_, rfl, fun j v hv => ?_⟩⟩
  have e : (⟨w.heap.size, 0, none⟩ : Addr).add j = ⟨w.heap.size, j, none⟩ := by unfold Addr.add; split <;> simp_all
  rw [e, (Blk.new w 25 _).cell j]
  simpa using hv
theorem IsGrid.put_ {w : World} {g b W H : Nat} {cs : List C6} (h : IsGrid w g b W H cs) : ∃ rest, Blk w b 25 (fl cs ++ rest).toArray ∧ ∀ cs' w', cs'.length = cs.length → Blk w' b 25 (fl cs' ++ rest).toArray → Only [b] w w' → IsGrid w' g b W H cs' := by
  have hne := h.ne
  obtain ⟨h1, h2, h3, h4, h5, cap, rest, hG, hB, h6, h7⟩ := h
  exact ⟨rest, hB, fun cs' w' hl hb ho => ⟨by omega, h2, h3, h4, h5, cap, rest, hG.only ho (by simpa using hne), hb, h6, h7⟩⟩
theorem copy_cells {w : World} {b k m : Nat} {cs : List C6} {rest : List Value} {v : Value} {A2 : Option Addr} {n2 c2 : Nat} {l : List C6} (ty : TypeId) (hb : Blk w b 25 (fl cs ++ rest).toArray) (hv : IsSeg b k m v) (hk : k + m ≤ cs.length) (hs : Src w A2 n2 l) :
    ∃ w', (Builtin.copy_ #[39, 39] ty #[v, .slice A2 n2 c2]).run Try.prog w = .ok (.int .i64 ((min n2 m : Nat) : Int)) w' ∧ Blk w' b 25 (fl (put cs k (l.take m)) ++ rest).toArray ∧ Only [b] w w' := by
  obtain ⟨A, c, rfl, hc, hA⟩ := hv
  by_cases hz : min n2 m = 0
  · refine ⟨w, ?_, ?_, Only.refl _ _⟩
    · have := run_copy_zero Try.prog w 39 39 ty 25 A A2 m c n2 c2 6 Try.underlying39 sizeCell hz
      rw [this, hz]
      rfl
    · have : l.take m = [] := by
        have := hs.1
        apply List.eq_nil_of_length_eq_zero
        rw [List.length_take]; omega
      rw [this]
      simpa [put] using hb
  · have hA' : A = some ⟨b, k * 6, none⟩ := by
      rcases hA with h | h
      · omega
      · exact h
    subst hA'
    obtain ⟨hl, hs⟩ := hs
    obtain ⟨ad, rfl, hsrc⟩ : ∃ ad, A2 = some ad ∧ ∀ j v, (fl l)[j]? = some v → w.cell? (ad.add j) = some v := by
      rcases hs with h | h
      · omega
      · exact h
    have hlt : (l.take m).length = min n2 m := by rw [List.length_take, hl, Nat.min_comm]
    have hfit : k * 6 + (fl (l.take m)).length ≤ (fl cs ++ rest).toArray.size := by
      have h1 : (fl cs ++ rest).toArray.size = cs.length * 6 + rest.length := by simp [fl_len]
      have h2 := fl_len (l.take m)
      omega
    have hr := run_copy_rowN Try.prog w 39 39 ty 25 b (k * 6) m c ad n2 c2 (fl cs ++ rest).toArray 25 (fl (l.take m)) 6 Try.underlying39 sizeCell hb (by rw [fl_len, hlt])
      (fun j v hv => hsrc j v (by
        unfold fl at hv ⊢
        rw [← fl_take vals_len, List.getElem?_take] at hv
        split at hv
        · exact hv
        · cases hv)) hfit (fl_one _)
    refine ⟨_, hr, ?_, (Only.refl _ _).setRow b _ (.inl (by simp))⟩
    have h1 := fl_put vals_len cs rest k (l.take m) (by omega)
    have h2 := hb.row (((fl cs ++ rest).toArray.toList.take (k * 6) ++ fl (l.take m) ++ (fl cs ++ rest).toArray.toList.drop (k * 6 + (fl (l.take m)).length)).toArray)
    unfold fl at h2 ⊢
    rw [← h1]
    exact h2
theorem set_calls (g b W H : Nat) (x y : Int) (A2 : Option Addr) (n2 c2 : Nat) (l : List C6) (cs : List C6) (w : World) (h : IsGrid w g b W H cs) (hs : Src w A2 n2 l) :
    Calls Try.prog 19 #[.pointer (some ⟨g, 0, none⟩), .int .i64 x, .int .i64 y, .slice A2 n2 c2] w fun r w' => r = .returned (.int .i64 (gSetN W H x y n2 : Nat)) ∧ IsGrid w' g b W H (gSet W H cs x y l) ∧ Only [b] w w' := by
  have HG := Aside0.mk h
  have HS := Aside0.mk hs
  have hlen := h.1
  obtain ⟨rest, hB, hK⟩ := h.put_
  have HB := Aside0.mk hB
  have HK := Aside0.mk hK
  clear h hs hB hK
  obtain ⟨M, hM⟩ : ∃ M, M = if inG W H x y = true then W - x.toNat else 0 := ⟨_, rfl⟩
  have hfit : ix W x y + M ≤ cs.length ∨ M = 0 := by
    by_cases hi : inG W H x y = true
    · have := ix_lt hi
      rw [if_pos hi] at hM
      omega
    · rw [if_neg hi] at hM
      omega
  have HE := Aside0.mk (show gSetN W H x y n2 = min n2 M ∧ gSet W H cs x y l = if M = 0 then cs else put cs (ix W x y) (l.take M) by
    by_cases hi : inG W H x y = true
    · have := inG_iff.1 hi
      rw [if_pos hi] at hM
      have hM0 : ¬ M = 0 := by omega
      simp [gSetN, gSet, hi, hM, hM0]
      try omega
    · rw [if_neg hi] at hM
      simp [gSetN, gSet, hi, hM])
  have HR := Aside0.mk (row_calls g b W H x y cs w HG.out)
  rw [← hM] at HR
  clear hM
  go_enter Try.func19, Try.ntmps19
  go_wp2_with fail
  refine HR.out.mono ?_
  rintro e1 w1 ⟨⟨v, rfl, hv⟩, n, rfl⟩
  obtain ⟨k, hk, hv', hput⟩ : ∃ k, k + M ≤ cs.length ∧ IsSeg b k M v ∧ put cs k (l.take M) = if M = 0 then cs else put cs (ix W x y) (l.take M) := by
    by_cases hM0 : M = 0
    · subst hM0
      obtain ⟨A, c, hv1, hv2, _⟩ := hv
      exact ⟨0, by omega, ⟨A, c, hv1, hv2, .inl rfl⟩, by simp [put]⟩
    · refine ⟨ix W x y, by omega, hv, by rw [if_neg hM0]⟩
  obtain ⟨w2, hr, hb2, ho2⟩ := copy_cells (c2 := c2) 3 (HB.out.drewN n) hv' hk (HS.out.drewN n)
  have HP := Aside0.mk (show put cs k (l.take M) = gSet W H cs x y l by rw [hput, HE.out.2])
  have HPL := Aside0.mk (put_length cs k (l.take M) (by rw [List.length_take]; omega))
  have HB2 := Aside0.mk hb2
  have HO2 := Aside0.mk (((Only.refl [b] w).drewN n).trans ho2)
  have HRR := Aside0.mk hr
  clear hb2 ho2 hr hv hlen hv' hput hk hfit
  go_wp2_with (with_reducible refine wpList_copy_of _ rfl (.tmp 12) (.tmp 13) 39 39 v (.slice A2 n2 c2) rfl ?_ ?_ HRR.out ?_)
  · rfl
  · rfl
  go_ret
  rw [HE.out.1, ← HP.out]
  exact ⟨rfl, HK.out _ _ HPL.out HB2.out HO2.out, HO2.out⟩
end Go.Proofs.Ytcmmdllnbijipaa.Grd
