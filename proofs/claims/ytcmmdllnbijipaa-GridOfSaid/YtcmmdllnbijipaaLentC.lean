/- Lists of cells that are lent, with a mark behind them; kinds of the printed texts; a nil grid. Conditions: those in each theorem. -/
import Derived.Test.YtcmmdllnbijipaaGrid4
import Derived.Test.YtcmmdllnbijipaaOpC
import Derived.Test.YtcmmdllnbijipaaLawGA
import Derived.Test.YtcmmdllnbijipaaPGridOfm
import Derived.Test.YtcmmdllnbijipaaPGridOfx4
namespace Go.Proofs.Ytcmmdllnbijipaa.Grd
open Go.RowKit Go.Proofs.Ytcmmdllnbijipaa.Mem Go.Proofs.YtcmmdllnbijipaaW.PrintWords Go.Proofs.YtcmmdllnbijipaaW.PrintMore Go.Proofs.Ytcmmdllnbijipaa.PGridOf
attribute [local go_sem] max2_i min2_i max_two min_two
set_option linter.unusedVariables false
set_option linter.unusedSimpArgs false
/-- A cell as the printed texts have it. -/
def toS (c : C6) : S25 := ⟨c.r, ⟨c.f, c.g, c.bo, c.un, c.iv⟩⟩
theorem c25_of {w : World} {A : Option Addr} {n : Nat} {l : List C6} (h : Src w A n l) (hl : n ≤ 1000000) : Kd.C k25 w A (l.map toS).length (l.map toS) := by
  obtain ⟨h1, h2⟩ := h
  refine ⟨rfl, by simp; omega, fun h0 => ?_⟩
  rw [List.length_map, h1] at h0
  rcases h2 with h2 | ⟨ad, hA, hc⟩
  · omega
  · refine ⟨ad, hA, fun i x hx => ?_⟩
    rw [List.getElem?_map] at hx
    cases hq : l[i]? with
    | none => rw [hq] at hx; cases hx
    | some q =>
      rw [hq] at hx
      injection hx with hx
      subst hx
      refine ⟨q.vals, rfl, k25_mk w (toS q), fun j u hu => ?_⟩
      have hj : j < 6 := (List.getElem?_eq_some_iff.1 hu).1
      exact hc _ u ((fl_at vals_len hq hj).trans hu)
theorem same_ok (l : List S25) (hl : l.length ≤ 1000000) : ∀ k i, l.length + 1 ≤ k + i → i ≤ l.length → pontoonbook_SameCells.l0 k l l (i : Int) = some true := by
  intro k
  induction k with
  | zero => intro i h1 h2; omega
  | succ k ih =>
    intro i h1 h2
    simp only [pontoonbook_SameCells.l0]
    by_cases hlt : i < l.length
    · have hw : wrap64 ((i : Int) + 1) = ((i + 1 : Nat) : Int) := by unfold wrap64; omega
      rw [if_pos (by omega), if_pos (by omega), if_pos (by omega), if_pos (by simp), hw]
      exact ih (i + 1) (by omega) (by omega)
    · rw [if_neg (by omega)]
theorem same_calls (A0 : Option Addr) (n0 c0 : Nat) (A1 : Option Addr) (n1 c1 : Nat) (l : List C6) (w : World) (h0 : Src w A0 n0 l) (hc0 : n0 ≤ c0) (h1 : Src w A1 n1 l) (hc1 : n1 ≤ c1) (hl : l.length ≤ 1000000) :
    Calls Try.prog 34 #[.slice A0 n0 c0, .slice A1 n1 c1] w fun r w' => r = .returned (.bool true) ∧ ∃ n, w.drewN n = w' := by
  have e0 := h0.1
  have e1 := h1.1
  have hs : pontoonbook_SameCells.f (l.length + 1) (l.map toS) (l.map toS) = some true := by
    unfold pontoonbook_SameCells.f
    rw [if_pos rfl]
    exact same_ok _ (by simpa using hl) _ 0 (by simp) (by omega)
  have h := pontoonbook_SameCells.calls (l.length + 1) A0 c0 (l.map toS) A1 c1 (l.map toS) true w (c25_of h0 (by omega)) (by simp; omega) (c25_of h1 (by omega)) (by simp; omega) hs
  rw [List.length_map] at h
  rw [← e0]
  rw [show n1 = l.length by omega]
  refine h.mono ?_
  rintro r w' ⟨rfl, ⟨n, rfl⟩⟩
  exact ⟨rfl, n, rfl⟩
/-- The mark. -/
def mC : C6 := ⟨77, 0, 0, false, false, false⟩
/-- A list's cells, and the mark behind them, in a row of the call's own. -/
def LentC (w : World) (B g c : Nat) (l : List C6) : Prop := B ≤ g ∧ l.length + 1 ≤ c ∧ c ≤ maxLen ∧ ∃ rest, Blk w g 25 (fl (l ++ [mC]) ++ rest).toArray
theorem LentC.only {w w' : World} {B g c : Nat} {l : List C6} (h : LentC w B g c l) {gs : List Nat} (ho : Only gs w w') (hg : g ∉ gs) : LentC w' B g c l := by
  obtain ⟨h1, h2, h3, rest, h4⟩ := h
  exact ⟨h1, h2, h3, rest, h4.only ho hg⟩
theorem LentC.below {w w' : World} {B g c : Nat} {l : List C6} (h : LentC w B g c l) (hb : Below w.heap.size w w') : LentC w' B g c l := h.only (Only.of_below [] hb) (by simp)
theorem LentC.src {w : World} {B g c : Nat} {l : List C6} (h : LentC w B g c l) : Src w (some ⟨g, 0, none⟩) l.length l := by
  obtain ⟨h1, h2, h3, rest, h4⟩ := h
  have := seg_src (A := some ⟨g, 0, none⟩) (k := 0) (m := l.length) h4 (by simp) (.inr (by rw [Nat.zero_mul]))
  rw [List.drop_zero, List.take_append_of_le_length (Nat.le_refl _), List.take_of_length_le (Nat.le_refl _)] at this
  exact this
theorem own_blk {w : World} {B : Nat} {v : Value} {n : Nat} {xs : List Value} (h : w.ownsRow B 25 6 v n xs) (hn : 0 < n) : ∃ g c rest, v = .slice (some ⟨g, 0, none⟩) n c ∧ B ≤ g ∧ n ≤ c ∧ c ≤ maxLen ∧ Blk w g 25 (xs ++ rest).toArray := by
  rcases h.2 with ⟨_, h2⟩ | ⟨g, c, cur, h2, h3, h4, h5, h6, h7, h8⟩
  · omega
  · refine ⟨g, c, cur.toList.drop (n * 6), h2, h3, h5, h6, ?_⟩
    unfold Blk
    rw [h4, ← h8, List.take_append_drop, Array.toArray_toList]
set_option maxHeartbeats 4000000 in
set_option maxRecDepth 100000 in
theorem lent_calls (A : Option Addr) (n c : Nat) (l : List C6) (w : World) (h : Src w A n l) (hl : n ≤ 100000) :
    Calls Try.prog 31 #[.slice A n c] w fun r w' => ∃ g c', r = .returned (.slice (some ⟨g, 0, none⟩) n c') ∧ LentC w' w.heap.size g c' l ∧ Below w.heap.size w w' := by
  obtain ⟨iC, hiC, hz0, hz1, hz2⟩ := info_parts infoCell
  -- the copy
  have hcopy : ∃ v w1, (Builtin.append_ #[39, 39] 39 #[.slice none 0 0, .slice A n c]).run Try.prog w = .ok v w1 ∧ w1.ownsRow w.heap.size 25 6 v n (fl l) ∧ Below w.heap.size w w1 := by
    obtain ⟨h1, h2⟩ := h
    rcases h2 with h2 | ⟨ad, rfl, hc⟩
    · subst h2
      have hl0 : l = [] := List.eq_nil_of_length_eq_zero h1
      subst hl0
      cases A with
      | none =>
        refine ⟨.slice none 0 0, w, ?_, World.ownsRow_nil _ _ _ _, Below.refl _ _⟩
        simp [Builtin.append_, run_underlying Try.underlying39, sizeOf, typeInfo, hiC, Builtin.lenOf, Builtin.firstCells]
      | some ad =>
        obtain ⟨v, w1, hr, ho, hg, _, _⟩ := run_append_own_at (P := Try.prog) w w.heap.size 39 39 25 iC _ 6 32 Try.underlying39 hiC hz0 hz1 hz2 rfl (by decide) _ 0 [] (World.ownsRow_nil _ _ _ _) ad 0 c [] rfl (fun j u h => by simp at h) (fun u h => by simp at h) (by unfold maxLen; omega) (by omega) (Nat.le_refl _)
        exact ⟨v, w1, hr, ho, ⟨hg.os, hg.tape, hg.output, hg.size, fun k hk => hg.block k hk (by simp [Value.ownBlock])⟩⟩
    · obtain ⟨v, w1, hr, ho, hg, _, _⟩ := run_append_own_at (P := Try.prog) w w.heap.size 39 39 25 iC _ 6 32 Try.underlying39 hiC hz0 hz1 hz2 rfl (by decide) _ 0 [] (World.ownsRow_nil _ _ _ _) ad n c (fl l) (by rw [fl_len, h1]) hc (fl_one l) (by unfold maxLen; omega) (by omega) (Nat.le_refl _)
      rw [Nat.zero_add, List.nil_append] at ho
      exact ⟨v, w1, hr, ho, ⟨hg.os, hg.tape, hg.output, hg.size, fun k hk => hg.block k hk (by simp [Value.ownBlock])⟩⟩
  obtain ⟨v, w1, hr, ho, hb⟩ := hcopy
  have HR := Aside0.mk hr
  have HB := Aside0.mk hb
  have HL := Aside0.mk h.1
  -- the mark
  have ho2 : (w1.alloc (.cells #[.int .i32 77, .int .i64 0, .int .i64 0, .bool false, .bool false, .bool false] 25)).ownsRow w.heap.size 25 6 v n (fl l) := ho.alloc _
  obtain ⟨v3, w3, hr3, ho3, hg3, _, _⟩ := run_append_own_at (P := Try.prog) _ w.heap.size 39 39 25 iC _ 6 32 Try.underlying39 hiC hz0 hz1 hz2 rfl (by decide) v n (fl l) ho2 ⟨w1.heap.size, 0, none⟩ 1 1 (fl [mC]) rfl
    (fun j u hu => by
      have e : (⟨w1.heap.size, 0, none⟩ : Addr).add j = ⟨w1.heap.size, j, none⟩ := by unfold Addr.add; split <;> simp_all
      rw [e, (Blk.new w1 25 _).cell j]
      have hu' : #[.int .i32 77, .int .i64 0, .int .i64 0, .bool false, .bool false, .bool false][j]? = some u := by rw [← hu]; simp [fl, mC, C6.vals]
      exact hu') (fl_one _) (by unfold maxLen; omega) (by omega) (by have := hb.size; simp; omega)
  have HR3 := Aside0.mk hr3
  have hfl : fl l ++ fl [mC] = fl (l ++ [mC]) := by simp [fl, List.flatMap_append]
  rw [hfl] at ho3
  obtain ⟨g, c', rest, rfl, hg1, hg2, hg4, hg5⟩ := own_blk ho3 (by omega)
  have HB3 := Aside0.mk (show Below w.heap.size w w3 from (below_alloc hb (.cells #[.int .i32 77, .int .i64 0, .int .i64 0, .bool false, .bool false, .bool false] 25)).trans ⟨hg3.os, hg3.tape, hg3.output, hg3.size, fun k hk => hg3.block k (by have := hb.size; simp; omega) (fun e => by
    have := ho2.lt k e.symm
    omega)⟩)
  have HLC := Aside0.mk (show LentC w3 w.heap.size g c' l from ⟨hg1, by rw [h.1]; exact hg2, hg4, rest, hg5⟩)
  have hn1 : (n : Int) ≤ (c' : Int) := by omega
  clear hr ho hb ho2 hr3 ho3 hg3 hg5 h hg1 hiC hz0 hz1 hz2 hfl
  go_enter Try.func31, Try.ntmps31
  go_wp2_with fail
  have hcp : Calls Try.prog 71 #[.slice A n c] w fun r w' => r = .returned v ∧ w1 = w' := by
    go_enter Try.func71, Try.ntmps71
    go_wp2_with (with_reducible refine wpList_append_of rfl (.const (.slice none 0 0)) (.tmp 3) 39 39 (.slice none 0 0) (.slice A n c) rfl ?_ ?_ HR.out ?_)
    all_goals first | rfl | skip
    go_ret
    exact ⟨rfl, rfl⟩
  refine hcp.mono ?_
  clear hcp
  rintro e1 w4 ⟨rfl, rfl⟩
  go_wp2_with (with_reducible refine wpList_append_of rfl (.tmp 4) (.tmp 6) 39 39 v (.slice (some ⟨w1.heap.size, 0, none⟩) 1 1) rfl ?_ ?_ HR3.out ?_)
  all_goals first | rfl | skip
  go_ret
  exact ⟨_, _, rfl, HLC.out, HB3.out⟩
set_option maxHeartbeats 4000000 in
set_option maxRecDepth 100000 in
theorem stays_calls (B g c' : Nat) (A : Option Addr) (n c : Nat) (l : List C6) (w : World) (h : LentC w B g c' l) (h2 : Src w A n l) (hc : n ≤ c) (hl : n ≤ 100000) :
    Calls Try.prog 35 #[.slice (some ⟨g, 0, none⟩) n c', .slice A n c] w fun r w' => r = .returned (.bool true) ∧ ∃ n, w.drewN n = w' := by
  have h0 := h2.1
  have hS := same_calls (some ⟨g, 0, none⟩) n c' A n c l w (by rw [← h0]; exact h.src) (by have := h.2.1; omega) h2 hc (by omega)
  have HS := Aside0.mk hS
  have hcap := h.2.1
  obtain ⟨_, _, hm, rest, hb⟩ := h
  have hq : (l ++ [mC])[n]? = some mC := by rw [List.getElem?_append_right (by omega)]; simp [h0]
  have x0 : w.cell? ⟨g, n * 6, none⟩ = some (.int .i32 77) := (hb.cell _).trans ((fl_cell hq 0 (by omega) rest).trans rfl)
  have hw : IntKind.i64.wrap ((n : Int) + 1) = ((n + 1 : Nat) : Int) := IntWalk.i64_in _ (by omega)
  obtain ⟨n1, hn1⟩ : ∃ n1, n1 = n + 1 := ⟨_, rfl⟩
  rw [← hn1] at hw
  have hnn : (n : Int) < (n1 : Int) := by omega
  have hn0 : (0 : Int) ≤ (n : Int) := Int.natCast_nonneg _
  have hnc : n1 ≤ c' := by omega
  unfold maxLen at hm
  clear hb hq hS h2 hcap h0 hn1
  go_enter Try.func35, Try.ntmps35
  go_wp2_with fail
  refine HS.out.mono ?_
  rintro e1 w1 ⟨rfl, k, rfl⟩
  go_wp2
  go_ret
  exact ⟨rfl, _, rfl⟩
/-! ### A nil grid -/
theorem eql_grid0 (w : World) : Sem.run Try.prog (binOp .eql 27 (.pointer none) (.pointer none)) w = .ok (.bool true) w := by kernel_rfl
theorem w0_calls (w : World) : Calls Try.prog 15 #[.pointer none] w fun r w' => r = .returned (.int .i64 0) ∧ w = w' := by
  have hn := eql_grid0
  go_enter Try.func15, Try.ntmps15
  go_wp2
  go_ret
  exact ⟨rfl, rfl⟩
theorem h0_calls (w : World) : Calls Try.prog 16 #[.pointer none] w fun r w' => r = .returned (.int .i64 0) ∧ w = w' := by
  have hn := eql_grid0
  go_enter Try.func16, Try.ntmps16
  go_wp2
  go_ret
  exact ⟨rfl, rfl⟩
theorem cells0_calls (w : World) : Calls Try.prog 24 #[.pointer none] w fun r w' => r = .returned (.slice none 0 0) ∧ w = w' := by
  have hn := eql_grid0
  go_enter Try.func24, Try.ntmps24
  go_wp2
  go_ret
  exact ⟨rfl, rfl⟩
theorem copy0_calls (w : World) : Calls Try.prog 27 #[.pointer none] w fun r w' => r = .returned (.pointer none) ∧ w = w' := by
  have hn := eql_grid0
  go_enter Try.func27, Try.ntmps27
  go_wp2
  go_ret
  exact ⟨rfl, rfl⟩
theorem row0_calls (x y : Int) (w : World) : Calls Try.prog 63 #[.pointer none, .int .i64 x, .int .i64 y] w fun r w' => r = .returned (.slice none 0 0) ∧ w = w' := by
  have hn := eql_grid0
  go_enter Try.func63, Try.ntmps63
  go_wp2
  go_ret
  exact ⟨rfl, rfl⟩
theorem gfill0_calls (a z : Int) (w : World) : Calls Try.prog 17 #[.pointer none, .int .i64 a, .int .i64 z, .agg #[.int .i32 0, .int .i64 0, .int .i64 0, .bool false, .bool false, .bool false]] w fun r w' => r = .returned (.tuple #[]) ∧ Below w.heap.size w w' := by
  have hn := eql_grid0
  go_enter Try.func17, Try.ntmps17
  go_wp2
  first | go_end0 | refine bodyPost_ret (results_none rfl _ _ _) rfl ?_
  exact ⟨rfl, below_alloc (Below.refl _ _) _⟩
theorem set0_calls (A : Option Addr) (n c : Nat) (w : World) : Calls Try.prog 19 #[.pointer none, .int .i64 0, .int .i64 0, .slice A n c] w fun r w' => r = .returned (.int .i64 0) ∧ w = w' := by
  have hr := run_copy_zero Try.prog w 39 39 3 25 none A 0 0 n c 6 Try.underlying39 sizeCell (Nat.min_zero n)
  have HR := Aside0.mk hr
  clear hr
  go_enter Try.func19, Try.ntmps19
  go_wp2_with fail
  refine (row0_calls 0 0 _).mono ?_
  rintro e1 w1 ⟨rfl, rfl⟩
  go_wp2_with (with_reducible refine wpList_copy_of _ rfl (.tmp 12) (.tmp 13) 39 39 (.slice none 0 0) (.slice A n c) rfl ?_ ?_ HR.out ?_)
  all_goals first | rfl | skip
  go_ret
  exact ⟨rfl, rfl⟩
theorem at0_calls (w : World) : Calls Try.prog 18 #[.pointer none, .int .i64 0, .int .i64 0] w fun r w' => r = .returned (.agg #[.int .i32 0, .int .i64 0, .int .i64 0, .bool false, .bool false, .bool false]) ∧ Below w.heap.size w w' := by
  have hu := Try.underlying25
  have hua := Try.underlying23
  have HN := Aside0.mk (Blk.new w 25 #[.int .i32 0, .int .i64 0, .int .i64 0, .bool false, .bool false, .bool false])
  have HB := Aside0.mk (below_alloc (Below.refl w.heap.size w) (.cells #[.int .i32 0, .int .i64 0, .int .i64 0, .bool false, .bool false, .bool false] 25))
  go_enter Try.func18, Try.ntmps18
  go_wp2_with fail
  refine (row0_calls 0 0 _).mono ?_
  rintro e1 w1 ⟨rfl, rfl⟩
  go_wp2
  exact bodyPost_ret (results_cell_row rfl _ _ w.heap.size 25 _ (0, 0) _ rfl HN.out hu rfl sizeCell) rfl ⟨rfl, HB.out⟩
theorem text0_calls (w : World) : Calls Try.prog 36 #[.pointer none] w fun r w' => r = .returned (.slice none 0 0) ∧ w = w' := by
  go_enter Try.func36, Try.ntmps36
  go_wp2_with fail
  refine (h0_calls _).mono ?_
  rintro e1 w1 ⟨rfl, rfl⟩
  go_wp2_with fail
  go_loopg [3, 7] 0 (fun kq v3 v7 wr => v3 = .slice none 0 0 ∧ v7 = .int .i64 0 ∧ Aside0 (w = wr))
  case atStart => exact ⟨rfl, rfl, ⟨rfl⟩⟩
  case round =>
    obtain ⟨rfl, rfl, ⟨rfl⟩⟩ := hrel
    go_wp2
    go_ret
    exact ⟨rfl, rfl⟩
theorem fill0_calls (x : C6) (w : World) : Calls Try.prog 62 #[.slice none 0 0, .agg #[.int .i32 x.r, .int .i64 x.f, .int .i64 x.g, .bool x.bo, .bool x.un, .bool x.iv]] w fun r w' => r = .returned (.tuple #[]) ∧ Below w.heap.size w w' := by
  go_enter Try.func62, Try.ntmps62
  go_wp2
  go_loopg [7] 0 (fun kq v7 wr => v7 = .int .i64 0 ∧ Aside0 (w.alloc (.cells #[.int .i32 x.r, .int .i64 x.f, .int .i64 x.g, .bool x.bo, .bool x.un, .bool x.iv] 25) = wr))
  case atStart => exact ⟨rfl, ⟨rfl⟩⟩
  case round =>
    obtain ⟨rfl, ⟨rfl⟩⟩ := hrel
    go_wp2
    go_end0
    exact ⟨rfl, below_alloc (Below.refl _ _) _⟩
theorem rows0_calls (w : World) : Calls Try.prog 67 #[.pointer none, .int .i64 0, .int .i64 1] w fun r w' => r = .returned (.slice none 0 0) ∧ w = w' := by
  go_enter Try.func67, Try.ntmps67
  go_wp2_with fail
  refine (h0_calls _).mono ?_
  rintro e1 w1 ⟨rfl, rfl⟩
  go_wp2
  go_ret
  exact ⟨rfl, rfl⟩
theorem many0_calls (w : World) : Calls Try.prog 69 #[.pointer none, .slice none 0 0, .int .i64 1] w fun r w' => r = .returned (.int .i64 0) ∧ w = w' := by
  go_enter Try.func69, Try.ntmps69
  go_wp2_with fail
  refine (h0_calls _).mono ?_
  rintro e1 w1 ⟨rfl, rfl⟩
  go_wp2_with fail
  refine (w0_calls _).mono ?_
  rintro e1 w1 ⟨rfl, rfl⟩
  go_wp2
  go_ret
  exact ⟨rfl, rfl⟩
set_option maxRecDepth 100000 in
theorem less0_calls (w : World) : Calls Try.prog 68 #[.slice none 0 0, .int .i64 0, .agg #[.int .i32 0, .int .i64 0, .int .i64 0, .bool false, .bool false, .bool false]] w fun r w' => r = .returned (.tuple #[]) ∧ Below w.heap.size w w' := by
  have hr := fun W1 => run_copy_zero Try.prog W1 39 39 3 25 none none 0 0 0 0 6 Try.underlying39 sizeCell (Nat.min_zero 0)
  have HR := Aside0.mk hr
  have HN := Aside0.mk (Blk.new w 25 #[.int .i32 0, .int .i64 0, .int .i64 0, .bool false, .bool false, .bool false])
  have HB := Aside0.mk (below_alloc (Below.refl w.heap.size w) (.cells #[.int .i32 0, .int .i64 0, .int .i64 0, .bool false, .bool false, .bool false] 25))
  clear hr
  go_enter Try.func68, Try.ntmps68
  go_wp2_with (with_reducible refine wpList_copy_of _ rfl (.tmp 6) (.tmp 9) 39 39 (.slice none 0 0) (.slice none 0 0) rfl ?_ ?_ (HR.out _) ?_)
  all_goals first | rfl | skip
  generalize w.alloc (.cells #[.int .i32 0, .int .i64 0, .int .i64 0, .bool false, .bool false, .bool false] 25) = W1 at HN HB ⊢
  have d0 : (W1).cell? ⟨w.heap.size, 0, none⟩ = some (.int .i32 0) := (HN.out.cell 0).trans rfl
  have d1 : (W1).cell? ⟨w.heap.size, 1, none⟩ = some (.int .i64 0) := (HN.out.cell 1).trans rfl
  have d2 : (W1).cell? ⟨w.heap.size, 2, none⟩ = some (.int .i64 0) := (HN.out.cell 2).trans rfl
  have d3 : (W1).cell? ⟨w.heap.size, 3, none⟩ = some (.bool false) := (HN.out.cell 3).trans rfl
  have d4 : (W1).cell? ⟨w.heap.size, 4, none⟩ = some (.bool false) := (HN.out.cell 4).trans rfl
  have d5 : (W1).cell? ⟨w.heap.size, 5, none⟩ = some (.bool false) := (HN.out.cell 5).trans rfl
  have hw0 : IntKind.i64.wrap 0 = 0 := by decide
  go_still_tail 7, (by kernel_rfl)
  change wpList _ _ _ _ _ W1.drew
  clear d0 d1 d2 d3 d4 d5
  go_wp2_with fail
  refine (fill0_calls zC _).mono ?_
  rintro e1 w3 ⟨rfl, hb3⟩
  have HB3 := Aside0.mk (below_step (below_drew HB.out) hb3)
  clear hb3
  go_wp2
  go_end0
  exact ⟨rfl, HB3.out⟩
set_option maxRecDepth 100000 in
theorem up0_calls (w : World) : Calls Try.prog 25 #[.pointer none, .int .i64 0, .int .i64 1, .int .i64 1, .agg #[.int .i32 0, .int .i64 0, .int .i64 0, .bool false, .bool false, .bool false]] w fun r w' => r = .returned (.tuple #[]) ∧ Below w.heap.size w w' := by
  have HN := Aside0.mk (Blk.new w 25 #[.int .i32 0, .int .i64 0, .int .i64 0, .bool false, .bool false, .bool false])
  have HB := Aside0.mk (below_alloc (Below.refl w.heap.size w) (.cells #[.int .i32 0, .int .i64 0, .int .i64 0, .bool false, .bool false, .bool false] 25))
  go_enter Try.func25, Try.ntmps25
  go_wp2_with fail
  refine (rows0_calls _).mono ?_
  rintro e1 w1 ⟨rfl, rfl⟩
  generalize w.alloc (.cells #[.int .i32 0, .int .i64 0, .int .i64 0, .bool false, .bool false, .bool false] 25) = W1 at HN HB ⊢
  have d0 : (W1).cell? ⟨w.heap.size, 0, none⟩ = some (.int .i32 0) := (HN.out.cell 0).trans rfl
  have d1 : (W1).cell? ⟨w.heap.size, 1, none⟩ = some (.int .i64 0) := (HN.out.cell 1).trans rfl
  have d2 : (W1).cell? ⟨w.heap.size, 2, none⟩ = some (.int .i64 0) := (HN.out.cell 2).trans rfl
  have d3 : (W1).cell? ⟨w.heap.size, 3, none⟩ = some (.bool false) := (HN.out.cell 3).trans rfl
  have d4 : (W1).cell? ⟨w.heap.size, 4, none⟩ = some (.bool false) := (HN.out.cell 4).trans rfl
  have d5 : (W1).cell? ⟨w.heap.size, 5, none⟩ = some (.bool false) := (HN.out.cell 5).trans rfl
  go_wp2_with fail
  go_still_tail 9, (by kernel_rfl)
  have hmc2 : Calls Try.prog 69 #[.pointer none, .slice none 0 0, .int .i64 1] W1.drew fun e w'' => e = .returned (.int .i64 0) ∧ w'' = W1.drew := (many0_calls W1.drew).mono fun _ _ hh => ⟨hh.1, hh.2.symm⟩
  still_call hmc2
  clear hmc2
  repeat still_step
  refine wpStill_nil ?_
  change wpList _ _ _ _ _ W1.drew
  clear d0 d1 d2 d3 d4 d5
  go_wp2_with fail
  refine (less0_calls _).mono ?_
  rintro e2 w2 ⟨rfl, hb2⟩
  have HB4 := Aside0.mk (below_step (below_drew HB.out) hb2)
  clear hb2
  go_wp2
  go_end0
  exact ⟨rfl, HB4.out⟩
end Go.Proofs.Ytcmmdllnbijipaa.Grd
