/- The walk of GridRows: cells that go to the right, and back, are as they were, but for those that went beyond. Conditions: those in each theorem. -/
import Derived.Test.YtcmmdllnbijipaaLawGMoves
import Derived.Test.YtcmmdllnbijipaaLawGFills
namespace Go.Proofs.Ytcmmdllnbijipaa.Grd
open Go.RowKit Go.Proofs.Ytcmmdllnbijipaa.Mem Go.Proofs.YtcmmdllnbijipaaW.PrintWords Go.Proofs.YtcmmdllnbijipaaW.PrintMore
attribute [local go_sem] max2_i min2_i max_two min_two
set_option linter.unusedVariables false
set_option linter.unusedSimpArgs false
theorem part_get (cs : List C6) (k m : Nat) (F : List C6 → List C6) (hF : ∀ L, (F L).length = L.length) (h : k + m ≤ cs.length) (i : Nat) : (part cs k m F)[i]? = if k ≤ i ∧ i < k + m then (F ((cs.drop k).take m))[i - k]? else cs[i]? := by
  have hl : (F ((cs.drop k).take m)).length = m := by rw [hF]; simp; omega
  unfold part
  rw [put_get _ _ _ (by omega), hl]
/-- What stands in the second row then. -/
theorem rows_pure {W X n : Nat} (cs : List C6) (hc : cs.length = W * 2) (hX : X < W) (hn : n ≤ W) (i : Nat) (hi : i < W * 2) :
    (gRow W 2 (gRow W 2 cs (X : Int) 1 (n : Int) (fun k => more k dC)) (X : Int) 1 (n : Int) (fun k => less k dC))[i]? = if W + X ≤ i ∧ W + (W - n) ≤ i then some dC else cs[i]? := by
  have hin : inG W 2 (X : Int) 1 = true := inG_iff.2 ⟨by omega, by omega, by omega, by omega⟩
  have hix : ix W (X : Int) 1 = W + X := by unfold ix; simp
  have hM : W - (X : Int).toNat = W - X := by rw [Int.toNat_natCast]
  unfold gRow
  rw [if_pos hin, if_pos hin, hix, hM, Int.toNat_natCast]
  dsimp only
  have hl1 : (part cs (W + X) (W - X) (more n dC)).length = W * 2 := by rw [part_len _ _ _ _ (more_len _ _) (by omega), hc]
  rw [part_get _ _ _ _ (less_len _ _) (by omega)]
  have hseg : ((part cs (W + X) (W - X) (more n dC)).drop (W + X)).take (W - X) = more n dC ((cs.drop (W + X)).take (W - X)) := by
    apply List.ext_getElem?
    intro j
    rw [List.getElem?_take, List.getElem?_drop]
    by_cases hj : j < W - X
    · rw [if_pos hj, part_get _ _ _ _ (more_len _ _) (by omega), if_pos (by omega)]
      congr 1
      omega
    · rw [if_neg hj, List.getElem?_eq_none (by rw [more_len]; simp; omega)]
  rw [hseg]
  have hLl : ((cs.drop (W + X)).take (W - X)).length = W - X := by simp; omega
  by_cases h1 : W + X ≤ i ∧ i < W + X + (W - X)
  · rw [if_pos h1]
    obtain ⟨j, rfl⟩ : ∃ j, i = W + X + j := ⟨i - (W + X), by omega⟩
    rw [Nat.add_sub_cancel_left]
    unfold less
    rw [more_len, hLl]
    unfold more
    rw [hLl]
    by_cases h2 : W + (W - n) ≤ W + X + j
    · rw [if_pos ⟨by omega, h2⟩]
      by_cases hnM : n ≤ W - X
      · rw [List.getElem?_append_right (by simp; omega), List.getElem?_replicate, if_pos (by simp; omega)]
      · rw [List.drop_of_length_le (by simp; omega), List.nil_append, List.getElem?_replicate, if_pos (by omega)]
    · rw [if_neg (fun h => h2 h.2)]
      rw [List.getElem?_append_left (by simp; omega), List.getElem?_drop, List.getElem?_append_right (by simp; omega), List.length_replicate, List.getElem?_take, if_pos (by omega), List.getElem?_take, if_pos (by omega), List.getElem?_drop]
      congr 1
      omega
  · rw [if_neg h1, if_neg (by omega), part_get _ _ _ _ (more_len _ _) (by omega), if_neg h1]
theorem rows_over (w0 x0 n0 : Int) (A : Option Addr) (c : Nat) (l : List C6) (w : World) (hl : ¬ l.length ≤ 60) :
    Calls Try.prog 8 #[.int .i64 w0, .int .i64 x0, .int .i64 n0, .slice A l.length c] w fun r w' => r = .returned (.bool true) ∧ Below w.heap.size w w' := by
  have hl6 : (60 : Int) < (l.length : Int) := by omega
  clear hl
  go_enter Try.func8, Try.ntmps8
  go_wp2_with fail
  refine (alive15 _).mono ?_
  rintro e0 w0 ⟨rfl, hb0⟩
  have HB := Aside0.mk hb0
  clear hb0
  go_wp2
  go_ret
  exact ⟨rfl, HB.out⟩
set_option maxHeartbeats 4000000 in
set_option maxRecDepth 100000 in
theorem rows_live (w0 X0 n0 : Int) (A : Option Addr) (c : Nat) (l : List C6) (w : World) (hs : Src w A l.length l) (hc : l.length ≤ c) (hl : l.length ≤ 60) :
    Calls Try.prog 8 #[.int .i64 w0, .int .i64 X0, .int .i64 n0, .slice A l.length c] w fun r w' => r = .returned (.bool true) ∧ Below w.heap.size w w' := by
  have hu := Try.underlying25
  have hua := Try.underlying23
  have hl6 : ¬ (60 : Int) < (l.length : Int) := by omega
  have HS := Aside0.mk hs
  clear hs
  obtain ⟨L, hL⟩ : ∃ L, L = l.length := ⟨_, rfl⟩
  have HL := Aside0.mk hL
  rw [← hL] at HS hl6 hl hc ⊢
  clear hL
  go_enter Try.func8, Try.ntmps8
  go_wp2_with fail
  refine (alive15 _).mono ?_
  rintro e1 w1 ⟨rfl, hb1⟩
  have XB := Aside0.mk hb1
  clear hb1
  go_wp2_with fail
  refine (new_calls w0 2 _).mono ?_
  rintro e2 w2 ⟨g, b, rfl, hg, hb, hI, hB⟩
  obtain ⟨W, hW⟩ : ∃ W, W = clW w0 := ⟨_, rfl⟩
  have hW2 := clW_le w0
  rw [← hW] at hW2 hI
  have hgw : w.heap.size ≤ b := Nat.le_trans XB.out.size hb
  have XB := Aside0.mk (below_step XB.out hB)
  have HI := Aside0.mk (show IsGrid w2 g b W 2 _ from hI)
  clear hI hB hW
  have hn := eql_grid ⟨g, 0, none⟩
  go_wp2_with fail
  refine (w_calls g b W 2 _ _ HI.out).mono ?_
  rintro e3 w3 ⟨rfl, rfl⟩
  obtain ⟨X, hX⟩ : ∃ X : Nat, (X : Int) = (X0.tmod (W : Int) + (W : Int)).tmod (W : Int) := ⟨((X0.tmod (W : Int) + (W : Int)).tmod (W : Int)).toNat, by
    have h1 := Int.lt_tmod_of_pos X0 (show (0 : Int) < (W : Int) by omega)
    have h2 := Int.tmod_nonneg (W : Int) (show 0 ≤ X0.tmod (W : Int) + (W : Int) by omega)
    omega⟩
  have hXW : X < W := by
    have := Int.tmod_lt_of_pos (X0.tmod (W : Int) + (W : Int)) (show (0 : Int) < (W : Int) by omega)
    omega
  obtain ⟨n, hnn⟩ : ∃ n : Nat, (n : Int) = min (max n0 0) (W : Int) := ⟨(min (max n0 0) (W : Int)).toNat, by omega⟩
  have hnW : n ≤ W := by omega
  have hWn : ¬ W = 0 := by omega
  have hb1 := Int.lt_tmod_of_pos X0 (show (0 : Int) < (W : Int) by omega)
  have hb2 := Int.tmod_lt_of_pos X0 (show (0 : Int) < (W : Int) by omega)
  have hwX : IntKind.i64.wrap (X0.tmod (W : Int) + (W : Int)) = X0.tmod (W : Int) + (W : Int) := IntWalk.i64_in _ (by omega)
  have HX := Aside0.mk hX
  have HNN := Aside0.mk hnn
  clear hX hnn hb1 hb2
  go_wp2_with fail
  rw [← HX.out, ← HNN.out]
  refine (set_calls g b W 2 0 1 A L c l _ w2 HI.out (HS.out.only XB.out)).mono ?_
  rintro e5 w5 ⟨rfl, hI5, hO5⟩
  obtain ⟨cs, hcs⟩ : ∃ q, q = gSet W 2 (List.replicate (W * clH 2) bC) 0 1 l := ⟨_, rfl⟩
  have HI5 := Aside0.mk (show IsGrid w5 g b W 2 cs by rw [hcs]; exact hI5)
  have XB5 := Aside0.mk (hO5.belowOf XB.out XB.out.size (by simpa using hgw))
  clear hI5 hO5 hcs HI XB
  go_wp2_with fail
  refine (copy_calls g b W 2 cs _ HI5.out).mono ?_
  rintro e6 w6 ⟨g2, b2, rfl, hg2, hb2, hI6, hB6⟩
  have HW := Aside0.mk hI6
  have hl5 := HI5.out.lt
  have HI6 := Aside0.mk (HI5.out.below hB6)
  have XB6 := Aside0.mk (below_step XB5.out hB6)
  have hn2 := eql_grid ⟨g2, 0, none⟩
  clear hI6 hB6 HI5 XB5
  go_wp2_with fail
  have BD := Aside0.mk (Blk.new w6 25 #[.int .i32 46, .int .i64 0, .int .i64 0, .bool false, .bool false, .bool false])
  have XB7 := Aside0.mk (below_alloc XB6.out (.cells #[.int .i32 46, .int .i64 0, .int .i64 0, .bool false, .bool false, .bool false] 25))
  have HI7 := Aside0.mk (HI6.out.below (below_alloc (Below.refl _ _) (.cells #[.int .i32 46, .int .i64 0, .int .i64 0, .bool false, .bool false, .bool false] 25)))
  have HW7 := Aside0.mk (HW.out.below (below_alloc (Below.refl _ _) (.cells #[.int .i32 46, .int .i64 0, .int .i64 0, .bool false, .bool false, .bool false] 25)))
  have hl6w := HI6.out.lt
  have hlw := HW.out.lt
  refine (right_calls g b W 2 (X : Int) 1 (n : Int) dC cs _ HI7.out).mono ?_
  rintro e8 w8 ⟨rfl, hI8, hO8⟩
  have BD := Aside0.mk (BD.out.only hO8 (by simp; omega))
  have HW8 := Aside0.mk (HW7.out.only hO8 (by simp; omega) (by simp; omega))
  have XB8 := Aside0.mk (hO8.belowOf XB7.out XB7.out.size (by simpa using hgw))
  have HI8 := Aside0.mk hI8
  clear hI8 hO8 HI6 HW XB6 HI7 HW7 XB7
  obtain ⟨gd, hgd⟩ : ∃ gd, gd = w6.heap.size := ⟨_, rfl⟩
  rw [← hgd] at BD ⊢
  have hbd : gd ≠ b := by omega
  have hg2b : g2 ≠ b := by omega
  have hb2b : b2 ≠ b := by omega
  clear hgd hl5 hl6w hlw
  have d0 : (w8).cell? ⟨gd, 0, none⟩ = some (.int .i32 46) := (BD.out.cell 0).trans rfl
  have d1 : (w8).cell? ⟨gd, 1, none⟩ = some (.int .i64 0) := (BD.out.cell 1).trans rfl
  have d2 : (w8).cell? ⟨gd, 2, none⟩ = some (.int .i64 0) := (BD.out.cell 2).trans rfl
  have d3 : (w8).cell? ⟨gd, 3, none⟩ = some (.bool false) := (BD.out.cell 3).trans rfl
  have d4 : (w8).cell? ⟨gd, 4, none⟩ = some (.bool false) := (BD.out.cell 4).trans rfl
  have d5 : (w8).cell? ⟨gd, 5, none⟩ = some (.bool false) := (BD.out.cell 5).trans rfl
  go_wp2_with fail
  clear d0 d1 d2 d3 d4 d5
  refine (left_calls g b W 2 (X : Int) 1 (n : Int) dC _ _ HI8.out).mono ?_
  rintro e9 w9 ⟨rfl, hI9, hO9⟩
  obtain ⟨cs2, hcs2⟩ : ∃ q, q = (gRow W 2 (gRow W 2 cs (X : Int) 1 (n : Int) (fun k => more k dC)) (X : Int) 1 (n : Int) (fun k => less k dC)) := ⟨_, rfl⟩
  have hclen := HW8.out.1
  have HP := Aside0.mk (show ∀ i, i < W * 2 → cs2[i]? = if W + X ≤ i ∧ W + (W - n) ≤ i then some dC else cs[i]? by
    intro i hi
    rw [hcs2]
    exact rows_pure cs hclen hXW hnW i hi)
  have HI9 := Aside0.mk (show IsGrid w9 g b W 2 cs2 by rw [hcs2]; exact hI9)
  have BD := Aside0.mk (BD.out.only hO9 (by simpa using hbd))
  have HW9 := Aside0.mk (HW8.out.only hO9 (by simpa using hg2b) (by simpa using hb2b))
  have XB9 := Aside0.mk (hO9.belowOf XB8.out XB8.out.size (by simpa using hgw))
  clear hI9 hO9 hcs2 HW8 HI8 XB8
  go_wp2_with fail
  go_loopg [12] W (fun kq v12 wr => ∃ (i : Nat), v12 = .int .i64 (i : Int) ∧ Aside0 (i ≤ W ∧ kq = W - i) ∧ Aside0 (IsGrid wr g b W 2 cs2) ∧ Aside0 (IsGrid wr g2 b2 W 2 cs) ∧ Aside0 (Blk wr gd 25 #[.int .i32 46, .int .i64 0, .int .i64 0, .bool false, .bool false, .bool false]) ∧ Aside0 (Below w.heap.size w wr))
  case atStart => exact ⟨0, rfl, ⟨Nat.zero_le _, rfl⟩, HI9, HW9, BD, XB9⟩
  case round =>
    obtain ⟨i, rfl, ⟨hi, hkq⟩, HIr, HWr, BDr, XBr⟩ := hrel
    have HQ := Aside0.mk hkq
    clear hkq HI9 HW9 BD XB9
    by_cases hlt : i < W
    · have hin1 : inG W 2 (i : Int) 1 = true := inG_iff.2 ⟨by omega, by omega, by omega, by omega⟩
      have hin0 : inG W 2 (i : Int) 0 = true := inG_iff.2 ⟨by omega, by omega, by omega, by omega⟩
      have hix1 : ix W (i : Int) 1 = W + i := by unfold ix; simp
      have hix0 : ix W (i : Int) 0 = i := by unfold ix; simp
      obtain ⟨p, hp⟩ : ∃ q, cs[W + i]? = some q := ⟨cs[W + i]'(by omega), by simp⟩
      obtain ⟨q, hq⟩ : ∃ q, cs[i]? = some q := ⟨cs[i]'(by omega), by simp⟩
      have hq2 := HP.out i (by omega)
      rw [if_neg (by omega), hq] at hq2
      have hp2 := HP.out (W + i) (by omega)
      rw [hp] at hp2
      have A0 := Aside0.mk (fun W1 hh => at_in g2 b2 W 2 (i : Int) 1 cs p W1 hh hin1 (by rw [hix1]; exact hp))
      have A1 := Aside0.mk (fun W1 hh => at_in g b W 2 (i : Int) 0 cs2 q W1 hh hin0 (by rw [hix0]; exact hq2))
      have A2 := Aside0.mk (fun W1 hh => at_in g2 b2 W 2 (i : Int) 0 cs q W1 hh hin0 (by rw [hix0]; exact hq))
      have A3 := Aside0.mk (fun (r : C6) (hr : cs2[W + i]? = some r) W1 hh => at_in g b W 2 (i : Int) 1 cs2 r W1 hh hin1 (by rw [hix1]; exact hr))
      have hi0 : (0 : Int) ≤ (i : Int) := Int.natCast_nonneg _
      have hwn : IntKind.i64.wrap ((W : Int) - (n : Int)) = (W : Int) - (n : Int) := IntWalk.i64_in _ (by omega)
      have HP2 := Aside0.mk hp2
      clear hp hq hq2 hp2 hin1 hin0 hix1 hix0
      go_wp2_with fail
      refine (A0.out _ HWr.out).mono ?_
      rintro e1 w1 ⟨rfl, hb1⟩
      have HI0 := Aside0.mk (HIr.out.below hb1)
      have HW0 := Aside0.mk (HWr.out.below hb1)
      have BD0 := Aside0.mk (BDr.out.below' hb1)
      have BD1 := Aside0.mk ((BDr.out.below' hb1).alloc (.cells #[.int .i32 p.r, .int .i64 p.f, .int .i64 p.g, .bool p.bo, .bool p.un, .bool p.iv] 25))
      have XB0 := Aside0.mk (below_step XBr.out hb1)
      clear hb1
      by_cases hc : X ≤ i ∧ W - n ≤ i
      · have h3 := HP2.out
        rw [if_pos (by omega)] at h3
        have A3' : Aside0 (∀ W1, IsGrid W1 g b W 2 cs2 → Calls Try.prog 18 #[.pointer (some ⟨g, 0, none⟩), .int .i64 (i : Int), .int .i64 1] W1 fun r w' => r = .returned (.agg #[.int .i32 46, .int .i64 0, .int .i64 0, .bool false, .bool false, .bool false]) ∧ Below W1.heap.size W1 w') := Aside0.mk (A3.out dC h3)
        have hc1 : (X : Int) ≤ (i : Int) := by omega
        have hc2 : (W : Int) - (n : Int) ≤ (i : Int) := by omega
        have d0 : (w1.alloc (.cells #[.int .i32 p.r, .int .i64 p.f, .int .i64 p.g, .bool p.bo, .bool p.un, .bool p.iv] 25)).cell? ⟨gd, 0, none⟩ = some (.int .i32 46) := (BD1.out.cell 0).trans rfl
        have d1 : (w1.alloc (.cells #[.int .i32 p.r, .int .i64 p.f, .int .i64 p.g, .bool p.bo, .bool p.un, .bool p.iv] 25)).cell? ⟨gd, 1, none⟩ = some (.int .i64 0) := (BD1.out.cell 1).trans rfl
        have d2 : (w1.alloc (.cells #[.int .i32 p.r, .int .i64 p.f, .int .i64 p.g, .bool p.bo, .bool p.un, .bool p.iv] 25)).cell? ⟨gd, 2, none⟩ = some (.int .i64 0) := (BD1.out.cell 2).trans rfl
        have d3 : (w1.alloc (.cells #[.int .i32 p.r, .int .i64 p.f, .int .i64 p.g, .bool p.bo, .bool p.un, .bool p.iv] 25)).cell? ⟨gd, 3, none⟩ = some (.bool false) := (BD1.out.cell 3).trans rfl
        have d4 : (w1.alloc (.cells #[.int .i32 p.r, .int .i64 p.f, .int .i64 p.g, .bool p.bo, .bool p.un, .bool p.iv] 25)).cell? ⟨gd, 4, none⟩ = some (.bool false) := (BD1.out.cell 4).trans rfl
        have d5 : (w1.alloc (.cells #[.int .i32 p.r, .int .i64 p.f, .int .i64 p.g, .bool p.bo, .bool p.un, .bool p.iv] 25)).cell? ⟨gd, 5, none⟩ = some (.bool false) := (BD1.out.cell 5).trans rfl
        clear h3
        go_wp2_with fail
        have BWa := Aside0.mk (Blk.new w1 25 #[.int .i32 46, .int .i64 0, .int .i64 0, .bool false, .bool false, .bool false])
        have HIa := Aside0.mk (HI0.out.below (below_alloc (Below.refl _ _) (.cells #[.int .i32 46, .int .i64 0, .int .i64 0, .bool false, .bool false, .bool false] 25)))
        have HWa := Aside0.mk (HW0.out.below (below_alloc (Below.refl _ _) (.cells #[.int .i32 46, .int .i64 0, .int .i64 0, .bool false, .bool false, .bool false] 25)))
        have BDa := Aside0.mk (BD0.out.alloc (.cells #[.int .i32 46, .int .i64 0, .int .i64 0, .bool false, .bool false, .bool false] 25))
        have XBa := Aside0.mk (below_alloc XB0.out (.cells #[.int .i32 46, .int .i64 0, .int .i64 0, .bool false, .bool false, .bool false] 25))
        have hne := ne_cell 46 0 0 false false false
        have hne2 := ne_cell q.r q.f q.g q.bo q.un q.iv
        generalize w1.alloc (.cells #[.int .i32 46, .int .i64 0, .int .i64 0, .bool false, .bool false, .bool false] 25) = WA at BWa HIa HWa BDa XBa ⊢
        obtain ⟨gw, hgw2⟩ : ∃ gw, gw = w1.heap.size := ⟨_, rfl⟩
        rw [← hgw2] at BWa ⊢
        clear hgw2 d0 d1 d2 d3 d4 d5
        have XQ0 := Aside0.mk (show WA.drew.heap[gw]? = some (.cells #[.int .i32 46, .int .i64 0, .int .i64 0, .bool false, .bool false, .bool false] 25 (0, 0)) ∧ IsGrid WA.drew g b W 2 cs2 ∧ IsGrid WA.drew g2 b2 W 2 cs ∧ Below WA.heap.size WA WA.drew from ⟨BWa.out, HIa.out, HWa.out, below_drew (Below.refl _ _)⟩)
        refine wp_region_held_drew (S := fun w' => w'.heap[gw]? = some (.cells #[.int .i32 46, .int .i64 0, .int .i64 0, .bool false, .bool false, .bool false] 25 (0, 0)) ∧ IsGrid w' g b W 2 cs2 ∧ IsGrid w' g2 b2 W 2 cs ∧ Below WA.heap.size WA w') (by kernel_rfl) (by exact XQ0.out) (fun hHeld => ?_)
        refine takeH (i := 0) (d := 76) (v := (.pointer (some ⟨g, 0, none⟩))) rfl rfl (by kernel_rfl) (by kernel_rfl) (by kernel_rfl) (fun _ _ _ h => h) (Or.inl ⟨by kernel_rfl, by intro w hSw; (try dsimp only at hSw); go_simp; done⟩) (by assumption) ?_
        try simp only [List.setIfInBounds_toArray, List.set_cons_zero, List.set_cons_succ]
        refine takeH (i := 1) (d := 77) (v := (.int .i64 (i : Int))) rfl rfl (by kernel_rfl) (by kernel_rfl) (by kernel_rfl) (fun _ _ _ h => h) (Or.inl ⟨by kernel_rfl, by intro w hSw; (try dsimp only at hSw); go_simp; done⟩) (by assumption) ?_
        try simp only [List.setIfInBounds_toArray, List.set_cons_zero, List.set_cons_succ]
        refine takeH (i := 3) (d := 79) (v := (.agg #[.int .i32 46, .int .i64 0, .int .i64 0, .bool false, .bool false, .bool false])) rfl rfl (by kernel_rfl) (by kernel_rfl) (by kernel_rfl) (fun _ _ _ h => h) (Or.inl ⟨by kernel_rfl, by intro w hSw; (try dsimp only at hSw); have hq := hSw.1; have c0 := blk_cell hq 0; have c1 := blk_cell hq 1; have c2 := blk_cell hq 2; have c3 := blk_cell hq 3; have c4 := blk_cell hq 4; have c5 := blk_cell hq 5; simp only [List.getElem?_toArray, List.getElem?_cons_zero, List.getElem?_cons_succ] at c0 c1 c2 c3 c4 c5; clear hq; go_simp; done⟩) (by assumption) ?_
        try simp only [List.setIfInBounds_toArray, List.set_cons_zero, List.set_cons_succ]
        refine wpAnyH_ready (rs := [2]) (by kernel_rfl) (by simp) ?_
        refine AllReadyH.cons (o := { dst := some 78, op := Op.call { callee := Callee.value (Operand.func 18), args := #[Operand.tmp 76, Operand.tmp 77, Operand.const (Value.int IntKind.i64 1)], argTypes := #[27, 3, 3] }, type := 25, pos := "more.go:67", after := #[{ on := 0, ground := Ground.data }, { on := 1, ground := Ground.data }], guard := none }) rfl (fun K hK => ?_) AllReadyH.nil
        rw [if_pos (by kernel_rfl)]
        go_simp
        refine (A3'.out _ XQ0.out.2.1).mono ?_
        rintro e1 w1 ⟨rfl, hb1⟩
        have XQ1 := Aside0.mk ((show _ ∧ IsGrid w1 g b W 2 cs2 ∧ IsGrid w1 g2 b2 W 2 cs ∧ Below WA.heap.size WA w1 from ⟨blk_below XQ0.out.1 hb1, XQ0.out.2.1.below hb1, XQ0.out.2.2.1.below hb1, below_step XQ0.out.2.2.2 hb1⟩))
        clear hb1
        clear hHeld
        refine hK.out _ _ (XQ1.out) (fun hHeld => ?_)
        clear hK K
        try simp only [Act.put, List.setIfInBounds_toArray, List.set_cons_zero, List.set_cons_succ]
        refine takeH (i := 4) (d := 80) (v := (.bool false)) rfl rfl (by kernel_rfl) (by kernel_rfl) (by kernel_rfl) (fun _ _ _ h => h) (Or.inl ⟨by kernel_rfl, by intro w hSw; (try dsimp only at hSw); go_simp; done⟩) (by assumption) ?_
        try simp only [List.setIfInBounds_toArray, List.set_cons_zero, List.set_cons_succ]
        refine takeH (i := 5) (d := 81) (v := (.bool false)) rfl rfl (by kernel_rfl) (by kernel_rfl) (by kernel_rfl) (fun _ _ _ h => h) (Or.inl ⟨by kernel_rfl, by intro w hSw; (try dsimp only at hSw); go_simp; done⟩) (by assumption) ?_
        try simp only [List.setIfInBounds_toArray, List.set_cons_zero, List.set_cons_succ]
        refine takeH (i := 6) (d := 82) (v := (.pointer (some ⟨g, 0, none⟩))) rfl rfl (by kernel_rfl) (by kernel_rfl) (by kernel_rfl) (fun _ _ _ h => h) (Or.inl ⟨by kernel_rfl, by intro w hSw; (try dsimp only at hSw); go_simp; done⟩) (by assumption) ?_
        try simp only [List.setIfInBounds_toArray, List.set_cons_zero, List.set_cons_succ]
        refine takeH (i := 7) (d := 83) (v := (.int .i64 (i : Int))) rfl rfl (by kernel_rfl) (by kernel_rfl) (by kernel_rfl) (fun _ _ _ h => h) (Or.inl ⟨by kernel_rfl, by intro w hSw; (try dsimp only at hSw); go_simp; done⟩) (by assumption) ?_
        try simp only [List.setIfInBounds_toArray, List.set_cons_zero, List.set_cons_succ]
        refine takeH (i := 9) (d := 85) (v := (.pointer (some ⟨g2, 0, none⟩))) rfl rfl (by kernel_rfl) (by kernel_rfl) (by kernel_rfl) (fun _ _ _ h => h) (Or.inl ⟨by kernel_rfl, by intro w hSw; (try dsimp only at hSw); go_simp; done⟩) (by assumption) ?_
        try simp only [List.setIfInBounds_toArray, List.set_cons_zero, List.set_cons_succ]
        refine takeH (i := 10) (d := 86) (v := (.int .i64 (i : Int))) rfl rfl (by kernel_rfl) (by kernel_rfl) (by kernel_rfl) (fun _ _ _ h => h) (Or.inl ⟨by kernel_rfl, by intro w hSw; (try dsimp only at hSw); go_simp; done⟩) (by assumption) ?_
        try simp only [List.setIfInBounds_toArray, List.set_cons_zero, List.set_cons_succ]
        refine wpAnyH_ready (rs := [8]) (by kernel_rfl) (by simp) ?_
        refine AllReadyH.cons (o := { dst := some 84, op := Op.call { callee := Callee.value (Operand.func 18), args := #[Operand.tmp 82, Operand.tmp 83, Operand.const (Value.int IntKind.i64 0)], argTypes := #[27, 3, 3] }, type := 25, pos := "more.go:67", after := #[{ on := 6, ground := Ground.data }, { on := 7, ground := Ground.data }, { on := 5, ground := Ground.chain }, { on := 5, ground := Ground.guard }], guard := some (5, false) }) rfl (fun K hK => ?_) AllReadyH.nil
        rw [if_pos (by kernel_rfl)]
        go_simp
        refine (A1.out _ XQ1.out.2.1).mono ?_
        rintro e2 w2 ⟨rfl, hb2⟩
        have XQ2 := Aside0.mk ((show _ ∧ IsGrid w2 g b W 2 cs2 ∧ IsGrid w2 g2 b2 W 2 cs ∧ Below WA.heap.size WA w2 from ⟨blk_below XQ1.out.1 hb2, XQ1.out.2.1.below hb2, XQ1.out.2.2.1.below hb2, below_step XQ1.out.2.2.2 hb2⟩))
        clear hb2
        clear hHeld
        refine hK.out _ _ (XQ2.out) (fun hHeld => ?_)
        clear hK K
        try simp only [Act.put, List.setIfInBounds_toArray, List.set_cons_zero, List.set_cons_succ]
        refine wpAnyH_ready (rs := [11]) (by kernel_rfl) (by simp) ?_
        refine AllReadyH.cons (o := { dst := some 87, op := Op.call { callee := Callee.value (Operand.func 18), args := #[Operand.tmp 85, Operand.tmp 86, Operand.const (Value.int IntKind.i64 0)], argTypes := #[27, 3, 3] }, type := 25, pos := "more.go:67", after := #[{ on := 9, ground := Ground.data }, { on := 10, ground := Ground.data }, { on := 8, ground := Ground.chain }, { on := 5, ground := Ground.guard }], guard := some (5, false) }) rfl (fun K hK => ?_) AllReadyH.nil
        rw [if_pos (by kernel_rfl)]
        go_simp
        refine (A2.out _ XQ2.out.2.2.1).mono ?_
        rintro e3 w3 ⟨rfl, hb3⟩
        have XQ3 := Aside0.mk ((show _ ∧ IsGrid w3 g b W 2 cs2 ∧ IsGrid w3 g2 b2 W 2 cs ∧ Below WA.heap.size WA w3 from ⟨blk_below XQ2.out.1 hb3, XQ2.out.2.1.below hb3, XQ2.out.2.2.1.below hb3, below_step XQ2.out.2.2.2 hb3⟩))
        clear hb3
        clear hHeld
        refine hK.out _ _ (XQ3.out) (fun hHeld => ?_)
        clear hK K
        try simp only [Act.put, List.setIfInBounds_toArray, List.set_cons_zero, List.set_cons_succ]
        refine takeH (i := 12) (d := 88) (v := (.bool false)) rfl rfl (by kernel_rfl) (by kernel_rfl) (by kernel_rfl) (fun _ _ _ h => h) (Or.inl ⟨by kernel_rfl, by intro w hSw; (try dsimp only at hSw); go_simp; done⟩) (by assumption) ?_
        try simp only [List.setIfInBounds_toArray, List.set_cons_zero, List.set_cons_succ]
        refine takeH (i := 13) (d := 89) (v := (.bool false)) rfl rfl (by kernel_rfl) (by kernel_rfl) (by kernel_rfl) (fun _ _ _ h => h) (Or.inl ⟨by kernel_rfl, by intro w hSw; (try dsimp only at hSw); go_simp; done⟩) (by assumption) ?_
        try simp only [List.setIfInBounds_toArray, List.set_cons_zero, List.set_cons_succ]
        refine wpAnyH_done (by kernel_rfl) ?_ _
        have XF := XQ3
        clear hHeld hne hne2
        go_wp2
        go_roundg (W - (i + 1))
        case measure => have := HQ.out; omega
        case rel => exact ⟨i + 1, by go_num, ⟨by omega, rfl⟩, ⟨XF.out.2.1⟩, ⟨XF.out.2.2.1⟩, ⟨BDa.out.below' XF.out.2.2.2⟩, ⟨below_step XBa.out XF.out.2.2.2⟩⟩
      · have h3 := HP2.out
        rw [if_neg (by omega)] at h3
        have A3' := Aside0.mk (A3.out p h3)
        clear h3
        by_cases hc1 : X ≤ i
        · have hc2 : (i : Int) < (W : Int) - (n : Int) := by omega
          have hc3 : (X : Int) ≤ (i : Int) := by omega
          go_wp2_with fail
          have BWa := Aside0.mk (Blk.new w1 25 #[.int .i32 p.r, .int .i64 p.f, .int .i64 p.g, .bool p.bo, .bool p.un, .bool p.iv])
          have HIa := Aside0.mk (HI0.out.below (below_alloc (Below.refl _ _) (.cells #[.int .i32 p.r, .int .i64 p.f, .int .i64 p.g, .bool p.bo, .bool p.un, .bool p.iv] 25)))
          have HWa := Aside0.mk (HW0.out.below (below_alloc (Below.refl _ _) (.cells #[.int .i32 p.r, .int .i64 p.f, .int .i64 p.g, .bool p.bo, .bool p.un, .bool p.iv] 25)))
          have BDa := Aside0.mk (BD0.out.alloc (.cells #[.int .i32 p.r, .int .i64 p.f, .int .i64 p.g, .bool p.bo, .bool p.un, .bool p.iv] 25))
          have XBa := Aside0.mk (below_alloc XB0.out (.cells #[.int .i32 p.r, .int .i64 p.f, .int .i64 p.g, .bool p.bo, .bool p.un, .bool p.iv] 25))
          have hne := ne_cell p.r p.f p.g p.bo p.un p.iv
          have hne2 := ne_cell q.r q.f q.g q.bo q.un q.iv
          generalize w1.alloc (.cells #[.int .i32 p.r, .int .i64 p.f, .int .i64 p.g, .bool p.bo, .bool p.un, .bool p.iv] 25) = WA at BWa HIa HWa BDa XBa ⊢
          obtain ⟨gw, hgw2⟩ : ∃ gw, gw = w1.heap.size := ⟨_, rfl⟩
          rw [← hgw2] at BWa ⊢
          clear hgw2 BD1
          have XQ0 := Aside0.mk (show WA.drew.heap[gw]? = some (.cells #[.int .i32 p.r, .int .i64 p.f, .int .i64 p.g, .bool p.bo, .bool p.un, .bool p.iv] 25 (0, 0)) ∧ IsGrid WA.drew g b W 2 cs2 ∧ IsGrid WA.drew g2 b2 W 2 cs ∧ Below WA.heap.size WA WA.drew from ⟨BWa.out, HIa.out, HWa.out, below_drew (Below.refl _ _)⟩)
          refine wp_region_held_drew (S := fun w' => w'.heap[gw]? = some (.cells #[.int .i32 p.r, .int .i64 p.f, .int .i64 p.g, .bool p.bo, .bool p.un, .bool p.iv] 25 (0, 0)) ∧ IsGrid w' g b W 2 cs2 ∧ IsGrid w' g2 b2 W 2 cs ∧ Below WA.heap.size WA w') (by kernel_rfl) (by exact XQ0.out) (fun hHeld => ?_)
          refine takeH (i := 0) (d := 76) (v := (.pointer (some ⟨g, 0, none⟩))) rfl rfl (by kernel_rfl) (by kernel_rfl) (by kernel_rfl) (fun _ _ _ h => h) (Or.inl ⟨by kernel_rfl, by intro w hSw; (try dsimp only at hSw); go_simp; done⟩) (by assumption) ?_
          try simp only [List.setIfInBounds_toArray, List.set_cons_zero, List.set_cons_succ]
          refine takeH (i := 1) (d := 77) (v := (.int .i64 (i : Int))) rfl rfl (by kernel_rfl) (by kernel_rfl) (by kernel_rfl) (fun _ _ _ h => h) (Or.inl ⟨by kernel_rfl, by intro w hSw; (try dsimp only at hSw); go_simp; done⟩) (by assumption) ?_
          try simp only [List.setIfInBounds_toArray, List.set_cons_zero, List.set_cons_succ]
          refine takeH (i := 3) (d := 79) (v := (.agg #[.int .i32 p.r, .int .i64 p.f, .int .i64 p.g, .bool p.bo, .bool p.un, .bool p.iv])) rfl rfl (by kernel_rfl) (by kernel_rfl) (by kernel_rfl) (fun _ _ _ h => h) (Or.inl ⟨by kernel_rfl, by intro w hSw; (try dsimp only at hSw); have hq := hSw.1; have c0 := blk_cell hq 0; have c1 := blk_cell hq 1; have c2 := blk_cell hq 2; have c3 := blk_cell hq 3; have c4 := blk_cell hq 4; have c5 := blk_cell hq 5; simp only [List.getElem?_toArray, List.getElem?_cons_zero, List.getElem?_cons_succ] at c0 c1 c2 c3 c4 c5; clear hq; go_simp; done⟩) (by assumption) ?_
          try simp only [List.setIfInBounds_toArray, List.set_cons_zero, List.set_cons_succ]
          refine wpAnyH_ready (rs := [2]) (by kernel_rfl) (by simp) ?_
          refine AllReadyH.cons (o := { dst := some 78, op := Op.call { callee := Callee.value (Operand.func 18), args := #[Operand.tmp 76, Operand.tmp 77, Operand.const (Value.int IntKind.i64 1)], argTypes := #[27, 3, 3] }, type := 25, pos := "more.go:67", after := #[{ on := 0, ground := Ground.data }, { on := 1, ground := Ground.data }], guard := none }) rfl (fun K hK => ?_) AllReadyH.nil
          rw [if_pos (by kernel_rfl)]
          go_simp
          refine (A3'.out _ XQ0.out.2.1).mono ?_
          rintro e1 w1 ⟨rfl, hb1⟩
          have XQ1 := Aside0.mk ((show _ ∧ IsGrid w1 g b W 2 cs2 ∧ IsGrid w1 g2 b2 W 2 cs ∧ Below WA.heap.size WA w1 from ⟨blk_below XQ0.out.1 hb1, XQ0.out.2.1.below hb1, XQ0.out.2.2.1.below hb1, below_step XQ0.out.2.2.2 hb1⟩))
          clear hb1
          clear hHeld
          refine hK.out _ _ (XQ1.out) (fun hHeld => ?_)
          clear hK K
          try simp only [Act.put, List.setIfInBounds_toArray, List.set_cons_zero, List.set_cons_succ]
          refine takeH (i := 4) (d := 80) (v := (.bool false)) rfl rfl (by kernel_rfl) (by kernel_rfl) (by kernel_rfl) (fun _ _ _ h => h) (Or.inl ⟨by kernel_rfl, by intro w hSw; (try dsimp only at hSw); go_simp; done⟩) (by assumption) ?_
          try simp only [List.setIfInBounds_toArray, List.set_cons_zero, List.set_cons_succ]
          refine takeH (i := 5) (d := 81) (v := (.bool false)) rfl rfl (by kernel_rfl) (by kernel_rfl) (by kernel_rfl) (fun _ _ _ h => h) (Or.inl ⟨by kernel_rfl, by intro w hSw; (try dsimp only at hSw); go_simp; done⟩) (by assumption) ?_
          try simp only [List.setIfInBounds_toArray, List.set_cons_zero, List.set_cons_succ]
          refine takeH (i := 6) (d := 82) (v := (.pointer (some ⟨g, 0, none⟩))) rfl rfl (by kernel_rfl) (by kernel_rfl) (by kernel_rfl) (fun _ _ _ h => h) (Or.inl ⟨by kernel_rfl, by intro w hSw; (try dsimp only at hSw); go_simp; done⟩) (by assumption) ?_
          try simp only [List.setIfInBounds_toArray, List.set_cons_zero, List.set_cons_succ]
          refine takeH (i := 7) (d := 83) (v := (.int .i64 (i : Int))) rfl rfl (by kernel_rfl) (by kernel_rfl) (by kernel_rfl) (fun _ _ _ h => h) (Or.inl ⟨by kernel_rfl, by intro w hSw; (try dsimp only at hSw); go_simp; done⟩) (by assumption) ?_
          try simp only [List.setIfInBounds_toArray, List.set_cons_zero, List.set_cons_succ]
          refine takeH (i := 9) (d := 85) (v := (.pointer (some ⟨g2, 0, none⟩))) rfl rfl (by kernel_rfl) (by kernel_rfl) (by kernel_rfl) (fun _ _ _ h => h) (Or.inl ⟨by kernel_rfl, by intro w hSw; (try dsimp only at hSw); go_simp; done⟩) (by assumption) ?_
          try simp only [List.setIfInBounds_toArray, List.set_cons_zero, List.set_cons_succ]
          refine takeH (i := 10) (d := 86) (v := (.int .i64 (i : Int))) rfl rfl (by kernel_rfl) (by kernel_rfl) (by kernel_rfl) (fun _ _ _ h => h) (Or.inl ⟨by kernel_rfl, by intro w hSw; (try dsimp only at hSw); go_simp; done⟩) (by assumption) ?_
          try simp only [List.setIfInBounds_toArray, List.set_cons_zero, List.set_cons_succ]
          refine wpAnyH_ready (rs := [8]) (by kernel_rfl) (by simp) ?_
          refine AllReadyH.cons (o := { dst := some 84, op := Op.call { callee := Callee.value (Operand.func 18), args := #[Operand.tmp 82, Operand.tmp 83, Operand.const (Value.int IntKind.i64 0)], argTypes := #[27, 3, 3] }, type := 25, pos := "more.go:67", after := #[{ on := 6, ground := Ground.data }, { on := 7, ground := Ground.data }, { on := 5, ground := Ground.chain }, { on := 5, ground := Ground.guard }], guard := some (5, false) }) rfl (fun K hK => ?_) AllReadyH.nil
          rw [if_pos (by kernel_rfl)]
          go_simp
          refine (A1.out _ XQ1.out.2.1).mono ?_
          rintro e2 w2 ⟨rfl, hb2⟩
          have XQ2 := Aside0.mk ((show _ ∧ IsGrid w2 g b W 2 cs2 ∧ IsGrid w2 g2 b2 W 2 cs ∧ Below WA.heap.size WA w2 from ⟨blk_below XQ1.out.1 hb2, XQ1.out.2.1.below hb2, XQ1.out.2.2.1.below hb2, below_step XQ1.out.2.2.2 hb2⟩))
          clear hb2
          clear hHeld
          refine hK.out _ _ (XQ2.out) (fun hHeld => ?_)
          clear hK K
          try simp only [Act.put, List.setIfInBounds_toArray, List.set_cons_zero, List.set_cons_succ]
          refine wpAnyH_ready (rs := [11]) (by kernel_rfl) (by simp) ?_
          refine AllReadyH.cons (o := { dst := some 87, op := Op.call { callee := Callee.value (Operand.func 18), args := #[Operand.tmp 85, Operand.tmp 86, Operand.const (Value.int IntKind.i64 0)], argTypes := #[27, 3, 3] }, type := 25, pos := "more.go:67", after := #[{ on := 9, ground := Ground.data }, { on := 10, ground := Ground.data }, { on := 8, ground := Ground.chain }, { on := 5, ground := Ground.guard }], guard := some (5, false) }) rfl (fun K hK => ?_) AllReadyH.nil
          rw [if_pos (by kernel_rfl)]
          go_simp
          refine (A2.out _ XQ2.out.2.2.1).mono ?_
          rintro e3 w3 ⟨rfl, hb3⟩
          have XQ3 := Aside0.mk ((show _ ∧ IsGrid w3 g b W 2 cs2 ∧ IsGrid w3 g2 b2 W 2 cs ∧ Below WA.heap.size WA w3 from ⟨blk_below XQ2.out.1 hb3, XQ2.out.2.1.below hb3, XQ2.out.2.2.1.below hb3, below_step XQ2.out.2.2.2 hb3⟩))
          clear hb3
          clear hHeld
          refine hK.out _ _ (XQ3.out) (fun hHeld => ?_)
          clear hK K
          try simp only [Act.put, List.setIfInBounds_toArray, List.set_cons_zero, List.set_cons_succ]
          refine takeH (i := 12) (d := 88) (v := (.bool false)) rfl rfl (by kernel_rfl) (by kernel_rfl) (by kernel_rfl) (fun _ _ _ h => h) (Or.inl ⟨by kernel_rfl, by intro w hSw; (try dsimp only at hSw); go_simp; done⟩) (by assumption) ?_
          try simp only [List.setIfInBounds_toArray, List.set_cons_zero, List.set_cons_succ]
          refine takeH (i := 13) (d := 89) (v := (.bool false)) rfl rfl (by kernel_rfl) (by kernel_rfl) (by kernel_rfl) (fun _ _ _ h => h) (Or.inl ⟨by kernel_rfl, by intro w hSw; (try dsimp only at hSw); go_simp; done⟩) (by assumption) ?_
          try simp only [List.setIfInBounds_toArray, List.set_cons_zero, List.set_cons_succ]
          refine wpAnyH_done (by kernel_rfl) ?_ _
          have XF := XQ3
          clear hHeld hne hne2
          go_wp2
          go_roundg (W - (i + 1))
          case measure => have := HQ.out; omega
          case rel => exact ⟨i + 1, by go_num, ⟨by omega, rfl⟩, ⟨XF.out.2.1⟩, ⟨XF.out.2.2.1⟩, ⟨BDa.out.below' XF.out.2.2.2⟩, ⟨below_step XBa.out XF.out.2.2.2⟩⟩
        · have hc3 : (i : Int) < (X : Int) := by omega
          go_wp2_with fail
          have BWa := Aside0.mk (Blk.new w1 25 #[.int .i32 p.r, .int .i64 p.f, .int .i64 p.g, .bool p.bo, .bool p.un, .bool p.iv])
          have HIa := Aside0.mk (HI0.out.below (below_alloc (Below.refl _ _) (.cells #[.int .i32 p.r, .int .i64 p.f, .int .i64 p.g, .bool p.bo, .bool p.un, .bool p.iv] 25)))
          have HWa := Aside0.mk (HW0.out.below (below_alloc (Below.refl _ _) (.cells #[.int .i32 p.r, .int .i64 p.f, .int .i64 p.g, .bool p.bo, .bool p.un, .bool p.iv] 25)))
          have BDa := Aside0.mk (BD0.out.alloc (.cells #[.int .i32 p.r, .int .i64 p.f, .int .i64 p.g, .bool p.bo, .bool p.un, .bool p.iv] 25))
          have XBa := Aside0.mk (below_alloc XB0.out (.cells #[.int .i32 p.r, .int .i64 p.f, .int .i64 p.g, .bool p.bo, .bool p.un, .bool p.iv] 25))
          have hne := ne_cell p.r p.f p.g p.bo p.un p.iv
          have hne2 := ne_cell q.r q.f q.g q.bo q.un q.iv
          generalize w1.alloc (.cells #[.int .i32 p.r, .int .i64 p.f, .int .i64 p.g, .bool p.bo, .bool p.un, .bool p.iv] 25) = WA at BWa HIa HWa BDa XBa ⊢
          obtain ⟨gw, hgw2⟩ : ∃ gw, gw = w1.heap.size := ⟨_, rfl⟩
          rw [← hgw2] at BWa ⊢
          clear hgw2 BD1
          have XQ0 := Aside0.mk (show WA.drew.heap[gw]? = some (.cells #[.int .i32 p.r, .int .i64 p.f, .int .i64 p.g, .bool p.bo, .bool p.un, .bool p.iv] 25 (0, 0)) ∧ IsGrid WA.drew g b W 2 cs2 ∧ IsGrid WA.drew g2 b2 W 2 cs ∧ Below WA.heap.size WA WA.drew from ⟨BWa.out, HIa.out, HWa.out, below_drew (Below.refl _ _)⟩)
          refine wp_region_held_drew (S := fun w' => w'.heap[gw]? = some (.cells #[.int .i32 p.r, .int .i64 p.f, .int .i64 p.g, .bool p.bo, .bool p.un, .bool p.iv] 25 (0, 0)) ∧ IsGrid w' g b W 2 cs2 ∧ IsGrid w' g2 b2 W 2 cs ∧ Below WA.heap.size WA w') (by kernel_rfl) (by exact XQ0.out) (fun hHeld => ?_)
          refine takeH (i := 0) (d := 76) (v := (.pointer (some ⟨g, 0, none⟩))) rfl rfl (by kernel_rfl) (by kernel_rfl) (by kernel_rfl) (fun _ _ _ h => h) (Or.inl ⟨by kernel_rfl, by intro w hSw; (try dsimp only at hSw); go_simp; done⟩) (by assumption) ?_
          try simp only [List.setIfInBounds_toArray, List.set_cons_zero, List.set_cons_succ]
          refine takeH (i := 1) (d := 77) (v := (.int .i64 (i : Int))) rfl rfl (by kernel_rfl) (by kernel_rfl) (by kernel_rfl) (fun _ _ _ h => h) (Or.inl ⟨by kernel_rfl, by intro w hSw; (try dsimp only at hSw); go_simp; done⟩) (by assumption) ?_
          try simp only [List.setIfInBounds_toArray, List.set_cons_zero, List.set_cons_succ]
          refine takeH (i := 3) (d := 79) (v := (.agg #[.int .i32 p.r, .int .i64 p.f, .int .i64 p.g, .bool p.bo, .bool p.un, .bool p.iv])) rfl rfl (by kernel_rfl) (by kernel_rfl) (by kernel_rfl) (fun _ _ _ h => h) (Or.inl ⟨by kernel_rfl, by intro w hSw; (try dsimp only at hSw); have hq := hSw.1; have c0 := blk_cell hq 0; have c1 := blk_cell hq 1; have c2 := blk_cell hq 2; have c3 := blk_cell hq 3; have c4 := blk_cell hq 4; have c5 := blk_cell hq 5; simp only [List.getElem?_toArray, List.getElem?_cons_zero, List.getElem?_cons_succ] at c0 c1 c2 c3 c4 c5; clear hq; go_simp; done⟩) (by assumption) ?_
          try simp only [List.setIfInBounds_toArray, List.set_cons_zero, List.set_cons_succ]
          refine wpAnyH_ready (rs := [2]) (by kernel_rfl) (by simp) ?_
          refine AllReadyH.cons (o := { dst := some 78, op := Op.call { callee := Callee.value (Operand.func 18), args := #[Operand.tmp 76, Operand.tmp 77, Operand.const (Value.int IntKind.i64 1)], argTypes := #[27, 3, 3] }, type := 25, pos := "more.go:67", after := #[{ on := 0, ground := Ground.data }, { on := 1, ground := Ground.data }], guard := none }) rfl (fun K hK => ?_) AllReadyH.nil
          rw [if_pos (by kernel_rfl)]
          go_simp
          refine (A3'.out _ XQ0.out.2.1).mono ?_
          rintro e1 w1 ⟨rfl, hb1⟩
          have XQ1 := Aside0.mk ((show _ ∧ IsGrid w1 g b W 2 cs2 ∧ IsGrid w1 g2 b2 W 2 cs ∧ Below WA.heap.size WA w1 from ⟨blk_below XQ0.out.1 hb1, XQ0.out.2.1.below hb1, XQ0.out.2.2.1.below hb1, below_step XQ0.out.2.2.2 hb1⟩))
          clear hb1
          clear hHeld
          refine hK.out _ _ (XQ1.out) (fun hHeld => ?_)
          clear hK K
          try simp only [Act.put, List.setIfInBounds_toArray, List.set_cons_zero, List.set_cons_succ]
          refine takeH (i := 4) (d := 80) (v := (.bool false)) rfl rfl (by kernel_rfl) (by kernel_rfl) (by kernel_rfl) (fun _ _ _ h => h) (Or.inl ⟨by kernel_rfl, by intro w hSw; (try dsimp only at hSw); go_simp; done⟩) (by assumption) ?_
          try simp only [List.setIfInBounds_toArray, List.set_cons_zero, List.set_cons_succ]
          refine takeH (i := 5) (d := 81) (v := (.bool false)) rfl rfl (by kernel_rfl) (by kernel_rfl) (by kernel_rfl) (fun _ _ _ h => h) (Or.inl ⟨by kernel_rfl, by intro w hSw; (try dsimp only at hSw); go_simp; done⟩) (by assumption) ?_
          try simp only [List.setIfInBounds_toArray, List.set_cons_zero, List.set_cons_succ]
          refine takeH (i := 6) (d := 82) (v := (.pointer (some ⟨g, 0, none⟩))) rfl rfl (by kernel_rfl) (by kernel_rfl) (by kernel_rfl) (fun _ _ _ h => h) (Or.inl ⟨by kernel_rfl, by intro w hSw; (try dsimp only at hSw); go_simp; done⟩) (by assumption) ?_
          try simp only [List.setIfInBounds_toArray, List.set_cons_zero, List.set_cons_succ]
          refine takeH (i := 7) (d := 83) (v := (.int .i64 (i : Int))) rfl rfl (by kernel_rfl) (by kernel_rfl) (by kernel_rfl) (fun _ _ _ h => h) (Or.inl ⟨by kernel_rfl, by intro w hSw; (try dsimp only at hSw); go_simp; done⟩) (by assumption) ?_
          try simp only [List.setIfInBounds_toArray, List.set_cons_zero, List.set_cons_succ]
          refine takeH (i := 9) (d := 85) (v := (.pointer (some ⟨g2, 0, none⟩))) rfl rfl (by kernel_rfl) (by kernel_rfl) (by kernel_rfl) (fun _ _ _ h => h) (Or.inl ⟨by kernel_rfl, by intro w hSw; (try dsimp only at hSw); go_simp; done⟩) (by assumption) ?_
          try simp only [List.setIfInBounds_toArray, List.set_cons_zero, List.set_cons_succ]
          refine takeH (i := 10) (d := 86) (v := (.int .i64 (i : Int))) rfl rfl (by kernel_rfl) (by kernel_rfl) (by kernel_rfl) (fun _ _ _ h => h) (Or.inl ⟨by kernel_rfl, by intro w hSw; (try dsimp only at hSw); go_simp; done⟩) (by assumption) ?_
          try simp only [List.setIfInBounds_toArray, List.set_cons_zero, List.set_cons_succ]
          refine wpAnyH_ready (rs := [8]) (by kernel_rfl) (by simp) ?_
          refine AllReadyH.cons (o := { dst := some 84, op := Op.call { callee := Callee.value (Operand.func 18), args := #[Operand.tmp 82, Operand.tmp 83, Operand.const (Value.int IntKind.i64 0)], argTypes := #[27, 3, 3] }, type := 25, pos := "more.go:67", after := #[{ on := 6, ground := Ground.data }, { on := 7, ground := Ground.data }, { on := 5, ground := Ground.chain }, { on := 5, ground := Ground.guard }], guard := some (5, false) }) rfl (fun K hK => ?_) AllReadyH.nil
          rw [if_pos (by kernel_rfl)]
          go_simp
          refine (A1.out _ XQ1.out.2.1).mono ?_
          rintro e2 w2 ⟨rfl, hb2⟩
          have XQ2 := Aside0.mk ((show _ ∧ IsGrid w2 g b W 2 cs2 ∧ IsGrid w2 g2 b2 W 2 cs ∧ Below WA.heap.size WA w2 from ⟨blk_below XQ1.out.1 hb2, XQ1.out.2.1.below hb2, XQ1.out.2.2.1.below hb2, below_step XQ1.out.2.2.2 hb2⟩))
          clear hb2
          clear hHeld
          refine hK.out _ _ (XQ2.out) (fun hHeld => ?_)
          clear hK K
          try simp only [Act.put, List.setIfInBounds_toArray, List.set_cons_zero, List.set_cons_succ]
          refine wpAnyH_ready (rs := [11]) (by kernel_rfl) (by simp) ?_
          refine AllReadyH.cons (o := { dst := some 87, op := Op.call { callee := Callee.value (Operand.func 18), args := #[Operand.tmp 85, Operand.tmp 86, Operand.const (Value.int IntKind.i64 0)], argTypes := #[27, 3, 3] }, type := 25, pos := "more.go:67", after := #[{ on := 9, ground := Ground.data }, { on := 10, ground := Ground.data }, { on := 8, ground := Ground.chain }, { on := 5, ground := Ground.guard }], guard := some (5, false) }) rfl (fun K hK => ?_) AllReadyH.nil
          rw [if_pos (by kernel_rfl)]
          go_simp
          refine (A2.out _ XQ2.out.2.2.1).mono ?_
          rintro e3 w3 ⟨rfl, hb3⟩
          have XQ3 := Aside0.mk ((show _ ∧ IsGrid w3 g b W 2 cs2 ∧ IsGrid w3 g2 b2 W 2 cs ∧ Below WA.heap.size WA w3 from ⟨blk_below XQ2.out.1 hb3, XQ2.out.2.1.below hb3, XQ2.out.2.2.1.below hb3, below_step XQ2.out.2.2.2 hb3⟩))
          clear hb3
          clear hHeld
          refine hK.out _ _ (XQ3.out) (fun hHeld => ?_)
          clear hK K
          try simp only [Act.put, List.setIfInBounds_toArray, List.set_cons_zero, List.set_cons_succ]
          refine takeH (i := 12) (d := 88) (v := (.bool false)) rfl rfl (by kernel_rfl) (by kernel_rfl) (by kernel_rfl) (fun _ _ _ h => h) (Or.inl ⟨by kernel_rfl, by intro w hSw; (try dsimp only at hSw); go_simp; done⟩) (by assumption) ?_
          try simp only [List.setIfInBounds_toArray, List.set_cons_zero, List.set_cons_succ]
          refine takeH (i := 13) (d := 89) (v := (.bool false)) rfl rfl (by kernel_rfl) (by kernel_rfl) (by kernel_rfl) (fun _ _ _ h => h) (Or.inl ⟨by kernel_rfl, by intro w hSw; (try dsimp only at hSw); go_simp; done⟩) (by assumption) ?_
          try simp only [List.setIfInBounds_toArray, List.set_cons_zero, List.set_cons_succ]
          refine wpAnyH_done (by kernel_rfl) ?_ _
          have XF := XQ3
          clear hHeld hne hne2
          go_wp2
          go_roundg (W - (i + 1))
          case measure => have := HQ.out; omega
          case rel => exact ⟨i + 1, by go_num, ⟨by omega, rfl⟩, ⟨XF.out.2.1⟩, ⟨XF.out.2.2.1⟩, ⟨BDa.out.below' XF.out.2.2.2⟩, ⟨below_step XBa.out XF.out.2.2.2⟩⟩
    · obtain rfl : W = i := by omega
      go_wp2
      go_ret
      exact ⟨rfl, XBr.out⟩
theorem rows_row (w0 x0 n0 : Int) (A : Option Addr) (c : Nat) (l : List C6) (w : World) (_h0 : (Lit.int .i64 w0).wf = true) (_h1 : (Lit.int .i64 x0).wf = true) (_h2 : (Lit.int .i64 n0).wf = true) (h : Kd.C Opens.kC w A l.length l) (hc : l.length ≤ c) :
    Calls Try.prog 8 #[.int .i64 w0, .int .i64 x0, .int .i64 n0, .slice A l.length c] w fun r w' => r = .returned (.bool true) ∧ Below w.heap.size w w' := by
  by_cases hl : l.length ≤ 60
  · exact rows_live w0 x0 n0 A c l w (Opens.src_of h) hc hl
  · exact rows_over w0 x0 n0 A c l w hl
end Go.Proofs.Ytcmmdllnbijipaa.Grd
