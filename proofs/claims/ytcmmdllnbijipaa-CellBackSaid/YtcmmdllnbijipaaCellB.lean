/- What cell.Read comes to on bytes that begin with a cell. Conditions: those in each theorem. -/
import Derived.Test.YtcmmdllnbijipaaCellA
import Derived.OpenShut
namespace Go.Proofs.Ytcmmdllnbijipaa.Obj
open Go.RowKit Go.Proofs.YtcmmdllnbijipaaW.PrintWords Go.Proofs.YtcmmdllnbijipaaW.PrintMore Go.Proofs.YtcmmdllnbijipaaW.PrintLast Go.Proofs.Ytcmmdllnbijipaa.PCellBack
set_option linter.unusedVariables false
set_option linter.unusedSimpArgs false
theorem bits_and (x y z : Bool) : decide (0 < Go.bits .and .i64 ((bitv x 1 + bitv y 2 + bitv z 4 : Nat) : Int) 1) = x ∧ decide (0 < Go.bits .and .i64 ((bitv x 1 + bitv y 2 + bitv z 4 : Nat) : Int) 2) = y ∧ decide (0 < Go.bits .and .i64 ((bitv x 1 + bitv y 2 + bitv z 4 : Nat) : Int) 4) = z := by
  cases x <;> cases y <;> cases z <;> decide +kernel
set_option maxHeartbeats 4000000 in
set_option maxRecDepth 100000 in
theorem cread_ok (r f g fl : Nat) (x y z : Bool) (M : List Int) (w : World) (hr : r ≤ 1114111) (hf : f ≤ 16) (hg : g ≤ 16) (hbv : fl = bitv x 1 + bitv y 2 + bitv z 4) (hM : M.length ≤ 1000) :
    Calls Try.prog 53 #[.string (strOfNums (numB r ++ ((f : Int) :: (g : Int) :: (fl : Int) :: M)))] w fun e w' => e = .returned (.tuple #[.agg #[.int .i32 r, .int .i64 f, .int .i64 g, .bool x, .bool y, .bool z], .int .i64 ((numB r).length + 3 : Nat), .int .i64 0]) ∧ Below w.heap.size w w' := by
  have hu := Try.underlying25
  have hua := Try.underlying23
  have hnl := numB_len9 (v := r) (by omega)
  have hfl : fl ≤ 7 := by rw [hbv]; exact bitv_le x y z
  obtain ⟨hq1, hq2, hq3⟩ := bits_and x y z
  rw [← hbv] at hq1 hq2 hq3
  clear hbv
  obtain ⟨sy, hy⟩ : ∃ q, q = strOfNums (numB r ++ ((f : Int) :: (g : Int) :: (fl : Int) :: M)) := ⟨_, rfl⟩
  have hys : sy.size = (numB r).length + 3 + M.length := by rw [hy, strOfNums_size]; simp; omega
  have H1 := Aside0.mk (show iNum sy 0 = (r, strOfNums ((f : Int) :: (g : Int) :: (fl : Int) :: M), 0) by rw [hy]; exact iNum_put _ (by omega))
  have H2 := Aside0.mk (iByte_put (f : Int) ((g : Int) :: (fl : Int) :: M) (by omega) (by omega))
  have H3 := Aside0.mk (iByte_put (g : Int) ((fl : Int) :: M) (by omega) (by omega))
  have H4 := Aside0.mk (iByte_put (fl : Int) M (by omega) (by omega))
  rw [← hy]
  have Hys := Aside0.mk hys
  clear hy hys
  go_enter Try.func53, Try.ntmps53
  go_wp2_with fail
  have HM := Aside0.mk (blk_new w (.cells #[.int .i32 0, .int .i64 0, .int .i64 0, .bool false, .bool false, .bool false] 25))
  have HB := Aside0.mk (below_alloc (Below.refl _ w) (.cells #[.int .i32 0, .int .i64 0, .int .i64 0, .bool false, .bool false, .bool false] 25))
  obtain ⟨wa, hwa⟩ : ∃ q, q = w.alloc (.cells #[.int .i32 0, .int .i64 0, .int .i64 0, .bool false, .bool false, .bool false] 25) := ⟨_, rfl⟩
  have hsa : wa.heap.size = w.heap.size + 1 := by rw [hwa]; simp
  rw [← hwa] at HM HB ⊢
  clear hwa
  refine (on_calls sy wa).mono ?_
  rintro e4 w4 ⟨rfl, rfl⟩
  have hn := eql_in ⟨w.heap.size + 1, 0, none⟩
  have HI := Aside0.mk (show IsIn (wa.alloc (.cells #[.string sy, .int .i64 0] 171)) (w.heap.size + 1) sy 0 by rw [← hsa]; exact heap_alloc_new wa _)
  have HM := Aside0.mk (blk_alloc HM.out (.cells #[.string sy, .int .i64 0] 171))
  have HB := Aside0.mk (below_alloc HB.out (.cells #[.string sy, .int .i64 0] 171))
  rw [hsa]
  clear hsa
  go_wp2_with fail
  refine (inum_calls (w.heap.size + 1) sy 0 _ HI.out (by have := Hys.out; omega)).mono ?_
  rw [H1.out]
  rintro r0 v0 ⟨rfl, hI, hF⟩
  have HM := Aside0.mk (hF.keep HM.out (by omega))
  have HB := Aside0.mk (hF.belowOf HB.out (by have := blk_lt HI.out; omega) (by omega))
  have HI := Aside0.mk hI
  clear hI hF
  go_wp2_with fail
  refine (ibyte_calls (w.heap.size + 1) _ 0 _ HI.out (by rw [strOfNums_size]; simp; omega)).mono ?_
  rw [H2.out]
  rintro r1 v1 ⟨rfl, hI, hF⟩
  have HM := Aside0.mk (hF.keep HM.out (by omega))
  have HB := Aside0.mk (hF.belowOf HB.out (by have := blk_lt HI.out; omega) (by omega))
  have HI := Aside0.mk hI
  clear hI hF
  go_wp2_with fail
  obtain ⟨ga, hga⟩ : ∃ q, q = v1.heap.size := ⟨_, rfl⟩
  have hg1 : w.heap.size + 1 < ga := by rw [hga]; exact blk_lt HI.out
  have HA := Aside0.mk (blk_new v1 (.cells #[.int .i64 f, .int .i64 0, .bool false, .bool false, .bool false] 23))
  rw [← hga] at HA ⊢
  have HI := Aside0.mk (HI.out.alloc (.cells #[.int .i64 f, .int .i64 0, .bool false, .bool false, .bool false] 23))
  have HB := Aside0.mk (below_alloc HB.out (.cells #[.int .i64 f, .int .i64 0, .bool false, .bool false, .bool false] 23))
  have HM := Aside0.mk (blk_alloc HM.out (.cells #[.int .i64 f, .int .i64 0, .bool false, .bool false, .bool false] 23))
  clear hga
  refine (ibyte_calls (w.heap.size + 1) _ 0 _ HI.out (by rw [strOfNums_size]; simp; omega)).mono ?_
  rw [H3.out]
  rintro r2 v2 ⟨rfl, hI, hF⟩
  have HM := Aside0.mk (hF.keep HM.out (by omega))
  have HA := Aside0.mk (hF.keep HA.out (by omega))
  have HB := Aside0.mk (hF.belowOf HB.out (by have := blk_lt HI.out; omega) (by omega))
  have HI := Aside0.mk hI
  clear hI hF
  have c0 : v2.cell? ⟨ga, 0, none⟩ = some (.int .i64 f) := (blk_cell HA.out 0).trans rfl
  have f0 := blk_frozen HA.out 0
  have c1 : v2.cell? ⟨ga, 1, none⟩ = some (.int .i64 0) := (blk_cell HA.out 1).trans rfl
  have f1 := blk_frozen HA.out 1
  have c2 : v2.cell? ⟨ga, 2, none⟩ = some (.bool false) := (blk_cell HA.out 2).trans rfl
  have f2 := blk_frozen HA.out 2
  have c3 : v2.cell? ⟨ga, 3, none⟩ = some (.bool false) := (blk_cell HA.out 3).trans rfl
  have f3 := blk_frozen HA.out 3
  have c4 : v2.cell? ⟨ga, 4, none⟩ = some (.bool false) := (blk_cell HA.out 4).trans rfl
  have f4 := blk_frozen HA.out 4
  go_wp2_with fail
  clear c0 c1 c2 c3 c4 f0 f1 f2 f3 f4
  have HA := Aside0.mk (blk_put (cs := #[.int .i64 f, .int .i64 0, .bool false, .bool false, .bool false]) (cs' := #[.int .i64 f, .int .i64 g, .bool false, .bool false, .bool false]) HA.out 1 (.int .i64 (g : Int)) rfl)
  have HI := Aside0.mk (show IsIn _ (w.heap.size + 1) _ _ from blk_far HI.out (p := ⟨ga, 1, none⟩) (by show w.heap.size + 1 ≠ ga; omega) (.int .i64 (g : Int)))
  have HM := Aside0.mk (blk_far HM.out (p := ⟨ga, 1, none⟩) (by show w.heap.size ≠ ga; omega) (.int .i64 (g : Int)))
  have HB := Aside0.mk (below_set (j := 1) (v := .int .i64 (g : Int)) HB.out (show w.heap.size ≤ ga by omega))
  refine (ibyte_calls (w.heap.size + 1) _ 0 _ HI.out (by rw [strOfNums_size]; simp; omega)).mono ?_
  rw [H4.out]
  rintro r3 v3 ⟨rfl, hI, hF⟩
  have HM := Aside0.mk (hF.keep HM.out (by omega))
  have HA := Aside0.mk (hF.keep HA.out (by omega))
  have HB := Aside0.mk (hF.belowOf HB.out (by have := blk_lt HI.out; omega) (by omega))
  have HI := Aside0.mk hI
  clear hI hF
  go_wp2_with fail
  refine (ileft_calls (w.heap.size + 1) _ 0 _ HI.out).mono ?_
  rw [if_pos rfl, strOfNums_size]
  rintro r4 v4 ⟨rfl, rfl⟩
  have HE := iend_calls (w.heap.size + 1) _ 0 _ HI.out
  rw [strOfNums_size, if_pos rfl] at HE
  go_wp2_with fail
  refine HE.mono ?_
  rintro r5 v5 ⟨rfl, hI, hF⟩
  have HM := Aside0.mk (hF.keep HM.out (by omega))
  have HA := Aside0.mk (hF.keep HA.out (by omega))
  have HB := Aside0.mk (hF.belowOf HB.out (by have := blk_lt HI.out; omega) (by omega))
  have HI := Aside0.mk hI
  clear hI hF
  clear HE
  have c0 : v5.cell? ⟨ga, 0, none⟩ = some (.int .i64 f) := (blk_cell HA.out 0).trans rfl
  have f0 := blk_frozen HA.out 0
  have c1 : v5.cell? ⟨ga, 1, none⟩ = some (.int .i64 g) := (blk_cell HA.out 1).trans rfl
  have f1 := blk_frozen HA.out 1
  have c2 : v5.cell? ⟨ga, 2, none⟩ = some (.bool false) := (blk_cell HA.out 2).trans rfl
  have f2 := blk_frozen HA.out 2
  have c3 : v5.cell? ⟨ga, 3, none⟩ = some (.bool false) := (blk_cell HA.out 3).trans rfl
  have f3 := blk_frozen HA.out 3
  have c4 : v5.cell? ⟨ga, 4, none⟩ = some (.bool false) := (blk_cell HA.out 4).trans rfl
  have f4 := blk_frozen HA.out 4
  have d0 : v5.cell? ⟨w.heap.size, 0, none⟩ = some (.int .i32 0) := (blk_cell HM.out 0).trans rfl
  have q0 := blk_frozen HM.out 0
  have d1 : v5.cell? ⟨w.heap.size, 1, none⟩ = some (.int .i64 0) := (blk_cell HM.out 1).trans rfl
  have q1 := blk_frozen HM.out 1
  have d2 : v5.cell? ⟨w.heap.size, 2, none⟩ = some (.int .i64 0) := (blk_cell HM.out 2).trans rfl
  have q2 := blk_frozen HM.out 2
  have d3 : v5.cell? ⟨w.heap.size, 3, none⟩ = some (.bool false) := (blk_cell HM.out 3).trans rfl
  have q3 := blk_frozen HM.out 3
  have d4 : v5.cell? ⟨w.heap.size, 4, none⟩ = some (.bool false) := (blk_cell HM.out 4).trans rfl
  have q4 := blk_frozen HM.out 4
  have d5 : v5.cell? ⟨w.heap.size, 5, none⟩ = some (.bool false) := (blk_cell HM.out 5).trans rfl
  have q5 := blk_frozen HM.out 5
  have hvA := cvalid_calls (f : Int) (g : Int) false false false
  rw [show aVal (f : Int) (g : Int) = true by simp [aVal]; omega] at hvA
  have hrI : ¬ (1114111 : Int) < (r : Int) := by omega
  have hfI : ¬ (7 : Int) < (fl : Int) := by omega
  by_cases hM0 : M.length = 0
  · rw [if_pos hM0, hM0]
    go_wp2_with fail
    refine (hvA _).mono ?_
    rintro r6 v6 ⟨rfl, hb⟩
    have HM := Aside0.mk (blk_below HM.out hb)
    have HA := Aside0.mk (blk_below HA.out hb)
    have HB := Aside0.mk (below_step HB.out hb)
    clear hb d0 d1 d2 d3 d4 d5 q0 q1 q2 q3 q4 q5 c0 c1 c2 c3 c4 f0 f1 f2 f3 f4
    have c0 : v6.cell? ⟨ga, 0, none⟩ = some (.int .i64 f) := (blk_cell HA.out 0).trans rfl
    have f0 := blk_frozen HA.out 0
    have c1 : v6.cell? ⟨ga, 1, none⟩ = some (.int .i64 g) := (blk_cell HA.out 1).trans rfl
    have f1 := blk_frozen HA.out 1
    have c2 : v6.cell? ⟨ga, 2, none⟩ = some (.bool false) := (blk_cell HA.out 2).trans rfl
    have f2 := blk_frozen HA.out 2
    have c3 : v6.cell? ⟨ga, 3, none⟩ = some (.bool false) := (blk_cell HA.out 3).trans rfl
    have f3 := blk_frozen HA.out 3
    have c4 : v6.cell? ⟨ga, 4, none⟩ = some (.bool false) := (blk_cell HA.out 4).trans rfl
    have f4 := blk_frozen HA.out 4
    have d0 : v6.cell? ⟨w.heap.size, 0, none⟩ = some (.int .i32 0) := (blk_cell HM.out 0).trans rfl
    have q0 := blk_frozen HM.out 0
    have d1 : v6.cell? ⟨w.heap.size, 1, none⟩ = some (.int .i64 0) := (blk_cell HM.out 1).trans rfl
    have q1 := blk_frozen HM.out 1
    have d2 : v6.cell? ⟨w.heap.size, 2, none⟩ = some (.int .i64 0) := (blk_cell HM.out 2).trans rfl
    have q2 := blk_frozen HM.out 2
    have d3 : v6.cell? ⟨w.heap.size, 3, none⟩ = some (.bool false) := (blk_cell HM.out 3).trans rfl
    have q3 := blk_frozen HM.out 3
    have d4 : v6.cell? ⟨w.heap.size, 4, none⟩ = some (.bool false) := (blk_cell HM.out 4).trans rfl
    have q4 := blk_frozen HM.out 4
    have d5 : v6.cell? ⟨w.heap.size, 5, none⟩ = some (.bool false) := (blk_cell HM.out 5).trans rfl
    have q5 := blk_frozen HM.out 5
    go_wp2
    have hw0 : wrap64 (sy.size : Int) = (((numB r).length + 3 : Nat) : Int) := by unfold wrap64; have := Hys.out; omega
    refine bodyPost_ret (results_ctt rfl _ _ w.heap.size 25 #[.int .i32 (r : Int), .int .i64 (f : Int), .int .i64 (g : Int), .bool x, .bool y, .bool z] (0, 0) _ rfl (by refine blk_put (cs := #[.int .i32 (r : Int), .int .i64 (f : Int), .int .i64 (g : Int), .bool x, .bool y, .bool false]) ?_ 5 _ rfl; refine blk_put (cs := #[.int .i32 (r : Int), .int .i64 (f : Int), .int .i64 (g : Int), .bool x, .bool false, .bool false]) ?_ 4 _ rfl; refine blk_put (cs := #[.int .i32 (r : Int), .int .i64 (f : Int), .int .i64 (g : Int), .bool false, .bool false, .bool false]) ?_ 3 _ rfl; refine blk_put (cs := #[.int .i32 (r : Int), .int .i64 (f : Int), .int .i64 0, .bool false, .bool false, .bool false]) ?_ 2 _ rfl; refine blk_put (cs := #[.int .i32 (r : Int), .int .i64 0, .int .i64 0, .bool false, .bool false, .bool false]) ?_ 1 _ rfl; refine blk_put (cs := #[.int .i32 0, .int .i64 0, .int .i64 0, .bool false, .bool false, .bool false]) ?_ 0 _ rfl; exact blk_far (blk_far (blk_far HM.out (p := ⟨ga, 2, none⟩) (show w.heap.size ≠ ga by omega) _) (p := ⟨ga, 3, none⟩) (show w.heap.size ≠ ga by omega) _) (p := ⟨ga, 4, none⟩) (show w.heap.size ≠ ga by omega) _) Try.underlying25 rfl (by kernel_rfl)) rfl ?_
    exact ⟨by rw [← hw0]; rfl, (below_set (below_set (below_set (below_set (below_set (below_set (below_set (below_set (below_set HB.out (show w.heap.size ≤ ga by omega)) (show w.heap.size ≤ ga by omega)) (show w.heap.size ≤ ga by omega)) (Nat.le_refl _)) (Nat.le_refl _)) (Nat.le_refl _)) (Nat.le_refl _)) (Nat.le_refl _)) (Nat.le_refl _))⟩
  · rw [if_neg hM0]
    have hM1 : (0 : Int) < (M.length : Int) := by omega
    go_wp2_with fail
    refine (hvA _).mono ?_
    rintro r6 v6 ⟨rfl, hb⟩
    have HM := Aside0.mk (blk_below HM.out hb)
    have HA := Aside0.mk (blk_below HA.out hb)
    have HB := Aside0.mk (below_step HB.out hb)
    clear hb d0 d1 d2 d3 d4 d5 q0 q1 q2 q3 q4 q5 c0 c1 c2 c3 c4 f0 f1 f2 f3 f4
    have c0 : v6.cell? ⟨ga, 0, none⟩ = some (.int .i64 f) := (blk_cell HA.out 0).trans rfl
    have f0 := blk_frozen HA.out 0
    have c1 : v6.cell? ⟨ga, 1, none⟩ = some (.int .i64 g) := (blk_cell HA.out 1).trans rfl
    have f1 := blk_frozen HA.out 1
    have c2 : v6.cell? ⟨ga, 2, none⟩ = some (.bool false) := (blk_cell HA.out 2).trans rfl
    have f2 := blk_frozen HA.out 2
    have c3 : v6.cell? ⟨ga, 3, none⟩ = some (.bool false) := (blk_cell HA.out 3).trans rfl
    have f3 := blk_frozen HA.out 3
    have c4 : v6.cell? ⟨ga, 4, none⟩ = some (.bool false) := (blk_cell HA.out 4).trans rfl
    have f4 := blk_frozen HA.out 4
    have d0 : v6.cell? ⟨w.heap.size, 0, none⟩ = some (.int .i32 0) := (blk_cell HM.out 0).trans rfl
    have q0 := blk_frozen HM.out 0
    have d1 : v6.cell? ⟨w.heap.size, 1, none⟩ = some (.int .i64 0) := (blk_cell HM.out 1).trans rfl
    have q1 := blk_frozen HM.out 1
    have d2 : v6.cell? ⟨w.heap.size, 2, none⟩ = some (.int .i64 0) := (blk_cell HM.out 2).trans rfl
    have q2 := blk_frozen HM.out 2
    have d3 : v6.cell? ⟨w.heap.size, 3, none⟩ = some (.bool false) := (blk_cell HM.out 3).trans rfl
    have q3 := blk_frozen HM.out 3
    have d4 : v6.cell? ⟨w.heap.size, 4, none⟩ = some (.bool false) := (blk_cell HM.out 4).trans rfl
    have q4 := blk_frozen HM.out 4
    have d5 : v6.cell? ⟨w.heap.size, 5, none⟩ = some (.bool false) := (blk_cell HM.out 5).trans rfl
    have q5 := blk_frozen HM.out 5
    go_wp2
    have hw1 : wrap64 ((sy.size : Int) - (M.length : Int)) = (((numB r).length + 3 : Nat) : Int) := by unfold wrap64; have := Hys.out; omega
    refine bodyPost_ret (results_ctt rfl _ _ w.heap.size 25 #[.int .i32 (r : Int), .int .i64 (f : Int), .int .i64 (g : Int), .bool x, .bool y, .bool z] (0, 0) _ rfl (by refine blk_put (cs := #[.int .i32 (r : Int), .int .i64 (f : Int), .int .i64 (g : Int), .bool x, .bool y, .bool false]) ?_ 5 _ rfl; refine blk_put (cs := #[.int .i32 (r : Int), .int .i64 (f : Int), .int .i64 (g : Int), .bool x, .bool false, .bool false]) ?_ 4 _ rfl; refine blk_put (cs := #[.int .i32 (r : Int), .int .i64 (f : Int), .int .i64 (g : Int), .bool false, .bool false, .bool false]) ?_ 3 _ rfl; refine blk_put (cs := #[.int .i32 (r : Int), .int .i64 (f : Int), .int .i64 0, .bool false, .bool false, .bool false]) ?_ 2 _ rfl; refine blk_put (cs := #[.int .i32 (r : Int), .int .i64 0, .int .i64 0, .bool false, .bool false, .bool false]) ?_ 1 _ rfl; refine blk_put (cs := #[.int .i32 0, .int .i64 0, .int .i64 0, .bool false, .bool false, .bool false]) ?_ 0 _ rfl; exact blk_far (blk_far (blk_far HM.out (p := ⟨ga, 2, none⟩) (show w.heap.size ≠ ga by omega) _) (p := ⟨ga, 3, none⟩) (show w.heap.size ≠ ga by omega) _) (p := ⟨ga, 4, none⟩) (show w.heap.size ≠ ga by omega) _) Try.underlying25 rfl (by kernel_rfl)) rfl ?_
    exact ⟨by rw [← hw1]; rfl, (below_set (below_set (below_set (below_set (below_set (below_set (below_set (below_set (below_set HB.out (show w.heap.size ≤ ga by omega)) (show w.heap.size ≤ ga by omega)) (show w.heap.size ≤ ga by omega)) (Nat.le_refl _)) (Nat.le_refl _)) (Nat.le_refl _)) (Nat.le_refl _)) (Nat.le_refl _)) (Nat.le_refl _))⟩
end Go.Proofs.Ytcmmdllnbijipaa.Obj
