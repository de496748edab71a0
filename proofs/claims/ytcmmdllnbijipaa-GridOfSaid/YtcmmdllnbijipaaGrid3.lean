/- What the moving methods of a grid.Grid come to. Conditions: those in each theorem. -/
import Derived.Test.YtcmmdllnbijipaaGrid2
import Derived.StillTailTactics
namespace Go.Proofs.Ytcmmdllnbijipaa.Grd
open Go.RowKit Go.Proofs.Ytcmmdllnbijipaa.Mem Go.Proofs.YtcmmdllnbijipaaW.PrintWords Go.Proofs.YtcmmdllnbijipaaW.PrintMore
attribute [local go_sem] max2_i min2_i max_two min_two
set_option linter.unusedVariables false
set_option linter.unusedSimpArgs false

theorem less_min (K : Nat) (x : C6) (L : List C6) : less (min K L.length) x L = less K x L := by
  unfold less
  congr 1
  · by_cases h : K ≤ L.length
    · rw [Nat.min_eq_left h]
    · rw [Nat.min_eq_right (by omega), List.drop_of_length_le (Nat.le_refl _), List.drop_of_length_le (by omega)]
  · rw [Nat.min_assoc, Nat.min_self]
theorem more_min (K : Nat) (x : C6) (L : List C6) : more (min K L.length) x L = more K x L := by
  unfold more
  congr 1
  · rw [Nat.min_assoc, Nat.min_self]
  · congr 1
    omega
theorem part_zero (cs : List C6) (k : Nat) (F : List C6 → List C6) (hF : F [] = []) : part cs k 0 F = cs := by
  simp [part, put, hF]
set_option maxHeartbeats 1000000 in
set_option maxRecDepth 100000 in
theorem up_calls (g b W H : Nat) (top bottom n : Int) (x : C6) (cs : List C6) (w : World) (h : IsGrid w g b W H cs) :
    Calls Try.prog 25 #[.pointer (some ⟨g, 0, none⟩), .int .i64 top, .int .i64 bottom, .int .i64 n, .agg #[.int .i32 x.r, .int .i64 x.f, .int .i64 x.g, .bool x.bo, .bool x.un, .bool x.iv]] w fun r w' => r = .returned (.tuple #[]) ∧ IsGrid w' g b W H (gRows W H cs top bottom n (fun k => less k x)) ∧ Only [b] w w' := by
  have hlen := h.1
  obtain ⟨rest, hB, hK⟩ := h.put_
  have HK := Aside0.mk hK
  have HI := Aside0.mk (h.below (below_alloc (Below.refl _ _) (.cells #[.int .i32 x.r, .int .i64 x.f, .int .i64 x.g, .bool x.bo, .bool x.un, .bool x.iv] 25)))
  have HB := Aside0.mk (hB.alloc (.cells #[.int .i32 x.r, .int .i64 x.f, .int .i64 x.g, .bool x.bo, .bool x.un, .bool x.iv] 25))
  have HN := Aside0.mk (Blk.new w 25 #[.int .i32 x.r, .int .i64 x.f, .int .i64 x.g, .bool x.bo, .bool x.un, .bool x.iv])
  have HO := Aside0.mk ((Only.refl [b] w).alloc (.cells #[.int .i32 x.r, .int .i64 x.f, .int .i64 x.g, .bool x.bo, .bool x.un, .bool x.iv] 25))
  have hW1 := h.2.1
  have hN8 := wh_le h.2.2.1 h.2.2.2.2.1
  clear hB hK h
  go_enter Try.func25, Try.ntmps25
  go_wp2_with fail
  refine (rows_calls g b W H top bottom cs _ HI.out).mono ?_
  rintro e1 w1 ⟨⟨v, rfl, A, c, rfl, hc, hA⟩, nq, rfl⟩
  obtain ⟨M, hM⟩ : ∃ M, M = if max top 0 < min bottom (H : Int) then rowsM W H top bottom else 0 := ⟨_, rfl⟩
  obtain ⟨P, hP⟩ : ∃ P, P = (min (max n 0) (H : Int)).toNat * min W M := ⟨_, rfl⟩
  rw [← hM] at hc hA ⊢
  obtain ⟨k, hk, hA', hE⟩ : ∃ k, k + M ≤ cs.length ∧ (M = 0 ∨ A = some ⟨b, k * 6, none⟩) ∧ part cs k M (less (min P M) x) = gRows W H cs top bottom n (fun k => less k x) := by
    by_cases hi : max top 0 < min bottom (H : Int)
    · rw [if_pos hi] at hM
      have hf := rows_fit W H top bottom hi
      have hMW : W ≤ M := by
        rw [hM]
        unfold rowsM
        have := Nat.mul_le_mul_right W (show 1 ≤ ((min bottom (H : Int)) - (max top 0)).toNat by omega)
        omega
      refine ⟨rowsK W top, by omega, hA, ?_⟩
      unfold gRows
      rw [if_pos hi, ← hM]
      unfold part
      have hl : ((cs.drop (rowsK W top)).take M).length = M := by simp; omega
      have h2 := less_min P x ((cs.drop (rowsK W top)).take M)
      rw [hl] at h2
      rw [h2, hP, Nat.min_eq_left hMW]
      rfl
    · rw [if_neg hi] at hM
      subst hM
      refine ⟨0, by omega, .inl rfl, ?_⟩
      unfold gRows
      rw [if_neg hi, part_zero _ _ _ (by simp [less])]
  have hM8 : M ≤ 800 := by omega
  have HE := Aside0.mk hE
  have HA := Aside0.mk hA'
  have HP := Aside0.mk hP
  have HI := Aside0.mk (show IsGrid ((w.alloc (.cells #[.int .i32 x.r, .int .i64 x.f, .int .i64 x.g, .bool x.bo, .bool x.un, .bool x.iv] 25)).drewN nq) g b W H cs from HI.out.below (pw_below_drewN (Below.refl _ _) nq))
  have HB := Aside0.mk (HB.out.drewN nq)
  have HN := Aside0.mk (HN.out.drewN nq)
  have HO := Aside0.mk (HO.out.drewN nq)
  generalize (w.alloc (.cells #[.int .i32 x.r, .int .i64 x.f, .int .i64 x.g, .bool x.bo, .bool x.un, .bool x.iv] 25)).drewN nq = W1 at HI HB HN HO ⊢
  have d0 : W1.cell? ⟨w.heap.size, 0, none⟩ = some (.int .i32 x.r) := (HN.out.cell 0).trans rfl
  have d1 : W1.cell? ⟨w.heap.size, 1, none⟩ = some (.int .i64 x.f) := (HN.out.cell 1).trans rfl
  have d2 : W1.cell? ⟨w.heap.size, 2, none⟩ = some (.int .i64 x.g) := (HN.out.cell 2).trans rfl
  have d3 : W1.cell? ⟨w.heap.size, 3, none⟩ = some (.bool x.bo) := (HN.out.cell 3).trans rfl
  have d4 : W1.cell? ⟨w.heap.size, 4, none⟩ = some (.bool x.un) := (HN.out.cell 4).trans rfl
  have d5 : W1.cell? ⟨w.heap.size, 5, none⟩ = some (.bool x.iv) := (HN.out.cell 5).trans rfl
  clear hM hA hA' hE hP
  go_wp2_with fail
  go_still_tail 9, (by kernel_rfl)
  have hmc := many_calls g b W H n A M c cs W1.drew (show IsGrid W1.drew g b W H cs from HI.out) hM8
  rw [← HP.out] at hmc
  have hmc2 : Calls Try.prog 69 #[.pointer (some ⟨g, 0, none⟩), .slice A M c, .int .i64 n] W1.drew fun e w'' => e = .returned (.int .i64 (P : Int)) ∧ w'' = W1.drew := hmc.mono fun _ _ hh => ⟨hh.1, hh.2.symm⟩
  clear hmc
  still_call hmc2
  clear hmc2
  repeat still_step
  refine wpStill_nil ?_
  change wpList _ _ _ _ _ W1.drew
  have HB3 := Aside0.mk (HB.out.drew)
  have HO3 := Aside0.mk (HO.out.drew)
  clear d0 d1 d2 d3 d4 d5
  have hmn : (min (P : Int) (M : Int)) = ((min P M : Nat) : Int) := by omega
  rw [hmn]
  clear hmn
  go_wp2_with fail
  refine (less_calls b k M c (min P M) A cs rest x _ HB3.out HA.out hc hk (by omega) (Nat.min_le_right _ _)).mono ?_
  rintro e2 w2 ⟨rfl, hb2, ho2⟩
  have HB4 := Aside0.mk hb2
  have HO4 := Aside0.mk (HO3.out.trans ho2)
  clear hb2 ho2
  go_wp2
  go_end0
  have hl4 := part_len cs k M (less (min P M) x) (fun L => less_len _ _ L) hk
  rw [← HE.out]
  exact ⟨rfl, HK.out _ _ hl4 HB4.out HO4.out, HO4.out⟩
set_option maxHeartbeats 1000000 in
set_option maxRecDepth 100000 in
theorem down_calls (g b W H : Nat) (top bottom n : Int) (x : C6) (cs : List C6) (w : World) (h : IsGrid w g b W H cs) :
    Calls Try.prog 26 #[.pointer (some ⟨g, 0, none⟩), .int .i64 top, .int .i64 bottom, .int .i64 n, .agg #[.int .i32 x.r, .int .i64 x.f, .int .i64 x.g, .bool x.bo, .bool x.un, .bool x.iv]] w fun r w' => r = .returned (.tuple #[]) ∧ IsGrid w' g b W H (gRows W H cs top bottom n (fun k => more k x)) ∧ Only [b] w w' := by
  have hlen := h.1
  obtain ⟨rest, hB, hK⟩ := h.put_
  have HK := Aside0.mk hK
  have HI := Aside0.mk (h.below (below_alloc (Below.refl _ _) (.cells #[.int .i32 x.r, .int .i64 x.f, .int .i64 x.g, .bool x.bo, .bool x.un, .bool x.iv] 25)))
  have HB := Aside0.mk (hB.alloc (.cells #[.int .i32 x.r, .int .i64 x.f, .int .i64 x.g, .bool x.bo, .bool x.un, .bool x.iv] 25))
  have HN := Aside0.mk (Blk.new w 25 #[.int .i32 x.r, .int .i64 x.f, .int .i64 x.g, .bool x.bo, .bool x.un, .bool x.iv])
  have HO := Aside0.mk ((Only.refl [b] w).alloc (.cells #[.int .i32 x.r, .int .i64 x.f, .int .i64 x.g, .bool x.bo, .bool x.un, .bool x.iv] 25))
  have hW1 := h.2.1
  have hN8 := wh_le h.2.2.1 h.2.2.2.2.1
  clear hB hK h
  go_enter Try.func26, Try.ntmps26
  go_wp2_with fail
  refine (rows_calls g b W H top bottom cs _ HI.out).mono ?_
  rintro e1 w1 ⟨⟨v, rfl, A, c, rfl, hc, hA⟩, nq, rfl⟩
  obtain ⟨M, hM⟩ : ∃ M, M = if max top 0 < min bottom (H : Int) then rowsM W H top bottom else 0 := ⟨_, rfl⟩
  obtain ⟨P, hP⟩ : ∃ P, P = (min (max n 0) (H : Int)).toNat * min W M := ⟨_, rfl⟩
  rw [← hM] at hc hA ⊢
  obtain ⟨k, hk, hA', hE⟩ : ∃ k, k + M ≤ cs.length ∧ (M = 0 ∨ A = some ⟨b, k * 6, none⟩) ∧ part cs k M (more (min P M) x) = gRows W H cs top bottom n (fun k => more k x) := by
    by_cases hi : max top 0 < min bottom (H : Int)
    · rw [if_pos hi] at hM
      have hf := rows_fit W H top bottom hi
      have hMW : W ≤ M := by
        rw [hM]
        unfold rowsM
        have := Nat.mul_le_mul_right W (show 1 ≤ ((min bottom (H : Int)) - (max top 0)).toNat by omega)
        omega
      refine ⟨rowsK W top, by omega, hA, ?_⟩
      unfold gRows
      rw [if_pos hi, ← hM]
      unfold part
      have hl : ((cs.drop (rowsK W top)).take M).length = M := by simp; omega
      have h2 := more_min P x ((cs.drop (rowsK W top)).take M)
      rw [hl] at h2
      rw [h2, hP, Nat.min_eq_left hMW]
      rfl
    · rw [if_neg hi] at hM
      subst hM
      refine ⟨0, by omega, .inl rfl, ?_⟩
      unfold gRows
      rw [if_neg hi, part_zero _ _ _ (by simp [more])]
  have hM8 : M ≤ 800 := by omega
  have HE := Aside0.mk hE
  have HA := Aside0.mk hA'
  have HP := Aside0.mk hP
  have HI := Aside0.mk (show IsGrid ((w.alloc (.cells #[.int .i32 x.r, .int .i64 x.f, .int .i64 x.g, .bool x.bo, .bool x.un, .bool x.iv] 25)).drewN nq) g b W H cs from HI.out.below (pw_below_drewN (Below.refl _ _) nq))
  have HB := Aside0.mk (HB.out.drewN nq)
  have HN := Aside0.mk (HN.out.drewN nq)
  have HO := Aside0.mk (HO.out.drewN nq)
  generalize (w.alloc (.cells #[.int .i32 x.r, .int .i64 x.f, .int .i64 x.g, .bool x.bo, .bool x.un, .bool x.iv] 25)).drewN nq = W1 at HI HB HN HO ⊢
  have d0 : W1.cell? ⟨w.heap.size, 0, none⟩ = some (.int .i32 x.r) := (HN.out.cell 0).trans rfl
  have d1 : W1.cell? ⟨w.heap.size, 1, none⟩ = some (.int .i64 x.f) := (HN.out.cell 1).trans rfl
  have d2 : W1.cell? ⟨w.heap.size, 2, none⟩ = some (.int .i64 x.g) := (HN.out.cell 2).trans rfl
  have d3 : W1.cell? ⟨w.heap.size, 3, none⟩ = some (.bool x.bo) := (HN.out.cell 3).trans rfl
  have d4 : W1.cell? ⟨w.heap.size, 4, none⟩ = some (.bool x.un) := (HN.out.cell 4).trans rfl
  have d5 : W1.cell? ⟨w.heap.size, 5, none⟩ = some (.bool x.iv) := (HN.out.cell 5).trans rfl
  clear hM hA hA' hE hP
  go_wp2_with fail
  go_still_tail 9, (by kernel_rfl)
  have hmc := many_calls g b W H n A M c cs W1.drew (show IsGrid W1.drew g b W H cs from HI.out) hM8
  rw [← HP.out] at hmc
  have hmc2 : Calls Try.prog 69 #[.pointer (some ⟨g, 0, none⟩), .slice A M c, .int .i64 n] W1.drew fun e w'' => e = .returned (.int .i64 (P : Int)) ∧ w'' = W1.drew := hmc.mono fun _ _ hh => ⟨hh.1, hh.2.symm⟩
  clear hmc
  still_call hmc2
  clear hmc2
  repeat still_step
  refine wpStill_nil ?_
  change wpList _ _ _ _ _ W1.drew
  have HB3 := Aside0.mk (HB.out.drew)
  have HO3 := Aside0.mk (HO.out.drew)
  clear d0 d1 d2 d3 d4 d5
  have hmn : (min (P : Int) (M : Int)) = ((min P M : Nat) : Int) := by omega
  rw [hmn]
  clear hmn
  go_wp2_with fail
  refine (more_calls b k M c (min P M) A cs rest x _ HB3.out HA.out hc hk (by omega) (Nat.min_le_right _ _)).mono ?_
  rintro e2 w2 ⟨rfl, hb2, ho2⟩
  have HB4 := Aside0.mk hb2
  have HO4 := Aside0.mk (HO3.out.trans ho2)
  clear hb2 ho2
  go_wp2
  go_end0
  have hl4 := part_len cs k M (more (min P M) x) (fun L => more_len _ _ L) hk
  rw [← HE.out]
  exact ⟨rfl, HK.out _ _ hl4 HB4.out HO4.out, HO4.out⟩
set_option maxHeartbeats 1000000 in
set_option maxRecDepth 100000 in
theorem right_calls (g b W H : Nat) (X Y n : Int) (x : C6) (cs : List C6) (w : World) (h : IsGrid w g b W H cs) :
    Calls Try.prog 29 #[.pointer (some ⟨g, 0, none⟩), .int .i64 X, .int .i64 Y, .int .i64 n, .agg #[.int .i32 x.r, .int .i64 x.f, .int .i64 x.g, .bool x.bo, .bool x.un, .bool x.iv]] w fun r w' => r = .returned (.tuple #[]) ∧ IsGrid w' g b W H (gRow W H cs X Y n (fun k => more k x)) ∧ Only [b] w w' := by
  have hlen := h.1
  obtain ⟨rest, hB, hK⟩ := h.put_
  have HK := Aside0.mk hK
  have HI := Aside0.mk (h.below (below_alloc (Below.refl _ _) (.cells #[.int .i32 x.r, .int .i64 x.f, .int .i64 x.g, .bool x.bo, .bool x.un, .bool x.iv] 25)))
  have HB := Aside0.mk (hB.alloc (.cells #[.int .i32 x.r, .int .i64 x.f, .int .i64 x.g, .bool x.bo, .bool x.un, .bool x.iv] 25))
  have HN := Aside0.mk (Blk.new w 25 #[.int .i32 x.r, .int .i64 x.f, .int .i64 x.g, .bool x.bo, .bool x.un, .bool x.iv])
  have HO := Aside0.mk ((Only.refl [b] w).alloc (.cells #[.int .i32 x.r, .int .i64 x.f, .int .i64 x.g, .bool x.bo, .bool x.un, .bool x.iv] 25))
  have hN8 := wh_le h.2.2.1 h.2.2.2.2.1
  clear hB hK h
  go_enter Try.func29, Try.ntmps29
  go_wp2_with fail
  refine (row_calls g b W H X Y cs _ HI.out).mono ?_
  rintro e1 w1 ⟨⟨v, rfl, A, c, rfl, hc, hA⟩, nq, rfl⟩
  obtain ⟨M, hM⟩ : ∃ M, M = if inG W H X Y = true then W - X.toNat else 0 := ⟨_, rfl⟩
  obtain ⟨P, hP⟩ : ∃ P : Nat, (P : Int) = min (max n 0) (M : Int) := ⟨(min (max n 0) (M : Int)).toNat, by omega⟩
  rw [← hM] at hc hA ⊢
  obtain ⟨k, hk, hA', hE⟩ : ∃ k, k + M ≤ cs.length ∧ (M = 0 ∨ A = some ⟨b, k * 6, none⟩) ∧ part cs k M (more P x) = gRow W H cs X Y n (fun k => more k x) := by
    by_cases hi : inG W H X Y = true
    · rw [if_pos hi] at hM
      have hf := ix_lt hi
      refine ⟨ix W X Y, by omega, hA, ?_⟩
      unfold gRow
      rw [if_pos hi, ← hM]
      unfold part
      have hl : ((cs.drop (ix W X Y)).take M).length = M := by simp; omega
      have h2 := more_min n.toNat x ((cs.drop (ix W X Y)).take M)
      rw [hl] at h2
      dsimp only
      rw [← h2, show P = min n.toNat M by omega]
    · rw [if_neg hi] at hM
      subst hM
      refine ⟨0, by omega, .inl rfl, ?_⟩
      unfold gRow
      rw [if_neg hi, part_zero _ _ _ (by simp [more])]
  have hPM : P ≤ M := by omega
  have HE := Aside0.mk hE
  have HA := Aside0.mk hA'
  have HP := Aside0.mk hP
  have HB := Aside0.mk (HB.out.drewN nq)
  have HN := Aside0.mk (HN.out.drewN nq)
  have HO := Aside0.mk (HO.out.drewN nq)
  generalize (w.alloc (.cells #[.int .i32 x.r, .int .i64 x.f, .int .i64 x.g, .bool x.bo, .bool x.un, .bool x.iv] 25)).drewN nq = W1 at HB HN HO ⊢
  have d0 : W1.cell? ⟨w.heap.size, 0, none⟩ = some (.int .i32 x.r) := (HN.out.cell 0).trans rfl
  have d1 : W1.cell? ⟨w.heap.size, 1, none⟩ = some (.int .i64 x.f) := (HN.out.cell 1).trans rfl
  have d2 : W1.cell? ⟨w.heap.size, 2, none⟩ = some (.int .i64 x.g) := (HN.out.cell 2).trans rfl
  have d3 : W1.cell? ⟨w.heap.size, 3, none⟩ = some (.bool x.bo) := (HN.out.cell 3).trans rfl
  have d4 : W1.cell? ⟨w.heap.size, 4, none⟩ = some (.bool x.un) := (HN.out.cell 4).trans rfl
  have d5 : W1.cell? ⟨w.heap.size, 5, none⟩ = some (.bool x.iv) := (HN.out.cell 5).trans rfl
  clear hM hA hA' hE hP
  go_wp2_with fail
  rw [← HP.out]
  clear d0 d1 d2 d3 d4 d5
  refine (more_calls b k M c P A cs rest x _ HB.out HA.out hc hk (by omega) hPM).mono ?_
  rintro e2 w2 ⟨rfl, hb2, ho2⟩
  have HB4 := Aside0.mk hb2
  have HO4 := Aside0.mk (HO.out.trans ho2)
  clear hb2 ho2
  go_wp2
  go_end0
  have hl4 := part_len cs k M (more P x) (fun L => more_len _ _ L) hk
  rw [← HE.out]
  exact ⟨rfl, HK.out _ _ hl4 HB4.out HO4.out, HO4.out⟩
set_option maxHeartbeats 1000000 in
set_option maxRecDepth 100000 in
theorem left_calls (g b W H : Nat) (X Y n : Int) (x : C6) (cs : List C6) (w : World) (h : IsGrid w g b W H cs) :
    Calls Try.prog 30 #[.pointer (some ⟨g, 0, none⟩), .int .i64 X, .int .i64 Y, .int .i64 n, .agg #[.int .i32 x.r, .int .i64 x.f, .int .i64 x.g, .bool x.bo, .bool x.un, .bool x.iv]] w fun r w' => r = .returned (.tuple #[]) ∧ IsGrid w' g b W H (gRow W H cs X Y n (fun k => less k x)) ∧ Only [b] w w' := by
  have hlen := h.1
  obtain ⟨rest, hB, hK⟩ := h.put_
  have HK := Aside0.mk hK
  have HI := Aside0.mk (h.below (below_alloc (Below.refl _ _) (.cells #[.int .i32 x.r, .int .i64 x.f, .int .i64 x.g, .bool x.bo, .bool x.un, .bool x.iv] 25)))
  have HB := Aside0.mk (hB.alloc (.cells #[.int .i32 x.r, .int .i64 x.f, .int .i64 x.g, .bool x.bo, .bool x.un, .bool x.iv] 25))
  have HN := Aside0.mk (Blk.new w 25 #[.int .i32 x.r, .int .i64 x.f, .int .i64 x.g, .bool x.bo, .bool x.un, .bool x.iv])
  have HO := Aside0.mk ((Only.refl [b] w).alloc (.cells #[.int .i32 x.r, .int .i64 x.f, .int .i64 x.g, .bool x.bo, .bool x.un, .bool x.iv] 25))
  have hN8 := wh_le h.2.2.1 h.2.2.2.2.1
  clear hB hK h
  go_enter Try.func30, Try.ntmps30
  go_wp2_with fail
  refine (row_calls g b W H X Y cs _ HI.out).mono ?_
  rintro e1 w1 ⟨⟨v, rfl, A, c, rfl, hc, hA⟩, nq, rfl⟩
  obtain ⟨M, hM⟩ : ∃ M, M = if inG W H X Y = true then W - X.toNat else 0 := ⟨_, rfl⟩
  obtain ⟨P, hP⟩ : ∃ P : Nat, (P : Int) = min (max n 0) (M : Int) := ⟨(min (max n 0) (M : Int)).toNat, by omega⟩
  rw [← hM] at hc hA ⊢
  obtain ⟨k, hk, hA', hE⟩ : ∃ k, k + M ≤ cs.length ∧ (M = 0 ∨ A = some ⟨b, k * 6, none⟩) ∧ part cs k M (less P x) = gRow W H cs X Y n (fun k => less k x) := by
    by_cases hi : inG W H X Y = true
    · rw [if_pos hi] at hM
      have hf := ix_lt hi
      refine ⟨ix W X Y, by omega, hA, ?_⟩
      unfold gRow
      rw [if_pos hi, ← hM]
      unfold part
      have hl : ((cs.drop (ix W X Y)).take M).length = M := by simp; omega
      have h2 := less_min n.toNat x ((cs.drop (ix W X Y)).take M)
      rw [hl] at h2
      dsimp only
      rw [← h2, show P = min n.toNat M by omega]
    · rw [if_neg hi] at hM
      subst hM
      refine ⟨0, by omega, .inl rfl, ?_⟩
      unfold gRow
      rw [if_neg hi, part_zero _ _ _ (by simp [less])]
  have hPM : P ≤ M := by omega
  have HE := Aside0.mk hE
  have HA := Aside0.mk hA'
  have HP := Aside0.mk hP
  have HB := Aside0.mk (HB.out.drewN nq)
  have HN := Aside0.mk (HN.out.drewN nq)
  have HO := Aside0.mk (HO.out.drewN nq)
  generalize (w.alloc (.cells #[.int .i32 x.r, .int .i64 x.f, .int .i64 x.g, .bool x.bo, .bool x.un, .bool x.iv] 25)).drewN nq = W1 at HB HN HO ⊢
  have d0 : W1.cell? ⟨w.heap.size, 0, none⟩ = some (.int .i32 x.r) := (HN.out.cell 0).trans rfl
  have d1 : W1.cell? ⟨w.heap.size, 1, none⟩ = some (.int .i64 x.f) := (HN.out.cell 1).trans rfl
  have d2 : W1.cell? ⟨w.heap.size, 2, none⟩ = some (.int .i64 x.g) := (HN.out.cell 2).trans rfl
  have d3 : W1.cell? ⟨w.heap.size, 3, none⟩ = some (.bool x.bo) := (HN.out.cell 3).trans rfl
  have d4 : W1.cell? ⟨w.heap.size, 4, none⟩ = some (.bool x.un) := (HN.out.cell 4).trans rfl
  have d5 : W1.cell? ⟨w.heap.size, 5, none⟩ = some (.bool x.iv) := (HN.out.cell 5).trans rfl
  clear hM hA hA' hE hP
  go_wp2_with fail
  rw [← HP.out]
  clear d0 d1 d2 d3 d4 d5
  refine (less_calls b k M c P A cs rest x _ HB.out HA.out hc hk (by omega) hPM).mono ?_
  rintro e2 w2 ⟨rfl, hb2, ho2⟩
  have HB4 := Aside0.mk hb2
  have HO4 := Aside0.mk (HO.out.trans ho2)
  clear hb2 ho2
  go_wp2
  go_end0
  have hl4 := part_len cs k M (less P x) (fun L => less_len _ _ L) hk
  rw [← HE.out]
  exact ⟨rfl, HK.out _ _ hl4 HB4.out HO4.out, HO4.out⟩
end Go.Proofs.Ytcmmdllnbijipaa.Grd
