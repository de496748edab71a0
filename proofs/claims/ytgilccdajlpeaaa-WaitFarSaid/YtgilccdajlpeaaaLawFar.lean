/- The walk of WaitFar: a wait at the end of times stays there; one that never comes to anything waits no longer than the greatest distance. Conditions: those in each theorem. -/
import Derived.Test.YtgilccdajlpeaaaPureWaitDoubles
import Derived.OpenShut
namespace Go.Proofs.Ytgilccdajlpeaaa.Far
open Go.RowKit Go.Proofs.Ytgilccdajlpeaaa.PWaitDoubles Go.Proofs.Ytgilccdajlpeaaa.Pure Go.Proofs.YtgilccdajlpeaaaW.PrintWords Go.Proofs.YtgilccdajlpeaaaW.PrintLast Go.Proofs.YtgilccdajlpeaaaW.PrintMore
attribute [local go_sem] max2_int min2_int max_two min_two max_three min_three max_four min_four
set_option linter.unusedVariables false
set_option linter.unusedSimpArgs false

theorem alive (w : World) : Calls Try.prog 12 #[] w fun e w' => e = .returned (.bool true) ∧ Below w.heap.size w w' :=
  pontoonlaw21_alive.calls 60 true w (alive_ok 60 (Nat.le_refl _))
theorem gp_mono {b c m : Int} (h : Ok b c m) : gp c m.toNat b ≤ gp c (mn (m + 1) 40).toNat b := by
  have := gp_ok h
  have := k_mn_le (2 * gp c m.toNat b) c
  have ⟨h1, h2, h3, h4, h5⟩ := h
  rw [gp_next h]
  omega
theorem takeH {P : Program} {md : Region.Mode} {ops : Array Oper} {Q : Exit → Act → World → Prop} {S : World → Prop} {i d : Nat} {oi : Oper} {v : Value} {fuel : Nat} {listed : Array Bool} {a : Act} {w : World} (hi : ops[i]? = some oi) (hd : oi.dst = some d)
    (hs : Region.noSelect ops = true) (hf : Region.free md ops listed i = true) (hr : (Region.ready md ops listed).contains i = true)
    (hQ : ∀ c a w, Q (.panic c) (a.put oi.dst v) w → Q (.panic c) a w) (hy : YieldsIf P ops S oi v a) (hS : S w)
    (h : wpAnyH P md ops Q S fuel (listed.setIfInBounds i true) { a with tmps := a.tmps.setIfInBounds d v } w) : wpAnyH P md ops Q S (fuel + 1) listed a w :=
  wpAnyH_take hi hs hf hr hQ hy hS (by rw [hd]; exact h)
/-- What Fail tells at the law's calls. -/
theorem far_fail {b c m : Int} (h : Ok b c m) (t now : Int) (h0 : 0 ≤ now) (w : World) :
    ∃ z : Int, mn now 1152921504606846976 ≤ z ∧ z ≤ 1152921504606846976 ∧
      Calls Try.prog 14 #[.agg #[.int .i64 b, .int .i64 c, .int .i64 m, .int .i64 t], .int .i64 now] w fun e w' => e = .returned (.agg #[.int .i64 b, .int .i64 c, .int .i64 (mn (m + 1) 40), .int .i64 z]) ∧ Below w.heap.size w w' := by
  have hg := gp_ok h
  have hb := h.1
  have hm := k_mn_le now 1152921504606846976
  by_cases hn : now < 1152921504606846976 - gp c m.toNat b
  · exact ⟨_, by omega, by omega, wait_Wait_Fail.calls 50 b c m t now _ _ _ _ w (fail_ok h t now 50 (by omega) hn h0)⟩
  · exact ⟨_, by omega, by omega, wait_Wait_Fail.calls 50 b c m t now _ _ _ _ w (fail_far h t now 50 (by omega) hn)⟩
theorem far_gap {b c m : Int} (h : Ok b c m) (t : Int) (w : World) :
    Calls Try.prog 17 #[.agg #[.int .i64 b, .int .i64 c, .int .i64 m, .int .i64 t]] w fun e w' => e = .returned (.int .i64 (gp c m.toNat b)) ∧ Below w.heap.size w w' :=
  wait_Wait_Gap.calls 50 b c m t _ w (gap_ok h t 50 (by omega))
theorem far_good (b c m t now : Int) (w : World) :
    Calls Try.prog 16 #[.agg #[.int .i64 b, .int .i64 c, .int .i64 m, .int .i64 t], .int .i64 now] w fun e w' => e = .returned (.agg #[.int .i64 b, .int .i64 c, .int .i64 0, .int .i64 now]) ∧ Below w.heap.size w w' :=
  wait_Wait_Good.calls b c m t now _ _ _ _ w rfl
theorem far_due (b c now : Int) (w : World) :
    Calls Try.prog 15 #[.agg #[.int .i64 b, .int .i64 c, .int .i64 0, .int .i64 now], .int .i64 now] w fun e w' => e = .returned (.bool true) ∧ Below w.heap.size w w' :=
  wait_Wait_Due.calls b c 0 now now true w (by simp [wait_Wait_Due.f])
/-- What the region of tests holds: the base, and the two waits. -/
def FarS (B : Nat) (w : World) (g g2 : Nat) (b c m t m' z : Int) (w' : World) : Prop :=
  Below B w w' ∧ w'.heap[g]? = some (.cells #[.int .i64 b, .int .i64 c, .int .i64 m, .int .i64 t] 33 (0, 0)) ∧ w'.heap[g2]? = some (.cells #[.int .i64 b, .int .i64 c, .int .i64 m', .int .i64 z] 33 (0, 0))
theorem farS_drew {B : Nat} {w : World} {g g2 : Nat} {b c m t m' z : Int} {w' : World} (h : FarS B w g g2 b c m t m' z w') : FarS B w g g2 b c m t m' z w'.drew := ⟨below_drew h.1, h.2.1, h.2.2⟩
theorem farS_step {w : World} {g g2 : Nat} {b c m t m' z : Int} {w' w2 : World} (h : FarS w.heap.size w g g2 b c m t m' z w') (hb : Below w'.heap.size w' w2) : FarS w.heap.size w g g2 b c m t m' z w2 :=
  ⟨below_step h.1 hb, blk_below h.2.1 hb, blk_below h.2.2 hb⟩
set_option maxHeartbeats 8000000 in
set_option maxRecDepth 100000 in
theorem far_live (base top now : Int) (n : Nat) (w : World) (h0 : 0 ≤ now) (h1 : now ≤ 9223372036854775807) (h2 : n ≤ 60) :
    Calls Try.prog 7 #[.int .i64 base, .int .i64 top, .int .i64 now, .int .i64 (n : Int)] w fun r w' => r = .returned (.bool true) ∧ Below w.heap.size w w' := by
  have hn0 : (0 : Int) ≤ (n : Int) := by omega
  have hn6 : (n : Int) ≤ 60 := by omega
  obtain ⟨b, c, hnew, hok, hb, hc⟩ := new_ok base top now
  obtain ⟨b', c', hnew', hok', hb', hc'⟩ := new_ok base top 0
  obtain rfl : b = b' := hb.trans hb'.symm
  obtain rfl : c = c' := hc.trans hc'.symm
  have HN := Aside0.mk hnew
  have HN' := Aside0.mk hnew'
  have HK0 := Aside0.mk hok
  have HK := Aside0.mk hok
  have hu33 := Try.underlying33
  clear hb hc hb' hc' hnew hnew' hok hok'
  go_enter Try.func7, Try.ntmps7
  go_wp2_with fail
  refine (alive _).mono ?_
  rintro e0 w0 ⟨rfl, hb0⟩
  have HB0 := Aside0.mk hb0
  clear hb0
  go_wp2_with fail
  refine (wait_New.calls base top now _ _ _ _ _ HN.out).mono ?_
  rintro e1 w1 ⟨rfl, hb1⟩
  have HB1 := Aside0.mk (below_step HB0.out hb1)
  clear hb1
  go_wp2_with fail
  obtain ⟨gb, hgb⟩ : ∃ g, g = w1.heap.size := ⟨_, rfl⟩
  have GE : w.heap.size ≤ gb := by rw [hgb]; exact HB1.out.size
  have BK0 := Aside0.mk (blk_new w1 (.cells #[.int .i64 b, .int .i64 c, .int .i64 0, .int .i64 now] 33))
  have HB2 := Aside0.mk (below_alloc HB1.out (.cells #[.int .i64 b, .int .i64 c, .int .i64 0, .int .i64 now] 33))
  rw [← hgb] at BK0 ⊢
  clear hgb
  go_loopg [10] 61 (fun kq v10 wr => ∃ (i : Nat) (m t : Int), v10 = .int .i64 i ∧ Aside0 (i ≤ n ∧ kq = 61 - i) ∧ Aside0 (Ok b c m) ∧ Aside0 (wr.heap[gb]? = some (.cells #[.int .i64 b, .int .i64 c, .int .i64 m, .int .i64 t] 33 (0, 0))) ∧ Aside0 (Below w.heap.size w wr))
  case atStart => exact ⟨0, 0, now, rfl, ⟨by omega, rfl⟩, HK, BK0, HB2⟩
  case round =>
    obtain ⟨i, m, t, rfl, ⟨hi, hkq⟩, HK, BK, HB⟩ := hrel
    have HQ := Aside0.mk hkq
    clear hkq
    by_cases hlt : i < n
    · obtain ⟨z, hz1, hz2, hcall⟩ := far_fail HK.out t now h0 wr
      have HK2 := Aside0.mk (ok_step HK.out)
      obtain ⟨m', hm'⟩ : ∃ x, x = mn (m + 1) 40 := ⟨_, rfl⟩
      have hmm := k_mn_le (m + 1) 40
      have hok := HK.out
      have hg := gp_ok hok
      have hg2 := gp_mono hok
      unfold Ok at hok
      rw [← hm'] at HK2 hcall hmm hg2
      obtain ⟨q, hq⟩ : ∃ x, x = mn now 1152921504606846976 := ⟨_, rfl⟩
      rw [← hq] at hz1
      have hqi : (if 1152921504606846976 < now then 1152921504606846976 else now) = q := hq.symm
      have hltI : (i : Int) < (n : Int) := by omega
      have c0 : wr.cell? ⟨gb, 0, none⟩ = some (.int .i64 b) := (blk_cell BK.out 0).trans rfl
      have c1 : wr.cell? ⟨gb, 1, none⟩ = some (.int .i64 c) := (blk_cell BK.out 1).trans rfl
      have c2 : wr.cell? ⟨gb, 2, none⟩ = some (.int .i64 m) := (blk_cell BK.out 2).trans rfl
      have c3 : wr.cell? ⟨gb, 3, none⟩ = some (.int .i64 t) := (blk_cell BK.out 3).trans rfl
      have HC := Aside0.mk hcall
      have HZ := Aside0.mk (show (z < q) = False by simp; omega)
      have t4 : decide (z < q) = false := decide_eq_false (by omega)
      have t8 : decide (1152921504606846976 < z) = false := decide_eq_false (by omega)
      have t13 : decide (gp c m.toNat b < 1) = false := decide_eq_false (by omega)
      have t18 : decide (1000000 < gp c m.toNat b) = false := decide_eq_false (by omega)
      have t25 : decide (m' < m) = false := decide_eq_false (by omega)
      have t30 : decide (40 < m') = false := decide_eq_false (by omega)
      have t37 : decide (gp c m'.toNat b < gp c m.toNat b) = false := decide_eq_false (by omega)
      clear hcall hm' hmm hg hg2 hz1 hz2 hok hq
      go_wp2_with fail
      refine HC.out.mono ?_
      rintro e2 w2 ⟨rfl, hb2⟩
      have BK2 := Aside0.mk (blk_below BK.out hb2)
      have HBa := Aside0.mk (below_step HB.out hb2)
      clear hb2 c0 c1 c2 c3
      go_wp2_with fail
      have hS0 : FarS w.heap.size w gb w2.heap.size b c m t m' z (w2.alloc (.cells #[.int .i64 b, .int .i64 c, .int .i64 m', .int .i64 z] 33)) := ⟨below_alloc HBa.out _, blk_alloc BK2.out _, blk_new _ _⟩
      refine wp_region_held_drew (S := FarS w.heap.size w gb w2.heap.size b c m t m' z) (by kernel_rfl) (by exact farS_drew hS0) (fun hHeld => ?_)
      refine takeH (i := 0) (d := 39) (v := (.pointer (some ⟨w2.heap.size, 3, none⟩))) rfl rfl (by kernel_rfl) (by kernel_rfl) (by kernel_rfl) (fun _ _ _ h => h) (Or.inl ⟨by kernel_rfl, by intro w hSw; go_simp; done⟩) (by assumption) ?_
      try simp only [List.setIfInBounds_toArray, List.set_cons_zero, List.set_cons_succ]
      refine takeH (i := 1) (d := 40) (v := (.int .i64 z)) rfl rfl (by kernel_rfl) (by kernel_rfl) (by kernel_rfl) (fun _ _ _ h => h) (Or.inl ⟨by kernel_rfl, by intro w hSw; have c0 := blk_cell hSw.2.1 0; have c1 := blk_cell hSw.2.1 1; have c2 := blk_cell hSw.2.1 2; have c3 := blk_cell hSw.2.1 3; have d0 := blk_cell hSw.2.2 0; have d1 := blk_cell hSw.2.2 1; have d2 := blk_cell hSw.2.2 2; have d3 := blk_cell hSw.2.2 3; simp only [List.getElem?_toArray, List.getElem?_cons_zero, List.getElem?_cons_succ] at c0 c1 c2 c3 d0 d1 d2 d3; go_simp; done⟩) (by assumption) ?_
      try simp only [List.setIfInBounds_toArray, List.set_cons_zero, List.set_cons_succ]
      refine takeH (i := 2) (d := 41) (v := (.int .i64 now)) rfl rfl (by kernel_rfl) (by kernel_rfl) (by kernel_rfl) (fun _ _ _ h => h) (Or.inl ⟨by kernel_rfl, by intro w hSw; go_simp; done⟩) (by assumption) ?_
      try simp only [List.setIfInBounds_toArray, List.set_cons_zero, List.set_cons_succ]
      refine takeH (i := 3) (d := 42) (v := (.int .i64 q)) rfl rfl (by kernel_rfl) (by kernel_rfl) (by kernel_rfl) (fun _ _ _ h => h) (Or.inl ⟨by kernel_rfl, by intro w hSw; go_simp; done⟩) (by assumption) ?_
      try simp only [List.setIfInBounds_toArray, List.set_cons_zero, List.set_cons_succ]
      refine takeH (i := 4) (d := 43) (v := (.bool false)) rfl rfl (by kernel_rfl) (by kernel_rfl) (by kernel_rfl) (fun _ _ _ h => h) (Or.inl ⟨by kernel_rfl, by intro w hSw; go_simp; done⟩) (by assumption) ?_
      try simp only [List.setIfInBounds_toArray, List.set_cons_zero, List.set_cons_succ]
      refine takeH (i := 5) (d := 44) (v := (.bool false)) rfl rfl (by kernel_rfl) (by kernel_rfl) (by kernel_rfl) (fun _ _ _ h => h) (Or.inl ⟨by kernel_rfl, by intro w hSw; go_simp; done⟩) (by assumption) ?_
      try simp only [List.setIfInBounds_toArray, List.set_cons_zero, List.set_cons_succ]
      refine takeH (i := 6) (d := 45) (v := (.pointer (some ⟨w2.heap.size, 3, none⟩))) rfl rfl (by kernel_rfl) (by kernel_rfl) (by kernel_rfl) (fun _ _ _ h => h) (Or.inl ⟨by kernel_rfl, by intro w hSw; go_simp; done⟩) (by assumption) ?_
      try simp only [List.setIfInBounds_toArray, List.set_cons_zero, List.set_cons_succ]
      refine takeH (i := 7) (d := 46) (v := (.int .i64 z)) rfl rfl (by kernel_rfl) (by kernel_rfl) (by kernel_rfl) (fun _ _ _ h => h) (Or.inl ⟨by kernel_rfl, by intro w hSw; have c0 := blk_cell hSw.2.1 0; have c1 := blk_cell hSw.2.1 1; have c2 := blk_cell hSw.2.1 2; have c3 := blk_cell hSw.2.1 3; have d0 := blk_cell hSw.2.2 0; have d1 := blk_cell hSw.2.2 1; have d2 := blk_cell hSw.2.2 2; have d3 := blk_cell hSw.2.2 3; simp only [List.getElem?_toArray, List.getElem?_cons_zero, List.getElem?_cons_succ] at c0 c1 c2 c3 d0 d1 d2 d3; go_simp; done⟩) (by assumption) ?_
      try simp only [List.setIfInBounds_toArray, List.set_cons_zero, List.set_cons_succ]
      refine takeH (i := 8) (d := 47) (v := (.bool false)) rfl rfl (by kernel_rfl) (by kernel_rfl) (by kernel_rfl) (fun _ _ _ h => h) (Or.inl ⟨by kernel_rfl, by intro w hSw; go_simp; done⟩) (by assumption) ?_
      try simp only [List.setIfInBounds_toArray, List.set_cons_zero, List.set_cons_succ]
      refine takeH (i := 9) (d := 48) (v := (.bool false)) rfl rfl (by kernel_rfl) (by kernel_rfl) (by kernel_rfl) (fun _ _ _ h => h) (Or.inl ⟨by kernel_rfl, by intro w hSw; go_simp; done⟩) (by assumption) ?_
      try simp only [List.setIfInBounds_toArray, List.set_cons_zero, List.set_cons_succ]
      refine takeH (i := 10) (d := 49) (v := (.bool false)) rfl rfl (by kernel_rfl) (by kernel_rfl) (by kernel_rfl) (fun _ _ _ h => h) (Or.inl ⟨by kernel_rfl, by intro w hSw; go_simp; done⟩) (by assumption) ?_
      try simp only [List.setIfInBounds_toArray, List.set_cons_zero, List.set_cons_succ]
      refine takeH (i := 11) (d := 50) (v := (.agg #[.int .i64 b, .int .i64 c, .int .i64 m, .int .i64 t])) rfl rfl (by kernel_rfl) (by kernel_rfl) (by kernel_rfl) (fun _ _ _ h => h) (Or.inl ⟨by kernel_rfl, by intro w hSw; have c0 := blk_cell hSw.2.1 0; have c1 := blk_cell hSw.2.1 1; have c2 := blk_cell hSw.2.1 2; have c3 := blk_cell hSw.2.1 3; have d0 := blk_cell hSw.2.2 0; have d1 := blk_cell hSw.2.2 1; have d2 := blk_cell hSw.2.2 2; have d3 := blk_cell hSw.2.2 3; simp only [List.getElem?_toArray, List.getElem?_cons_zero, List.getElem?_cons_succ] at c0 c1 c2 c3 d0 d1 d2 d3; go_simp; done⟩) (by assumption) ?_
      try simp only [List.setIfInBounds_toArray, List.set_cons_zero, List.set_cons_succ]
      refine wpAnyH_ready (rs := [12]) (by kernel_rfl) (by simp) ?_
      refine AllReadyH.cons (o := { dst := some 51, op := Op.call { callee := Callee.value (Operand.func 17), args := #[Operand.tmp 50], argTypes := #[33] }, type := 3, pos := "more.go:17", after := #[{ on := 11, ground := .data }, { on := 10, ground := .chain }, { on := 10, ground := .guard }], guard := some (10, false) }) rfl (fun K hK => ?_) AllReadyH.nil
      rw [if_pos (by kernel_rfl)]
      go_simp
      refine (far_gap (by exact HK.out) t _).mono ?_
      rintro e5 w5 ⟨rfl, hb5⟩
      have hS5 := farS_step hHeld hb5
      clear hb5 hHeld
      refine hK.out _ _ hS5 (fun hHeld => ?_)
      clear hK K hS5
      try simp only [Act.put, List.setIfInBounds_toArray, List.set_cons_zero, List.set_cons_succ]
      refine takeH (i := 13) (d := 52) (v := (.bool false)) rfl rfl (by kernel_rfl) (by kernel_rfl) (by kernel_rfl) (fun _ _ _ h => h) (Or.inl ⟨by kernel_rfl, by intro w hSw; go_simp; done⟩) (by assumption) ?_
      try simp only [List.setIfInBounds_toArray, List.set_cons_zero, List.set_cons_succ]
      refine takeH (i := 14) (d := 53) (v := (.bool false)) rfl rfl (by kernel_rfl) (by kernel_rfl) (by kernel_rfl) (fun _ _ _ h => h) (Or.inl ⟨by kernel_rfl, by intro w hSw; go_simp; done⟩) (by assumption) ?_
      try simp only [List.setIfInBounds_toArray, List.set_cons_zero, List.set_cons_succ]
      refine takeH (i := 15) (d := 54) (v := (.bool false)) rfl rfl (by kernel_rfl) (by kernel_rfl) (by kernel_rfl) (fun _ _ _ h => h) (Or.inl ⟨by kernel_rfl, by intro w hSw; go_simp; done⟩) (by assumption) ?_
      try simp only [List.setIfInBounds_toArray, List.set_cons_zero, List.set_cons_succ]
      refine takeH (i := 16) (d := 55) (v := (.agg #[.int .i64 b, .int .i64 c, .int .i64 m, .int .i64 t])) rfl rfl (by kernel_rfl) (by kernel_rfl) (by kernel_rfl) (fun _ _ _ h => h) (Or.inl ⟨by kernel_rfl, by intro w hSw; have c0 := blk_cell hSw.2.1 0; have c1 := blk_cell hSw.2.1 1; have c2 := blk_cell hSw.2.1 2; have c3 := blk_cell hSw.2.1 3; have d0 := blk_cell hSw.2.2 0; have d1 := blk_cell hSw.2.2 1; have d2 := blk_cell hSw.2.2 2; have d3 := blk_cell hSw.2.2 3; simp only [List.getElem?_toArray, List.getElem?_cons_zero, List.getElem?_cons_succ] at c0 c1 c2 c3 d0 d1 d2 d3; go_simp; done⟩) (by assumption) ?_
      try simp only [List.setIfInBounds_toArray, List.set_cons_zero, List.set_cons_succ]
      refine wpAnyH_ready (rs := [17]) (by kernel_rfl) (by simp) ?_
      refine AllReadyH.cons (o := { dst := some 56, op := Op.call { callee := Callee.value (Operand.func 17), args := #[Operand.tmp 55], argTypes := #[33] }, type := 3, pos := "more.go:17", after := #[{ on := 16, ground := .data }, { on := 15, ground := .chain }, { on := 15, ground := .guard }], guard := some (15, false) }) rfl (fun K hK => ?_) AllReadyH.nil
      rw [if_pos (by kernel_rfl)]
      go_simp
      refine (far_gap (by exact HK.out) t _).mono ?_
      rintro e5 w5 ⟨rfl, hb5⟩
      have hS5 := farS_step hHeld hb5
      clear hb5 hHeld
      refine hK.out _ _ hS5 (fun hHeld => ?_)
      clear hK K hS5
      try simp only [Act.put, List.setIfInBounds_toArray, List.set_cons_zero, List.set_cons_succ]
      refine takeH (i := 18) (d := 57) (v := (.bool false)) rfl rfl (by kernel_rfl) (by kernel_rfl) (by kernel_rfl) (fun _ _ _ h => h) (Or.inl ⟨by kernel_rfl, by intro w hSw; go_simp; done⟩) (by assumption) ?_
      try simp only [List.setIfInBounds_toArray, List.set_cons_zero, List.set_cons_succ]
      refine takeH (i := 19) (d := 58) (v := (.bool false)) rfl rfl (by kernel_rfl) (by kernel_rfl) (by kernel_rfl) (fun _ _ _ h => h) (Or.inl ⟨by kernel_rfl, by intro w hSw; go_simp; done⟩) (by assumption) ?_
      try simp only [List.setIfInBounds_toArray, List.set_cons_zero, List.set_cons_succ]
      refine takeH (i := 20) (d := 59) (v := (.bool false)) rfl rfl (by kernel_rfl) (by kernel_rfl) (by kernel_rfl) (fun _ _ _ h => h) (Or.inl ⟨by kernel_rfl, by intro w hSw; go_simp; done⟩) (by assumption) ?_
      try simp only [List.setIfInBounds_toArray, List.set_cons_zero, List.set_cons_succ]
      refine takeH (i := 21) (d := 60) (v := (.pointer (some ⟨w2.heap.size, 2, none⟩))) rfl rfl (by kernel_rfl) (by kernel_rfl) (by kernel_rfl) (fun _ _ _ h => h) (Or.inl ⟨by kernel_rfl, by intro w hSw; go_simp; done⟩) (by assumption) ?_
      try simp only [List.setIfInBounds_toArray, List.set_cons_zero, List.set_cons_succ]
      refine takeH (i := 22) (d := 61) (v := (.int .i64 m')) rfl rfl (by kernel_rfl) (by kernel_rfl) (by kernel_rfl) (fun _ _ _ h => h) (Or.inl ⟨by kernel_rfl, by intro w hSw; have c0 := blk_cell hSw.2.1 0; have c1 := blk_cell hSw.2.1 1; have c2 := blk_cell hSw.2.1 2; have c3 := blk_cell hSw.2.1 3; have d0 := blk_cell hSw.2.2 0; have d1 := blk_cell hSw.2.2 1; have d2 := blk_cell hSw.2.2 2; have d3 := blk_cell hSw.2.2 3; simp only [List.getElem?_toArray, List.getElem?_cons_zero, List.getElem?_cons_succ] at c0 c1 c2 c3 d0 d1 d2 d3; go_simp; done⟩) (by assumption) ?_
      try simp only [List.setIfInBounds_toArray, List.set_cons_zero, List.set_cons_succ]
      refine takeH (i := 23) (d := 62) (v := (.pointer (some ⟨gb, 2, none⟩))) rfl rfl (by kernel_rfl) (by kernel_rfl) (by kernel_rfl) (fun _ _ _ h => h) (Or.inl ⟨by kernel_rfl, by intro w hSw; go_simp; done⟩) (by assumption) ?_
      try simp only [List.setIfInBounds_toArray, List.set_cons_zero, List.set_cons_succ]
      refine takeH (i := 24) (d := 63) (v := (.int .i64 m)) rfl rfl (by kernel_rfl) (by kernel_rfl) (by kernel_rfl) (fun _ _ _ h => h) (Or.inl ⟨by kernel_rfl, by intro w hSw; have c0 := blk_cell hSw.2.1 0; have c1 := blk_cell hSw.2.1 1; have c2 := blk_cell hSw.2.1 2; have c3 := blk_cell hSw.2.1 3; have d0 := blk_cell hSw.2.2 0; have d1 := blk_cell hSw.2.2 1; have d2 := blk_cell hSw.2.2 2; have d3 := blk_cell hSw.2.2 3; simp only [List.getElem?_toArray, List.getElem?_cons_zero, List.getElem?_cons_succ] at c0 c1 c2 c3 d0 d1 d2 d3; go_simp; done⟩) (by assumption) ?_
      try simp only [List.setIfInBounds_toArray, List.set_cons_zero, List.set_cons_succ]
      refine takeH (i := 25) (d := 64) (v := (.bool false)) rfl rfl (by kernel_rfl) (by kernel_rfl) (by kernel_rfl) (fun _ _ _ h => h) (Or.inl ⟨by kernel_rfl, by intro w hSw; go_simp; done⟩) (by assumption) ?_
      try simp only [List.setIfInBounds_toArray, List.set_cons_zero, List.set_cons_succ]
      refine takeH (i := 26) (d := 65) (v := (.bool false)) rfl rfl (by kernel_rfl) (by kernel_rfl) (by kernel_rfl) (fun _ _ _ h => h) (Or.inl ⟨by kernel_rfl, by intro w hSw; go_simp; done⟩) (by assumption) ?_
      try simp only [List.setIfInBounds_toArray, List.set_cons_zero, List.set_cons_succ]
      refine takeH (i := 27) (d := 66) (v := (.bool false)) rfl rfl (by kernel_rfl) (by kernel_rfl) (by kernel_rfl) (fun _ _ _ h => h) (Or.inl ⟨by kernel_rfl, by intro w hSw; go_simp; done⟩) (by assumption) ?_
      try simp only [List.setIfInBounds_toArray, List.set_cons_zero, List.set_cons_succ]
      refine takeH (i := 28) (d := 67) (v := (.pointer (some ⟨w2.heap.size, 2, none⟩))) rfl rfl (by kernel_rfl) (by kernel_rfl) (by kernel_rfl) (fun _ _ _ h => h) (Or.inl ⟨by kernel_rfl, by intro w hSw; go_simp; done⟩) (by assumption) ?_
      try simp only [List.setIfInBounds_toArray, List.set_cons_zero, List.set_cons_succ]
      refine takeH (i := 29) (d := 68) (v := (.int .i64 m')) rfl rfl (by kernel_rfl) (by kernel_rfl) (by kernel_rfl) (fun _ _ _ h => h) (Or.inl ⟨by kernel_rfl, by intro w hSw; have c0 := blk_cell hSw.2.1 0; have c1 := blk_cell hSw.2.1 1; have c2 := blk_cell hSw.2.1 2; have c3 := blk_cell hSw.2.1 3; have d0 := blk_cell hSw.2.2 0; have d1 := blk_cell hSw.2.2 1; have d2 := blk_cell hSw.2.2 2; have d3 := blk_cell hSw.2.2 3; simp only [List.getElem?_toArray, List.getElem?_cons_zero, List.getElem?_cons_succ] at c0 c1 c2 c3 d0 d1 d2 d3; go_simp; done⟩) (by assumption) ?_
      try simp only [List.setIfInBounds_toArray, List.set_cons_zero, List.set_cons_succ]
      refine takeH (i := 30) (d := 69) (v := (.bool false)) rfl rfl (by kernel_rfl) (by kernel_rfl) (by kernel_rfl) (fun _ _ _ h => h) (Or.inl ⟨by kernel_rfl, by intro w hSw; go_simp; done⟩) (by assumption) ?_
      try simp only [List.setIfInBounds_toArray, List.set_cons_zero, List.set_cons_succ]
      refine takeH (i := 31) (d := 70) (v := (.bool false)) rfl rfl (by kernel_rfl) (by kernel_rfl) (by kernel_rfl) (fun _ _ _ h => h) (Or.inl ⟨by kernel_rfl, by intro w hSw; go_simp; done⟩) (by assumption) ?_
      try simp only [List.setIfInBounds_toArray, List.set_cons_zero, List.set_cons_succ]
      refine takeH (i := 32) (d := 71) (v := (.bool false)) rfl rfl (by kernel_rfl) (by kernel_rfl) (by kernel_rfl) (fun _ _ _ h => h) (Or.inl ⟨by kernel_rfl, by intro w hSw; go_simp; done⟩) (by assumption) ?_
      try simp only [List.setIfInBounds_toArray, List.set_cons_zero, List.set_cons_succ]
      refine takeH (i := 33) (d := 72) (v := (.agg #[.int .i64 b, .int .i64 c, .int .i64 m', .int .i64 z])) rfl rfl (by kernel_rfl) (by kernel_rfl) (by kernel_rfl) (fun _ _ _ h => h) (Or.inl ⟨by kernel_rfl, by intro w hSw; have c0 := blk_cell hSw.2.1 0; have c1 := blk_cell hSw.2.1 1; have c2 := blk_cell hSw.2.1 2; have c3 := blk_cell hSw.2.1 3; have d0 := blk_cell hSw.2.2 0; have d1 := blk_cell hSw.2.2 1; have d2 := blk_cell hSw.2.2 2; have d3 := blk_cell hSw.2.2 3; simp only [List.getElem?_toArray, List.getElem?_cons_zero, List.getElem?_cons_succ] at c0 c1 c2 c3 d0 d1 d2 d3; go_simp; done⟩) (by assumption) ?_
      try simp only [List.setIfInBounds_toArray, List.set_cons_zero, List.set_cons_succ]
      refine takeH (i := 35) (d := 74) (v := (.agg #[.int .i64 b, .int .i64 c, .int .i64 m, .int .i64 t])) rfl rfl (by kernel_rfl) (by kernel_rfl) (by kernel_rfl) (fun _ _ _ h => h) (Or.inl ⟨by kernel_rfl, by intro w hSw; have c0 := blk_cell hSw.2.1 0; have c1 := blk_cell hSw.2.1 1; have c2 := blk_cell hSw.2.1 2; have c3 := blk_cell hSw.2.1 3; have d0 := blk_cell hSw.2.2 0; have d1 := blk_cell hSw.2.2 1; have d2 := blk_cell hSw.2.2 2; have d3 := blk_cell hSw.2.2 3; simp only [List.getElem?_toArray, List.getElem?_cons_zero, List.getElem?_cons_succ] at c0 c1 c2 c3 d0 d1 d2 d3; go_simp; done⟩) (by assumption) ?_
      try simp only [List.setIfInBounds_toArray, List.set_cons_zero, List.set_cons_succ]
      refine wpAnyH_ready (rs := [34]) (by kernel_rfl) (by simp) ?_
      refine AllReadyH.cons (o := { dst := some 73, op := Op.call { callee := Callee.value (Operand.func 17), args := #[Operand.tmp 72], argTypes := #[33] }, type := 3, pos := "more.go:17", after := #[{ on := 33, ground := .data }, { on := 32, ground := .chain }, { on := 32, ground := .guard }], guard := some (32, false) }) rfl (fun K hK => ?_) AllReadyH.nil
      rw [if_pos (by kernel_rfl)]
      go_simp
      refine (far_gap (by exact HK2.out) z _).mono ?_
      rintro e5 w5 ⟨rfl, hb5⟩
      have hS5 := farS_step hHeld hb5
      clear hb5 hHeld
      refine hK.out _ _ hS5 (fun hHeld => ?_)
      clear hK K hS5
      try simp only [Act.put, List.setIfInBounds_toArray, List.set_cons_zero, List.set_cons_succ]
      refine wpAnyH_ready (rs := [36]) (by kernel_rfl) (by simp) ?_
      refine AllReadyH.cons (o := { dst := some 75, op := Op.call { callee := Callee.value (Operand.func 17), args := #[Operand.tmp 74], argTypes := #[33] }, type := 3, pos := "more.go:17", after := #[{ on := 35, ground := .data }, { on := 34, ground := .chain }, { on := 32, ground := .guard }], guard := some (32, false) }) rfl (fun K hK => ?_) AllReadyH.nil
      rw [if_pos (by kernel_rfl)]
      go_simp
      refine (far_gap (by exact HK.out) t _).mono ?_
      rintro e5 w5 ⟨rfl, hb5⟩
      have hS5 := farS_step hHeld hb5
      clear hb5 hHeld
      refine hK.out _ _ hS5 (fun hHeld => ?_)
      clear hK K hS5
      try simp only [Act.put, List.setIfInBounds_toArray, List.set_cons_zero, List.set_cons_succ]
      refine takeH (i := 37) (d := 76) (v := (.bool false)) rfl rfl (by kernel_rfl) (by kernel_rfl) (by kernel_rfl) (fun _ _ _ h => h) (Or.inl ⟨by kernel_rfl, by intro w hSw; go_simp; done⟩) (by assumption) ?_
      try simp only [List.setIfInBounds_toArray, List.set_cons_zero, List.set_cons_succ]
      refine takeH (i := 38) (d := 77) (v := (.bool false)) rfl rfl (by kernel_rfl) (by kernel_rfl) (by kernel_rfl) (fun _ _ _ h => h) (Or.inl ⟨by kernel_rfl, by intro w hSw; go_simp; done⟩) (by assumption) ?_
      try simp only [List.setIfInBounds_toArray, List.set_cons_zero, List.set_cons_succ]
      refine wpAnyH_done (by kernel_rfl) ?_ _
      have c0 : w5.cell? ⟨gb, 0, none⟩ = some (.int .i64 b) := (blk_cell hHeld.2.1 0).trans rfl
      have c1 : w5.cell? ⟨gb, 1, none⟩ = some (.int .i64 c) := (blk_cell hHeld.2.1 1).trans rfl
      have c2 : w5.cell? ⟨gb, 2, none⟩ = some (.int .i64 m) := (blk_cell hHeld.2.1 2).trans rfl
      have c3 : w5.cell? ⟨gb, 3, none⟩ = some (.int .i64 t) := (blk_cell hHeld.2.1 3).trans rfl
      have d0 : w5.cell? ⟨w2.heap.size, 0, none⟩ = some (.int .i64 b) := (blk_cell hHeld.2.2 0).trans rfl
      have d1 : w5.cell? ⟨w2.heap.size, 1, none⟩ = some (.int .i64 c) := (blk_cell hHeld.2.2 1).trans rfl
      have d2 : w5.cell? ⟨w2.heap.size, 2, none⟩ = some (.int .i64 m') := (blk_cell hHeld.2.2 2).trans rfl
      have d3 : w5.cell? ⟨w2.heap.size, 3, none⟩ = some (.int .i64 z) := (blk_cell hHeld.2.2 3).trans rfl
      have f0 := blk_frozen hHeld.2.1 0
      have f1 := blk_frozen hHeld.2.1 1
      have f2 := blk_frozen hHeld.2.1 2
      have f3 := blk_frozen hHeld.2.1 3
      have HS := Aside0.mk hHeld
      clear hHeld t4 t8 t13 t18 t25 t30 t37
      go_wp2
      go_roundg (60 - i)
      case measure => have := HQ.out; omega
      case rel => exact ⟨i + 1, m', z, by go_num, ⟨by omega, by omega⟩, HK2, ⟨by refine blk_put (cs := #[.int .i64 b, .int .i64 c, .int .i64 m', .int .i64 t]) ?_ 3 _ rfl; refine blk_put (cs := #[.int .i64 b, .int .i64 c, .int .i64 m, .int .i64 t]) ?_ 2 _ rfl; refine blk_put (cs := #[.int .i64 b, .int .i64 c, .int .i64 m, .int .i64 t]) ?_ 1 _ rfl; refine blk_put (cs := #[.int .i64 b, .int .i64 c, .int .i64 m, .int .i64 t]) ?_ 0 _ rfl; exact HS.out.2.1⟩, ⟨below_set (below_set (below_set (below_set HS.out.1 GE) GE) GE) GE⟩⟩
    · have c0 : wr.cell? ⟨gb, 0, none⟩ = some (.int .i64 b) := (blk_cell BK.out 0).trans rfl
      have c1 : wr.cell? ⟨gb, 1, none⟩ = some (.int .i64 c) := (blk_cell BK.out 1).trans rfl
      have c2 : wr.cell? ⟨gb, 2, none⟩ = some (.int .i64 m) := (blk_cell BK.out 2).trans rfl
      have c3 : wr.cell? ⟨gb, 3, none⟩ = some (.int .i64 t) := (blk_cell BK.out 3).trans rfl
      go_wp2_with fail
      refine (far_good b c m t now _).mono ?_
      rintro e2 w2 ⟨rfl, hb2⟩
      have BK2 := Aside0.mk (blk_below BK.out hb2)
      have HBa := Aside0.mk (below_step HB.out hb2)
      clear hb2 c0 c1 c2 c3
      have c0 : w2.cell? ⟨gb, 0, none⟩ = some (.int .i64 b) := (blk_cell BK2.out 0).trans rfl
      have c1 : w2.cell? ⟨gb, 1, none⟩ = some (.int .i64 c) := (blk_cell BK2.out 1).trans rfl
      have c2 : w2.cell? ⟨gb, 2, none⟩ = some (.int .i64 m) := (blk_cell BK2.out 2).trans rfl
      have c3 : w2.cell? ⟨gb, 3, none⟩ = some (.int .i64 t) := (blk_cell BK2.out 3).trans rfl
      go_wp2_with fail
      refine (far_due b c now _).mono ?_
      rintro e3 w3 ⟨rfl, hb⟩
      have BK3 := Aside0.mk (blk_below BK2.out hb)
      have HB3 := Aside0.mk (below_step HBa.out hb)
      clear hb c0 c1 c2 c3
      have c0 : w3.cell? ⟨gb, 0, none⟩ = some (.int .i64 b) := (blk_cell BK3.out 0).trans rfl
      have c1 : w3.cell? ⟨gb, 1, none⟩ = some (.int .i64 c) := (blk_cell BK3.out 1).trans rfl
      have c2 : w3.cell? ⟨gb, 2, none⟩ = some (.int .i64 m) := (blk_cell BK3.out 2).trans rfl
      have c3 : w3.cell? ⟨gb, 3, none⟩ = some (.int .i64 t) := (blk_cell BK3.out 3).trans rfl
      go_wp2_with fail
      refine (far_good b c m t now _).mono ?_
      rintro e4 w4 ⟨rfl, hb⟩
      have BK4 := Aside0.mk (blk_below BK3.out hb)
      have HB4 := Aside0.mk (below_step HB3.out hb)
      clear hb c0 c1 c2 c3
      have c0 : w4.cell? ⟨gb, 0, none⟩ = some (.int .i64 b) := (blk_cell BK4.out 0).trans rfl
      have c1 : w4.cell? ⟨gb, 1, none⟩ = some (.int .i64 c) := (blk_cell BK4.out 1).trans rfl
      have c2 : w4.cell? ⟨gb, 2, none⟩ = some (.int .i64 m) := (blk_cell BK4.out 2).trans rfl
      have c3 : w4.cell? ⟨gb, 3, none⟩ = some (.int .i64 t) := (blk_cell BK4.out 3).trans rfl
      go_wp2_with fail
      refine (far_gap HK0.out now _).mono ?_
      rintro e5 w5 ⟨rfl, hb⟩
      have BK5 := Aside0.mk (blk_below BK4.out hb)
      have HB5 := Aside0.mk (below_step HB4.out hb)
      clear hb c0 c1 c2 c3
      have c0 : w5.cell? ⟨gb, 0, none⟩ = some (.int .i64 b) := (blk_cell BK5.out 0).trans rfl
      have c1 : w5.cell? ⟨gb, 1, none⟩ = some (.int .i64 c) := (blk_cell BK5.out 1).trans rfl
      have c2 : w5.cell? ⟨gb, 2, none⟩ = some (.int .i64 m) := (blk_cell BK5.out 2).trans rfl
      have c3 : w5.cell? ⟨gb, 3, none⟩ = some (.int .i64 t) := (blk_cell BK5.out 3).trans rfl
      go_wp2_with fail
      refine (wait_New.calls base top 0 _ _ _ _ _ HN'.out).mono ?_
      rintro e6 w6 ⟨rfl, hb⟩
      have BK6 := Aside0.mk (blk_below BK5.out hb)
      have HB6 := Aside0.mk (below_step HB5.out hb)
      clear hb c0 c1 c2 c3
      have c0 : w6.cell? ⟨gb, 0, none⟩ = some (.int .i64 b) := (blk_cell BK6.out 0).trans rfl
      have c1 : w6.cell? ⟨gb, 1, none⟩ = some (.int .i64 c) := (blk_cell BK6.out 1).trans rfl
      have c2 : w6.cell? ⟨gb, 2, none⟩ = some (.int .i64 m) := (blk_cell BK6.out 2).trans rfl
      have c3 : w6.cell? ⟨gb, 3, none⟩ = some (.int .i64 t) := (blk_cell BK6.out 3).trans rfl
      go_wp2_with fail
      refine (far_gap HK0.out 0 _).mono ?_
      rintro e7 w7 ⟨rfl, hb⟩
      have BK7 := Aside0.mk (blk_below BK6.out hb)
      have HB7 := Aside0.mk (below_step HB6.out hb)
      clear hb c0 c1 c2 c3
      have c0 : w7.cell? ⟨gb, 0, none⟩ = some (.int .i64 b) := (blk_cell BK7.out 0).trans rfl
      have c1 : w7.cell? ⟨gb, 1, none⟩ = some (.int .i64 c) := (blk_cell BK7.out 1).trans rfl
      have c2 : w7.cell? ⟨gb, 2, none⟩ = some (.int .i64 m) := (blk_cell BK7.out 2).trans rfl
      have c3 : w7.cell? ⟨gb, 3, none⟩ = some (.int .i64 t) := (blk_cell BK7.out 3).trans rfl
      go_wp2
      go_ret
      exact ⟨rfl, HB7.out⟩
set_option maxHeartbeats 4000000 in
set_option maxRecDepth 100000 in
theorem far_dead (base top now n : Int) (w : World) (h : now < 0 ∨ n < 0 ∨ 60 < n) :
    Calls Try.prog 7 #[.int .i64 base, .int .i64 top, .int .i64 now, .int .i64 n] w fun r w' => r = .returned (.bool true) ∧ Below w.heap.size w w' := by
  by_cases g0 : now < 0
  · clear h
    go_enter Try.func7, Try.ntmps7
    go_wp2_with (go_at_call 12; refine (alive _).mono ?_; rintro e1 w1 ⟨rfl, hb⟩)
    go_ret
    exact ⟨rfl, hb⟩
  · skip
    by_cases g1 : n < 0
    · clear h
      go_enter Try.func7, Try.ntmps7
      go_wp2_with (go_at_call 12; refine (alive _).mono ?_; rintro e1 w1 ⟨rfl, hb⟩)
      go_ret
      exact ⟨rfl, hb⟩
    · skip
      have g2 : 60 < n := by omega
      clear h
      go_enter Try.func7, Try.ntmps7
      go_wp2_with (go_at_call 12; refine (alive _).mono ?_; rintro e1 w1 ⟨rfl, hb⟩)
      go_ret
      exact ⟨rfl, hb⟩
theorem far_walk (base top now n : Int) (w : World) (_w0 : (Lit.int .i64 base).wf = true) (_w1 : (Lit.int .i64 top).wf = true) (w2 : (Lit.int .i64 now).wf = true) (_w3 : (Lit.int .i64 n).wf = true) :
    Calls Try.prog 7 #[.int .i64 base, .int .i64 top, .int .i64 now, .int .i64 n] w fun r w' => r = .returned (.bool true) ∧ Below w.heap.size w w' := by
  by_cases h : now < 0 ∨ n < 0 ∨ 60 < n
  · exact far_dead base top now n w h
  · obtain ⟨N, rfl⟩ := Int.eq_ofNat_of_zero_le (show 0 ≤ n by omega)
    exact far_live base top now N w (by omega) (Go.bounds_i64 w2).2 (by omega)
end Go.Proofs.Ytgilccdajlpeaaa.Far
