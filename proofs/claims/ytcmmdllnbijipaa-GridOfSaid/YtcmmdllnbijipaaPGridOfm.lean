/- Printed by print.sh, cut to some of its functions. Conditions: those in each theorem. -/
import Derived.Test.YtcmmdllnbijipaaPGridOfx0
import Derived.Test.YtcmmdllnbijipaaPGridOfx1
namespace Go.Proofs.Ytcmmdllnbijipaa.PGridOf
open Go.RowKit Go.Proofs.YtcmmdllnbijipaaW.PrintWords Go.Proofs.YtcmmdllnbijipaaW.PrintLast Go.Proofs.YtcmmdllnbijipaaW.PrintMore
attribute [local go_sem] max2_int min2_int max_two min_two max_three min_three max_four min_four   -- for this text's walks alone
set_option linter.unusedVariables false
set_option linter.unusedSimpArgs false

attribute [local go_sem high] eqA25
/-! ### pontoonref12_Ends: function 33 -/
def pontoonref12_Ends.f (a0 : Int) (a1 : Int) : Option (Int × Int) := some (mn (mx a0 2) 40, mn (mx a1 1) 20)
set_option maxHeartbeats 8000000 in
set_option maxRecDepth 100000 in
theorem pontoonref12_Ends.calls (a0 : Int) (a1 : Int) (r1 : Int) (r2 : Int) (w : World) (h : pontoonref12_Ends.f a0 a1 = some (r1, r2)) :
    Calls Try.prog 33 #[.int .i64 a0, .int .i64 a1] w fun e w' => e = .returned (.tuple #[.int .i64 r1, .int .i64 r2]) ∧ Below w.heap.size w w' := by
  have HB := Aside0.mk (Below.refl w.heap.size w)
  have H : (some (mn (mx a0 2) 40, mn (mx a1 1) 20)) = some (r1, r2) := h
  clear h
  obtain ⟨ji3, hji3⟩ : ∃ j_ : Int, (mx a0 2) = j_ := ⟨_, rfl⟩
  replace H : (some (mn (ji3) 40, mn (mx a1 1) 20)) = some (r1, r2) := by first | (rw [hji3] at H; exact H) | (simp only [hji3] at H ⊢; exact H)
  (try (have hji3l : 2 ≤ ji3 := by (rw [← hji3]; unfold mx; (repeat' split) <;> omega)))
  (try (have hji3m : 0 ≤ ji3 := by omega))
  have hji3_ : (if a0 < 2 then 2 else a0) = ji3 := hji3
  obtain ⟨ji4, hji4⟩ : ∃ j_ : Int, (mn (ji3) 40) = j_ := ⟨_, rfl⟩
  replace H : (some (ji4, mn (mx a1 1) 20)) = some (r1, r2) := by first | (rw [hji4] at H; exact H) | (simp only [hji4] at H ⊢; exact H)
  have hji4_ : (if 40 < (ji3) then 40 else (ji3)) = ji4 := hji4
  obtain ⟨ji5, hji5⟩ : ∃ j_ : Int, (mx a1 1) = j_ := ⟨_, rfl⟩
  replace H : (some (ji4, mn (ji5) 20)) = some (r1, r2) := by first | (rw [hji5] at H; exact H) | (simp only [hji5] at H ⊢; exact H)
  (try (have hji5l : 1 ≤ ji5 := by (rw [← hji5]; unfold mx; (repeat' split) <;> omega)))
  (try (have hji5m : 0 ≤ ji5 := by omega))
  have hji5_ : (if a1 < 1 then 1 else a1) = ji5 := hji5
  obtain ⟨ji6, hji6⟩ : ∃ j_ : Int, (mn (ji5) 20) = j_ := ⟨_, rfl⟩
  replace H : (some (ji4, ji6)) = some (r1, r2) := by first | (rw [hji6] at H; exact H) | (simp only [hji6] at H ⊢; exact H)
  have hji6_ : (if 20 < (ji5) then 20 else (ji5)) = ji6 := hji6
  simp only [Option.some.injEq, Prod.mk.injEq] at H
  obtain ⟨rfl, rfl⟩ := H
  go_enter Try.func33, Try.ntmps33
  go_wp2
  go_ret2
  exact ⟨by first | rfl | (simp [errW_none, errW_some] <;> rfl) | (simp only [← hji3, ← hji4, ← hji5, ← hji6]; first | rfl | (simp [errW_none, errW_some] <;> rfl)) | (simp [*, errW_none, errW_some] <;> rfl), by repeat (first | (with_reducible first | exact HB.out | apply below_alloc | apply pw_below_drewN | apply below_drew1) | exact HB.out)⟩

/-! ### pontoonbook_SameCells: function 34 -/
def pontoonbook_SameCells.l0 : Nat → List (S25) → List (S25) → Int → Option (Bool)
  | 0, _, _, _ => none
  | k + 1, x0, x1, x5 => if x5 < (x0.length : Int) then (if 0 ≤ x5 then (if x5 < (x1.length : Int) then (if ((((rd_T25 x0 x5).f0) == ((rd_T25 x1 x5).f0) && ((((rd_T25 x0 x5).f1.f0) == ((rd_T25 x1 x5).f1.f0) && (((rd_T25 x0 x5).f1.f1) == ((rd_T25 x1 x5).f1.f1) && (((rd_T25 x0 x5).f1.f2) == ((rd_T25 x1 x5).f1.f2) && (((rd_T25 x0 x5).f1.f3) == ((rd_T25 x1 x5).f1.f3) && (((rd_T25 x0 x5).f1.f4) == ((rd_T25 x1 x5).f1.f4)))))))) = true) then (pontoonbook_SameCells.l0 k x0 x1 (wrap64 (x5 + 1))) else (some false)) else (none)) else (none)) else (some true)
def pontoonbook_SameCells.f (k : Nat) (l0 : List (S25)) (l1 : List (S25)) : Option (Bool) := if (l0.length : Int) = (l1.length : Int) then (pontoonbook_SameCells.l0 k l0 l1 0) else (some false)
theorem pontoonbook_SameCells.mono_l : ∀ k, (∀ y0 y1 y2, LeO (pontoonbook_SameCells.l0 k y0 y1 y2) (pontoonbook_SameCells.l0 (k + 1) y0 y1 y2))
  | 0 => fun _ _ _ r h => by simp [pontoonbook_SameCells.l0] at h
  | k + 1 => by
    have ih0 := pontoonbook_SameCells.mono_l k
    · intro y0 y1 y2
      unfold pontoonbook_SameCells.l0
      repeat' first
      | (with_reducible exact ih0 _ _ _)
      | (with_reducible exact LeO.refl _)
      | (with_reducible exact LeO.none _)
      | (with_reducible refine LeO.ite ?_ ?_)
      | (with_reducible refine LeO.bind ?_ (fun _ => ?_))
      | exact ih0 _ _ _
      | exact LeO.none _
      | refine LeO.ite ?_ ?_
      | refine LeO.bind ?_ (fun _ => ?_)
theorem pontoonbook_SameCells.mono : ∀ a0 a1 k, LeO (pontoonbook_SameCells.f k a0 a1) (pontoonbook_SameCells.f (k + 1) a0 a1) := by
  intro a0 a1 k
  have ih0 := pontoonbook_SameCells.mono_l k
  unfold pontoonbook_SameCells.f
  repeat' first
      | (with_reducible exact ih0 _ _ _)
      | (with_reducible exact LeO.refl _)
      | (with_reducible exact LeO.none _)
      | (with_reducible refine LeO.ite ?_ ?_)
      | (with_reducible refine LeO.bind ?_ (fun _ => ?_))
      | exact ih0 _ _ _
      | exact LeO.none _
      | refine LeO.ite ?_ ?_
      | refine LeO.bind ?_ (fun _ => ?_)
set_option maxHeartbeats 8000000 in
set_option maxRecDepth 100000 in
theorem pontoonbook_SameCells.calls (k : Nat) (A0 : Option Addr) (c0 : Nat) (l0 : List (S25)) (A1 : Option Addr) (c1 : Nat) (l1 : List (S25)) (r : Bool) (w : World) (hr0 : Kd.C k25 w A0 l0.length l0) (hc0 : l0.length ≤ c0) (hr1 : Kd.C k25 w A1 l1.length l1) (hc1 : l1.length ≤ c1) (h : pontoonbook_SameCells.f k l0 l1 = some r) :
    Calls Try.prog 34 #[.slice A0 l0.length c0, .slice A1 l1.length c1] w fun e w' => e = .returned (.bool r) ∧ Drawn0 w w' := by
  have hu25 := Try.underlying25
  have HR0 := Aside0.mk hr0
  have HC0 := Aside0.mk hc0
  clear hr0 hc0
  have HR1 := Aside0.mk hr1
  have HC1 := Aside0.mk hc1
  clear hr1 hc1
  have H : (if (l0.length : Int) = (l1.length : Int) then (pontoonbook_SameCells.l0 k l0 l1 0) else (some false)) = some r := h
  clear h
  by_cases c3 : (l0.length : Int) = (l1.length : Int)
  · rw [if_pos c3] at H
    have c3b0 : ((l0.length : Int) == (l1.length : Int)) = true := beq_iff_eq.mpr c3
    have c3b1 : ((l0.length : Int) != (l1.length : Int)) = false := bne_eq_false_iff_eq.mpr c3
    have c3b2 : (l0.length == l1.length) = true := by first | simpa using c3 | (simp at c3 ⊢; omega)
    clear c3
    have H' := Aside0.mk H
    clear H
    go_enter Try.func34, Try.ntmps34
    go_wp2
    repeat (go_quiet (fail); try go_wp2)
    go_loopg [5] k (fun kq v5 w' => ∃ (x5_1 : Int), v5 = .int .i64 x5_1 ∧ Aside0 (pontoonbook_SameCells.l0 kq l0 l1 x5_1 = some r) ∧ Aside0 (kq ≤ k) ∧ Drawn0 w w')
    case atStart => exact ⟨(0), (by first | rfl | (simp; done) | (simp [*]; done)), H', ⟨Nat.le_refl _⟩, by repeat (first | exact Drawn0.refl _ | apply Drawn0.step)⟩
    case round =>
      clear H'
      try clear c1
      try clear p2
      try clear c3
      try clear c3b0
      try clear c3b1
      try clear c3b2
      obtain ⟨x5_1, rfl, HA, HK1, ⟨m1, rfl⟩⟩ := hrel
      cases gk with
      | zero => exact absurd HA.out (by simp [pontoonbook_SameCells.l0])
      | succ k1 =>
        have H := HA.out
        clear HA
        simp only [pontoonbook_SameCells.l0] at H
        by_cases c4 : x5_1 < (l0.length : Int)
        · rw [if_pos c4] at H
          have c4b0 : decide (x5_1 < (l0.length : Int)) = true := decide_eq_true c4
          clear c4
          by_cases c5 : 0 ≤ x5_1
          · rw [if_pos c5] at H
            have c5b0 : decide (0 ≤ x5_1) = true := decide_eq_true c5
            clear c5
            by_cases c6 : x5_1 < (l1.length : Int)
            · rw [if_pos c6] at H
              have c6b0 : decide (x5_1 < (l1.length : Int)) = true := decide_eq_true c6
              clear c6
              by_cases c7 : ((((rd_T25 l0 x5_1).f0) == ((rd_T25 l1 x5_1).f0) && ((((rd_T25 l0 x5_1).f1.f0) == ((rd_T25 l1 x5_1).f1.f0) && (((rd_T25 l0 x5_1).f1.f1) == ((rd_T25 l1 x5_1).f1.f1) && (((rd_T25 l0 x5_1).f1.f2) == ((rd_T25 l1 x5_1).f1.f2) && (((rd_T25 l0 x5_1).f1.f3) == ((rd_T25 l1 x5_1).f1.f3) && (((rd_T25 l0 x5_1).f1.f4) == ((rd_T25 l1 x5_1).f1.f4)))))))) = true)
              · rw [if_pos c7] at H
                have c7b0 : (((rd_T25 l0 x5_1).f0) == ((rd_T25 l1 x5_1).f0) && ((((rd_T25 l0 x5_1).f1.f0) == ((rd_T25 l1 x5_1).f1.f0) && (((rd_T25 l0 x5_1).f1.f1) == ((rd_T25 l1 x5_1).f1.f1) && (((rd_T25 l0 x5_1).f1.f2) == ((rd_T25 l1 x5_1).f1.f2) && (((rd_T25 l0 x5_1).f1.f3) == ((rd_T25 l1 x5_1).f1.f3) && (((rd_T25 l0 x5_1).f1.f4) == ((rd_T25 l1 x5_1).f1.f4)))))))) = true := c7
                (try (have c7b1 : decide (((rd_T25 l0 x5_1).f0) = ((rd_T25 l1 x5_1).f0) && ((((rd_T25 l0 x5_1).f1.f0) == ((rd_T25 l1 x5_1).f1.f0) && (((rd_T25 l0 x5_1).f1.f1) == ((rd_T25 l1 x5_1).f1.f1) && (((rd_T25 l0 x5_1).f1.f2) == ((rd_T25 l1 x5_1).f1.f2) && (((rd_T25 l0 x5_1).f1.f3) == ((rd_T25 l1 x5_1).f1.f3) && (((rd_T25 l0 x5_1).f1.f4) == ((rd_T25 l1 x5_1).f1.f4)))))))) = true := by simpa using c7))
                (try (have c7b2 : (((rd_T25 l0 x5_1).f0) == ((rd_T25 l1 x5_1).f0) && ((((rd_T25 l0 x5_1).f1.f0) == ((rd_T25 l1 x5_1).f1.f0) && (((rd_T25 l0 x5_1).f1.f1) == ((rd_T25 l1 x5_1).f1.f1) && (((rd_T25 l0 x5_1).f1.f2) == ((rd_T25 l1 x5_1).f1.f2) && (((rd_T25 l0 x5_1).f1.f3) == ((rd_T25 l1 x5_1).f1.f3) && (((rd_T25 l0 x5_1).f1.f4) == ((rd_T25 l1 x5_1).f1.f4)))))))) = true := by simpa using c7))
                clear c7
                have H' := Aside0.mk H
                clear H
                have p123 : 0 ≤ (x5_1 : Int) := of_decide_eq_true (by first | (with_reducible assumption) | assumption)
                have q123 : x5_1 < (l0.length : Int) := of_decide_eq_true (by first | (with_reducible assumption) | assumption)
                obtain ⟨ad123, e123, hx123_0, hx123_1, hx123_2, hx123_3, hx123_4, hx123_5⟩ := at_T25 HR0.out x5_1 p123 q123
                cases e123
                replace p123 := eq_true p123
                replace q123 := eq_true q123
                have p124 : 0 ≤ (x5_1 : Int) := of_decide_eq_true (by first | (with_reducible assumption) | assumption)
                have q124 : x5_1 < (l1.length : Int) := of_decide_eq_true (by first | (with_reducible assumption) | assumption)
                obtain ⟨ad124, e124, hx124_0, hx124_1, hx124_2, hx124_3, hx124_4, hx124_5⟩ := at_T25 HR1.out x5_1 p124 q124
                cases e124
                replace p124 := eq_true p124
                replace q124 := eq_true q124
                go_wp2
                repeat (go_quiet (fail); try go_wp2)
                go_roundg k1
                case measure => have := HK1.out; omega
                case rel => exact ⟨(wrap64 (x5_1 + 1)), (by first | rfl | (simp; done) | (simp [*]; done)), H', ⟨by have := HK1.out; omega⟩, by repeat (first | exact Drawn0.refl _ | apply Drawn0.step)⟩
              · rw [if_neg c7] at H
                have c7b0 : (((rd_T25 l0 x5_1).f0) == ((rd_T25 l1 x5_1).f0) && ((((rd_T25 l0 x5_1).f1.f0) == ((rd_T25 l1 x5_1).f1.f0) && (((rd_T25 l0 x5_1).f1.f1) == ((rd_T25 l1 x5_1).f1.f1) && (((rd_T25 l0 x5_1).f1.f2) == ((rd_T25 l1 x5_1).f1.f2) && (((rd_T25 l0 x5_1).f1.f3) == ((rd_T25 l1 x5_1).f1.f3) && (((rd_T25 l0 x5_1).f1.f4) == ((rd_T25 l1 x5_1).f1.f4)))))))) = false := by simpa using c7
                (try (have c7b1 : decide (((rd_T25 l0 x5_1).f0) = ((rd_T25 l1 x5_1).f0) && ((((rd_T25 l0 x5_1).f1.f0) == ((rd_T25 l1 x5_1).f1.f0) && (((rd_T25 l0 x5_1).f1.f1) == ((rd_T25 l1 x5_1).f1.f1) && (((rd_T25 l0 x5_1).f1.f2) == ((rd_T25 l1 x5_1).f1.f2) && (((rd_T25 l0 x5_1).f1.f3) == ((rd_T25 l1 x5_1).f1.f3) && (((rd_T25 l0 x5_1).f1.f4) == ((rd_T25 l1 x5_1).f1.f4)))))))) = false := by simpa using c7))
                (try (have c7b2 : (((rd_T25 l0 x5_1).f0) == ((rd_T25 l1 x5_1).f0) && ((((rd_T25 l0 x5_1).f1.f0) == ((rd_T25 l1 x5_1).f1.f0) && (((rd_T25 l0 x5_1).f1.f1) == ((rd_T25 l1 x5_1).f1.f1) && (((rd_T25 l0 x5_1).f1.f2) == ((rd_T25 l1 x5_1).f1.f2) && (((rd_T25 l0 x5_1).f1.f3) == ((rd_T25 l1 x5_1).f1.f3) && (((rd_T25 l0 x5_1).f1.f4) == ((rd_T25 l1 x5_1).f1.f4)))))))) = false := by simpa using c7))
                (try (have c7b3 : ¬ (((rd_T25 l0 x5_1).f0) = ((rd_T25 l1 x5_1).f0) && ((((rd_T25 l0 x5_1).f1.f0) == ((rd_T25 l1 x5_1).f1.f0) && (((rd_T25 l0 x5_1).f1.f1) == ((rd_T25 l1 x5_1).f1.f1) && (((rd_T25 l0 x5_1).f1.f2) == ((rd_T25 l1 x5_1).f1.f2) && (((rd_T25 l0 x5_1).f1.f3) == ((rd_T25 l1 x5_1).f1.f3) && (((rd_T25 l0 x5_1).f1.f4) == ((rd_T25 l1 x5_1).f1.f4)))))))) := by simpa using c7))
                clear c7
                obtain rfl := Option.some.inj H
                have p123 : 0 ≤ (x5_1 : Int) := of_decide_eq_true (by first | (with_reducible assumption) | assumption)
                have q123 : x5_1 < (l0.length : Int) := of_decide_eq_true (by first | (with_reducible assumption) | assumption)
                obtain ⟨ad123, e123, hx123_0, hx123_1, hx123_2, hx123_3, hx123_4, hx123_5⟩ := at_T25 HR0.out x5_1 p123 q123
                cases e123
                replace p123 := eq_true p123
                replace q123 := eq_true q123
                have p124 : 0 ≤ (x5_1 : Int) := of_decide_eq_true (by first | (with_reducible assumption) | assumption)
                have q124 : x5_1 < (l1.length : Int) := of_decide_eq_true (by first | (with_reducible assumption) | assumption)
                obtain ⟨ad124, e124, hx124_0, hx124_1, hx124_2, hx124_3, hx124_4, hx124_5⟩ := at_T25 HR1.out x5_1 p124 q124
                cases e124
                replace p124 := eq_true p124
                replace q124 := eq_true q124
                go_wp2
                repeat (go_quiet (fail); try go_wp2)
                go_ret
                exact ⟨by first | rfl | (simp; done) | (simp [*]; done), by repeat (first | exact Drawn0.refl _ | apply Drawn0.step)⟩
            · rw [if_neg c6] at H
              exact absurd H (by simp)
          · rw [if_neg c5] at H
            exact absurd H (by simp)
        · rw [if_neg c4] at H
          have c4b0 : decide (x5_1 < (l0.length : Int)) = false := decide_eq_false c4
          clear c4
          obtain rfl := Option.some.inj H
          go_wp2
          repeat (go_quiet (fail); try go_wp2)
          go_ret
          exact ⟨by first | rfl | (simp; done) | (simp [*]; done), by repeat (first | exact Drawn0.refl _ | apply Drawn0.step)⟩
  · rw [if_neg c3] at H
    have c3b0 : ((l0.length : Int) == (l1.length : Int)) = false := beq_eq_false_iff_ne.mpr c3
    have c3b1 : ((l0.length : Int) != (l1.length : Int)) = true := bne_iff_ne.mpr c3
    have c3b2 : (l0.length == l1.length) = false := by first | simpa using c3 | (simp at c3 ⊢; omega)
    obtain rfl := Option.some.inj H
    go_enter Try.func34, Try.ntmps34
    go_wp2
    repeat (go_quiet (fail); try go_wp2)
    go_ret
    exact ⟨by first | rfl | (simp; done) | (simp [*]; done), by repeat (first | exact Drawn0.refl _ | apply Drawn0.step)⟩

end Go.Proofs.Ytcmmdllnbijipaa.PGridOf
