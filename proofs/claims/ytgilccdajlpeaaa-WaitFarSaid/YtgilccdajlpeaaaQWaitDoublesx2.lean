/- A walk of WaitDoubles. Conditions: those in each theorem. -/
import Derived.Test.YtgilccdajlpeaaaPWaitDoublesx0
import Derived.Test.YtgilccdajlpeaaaQWaitDoublesx1
namespace Go.Proofs.Ytgilccdajlpeaaa.PWaitDoubles
open Go.RowKit Go.Proofs.YtgilccdajlpeaaaW.PrintWords Go.Proofs.YtgilccdajlpeaaaW.PrintLast Go.Proofs.YtgilccdajlpeaaaW.PrintMore
attribute [local go_sem] max2_int min2_int max_two min_two max_three min_three max_four min_four   -- for this text's walks alone
set_option linter.unusedVariables false
set_option linter.unusedSimpArgs false

/-! ### pontoonlaw21_WaitDoubles: function 6 -/
mutual
def pontoonlaw21_WaitDoubles.j0 : Nat → Int → Int → Int → Int → Bool → Option (Bool)
  | 0, _, _, _, _, _ => none
  | k + 1, x0, x1, x2, x3, x39 => if x39 = true then ((pontoonlaw21_alive.f k).bind fun t151 => (some t151)) else ((wait_New.f x0 x1 0).bind fun bt152 => (pontoonlaw21_WaitDoubles.l0 k x0 x1 x2 x3 0 x0 0 bt152.1 bt152.2.1 bt152.2.2.1 bt152.2.2.2))
def pontoonlaw21_WaitDoubles.l0 : Nat → Int → Int → Int → Int → Int → Int → Int → Int → Int → Int → Int → Option (Bool)
  | 0, _, _, _, _, _, _, _, _, _, _, _ => none
  | k + 1, x0, x1, x2, x3, x10, x11, x12, x157000, x157001, x157002, x157003 => if x12 < x2 then ((wait_Wait_Due.f x157000 x157001 x157002 x157003 x10).bind fun t157 => (if t157 = true then (if x10 > 0 then ((wait_Wait_Due.f x157000 x157001 x157002 x157003 (wrap64 (x10 - 1))).bind fun t158 => (if t158 = true then (if x12 > 0 then (pontoonlaw21_WaitDoubles.j2 k x0 x1 x2 x3 x10 x11 x12 (decide (x157002 > 0)) x157000 x157001 x157002 x157003) else (pontoonlaw21_WaitDoubles.j2 k x0 x1 x2 x3 x10 x11 x12 false x157000 x157001 x157002 x157003)) else (pontoonlaw21_WaitDoubles.j2 k x0 x1 x2 x3 x10 x11 x12 false x157000 x157001 x157002 x157003))) else (pontoonlaw21_WaitDoubles.j2 k x0 x1 x2 x3 x10 x11 x12 false x157000 x157001 x157002 x157003)) else (pontoonlaw21_WaitDoubles.j2 k x0 x1 x2 x3 x10 x11 x12 true x157000 x157001 x157002 x157003))) else (some true)
def pontoonlaw21_WaitDoubles.j2 : Nat → Int → Int → Int → Int → Int → Int → Int → Bool → Int → Int → Int → Int → Option (Bool)
  | 0, _, _, _, _, _, _, _, _, _, _, _, _ => none
  | k + 1, x0, x1, x2, x3, x10, x11, x12, x72, x157000, x157001, x157002, x157003 => if x72 = true then (some false) else (if x12 = x3 then ((wait_Wait_Good.f x157000 x157001 x157002 x157003 x10).bind fun bt159 => (pontoonlaw21_WaitDoubles.j3 k x0 x1 x2 x3 x10 x0 x12 bt159.1 bt159.2.1 bt159.2.2.1 bt159.2.2.2)) else (pontoonlaw21_WaitDoubles.j3 k x0 x1 x2 x3 x10 x11 x12 x157000 x157001 x157002 x157003))
def pontoonlaw21_WaitDoubles.j3 : Nat → Int → Int → Int → Int → Int → Int → Int → Int → Int → Int → Int → Option (Bool)
  | 0, _, _, _, _, _, _, _, _, _, _, _ => none
  | k + 1, x0, x1, x2, x3, x10, x11, x12, x157000, x157001, x157002, x157003 => (wait_Wait_Fail.f k x157000 x157001 x157002 x157003 x10).bind fun bt163 => (if bt163.2.2.2 = (wrap64 (x10 + x11)) then ((wait_Wait_Due.f bt163.1 bt163.2.1 bt163.2.2.1 bt163.2.2.2 x10).bind fun t167 => (if t167 = true then (some false) else (pontoonlaw21_WaitDoubles.l0 k x0 x1 x2 x3 bt163.2.2.2 (mn (wrap64 (2 * x11)) x1) (wrap64 (x12 + 1)) bt163.1 bt163.2.1 bt163.2.2.1 bt163.2.2.2))) else (some false))
end
def pontoonlaw21_WaitDoubles.f (k : Nat) (a0 : Int) (a1 : Int) (a2 : Int) (a3 : Int) : Option (Bool) := if a0 < 1 then (pontoonlaw21_WaitDoubles.j0 k a0 a1 a2 a3 true) else (if a0 > 1000 then (pontoonlaw21_WaitDoubles.j0 k a0 a1 a2 a3 true) else (if a1 < a0 then (pontoonlaw21_WaitDoubles.j0 k a0 a1 a2 a3 true) else (if a1 > 100000 then (pontoonlaw21_WaitDoubles.j0 k a0 a1 a2 a3 true) else (if a2 < 0 then (pontoonlaw21_WaitDoubles.j0 k a0 a1 a2 a3 true) else (if a2 > 100 then (pontoonlaw21_WaitDoubles.j0 k a0 a1 a2 a3 true) else ((pontoonlaw21_alive.f k).bind fun t150 => (pontoonlaw21_WaitDoubles.j0 k a0 a1 a2 a3 (!t150))))))))
theorem pontoonlaw21_WaitDoubles.mono_l : ∀ k, (∀ y0 y1 y2 y3 y4, LeO (pontoonlaw21_WaitDoubles.j0 k y0 y1 y2 y3 y4) (pontoonlaw21_WaitDoubles.j0 (k + 1) y0 y1 y2 y3 y4)) ∧ (∀ y0 y1 y2 y3 y4 y5 y6 y7 y8 y9 y10, LeO (pontoonlaw21_WaitDoubles.l0 k y0 y1 y2 y3 y4 y5 y6 y7 y8 y9 y10) (pontoonlaw21_WaitDoubles.l0 (k + 1) y0 y1 y2 y3 y4 y5 y6 y7 y8 y9 y10)) ∧ (∀ y0 y1 y2 y3 y4 y5 y6 y7 y8 y9 y10 y11, LeO (pontoonlaw21_WaitDoubles.j2 k y0 y1 y2 y3 y4 y5 y6 y7 y8 y9 y10 y11) (pontoonlaw21_WaitDoubles.j2 (k + 1) y0 y1 y2 y3 y4 y5 y6 y7 y8 y9 y10 y11)) ∧ (∀ y0 y1 y2 y3 y4 y5 y6 y7 y8 y9 y10, LeO (pontoonlaw21_WaitDoubles.j3 k y0 y1 y2 y3 y4 y5 y6 y7 y8 y9 y10) (pontoonlaw21_WaitDoubles.j3 (k + 1) y0 y1 y2 y3 y4 y5 y6 y7 y8 y9 y10))
  | 0 => ⟨fun _ _ _ _ _ r h => by simp [pontoonlaw21_WaitDoubles.j0] at h, fun _ _ _ _ _ _ _ _ _ _ _ r h => by simp [pontoonlaw21_WaitDoubles.l0] at h, fun _ _ _ _ _ _ _ _ _ _ _ _ r h => by simp [pontoonlaw21_WaitDoubles.j2] at h, fun _ _ _ _ _ _ _ _ _ _ _ r h => by simp [pontoonlaw21_WaitDoubles.j3] at h⟩
  | k + 1 => by
    obtain ⟨ih0, ih1, ih2, ih3⟩ := pontoonlaw21_WaitDoubles.mono_l k
    refine ⟨?_, ?_, ?_, ?_⟩
    · intro y0 y1 y2 y3 y4
      unfold pontoonlaw21_WaitDoubles.j0
      repeat' first
      | (with_reducible exact ih0 _ _ _ _ _)
      | (with_reducible exact ih1 _ _ _ _ _ _ _ _ _ _ _)
      | (with_reducible exact ih2 _ _ _ _ _ _ _ _ _ _ _ _)
      | (with_reducible exact ih3 _ _ _ _ _ _ _ _ _ _ _)
      | (with_reducible exact pontoonlaw21_alive.mono _)
      | (with_reducible exact wait_Wait_Fail.mono _ _ _ _ _ _)
      | (with_reducible exact LeO.refl _)
      | (with_reducible exact LeO.none _)
      | (with_reducible refine LeO.ite ?_ ?_)
      | (with_reducible refine LeO.bind ?_ (fun _ => ?_))
      | exact ih0 _ _ _ _ _
      | exact ih1 _ _ _ _ _ _ _ _ _ _ _
      | exact ih2 _ _ _ _ _ _ _ _ _ _ _ _
      | exact ih3 _ _ _ _ _ _ _ _ _ _ _
      | exact pontoonlaw21_alive.mono _
      | exact wait_Wait_Fail.mono _ _ _ _ _ _
      | exact LeO.none _
      | refine LeO.ite ?_ ?_
      | refine LeO.bind ?_ (fun _ => ?_)
    · intro y0 y1 y2 y3 y4 y5 y6 y7 y8 y9 y10
      unfold pontoonlaw21_WaitDoubles.l0
      repeat' first
      | (with_reducible exact ih0 _ _ _ _ _)
      | (with_reducible exact ih1 _ _ _ _ _ _ _ _ _ _ _)
      | (with_reducible exact ih2 _ _ _ _ _ _ _ _ _ _ _ _)
      | (with_reducible exact ih3 _ _ _ _ _ _ _ _ _ _ _)
      | (with_reducible exact pontoonlaw21_alive.mono _)
      | (with_reducible exact wait_Wait_Fail.mono _ _ _ _ _ _)
      | (with_reducible exact LeO.refl _)
      | (with_reducible exact LeO.none _)
      | (with_reducible refine LeO.ite ?_ ?_)
      | (with_reducible refine LeO.bind ?_ (fun _ => ?_))
      | exact ih0 _ _ _ _ _
      | exact ih1 _ _ _ _ _ _ _ _ _ _ _
      | exact ih2 _ _ _ _ _ _ _ _ _ _ _ _
      | exact ih3 _ _ _ _ _ _ _ _ _ _ _
      | exact pontoonlaw21_alive.mono _
      | exact wait_Wait_Fail.mono _ _ _ _ _ _
      | exact LeO.none _
      | refine LeO.ite ?_ ?_
      | refine LeO.bind ?_ (fun _ => ?_)
    · intro y0 y1 y2 y3 y4 y5 y6 y7 y8 y9 y10 y11
      unfold pontoonlaw21_WaitDoubles.j2
      repeat' first
      | (with_reducible exact ih0 _ _ _ _ _)
      | (with_reducible exact ih1 _ _ _ _ _ _ _ _ _ _ _)
      | (with_reducible exact ih2 _ _ _ _ _ _ _ _ _ _ _ _)
      | (with_reducible exact ih3 _ _ _ _ _ _ _ _ _ _ _)
      | (with_reducible exact pontoonlaw21_alive.mono _)
      | (with_reducible exact wait_Wait_Fail.mono _ _ _ _ _ _)
      | (with_reducible exact LeO.refl _)
      | (with_reducible exact LeO.none _)
      | (with_reducible refine LeO.ite ?_ ?_)
      | (with_reducible refine LeO.bind ?_ (fun _ => ?_))
      | exact ih0 _ _ _ _ _
      | exact ih1 _ _ _ _ _ _ _ _ _ _ _
      | exact ih2 _ _ _ _ _ _ _ _ _ _ _ _
      | exact ih3 _ _ _ _ _ _ _ _ _ _ _
      | exact pontoonlaw21_alive.mono _
      | exact wait_Wait_Fail.mono _ _ _ _ _ _
      | exact LeO.none _
      | refine LeO.ite ?_ ?_
      | refine LeO.bind ?_ (fun _ => ?_)
    · intro y0 y1 y2 y3 y4 y5 y6 y7 y8 y9 y10
      unfold pontoonlaw21_WaitDoubles.j3
      repeat' first
      | (with_reducible exact ih0 _ _ _ _ _)
      | (with_reducible exact ih1 _ _ _ _ _ _ _ _ _ _ _)
      | (with_reducible exact ih2 _ _ _ _ _ _ _ _ _ _ _ _)
      | (with_reducible exact ih3 _ _ _ _ _ _ _ _ _ _ _)
      | (with_reducible exact pontoonlaw21_alive.mono _)
      | (with_reducible exact wait_Wait_Fail.mono _ _ _ _ _ _)
      | (with_reducible exact LeO.refl _)
      | (with_reducible exact LeO.none _)
      | (with_reducible refine LeO.ite ?_ ?_)
      | (with_reducible refine LeO.bind ?_ (fun _ => ?_))
      | exact ih0 _ _ _ _ _
      | exact ih1 _ _ _ _ _ _ _ _ _ _ _
      | exact ih2 _ _ _ _ _ _ _ _ _ _ _ _
      | exact ih3 _ _ _ _ _ _ _ _ _ _ _
      | exact pontoonlaw21_alive.mono _
      | exact wait_Wait_Fail.mono _ _ _ _ _ _
      | exact LeO.none _
      | refine LeO.ite ?_ ?_
      | refine LeO.bind ?_ (fun _ => ?_)
theorem pontoonlaw21_WaitDoubles.mono : ∀ a0 a1 a2 a3 k, LeO (pontoonlaw21_WaitDoubles.f k a0 a1 a2 a3) (pontoonlaw21_WaitDoubles.f (k + 1) a0 a1 a2 a3) := by
  intro a0 a1 a2 a3 k
  obtain ⟨ih0, ih1, ih2, ih3⟩ := pontoonlaw21_WaitDoubles.mono_l k
  unfold pontoonlaw21_WaitDoubles.f
  repeat' first
      | (with_reducible exact ih0 _ _ _ _ _)
      | (with_reducible exact ih1 _ _ _ _ _ _ _ _ _ _ _)
      | (with_reducible exact ih2 _ _ _ _ _ _ _ _ _ _ _ _)
      | (with_reducible exact ih3 _ _ _ _ _ _ _ _ _ _ _)
      | (with_reducible exact pontoonlaw21_alive.mono _)
      | (with_reducible exact wait_Wait_Fail.mono _ _ _ _ _ _)
      | (with_reducible exact LeO.refl _)
      | (with_reducible exact LeO.none _)
      | (with_reducible refine LeO.ite ?_ ?_)
      | (with_reducible refine LeO.bind ?_ (fun _ => ?_))
      | exact ih0 _ _ _ _ _
      | exact ih1 _ _ _ _ _ _ _ _ _ _ _
      | exact ih2 _ _ _ _ _ _ _ _ _ _ _ _
      | exact ih3 _ _ _ _ _ _ _ _ _ _ _
      | exact pontoonlaw21_alive.mono _
      | exact wait_Wait_Fail.mono _ _ _ _ _ _
      | exact LeO.none _
      | refine LeO.ite ?_ ?_
      | refine LeO.bind ?_ (fun _ => ?_)
set_option maxHeartbeats 8000000 in
set_option maxRecDepth 100000 in
theorem pontoonlaw21_WaitDoubles.calls (k : Nat) (a0 : Int) (a1 : Int) (a2 : Int) (a3 : Int) (r : Bool) (w : World) (h : pontoonlaw21_WaitDoubles.f k a0 a1 a2 a3 = some r) :
    Calls Try.prog 6 #[.int .i64 a0, .int .i64 a1, .int .i64 a2, .int .i64 a3] w fun e w' => e = .returned (.bool r) ∧ Below w.heap.size w w' := by
  have hu33 := Try.underlying33
  have HB := Aside0.mk (Below.refl w.heap.size w)
  have H : (if a0 < 1 then (pontoonlaw21_WaitDoubles.j0 k a0 a1 a2 a3 true) else (if a0 > 1000 then (pontoonlaw21_WaitDoubles.j0 k a0 a1 a2 a3 true) else (if a1 < a0 then (pontoonlaw21_WaitDoubles.j0 k a0 a1 a2 a3 true) else (if a1 > 100000 then (pontoonlaw21_WaitDoubles.j0 k a0 a1 a2 a3 true) else (if a2 < 0 then (pontoonlaw21_WaitDoubles.j0 k a0 a1 a2 a3 true) else (if a2 > 100 then (pontoonlaw21_WaitDoubles.j0 k a0 a1 a2 a3 true) else ((pontoonlaw21_alive.f k).bind fun t150 => (pontoonlaw21_WaitDoubles.j0 k a0 a1 a2 a3 (!t150))))))))) = some r := h
  clear h
  have HC5 := Aside0.mk H
  clear H
  go_enter Try.func6, Try.ntmps6
  go_upto_region 1 with (fail)
  go_cut [39] (fun v39 wc => ∃ (kq : Nat) (x39_4 : Bool), v39 = .bool x39_4 ∧ Aside0 (pontoonlaw21_WaitDoubles.j0 kq a0 a1 a2 a3 x39_4 = some r) ∧ Aside0 (kq ≤ k) ∧ Aside0 (Below w.heap.size w wc))
  case first =>
    have H := HC5.out
    clear HC5
    by_cases c6 : a0 < 1
    · rw [if_pos c6] at H
      have c6b0 : decide (a0 < 1) = true := decide_eq_true c6
      clear c6
      (first | rw [c6b0] | (simp only [i64_w, i32_w]; rw [c6b0]) | skip)
      have H' := Aside0.mk H
      clear H
      go_wp2
      go_meet
      case rel => exact ⟨_, (true), (by first | rfl | (simp; done) | (simp [*]; done)), H', ⟨by first | omega | exact Nat.le_refl _⟩, ⟨by repeat (first | (with_reducible first | exact HB.out | apply below_alloc | apply pw_below_drewN | apply below_drew1) | exact HB.out)⟩⟩
    · rw [if_neg c6] at H
      have c6b0 : decide (a0 < 1) = false := decide_eq_false c6
      clear c6
      (first | rw [c6b0] | (simp only [i64_w, i32_w]; rw [c6b0]) | skip)
      by_cases c7 : a0 > 1000
      · rw [if_pos c7] at H
        have c7b0 : decide (1000 < a0) = true := decide_eq_true c7
        clear c7
        have H' := Aside0.mk H
        clear H
        go_wp2
        go_meet
        case rel => exact ⟨_, (true), (by first | rfl | (simp; done) | (simp [*]; done)), H', ⟨by first | omega | exact Nat.le_refl _⟩, ⟨by repeat (first | (with_reducible first | exact HB.out | apply below_alloc | apply pw_below_drewN | apply below_drew1) | exact HB.out)⟩⟩
      · rw [if_neg c7] at H
        have c7b0 : decide (1000 < a0) = false := decide_eq_false c7
        clear c7
        by_cases c8 : a1 < a0
        · rw [if_pos c8] at H
          have c8b0 : decide (a1 < a0) = true := decide_eq_true c8
          clear c8
          have H' := Aside0.mk H
          clear H
          go_wp2
          go_meet
          case rel => exact ⟨_, (true), (by first | rfl | (simp; done) | (simp [*]; done)), H', ⟨by first | omega | exact Nat.le_refl _⟩, ⟨by repeat (first | (with_reducible first | exact HB.out | apply below_alloc | apply pw_below_drewN | apply below_drew1) | exact HB.out)⟩⟩
        · rw [if_neg c8] at H
          have c8b0 : decide (a1 < a0) = false := decide_eq_false c8
          clear c8
          by_cases c9 : a1 > 100000
          · rw [if_pos c9] at H
            have c9b0 : decide (100000 < a1) = true := decide_eq_true c9
            clear c9
            have H' := Aside0.mk H
            clear H
            go_wp2
            go_meet
            case rel => exact ⟨_, (true), (by first | rfl | (simp; done) | (simp [*]; done)), H', ⟨by first | omega | exact Nat.le_refl _⟩, ⟨by repeat (first | (with_reducible first | exact HB.out | apply below_alloc | apply pw_below_drewN | apply below_drew1) | exact HB.out)⟩⟩
          · rw [if_neg c9] at H
            have c9b0 : decide (100000 < a1) = false := decide_eq_false c9
            clear c9
            by_cases c10 : a2 < 0
            · rw [if_pos c10] at H
              have c10b0 : decide (a2 < 0) = true := decide_eq_true c10
              clear c10
              have H' := Aside0.mk H
              clear H
              go_wp2
              go_meet
              case rel => exact ⟨_, (true), (by first | rfl | (simp; done) | (simp [*]; done)), H', ⟨by first | omega | exact Nat.le_refl _⟩, ⟨by repeat (first | (with_reducible first | exact HB.out | apply below_alloc | apply pw_below_drewN | apply below_drew1) | exact HB.out)⟩⟩
            · rw [if_neg c10] at H
              have c10b0 : decide (a2 < 0) = false := decide_eq_false c10
              clear c10
              by_cases c11 : a2 > 100
              · rw [if_pos c11] at H
                have c11b0 : decide (100 < a2) = true := decide_eq_true c11
                clear c11
                have H' := Aside0.mk H
                clear H
                go_wp2
                go_meet
                case rel => exact ⟨_, (true), (by first | rfl | (simp; done) | (simp [*]; done)), H', ⟨by first | omega | exact Nat.le_refl _⟩, ⟨by repeat (first | (with_reducible first | exact HB.out | apply below_alloc | apply pw_below_drewN | apply below_drew1) | exact HB.out)⟩⟩
              · rw [if_neg c11] at H
                have c11b0 : decide (100 < a2) = false := decide_eq_false c11
                clear c11
                replace H := Option.bind_eq_some_iff.mp H
                obtain ⟨t150, A120, H⟩ := H
                replace H : (pontoonlaw21_WaitDoubles.j0 k a0 a1 a2 a3 (!t150)) = some r := H
                have A12 := Aside0.mk A120
                clear A120
                have H' := Aside0.mk H
                clear H
                go_wp2_with (first | (go_at_call 12; (with_reducible refine (pontoonlaw21_alive.calls k  t150 _ A12.out).mono ?_); rintro e w13 ⟨rfl, hb⟩; have n0_ := Aside0.mk (below_step (by repeat (first | (with_reducible first | exact HB.out | apply below_alloc | apply pw_below_drewN | apply below_drew1) | exact HB.out)) hb); clear HB; have HB := n0_; clear n0_; (try clear hb); (try clear hb2); (try clear hk); (try clear hi)))
                go_meet
                case rel => exact ⟨_, (!t150), (by first | rfl | (simp; done) | (simp [*]; done)), H', ⟨by first | omega | exact Nat.le_refl _⟩, ⟨by repeat (first | (with_reducible first | exact HB.out | apply below_alloc | apply pw_below_drewN | apply below_drew1) | exact HB.out)⟩⟩
  case rest =>
    clear HC5
    try clear c1
    try clear p2
    try clear c6
    try clear c6b0
    try clear c7
    try clear c7b0
    try clear c8
    try clear c8b0
    try clear c9
    try clear c9b0
    try clear c10
    try clear c10b0
    try clear c11
    try clear c11b0
    obtain ⟨kq, x39_4, rfl, HA, HJ4, HB⟩ := hcut
    cases kq with
    | zero => exact absurd HA.out (by simp [pontoonlaw21_WaitDoubles.j0])
    | succ kj4 =>
      have H := HA.out
      clear HA
      simp only [pontoonlaw21_WaitDoubles.j0] at H
      by_cases c14 : x39_4 = true
      · subst c14
        have H1 : ((pontoonlaw21_alive.f kj4).bind fun t151 => (some t151)) = some r := by rw [if_pos rfl] at H; exact H
        clear H
        have H := H1
        clear H1
        replace H := Option.bind_eq_some_iff.mp H
        obtain ⟨t151, A150, H⟩ := H
        replace H : (some t151) = some r := H
        have A15 := Aside0.mk A150
        clear A150
        obtain rfl := Option.some.inj H
        go_wp2_with (first | ((with_reducible refine gate_callee (f := 12) rfl ?_); refine goesL_ (some 40) rfl rfl Try.func12 (by kernel_rfl) rfl #[] rfl (by (try simp only [List.map_toArray, List.map_cons, List.map_nil]); first | done | rfl | (simp only [List.length_drop, List.length_take]; rfl)) ?_; (with_reducible refine (pontoonlaw21_alive.calls kj4  t151 _ A15.out).mono ?_); rintro e w16 ⟨rfl, hb⟩; refine ⟨_, rfl, ?_⟩; have n0_ := Aside0.mk (below_step (by repeat (first | (with_reducible first | exact HB.out | apply below_alloc | apply pw_below_drewN | apply below_drew1) | exact HB.out)) hb); clear HB; have HB := n0_; clear n0_; (try clear hb); (try clear hb2); (try clear hk); (try clear hi)))
        go_ret
        exact ⟨by first | rfl | (simp [errW_none, errW_some] <;> rfl) | (simp [*, errW_none, errW_some] <;> rfl), by repeat (first | (with_reducible first | exact HB.out | apply below_alloc | apply pw_below_drewN | apply below_drew1) | exact HB.out)⟩
      · replace c14 := Bool.eq_false_iff.mpr c14
        subst c14
        have H1 : ((wait_New.f a0 a1 0).bind fun bt152 => (pontoonlaw21_WaitDoubles.l0 kj4 a0 a1 a2 a3 0 a0 0 bt152.1 bt152.2.1 bt152.2.2.1 bt152.2.2.2)) = some r := by rw [if_neg (show ¬ (false = true) by decide)] at H; exact H
        clear H
        have H := H1
        clear H1
        replace H := Option.bind_eq_some_iff.mp H
        obtain ⟨⟨t152, t153, t154, t155⟩, A170, H⟩ := H
        replace H : (pontoonlaw21_WaitDoubles.l0 kj4 a0 a1 a2 a3 0 a0 0 t152 t153 t154 t155) = some r := H
        have A17 := Aside0.mk A170
        clear A170
        have H' := Aside0.mk H
        clear H
        go_wp2_with (first | ((with_reducible refine gate_callee (f := 13) rfl ?_); refine goesL_ (some 43) rfl rfl Try.func13 (by kernel_rfl) rfl #[.int .i64 a0, .int .i64 a1, .int .i64 0] rfl (by (try simp only [List.map_toArray, List.map_cons, List.map_nil]); first | done | rfl | (simp only [List.length_drop, List.length_take]; rfl)) ?_; (with_reducible refine (wait_New.calls a0 a1 0 t152 t153 t154 t155 _ A17.out).mono ?_); rintro e w18 ⟨rfl, hb⟩; refine ⟨_, rfl, ?_⟩; have n0_ := Aside0.mk (below_step (by repeat (first | (with_reducible first | exact HB.out | apply below_alloc | apply pw_below_drewN | apply below_drew1) | exact HB.out)) hb); clear HB; have HB := n0_; clear n0_; (try clear hb); (try clear hb2); (try clear hk); (try clear hi)) | ((with_reducible refine gate_dst (N := 9) rfl ?_); refine box_event ?hg (N := 9) ?hd (cs := #[.int .i64 0, .int .i64 0, .int .i64 0, .int .i64 0]) (t := 33) ?hr ?_; (case hd => rfl); (case hg => rfl); (case hr => first | (go_simp; done) | (go_simp; rfl)); intro gb156 hg w19 hbox hb; have n0_ := Aside0.mk (below_step (by repeat (first | (with_reducible first | exact HB.out | apply below_alloc | apply pw_below_drewN | apply below_drew1) | exact HB.out)) hb); have n1_ := Aside0.mk (hbox); have n2_ := Aside0.mk ((by rw [hg]; exact (below_size (by repeat (first | (with_reducible first | exact HB.out | apply below_alloc | apply pw_below_drewN | apply below_drew1) | exact HB.out))) : w.heap.size ≤ gb156)); have n3_ := Aside0.mk ((by rw [hg]; exact (below_size (by repeat (first | (with_reducible first | exact HB.out | apply below_alloc | apply pw_below_drewN | apply below_drew1) | exact HB.out))) : w.heap.size ≤ gb156)); clear HB; have HB := n0_; have BK156 := n1_; have GW156 := n2_; have GE156 := n3_; clear n0_ n1_ n2_ n3_; clear hb hbox hg; have hcz20_0 : w19.cell? ⟨gb156, 0, none⟩ = some (.int .i64 0) := (blk_cell BK156.out 0).trans rfl; have hcz20_1 : w19.cell? ⟨gb156, 1, none⟩ = some (.int .i64 0) := (blk_cell BK156.out 1).trans rfl; have hcz20_2 : w19.cell? ⟨gb156, 2, none⟩ = some (.int .i64 0) := (blk_cell BK156.out 2).trans rfl; have hcz20_3 : w19.cell? ⟨gb156, 3, none⟩ = some (.int .i64 0) := (blk_cell BK156.out 3).trans rfl; have hfz20_0 := blk_frozen BK156.out 0; have hfz20_1 := blk_frozen BK156.out 1; have hfz20_2 := blk_frozen BK156.out 2; have hfz20_3 := blk_frozen BK156.out 3))
        go_loopg [10, 11, 12] kj4 (fun kq v10 v11 v12 w' => ∃ (x10_2 : Int) (x11_2 : Int) (x12_2 : Int) (x157000_2 : Int) (x157001_2 : Int) (x157002_2 : Int) (x157003_2 : Int), v10 = .int .i64 x10_2 ∧ v11 = .int .i64 x11_2 ∧ v12 = .int .i64 x12_2 ∧ Aside0 (pontoonlaw21_WaitDoubles.l0 kq a0 a1 a2 a3 x10_2 x11_2 x12_2 x157000_2 x157001_2 x157002_2 x157003_2 = some r) ∧ Aside0 (kq ≤ kj4) ∧ Aside0 (w'.heap[gb156]? = some (.cells #[.int .i64 x157000_2, .int .i64 x157001_2, .int .i64 x157002_2, .int .i64 x157003_2] 33 (0, 0))) ∧ Aside0 (Below w.heap.size w w'))
        case atStart => exact ⟨(0), (a0), (0), (t152), (t153), (t154), (t155), (by first | rfl | (simp; done) | (simp [*]; done)), (by first | rfl | (simp; done) | (simp [*]; done)), (by first | rfl | (simp; done) | (simp [*]; done)), H', ⟨Nat.le_refl _⟩, ⟨by (with_reducible repeat (first | refine blk_drewN ?_ _ | refine blk_drew ?_ | refine blk_alloc ?_ _)); refine blk_put (cs := #[.int .i64 t152, .int .i64 t153, .int .i64 t154, .int .i64 0]) ?_ 3 _ rfl; (with_reducible repeat (first | refine blk_drewN ?_ _ | refine blk_drew ?_ | refine blk_alloc ?_ _)); refine blk_put (cs := #[.int .i64 t152, .int .i64 t153, .int .i64 0, .int .i64 0]) ?_ 2 _ rfl; (with_reducible repeat (first | refine blk_drewN ?_ _ | refine blk_drew ?_ | refine blk_alloc ?_ _)); refine blk_put (cs := #[.int .i64 t152, .int .i64 0, .int .i64 0, .int .i64 0]) ?_ 1 _ rfl; (with_reducible repeat (first | refine blk_drewN ?_ _ | refine blk_drew ?_ | refine blk_alloc ?_ _)); refine blk_put (cs := #[.int .i64 0, .int .i64 0, .int .i64 0, .int .i64 0]) ?_ 0 _ rfl; (with_reducible repeat (first | refine blk_drewN ?_ _ | refine blk_drew ?_ | refine blk_alloc ?_ _)); exact BK156.out⟩, ⟨by repeat (first | (with_reducible first | exact HB.out | apply below_alloc | apply pw_below_drewN | apply below_drew1 | refine below_set ?_ GE156.out) | exact HB.out)⟩⟩
        case round =>
          clear H'
          try clear c1
          try clear p2
          try clear c6
          try clear c6b0
          try clear c7
          try clear c7b0
          try clear c8
          try clear c8b0
          try clear c9
          try clear c9b0
          try clear c10
          try clear c10b0
          try clear c11
          try clear c11b0
          try clear c12
          try clear c13
          try clear c14
          try clear hcz20_0
          try clear hcz20_1
          try clear hcz20_2
          try clear hcz20_3
          try clear hfz20_0
          try clear hfz20_1
          try clear hfz20_2
          try clear hfz20_3
          try clear p2
          obtain ⟨x10_2, x11_2, x12_2, x157000_2, x157001_2, x157002_2, x157003_2, rfl, rfl, rfl, HA, HK2, BK156, HB⟩ := hrel
          cases gk with
          | zero => exact absurd HA.out (by simp [pontoonlaw21_WaitDoubles.l0])
          | succ k2 =>
            have H := HA.out
            clear HA
            simp only [pontoonlaw21_WaitDoubles.l0] at H
            by_cases c21 : x12_2 < a2
            · rw [if_pos c21] at H
              have c21b0 : decide (x12_2 < a2) = true := decide_eq_true c21
              clear c21
              have HC22 := Aside0.mk H
              clear H
              go_upto_region 8 with (fail)
              go_cut [72] (fun v72 wc => ∃ (kq : Nat) (x72_21 : Bool), v72 = .bool x72_21 ∧ Aside0 (pontoonlaw21_WaitDoubles.j2 kq a0 a1 a2 a3 x10_2 x11_2 x12_2 x72_21 x157000_2 x157001_2 x157002_2 x157003_2 = some r) ∧ Aside0 (kq ≤ k2) ∧ Aside0 (wc.heap[gb156]? = some (.cells #[.int .i64 x157000_2, .int .i64 x157001_2, .int .i64 x157002_2, .int .i64 x157003_2] 33 (0, 0))) ∧ Aside0 (Below w.heap.size w wc))
              case first =>
                have H := HC22.out
                clear HC22
                replace H := Option.bind_eq_some_iff.mp H
                obtain ⟨t157, A230, H⟩ := H
                replace H : (if t157 = true then (if x10_2 > 0 then ((wait_Wait_Due.f x157000_2 x157001_2 x157002_2 x157003_2 (wrap64 (x10_2 - 1))).bind fun t158 => (if t158 = true then (if x12_2 > 0 then (pontoonlaw21_WaitDoubles.j2 k2 a0 a1 a2 a3 x10_2 x11_2 x12_2 (decide (x157002_2 > 0)) x157000_2 x157001_2 x157002_2 x157003_2) else (pontoonlaw21_WaitDoubles.j2 k2 a0 a1 a2 a3 x10_2 x11_2 x12_2 false x157000_2 x157001_2 x157002_2 x157003_2)) else (pontoonlaw21_WaitDoubles.j2 k2 a0 a1 a2 a3 x10_2 x11_2 x12_2 false x157000_2 x157001_2 x157002_2 x157003_2))) else (pontoonlaw21_WaitDoubles.j2 k2 a0 a1 a2 a3 x10_2 x11_2 x12_2 false x157000_2 x157001_2 x157002_2 x157003_2)) else (pontoonlaw21_WaitDoubles.j2 k2 a0 a1 a2 a3 x10_2 x11_2 x12_2 true x157000_2 x157001_2 x157002_2 x157003_2)) = some r := H
                have A23 := Aside0.mk A230
                clear A230
                by_cases c24 : t157 = true
                · subst c24
                  have H1 : (if x10_2 > 0 then ((wait_Wait_Due.f x157000_2 x157001_2 x157002_2 x157003_2 (wrap64 (x10_2 - 1))).bind fun t158 => (if t158 = true then (if x12_2 > 0 then (pontoonlaw21_WaitDoubles.j2 k2 a0 a1 a2 a3 x10_2 x11_2 x12_2 (decide (x157002_2 > 0)) x157000_2 x157001_2 x157002_2 x157003_2) else (pontoonlaw21_WaitDoubles.j2 k2 a0 a1 a2 a3 x10_2 x11_2 x12_2 false x157000_2 x157001_2 x157002_2 x157003_2)) else (pontoonlaw21_WaitDoubles.j2 k2 a0 a1 a2 a3 x10_2 x11_2 x12_2 false x157000_2 x157001_2 x157002_2 x157003_2))) else (pontoonlaw21_WaitDoubles.j2 k2 a0 a1 a2 a3 x10_2 x11_2 x12_2 false x157000_2 x157001_2 x157002_2 x157003_2)) = some r := by rw [if_pos rfl] at H; exact H
                  clear H
                  have H := H1
                  clear H1
                  by_cases c25 : x10_2 > 0
                  · rw [if_pos c25] at H
                    have c25b0 : decide (0 < x10_2) = true := decide_eq_true c25
                    clear c25
                    (first | rw [c25b0] | (simp only [i64_w, i32_w]; rw [c25b0]) | skip)
                    replace H := Option.bind_eq_some_iff.mp H
                    obtain ⟨t158, A260, H⟩ := H
                    replace H : (if t158 = true then (if x12_2 > 0 then (pontoonlaw21_WaitDoubles.j2 k2 a0 a1 a2 a3 x10_2 x11_2 x12_2 (decide (x157002_2 > 0)) x157000_2 x157001_2 x157002_2 x157003_2) else (pontoonlaw21_WaitDoubles.j2 k2 a0 a1 a2 a3 x10_2 x11_2 x12_2 false x157000_2 x157001_2 x157002_2 x157003_2)) else (pontoonlaw21_WaitDoubles.j2 k2 a0 a1 a2 a3 x10_2 x11_2 x12_2 false x157000_2 x157001_2 x157002_2 x157003_2)) = some r := H
                    have A26 := Aside0.mk A260
                    clear A260
                    by_cases c27 : t158 = true
                    · subst c27
                      have H1 : (if x12_2 > 0 then (pontoonlaw21_WaitDoubles.j2 k2 a0 a1 a2 a3 x10_2 x11_2 x12_2 (decide (x157002_2 > 0)) x157000_2 x157001_2 x157002_2 x157003_2) else (pontoonlaw21_WaitDoubles.j2 k2 a0 a1 a2 a3 x10_2 x11_2 x12_2 false x157000_2 x157001_2 x157002_2 x157003_2)) = some r := by rw [if_pos rfl] at H; exact H
                      clear H
                      have H := H1
                      clear H1
                      by_cases c28 : x12_2 > 0
                      · rw [if_pos c28] at H
                        have c28b0 : decide (0 < x12_2) = true := decide_eq_true c28
                        clear c28
                        have H' := Aside0.mk H
                        clear H
                        have hcz29_0 : wr.cell? ⟨gb156, 0, none⟩ = some (.int .i64 x157000_2) := (blk_cell BK156.out 0).trans rfl
                        have hcz29_1 : wr.cell? ⟨gb156, 1, none⟩ = some (.int .i64 x157001_2) := (blk_cell BK156.out 1).trans rfl
                        have hcz29_2 : wr.cell? ⟨gb156, 2, none⟩ = some (.int .i64 x157002_2) := (blk_cell BK156.out 2).trans rfl
                        have hcz29_3 : wr.cell? ⟨gb156, 3, none⟩ = some (.int .i64 x157003_2) := (blk_cell BK156.out 3).trans rfl
                        have hfz29_0 := blk_frozen BK156.out 0
                        have hfz29_1 := blk_frozen BK156.out 1
                        have hfz29_2 := blk_frozen BK156.out 2
                        have hfz29_3 := blk_frozen BK156.out 3
                        go_wp2_with (first | ((with_reducible refine gate_callee (f := 15) rfl ?_); refine goesL_ (some 52) rfl rfl Try.func15 (by kernel_rfl) rfl #[.agg #[.int .i64 x157000_2, .int .i64 x157001_2, .int .i64 x157002_2, .int .i64 x157003_2], .int .i64 x10_2] rfl (by (try simp only [List.map_toArray, List.map_cons, List.map_nil]); first | done | rfl | (simp only [List.length_drop, List.length_take]; rfl)) ?_; (with_reducible refine (wait_Wait_Due.calls x157000_2 x157001_2 x157002_2 x157003_2 x10_2 true _ A23.out).mono ?_); rintro e w30 ⟨rfl, hb⟩; refine ⟨_, rfl, ?_⟩; have n0_ := Aside0.mk (blk_below (g := gb156) (o := .cells #[.int .i64 x157000_2, .int .i64 x157001_2, .int .i64 x157002_2, .int .i64 x157003_2] 33 (0, 0)) (by (with_reducible repeat (first | refine blk_drewN ?_ _ | refine blk_drew ?_ | refine blk_alloc ?_ _)); exact BK156.out) hb); have n1_ := Aside0.mk (below_step (by repeat (first | (with_reducible first | exact HB.out | apply below_alloc | apply pw_below_drewN | apply below_drew1 | refine below_set ?_ GE156.out) | exact HB.out)) hb); clear BK156; clear HB; have BK156 := n0_; have HB := n1_; clear n0_ n1_; (try clear hb); (try clear hb2); (try clear hk); (try clear hi); have hcz31_0 : w30.cell? ⟨gb156, 0, none⟩ = some (.int .i64 x157000_2) := (blk_cell BK156.out 0).trans rfl; have hcz31_1 : w30.cell? ⟨gb156, 1, none⟩ = some (.int .i64 x157001_2) := (blk_cell BK156.out 1).trans rfl; have hcz31_2 : w30.cell? ⟨gb156, 2, none⟩ = some (.int .i64 x157002_2) := (blk_cell BK156.out 2).trans rfl; have hcz31_3 : w30.cell? ⟨gb156, 3, none⟩ = some (.int .i64 x157003_2) := (blk_cell BK156.out 3).trans rfl; have hfz31_0 := blk_frozen BK156.out 0; have hfz31_1 := blk_frozen BK156.out 1; have hfz31_2 := blk_frozen BK156.out 2; have hfz31_3 := blk_frozen BK156.out 3) | (go_at_call 15; (with_reducible refine (wait_Wait_Due.calls x157000_2 x157001_2 x157002_2 x157003_2 (wrap64 (x10_2 - 1)) true _ A26.out).mono ?_); rintro e w32 ⟨rfl, hb⟩; have n0_ := Aside0.mk (blk_below (g := gb156) (o := .cells #[.int .i64 x157000_2, .int .i64 x157001_2, .int .i64 x157002_2, .int .i64 x157003_2] 33 (0, 0)) (by (with_reducible repeat (first | refine blk_drewN ?_ _ | refine blk_drew ?_ | refine blk_alloc ?_ _)); exact BK156.out) hb); have n1_ := Aside0.mk (below_step (by repeat (first | (with_reducible first | exact HB.out | apply below_alloc | apply pw_below_drewN | apply below_drew1 | refine below_set ?_ GE156.out) | exact HB.out)) hb); clear BK156; clear HB; have BK156 := n0_; have HB := n1_; clear n0_ n1_; (try clear hb); (try clear hb2); (try clear hk); (try clear hi); have hcz33_0 : w32.cell? ⟨gb156, 0, none⟩ = some (.int .i64 x157000_2) := (blk_cell BK156.out 0).trans rfl; have hcz33_1 : w32.cell? ⟨gb156, 1, none⟩ = some (.int .i64 x157001_2) := (blk_cell BK156.out 1).trans rfl; have hcz33_2 : w32.cell? ⟨gb156, 2, none⟩ = some (.int .i64 x157002_2) := (blk_cell BK156.out 2).trans rfl; have hcz33_3 : w32.cell? ⟨gb156, 3, none⟩ = some (.int .i64 x157003_2) := (blk_cell BK156.out 3).trans rfl; have hfz33_0 := blk_frozen BK156.out 0; have hfz33_1 := blk_frozen BK156.out 1; have hfz33_2 := blk_frozen BK156.out 2; have hfz33_3 := blk_frozen BK156.out 3))
                        go_meet
                        case rel => exact ⟨_, (decide (x157002_2 > 0)), (by first | rfl | (simp; done) | (simp [*]; done)), H', ⟨by have := HJ4.out; have := HK2.out; first | omega | exact Nat.le_refl _⟩, ⟨by (with_reducible repeat (first | refine blk_drewN ?_ _ | refine blk_drew ?_ | refine blk_alloc ?_ _)); exact BK156.out⟩, ⟨by repeat (first | (with_reducible first | exact HB.out | apply below_alloc | apply pw_below_drewN | apply below_drew1 | refine below_set ?_ GE156.out) | exact HB.out)⟩⟩
                      · rw [if_neg c28] at H
                        have c28b0 : decide (0 < x12_2) = false := decide_eq_false c28
                        clear c28
                        have H' := Aside0.mk H
                        clear H
                        have hcz34_0 : wr.cell? ⟨gb156, 0, none⟩ = some (.int .i64 x157000_2) := (blk_cell BK156.out 0).trans rfl
                        have hcz34_1 : wr.cell? ⟨gb156, 1, none⟩ = some (.int .i64 x157001_2) := (blk_cell BK156.out 1).trans rfl
                        have hcz34_2 : wr.cell? ⟨gb156, 2, none⟩ = some (.int .i64 x157002_2) := (blk_cell BK156.out 2).trans rfl
                        have hcz34_3 : wr.cell? ⟨gb156, 3, none⟩ = some (.int .i64 x157003_2) := (blk_cell BK156.out 3).trans rfl
                        have hfz34_0 := blk_frozen BK156.out 0
                        have hfz34_1 := blk_frozen BK156.out 1
                        have hfz34_2 := blk_frozen BK156.out 2
                        have hfz34_3 := blk_frozen BK156.out 3
                        go_wp2_with (first | ((with_reducible refine gate_callee (f := 15) rfl ?_); refine goesL_ (some 52) rfl rfl Try.func15 (by kernel_rfl) rfl #[.agg #[.int .i64 x157000_2, .int .i64 x157001_2, .int .i64 x157002_2, .int .i64 x157003_2], .int .i64 x10_2] rfl (by (try simp only [List.map_toArray, List.map_cons, List.map_nil]); first | done | rfl | (simp only [List.length_drop, List.length_take]; rfl)) ?_; (with_reducible refine (wait_Wait_Due.calls x157000_2 x157001_2 x157002_2 x157003_2 x10_2 true _ A23.out).mono ?_); rintro e w35 ⟨rfl, hb⟩; refine ⟨_, rfl, ?_⟩; have n0_ := Aside0.mk (blk_below (g := gb156) (o := .cells #[.int .i64 x157000_2, .int .i64 x157001_2, .int .i64 x157002_2, .int .i64 x157003_2] 33 (0, 0)) (by (with_reducible repeat (first | refine blk_drewN ?_ _ | refine blk_drew ?_ | refine blk_alloc ?_ _)); exact BK156.out) hb); have n1_ := Aside0.mk (below_step (by repeat (first | (with_reducible first | exact HB.out | apply below_alloc | apply pw_below_drewN | apply below_drew1 | refine below_set ?_ GE156.out) | exact HB.out)) hb); clear BK156; clear HB; have BK156 := n0_; have HB := n1_; clear n0_ n1_; (try clear hb); (try clear hb2); (try clear hk); (try clear hi); have hcz36_0 : w35.cell? ⟨gb156, 0, none⟩ = some (.int .i64 x157000_2) := (blk_cell BK156.out 0).trans rfl; have hcz36_1 : w35.cell? ⟨gb156, 1, none⟩ = some (.int .i64 x157001_2) := (blk_cell BK156.out 1).trans rfl; have hcz36_2 : w35.cell? ⟨gb156, 2, none⟩ = some (.int .i64 x157002_2) := (blk_cell BK156.out 2).trans rfl; have hcz36_3 : w35.cell? ⟨gb156, 3, none⟩ = some (.int .i64 x157003_2) := (blk_cell BK156.out 3).trans rfl; have hfz36_0 := blk_frozen BK156.out 0; have hfz36_1 := blk_frozen BK156.out 1; have hfz36_2 := blk_frozen BK156.out 2; have hfz36_3 := blk_frozen BK156.out 3) | (go_at_call 15; (with_reducible refine (wait_Wait_Due.calls x157000_2 x157001_2 x157002_2 x157003_2 (wrap64 (x10_2 - 1)) true _ A26.out).mono ?_); rintro e w37 ⟨rfl, hb⟩; have n0_ := Aside0.mk (blk_below (g := gb156) (o := .cells #[.int .i64 x157000_2, .int .i64 x157001_2, .int .i64 x157002_2, .int .i64 x157003_2] 33 (0, 0)) (by (with_reducible repeat (first | refine blk_drewN ?_ _ | refine blk_drew ?_ | refine blk_alloc ?_ _)); exact BK156.out) hb); have n1_ := Aside0.mk (below_step (by repeat (first | (with_reducible first | exact HB.out | apply below_alloc | apply pw_below_drewN | apply below_drew1 | refine below_set ?_ GE156.out) | exact HB.out)) hb); clear BK156; clear HB; have BK156 := n0_; have HB := n1_; clear n0_ n1_; (try clear hb); (try clear hb2); (try clear hk); (try clear hi)))
                        go_meet
                        case rel => exact ⟨_, (false), (by first | rfl | (simp; done) | (simp [*]; done)), H', ⟨by have := HJ4.out; have := HK2.out; first | omega | exact Nat.le_refl _⟩, ⟨by (with_reducible repeat (first | refine blk_drewN ?_ _ | refine blk_drew ?_ | refine blk_alloc ?_ _)); exact BK156.out⟩, ⟨by repeat (first | (with_reducible first | exact HB.out | apply below_alloc | apply pw_below_drewN | apply below_drew1 | refine below_set ?_ GE156.out) | exact HB.out)⟩⟩
                    · replace c27 := Bool.eq_false_iff.mpr c27
                      subst c27
                      have H1 : (pontoonlaw21_WaitDoubles.j2 k2 a0 a1 a2 a3 x10_2 x11_2 x12_2 false x157000_2 x157001_2 x157002_2 x157003_2) = some r := by rw [if_neg (show ¬ (false = true) by decide)] at H; exact H
                      clear H
                      have H := H1
                      clear H1
                      have H' := Aside0.mk H
                      clear H
                      have hcz38_0 : wr.cell? ⟨gb156, 0, none⟩ = some (.int .i64 x157000_2) := (blk_cell BK156.out 0).trans rfl
                      have hcz38_1 : wr.cell? ⟨gb156, 1, none⟩ = some (.int .i64 x157001_2) := (blk_cell BK156.out 1).trans rfl
                      have hcz38_2 : wr.cell? ⟨gb156, 2, none⟩ = some (.int .i64 x157002_2) := (blk_cell BK156.out 2).trans rfl
                      have hcz38_3 : wr.cell? ⟨gb156, 3, none⟩ = some (.int .i64 x157003_2) := (blk_cell BK156.out 3).trans rfl
                      have hfz38_0 := blk_frozen BK156.out 0
                      have hfz38_1 := blk_frozen BK156.out 1
                      have hfz38_2 := blk_frozen BK156.out 2
                      have hfz38_3 := blk_frozen BK156.out 3
                      go_wp2_with (first | ((with_reducible refine gate_callee (f := 15) rfl ?_); refine goesL_ (some 52) rfl rfl Try.func15 (by kernel_rfl) rfl #[.agg #[.int .i64 x157000_2, .int .i64 x157001_2, .int .i64 x157002_2, .int .i64 x157003_2], .int .i64 x10_2] rfl (by (try simp only [List.map_toArray, List.map_cons, List.map_nil]); first | done | rfl | (simp only [List.length_drop, List.length_take]; rfl)) ?_; (with_reducible refine (wait_Wait_Due.calls x157000_2 x157001_2 x157002_2 x157003_2 x10_2 true _ A23.out).mono ?_); rintro e w39 ⟨rfl, hb⟩; refine ⟨_, rfl, ?_⟩; have n0_ := Aside0.mk (blk_below (g := gb156) (o := .cells #[.int .i64 x157000_2, .int .i64 x157001_2, .int .i64 x157002_2, .int .i64 x157003_2] 33 (0, 0)) (by (with_reducible repeat (first | refine blk_drewN ?_ _ | refine blk_drew ?_ | refine blk_alloc ?_ _)); exact BK156.out) hb); have n1_ := Aside0.mk (below_step (by repeat (first | (with_reducible first | exact HB.out | apply below_alloc | apply pw_below_drewN | apply below_drew1 | refine below_set ?_ GE156.out) | exact HB.out)) hb); clear BK156; clear HB; have BK156 := n0_; have HB := n1_; clear n0_ n1_; (try clear hb); (try clear hb2); (try clear hk); (try clear hi); have hcz40_0 : w39.cell? ⟨gb156, 0, none⟩ = some (.int .i64 x157000_2) := (blk_cell BK156.out 0).trans rfl; have hcz40_1 : w39.cell? ⟨gb156, 1, none⟩ = some (.int .i64 x157001_2) := (blk_cell BK156.out 1).trans rfl; have hcz40_2 : w39.cell? ⟨gb156, 2, none⟩ = some (.int .i64 x157002_2) := (blk_cell BK156.out 2).trans rfl; have hcz40_3 : w39.cell? ⟨gb156, 3, none⟩ = some (.int .i64 x157003_2) := (blk_cell BK156.out 3).trans rfl; have hfz40_0 := blk_frozen BK156.out 0; have hfz40_1 := blk_frozen BK156.out 1; have hfz40_2 := blk_frozen BK156.out 2; have hfz40_3 := blk_frozen BK156.out 3) | (go_at_call 15; (with_reducible refine (wait_Wait_Due.calls x157000_2 x157001_2 x157002_2 x157003_2 (wrap64 (x10_2 - 1)) false _ A26.out).mono ?_); rintro e w41 ⟨rfl, hb⟩; have n0_ := Aside0.mk (blk_below (g := gb156) (o := .cells #[.int .i64 x157000_2, .int .i64 x157001_2, .int .i64 x157002_2, .int .i64 x157003_2] 33 (0, 0)) (by (with_reducible repeat (first | refine blk_drewN ?_ _ | refine blk_drew ?_ | refine blk_alloc ?_ _)); exact BK156.out) hb); have n1_ := Aside0.mk (below_step (by repeat (first | (with_reducible first | exact HB.out | apply below_alloc | apply pw_below_drewN | apply below_drew1 | refine below_set ?_ GE156.out) | exact HB.out)) hb); clear BK156; clear HB; have BK156 := n0_; have HB := n1_; clear n0_ n1_; (try clear hb); (try clear hb2); (try clear hk); (try clear hi)))
                      go_meet
                      case rel => exact ⟨_, (false), (by first | rfl | (simp; done) | (simp [*]; done)), H', ⟨by have := HJ4.out; have := HK2.out; first | omega | exact Nat.le_refl _⟩, ⟨by (with_reducible repeat (first | refine blk_drewN ?_ _ | refine blk_drew ?_ | refine blk_alloc ?_ _)); exact BK156.out⟩, ⟨by repeat (first | (with_reducible first | exact HB.out | apply below_alloc | apply pw_below_drewN | apply below_drew1 | refine below_set ?_ GE156.out) | exact HB.out)⟩⟩
                  · rw [if_neg c25] at H
                    have c25b0 : decide (0 < x10_2) = false := decide_eq_false c25
                    clear c25
                    (first | rw [c25b0] | (simp only [i64_w, i32_w]; rw [c25b0]) | skip)
                    have H' := Aside0.mk H
                    clear H
                    have hcz42_0 : wr.cell? ⟨gb156, 0, none⟩ = some (.int .i64 x157000_2) := (blk_cell BK156.out 0).trans rfl
                    have hcz42_1 : wr.cell? ⟨gb156, 1, none⟩ = some (.int .i64 x157001_2) := (blk_cell BK156.out 1).trans rfl
                    have hcz42_2 : wr.cell? ⟨gb156, 2, none⟩ = some (.int .i64 x157002_2) := (blk_cell BK156.out 2).trans rfl
                    have hcz42_3 : wr.cell? ⟨gb156, 3, none⟩ = some (.int .i64 x157003_2) := (blk_cell BK156.out 3).trans rfl
                    have hfz42_0 := blk_frozen BK156.out 0
                    have hfz42_1 := blk_frozen BK156.out 1
                    have hfz42_2 := blk_frozen BK156.out 2
                    have hfz42_3 := blk_frozen BK156.out 3
                    go_wp2_with (first | ((with_reducible refine gate_callee (f := 15) rfl ?_); refine goesL_ (some 52) rfl rfl Try.func15 (by kernel_rfl) rfl #[.agg #[.int .i64 x157000_2, .int .i64 x157001_2, .int .i64 x157002_2, .int .i64 x157003_2], .int .i64 x10_2] rfl (by (try simp only [List.map_toArray, List.map_cons, List.map_nil]); first | done | rfl | (simp only [List.length_drop, List.length_take]; rfl)) ?_; (with_reducible refine (wait_Wait_Due.calls x157000_2 x157001_2 x157002_2 x157003_2 x10_2 true _ A23.out).mono ?_); rintro e w43 ⟨rfl, hb⟩; refine ⟨_, rfl, ?_⟩; have n0_ := Aside0.mk (blk_below (g := gb156) (o := .cells #[.int .i64 x157000_2, .int .i64 x157001_2, .int .i64 x157002_2, .int .i64 x157003_2] 33 (0, 0)) (by (with_reducible repeat (first | refine blk_drewN ?_ _ | refine blk_drew ?_ | refine blk_alloc ?_ _)); exact BK156.out) hb); have n1_ := Aside0.mk (below_step (by repeat (first | (with_reducible first | exact HB.out | apply below_alloc | apply pw_below_drewN | apply below_drew1 | refine below_set ?_ GE156.out) | exact HB.out)) hb); clear BK156; clear HB; have BK156 := n0_; have HB := n1_; clear n0_ n1_; (try clear hb); (try clear hb2); (try clear hk); (try clear hi)))
                    go_meet
                    case rel => exact ⟨_, (false), (by first | rfl | (simp; done) | (simp [*]; done)), H', ⟨by have := HJ4.out; have := HK2.out; first | omega | exact Nat.le_refl _⟩, ⟨by (with_reducible repeat (first | refine blk_drewN ?_ _ | refine blk_drew ?_ | refine blk_alloc ?_ _)); exact BK156.out⟩, ⟨by repeat (first | (with_reducible first | exact HB.out | apply below_alloc | apply pw_below_drewN | apply below_drew1 | refine below_set ?_ GE156.out) | exact HB.out)⟩⟩
                · replace c24 := Bool.eq_false_iff.mpr c24
                  subst c24
                  have H1 : (pontoonlaw21_WaitDoubles.j2 k2 a0 a1 a2 a3 x10_2 x11_2 x12_2 true x157000_2 x157001_2 x157002_2 x157003_2) = some r := by rw [if_neg (show ¬ (false = true) by decide)] at H; exact H
                  clear H
                  have H := H1
                  clear H1
                  have H' := Aside0.mk H
                  clear H
                  have hcz44_0 : wr.cell? ⟨gb156, 0, none⟩ = some (.int .i64 x157000_2) := (blk_cell BK156.out 0).trans rfl
                  have hcz44_1 : wr.cell? ⟨gb156, 1, none⟩ = some (.int .i64 x157001_2) := (blk_cell BK156.out 1).trans rfl
                  have hcz44_2 : wr.cell? ⟨gb156, 2, none⟩ = some (.int .i64 x157002_2) := (blk_cell BK156.out 2).trans rfl
                  have hcz44_3 : wr.cell? ⟨gb156, 3, none⟩ = some (.int .i64 x157003_2) := (blk_cell BK156.out 3).trans rfl
                  have hfz44_0 := blk_frozen BK156.out 0
                  have hfz44_1 := blk_frozen BK156.out 1
                  have hfz44_2 := blk_frozen BK156.out 2
                  have hfz44_3 := blk_frozen BK156.out 3
                  go_wp2_with (first | ((with_reducible refine gate_callee (f := 15) rfl ?_); refine goesL_ (some 52) rfl rfl Try.func15 (by kernel_rfl) rfl #[.agg #[.int .i64 x157000_2, .int .i64 x157001_2, .int .i64 x157002_2, .int .i64 x157003_2], .int .i64 x10_2] rfl (by (try simp only [List.map_toArray, List.map_cons, List.map_nil]); first | done | rfl | (simp only [List.length_drop, List.length_take]; rfl)) ?_; (with_reducible refine (wait_Wait_Due.calls x157000_2 x157001_2 x157002_2 x157003_2 x10_2 false _ A23.out).mono ?_); rintro e w45 ⟨rfl, hb⟩; refine ⟨_, rfl, ?_⟩; have n0_ := Aside0.mk (blk_below (g := gb156) (o := .cells #[.int .i64 x157000_2, .int .i64 x157001_2, .int .i64 x157002_2, .int .i64 x157003_2] 33 (0, 0)) (by (with_reducible repeat (first | refine blk_drewN ?_ _ | refine blk_drew ?_ | refine blk_alloc ?_ _)); exact BK156.out) hb); have n1_ := Aside0.mk (below_step (by repeat (first | (with_reducible first | exact HB.out | apply below_alloc | apply pw_below_drewN | apply below_drew1 | refine below_set ?_ GE156.out) | exact HB.out)) hb); clear BK156; clear HB; have BK156 := n0_; have HB := n1_; clear n0_ n1_; (try clear hb); (try clear hb2); (try clear hk); (try clear hi)))
                  go_meet
                  case rel => exact ⟨_, (true), (by first | rfl | (simp; done) | (simp [*]; done)), H', ⟨by have := HJ4.out; have := HK2.out; first | omega | exact Nat.le_refl _⟩, ⟨by (with_reducible repeat (first | refine blk_drewN ?_ _ | refine blk_drew ?_ | refine blk_alloc ?_ _)); exact BK156.out⟩, ⟨by repeat (first | (with_reducible first | exact HB.out | apply below_alloc | apply pw_below_drewN | apply below_drew1 | refine below_set ?_ GE156.out) | exact HB.out)⟩⟩
              case rest =>
                clear HC22
                try clear c1
                try clear c2
                try clear p2
                try clear c6
                try clear c6b0
                try clear p6
                try clear c7
                try clear c7b0
                try clear c8
                try clear c8b0
                try clear c9
                try clear c9b0
                try clear c10
                try clear c10b0
                try clear c11
                try clear c11b0
                try clear c12
                try clear c13
                try clear c14
                try clear c15
                try clear c21
                try clear c21b0
                try clear c24
                try clear c25
                try clear c25b0
                try clear c27
                try clear c28
                try clear c28b0
                try clear hcz20_0
                try clear hcz20_1
                try clear hcz20_2
                try clear hcz20_3
                try clear hcz29_0
                try clear hcz29_1
                try clear hcz29_2
                try clear hcz29_3
                try clear hcz31_0
                try clear hcz31_1
                try clear hcz31_2
                try clear hcz31_3
                try clear hcz33_0
                try clear hcz33_1
                try clear hcz33_2
                try clear hcz33_3
                try clear hcz34_0
                try clear hcz34_1
                try clear hcz34_2
                try clear hcz34_3
                try clear hcz36_0
                try clear hcz36_1
                try clear hcz36_2
                try clear hcz36_3
                try clear hcz38_0
                try clear hcz38_1
                try clear hcz38_2
                try clear hcz38_3
                try clear hcz40_0
                try clear hcz40_1
                try clear hcz40_2
                try clear hcz40_3
                try clear hcz42_0
                try clear hcz42_1
                try clear hcz42_2
                try clear hcz42_3
                try clear hcz44_0
                try clear hcz44_1
                try clear hcz44_2
                try clear hcz44_3
                try clear hfz20_0
                try clear hfz20_1
                try clear hfz20_2
                try clear hfz20_3
                try clear hfz29_0
                try clear hfz29_1
                try clear hfz29_2
                try clear hfz29_3
                try clear hfz31_0
                try clear hfz31_1
                try clear hfz31_2
                try clear hfz31_3
                try clear hfz33_0
                try clear hfz33_1
                try clear hfz33_2
                try clear hfz33_3
                try clear hfz34_0
                try clear hfz34_1
                try clear hfz34_2
                try clear hfz34_3
                try clear hfz36_0
                try clear hfz36_1
                try clear hfz36_2
                try clear hfz36_3
                try clear hfz38_0
                try clear hfz38_1
                try clear hfz38_2
                try clear hfz38_3
                try clear hfz40_0
                try clear hfz40_1
                try clear hfz40_2
                try clear hfz40_3
                try clear hfz42_0
                try clear hfz42_1
                try clear hfz42_2
                try clear hfz42_3
                try clear hfz44_0
                try clear hfz44_1
                try clear hfz44_2
                try clear hfz44_3
                try clear p2
                obtain ⟨kq, x72_21, rfl, HA, HJ21, BK156, HB⟩ := hcut
                cases kq with
                | zero => exact absurd HA.out (by simp [pontoonlaw21_WaitDoubles.j2])
                | succ kj21 =>
                  have H := HA.out
                  clear HA
                  simp only [pontoonlaw21_WaitDoubles.j2] at H
                  by_cases c46 : x72_21 = true
                  · subst c46
                    have H1 : (some false) = some r := by rw [if_pos rfl] at H; exact H
                    clear H
                    have H := H1
                    clear H1
                    obtain rfl := Option.some.inj H
                    go_wp2
                    go_ret
                    exact ⟨by first | rfl | (simp [errW_none, errW_some] <;> rfl) | (simp [*, errW_none, errW_some] <;> rfl), by repeat (first | (with_reducible first | exact HB.out | apply below_alloc | apply pw_below_drewN | apply below_drew1 | refine below_set ?_ GE156.out) | exact HB.out)⟩
                  · replace c46 := Bool.eq_false_iff.mpr c46
                    subst c46
                    have H1 : (if x12_2 = a3 then ((wait_Wait_Good.f x157000_2 x157001_2 x157002_2 x157003_2 x10_2).bind fun bt159 => (pontoonlaw21_WaitDoubles.j3 kj21 a0 a1 a2 a3 x10_2 a0 x12_2 bt159.1 bt159.2.1 bt159.2.2.1 bt159.2.2.2)) else (pontoonlaw21_WaitDoubles.j3 kj21 a0 a1 a2 a3 x10_2 x11_2 x12_2 x157000_2 x157001_2 x157002_2 x157003_2)) = some r := by rw [if_neg (show ¬ (false = true) by decide)] at H; exact H
                    clear H
                    have H := H1
                    clear H1
                    have HC47 := Aside0.mk H
                    clear H
                    go_upto_if 75 with (fail)
                    go_cut [11] (fun v11 wc => ∃ (kq : Nat) (x11_46 : Int) (x157000_46 : Int) (x157001_46 : Int) (x157002_46 : Int) (x157003_46 : Int), v11 = .int .i64 x11_46 ∧ Aside0 (pontoonlaw21_WaitDoubles.j3 kq a0 a1 a2 a3 x10_2 x11_46 x12_2 x157000_46 x157001_46 x157002_46 x157003_46 = some r) ∧ Aside0 (kq ≤ kj21) ∧ Aside0 (wc.heap[gb156]? = some (.cells #[.int .i64 x157000_46, .int .i64 x157001_46, .int .i64 x157002_46, .int .i64 x157003_46] 33 (0, 0))) ∧ Aside0 (Below w.heap.size w wc))
                    case first =>
                      have H := HC47.out
                      clear HC47
                      by_cases c48 : x12_2 = a3
                      · rw [if_pos c48] at H
                        have c48b0 : (x12_2 == a3) = true := beq_iff_eq.mpr c48
                        have c48b1 : (x12_2 != a3) = false := bne_eq_false_iff_eq.mpr c48
                        clear c48
                        (first | rw [c48b0] | (simp only [i64_w, i32_w]; rw [c48b0]) | skip)
                        replace H := Option.bind_eq_some_iff.mp H
                        obtain ⟨⟨t159, t160, t161, t162⟩, A490, H⟩ := H
                        replace H : (pontoonlaw21_WaitDoubles.j3 kj21 a0 a1 a2 a3 x10_2 a0 x12_2 t159 t160 t161 t162) = some r := H
                        have A49 := Aside0.mk A490
                        clear A490
                        have H' := Aside0.mk H
                        clear H
                        have hcz50_0 : wc.cell? ⟨gb156, 0, none⟩ = some (.int .i64 x157000_2) := (blk_cell BK156.out 0).trans rfl
                        have hcz50_1 : wc.cell? ⟨gb156, 1, none⟩ = some (.int .i64 x157001_2) := (blk_cell BK156.out 1).trans rfl
                        have hcz50_2 : wc.cell? ⟨gb156, 2, none⟩ = some (.int .i64 x157002_2) := (blk_cell BK156.out 2).trans rfl
                        have hcz50_3 : wc.cell? ⟨gb156, 3, none⟩ = some (.int .i64 x157003_2) := (blk_cell BK156.out 3).trans rfl
                        have hfz50_0 := blk_frozen BK156.out 0
                        have hfz50_1 := blk_frozen BK156.out 1
                        have hfz50_2 := blk_frozen BK156.out 2
                        have hfz50_3 := blk_frozen BK156.out 3
                        go_wp2_with (first | ((with_reducible refine gate_callee (f := 16) rfl ?_); refine goesL_ (some 78) rfl rfl Try.func16 (by kernel_rfl) rfl #[.agg #[.int .i64 x157000_2, .int .i64 x157001_2, .int .i64 x157002_2, .int .i64 x157003_2], .int .i64 x10_2] rfl (by (try simp only [List.map_toArray, List.map_cons, List.map_nil]); first | done | rfl | (simp only [List.length_drop, List.length_take]; rfl)) ?_; (with_reducible refine (wait_Wait_Good.calls x157000_2 x157001_2 x157002_2 x157003_2 x10_2 t159 t160 t161 t162 _ A49.out).mono ?_); rintro e w51 ⟨rfl, hb⟩; refine ⟨_, rfl, ?_⟩; have n0_ := Aside0.mk (blk_below (g := gb156) (o := .cells #[.int .i64 x157000_2, .int .i64 x157001_2, .int .i64 x157002_2, .int .i64 x157003_2] 33 (0, 0)) (by (with_reducible repeat (first | refine blk_drewN ?_ _ | refine blk_drew ?_ | refine blk_alloc ?_ _)); exact BK156.out) hb); have n1_ := Aside0.mk (below_step (by repeat (first | (with_reducible first | exact HB.out | apply below_alloc | apply pw_below_drewN | apply below_drew1 | refine below_set ?_ GE156.out) | exact HB.out)) hb); clear BK156; clear HB; have BK156 := n0_; have HB := n1_; clear n0_ n1_; (try clear hb); (try clear hb2); (try clear hk); (try clear hi); have hcz52_0 : w51.cell? ⟨gb156, 0, none⟩ = some (.int .i64 x157000_2) := (blk_cell BK156.out 0).trans rfl; have hcz52_1 : w51.cell? ⟨gb156, 1, none⟩ = some (.int .i64 x157001_2) := (blk_cell BK156.out 1).trans rfl; have hcz52_2 : w51.cell? ⟨gb156, 2, none⟩ = some (.int .i64 x157002_2) := (blk_cell BK156.out 2).trans rfl; have hcz52_3 : w51.cell? ⟨gb156, 3, none⟩ = some (.int .i64 x157003_2) := (blk_cell BK156.out 3).trans rfl; have hfz52_0 := blk_frozen BK156.out 0; have hfz52_1 := blk_frozen BK156.out 1; have hfz52_2 := blk_frozen BK156.out 2; have hfz52_3 := blk_frozen BK156.out 3))
                        go_meet
                        case rel => exact ⟨_, (a0), (t159), (t160), (t161), (t162), (by first | rfl | (simp; done) | (simp [*]; done)), H', ⟨by have := HJ4.out; have := HK2.out; have := HJ21.out; first | omega | exact Nat.le_refl _⟩, ⟨by (with_reducible repeat (first | refine blk_drewN ?_ _ | refine blk_drew ?_ | refine blk_alloc ?_ _)); refine blk_put (cs := #[.int .i64 t159, .int .i64 t160, .int .i64 t161, .int .i64 x157003_2]) ?_ 3 _ rfl; (with_reducible repeat (first | refine blk_drewN ?_ _ | refine blk_drew ?_ | refine blk_alloc ?_ _)); refine blk_put (cs := #[.int .i64 t159, .int .i64 t160, .int .i64 x157002_2, .int .i64 x157003_2]) ?_ 2 _ rfl; (with_reducible repeat (first | refine blk_drewN ?_ _ | refine blk_drew ?_ | refine blk_alloc ?_ _)); refine blk_put (cs := #[.int .i64 t159, .int .i64 x157001_2, .int .i64 x157002_2, .int .i64 x157003_2]) ?_ 1 _ rfl; (with_reducible repeat (first | refine blk_drewN ?_ _ | refine blk_drew ?_ | refine blk_alloc ?_ _)); refine blk_put (cs := #[.int .i64 x157000_2, .int .i64 x157001_2, .int .i64 x157002_2, .int .i64 x157003_2]) ?_ 0 _ rfl; (with_reducible repeat (first | refine blk_drewN ?_ _ | refine blk_drew ?_ | refine blk_alloc ?_ _)); exact BK156.out⟩, ⟨by repeat (first | (with_reducible first | exact HB.out | apply below_alloc | apply pw_below_drewN | apply below_drew1 | refine below_set ?_ GE156.out) | exact HB.out)⟩⟩
                      · rw [if_neg c48] at H
                        have c48b0 : (x12_2 == a3) = false := beq_eq_false_iff_ne.mpr c48
                        have c48b1 : (x12_2 != a3) = true := bne_iff_ne.mpr c48
                        (first | rw [c48b0] | (simp only [i64_w, i32_w]; rw [c48b0]) | skip)
                        have H' := Aside0.mk H
                        clear H
                        go_wp2
                        go_meet
                        case rel => exact ⟨_, (x11_2), (x157000_2), (x157001_2), (x157002_2), (x157003_2), (by first | rfl | (simp; done) | (simp [*]; done)), H', ⟨by have := HJ4.out; have := HK2.out; have := HJ21.out; first | omega | exact Nat.le_refl _⟩, ⟨by (with_reducible repeat (first | refine blk_drewN ?_ _ | refine blk_drew ?_ | refine blk_alloc ?_ _)); exact BK156.out⟩, ⟨by repeat (first | (with_reducible first | exact HB.out | apply below_alloc | apply pw_below_drewN | apply below_drew1 | refine below_set ?_ GE156.out) | exact HB.out)⟩⟩
                    case rest =>
                      clear HC47
                      try clear c1
                      try clear c2
                      try clear p2
                      try clear c4
                      try clear c6
                      try clear c6b0
                      try clear p6
                      try clear c7
                      try clear c7b0
                      try clear c8
                      try clear c8b0
                      try clear c9
                      try clear c9b0
                      try clear c10
                      try clear c10b0
                      try clear c11
                      try clear c11b0
                      try clear c12
                      try clear c13
                      try clear c14
                      try clear c15
                      try clear c16
                      try clear c21
                      try clear c21b0
                      try clear c24
                      try clear c25
                      try clear c25b0
                      try clear c27
                      try clear c28
                      try clear c28b0
                      try clear c46
                      try clear c48
                      try clear c48b0
                      try clear c48b1
                      try clear hcz20_0
                      try clear hcz20_1
                      try clear hcz20_2
                      try clear hcz20_3
                      try clear hcz29_0
                      try clear hcz29_1
                      try clear hcz29_2
                      try clear hcz29_3
                      try clear hcz31_0
                      try clear hcz31_1
                      try clear hcz31_2
                      try clear hcz31_3
                      try clear hcz33_0
                      try clear hcz33_1
                      try clear hcz33_2
                      try clear hcz33_3
                      try clear hcz34_0
                      try clear hcz34_1
                      try clear hcz34_2
                      try clear hcz34_3
                      try clear hcz36_0
                      try clear hcz36_1
                      try clear hcz36_2
                      try clear hcz36_3
                      try clear hcz38_0
                      try clear hcz38_1
                      try clear hcz38_2
                      try clear hcz38_3
                      try clear hcz40_0
                      try clear hcz40_1
                      try clear hcz40_2
                      try clear hcz40_3
                      try clear hcz42_0
                      try clear hcz42_1
                      try clear hcz42_2
                      try clear hcz42_3
                      try clear hcz44_0
                      try clear hcz44_1
                      try clear hcz44_2
                      try clear hcz44_3
                      try clear hcz50_0
                      try clear hcz50_1
                      try clear hcz50_2
                      try clear hcz50_3
                      try clear hcz52_0
                      try clear hcz52_1
                      try clear hcz52_2
                      try clear hcz52_3
                      try clear hfz20_0
                      try clear hfz20_1
                      try clear hfz20_2
                      try clear hfz20_3
                      try clear hfz29_0
                      try clear hfz29_1
                      try clear hfz29_2
                      try clear hfz29_3
                      try clear hfz31_0
                      try clear hfz31_1
                      try clear hfz31_2
                      try clear hfz31_3
                      try clear hfz33_0
                      try clear hfz33_1
                      try clear hfz33_2
                      try clear hfz33_3
                      try clear hfz34_0
                      try clear hfz34_1
                      try clear hfz34_2
                      try clear hfz34_3
                      try clear hfz36_0
                      try clear hfz36_1
                      try clear hfz36_2
                      try clear hfz36_3
                      try clear hfz38_0
                      try clear hfz38_1
                      try clear hfz38_2
                      try clear hfz38_3
                      try clear hfz40_0
                      try clear hfz40_1
                      try clear hfz40_2
                      try clear hfz40_3
                      try clear hfz42_0
                      try clear hfz42_1
                      try clear hfz42_2
                      try clear hfz42_3
                      try clear hfz44_0
                      try clear hfz44_1
                      try clear hfz44_2
                      try clear hfz44_3
                      try clear hfz50_0
                      try clear hfz50_1
                      try clear hfz50_2
                      try clear hfz50_3
                      try clear hfz52_0
                      try clear hfz52_1
                      try clear hfz52_2
                      try clear hfz52_3
                      try clear p2
                      try clear p6
                      obtain ⟨kq, x11_46, x157000_46, x157001_46, x157002_46, x157003_46, rfl, HA, HJ46, BK156, HB⟩ := hcut
                      cases kq with
                      | zero => exact absurd HA.out (by simp [pontoonlaw21_WaitDoubles.j3])
                      | succ kj46 =>
                        have H := HA.out
                        clear HA
                        simp only [pontoonlaw21_WaitDoubles.j3] at H
                        replace H := Option.bind_eq_some_iff.mp H
                        obtain ⟨⟨t163, t164, t165, t166⟩, A530, H⟩ := H
                        replace H : (if t166 = (wrap64 (x10_2 + x11_46)) then ((wait_Wait_Due.f t163 t164 t165 t166 x10_2).bind fun t167 => (if t167 = true then (some false) else (pontoonlaw21_WaitDoubles.l0 kj46 a0 a1 a2 a3 t166 (mn (wrap64 (2 * x11_46)) a1) (wrap64 (x12_2 + 1)) t163 t164 t165 t166))) else (some false)) = some r := H
                        have A53 := Aside0.mk A530
                        clear A530
                        by_cases c54 : t166 = (wrap64 (x10_2 + x11_46))
                        · rw [if_pos c54] at H
                          have c54b0 : (t166 == (wrap64 (x10_2 + x11_46))) = true := beq_iff_eq.mpr c54
                          have c54b1 : (t166 != (wrap64 (x10_2 + x11_46))) = false := bne_eq_false_iff_eq.mpr c54
                          clear c54
                          replace H := Option.bind_eq_some_iff.mp H
                          obtain ⟨t167, A550, H⟩ := H
                          replace H : (if t167 = true then (some false) else (pontoonlaw21_WaitDoubles.l0 kj46 a0 a1 a2 a3 t166 (mn (wrap64 (2 * x11_46)) a1) (wrap64 (x12_2 + 1)) t163 t164 t165 t166)) = some r := H
                          have A55 := Aside0.mk A550
                          clear A550
                          by_cases c56 : t167 = true
                          · subst c56
                            have H1 : (some false) = some r := by rw [if_pos rfl] at H; exact H
                            clear H
                            have H := H1
                            clear H1
                            obtain rfl := Option.some.inj H
                            have hcz57_0 : wc.cell? ⟨gb156, 0, none⟩ = some (.int .i64 x157000_46) := (blk_cell BK156.out 0).trans rfl
                            have hcz57_1 : wc.cell? ⟨gb156, 1, none⟩ = some (.int .i64 x157001_46) := (blk_cell BK156.out 1).trans rfl
                            have hcz57_2 : wc.cell? ⟨gb156, 2, none⟩ = some (.int .i64 x157002_46) := (blk_cell BK156.out 2).trans rfl
                            have hcz57_3 : wc.cell? ⟨gb156, 3, none⟩ = some (.int .i64 x157003_46) := (blk_cell BK156.out 3).trans rfl
                            have hfz57_0 := blk_frozen BK156.out 0
                            have hfz57_1 := blk_frozen BK156.out 1
                            have hfz57_2 := blk_frozen BK156.out 2
                            have hfz57_3 := blk_frozen BK156.out 3
                            go_wp2_with (first | ((with_reducible refine gate_callee (f := 14) rfl ?_); refine goesL_ (some 82) rfl rfl Try.func14 (by kernel_rfl) rfl #[.agg #[.int .i64 x157000_46, .int .i64 x157001_46, .int .i64 x157002_46, .int .i64 x157003_46], .int .i64 x10_2] rfl (by (try simp only [List.map_toArray, List.map_cons, List.map_nil]); first | done | rfl | (simp only [List.length_drop, List.length_take]; rfl)) ?_; (with_reducible refine (wait_Wait_Fail.calls kj46 x157000_46 x157001_46 x157002_46 x157003_46 x10_2 t163 t164 t165 t166 _ A53.out).mono ?_); rintro e w58 ⟨rfl, hb⟩; refine ⟨_, rfl, ?_⟩; have n0_ := Aside0.mk (blk_below (g := gb156) (o := .cells #[.int .i64 x157000_46, .int .i64 x157001_46, .int .i64 x157002_46, .int .i64 x157003_46] 33 (0, 0)) (by (with_reducible repeat (first | refine blk_drewN ?_ _ | refine blk_drew ?_ | refine blk_alloc ?_ _)); exact BK156.out) hb); have n1_ := Aside0.mk (below_step (by repeat (first | (with_reducible first | exact HB.out | apply below_alloc | apply pw_below_drewN | apply below_drew1 | refine below_set ?_ GE156.out) | exact HB.out)) hb); clear BK156; clear HB; have BK156 := n0_; have HB := n1_; clear n0_ n1_; (try clear hb); (try clear hb2); (try clear hk); (try clear hi); have hcz59_0 : w58.cell? ⟨gb156, 0, none⟩ = some (.int .i64 x157000_46) := (blk_cell BK156.out 0).trans rfl; have hcz59_1 : w58.cell? ⟨gb156, 1, none⟩ = some (.int .i64 x157001_46) := (blk_cell BK156.out 1).trans rfl; have hcz59_2 : w58.cell? ⟨gb156, 2, none⟩ = some (.int .i64 x157002_46) := (blk_cell BK156.out 2).trans rfl; have hcz59_3 : w58.cell? ⟨gb156, 3, none⟩ = some (.int .i64 x157003_46) := (blk_cell BK156.out 3).trans rfl; have hfz59_0 := blk_frozen BK156.out 0; have hfz59_1 := blk_frozen BK156.out 1; have hfz59_2 := blk_frozen BK156.out 2; have hfz59_3 := blk_frozen BK156.out 3) | (go_at_call 15; (with_reducible refine (wait_Wait_Due.calls t163 t164 t165 t166 x10_2 true _ A55.out).mono ?_); rintro e w60 ⟨rfl, hb⟩; have n0_ := Aside0.mk (blk_below (g := gb156) (o := .cells #[.int .i64 t163, .int .i64 t164, .int .i64 t165, .int .i64 t166] 33 (0, 0)) (by (with_reducible repeat (first | refine blk_drewN ?_ _ | refine blk_drew ?_ | refine blk_alloc ?_ _)); refine blk_put (cs := #[.int .i64 t163, .int .i64 t164, .int .i64 t165, .int .i64 x157003_46]) ?_ 3 _ rfl; (with_reducible repeat (first | refine blk_drewN ?_ _ | refine blk_drew ?_ | refine blk_alloc ?_ _)); refine blk_put (cs := #[.int .i64 t163, .int .i64 t164, .int .i64 x157002_46, .int .i64 x157003_46]) ?_ 2 _ rfl; (with_reducible repeat (first | refine blk_drewN ?_ _ | refine blk_drew ?_ | refine blk_alloc ?_ _)); refine blk_put (cs := #[.int .i64 t163, .int .i64 x157001_46, .int .i64 x157002_46, .int .i64 x157003_46]) ?_ 1 _ rfl; (with_reducible repeat (first | refine blk_drewN ?_ _ | refine blk_drew ?_ | refine blk_alloc ?_ _)); refine blk_put (cs := #[.int .i64 x157000_46, .int .i64 x157001_46, .int .i64 x157002_46, .int .i64 x157003_46]) ?_ 0 _ rfl; (with_reducible repeat (first | refine blk_drewN ?_ _ | refine blk_drew ?_ | refine blk_alloc ?_ _)); exact BK156.out) hb); have n1_ := Aside0.mk (below_step (by repeat (first | (with_reducible first | exact HB.out | apply below_alloc | apply pw_below_drewN | apply below_drew1 | refine below_set ?_ GE156.out) | exact HB.out)) hb); clear BK156; clear HB; have BK156 := n0_; have HB := n1_; clear n0_ n1_; (try clear hb); (try clear hb2); (try clear hk); (try clear hi)))
                            go_ret
                            exact ⟨by first | rfl | (simp [errW_none, errW_some] <;> rfl) | (simp [*, errW_none, errW_some] <;> rfl), by repeat (first | (with_reducible first | exact HB.out | apply below_alloc | apply pw_below_drewN | apply below_drew1 | refine below_set ?_ GE156.out) | exact HB.out)⟩
                          · replace c56 := Bool.eq_false_iff.mpr c56
                            subst c56
                            have H1 : (pontoonlaw21_WaitDoubles.l0 kj46 a0 a1 a2 a3 t166 (mn (wrap64 (2 * x11_46)) a1) (wrap64 (x12_2 + 1)) t163 t164 t165 t166) = some r := by rw [if_neg (show ¬ (false = true) by decide)] at H; exact H
                            clear H
                            have H := H1
                            clear H1
                            obtain ⟨ji61, hji61⟩ : ∃ j_ : Int, (mn (wrap64 (2 * x11_46)) a1) = j_ := ⟨_, rfl⟩
                            replace H : (pontoonlaw21_WaitDoubles.l0 kj46 a0 a1 a2 a3 t166 ji61 (wrap64 (x12_2 + 1)) t163 t164 t165 t166) = some r := by first | (rw [hji61] at H; exact H) | (simp only [hji61] at H ⊢; exact H)
                            (try rw [hji61] at A53)
                            (try rw [hji61] at A55)
                            have hji61_ : (if a1 < (wrap64 (2 * x11_46)) then a1 else (wrap64 (2 * x11_46))) = ji61 := hji61
                            have H' := Aside0.mk H
                            clear H
                            have hcz62_0 : wc.cell? ⟨gb156, 0, none⟩ = some (.int .i64 x157000_46) := (blk_cell BK156.out 0).trans rfl
                            have hcz62_1 : wc.cell? ⟨gb156, 1, none⟩ = some (.int .i64 x157001_46) := (blk_cell BK156.out 1).trans rfl
                            have hcz62_2 : wc.cell? ⟨gb156, 2, none⟩ = some (.int .i64 x157002_46) := (blk_cell BK156.out 2).trans rfl
                            have hcz62_3 : wc.cell? ⟨gb156, 3, none⟩ = some (.int .i64 x157003_46) := (blk_cell BK156.out 3).trans rfl
                            have hfz62_0 := blk_frozen BK156.out 0
                            have hfz62_1 := blk_frozen BK156.out 1
                            have hfz62_2 := blk_frozen BK156.out 2
                            have hfz62_3 := blk_frozen BK156.out 3
                            go_wp2_with (first | ((with_reducible refine gate_callee (f := 14) rfl ?_); refine goesL_ (some 82) rfl rfl Try.func14 (by kernel_rfl) rfl #[.agg #[.int .i64 x157000_46, .int .i64 x157001_46, .int .i64 x157002_46, .int .i64 x157003_46], .int .i64 x10_2] rfl (by (try simp only [List.map_toArray, List.map_cons, List.map_nil]); first | done | rfl | (simp only [List.length_drop, List.length_take]; rfl)) ?_; (with_reducible refine (wait_Wait_Fail.calls kj46 x157000_46 x157001_46 x157002_46 x157003_46 x10_2 t163 t164 t165 t166 _ A53.out).mono ?_); rintro e w63 ⟨rfl, hb⟩; refine ⟨_, rfl, ?_⟩; have n0_ := Aside0.mk (blk_below (g := gb156) (o := .cells #[.int .i64 x157000_46, .int .i64 x157001_46, .int .i64 x157002_46, .int .i64 x157003_46] 33 (0, 0)) (by (with_reducible repeat (first | refine blk_drewN ?_ _ | refine blk_drew ?_ | refine blk_alloc ?_ _)); exact BK156.out) hb); have n1_ := Aside0.mk (below_step (by repeat (first | (with_reducible first | exact HB.out | apply below_alloc | apply pw_below_drewN | apply below_drew1 | refine below_set ?_ GE156.out) | exact HB.out)) hb); clear BK156; clear HB; have BK156 := n0_; have HB := n1_; clear n0_ n1_; (try clear hb); (try clear hb2); (try clear hk); (try clear hi); have hcz64_0 : w63.cell? ⟨gb156, 0, none⟩ = some (.int .i64 x157000_46) := (blk_cell BK156.out 0).trans rfl; have hcz64_1 : w63.cell? ⟨gb156, 1, none⟩ = some (.int .i64 x157001_46) := (blk_cell BK156.out 1).trans rfl; have hcz64_2 : w63.cell? ⟨gb156, 2, none⟩ = some (.int .i64 x157002_46) := (blk_cell BK156.out 2).trans rfl; have hcz64_3 : w63.cell? ⟨gb156, 3, none⟩ = some (.int .i64 x157003_46) := (blk_cell BK156.out 3).trans rfl; have hfz64_0 := blk_frozen BK156.out 0; have hfz64_1 := blk_frozen BK156.out 1; have hfz64_2 := blk_frozen BK156.out 2; have hfz64_3 := blk_frozen BK156.out 3) | (go_at_call 15; (with_reducible refine (wait_Wait_Due.calls t163 t164 t165 t166 x10_2 false _ A55.out).mono ?_); rintro e w65 ⟨rfl, hb⟩; have n0_ := Aside0.mk (blk_below (g := gb156) (o := .cells #[.int .i64 t163, .int .i64 t164, .int .i64 t165, .int .i64 t166] 33 (0, 0)) (by (with_reducible repeat (first | refine blk_drewN ?_ _ | refine blk_drew ?_ | refine blk_alloc ?_ _)); refine blk_put (cs := #[.int .i64 t163, .int .i64 t164, .int .i64 t165, .int .i64 x157003_46]) ?_ 3 _ rfl; (with_reducible repeat (first | refine blk_drewN ?_ _ | refine blk_drew ?_ | refine blk_alloc ?_ _)); refine blk_put (cs := #[.int .i64 t163, .int .i64 t164, .int .i64 x157002_46, .int .i64 x157003_46]) ?_ 2 _ rfl; (with_reducible repeat (first | refine blk_drewN ?_ _ | refine blk_drew ?_ | refine blk_alloc ?_ _)); refine blk_put (cs := #[.int .i64 t163, .int .i64 x157001_46, .int .i64 x157002_46, .int .i64 x157003_46]) ?_ 1 _ rfl; (with_reducible repeat (first | refine blk_drewN ?_ _ | refine blk_drew ?_ | refine blk_alloc ?_ _)); refine blk_put (cs := #[.int .i64 x157000_46, .int .i64 x157001_46, .int .i64 x157002_46, .int .i64 x157003_46]) ?_ 0 _ rfl; (with_reducible repeat (first | refine blk_drewN ?_ _ | refine blk_drew ?_ | refine blk_alloc ?_ _)); exact BK156.out) hb); have n1_ := Aside0.mk (below_step (by repeat (first | (with_reducible first | exact HB.out | apply below_alloc | apply pw_below_drewN | apply below_drew1 | refine below_set ?_ GE156.out) | exact HB.out)) hb); clear BK156; clear HB; have BK156 := n0_; have HB := n1_; clear n0_ n1_; (try clear hb); (try clear hb2); (try clear hk); (try clear hi); have hcz66_0 : w65.cell? ⟨gb156, 0, none⟩ = some (.int .i64 t163) := (blk_cell BK156.out 0).trans rfl; have hcz66_1 : w65.cell? ⟨gb156, 1, none⟩ = some (.int .i64 t164) := (blk_cell BK156.out 1).trans rfl; have hcz66_2 : w65.cell? ⟨gb156, 2, none⟩ = some (.int .i64 t165) := (blk_cell BK156.out 2).trans rfl; have hcz66_3 : w65.cell? ⟨gb156, 3, none⟩ = some (.int .i64 t166) := (blk_cell BK156.out 3).trans rfl; have hfz66_0 := blk_frozen BK156.out 0; have hfz66_1 := blk_frozen BK156.out 1; have hfz66_2 := blk_frozen BK156.out 2; have hfz66_3 := blk_frozen BK156.out 3))
                            go_roundg kj46
                            case measure => have := HJ4.out; have := HK2.out; have := HJ21.out; have := HJ46.out; omega
                            case rel => exact ⟨(t166), (ji61), (wrap64 (x12_2 + 1)), (t163), (t164), (t165), (t166), (by first | rfl | (simp; done) | (simp [*]; done)), (by first | rfl | (simp; done) | (simp only [← hji61] <;> (first | rfl | simp)) | (simp [*]; done)), (by first | rfl | (simp; done) | (simp [*]; done)), H', ⟨by have := HJ4.out; have := HK2.out; have := HJ21.out; have := HJ46.out; omega⟩, ⟨by (with_reducible repeat (first | refine blk_drewN ?_ _ | refine blk_drew ?_ | refine blk_alloc ?_ _)); exact BK156.out⟩, ⟨by repeat (first | (with_reducible first | exact HB.out | apply below_alloc | apply pw_below_drewN | apply below_drew1 | refine below_set ?_ GE156.out) | exact HB.out)⟩⟩
                        · rw [if_neg c54] at H
                          have c54b0 : (t166 == (wrap64 (x10_2 + x11_46))) = false := beq_eq_false_iff_ne.mpr c54
                          have c54b1 : (t166 != (wrap64 (x10_2 + x11_46))) = true := bne_iff_ne.mpr c54
                          obtain rfl := Option.some.inj H
                          have hcz67_0 : wc.cell? ⟨gb156, 0, none⟩ = some (.int .i64 x157000_46) := (blk_cell BK156.out 0).trans rfl
                          have hcz67_1 : wc.cell? ⟨gb156, 1, none⟩ = some (.int .i64 x157001_46) := (blk_cell BK156.out 1).trans rfl
                          have hcz67_2 : wc.cell? ⟨gb156, 2, none⟩ = some (.int .i64 x157002_46) := (blk_cell BK156.out 2).trans rfl
                          have hcz67_3 : wc.cell? ⟨gb156, 3, none⟩ = some (.int .i64 x157003_46) := (blk_cell BK156.out 3).trans rfl
                          have hfz67_0 := blk_frozen BK156.out 0
                          have hfz67_1 := blk_frozen BK156.out 1
                          have hfz67_2 := blk_frozen BK156.out 2
                          have hfz67_3 := blk_frozen BK156.out 3
                          go_wp2_with (first | ((with_reducible refine gate_callee (f := 14) rfl ?_); refine goesL_ (some 82) rfl rfl Try.func14 (by kernel_rfl) rfl #[.agg #[.int .i64 x157000_46, .int .i64 x157001_46, .int .i64 x157002_46, .int .i64 x157003_46], .int .i64 x10_2] rfl (by (try simp only [List.map_toArray, List.map_cons, List.map_nil]); first | done | rfl | (simp only [List.length_drop, List.length_take]; rfl)) ?_; (with_reducible refine (wait_Wait_Fail.calls kj46 x157000_46 x157001_46 x157002_46 x157003_46 x10_2 t163 t164 t165 t166 _ A53.out).mono ?_); rintro e w68 ⟨rfl, hb⟩; refine ⟨_, rfl, ?_⟩; have n0_ := Aside0.mk (blk_below (g := gb156) (o := .cells #[.int .i64 x157000_46, .int .i64 x157001_46, .int .i64 x157002_46, .int .i64 x157003_46] 33 (0, 0)) (by (with_reducible repeat (first | refine blk_drewN ?_ _ | refine blk_drew ?_ | refine blk_alloc ?_ _)); exact BK156.out) hb); have n1_ := Aside0.mk (below_step (by repeat (first | (with_reducible first | exact HB.out | apply below_alloc | apply pw_below_drewN | apply below_drew1 | refine below_set ?_ GE156.out) | exact HB.out)) hb); clear BK156; clear HB; have BK156 := n0_; have HB := n1_; clear n0_ n1_; (try clear hb); (try clear hb2); (try clear hk); (try clear hi); have hcz69_0 : w68.cell? ⟨gb156, 0, none⟩ = some (.int .i64 x157000_46) := (blk_cell BK156.out 0).trans rfl; have hcz69_1 : w68.cell? ⟨gb156, 1, none⟩ = some (.int .i64 x157001_46) := (blk_cell BK156.out 1).trans rfl; have hcz69_2 : w68.cell? ⟨gb156, 2, none⟩ = some (.int .i64 x157002_46) := (blk_cell BK156.out 2).trans rfl; have hcz69_3 : w68.cell? ⟨gb156, 3, none⟩ = some (.int .i64 x157003_46) := (blk_cell BK156.out 3).trans rfl; have hfz69_0 := blk_frozen BK156.out 0; have hfz69_1 := blk_frozen BK156.out 1; have hfz69_2 := blk_frozen BK156.out 2; have hfz69_3 := blk_frozen BK156.out 3))
                          go_ret
                          exact ⟨by first | rfl | (simp [errW_none, errW_some] <;> rfl) | (simp [*, errW_none, errW_some] <;> rfl), by repeat (first | (with_reducible first | exact HB.out | apply below_alloc | apply pw_below_drewN | apply below_drew1 | refine below_set ?_ GE156.out) | exact HB.out)⟩
            · rw [if_neg c21] at H
              have c21b0 : decide (x12_2 < a2) = false := decide_eq_false c21
              clear c21
              obtain rfl := Option.some.inj H
              go_wp2
              go_ret
              exact ⟨by first | rfl | (simp [errW_none, errW_some] <;> rfl) | (simp [*, errW_none, errW_some] <;> rfl), by repeat (first | (with_reducible first | exact HB.out | apply below_alloc | apply pw_below_drewN | apply below_drew1 | refine below_set ?_ GE156.out) | exact HB.out)⟩

/-- THE ONE PURE STATEMENT of pontoonlaw21_WaitDoubles: yours. -/
def pontoonlaw21_WaitDoubles.Pure : Prop := ∀ (a0 : Int) (a1 : Int) (a2 : Int) (a3 : Int), (Lit.int .i64 a0).wf = true → (Lit.int .i64 a1).wf = true → (Lit.int .i64 a2).wf = true → (Lit.int .i64 a3).wf = true → ∃ k, pontoonlaw21_WaitDoubles.f k a0 a1 a2 a3 = some true
theorem pontoonlaw21_WaitDoubles.walk (P : pontoonlaw21_WaitDoubles.Pure) (a0 : Int) (a1 : Int) (a2 : Int) (a3 : Int) (w : World) (w0 : (Lit.int .i64 a0).wf = true) (w1 : (Lit.int .i64 a1).wf = true) (w2 : (Lit.int .i64 a2).wf = true) (w3 : (Lit.int .i64 a3).wf = true) :
    Calls Try.prog 6 #[.int .i64 a0, .int .i64 a1, .int .i64 a2, .int .i64 a3] w fun e w' => e = .returned (.bool true) ∧ Below w.heap.size w w' := by
  obtain ⟨k, h⟩ := P a0 a1 a2 a3 w0 w1 w2 w3
  refine (pontoonlaw21_WaitDoubles.calls k a0 a1 a2 a3 true w h).mono ?_
  rintro e w' ⟨rfl, hd⟩
  exact ⟨rfl, hd⟩

end Go.Proofs.Ytgilccdajlpeaaa.PWaitDoubles
