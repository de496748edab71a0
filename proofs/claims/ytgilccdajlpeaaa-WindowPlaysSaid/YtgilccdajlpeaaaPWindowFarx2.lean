-- PRINTED BY print.sh 35421559b90ae4d0a3588c463048766b98c2df88dd9212a6774a882060cdf62d: not written by this session
import Derived.Test.YtgilccdajlpeaaaPWindowFarx0
import Derived.Test.YtgilccdajlpeaaaPWindowFarx1
namespace Go.Proofs.Ytgilccdajlpeaaa.PWindowFar
open Go.RowKit Go.Proofs.YtgilccdajlpeaaaW.PrintWords Go.Proofs.YtgilccdajlpeaaaW.PrintLast Go.Proofs.YtgilccdajlpeaaaW.PrintMore
attribute [local go_sem] max2_int min2_int max_two min_two max_three min_three max_four min_four   -- for this text's walks alone
set_option linter.unusedVariables false
set_option linter.unusedSimpArgs false

/-! ### pontoonlaw6_WindowFar: function 9 -/
mutual
def pontoonlaw6_WindowFar.j0 : Nat → Int → Int → Int → Bool → Option (Bool)
  | 0, _, _, _, _ => none
  | k + 1, x0, x1, x2, x38 => if x38 = true then ((pontoonlaw6_alive.f k).bind fun t117 => (some t117)) else ((window_Window_Mark.f k 0 0 x0).bind fun bt118 => ((window_Window_Mark.f k bt118.1 bt118.2.1 x1).bind fun bt122 => (if bt118.2.2 = true then (if bt122.2.2 = true then (if bt122.1 = x1 then ((window_Window_Fresh.f k bt122.1 bt122.2.1 x1).bind fun t126 => (if t126 = true then (pontoonlaw6_WindowFar.j1 k x0 x1 x2 true bt122.1 bt122.2.1) else ((window_Window_Fresh.f k bt122.1 bt122.2.1 x0).bind fun t127 => (pontoonlaw6_WindowFar.j1 k x0 x1 x2 t127 bt122.1 bt122.2.1)))) else (pontoonlaw6_WindowFar.j1 k x0 x1 x2 true bt122.1 bt122.2.1)) else (pontoonlaw6_WindowFar.j1 k x0 x1 x2 true bt122.1 bt122.2.1)) else (pontoonlaw6_WindowFar.j1 k x0 x1 x2 true bt122.1 bt122.2.1))))
def pontoonlaw6_WindowFar.j1 : Nat → Int → Int → Int → Bool → Int → Int → Option (Bool)
  | 0, _, _, _, _, _, _ => none
  | k + 1, x0, x1, x2, x73, x126000, x126001 => if x73 = true then (some false) else ((window_Window_Fresh.f k x126000 x126001 (wrap64 (x1 - x2))).bind fun t128 => (if x2 ≥ 1 then (if x2 < 64 then (if (wrap64 (x1 - x2)) ≥ 1 then (if (t128 == ((wrap64 (x1 - x2)) != x0)) = true then ((window_Window_Fresh.f k x126000 x126001 (wrap64 ((mn x1 4611686018427387903) + 1))).bind fun t129 => (if (t129 == (decide (x1 < 4611686018427387904))) = true then ((window_Window_Old.f x126000 x126001).bind fun t130 => (some (t130 == (mx (wrap64 (x1 - 64)) 0)))) else (some false))) else (some false)) else (if (t128 == false) = true then ((window_Window_Fresh.f k x126000 x126001 (wrap64 ((mn x1 4611686018427387903) + 1))).bind fun t131 => (if (t131 == (decide (x1 < 4611686018427387904))) = true then ((window_Window_Old.f x126000 x126001).bind fun t132 => (some (t132 == (mx (wrap64 (x1 - 64)) 0)))) else (some false))) else (some false))) else (if (t128 == false) = true then ((window_Window_Fresh.f k x126000 x126001 (wrap64 ((mn x1 4611686018427387903) + 1))).bind fun t133 => (if (t133 == (decide (x1 < 4611686018427387904))) = true then ((window_Window_Old.f x126000 x126001).bind fun t134 => (some (t134 == (mx (wrap64 (x1 - 64)) 0)))) else (some false))) else (some false))) else (if (t128 == false) = true then ((window_Window_Fresh.f k x126000 x126001 (wrap64 ((mn x1 4611686018427387903) + 1))).bind fun t135 => (if (t135 == (decide (x1 < 4611686018427387904))) = true then ((window_Window_Old.f x126000 x126001).bind fun t136 => (some (t136 == (mx (wrap64 (x1 - 64)) 0)))) else (some false))) else (some false))))
end
def pontoonlaw6_WindowFar.f (k : Nat) (a0 : Int) (a1 : Int) (a2 : Int) : Option (Bool) := if a0 < 1 then (pontoonlaw6_WindowFar.j0 k a0 a1 a2 true) else (if a0 > 2305843009213693952 then (pontoonlaw6_WindowFar.j0 k a0 a1 a2 true) else (if a1 ≤ a0 then (pontoonlaw6_WindowFar.j0 k a0 a1 a2 true) else (if a1 > 4611686018427387904 then (pontoonlaw6_WindowFar.j0 k a0 a1 a2 true) else (if a2 < 0 then (pontoonlaw6_WindowFar.j0 k a0 a1 a2 true) else (if a2 > 200 then (pontoonlaw6_WindowFar.j0 k a0 a1 a2 true) else ((pontoonlaw6_alive.f k).bind fun t116 => (pontoonlaw6_WindowFar.j0 k a0 a1 a2 (!t116))))))))
theorem pontoonlaw6_WindowFar.mono_l : ∀ k, (∀ y0 y1 y2 y3, LeO (pontoonlaw6_WindowFar.j0 k y0 y1 y2 y3) (pontoonlaw6_WindowFar.j0 (k + 1) y0 y1 y2 y3)) ∧ (∀ y0 y1 y2 y3 y4 y5, LeO (pontoonlaw6_WindowFar.j1 k y0 y1 y2 y3 y4 y5) (pontoonlaw6_WindowFar.j1 (k + 1) y0 y1 y2 y3 y4 y5))
  | 0 => ⟨fun _ _ _ _ r h => by simp [pontoonlaw6_WindowFar.j0] at h, fun _ _ _ _ _ _ r h => by simp [pontoonlaw6_WindowFar.j1] at h⟩
  | k + 1 => by
    obtain ⟨ih0, ih1⟩ := pontoonlaw6_WindowFar.mono_l k
    refine ⟨?_, ?_⟩
    · intro y0 y1 y2 y3
      unfold pontoonlaw6_WindowFar.j0
      repeat' first
      | (with_reducible exact ih0 _ _ _ _)
      | (with_reducible exact ih1 _ _ _ _ _ _)
      | (with_reducible exact pontoonlaw6_alive.mono _)
      | (with_reducible exact window_Window_Fresh.mono _ _ _ _)
      | (with_reducible exact window_Window_Mark.mono _ _ _ _)
      | (with_reducible exact LeO.refl _)
      | (with_reducible exact LeO.none _)
      | (with_reducible refine LeO.ite ?_ ?_)
      | (with_reducible refine LeO.bind ?_ (fun _ => ?_))
      | exact ih0 _ _ _ _
      | exact ih1 _ _ _ _ _ _
      | exact pontoonlaw6_alive.mono _
      | exact window_Window_Fresh.mono _ _ _ _
      | exact window_Window_Mark.mono _ _ _ _
      | exact LeO.none _
      | refine LeO.ite ?_ ?_
      | refine LeO.bind ?_ (fun _ => ?_)
    · intro y0 y1 y2 y3 y4 y5
      unfold pontoonlaw6_WindowFar.j1
      repeat' first
      | (with_reducible exact ih0 _ _ _ _)
      | (with_reducible exact ih1 _ _ _ _ _ _)
      | (with_reducible exact pontoonlaw6_alive.mono _)
      | (with_reducible exact window_Window_Fresh.mono _ _ _ _)
      | (with_reducible exact window_Window_Mark.mono _ _ _ _)
      | (with_reducible exact LeO.refl _)
      | (with_reducible exact LeO.none _)
      | (with_reducible refine LeO.ite ?_ ?_)
      | (with_reducible refine LeO.bind ?_ (fun _ => ?_))
      | exact ih0 _ _ _ _
      | exact ih1 _ _ _ _ _ _
      | exact pontoonlaw6_alive.mono _
      | exact window_Window_Fresh.mono _ _ _ _
      | exact window_Window_Mark.mono _ _ _ _
      | exact LeO.none _
      | refine LeO.ite ?_ ?_
      | refine LeO.bind ?_ (fun _ => ?_)
theorem pontoonlaw6_WindowFar.mono : ∀ a0 a1 a2 k, LeO (pontoonlaw6_WindowFar.f k a0 a1 a2) (pontoonlaw6_WindowFar.f (k + 1) a0 a1 a2) := by
  intro a0 a1 a2 k
  obtain ⟨ih0, ih1⟩ := pontoonlaw6_WindowFar.mono_l k
  unfold pontoonlaw6_WindowFar.f
  repeat' first
      | (with_reducible exact ih0 _ _ _ _)
      | (with_reducible exact ih1 _ _ _ _ _ _)
      | (with_reducible exact pontoonlaw6_alive.mono _)
      | (with_reducible exact window_Window_Fresh.mono _ _ _ _)
      | (with_reducible exact window_Window_Mark.mono _ _ _ _)
      | (with_reducible exact LeO.refl _)
      | (with_reducible exact LeO.none _)
      | (with_reducible refine LeO.ite ?_ ?_)
      | (with_reducible refine LeO.bind ?_ (fun _ => ?_))
      | exact ih0 _ _ _ _
      | exact ih1 _ _ _ _ _ _
      | exact pontoonlaw6_alive.mono _
      | exact window_Window_Fresh.mono _ _ _ _
      | exact window_Window_Mark.mono _ _ _ _
      | exact LeO.none _
      | refine LeO.ite ?_ ?_
      | refine LeO.bind ?_ (fun _ => ?_)
set_option maxHeartbeats 8000000 in
set_option maxRecDepth 100000 in
theorem pontoonlaw6_WindowFar.calls (k : Nat) (a0 : Int) (a1 : Int) (a2 : Int) (r : Bool) (w : World) (h : pontoonlaw6_WindowFar.f k a0 a1 a2 = some r) :
    Calls Try.prog 9 #[.int .i64 a0, .int .i64 a1, .int .i64 a2] w fun e w' => e = .returned (.bool r) ∧ Below w.heap.size w w' := by
  have hu26 := Try.underlying26
  have HB := Aside0.mk (Below.refl w.heap.size w)
  have H : (if a0 < 1 then (pontoonlaw6_WindowFar.j0 k a0 a1 a2 true) else (if a0 > 2305843009213693952 then (pontoonlaw6_WindowFar.j0 k a0 a1 a2 true) else (if a1 ≤ a0 then (pontoonlaw6_WindowFar.j0 k a0 a1 a2 true) else (if a1 > 4611686018427387904 then (pontoonlaw6_WindowFar.j0 k a0 a1 a2 true) else (if a2 < 0 then (pontoonlaw6_WindowFar.j0 k a0 a1 a2 true) else (if a2 > 200 then (pontoonlaw6_WindowFar.j0 k a0 a1 a2 true) else ((pontoonlaw6_alive.f k).bind fun t116 => (pontoonlaw6_WindowFar.j0 k a0 a1 a2 (!t116))))))))) = some r := h
  clear h
  have HC4 := Aside0.mk H
  clear H
  go_enter Try.func9, Try.ntmps9
  go_upto_region 1 with (fail)
  go_cut [38] (fun v38 wc => ∃ (kq : Nat) (x38_3 : Bool), v38 = .bool x38_3 ∧ Aside0 (pontoonlaw6_WindowFar.j0 kq a0 a1 a2 x38_3 = some r) ∧ Aside0 (kq ≤ k) ∧ Aside0 (Below w.heap.size w wc))
  case first =>
    have H := HC4.out
    clear HC4
    by_cases c5 : a0 < 1
    · rw [if_pos c5] at H
      have c5b0 : decide (a0 < 1) = true := decide_eq_true c5
      clear c5
      (first | rw [c5b0] | (simp only [i64_w, i32_w]; rw [c5b0]) | skip)
      have H' := Aside0.mk H
      clear H
      go_wp2
      go_meet
      case rel => exact ⟨_, (true), (by first | rfl | (simp; done) | (simp [*]; done)), H', ⟨by first | omega | exact Nat.le_refl _⟩, ⟨by repeat (first | (with_reducible first | exact HB.out | apply below_alloc | apply pw_below_drewN | apply below_drew1) | exact HB.out)⟩⟩
    · rw [if_neg c5] at H
      have c5b0 : decide (a0 < 1) = false := decide_eq_false c5
      clear c5
      (first | rw [c5b0] | (simp only [i64_w, i32_w]; rw [c5b0]) | skip)
      by_cases c6 : a0 > 2305843009213693952
      · rw [if_pos c6] at H
        have c6b0 : decide (2305843009213693952 < a0) = true := decide_eq_true c6
        clear c6
        have H' := Aside0.mk H
        clear H
        go_wp2
        go_meet
        case rel => exact ⟨_, (true), (by first | rfl | (simp; done) | (simp [*]; done)), H', ⟨by first | omega | exact Nat.le_refl _⟩, ⟨by repeat (first | (with_reducible first | exact HB.out | apply below_alloc | apply pw_below_drewN | apply below_drew1) | exact HB.out)⟩⟩
      · rw [if_neg c6] at H
        have c6b0 : decide (2305843009213693952 < a0) = false := decide_eq_false c6
        clear c6
        by_cases c7 : a1 ≤ a0
        · rw [if_pos c7] at H
          have c7b0 : decide (a1 ≤ a0) = true := decide_eq_true c7
          clear c7
          have H' := Aside0.mk H
          clear H
          go_wp2
          go_meet
          case rel => exact ⟨_, (true), (by first | rfl | (simp; done) | (simp [*]; done)), H', ⟨by first | omega | exact Nat.le_refl _⟩, ⟨by repeat (first | (with_reducible first | exact HB.out | apply below_alloc | apply pw_below_drewN | apply below_drew1) | exact HB.out)⟩⟩
        · rw [if_neg c7] at H
          have c7b0 : decide (a1 ≤ a0) = false := decide_eq_false c7
          clear c7
          by_cases c8 : a1 > 4611686018427387904
          · rw [if_pos c8] at H
            have c8b0 : decide (4611686018427387904 < a1) = true := decide_eq_true c8
            clear c8
            have H' := Aside0.mk H
            clear H
            go_wp2
            go_meet
            case rel => exact ⟨_, (true), (by first | rfl | (simp; done) | (simp [*]; done)), H', ⟨by first | omega | exact Nat.le_refl _⟩, ⟨by repeat (first | (with_reducible first | exact HB.out | apply below_alloc | apply pw_below_drewN | apply below_drew1) | exact HB.out)⟩⟩
          · rw [if_neg c8] at H
            have c8b0 : decide (4611686018427387904 < a1) = false := decide_eq_false c8
            clear c8
            by_cases c9 : a2 < 0
            · rw [if_pos c9] at H
              have c9b0 : decide (a2 < 0) = true := decide_eq_true c9
              clear c9
              have H' := Aside0.mk H
              clear H
              go_wp2
              go_meet
              case rel => exact ⟨_, (true), (by first | rfl | (simp; done) | (simp [*]; done)), H', ⟨by first | omega | exact Nat.le_refl _⟩, ⟨by repeat (first | (with_reducible first | exact HB.out | apply below_alloc | apply pw_below_drewN | apply below_drew1) | exact HB.out)⟩⟩
            · rw [if_neg c9] at H
              have c9b0 : decide (a2 < 0) = false := decide_eq_false c9
              clear c9
              by_cases c10 : a2 > 200
              · rw [if_pos c10] at H
                have c10b0 : decide (200 < a2) = true := decide_eq_true c10
                clear c10
                have H' := Aside0.mk H
                clear H
                go_wp2
                go_meet
                case rel => exact ⟨_, (true), (by first | rfl | (simp; done) | (simp [*]; done)), H', ⟨by first | omega | exact Nat.le_refl _⟩, ⟨by repeat (first | (with_reducible first | exact HB.out | apply below_alloc | apply pw_below_drewN | apply below_drew1) | exact HB.out)⟩⟩
              · rw [if_neg c10] at H
                have c10b0 : decide (200 < a2) = false := decide_eq_false c10
                clear c10
                replace H := Option.bind_eq_some_iff.mp H
                obtain ⟨t116, A110, H⟩ := H
                replace H : (pontoonlaw6_WindowFar.j0 k a0 a1 a2 (!t116)) = some r := H
                have A11 := Aside0.mk A110
                clear A110
                have H' := Aside0.mk H
                clear H
                go_wp2_with (first | (go_at_call 10; (with_reducible refine (pontoonlaw6_alive.calls k  t116 _ A11.out).mono ?_); rintro e w12 ⟨rfl, hb⟩; have n0_ := Aside0.mk (below_step (by repeat (first | (with_reducible first | exact HB.out | apply below_alloc | apply pw_below_drewN | apply below_drew1) | exact HB.out)) hb); clear HB; have HB := n0_; clear n0_; (try clear hb); (try clear hb2); (try clear hk); (try clear hi)))
                go_meet
                case rel => exact ⟨_, (!t116), (by first | rfl | (simp; done) | (simp [*]; done)), H', ⟨by first | omega | exact Nat.le_refl _⟩, ⟨by repeat (first | (with_reducible first | exact HB.out | apply below_alloc | apply pw_below_drewN | apply below_drew1) | exact HB.out)⟩⟩
  case rest =>
    clear HC4
    try clear c1
    try clear p2
    try clear c5
    try clear c5b0
    try clear c6
    try clear c6b0
    try clear c7
    try clear c7b0
    try clear c8
    try clear c8b0
    try clear c9
    try clear c9b0
    try clear c10
    try clear c10b0
    obtain ⟨kq, x38_3, rfl, HA, HJ3, HB⟩ := hcut
    cases kq with
    | zero => exact absurd HA.out (by simp [pontoonlaw6_WindowFar.j0])
    | succ kj3 =>
      have H := HA.out
      clear HA
      simp only [pontoonlaw6_WindowFar.j0] at H
      by_cases c13 : x38_3 = true
      · subst c13
        have H1 : ((pontoonlaw6_alive.f kj3).bind fun t117 => (some t117)) = some r := by rw [if_pos rfl] at H; exact H
        clear H
        have H := H1
        clear H1
        replace H := Option.bind_eq_some_iff.mp H
        obtain ⟨t117, A140, H⟩ := H
        replace H : (some t117) = some r := H
        have A14 := Aside0.mk A140
        clear A140
        obtain rfl := Option.some.inj H
        go_wp2_with (first | ((with_reducible refine gate_callee (f := 10) rfl ?_); refine goesL_ (some 39) rfl rfl Try.func10 (by kernel_rfl) rfl #[] rfl (by (try simp only [List.map_toArray, List.map_cons, List.map_nil]); first | done | rfl | (simp only [List.length_drop, List.length_take]; rfl)) ?_; (with_reducible refine (pontoonlaw6_alive.calls kj3  t117 _ A14.out).mono ?_); rintro e w15 ⟨rfl, hb⟩; refine ⟨_, rfl, ?_⟩; have n0_ := Aside0.mk (below_step (by repeat (first | (with_reducible first | exact HB.out | apply below_alloc | apply pw_below_drewN | apply below_drew1) | exact HB.out)) hb); clear HB; have HB := n0_; clear n0_; (try clear hb); (try clear hb2); (try clear hk); (try clear hi)))
        go_ret
        exact ⟨by first | rfl | (simp [errW_none, errW_some] <;> rfl) | (simp [*, errW_none, errW_some] <;> rfl), by repeat (first | (with_reducible first | exact HB.out | apply below_alloc | apply pw_below_drewN | apply below_drew1) | exact HB.out)⟩
      · replace c13 := Bool.eq_false_iff.mpr c13
        subst c13
        have H1 : ((window_Window_Mark.f kj3 0 0 a0).bind fun bt118 => ((window_Window_Mark.f kj3 bt118.1 bt118.2.1 a1).bind fun bt122 => (if bt118.2.2 = true then (if bt122.2.2 = true then (if bt122.1 = a1 then ((window_Window_Fresh.f kj3 bt122.1 bt122.2.1 a1).bind fun t126 => (if t126 = true then (pontoonlaw6_WindowFar.j1 kj3 a0 a1 a2 true bt122.1 bt122.2.1) else ((window_Window_Fresh.f kj3 bt122.1 bt122.2.1 a0).bind fun t127 => (pontoonlaw6_WindowFar.j1 kj3 a0 a1 a2 t127 bt122.1 bt122.2.1)))) else (pontoonlaw6_WindowFar.j1 kj3 a0 a1 a2 true bt122.1 bt122.2.1)) else (pontoonlaw6_WindowFar.j1 kj3 a0 a1 a2 true bt122.1 bt122.2.1)) else (pontoonlaw6_WindowFar.j1 kj3 a0 a1 a2 true bt122.1 bt122.2.1)))) = some r := by rw [if_neg (show ¬ (false = true) by decide)] at H; exact H
        clear H
        have H := H1
        clear H1
        replace H := Option.bind_eq_some_iff.mp H
        obtain ⟨⟨t118, t119, t120⟩, A160, H⟩ := H
        replace H : ((window_Window_Mark.f kj3 t118 t119 a1).bind fun bt122 => (if t120 = true then (if bt122.2.2 = true then (if bt122.1 = a1 then ((window_Window_Fresh.f kj3 bt122.1 bt122.2.1 a1).bind fun t126 => (if t126 = true then (pontoonlaw6_WindowFar.j1 kj3 a0 a1 a2 true bt122.1 bt122.2.1) else ((window_Window_Fresh.f kj3 bt122.1 bt122.2.1 a0).bind fun t127 => (pontoonlaw6_WindowFar.j1 kj3 a0 a1 a2 t127 bt122.1 bt122.2.1)))) else (pontoonlaw6_WindowFar.j1 kj3 a0 a1 a2 true bt122.1 bt122.2.1)) else (pontoonlaw6_WindowFar.j1 kj3 a0 a1 a2 true bt122.1 bt122.2.1)) else (pontoonlaw6_WindowFar.j1 kj3 a0 a1 a2 true bt122.1 bt122.2.1))) = some r := H
        have A16 := Aside0.mk A160
        clear A160
        replace H := Option.bind_eq_some_iff.mp H
        obtain ⟨⟨t122, t123, t124⟩, A170, H⟩ := H
        replace H : (if t120 = true then (if t124 = true then (if t122 = a1 then ((window_Window_Fresh.f kj3 t122 t123 a1).bind fun t126 => (if t126 = true then (pontoonlaw6_WindowFar.j1 kj3 a0 a1 a2 true t122 t123) else ((window_Window_Fresh.f kj3 t122 t123 a0).bind fun t127 => (pontoonlaw6_WindowFar.j1 kj3 a0 a1 a2 t127 t122 t123)))) else (pontoonlaw6_WindowFar.j1 kj3 a0 a1 a2 true t122 t123)) else (pontoonlaw6_WindowFar.j1 kj3 a0 a1 a2 true t122 t123)) else (pontoonlaw6_WindowFar.j1 kj3 a0 a1 a2 true t122 t123)) = some r := H
        have A17 := Aside0.mk A170
        clear A170
        have HC18 := Aside0.mk H
        clear H
        go_upto_region 5 with (first | ((with_reducible refine gate_callee (f := 11) rfl ?_); refine goesL_ (some 43) rfl rfl Try.func11 (by kernel_rfl) rfl #[.agg #[.int .i64 0, .int .u64 0], .int .i64 a0] rfl (by (try simp only [List.map_toArray, List.map_cons, List.map_nil]); first | done | rfl | (simp only [List.length_drop, List.length_take]; rfl)) ?_; (with_reducible refine (window_Window_Mark.calls kj3 0 0 a0 t118 t119 t120 _ A16.out).mono ?_); rintro e w19 ⟨rfl, hb⟩; refine ⟨_, rfl, ?_⟩; have n0_ := Aside0.mk (below_step (by repeat (first | (with_reducible first | exact HB.out | apply below_alloc | apply pw_below_drewN | apply below_drew1) | exact HB.out)) hb); clear HB; have HB := n0_; clear n0_; (try clear hb); (try clear hb2); (try clear hk); (try clear hi)) | ((with_reducible refine gate_dst (N := 7) rfl ?_); (try (refine gate_guard (by rfl) ?_; dsimp only)); refine box_event ?hg (N := 7) ?hd (cs := #[.int .i64 0, .int .u64 0]) (t := 26) ?hr ?_; (case hd => rfl); (case hg => rfl); (case hr => first | (go_simp; done) | (go_simp; rfl)); intro gb121 hg w20 hbox hb; have n0_ := Aside0.mk (below_step (by repeat (first | (with_reducible first | exact HB.out | apply below_alloc | apply pw_below_drewN | apply below_drew1) | exact HB.out)) hb); have n1_ := Aside0.mk (hbox); have n2_ := Aside0.mk ((by rw [hg]; exact (below_size (by repeat (first | (with_reducible first | exact HB.out | apply below_alloc | apply pw_below_drewN | apply below_drew1) | exact HB.out))) : w.heap.size ≤ gb121)); have n3_ := Aside0.mk ((by rw [hg]; exact (below_size (by repeat (first | (with_reducible first | exact HB.out | apply below_alloc | apply pw_below_drewN | apply below_drew1) | exact HB.out))) : w.heap.size ≤ gb121)); clear HB; have HB := n0_; have BK121 := n1_; have GW121 := n2_; have GE121 := n3_; clear n0_ n1_ n2_ n3_; clear hb hbox hg; have hcz21_0 : w20.cell? ⟨gb121, 0, none⟩ = some (.int .i64 0) := (blk_cell BK121.out 0).trans rfl; have hcz21_1 : w20.cell? ⟨gb121, 1, none⟩ = some (.int .u64 0) := (blk_cell BK121.out 1).trans rfl; have hfz21_0 := blk_frozen BK121.out 0; have hfz21_1 := blk_frozen BK121.out 1) | ((with_reducible refine gate_callee (f := 11) rfl ?_); refine goesL_ (some 49) rfl rfl Try.func11 (by kernel_rfl) rfl #[.agg #[.int .i64 t118, .int .u64 t119], .int .i64 a1] rfl (by (try simp only [List.map_toArray, List.map_cons, List.map_nil]); first | done | rfl | (simp only [List.length_drop, List.length_take]; rfl)) ?_; (with_reducible refine (window_Window_Mark.calls kj3 t118 t119 a1 t122 t123 t124 _ A17.out).mono ?_); rintro e w22 ⟨rfl, hb⟩; refine ⟨_, rfl, ?_⟩; have n0_ := Aside0.mk (blk_below (g := gb121) (o := .cells #[.int .i64 t118, .int .u64 t119] 26 (0, 0)) (by (with_reducible repeat (first | refine blk_drewN ?_ _ | refine blk_drew ?_ | refine blk_alloc ?_ _)); refine blk_put (cs := #[.int .i64 t118, .int .u64 0]) ?_ 1 _ rfl; (with_reducible repeat (first | refine blk_drewN ?_ _ | refine blk_drew ?_ | refine blk_alloc ?_ _)); refine blk_put (cs := #[.int .i64 0, .int .u64 0]) ?_ 0 _ rfl; (with_reducible repeat (first | refine blk_drewN ?_ _ | refine blk_drew ?_ | refine blk_alloc ?_ _)); exact BK121.out) hb); have n1_ := Aside0.mk (below_step (by repeat (first | (with_reducible first | exact HB.out | apply below_alloc | apply pw_below_drewN | apply below_drew1 | refine below_set ?_ GE121.out) | exact HB.out)) hb); clear BK121; clear HB; have BK121 := n0_; have HB := n1_; clear n0_ n1_; (try clear hb); (try clear hb2); (try clear hk); (try clear hi)) | ((with_reducible refine gate_dst (N := 9) rfl ?_); (try (refine gate_guard (by rfl) ?_; dsimp only)); refine box_event ?hg (N := 9) ?hd (cs := #[.int .i64 0, .int .u64 0]) (t := 26) ?hr ?_; (case hd => rfl); (case hg => rfl); (case hr => first | (go_simp; done) | (go_simp; rfl)); intro gb125 hg w23 hbox hb; have n0_ := Aside0.mk (blk_below (g := gb121) (o := .cells #[.int .i64 t118, .int .u64 t119] 26 (0, 0)) (by (with_reducible repeat (first | refine blk_drewN ?_ _ | refine blk_drew ?_ | refine blk_alloc ?_ _)); exact BK121.out) hb); have n1_ := Aside0.mk (below_step (by repeat (first | (with_reducible first | exact HB.out | apply below_alloc | apply pw_below_drewN | apply below_drew1 | refine below_set ?_ GE121.out) | exact HB.out)) hb); have n2_ := Aside0.mk (hbox); have n3_ := Aside0.mk ((by rw [hg]; exact (below_size (by repeat (first | (with_reducible first | exact HB.out | apply below_alloc | apply pw_below_drewN | apply below_drew1 | refine below_set ?_ GE121.out) | exact HB.out))) : w.heap.size ≤ gb125)); have n4_ := Aside0.mk ((by rw [hg]; exact (below_size (by repeat (first | (with_reducible first | exact HB.out | apply below_alloc | apply pw_below_drewN | apply below_drew1 | refine below_set ?_ GE121.out) | exact HB.out))) : w.heap.size ≤ gb125)); have n5_ := Aside0.mk ((by rw [hg]; exact Nat.ne_of_lt (blk_lt (g := gb121) (o := .cells #[.int .i64 t118, .int .u64 t119] 26 (0, 0)) (by (with_reducible repeat (first | refine blk_drewN ?_ _ | refine blk_drew ?_ | refine blk_alloc ?_ _)); exact BK121.out)) : gb121 ≠ gb125)); have n6_ := Aside0.mk ((by rw [hg]; exact Nat.ne_of_gt (blk_lt (g := gb121) (o := .cells #[.int .i64 t118, .int .u64 t119] 26 (0, 0)) (by (with_reducible repeat (first | refine blk_drewN ?_ _ | refine blk_drew ?_ | refine blk_alloc ?_ _)); exact BK121.out)) : gb125 ≠ gb121)); clear BK121; clear HB; have BK121 := n0_; have HB := n1_; have BK125 := n2_; have GW125 := n3_; have GE125 := n4_; have NB121_125 := n5_; have NB125_121 := n6_; clear n0_ n1_ n2_ n3_ n4_ n5_ n6_; clear hb hbox hg; have hnb24 := NB125_121.out; have hnc24 := NB121_125.out; have hcz25_0 : w23.cell? ⟨gb125, 0, none⟩ = some (.int .i64 0) := (blk_cell BK125.out 0).trans rfl; have hcz25_1 : w23.cell? ⟨gb125, 1, none⟩ = some (.int .u64 0) := (blk_cell BK125.out 1).trans rfl; have hfz25_0 := blk_frozen BK125.out 0; have hfz25_1 := blk_frozen BK125.out 1))
        (try simp only [Act.put, List.setIfInBounds_toArray, List.set_cons_zero, List.set_cons_succ])
        go_cut [73] (fun v73 wc => ∃ (kq : Nat) (x73_17 : Bool), v73 = .bool x73_17 ∧ Aside0 (pontoonlaw6_WindowFar.j1 kq a0 a1 a2 x73_17 t122 t123 = some r) ∧ Aside0 (kq ≤ kj3) ∧ Aside0 (wc.heap[gb121]? = some (.cells #[.int .i64 t118, .int .u64 t119] 26 (0, 0))) ∧ Aside0 (wc.heap[gb125]? = some (.cells #[.int .i64 t122, .int .u64 t123] 26 (0, 0))) ∧ Aside0 (Below w.heap.size w wc))
        case first =>
          have H := HC18.out
          clear HC18
          by_cases c26 : t120 = true
          · subst c26
            have H1 : (if t124 = true then (if t122 = a1 then ((window_Window_Fresh.f kj3 t122 t123 a1).bind fun t126 => (if t126 = true then (pontoonlaw6_WindowFar.j1 kj3 a0 a1 a2 true t122 t123) else ((window_Window_Fresh.f kj3 t122 t123 a0).bind fun t127 => (pontoonlaw6_WindowFar.j1 kj3 a0 a1 a2 t127 t122 t123)))) else (pontoonlaw6_WindowFar.j1 kj3 a0 a1 a2 true t122 t123)) else (pontoonlaw6_WindowFar.j1 kj3 a0 a1 a2 true t122 t123)) = some r := by rw [if_pos rfl] at H; exact H
            clear H
            have H := H1
            clear H1
            by_cases c27 : t124 = true
            · subst c27
              have H1 : (if t122 = a1 then ((window_Window_Fresh.f kj3 t122 t123 a1).bind fun t126 => (if t126 = true then (pontoonlaw6_WindowFar.j1 kj3 a0 a1 a2 true t122 t123) else ((window_Window_Fresh.f kj3 t122 t123 a0).bind fun t127 => (pontoonlaw6_WindowFar.j1 kj3 a0 a1 a2 t127 t122 t123)))) else (pontoonlaw6_WindowFar.j1 kj3 a0 a1 a2 true t122 t123)) = some r := by rw [if_pos rfl] at H; exact H
              clear H
              have H := H1
              clear H1
              by_cases c28 : t122 = a1
              · rw [if_pos c28] at H
                have c28b0 : (t122 == a1) = true := beq_iff_eq.mpr c28
                have c28b1 : (t122 != a1) = false := bne_eq_false_iff_eq.mpr c28
                clear c28
                (first | rw [c28b0] | (simp only [i64_w, i32_w]; rw [c28b0]) | skip)
                replace H := Option.bind_eq_some_iff.mp H
                obtain ⟨t126, A290, H⟩ := H
                replace H : (if t126 = true then (pontoonlaw6_WindowFar.j1 kj3 a0 a1 a2 true t122 t123) else ((window_Window_Fresh.f kj3 t122 t123 a0).bind fun t127 => (pontoonlaw6_WindowFar.j1 kj3 a0 a1 a2 t127 t122 t123))) = some r := H
                have A29 := Aside0.mk A290
                clear A290
                by_cases c30 : t126 = true
                · subst c30
                  have H1 : (pontoonlaw6_WindowFar.j1 kj3 a0 a1 a2 true t122 t123) = some r := by rw [if_pos rfl] at H; exact H
                  clear H
                  have H := H1
                  clear H1
                  have H' := Aside0.mk H
                  clear H
                  have hnb31 := NB125_121.out
                  have hnc31 := NB121_125.out
                  have hcz32_0 : w23.cell? ⟨gb125, 0, none⟩ = some (.int .i64 0) := (blk_cell BK125.out 0).trans rfl
                  have hcz32_1 : w23.cell? ⟨gb125, 1, none⟩ = some (.int .u64 0) := (blk_cell BK125.out 1).trans rfl
                  have hfz32_0 := blk_frozen BK125.out 0
                  have hfz32_1 := blk_frozen BK125.out 1
                  go_wp2_with (first | (go_at_call 18; (with_reducible refine (window_Window_Fresh.calls kj3 t122 t123 a1 true _ A29.out).mono ?_); rintro e w33 ⟨rfl, hb⟩; have n0_ := Aside0.mk (blk_below (g := gb121) (o := .cells #[.int .i64 t118, .int .u64 t119] 26 (0, 0)) (by (with_reducible repeat (first | refine blk_drewN ?_ _ | refine blk_drew ?_ | refine blk_alloc ?_ _)); refine blk_far ?_ NB121_125.out _; (with_reducible repeat (first | refine blk_drewN ?_ _ | refine blk_drew ?_ | refine blk_alloc ?_ _)); refine blk_far ?_ NB121_125.out _; (with_reducible repeat (first | refine blk_drewN ?_ _ | refine blk_drew ?_ | refine blk_alloc ?_ _)); exact BK121.out) hb); have n1_ := Aside0.mk (blk_below (g := gb125) (o := .cells #[.int .i64 t122, .int .u64 t123] 26 (0, 0)) (by (with_reducible repeat (first | refine blk_drewN ?_ _ | refine blk_drew ?_ | refine blk_alloc ?_ _)); refine blk_put (cs := #[.int .i64 t122, .int .u64 0]) ?_ 1 _ rfl; (with_reducible repeat (first | refine blk_drewN ?_ _ | refine blk_drew ?_ | refine blk_alloc ?_ _)); refine blk_put (cs := #[.int .i64 0, .int .u64 0]) ?_ 0 _ rfl; (with_reducible repeat (first | refine blk_drewN ?_ _ | refine blk_drew ?_ | refine blk_alloc ?_ _)); exact BK125.out) hb); have n2_ := Aside0.mk (below_step (by repeat (first | (with_reducible first | exact HB.out | apply below_alloc | apply pw_below_drewN | apply below_drew1 | refine below_set ?_ GE121.out | refine below_set ?_ GE125.out) | exact HB.out)) hb); clear BK121; clear BK125; clear HB; have BK121 := n0_; have BK125 := n1_; have HB := n2_; clear n0_ n1_ n2_; (try clear hb); (try clear hb2); (try clear hk); (try clear hi)))
                  go_meet
                  case rel => exact ⟨_, (true), (by first | rfl | (simp; done) | (simp [*]; done)), H', ⟨by have := HJ3.out; first | omega | exact Nat.le_refl _⟩, ⟨by (with_reducible repeat (first | refine blk_drewN ?_ _ | refine blk_drew ?_ | refine blk_alloc ?_ _)); exact BK121.out⟩, ⟨by (with_reducible repeat (first | refine blk_drewN ?_ _ | refine blk_drew ?_ | refine blk_alloc ?_ _)); exact BK125.out⟩, ⟨by repeat (first | (with_reducible first | exact HB.out | apply below_alloc | apply pw_below_drewN | apply below_drew1 | refine below_set ?_ GE121.out | refine below_set ?_ GE125.out) | exact HB.out)⟩⟩
                · replace c30 := Bool.eq_false_iff.mpr c30
                  subst c30
                  have H1 : ((window_Window_Fresh.f kj3 t122 t123 a0).bind fun t127 => (pontoonlaw6_WindowFar.j1 kj3 a0 a1 a2 t127 t122 t123)) = some r := by rw [if_neg (show ¬ (false = true) by decide)] at H; exact H
                  clear H
                  have H := H1
                  clear H1
                  replace H := Option.bind_eq_some_iff.mp H
                  obtain ⟨t127, A340, H⟩ := H
                  replace H : (pontoonlaw6_WindowFar.j1 kj3 a0 a1 a2 t127 t122 t123) = some r := H
                  have A34 := Aside0.mk A340
                  clear A340
                  have H' := Aside0.mk H
                  clear H
                  have hnb35 := NB125_121.out
                  have hnc35 := NB121_125.out
                  have hcz36_0 : w23.cell? ⟨gb125, 0, none⟩ = some (.int .i64 0) := (blk_cell BK125.out 0).trans rfl
                  have hcz36_1 : w23.cell? ⟨gb125, 1, none⟩ = some (.int .u64 0) := (blk_cell BK125.out 1).trans rfl
                  have hfz36_0 := blk_frozen BK125.out 0
                  have hfz36_1 := blk_frozen BK125.out 1
                  go_wp2_with (first | (go_at_call 18; (with_reducible refine (window_Window_Fresh.calls kj3 t122 t123 a1 false _ A29.out).mono ?_); rintro e w37 ⟨rfl, hb⟩; have n0_ := Aside0.mk (blk_below (g := gb121) (o := .cells #[.int .i64 t118, .int .u64 t119] 26 (0, 0)) (by (with_reducible repeat (first | refine blk_drewN ?_ _ | refine blk_drew ?_ | refine blk_alloc ?_ _)); refine blk_far ?_ NB121_125.out _; (with_reducible repeat (first | refine blk_drewN ?_ _ | refine blk_drew ?_ | refine blk_alloc ?_ _)); refine blk_far ?_ NB121_125.out _; (with_reducible repeat (first | refine blk_drewN ?_ _ | refine blk_drew ?_ | refine blk_alloc ?_ _)); exact BK121.out) hb); have n1_ := Aside0.mk (blk_below (g := gb125) (o := .cells #[.int .i64 t122, .int .u64 t123] 26 (0, 0)) (by (with_reducible repeat (first | refine blk_drewN ?_ _ | refine blk_drew ?_ | refine blk_alloc ?_ _)); refine blk_put (cs := #[.int .i64 t122, .int .u64 0]) ?_ 1 _ rfl; (with_reducible repeat (first | refine blk_drewN ?_ _ | refine blk_drew ?_ | refine blk_alloc ?_ _)); refine blk_put (cs := #[.int .i64 0, .int .u64 0]) ?_ 0 _ rfl; (with_reducible repeat (first | refine blk_drewN ?_ _ | refine blk_drew ?_ | refine blk_alloc ?_ _)); exact BK125.out) hb); have n2_ := Aside0.mk (below_step (by repeat (first | (with_reducible first | exact HB.out | apply below_alloc | apply pw_below_drewN | apply below_drew1 | refine below_set ?_ GE121.out | refine below_set ?_ GE125.out) | exact HB.out)) hb); clear BK121; clear BK125; clear HB; have BK121 := n0_; have BK125 := n1_; have HB := n2_; clear n0_ n1_ n2_; (try clear hb); (try clear hb2); (try clear hk); (try clear hi); have hcz38_0 : w37.cell? ⟨gb125, 0, none⟩ = some (.int .i64 t122) := (blk_cell BK125.out 0).trans rfl; have hcz38_1 : w37.cell? ⟨gb125, 1, none⟩ = some (.int .u64 t123) := (blk_cell BK125.out 1).trans rfl; have hfz38_0 := blk_frozen BK125.out 0; have hfz38_1 := blk_frozen BK125.out 1) | (go_at_call 18; (with_reducible refine (window_Window_Fresh.calls kj3 t122 t123 a0 t127 _ A34.out).mono ?_); rintro e w39 ⟨rfl, hb⟩; have n0_ := Aside0.mk (blk_below (g := gb121) (o := .cells #[.int .i64 t118, .int .u64 t119] 26 (0, 0)) (by (with_reducible repeat (first | refine blk_drewN ?_ _ | refine blk_drew ?_ | refine blk_alloc ?_ _)); exact BK121.out) hb); have n1_ := Aside0.mk (blk_below (g := gb125) (o := .cells #[.int .i64 t122, .int .u64 t123] 26 (0, 0)) (by (with_reducible repeat (first | refine blk_drewN ?_ _ | refine blk_drew ?_ | refine blk_alloc ?_ _)); exact BK125.out) hb); have n2_ := Aside0.mk (below_step (by repeat (first | (with_reducible first | exact HB.out | apply below_alloc | apply pw_below_drewN | apply below_drew1 | refine below_set ?_ GE121.out | refine below_set ?_ GE125.out) | exact HB.out)) hb); clear BK121; clear BK125; clear HB; have BK121 := n0_; have BK125 := n1_; have HB := n2_; clear n0_ n1_ n2_; (try clear hb); (try clear hb2); (try clear hk); (try clear hi)))
                  go_meet
                  case rel => exact ⟨_, (t127), (by first | rfl | (simp; done) | (simp [*]; done)), H', ⟨by have := HJ3.out; first | omega | exact Nat.le_refl _⟩, ⟨by (with_reducible repeat (first | refine blk_drewN ?_ _ | refine blk_drew ?_ | refine blk_alloc ?_ _)); exact BK121.out⟩, ⟨by (with_reducible repeat (first | refine blk_drewN ?_ _ | refine blk_drew ?_ | refine blk_alloc ?_ _)); exact BK125.out⟩, ⟨by repeat (first | (with_reducible first | exact HB.out | apply below_alloc | apply pw_below_drewN | apply below_drew1 | refine below_set ?_ GE121.out | refine below_set ?_ GE125.out) | exact HB.out)⟩⟩
              · rw [if_neg c28] at H
                have c28b0 : (t122 == a1) = false := beq_eq_false_iff_ne.mpr c28
                have c28b1 : (t122 != a1) = true := bne_iff_ne.mpr c28
                (first | rw [c28b0] | (simp only [i64_w, i32_w]; rw [c28b0]) | skip)
                have H' := Aside0.mk H
                clear H
                have hnb40 := NB125_121.out
                have hnc40 := NB121_125.out
                have hcz41_0 : w23.cell? ⟨gb125, 0, none⟩ = some (.int .i64 0) := (blk_cell BK125.out 0).trans rfl
                have hcz41_1 : w23.cell? ⟨gb125, 1, none⟩ = some (.int .u64 0) := (blk_cell BK125.out 1).trans rfl
                have hfz41_0 := blk_frozen BK125.out 0
                have hfz41_1 := blk_frozen BK125.out 1
                go_wp2
                go_meet
                case rel => exact ⟨_, (true), (by first | rfl | (simp; done) | (simp [*]; done)), H', ⟨by have := HJ3.out; first | omega | exact Nat.le_refl _⟩, ⟨by (with_reducible repeat (first | refine blk_drewN ?_ _ | refine blk_drew ?_ | refine blk_alloc ?_ _)); refine blk_far ?_ NB121_125.out _; (with_reducible repeat (first | refine blk_drewN ?_ _ | refine blk_drew ?_ | refine blk_alloc ?_ _)); refine blk_far ?_ NB121_125.out _; (with_reducible repeat (first | refine blk_drewN ?_ _ | refine blk_drew ?_ | refine blk_alloc ?_ _)); exact BK121.out⟩, ⟨by (with_reducible repeat (first | refine blk_drewN ?_ _ | refine blk_drew ?_ | refine blk_alloc ?_ _)); refine blk_put (cs := #[.int .i64 t122, .int .u64 0]) ?_ 1 _ rfl; (with_reducible repeat (first | refine blk_drewN ?_ _ | refine blk_drew ?_ | refine blk_alloc ?_ _)); refine blk_put (cs := #[.int .i64 0, .int .u64 0]) ?_ 0 _ rfl; (with_reducible repeat (first | refine blk_drewN ?_ _ | refine blk_drew ?_ | refine blk_alloc ?_ _)); exact BK125.out⟩, ⟨by repeat (first | (with_reducible first | exact HB.out | apply below_alloc | apply pw_below_drewN | apply below_drew1 | refine below_set ?_ GE121.out | refine below_set ?_ GE125.out) | exact HB.out)⟩⟩
            · replace c27 := Bool.eq_false_iff.mpr c27
              subst c27
              have H1 : (pontoonlaw6_WindowFar.j1 kj3 a0 a1 a2 true t122 t123) = some r := by rw [if_neg (show ¬ (false = true) by decide)] at H; exact H
              clear H
              have H := H1
              clear H1
              have H' := Aside0.mk H
              clear H
              go_wp2
              go_meet
              case rel => exact ⟨_, (true), (by first | rfl | (simp; done) | (simp [*]; done)), H', ⟨by have := HJ3.out; first | omega | exact Nat.le_refl _⟩, ⟨by (with_reducible repeat (first | refine blk_drewN ?_ _ | refine blk_drew ?_ | refine blk_alloc ?_ _)); refine blk_far ?_ NB121_125.out _; (with_reducible repeat (first | refine blk_drewN ?_ _ | refine blk_drew ?_ | refine blk_alloc ?_ _)); refine blk_far ?_ NB121_125.out _; (with_reducible repeat (first | refine blk_drewN ?_ _ | refine blk_drew ?_ | refine blk_alloc ?_ _)); exact BK121.out⟩, ⟨by (with_reducible repeat (first | refine blk_drewN ?_ _ | refine blk_drew ?_ | refine blk_alloc ?_ _)); refine blk_put (cs := #[.int .i64 t122, .int .u64 0]) ?_ 1 _ rfl; (with_reducible repeat (first | refine blk_drewN ?_ _ | refine blk_drew ?_ | refine blk_alloc ?_ _)); refine blk_put (cs := #[.int .i64 0, .int .u64 0]) ?_ 0 _ rfl; (with_reducible repeat (first | refine blk_drewN ?_ _ | refine blk_drew ?_ | refine blk_alloc ?_ _)); exact BK125.out⟩, ⟨by repeat (first | (with_reducible first | exact HB.out | apply below_alloc | apply pw_below_drewN | apply below_drew1 | refine below_set ?_ GE121.out | refine below_set ?_ GE125.out) | exact HB.out)⟩⟩
          · replace c26 := Bool.eq_false_iff.mpr c26
            subst c26
            have H1 : (pontoonlaw6_WindowFar.j1 kj3 a0 a1 a2 true t122 t123) = some r := by rw [if_neg (show ¬ (false = true) by decide)] at H; exact H
            clear H
            have H := H1
            clear H1
            have H' := Aside0.mk H
            clear H
            go_wp2
            go_meet
            case rel => exact ⟨_, (true), (by first | rfl | (simp; done) | (simp [*]; done)), H', ⟨by have := HJ3.out; first | omega | exact Nat.le_refl _⟩, ⟨by (with_reducible repeat (first | refine blk_drewN ?_ _ | refine blk_drew ?_ | refine blk_alloc ?_ _)); refine blk_far ?_ NB121_125.out _; (with_reducible repeat (first | refine blk_drewN ?_ _ | refine blk_drew ?_ | refine blk_alloc ?_ _)); refine blk_far ?_ NB121_125.out _; (with_reducible repeat (first | refine blk_drewN ?_ _ | refine blk_drew ?_ | refine blk_alloc ?_ _)); exact BK121.out⟩, ⟨by (with_reducible repeat (first | refine blk_drewN ?_ _ | refine blk_drew ?_ | refine blk_alloc ?_ _)); refine blk_put (cs := #[.int .i64 t122, .int .u64 0]) ?_ 1 _ rfl; (with_reducible repeat (first | refine blk_drewN ?_ _ | refine blk_drew ?_ | refine blk_alloc ?_ _)); refine blk_put (cs := #[.int .i64 0, .int .u64 0]) ?_ 0 _ rfl; (with_reducible repeat (first | refine blk_drewN ?_ _ | refine blk_drew ?_ | refine blk_alloc ?_ _)); exact BK125.out⟩, ⟨by repeat (first | (with_reducible first | exact HB.out | apply below_alloc | apply pw_below_drewN | apply below_drew1 | refine below_set ?_ GE121.out | refine below_set ?_ GE125.out) | exact HB.out)⟩⟩
        case rest =>
          clear HC18
          try clear c1
          try clear c2
          try clear p2
          try clear c3
          try clear c4
          try clear c5
          try clear c5b0
          try clear c6
          try clear c6b0
          try clear c7
          try clear c7b0
          try clear c8
          try clear c8b0
          try clear c9
          try clear c9b0
          try clear c10
          try clear c10b0
          try clear c11
          try clear c13
          try clear c24
          try clear c26
          try clear c27
          try clear c28
          try clear c28b0
          try clear c28b1
          try clear c30
          try clear c31
          try clear c35
          try clear c40
          try clear hcz21_0
          try clear hcz21_1
          try clear hcz25_0
          try clear hcz25_1
          try clear hcz32_0
          try clear hcz32_1
          try clear hcz36_0
          try clear hcz36_1
          try clear hcz38_0
          try clear hcz38_1
          try clear hcz41_0
          try clear hcz41_1
          try clear hfz21_0
          try clear hfz21_1
          try clear hfz25_0
          try clear hfz25_1
          try clear hfz32_0
          try clear hfz32_1
          try clear hfz36_0
          try clear hfz36_1
          try clear hfz38_0
          try clear hfz38_1
          try clear hfz41_0
          try clear hfz41_1
          try clear p2
          obtain ⟨kq, x73_17, rfl, HA, HJ17, BK121, BK125, HB⟩ := hcut
          cases kq with
          | zero => exact absurd HA.out (by simp [pontoonlaw6_WindowFar.j1])
          | succ kj17 =>
            have H := HA.out
            clear HA
            simp only [pontoonlaw6_WindowFar.j1] at H
            by_cases c42 : x73_17 = true
            · subst c42
              have H1 : (some false) = some r := by rw [if_pos rfl] at H; exact H
              clear H
              have H := H1
              clear H1
              obtain rfl := Option.some.inj H
              go_wp2
              go_ret
              exact ⟨by first | rfl | (simp [errW_none, errW_some] <;> rfl) | (simp [*, errW_none, errW_some] <;> rfl), by repeat (first | (with_reducible first | exact HB.out | apply below_alloc | apply pw_below_drewN | apply below_drew1 | refine below_set ?_ GE121.out | refine below_set ?_ GE125.out) | exact HB.out)⟩
            · replace c42 := Bool.eq_false_iff.mpr c42
              subst c42
              have H1 : ((window_Window_Fresh.f kj17 t122 t123 (wrap64 (a1 - a2))).bind fun t128 => (if a2 ≥ 1 then (if a2 < 64 then (if (wrap64 (a1 - a2)) ≥ 1 then (if (t128 == ((wrap64 (a1 - a2)) != a0)) = true then ((window_Window_Fresh.f kj17 t122 t123 (wrap64 ((mn a1 4611686018427387903) + 1))).bind fun t129 => (if (t129 == (decide (a1 < 4611686018427387904))) = true then ((window_Window_Old.f t122 t123).bind fun t130 => (some (t130 == (mx (wrap64 (a1 - 64)) 0)))) else (some false))) else (some false)) else (if (t128 == false) = true then ((window_Window_Fresh.f kj17 t122 t123 (wrap64 ((mn a1 4611686018427387903) + 1))).bind fun t131 => (if (t131 == (decide (a1 < 4611686018427387904))) = true then ((window_Window_Old.f t122 t123).bind fun t132 => (some (t132 == (mx (wrap64 (a1 - 64)) 0)))) else (some false))) else (some false))) else (if (t128 == false) = true then ((window_Window_Fresh.f kj17 t122 t123 (wrap64 ((mn a1 4611686018427387903) + 1))).bind fun t133 => (if (t133 == (decide (a1 < 4611686018427387904))) = true then ((window_Window_Old.f t122 t123).bind fun t134 => (some (t134 == (mx (wrap64 (a1 - 64)) 0)))) else (some false))) else (some false))) else (if (t128 == false) = true then ((window_Window_Fresh.f kj17 t122 t123 (wrap64 ((mn a1 4611686018427387903) + 1))).bind fun t135 => (if (t135 == (decide (a1 < 4611686018427387904))) = true then ((window_Window_Old.f t122 t123).bind fun t136 => (some (t136 == (mx (wrap64 (a1 - 64)) 0)))) else (some false))) else (some false)))) = some r := by rw [if_neg (show ¬ (false = true) by decide)] at H; exact H
              clear H
              have H := H1
              clear H1
              replace H := Option.bind_eq_some_iff.mp H
              obtain ⟨t128, A430, H⟩ := H
              replace H : (if a2 ≥ 1 then (if a2 < 64 then (if (wrap64 (a1 - a2)) ≥ 1 then (if (t128 == ((wrap64 (a1 - a2)) != a0)) = true then ((window_Window_Fresh.f kj17 t122 t123 (wrap64 ((mn a1 4611686018427387903) + 1))).bind fun t129 => (if (t129 == (decide (a1 < 4611686018427387904))) = true then ((window_Window_Old.f t122 t123).bind fun t130 => (some (t130 == (mx (wrap64 (a1 - 64)) 0)))) else (some false))) else (some false)) else (if (t128 == false) = true then ((window_Window_Fresh.f kj17 t122 t123 (wrap64 ((mn a1 4611686018427387903) + 1))).bind fun t131 => (if (t131 == (decide (a1 < 4611686018427387904))) = true then ((window_Window_Old.f t122 t123).bind fun t132 => (some (t132 == (mx (wrap64 (a1 - 64)) 0)))) else (some false))) else (some false))) else (if (t128 == false) = true then ((window_Window_Fresh.f kj17 t122 t123 (wrap64 ((mn a1 4611686018427387903) + 1))).bind fun t133 => (if (t133 == (decide (a1 < 4611686018427387904))) = true then ((window_Window_Old.f t122 t123).bind fun t134 => (some (t134 == (mx (wrap64 (a1 - 64)) 0)))) else (some false))) else (some false))) else (if (t128 == false) = true then ((window_Window_Fresh.f kj17 t122 t123 (wrap64 ((mn a1 4611686018427387903) + 1))).bind fun t135 => (if (t135 == (decide (a1 < 4611686018427387904))) = true then ((window_Window_Old.f t122 t123).bind fun t136 => (some (t136 == (mx (wrap64 (a1 - 64)) 0)))) else (some false))) else (some false))) = some r := H
              have A43 := Aside0.mk A430
              clear A430
              by_cases c44 : a2 ≥ 1
              · rw [if_pos c44] at H
                have c44b0 : decide (1 ≤ a2) = true := decide_eq_true c44
                clear c44
                by_cases c45 : a2 < 64
                · rw [if_pos c45] at H
                  have c45b0 : decide (a2 < 64) = true := decide_eq_true c45
                  clear c45
                  by_cases c46 : (wrap64 (a1 - a2)) ≥ 1
                  · rw [if_pos c46] at H
                    have c46b0 : decide (1 ≤ (wrap64 (a1 - a2))) = true := decide_eq_true c46
                    clear c46
                    by_cases c47 : (t128 == ((wrap64 (a1 - a2)) != a0)) = true
                    · rw [if_pos c47] at H
                      have c47b0 : (t128 == ((wrap64 (a1 - a2)) != a0)) = true := c47
                      (try (have c47b1 : decide (t128 = ((wrap64 (a1 - a2)) != a0)) = true := by simpa using c47))
                      (try (have c47b2 : (t128 == ((wrap64 (a1 - a2)) != a0)) = true := by simpa using c47))
                      clear c47
                      obtain ⟨ji48, hji48⟩ : ∃ j_ : Int, (mn a1 4611686018427387903) = j_ := ⟨_, rfl⟩
                      replace H : ((window_Window_Fresh.f kj17 t122 t123 (wrap64 ((ji48) + 1))).bind fun t129 => (if (t129 == (decide (a1 < 4611686018427387904))) = true then ((window_Window_Old.f t122 t123).bind fun t130 => (some (t130 == (mx (wrap64 (a1 - 64)) 0)))) else (some false))) = some r := by first | (rw [hji48] at H; exact H) | (simp only [hji48] at H ⊢; exact H)
                      (try rw [hji48] at A43)
                      have hji48_ : (if 4611686018427387903 < a1 then 4611686018427387903 else a1) = ji48 := hji48
                      replace H := Option.bind_eq_some_iff.mp H
                      obtain ⟨t129, A490, H⟩ := H
                      replace H : (if (t129 == (decide (a1 < 4611686018427387904))) = true then ((window_Window_Old.f t122 t123).bind fun t130 => (some (t130 == (mx (wrap64 (a1 - 64)) 0)))) else (some false)) = some r := H
                      have A49 := Aside0.mk A490
                      clear A490
                      by_cases c50 : (t129 == (decide (a1 < 4611686018427387904))) = true
                      · rw [if_pos c50] at H
                        have c50b0 : (t129 == (decide (a1 < 4611686018427387904))) = true := c50
                        (try (have c50b1 : decide (t129 = (decide (a1 < 4611686018427387904))) = true := by simpa using c50))
                        (try (have c50b2 : (t129 == (decide (a1 < 4611686018427387904))) = true := by simpa using c50))
                        clear c50
                        replace H := Option.bind_eq_some_iff.mp H
                        obtain ⟨t130, A510, H⟩ := H
                        replace H : (some (t130 == (mx (wrap64 (a1 - 64)) 0))) = some r := H
                        have A51 := Aside0.mk A510
                        clear A510
                        obtain ⟨ji52, hji52⟩ : ∃ j_ : Int, (mx (wrap64 (a1 - 64)) 0) = j_ := ⟨_, rfl⟩
                        replace H : (some (t130 == (ji52))) = some r := by first | (rw [hji52] at H; exact H) | (simp only [hji52] at H ⊢; exact H)
                        (try rw [hji52] at A43)
                        (try rw [hji52] at A49)
                        (try rw [hji52] at A51)
                        have hji52_ : (if (wrap64 (a1 - 64)) < 0 then 0 else (wrap64 (a1 - 64))) = ji52 := hji52
                        obtain rfl := Option.some.inj H
                        have hnb53 := NB125_121.out
                        have hnc53 := NB121_125.out
                        have hcz54_0 : wc.cell? ⟨gb125, 0, none⟩ = some (.int .i64 t122) := (blk_cell BK125.out 0).trans rfl
                        have hcz54_1 : wc.cell? ⟨gb125, 1, none⟩ = some (.int .u64 t123) := (blk_cell BK125.out 1).trans rfl
                        have hfz54_0 := blk_frozen BK125.out 0
                        have hfz54_1 := blk_frozen BK125.out 1
                        go_wp2_with (first | ((with_reducible refine gate_callee (f := 18) rfl ?_); refine goesL_ (some 79) rfl rfl Try.func18 (by kernel_rfl) rfl #[.agg #[.int .i64 t122, .int .u64 t123], .int .i64 (wrap64 (a1 - a2))] rfl (by (try simp only [List.map_toArray, List.map_cons, List.map_nil]); first | done | rfl | (simp only [List.length_drop, List.length_take]; rfl)) ?_; (with_reducible refine (window_Window_Fresh.calls kj17 t122 t123 (wrap64 (a1 - a2)) t128 _ A43.out).mono ?_); rintro e w55 ⟨rfl, hb⟩; refine ⟨_, rfl, ?_⟩; have n0_ := Aside0.mk (blk_below (g := gb121) (o := .cells #[.int .i64 t118, .int .u64 t119] 26 (0, 0)) (by (with_reducible repeat (first | refine blk_drewN ?_ _ | refine blk_drew ?_ | refine blk_alloc ?_ _)); exact BK121.out) hb); have n1_ := Aside0.mk (blk_below (g := gb125) (o := .cells #[.int .i64 t122, .int .u64 t123] 26 (0, 0)) (by (with_reducible repeat (first | refine blk_drewN ?_ _ | refine blk_drew ?_ | refine blk_alloc ?_ _)); exact BK125.out) hb); have n2_ := Aside0.mk (below_step (by repeat (first | (with_reducible first | exact HB.out | apply below_alloc | apply pw_below_drewN | apply below_drew1 | refine below_set ?_ GE121.out | refine below_set ?_ GE125.out) | exact HB.out)) hb); clear BK121; clear BK125; clear HB; have BK121 := n0_; have BK125 := n1_; have HB := n2_; clear n0_ n1_ n2_; (try clear hb); (try clear hb2); (try clear hk); (try clear hi); have hcz56_0 : w55.cell? ⟨gb125, 0, none⟩ = some (.int .i64 t122) := (blk_cell BK125.out 0).trans rfl; have hcz56_1 : w55.cell? ⟨gb125, 1, none⟩ = some (.int .u64 t123) := (blk_cell BK125.out 1).trans rfl; have hfz56_0 := blk_frozen BK125.out 0; have hfz56_1 := blk_frozen BK125.out 1) | (go_at_call 18; (with_reducible refine (window_Window_Fresh.calls kj17 t122 t123 (wrap64 ((ji48) + 1)) t129 _ A49.out).mono ?_); rintro e w57 ⟨rfl, hb⟩; have n0_ := Aside0.mk (blk_below (g := gb121) (o := .cells #[.int .i64 t118, .int .u64 t119] 26 (0, 0)) (by (with_reducible repeat (first | refine blk_drewN ?_ _ | refine blk_drew ?_ | refine blk_alloc ?_ _)); exact BK121.out) hb); have n1_ := Aside0.mk (blk_below (g := gb125) (o := .cells #[.int .i64 t122, .int .u64 t123] 26 (0, 0)) (by (with_reducible repeat (first | refine blk_drewN ?_ _ | refine blk_drew ?_ | refine blk_alloc ?_ _)); exact BK125.out) hb); have n2_ := Aside0.mk (below_step (by repeat (first | (with_reducible first | exact HB.out | apply below_alloc | apply pw_below_drewN | apply below_drew1 | refine below_set ?_ GE121.out | refine below_set ?_ GE125.out) | exact HB.out)) hb); clear BK121; clear BK125; clear HB; have BK121 := n0_; have BK125 := n1_; have HB := n2_; clear n0_ n1_ n2_; (try clear hb); (try clear hb2); (try clear hk); (try clear hi); have hcz58_0 : w57.cell? ⟨gb125, 0, none⟩ = some (.int .i64 t122) := (blk_cell BK125.out 0).trans rfl; have hcz58_1 : w57.cell? ⟨gb125, 1, none⟩ = some (.int .u64 t123) := (blk_cell BK125.out 1).trans rfl; have hfz58_0 := blk_frozen BK125.out 0; have hfz58_1 := blk_frozen BK125.out 1) | (go_at_call 22; (with_reducible refine (window_Window_Old.calls t122 t123 t130 _ A51.out).mono ?_); rintro e w59 ⟨rfl, hb⟩; have n0_ := Aside0.mk (blk_below (g := gb121) (o := .cells #[.int .i64 t118, .int .u64 t119] 26 (0, 0)) (by (with_reducible repeat (first | refine blk_drewN ?_ _ | refine blk_drew ?_ | refine blk_alloc ?_ _)); exact BK121.out) hb); have n1_ := Aside0.mk (blk_below (g := gb125) (o := .cells #[.int .i64 t122, .int .u64 t123] 26 (0, 0)) (by (with_reducible repeat (first | refine blk_drewN ?_ _ | refine blk_drew ?_ | refine blk_alloc ?_ _)); exact BK125.out) hb); have n2_ := Aside0.mk (below_step (by repeat (first | (with_reducible first | exact HB.out | apply below_alloc | apply pw_below_drewN | apply below_drew1 | refine below_set ?_ GE121.out | refine below_set ?_ GE125.out) | exact HB.out)) hb); clear BK121; clear BK125; clear HB; have BK121 := n0_; have BK125 := n1_; have HB := n2_; clear n0_ n1_ n2_; (try clear hb); (try clear hb2); (try clear hk); (try clear hi)))
                        go_ret
                        exact ⟨by first | rfl | (simp [errW_none, errW_some] <;> rfl) | (simp only [← hji48, ← hji52]; first | rfl | (simp [errW_none, errW_some] <;> rfl)) | (simp [*, errW_none, errW_some] <;> rfl), by repeat (first | (with_reducible first | exact HB.out | apply below_alloc | apply pw_below_drewN | apply below_drew1 | refine below_set ?_ GE121.out | refine below_set ?_ GE125.out) | exact HB.out)⟩
                      · rw [if_neg c50] at H
                        have c50b0 : (t129 == (decide (a1 < 4611686018427387904))) = false := by simpa using c50
                        (try (have c50b1 : decide (t129 = (decide (a1 < 4611686018427387904))) = false := by simpa using c50))
                        (try (have c50b2 : (t129 == (decide (a1 < 4611686018427387904))) = false := by simpa using c50))
                        (try (have c50b3 : ¬ (t129 = (decide (a1 < 4611686018427387904))) := by simpa using c50))
                        clear c50
                        obtain rfl := Option.some.inj H
                        have hnb60 := NB125_121.out
                        have hnc60 := NB121_125.out
                        have hcz61_0 : wc.cell? ⟨gb125, 0, none⟩ = some (.int .i64 t122) := (blk_cell BK125.out 0).trans rfl
                        have hcz61_1 : wc.cell? ⟨gb125, 1, none⟩ = some (.int .u64 t123) := (blk_cell BK125.out 1).trans rfl
                        have hfz61_0 := blk_frozen BK125.out 0
                        have hfz61_1 := blk_frozen BK125.out 1
                        go_wp2_with (first | ((with_reducible refine gate_callee (f := 18) rfl ?_); refine goesL_ (some 79) rfl rfl Try.func18 (by kernel_rfl) rfl #[.agg #[.int .i64 t122, .int .u64 t123], .int .i64 (wrap64 (a1 - a2))] rfl (by (try simp only [List.map_toArray, List.map_cons, List.map_nil]); first | done | rfl | (simp only [List.length_drop, List.length_take]; rfl)) ?_; (with_reducible refine (window_Window_Fresh.calls kj17 t122 t123 (wrap64 (a1 - a2)) t128 _ A43.out).mono ?_); rintro e w62 ⟨rfl, hb⟩; refine ⟨_, rfl, ?_⟩; have n0_ := Aside0.mk (blk_below (g := gb121) (o := .cells #[.int .i64 t118, .int .u64 t119] 26 (0, 0)) (by (with_reducible repeat (first | refine blk_drewN ?_ _ | refine blk_drew ?_ | refine blk_alloc ?_ _)); exact BK121.out) hb); have n1_ := Aside0.mk (blk_below (g := gb125) (o := .cells #[.int .i64 t122, .int .u64 t123] 26 (0, 0)) (by (with_reducible repeat (first | refine blk_drewN ?_ _ | refine blk_drew ?_ | refine blk_alloc ?_ _)); exact BK125.out) hb); have n2_ := Aside0.mk (below_step (by repeat (first | (with_reducible first | exact HB.out | apply below_alloc | apply pw_below_drewN | apply below_drew1 | refine below_set ?_ GE121.out | refine below_set ?_ GE125.out) | exact HB.out)) hb); clear BK121; clear BK125; clear HB; have BK121 := n0_; have BK125 := n1_; have HB := n2_; clear n0_ n1_ n2_; (try clear hb); (try clear hb2); (try clear hk); (try clear hi); have hcz63_0 : w62.cell? ⟨gb125, 0, none⟩ = some (.int .i64 t122) := (blk_cell BK125.out 0).trans rfl; have hcz63_1 : w62.cell? ⟨gb125, 1, none⟩ = some (.int .u64 t123) := (blk_cell BK125.out 1).trans rfl; have hfz63_0 := blk_frozen BK125.out 0; have hfz63_1 := blk_frozen BK125.out 1) | (go_at_call 18; (with_reducible refine (window_Window_Fresh.calls kj17 t122 t123 (wrap64 ((ji48) + 1)) t129 _ A49.out).mono ?_); rintro e w64 ⟨rfl, hb⟩; have n0_ := Aside0.mk (blk_below (g := gb121) (o := .cells #[.int .i64 t118, .int .u64 t119] 26 (0, 0)) (by (with_reducible repeat (first | refine blk_drewN ?_ _ | refine blk_drew ?_ | refine blk_alloc ?_ _)); exact BK121.out) hb); have n1_ := Aside0.mk (blk_below (g := gb125) (o := .cells #[.int .i64 t122, .int .u64 t123] 26 (0, 0)) (by (with_reducible repeat (first | refine blk_drewN ?_ _ | refine blk_drew ?_ | refine blk_alloc ?_ _)); exact BK125.out) hb); have n2_ := Aside0.mk (below_step (by repeat (first | (with_reducible first | exact HB.out | apply below_alloc | apply pw_below_drewN | apply below_drew1 | refine below_set ?_ GE121.out | refine below_set ?_ GE125.out) | exact HB.out)) hb); clear BK121; clear BK125; clear HB; have BK121 := n0_; have BK125 := n1_; have HB := n2_; clear n0_ n1_ n2_; (try clear hb); (try clear hb2); (try clear hk); (try clear hi)))
                        go_ret
                        exact ⟨by first | rfl | (simp [errW_none, errW_some] <;> rfl) | (simp only [← hji48]; first | rfl | (simp [errW_none, errW_some] <;> rfl)) | (simp [*, errW_none, errW_some] <;> rfl), by repeat (first | (with_reducible first | exact HB.out | apply below_alloc | apply pw_below_drewN | apply below_drew1 | refine below_set ?_ GE121.out | refine below_set ?_ GE125.out) | exact HB.out)⟩
                    · rw [if_neg c47] at H
                      have c47b0 : (t128 == ((wrap64 (a1 - a2)) != a0)) = false := by simpa using c47
                      (try (have c47b1 : decide (t128 = ((wrap64 (a1 - a2)) != a0)) = false := by simpa using c47))
                      (try (have c47b2 : (t128 == ((wrap64 (a1 - a2)) != a0)) = false := by simpa using c47))
                      (try (have c47b3 : ¬ (t128 = ((wrap64 (a1 - a2)) != a0)) := by simpa using c47))
                      clear c47
                      obtain rfl := Option.some.inj H
                      have hnb65 := NB125_121.out
                      have hnc65 := NB121_125.out
                      have hcz66_0 : wc.cell? ⟨gb125, 0, none⟩ = some (.int .i64 t122) := (blk_cell BK125.out 0).trans rfl
                      have hcz66_1 : wc.cell? ⟨gb125, 1, none⟩ = some (.int .u64 t123) := (blk_cell BK125.out 1).trans rfl
                      have hfz66_0 := blk_frozen BK125.out 0
                      have hfz66_1 := blk_frozen BK125.out 1
                      go_wp2_with (first | ((with_reducible refine gate_callee (f := 18) rfl ?_); refine goesL_ (some 79) rfl rfl Try.func18 (by kernel_rfl) rfl #[.agg #[.int .i64 t122, .int .u64 t123], .int .i64 (wrap64 (a1 - a2))] rfl (by (try simp only [List.map_toArray, List.map_cons, List.map_nil]); first | done | rfl | (simp only [List.length_drop, List.length_take]; rfl)) ?_; (with_reducible refine (window_Window_Fresh.calls kj17 t122 t123 (wrap64 (a1 - a2)) t128 _ A43.out).mono ?_); rintro e w67 ⟨rfl, hb⟩; refine ⟨_, rfl, ?_⟩; have n0_ := Aside0.mk (blk_below (g := gb121) (o := .cells #[.int .i64 t118, .int .u64 t119] 26 (0, 0)) (by (with_reducible repeat (first | refine blk_drewN ?_ _ | refine blk_drew ?_ | refine blk_alloc ?_ _)); exact BK121.out) hb); have n1_ := Aside0.mk (blk_below (g := gb125) (o := .cells #[.int .i64 t122, .int .u64 t123] 26 (0, 0)) (by (with_reducible repeat (first | refine blk_drewN ?_ _ | refine blk_drew ?_ | refine blk_alloc ?_ _)); exact BK125.out) hb); have n2_ := Aside0.mk (below_step (by repeat (first | (with_reducible first | exact HB.out | apply below_alloc | apply pw_below_drewN | apply below_drew1 | refine below_set ?_ GE121.out | refine below_set ?_ GE125.out) | exact HB.out)) hb); clear BK121; clear BK125; clear HB; have BK121 := n0_; have BK125 := n1_; have HB := n2_; clear n0_ n1_ n2_; (try clear hb); (try clear hb2); (try clear hk); (try clear hi)))
                      go_ret
                      exact ⟨by first | rfl | (simp [errW_none, errW_some] <;> rfl) | (simp [*, errW_none, errW_some] <;> rfl), by repeat (first | (with_reducible first | exact HB.out | apply below_alloc | apply pw_below_drewN | apply below_drew1 | refine below_set ?_ GE121.out | refine below_set ?_ GE125.out) | exact HB.out)⟩
                  · rw [if_neg c46] at H
                    have c46b0 : decide (1 ≤ (wrap64 (a1 - a2))) = false := decide_eq_false c46
                    clear c46
                    by_cases c68 : (t128 == false) = true
                    · rw [if_pos c68] at H
                      have c68b0 : (t128 == false) = true := c68
                      (try (have c68b1 : decide (t128 = false) = true := by simpa using c68))
                      (try (have c68b2 : (t128 == false) = true := by simpa using c68))
                      clear c68
                      obtain ⟨ji69, hji69⟩ : ∃ j_ : Int, (mn a1 4611686018427387903) = j_ := ⟨_, rfl⟩
                      replace H : ((window_Window_Fresh.f kj17 t122 t123 (wrap64 ((ji69) + 1))).bind fun t131 => (if (t131 == (decide (a1 < 4611686018427387904))) = true then ((window_Window_Old.f t122 t123).bind fun t132 => (some (t132 == (mx (wrap64 (a1 - 64)) 0)))) else (some false))) = some r := by first | (rw [hji69] at H; exact H) | (simp only [hji69] at H ⊢; exact H)
                      (try rw [hji69] at A43)
                      have hji69_ : (if 4611686018427387903 < a1 then 4611686018427387903 else a1) = ji69 := hji69
                      replace H := Option.bind_eq_some_iff.mp H
                      obtain ⟨t131, A700, H⟩ := H
                      replace H : (if (t131 == (decide (a1 < 4611686018427387904))) = true then ((window_Window_Old.f t122 t123).bind fun t132 => (some (t132 == (mx (wrap64 (a1 - 64)) 0)))) else (some false)) = some r := H
                      have A70 := Aside0.mk A700
                      clear A700
                      by_cases c71 : (t131 == (decide (a1 < 4611686018427387904))) = true
                      · rw [if_pos c71] at H
                        have c71b0 : (t131 == (decide (a1 < 4611686018427387904))) = true := c71
                        (try (have c71b1 : decide (t131 = (decide (a1 < 4611686018427387904))) = true := by simpa using c71))
                        (try (have c71b2 : (t131 == (decide (a1 < 4611686018427387904))) = true := by simpa using c71))
                        clear c71
                        replace H := Option.bind_eq_some_iff.mp H
                        obtain ⟨t132, A720, H⟩ := H
                        replace H : (some (t132 == (mx (wrap64 (a1 - 64)) 0))) = some r := H
                        have A72 := Aside0.mk A720
                        clear A720
                        obtain ⟨ji73, hji73⟩ : ∃ j_ : Int, (mx (wrap64 (a1 - 64)) 0) = j_ := ⟨_, rfl⟩
                        replace H : (some (t132 == (ji73))) = some r := by first | (rw [hji73] at H; exact H) | (simp only [hji73] at H ⊢; exact H)
                        (try rw [hji73] at A43)
                        (try rw [hji73] at A70)
                        (try rw [hji73] at A72)
                        have hji73_ : (if (wrap64 (a1 - 64)) < 0 then 0 else (wrap64 (a1 - 64))) = ji73 := hji73
                        obtain rfl := Option.some.inj H
                        have hnb74 := NB125_121.out
                        have hnc74 := NB121_125.out
                        have hcz75_0 : wc.cell? ⟨gb125, 0, none⟩ = some (.int .i64 t122) := (blk_cell BK125.out 0).trans rfl
                        have hcz75_1 : wc.cell? ⟨gb125, 1, none⟩ = some (.int .u64 t123) := (blk_cell BK125.out 1).trans rfl
                        have hfz75_0 := blk_frozen BK125.out 0
                        have hfz75_1 := blk_frozen BK125.out 1
                        go_wp2_with (first | ((with_reducible refine gate_callee (f := 18) rfl ?_); refine goesL_ (some 79) rfl rfl Try.func18 (by kernel_rfl) rfl #[.agg #[.int .i64 t122, .int .u64 t123], .int .i64 (wrap64 (a1 - a2))] rfl (by (try simp only [List.map_toArray, List.map_cons, List.map_nil]); first | done | rfl | (simp only [List.length_drop, List.length_take]; rfl)) ?_; (with_reducible refine (window_Window_Fresh.calls kj17 t122 t123 (wrap64 (a1 - a2)) t128 _ A43.out).mono ?_); rintro e w76 ⟨rfl, hb⟩; refine ⟨_, rfl, ?_⟩; have n0_ := Aside0.mk (blk_below (g := gb121) (o := .cells #[.int .i64 t118, .int .u64 t119] 26 (0, 0)) (by (with_reducible repeat (first | refine blk_drewN ?_ _ | refine blk_drew ?_ | refine blk_alloc ?_ _)); exact BK121.out) hb); have n1_ := Aside0.mk (blk_below (g := gb125) (o := .cells #[.int .i64 t122, .int .u64 t123] 26 (0, 0)) (by (with_reducible repeat (first | refine blk_drewN ?_ _ | refine blk_drew ?_ | refine blk_alloc ?_ _)); exact BK125.out) hb); have n2_ := Aside0.mk (below_step (by repeat (first | (with_reducible first | exact HB.out | apply below_alloc | apply pw_below_drewN | apply below_drew1 | refine below_set ?_ GE121.out | refine below_set ?_ GE125.out) | exact HB.out)) hb); clear BK121; clear BK125; clear HB; have BK121 := n0_; have BK125 := n1_; have HB := n2_; clear n0_ n1_ n2_; (try clear hb); (try clear hb2); (try clear hk); (try clear hi); have hcz77_0 : w76.cell? ⟨gb125, 0, none⟩ = some (.int .i64 t122) := (blk_cell BK125.out 0).trans rfl; have hcz77_1 : w76.cell? ⟨gb125, 1, none⟩ = some (.int .u64 t123) := (blk_cell BK125.out 1).trans rfl; have hfz77_0 := blk_frozen BK125.out 0; have hfz77_1 := blk_frozen BK125.out 1) | (go_at_call 18; (with_reducible refine (window_Window_Fresh.calls kj17 t122 t123 (wrap64 ((ji69) + 1)) t131 _ A70.out).mono ?_); rintro e w78 ⟨rfl, hb⟩; have n0_ := Aside0.mk (blk_below (g := gb121) (o := .cells #[.int .i64 t118, .int .u64 t119] 26 (0, 0)) (by (with_reducible repeat (first | refine blk_drewN ?_ _ | refine blk_drew ?_ | refine blk_alloc ?_ _)); exact BK121.out) hb); have n1_ := Aside0.mk (blk_below (g := gb125) (o := .cells #[.int .i64 t122, .int .u64 t123] 26 (0, 0)) (by (with_reducible repeat (first | refine blk_drewN ?_ _ | refine blk_drew ?_ | refine blk_alloc ?_ _)); exact BK125.out) hb); have n2_ := Aside0.mk (below_step (by repeat (first | (with_reducible first | exact HB.out | apply below_alloc | apply pw_below_drewN | apply below_drew1 | refine below_set ?_ GE121.out | refine below_set ?_ GE125.out) | exact HB.out)) hb); clear BK121; clear BK125; clear HB; have BK121 := n0_; have BK125 := n1_; have HB := n2_; clear n0_ n1_ n2_; (try clear hb); (try clear hb2); (try clear hk); (try clear hi); have hcz79_0 : w78.cell? ⟨gb125, 0, none⟩ = some (.int .i64 t122) := (blk_cell BK125.out 0).trans rfl; have hcz79_1 : w78.cell? ⟨gb125, 1, none⟩ = some (.int .u64 t123) := (blk_cell BK125.out 1).trans rfl; have hfz79_0 := blk_frozen BK125.out 0; have hfz79_1 := blk_frozen BK125.out 1) | (go_at_call 22; (with_reducible refine (window_Window_Old.calls t122 t123 t132 _ A72.out).mono ?_); rintro e w80 ⟨rfl, hb⟩; have n0_ := Aside0.mk (blk_below (g := gb121) (o := .cells #[.int .i64 t118, .int .u64 t119] 26 (0, 0)) (by (with_reducible repeat (first | refine blk_drewN ?_ _ | refine blk_drew ?_ | refine blk_alloc ?_ _)); exact BK121.out) hb); have n1_ := Aside0.mk (blk_below (g := gb125) (o := .cells #[.int .i64 t122, .int .u64 t123] 26 (0, 0)) (by (with_reducible repeat (first | refine blk_drewN ?_ _ | refine blk_drew ?_ | refine blk_alloc ?_ _)); exact BK125.out) hb); have n2_ := Aside0.mk (below_step (by repeat (first | (with_reducible first | exact HB.out | apply below_alloc | apply pw_below_drewN | apply below_drew1 | refine below_set ?_ GE121.out | refine below_set ?_ GE125.out) | exact HB.out)) hb); clear BK121; clear BK125; clear HB; have BK121 := n0_; have BK125 := n1_; have HB := n2_; clear n0_ n1_ n2_; (try clear hb); (try clear hb2); (try clear hk); (try clear hi)))
                        go_ret
                        exact ⟨by first | rfl | (simp [errW_none, errW_some] <;> rfl) | (simp only [← hji69, ← hji73]; first | rfl | (simp [errW_none, errW_some] <;> rfl)) | (simp [*, errW_none, errW_some] <;> rfl), by repeat (first | (with_reducible first | exact HB.out | apply below_alloc | apply pw_below_drewN | apply below_drew1 | refine below_set ?_ GE121.out | refine below_set ?_ GE125.out) | exact HB.out)⟩
                      · rw [if_neg c71] at H
                        have c71b0 : (t131 == (decide (a1 < 4611686018427387904))) = false := by simpa using c71
                        (try (have c71b1 : decide (t131 = (decide (a1 < 4611686018427387904))) = false := by simpa using c71))
                        (try (have c71b2 : (t131 == (decide (a1 < 4611686018427387904))) = false := by simpa using c71))
                        (try (have c71b3 : ¬ (t131 = (decide (a1 < 4611686018427387904))) := by simpa using c71))
                        clear c71
                        obtain rfl := Option.some.inj H
                        have hnb81 := NB125_121.out
                        have hnc81 := NB121_125.out
                        have hcz82_0 : wc.cell? ⟨gb125, 0, none⟩ = some (.int .i64 t122) := (blk_cell BK125.out 0).trans rfl
                        have hcz82_1 : wc.cell? ⟨gb125, 1, none⟩ = some (.int .u64 t123) := (blk_cell BK125.out 1).trans rfl
                        have hfz82_0 := blk_frozen BK125.out 0
                        have hfz82_1 := blk_frozen BK125.out 1
                        go_wp2_with (first | ((with_reducible refine gate_callee (f := 18) rfl ?_); refine goesL_ (some 79) rfl rfl Try.func18 (by kernel_rfl) rfl #[.agg #[.int .i64 t122, .int .u64 t123], .int .i64 (wrap64 (a1 - a2))] rfl (by (try simp only [List.map_toArray, List.map_cons, List.map_nil]); first | done | rfl | (simp only [List.length_drop, List.length_take]; rfl)) ?_; (with_reducible refine (window_Window_Fresh.calls kj17 t122 t123 (wrap64 (a1 - a2)) t128 _ A43.out).mono ?_); rintro e w83 ⟨rfl, hb⟩; refine ⟨_, rfl, ?_⟩; have n0_ := Aside0.mk (blk_below (g := gb121) (o := .cells #[.int .i64 t118, .int .u64 t119] 26 (0, 0)) (by (with_reducible repeat (first | refine blk_drewN ?_ _ | refine blk_drew ?_ | refine blk_alloc ?_ _)); exact BK121.out) hb); have n1_ := Aside0.mk (blk_below (g := gb125) (o := .cells #[.int .i64 t122, .int .u64 t123] 26 (0, 0)) (by (with_reducible repeat (first | refine blk_drewN ?_ _ | refine blk_drew ?_ | refine blk_alloc ?_ _)); exact BK125.out) hb); have n2_ := Aside0.mk (below_step (by repeat (first | (with_reducible first | exact HB.out | apply below_alloc | apply pw_below_drewN | apply below_drew1 | refine below_set ?_ GE121.out | refine below_set ?_ GE125.out) | exact HB.out)) hb); clear BK121; clear BK125; clear HB; have BK121 := n0_; have BK125 := n1_; have HB := n2_; clear n0_ n1_ n2_; (try clear hb); (try clear hb2); (try clear hk); (try clear hi); have hcz84_0 : w83.cell? ⟨gb125, 0, none⟩ = some (.int .i64 t122) := (blk_cell BK125.out 0).trans rfl; have hcz84_1 : w83.cell? ⟨gb125, 1, none⟩ = some (.int .u64 t123) := (blk_cell BK125.out 1).trans rfl; have hfz84_0 := blk_frozen BK125.out 0; have hfz84_1 := blk_frozen BK125.out 1) | (go_at_call 18; (with_reducible refine (window_Window_Fresh.calls kj17 t122 t123 (wrap64 ((ji69) + 1)) t131 _ A70.out).mono ?_); rintro e w85 ⟨rfl, hb⟩; have n0_ := Aside0.mk (blk_below (g := gb121) (o := .cells #[.int .i64 t118, .int .u64 t119] 26 (0, 0)) (by (with_reducible repeat (first | refine blk_drewN ?_ _ | refine blk_drew ?_ | refine blk_alloc ?_ _)); exact BK121.out) hb); have n1_ := Aside0.mk (blk_below (g := gb125) (o := .cells #[.int .i64 t122, .int .u64 t123] 26 (0, 0)) (by (with_reducible repeat (first | refine blk_drewN ?_ _ | refine blk_drew ?_ | refine blk_alloc ?_ _)); exact BK125.out) hb); have n2_ := Aside0.mk (below_step (by repeat (first | (with_reducible first | exact HB.out | apply below_alloc | apply pw_below_drewN | apply below_drew1 | refine below_set ?_ GE121.out | refine below_set ?_ GE125.out) | exact HB.out)) hb); clear BK121; clear BK125; clear HB; have BK121 := n0_; have BK125 := n1_; have HB := n2_; clear n0_ n1_ n2_; (try clear hb); (try clear hb2); (try clear hk); (try clear hi)))
                        go_ret
                        exact ⟨by first | rfl | (simp [errW_none, errW_some] <;> rfl) | (simp only [← hji69]; first | rfl | (simp [errW_none, errW_some] <;> rfl)) | (simp [*, errW_none, errW_some] <;> rfl), by repeat (first | (with_reducible first | exact HB.out | apply below_alloc | apply pw_below_drewN | apply below_drew1 | refine below_set ?_ GE121.out | refine below_set ?_ GE125.out) | exact HB.out)⟩
                    · rw [if_neg c68] at H
                      have c68b0 : (t128 == false) = false := by simpa using c68
                      (try (have c68b1 : decide (t128 = false) = false := by simpa using c68))
                      (try (have c68b2 : (t128 == false) = false := by simpa using c68))
                      (try (have c68b3 : ¬ (t128 = false) := by simpa using c68))
                      clear c68
                      obtain rfl := Option.some.inj H
                      have hnb86 := NB125_121.out
                      have hnc86 := NB121_125.out
                      have hcz87_0 : wc.cell? ⟨gb125, 0, none⟩ = some (.int .i64 t122) := (blk_cell BK125.out 0).trans rfl
                      have hcz87_1 : wc.cell? ⟨gb125, 1, none⟩ = some (.int .u64 t123) := (blk_cell BK125.out 1).trans rfl
                      have hfz87_0 := blk_frozen BK125.out 0
                      have hfz87_1 := blk_frozen BK125.out 1
                      go_wp2_with (first | ((with_reducible refine gate_callee (f := 18) rfl ?_); refine goesL_ (some 79) rfl rfl Try.func18 (by kernel_rfl) rfl #[.agg #[.int .i64 t122, .int .u64 t123], .int .i64 (wrap64 (a1 - a2))] rfl (by (try simp only [List.map_toArray, List.map_cons, List.map_nil]); first | done | rfl | (simp only [List.length_drop, List.length_take]; rfl)) ?_; (with_reducible refine (window_Window_Fresh.calls kj17 t122 t123 (wrap64 (a1 - a2)) t128 _ A43.out).mono ?_); rintro e w88 ⟨rfl, hb⟩; refine ⟨_, rfl, ?_⟩; have n0_ := Aside0.mk (blk_below (g := gb121) (o := .cells #[.int .i64 t118, .int .u64 t119] 26 (0, 0)) (by (with_reducible repeat (first | refine blk_drewN ?_ _ | refine blk_drew ?_ | refine blk_alloc ?_ _)); exact BK121.out) hb); have n1_ := Aside0.mk (blk_below (g := gb125) (o := .cells #[.int .i64 t122, .int .u64 t123] 26 (0, 0)) (by (with_reducible repeat (first | refine blk_drewN ?_ _ | refine blk_drew ?_ | refine blk_alloc ?_ _)); exact BK125.out) hb); have n2_ := Aside0.mk (below_step (by repeat (first | (with_reducible first | exact HB.out | apply below_alloc | apply pw_below_drewN | apply below_drew1 | refine below_set ?_ GE121.out | refine below_set ?_ GE125.out) | exact HB.out)) hb); clear BK121; clear BK125; clear HB; have BK121 := n0_; have BK125 := n1_; have HB := n2_; clear n0_ n1_ n2_; (try clear hb); (try clear hb2); (try clear hk); (try clear hi)))
                      go_ret
                      exact ⟨by first | rfl | (simp [errW_none, errW_some] <;> rfl) | (simp [*, errW_none, errW_some] <;> rfl), by repeat (first | (with_reducible first | exact HB.out | apply below_alloc | apply pw_below_drewN | apply below_drew1 | refine below_set ?_ GE121.out | refine below_set ?_ GE125.out) | exact HB.out)⟩
                · rw [if_neg c45] at H
                  have c45b0 : decide (a2 < 64) = false := decide_eq_false c45
                  clear c45
                  by_cases c89 : (t128 == false) = true
                  · rw [if_pos c89] at H
                    have c89b0 : (t128 == false) = true := c89
                    (try (have c89b1 : decide (t128 = false) = true := by simpa using c89))
                    (try (have c89b2 : (t128 == false) = true := by simpa using c89))
                    clear c89
                    obtain ⟨ji90, hji90⟩ : ∃ j_ : Int, (mn a1 4611686018427387903) = j_ := ⟨_, rfl⟩
                    replace H : ((window_Window_Fresh.f kj17 t122 t123 (wrap64 ((ji90) + 1))).bind fun t133 => (if (t133 == (decide (a1 < 4611686018427387904))) = true then ((window_Window_Old.f t122 t123).bind fun t134 => (some (t134 == (mx (wrap64 (a1 - 64)) 0)))) else (some false))) = some r := by first | (rw [hji90] at H; exact H) | (simp only [hji90] at H ⊢; exact H)
                    (try rw [hji90] at A43)
                    have hji90_ : (if 4611686018427387903 < a1 then 4611686018427387903 else a1) = ji90 := hji90
                    replace H := Option.bind_eq_some_iff.mp H
                    obtain ⟨t133, A910, H⟩ := H
                    replace H : (if (t133 == (decide (a1 < 4611686018427387904))) = true then ((window_Window_Old.f t122 t123).bind fun t134 => (some (t134 == (mx (wrap64 (a1 - 64)) 0)))) else (some false)) = some r := H
                    have A91 := Aside0.mk A910
                    clear A910
                    by_cases c92 : (t133 == (decide (a1 < 4611686018427387904))) = true
                    · rw [if_pos c92] at H
                      have c92b0 : (t133 == (decide (a1 < 4611686018427387904))) = true := c92
                      (try (have c92b1 : decide (t133 = (decide (a1 < 4611686018427387904))) = true := by simpa using c92))
                      (try (have c92b2 : (t133 == (decide (a1 < 4611686018427387904))) = true := by simpa using c92))
                      clear c92
                      replace H := Option.bind_eq_some_iff.mp H
                      obtain ⟨t134, A930, H⟩ := H
                      replace H : (some (t134 == (mx (wrap64 (a1 - 64)) 0))) = some r := H
                      have A93 := Aside0.mk A930
                      clear A930
                      obtain ⟨ji94, hji94⟩ : ∃ j_ : Int, (mx (wrap64 (a1 - 64)) 0) = j_ := ⟨_, rfl⟩
                      replace H : (some (t134 == (ji94))) = some r := by first | (rw [hji94] at H; exact H) | (simp only [hji94] at H ⊢; exact H)
                      (try rw [hji94] at A43)
                      (try rw [hji94] at A91)
                      (try rw [hji94] at A93)
                      have hji94_ : (if (wrap64 (a1 - 64)) < 0 then 0 else (wrap64 (a1 - 64))) = ji94 := hji94
                      obtain rfl := Option.some.inj H
                      have hnb95 := NB125_121.out
                      have hnc95 := NB121_125.out
                      have hcz96_0 : wc.cell? ⟨gb125, 0, none⟩ = some (.int .i64 t122) := (blk_cell BK125.out 0).trans rfl
                      have hcz96_1 : wc.cell? ⟨gb125, 1, none⟩ = some (.int .u64 t123) := (blk_cell BK125.out 1).trans rfl
                      have hfz96_0 := blk_frozen BK125.out 0
                      have hfz96_1 := blk_frozen BK125.out 1
                      go_wp2_with (first | ((with_reducible refine gate_callee (f := 18) rfl ?_); refine goesL_ (some 79) rfl rfl Try.func18 (by kernel_rfl) rfl #[.agg #[.int .i64 t122, .int .u64 t123], .int .i64 (wrap64 (a1 - a2))] rfl (by (try simp only [List.map_toArray, List.map_cons, List.map_nil]); first | done | rfl | (simp only [List.length_drop, List.length_take]; rfl)) ?_; (with_reducible refine (window_Window_Fresh.calls kj17 t122 t123 (wrap64 (a1 - a2)) t128 _ A43.out).mono ?_); rintro e w97 ⟨rfl, hb⟩; refine ⟨_, rfl, ?_⟩; have n0_ := Aside0.mk (blk_below (g := gb121) (o := .cells #[.int .i64 t118, .int .u64 t119] 26 (0, 0)) (by (with_reducible repeat (first | refine blk_drewN ?_ _ | refine blk_drew ?_ | refine blk_alloc ?_ _)); exact BK121.out) hb); have n1_ := Aside0.mk (blk_below (g := gb125) (o := .cells #[.int .i64 t122, .int .u64 t123] 26 (0, 0)) (by (with_reducible repeat (first | refine blk_drewN ?_ _ | refine blk_drew ?_ | refine blk_alloc ?_ _)); exact BK125.out) hb); have n2_ := Aside0.mk (below_step (by repeat (first | (with_reducible first | exact HB.out | apply below_alloc | apply pw_below_drewN | apply below_drew1 | refine below_set ?_ GE121.out | refine below_set ?_ GE125.out) | exact HB.out)) hb); clear BK121; clear BK125; clear HB; have BK121 := n0_; have BK125 := n1_; have HB := n2_; clear n0_ n1_ n2_; (try clear hb); (try clear hb2); (try clear hk); (try clear hi); have hcz98_0 : w97.cell? ⟨gb125, 0, none⟩ = some (.int .i64 t122) := (blk_cell BK125.out 0).trans rfl; have hcz98_1 : w97.cell? ⟨gb125, 1, none⟩ = some (.int .u64 t123) := (blk_cell BK125.out 1).trans rfl; have hfz98_0 := blk_frozen BK125.out 0; have hfz98_1 := blk_frozen BK125.out 1) | (go_at_call 18; (with_reducible refine (window_Window_Fresh.calls kj17 t122 t123 (wrap64 ((ji90) + 1)) t133 _ A91.out).mono ?_); rintro e w99 ⟨rfl, hb⟩; have n0_ := Aside0.mk (blk_below (g := gb121) (o := .cells #[.int .i64 t118, .int .u64 t119] 26 (0, 0)) (by (with_reducible repeat (first | refine blk_drewN ?_ _ | refine blk_drew ?_ | refine blk_alloc ?_ _)); exact BK121.out) hb); have n1_ := Aside0.mk (blk_below (g := gb125) (o := .cells #[.int .i64 t122, .int .u64 t123] 26 (0, 0)) (by (with_reducible repeat (first | refine blk_drewN ?_ _ | refine blk_drew ?_ | refine blk_alloc ?_ _)); exact BK125.out) hb); have n2_ := Aside0.mk (below_step (by repeat (first | (with_reducible first | exact HB.out | apply below_alloc | apply pw_below_drewN | apply below_drew1 | refine below_set ?_ GE121.out | refine below_set ?_ GE125.out) | exact HB.out)) hb); clear BK121; clear BK125; clear HB; have BK121 := n0_; have BK125 := n1_; have HB := n2_; clear n0_ n1_ n2_; (try clear hb); (try clear hb2); (try clear hk); (try clear hi); have hcz100_0 : w99.cell? ⟨gb125, 0, none⟩ = some (.int .i64 t122) := (blk_cell BK125.out 0).trans rfl; have hcz100_1 : w99.cell? ⟨gb125, 1, none⟩ = some (.int .u64 t123) := (blk_cell BK125.out 1).trans rfl; have hfz100_0 := blk_frozen BK125.out 0; have hfz100_1 := blk_frozen BK125.out 1) | (go_at_call 22; (with_reducible refine (window_Window_Old.calls t122 t123 t134 _ A93.out).mono ?_); rintro e w101 ⟨rfl, hb⟩; have n0_ := Aside0.mk (blk_below (g := gb121) (o := .cells #[.int .i64 t118, .int .u64 t119] 26 (0, 0)) (by (with_reducible repeat (first | refine blk_drewN ?_ _ | refine blk_drew ?_ | refine blk_alloc ?_ _)); exact BK121.out) hb); have n1_ := Aside0.mk (blk_below (g := gb125) (o := .cells #[.int .i64 t122, .int .u64 t123] 26 (0, 0)) (by (with_reducible repeat (first | refine blk_drewN ?_ _ | refine blk_drew ?_ | refine blk_alloc ?_ _)); exact BK125.out) hb); have n2_ := Aside0.mk (below_step (by repeat (first | (with_reducible first | exact HB.out | apply below_alloc | apply pw_below_drewN | apply below_drew1 | refine below_set ?_ GE121.out | refine below_set ?_ GE125.out) | exact HB.out)) hb); clear BK121; clear BK125; clear HB; have BK121 := n0_; have BK125 := n1_; have HB := n2_; clear n0_ n1_ n2_; (try clear hb); (try clear hb2); (try clear hk); (try clear hi)))
                      go_ret
                      exact ⟨by first | rfl | (simp [errW_none, errW_some] <;> rfl) | (simp only [← hji90, ← hji94]; first | rfl | (simp [errW_none, errW_some] <;> rfl)) | (simp [*, errW_none, errW_some] <;> rfl), by repeat (first | (with_reducible first | exact HB.out | apply below_alloc | apply pw_below_drewN | apply below_drew1 | refine below_set ?_ GE121.out | refine below_set ?_ GE125.out) | exact HB.out)⟩
                    · rw [if_neg c92] at H
                      have c92b0 : (t133 == (decide (a1 < 4611686018427387904))) = false := by simpa using c92
                      (try (have c92b1 : decide (t133 = (decide (a1 < 4611686018427387904))) = false := by simpa using c92))
                      (try (have c92b2 : (t133 == (decide (a1 < 4611686018427387904))) = false := by simpa using c92))
                      (try (have c92b3 : ¬ (t133 = (decide (a1 < 4611686018427387904))) := by simpa using c92))
                      clear c92
                      obtain rfl := Option.some.inj H
                      have hnb102 := NB125_121.out
                      have hnc102 := NB121_125.out
                      have hcz103_0 : wc.cell? ⟨gb125, 0, none⟩ = some (.int .i64 t122) := (blk_cell BK125.out 0).trans rfl
                      have hcz103_1 : wc.cell? ⟨gb125, 1, none⟩ = some (.int .u64 t123) := (blk_cell BK125.out 1).trans rfl
                      have hfz103_0 := blk_frozen BK125.out 0
                      have hfz103_1 := blk_frozen BK125.out 1
                      go_wp2_with (first | ((with_reducible refine gate_callee (f := 18) rfl ?_); refine goesL_ (some 79) rfl rfl Try.func18 (by kernel_rfl) rfl #[.agg #[.int .i64 t122, .int .u64 t123], .int .i64 (wrap64 (a1 - a2))] rfl (by (try simp only [List.map_toArray, List.map_cons, List.map_nil]); first | done | rfl | (simp only [List.length_drop, List.length_take]; rfl)) ?_; (with_reducible refine (window_Window_Fresh.calls kj17 t122 t123 (wrap64 (a1 - a2)) t128 _ A43.out).mono ?_); rintro e w104 ⟨rfl, hb⟩; refine ⟨_, rfl, ?_⟩; have n0_ := Aside0.mk (blk_below (g := gb121) (o := .cells #[.int .i64 t118, .int .u64 t119] 26 (0, 0)) (by (with_reducible repeat (first | refine blk_drewN ?_ _ | refine blk_drew ?_ | refine blk_alloc ?_ _)); exact BK121.out) hb); have n1_ := Aside0.mk (blk_below (g := gb125) (o := .cells #[.int .i64 t122, .int .u64 t123] 26 (0, 0)) (by (with_reducible repeat (first | refine blk_drewN ?_ _ | refine blk_drew ?_ | refine blk_alloc ?_ _)); exact BK125.out) hb); have n2_ := Aside0.mk (below_step (by repeat (first | (with_reducible first | exact HB.out | apply below_alloc | apply pw_below_drewN | apply below_drew1 | refine below_set ?_ GE121.out | refine below_set ?_ GE125.out) | exact HB.out)) hb); clear BK121; clear BK125; clear HB; have BK121 := n0_; have BK125 := n1_; have HB := n2_; clear n0_ n1_ n2_; (try clear hb); (try clear hb2); (try clear hk); (try clear hi); have hcz105_0 : w104.cell? ⟨gb125, 0, none⟩ = some (.int .i64 t122) := (blk_cell BK125.out 0).trans rfl; have hcz105_1 : w104.cell? ⟨gb125, 1, none⟩ = some (.int .u64 t123) := (blk_cell BK125.out 1).trans rfl; have hfz105_0 := blk_frozen BK125.out 0; have hfz105_1 := blk_frozen BK125.out 1) | (go_at_call 18; (with_reducible refine (window_Window_Fresh.calls kj17 t122 t123 (wrap64 ((ji90) + 1)) t133 _ A91.out).mono ?_); rintro e w106 ⟨rfl, hb⟩; have n0_ := Aside0.mk (blk_below (g := gb121) (o := .cells #[.int .i64 t118, .int .u64 t119] 26 (0, 0)) (by (with_reducible repeat (first | refine blk_drewN ?_ _ | refine blk_drew ?_ | refine blk_alloc ?_ _)); exact BK121.out) hb); have n1_ := Aside0.mk (blk_below (g := gb125) (o := .cells #[.int .i64 t122, .int .u64 t123] 26 (0, 0)) (by (with_reducible repeat (first | refine blk_drewN ?_ _ | refine blk_drew ?_ | refine blk_alloc ?_ _)); exact BK125.out) hb); have n2_ := Aside0.mk (below_step (by repeat (first | (with_reducible first | exact HB.out | apply below_alloc | apply pw_below_drewN | apply below_drew1 | refine below_set ?_ GE121.out | refine below_set ?_ GE125.out) | exact HB.out)) hb); clear BK121; clear BK125; clear HB; have BK121 := n0_; have BK125 := n1_; have HB := n2_; clear n0_ n1_ n2_; (try clear hb); (try clear hb2); (try clear hk); (try clear hi)))
                      go_ret
                      exact ⟨by first | rfl | (simp [errW_none, errW_some] <;> rfl) | (simp only [← hji90]; first | rfl | (simp [errW_none, errW_some] <;> rfl)) | (simp [*, errW_none, errW_some] <;> rfl), by repeat (first | (with_reducible first | exact HB.out | apply below_alloc | apply pw_below_drewN | apply below_drew1 | refine below_set ?_ GE121.out | refine below_set ?_ GE125.out) | exact HB.out)⟩
                  · rw [if_neg c89] at H
                    have c89b0 : (t128 == false) = false := by simpa using c89
                    (try (have c89b1 : decide (t128 = false) = false := by simpa using c89))
                    (try (have c89b2 : (t128 == false) = false := by simpa using c89))
                    (try (have c89b3 : ¬ (t128 = false) := by simpa using c89))
                    clear c89
                    obtain rfl := Option.some.inj H
                    have hnb107 := NB125_121.out
                    have hnc107 := NB121_125.out
                    have hcz108_0 : wc.cell? ⟨gb125, 0, none⟩ = some (.int .i64 t122) := (blk_cell BK125.out 0).trans rfl
                    have hcz108_1 : wc.cell? ⟨gb125, 1, none⟩ = some (.int .u64 t123) := (blk_cell BK125.out 1).trans rfl
                    have hfz108_0 := blk_frozen BK125.out 0
                    have hfz108_1 := blk_frozen BK125.out 1
                    go_wp2_with (first | ((with_reducible refine gate_callee (f := 18) rfl ?_); refine goesL_ (some 79) rfl rfl Try.func18 (by kernel_rfl) rfl #[.agg #[.int .i64 t122, .int .u64 t123], .int .i64 (wrap64 (a1 - a2))] rfl (by (try simp only [List.map_toArray, List.map_cons, List.map_nil]); first | done | rfl | (simp only [List.length_drop, List.length_take]; rfl)) ?_; (with_reducible refine (window_Window_Fresh.calls kj17 t122 t123 (wrap64 (a1 - a2)) t128 _ A43.out).mono ?_); rintro e w109 ⟨rfl, hb⟩; refine ⟨_, rfl, ?_⟩; have n0_ := Aside0.mk (blk_below (g := gb121) (o := .cells #[.int .i64 t118, .int .u64 t119] 26 (0, 0)) (by (with_reducible repeat (first | refine blk_drewN ?_ _ | refine blk_drew ?_ | refine blk_alloc ?_ _)); exact BK121.out) hb); have n1_ := Aside0.mk (blk_below (g := gb125) (o := .cells #[.int .i64 t122, .int .u64 t123] 26 (0, 0)) (by (with_reducible repeat (first | refine blk_drewN ?_ _ | refine blk_drew ?_ | refine blk_alloc ?_ _)); exact BK125.out) hb); have n2_ := Aside0.mk (below_step (by repeat (first | (with_reducible first | exact HB.out | apply below_alloc | apply pw_below_drewN | apply below_drew1 | refine below_set ?_ GE121.out | refine below_set ?_ GE125.out) | exact HB.out)) hb); clear BK121; clear BK125; clear HB; have BK121 := n0_; have BK125 := n1_; have HB := n2_; clear n0_ n1_ n2_; (try clear hb); (try clear hb2); (try clear hk); (try clear hi)))
                    go_ret
                    exact ⟨by first | rfl | (simp [errW_none, errW_some] <;> rfl) | (simp [*, errW_none, errW_some] <;> rfl), by repeat (first | (with_reducible first | exact HB.out | apply below_alloc | apply pw_below_drewN | apply below_drew1 | refine below_set ?_ GE121.out | refine below_set ?_ GE125.out) | exact HB.out)⟩
              · rw [if_neg c44] at H
                have c44b0 : decide (1 ≤ a2) = false := decide_eq_false c44
                clear c44
                by_cases c110 : (t128 == false) = true
                · rw [if_pos c110] at H
                  have c110b0 : (t128 == false) = true := c110
                  (try (have c110b1 : decide (t128 = false) = true := by simpa using c110))
                  (try (have c110b2 : (t128 == false) = true := by simpa using c110))
                  clear c110
                  obtain ⟨ji111, hji111⟩ : ∃ j_ : Int, (mn a1 4611686018427387903) = j_ := ⟨_, rfl⟩
                  replace H : ((window_Window_Fresh.f kj17 t122 t123 (wrap64 ((ji111) + 1))).bind fun t135 => (if (t135 == (decide (a1 < 4611686018427387904))) = true then ((window_Window_Old.f t122 t123).bind fun t136 => (some (t136 == (mx (wrap64 (a1 - 64)) 0)))) else (some false))) = some r := by first | (rw [hji111] at H; exact H) | (simp only [hji111] at H ⊢; exact H)
                  (try rw [hji111] at A43)
                  have hji111_ : (if 4611686018427387903 < a1 then 4611686018427387903 else a1) = ji111 := hji111
                  replace H := Option.bind_eq_some_iff.mp H
                  obtain ⟨t135, A1120, H⟩ := H
                  replace H : (if (t135 == (decide (a1 < 4611686018427387904))) = true then ((window_Window_Old.f t122 t123).bind fun t136 => (some (t136 == (mx (wrap64 (a1 - 64)) 0)))) else (some false)) = some r := H
                  have A112 := Aside0.mk A1120
                  clear A1120
                  by_cases c113 : (t135 == (decide (a1 < 4611686018427387904))) = true
                  · rw [if_pos c113] at H
                    have c113b0 : (t135 == (decide (a1 < 4611686018427387904))) = true := c113
                    (try (have c113b1 : decide (t135 = (decide (a1 < 4611686018427387904))) = true := by simpa using c113))
                    (try (have c113b2 : (t135 == (decide (a1 < 4611686018427387904))) = true := by simpa using c113))
                    clear c113
                    replace H := Option.bind_eq_some_iff.mp H
                    obtain ⟨t136, A1140, H⟩ := H
                    replace H : (some (t136 == (mx (wrap64 (a1 - 64)) 0))) = some r := H
                    have A114 := Aside0.mk A1140
                    clear A1140
                    obtain ⟨ji115, hji115⟩ : ∃ j_ : Int, (mx (wrap64 (a1 - 64)) 0) = j_ := ⟨_, rfl⟩
                    replace H : (some (t136 == (ji115))) = some r := by first | (rw [hji115] at H; exact H) | (simp only [hji115] at H ⊢; exact H)
                    (try rw [hji115] at A43)
                    (try rw [hji115] at A112)
                    (try rw [hji115] at A114)
                    have hji115_ : (if (wrap64 (a1 - 64)) < 0 then 0 else (wrap64 (a1 - 64))) = ji115 := hji115
                    obtain rfl := Option.some.inj H
                    have hnb116 := NB125_121.out
                    have hnc116 := NB121_125.out
                    have hcz117_0 : wc.cell? ⟨gb125, 0, none⟩ = some (.int .i64 t122) := (blk_cell BK125.out 0).trans rfl
                    have hcz117_1 : wc.cell? ⟨gb125, 1, none⟩ = some (.int .u64 t123) := (blk_cell BK125.out 1).trans rfl
                    have hfz117_0 := blk_frozen BK125.out 0
                    have hfz117_1 := blk_frozen BK125.out 1
                    go_wp2_with (first | ((with_reducible refine gate_callee (f := 18) rfl ?_); refine goesL_ (some 79) rfl rfl Try.func18 (by kernel_rfl) rfl #[.agg #[.int .i64 t122, .int .u64 t123], .int .i64 (wrap64 (a1 - a2))] rfl (by (try simp only [List.map_toArray, List.map_cons, List.map_nil]); first | done | rfl | (simp only [List.length_drop, List.length_take]; rfl)) ?_; (with_reducible refine (window_Window_Fresh.calls kj17 t122 t123 (wrap64 (a1 - a2)) t128 _ A43.out).mono ?_); rintro e w118 ⟨rfl, hb⟩; refine ⟨_, rfl, ?_⟩; have n0_ := Aside0.mk (blk_below (g := gb121) (o := .cells #[.int .i64 t118, .int .u64 t119] 26 (0, 0)) (by (with_reducible repeat (first | refine blk_drewN ?_ _ | refine blk_drew ?_ | refine blk_alloc ?_ _)); exact BK121.out) hb); have n1_ := Aside0.mk (blk_below (g := gb125) (o := .cells #[.int .i64 t122, .int .u64 t123] 26 (0, 0)) (by (with_reducible repeat (first | refine blk_drewN ?_ _ | refine blk_drew ?_ | refine blk_alloc ?_ _)); exact BK125.out) hb); have n2_ := Aside0.mk (below_step (by repeat (first | (with_reducible first | exact HB.out | apply below_alloc | apply pw_below_drewN | apply below_drew1 | refine below_set ?_ GE121.out | refine below_set ?_ GE125.out) | exact HB.out)) hb); clear BK121; clear BK125; clear HB; have BK121 := n0_; have BK125 := n1_; have HB := n2_; clear n0_ n1_ n2_; (try clear hb); (try clear hb2); (try clear hk); (try clear hi); have hcz119_0 : w118.cell? ⟨gb125, 0, none⟩ = some (.int .i64 t122) := (blk_cell BK125.out 0).trans rfl; have hcz119_1 : w118.cell? ⟨gb125, 1, none⟩ = some (.int .u64 t123) := (blk_cell BK125.out 1).trans rfl; have hfz119_0 := blk_frozen BK125.out 0; have hfz119_1 := blk_frozen BK125.out 1) | (go_at_call 18; (with_reducible refine (window_Window_Fresh.calls kj17 t122 t123 (wrap64 ((ji111) + 1)) t135 _ A112.out).mono ?_); rintro e w120 ⟨rfl, hb⟩; have n0_ := Aside0.mk (blk_below (g := gb121) (o := .cells #[.int .i64 t118, .int .u64 t119] 26 (0, 0)) (by (with_reducible repeat (first | refine blk_drewN ?_ _ | refine blk_drew ?_ | refine blk_alloc ?_ _)); exact BK121.out) hb); have n1_ := Aside0.mk (blk_below (g := gb125) (o := .cells #[.int .i64 t122, .int .u64 t123] 26 (0, 0)) (by (with_reducible repeat (first | refine blk_drewN ?_ _ | refine blk_drew ?_ | refine blk_alloc ?_ _)); exact BK125.out) hb); have n2_ := Aside0.mk (below_step (by repeat (first | (with_reducible first | exact HB.out | apply below_alloc | apply pw_below_drewN | apply below_drew1 | refine below_set ?_ GE121.out | refine below_set ?_ GE125.out) | exact HB.out)) hb); clear BK121; clear BK125; clear HB; have BK121 := n0_; have BK125 := n1_; have HB := n2_; clear n0_ n1_ n2_; (try clear hb); (try clear hb2); (try clear hk); (try clear hi); have hcz121_0 : w120.cell? ⟨gb125, 0, none⟩ = some (.int .i64 t122) := (blk_cell BK125.out 0).trans rfl; have hcz121_1 : w120.cell? ⟨gb125, 1, none⟩ = some (.int .u64 t123) := (blk_cell BK125.out 1).trans rfl; have hfz121_0 := blk_frozen BK125.out 0; have hfz121_1 := blk_frozen BK125.out 1) | (go_at_call 22; (with_reducible refine (window_Window_Old.calls t122 t123 t136 _ A114.out).mono ?_); rintro e w122 ⟨rfl, hb⟩; have n0_ := Aside0.mk (blk_below (g := gb121) (o := .cells #[.int .i64 t118, .int .u64 t119] 26 (0, 0)) (by (with_reducible repeat (first | refine blk_drewN ?_ _ | refine blk_drew ?_ | refine blk_alloc ?_ _)); exact BK121.out) hb); have n1_ := Aside0.mk (blk_below (g := gb125) (o := .cells #[.int .i64 t122, .int .u64 t123] 26 (0, 0)) (by (with_reducible repeat (first | refine blk_drewN ?_ _ | refine blk_drew ?_ | refine blk_alloc ?_ _)); exact BK125.out) hb); have n2_ := Aside0.mk (below_step (by repeat (first | (with_reducible first | exact HB.out | apply below_alloc | apply pw_below_drewN | apply below_drew1 | refine below_set ?_ GE121.out | refine below_set ?_ GE125.out) | exact HB.out)) hb); clear BK121; clear BK125; clear HB; have BK121 := n0_; have BK125 := n1_; have HB := n2_; clear n0_ n1_ n2_; (try clear hb); (try clear hb2); (try clear hk); (try clear hi)))
                    go_ret
                    exact ⟨by first | rfl | (simp [errW_none, errW_some] <;> rfl) | (simp only [← hji111, ← hji115]; first | rfl | (simp [errW_none, errW_some] <;> rfl)) | (simp [*, errW_none, errW_some] <;> rfl), by repeat (first | (with_reducible first | exact HB.out | apply below_alloc | apply pw_below_drewN | apply below_drew1 | refine below_set ?_ GE121.out | refine below_set ?_ GE125.out) | exact HB.out)⟩
                  · rw [if_neg c113] at H
                    have c113b0 : (t135 == (decide (a1 < 4611686018427387904))) = false := by simpa using c113
                    (try (have c113b1 : decide (t135 = (decide (a1 < 4611686018427387904))) = false := by simpa using c113))
                    (try (have c113b2 : (t135 == (decide (a1 < 4611686018427387904))) = false := by simpa using c113))
                    (try (have c113b3 : ¬ (t135 = (decide (a1 < 4611686018427387904))) := by simpa using c113))
                    clear c113
                    obtain rfl := Option.some.inj H
                    have hnb123 := NB125_121.out
                    have hnc123 := NB121_125.out
                    have hcz124_0 : wc.cell? ⟨gb125, 0, none⟩ = some (.int .i64 t122) := (blk_cell BK125.out 0).trans rfl
                    have hcz124_1 : wc.cell? ⟨gb125, 1, none⟩ = some (.int .u64 t123) := (blk_cell BK125.out 1).trans rfl
                    have hfz124_0 := blk_frozen BK125.out 0
                    have hfz124_1 := blk_frozen BK125.out 1
                    go_wp2_with (first | ((with_reducible refine gate_callee (f := 18) rfl ?_); refine goesL_ (some 79) rfl rfl Try.func18 (by kernel_rfl) rfl #[.agg #[.int .i64 t122, .int .u64 t123], .int .i64 (wrap64 (a1 - a2))] rfl (by (try simp only [List.map_toArray, List.map_cons, List.map_nil]); first | done | rfl | (simp only [List.length_drop, List.length_take]; rfl)) ?_; (with_reducible refine (window_Window_Fresh.calls kj17 t122 t123 (wrap64 (a1 - a2)) t128 _ A43.out).mono ?_); rintro e w125 ⟨rfl, hb⟩; refine ⟨_, rfl, ?_⟩; have n0_ := Aside0.mk (blk_below (g := gb121) (o := .cells #[.int .i64 t118, .int .u64 t119] 26 (0, 0)) (by (with_reducible repeat (first | refine blk_drewN ?_ _ | refine blk_drew ?_ | refine blk_alloc ?_ _)); exact BK121.out) hb); have n1_ := Aside0.mk (blk_below (g := gb125) (o := .cells #[.int .i64 t122, .int .u64 t123] 26 (0, 0)) (by (with_reducible repeat (first | refine blk_drewN ?_ _ | refine blk_drew ?_ | refine blk_alloc ?_ _)); exact BK125.out) hb); have n2_ := Aside0.mk (below_step (by repeat (first | (with_reducible first | exact HB.out | apply below_alloc | apply pw_below_drewN | apply below_drew1 | refine below_set ?_ GE121.out | refine below_set ?_ GE125.out) | exact HB.out)) hb); clear BK121; clear BK125; clear HB; have BK121 := n0_; have BK125 := n1_; have HB := n2_; clear n0_ n1_ n2_; (try clear hb); (try clear hb2); (try clear hk); (try clear hi); have hcz126_0 : w125.cell? ⟨gb125, 0, none⟩ = some (.int .i64 t122) := (blk_cell BK125.out 0).trans rfl; have hcz126_1 : w125.cell? ⟨gb125, 1, none⟩ = some (.int .u64 t123) := (blk_cell BK125.out 1).trans rfl; have hfz126_0 := blk_frozen BK125.out 0; have hfz126_1 := blk_frozen BK125.out 1) | (go_at_call 18; (with_reducible refine (window_Window_Fresh.calls kj17 t122 t123 (wrap64 ((ji111) + 1)) t135 _ A112.out).mono ?_); rintro e w127 ⟨rfl, hb⟩; have n0_ := Aside0.mk (blk_below (g := gb121) (o := .cells #[.int .i64 t118, .int .u64 t119] 26 (0, 0)) (by (with_reducible repeat (first | refine blk_drewN ?_ _ | refine blk_drew ?_ | refine blk_alloc ?_ _)); exact BK121.out) hb); have n1_ := Aside0.mk (blk_below (g := gb125) (o := .cells #[.int .i64 t122, .int .u64 t123] 26 (0, 0)) (by (with_reducible repeat (first | refine blk_drewN ?_ _ | refine blk_drew ?_ | refine blk_alloc ?_ _)); exact BK125.out) hb); have n2_ := Aside0.mk (below_step (by repeat (first | (with_reducible first | exact HB.out | apply below_alloc | apply pw_below_drewN | apply below_drew1 | refine below_set ?_ GE121.out | refine below_set ?_ GE125.out) | exact HB.out)) hb); clear BK121; clear BK125; clear HB; have BK121 := n0_; have BK125 := n1_; have HB := n2_; clear n0_ n1_ n2_; (try clear hb); (try clear hb2); (try clear hk); (try clear hi)))
                    go_ret
                    exact ⟨by first | rfl | (simp [errW_none, errW_some] <;> rfl) | (simp only [← hji111]; first | rfl | (simp [errW_none, errW_some] <;> rfl)) | (simp [*, errW_none, errW_some] <;> rfl), by repeat (first | (with_reducible first | exact HB.out | apply below_alloc | apply pw_below_drewN | apply below_drew1 | refine below_set ?_ GE121.out | refine below_set ?_ GE125.out) | exact HB.out)⟩
                · rw [if_neg c110] at H
                  have c110b0 : (t128 == false) = false := by simpa using c110
                  (try (have c110b1 : decide (t128 = false) = false := by simpa using c110))
                  (try (have c110b2 : (t128 == false) = false := by simpa using c110))
                  (try (have c110b3 : ¬ (t128 = false) := by simpa using c110))
                  clear c110
                  obtain rfl := Option.some.inj H
                  have hnb128 := NB125_121.out
                  have hnc128 := NB121_125.out
                  have hcz129_0 : wc.cell? ⟨gb125, 0, none⟩ = some (.int .i64 t122) := (blk_cell BK125.out 0).trans rfl
                  have hcz129_1 : wc.cell? ⟨gb125, 1, none⟩ = some (.int .u64 t123) := (blk_cell BK125.out 1).trans rfl
                  have hfz129_0 := blk_frozen BK125.out 0
                  have hfz129_1 := blk_frozen BK125.out 1
                  go_wp2_with (first | ((with_reducible refine gate_callee (f := 18) rfl ?_); refine goesL_ (some 79) rfl rfl Try.func18 (by kernel_rfl) rfl #[.agg #[.int .i64 t122, .int .u64 t123], .int .i64 (wrap64 (a1 - a2))] rfl (by (try simp only [List.map_toArray, List.map_cons, List.map_nil]); first | done | rfl | (simp only [List.length_drop, List.length_take]; rfl)) ?_; (with_reducible refine (window_Window_Fresh.calls kj17 t122 t123 (wrap64 (a1 - a2)) t128 _ A43.out).mono ?_); rintro e w130 ⟨rfl, hb⟩; refine ⟨_, rfl, ?_⟩; have n0_ := Aside0.mk (blk_below (g := gb121) (o := .cells #[.int .i64 t118, .int .u64 t119] 26 (0, 0)) (by (with_reducible repeat (first | refine blk_drewN ?_ _ | refine blk_drew ?_ | refine blk_alloc ?_ _)); exact BK121.out) hb); have n1_ := Aside0.mk (blk_below (g := gb125) (o := .cells #[.int .i64 t122, .int .u64 t123] 26 (0, 0)) (by (with_reducible repeat (first | refine blk_drewN ?_ _ | refine blk_drew ?_ | refine blk_alloc ?_ _)); exact BK125.out) hb); have n2_ := Aside0.mk (below_step (by repeat (first | (with_reducible first | exact HB.out | apply below_alloc | apply pw_below_drewN | apply below_drew1 | refine below_set ?_ GE121.out | refine below_set ?_ GE125.out) | exact HB.out)) hb); clear BK121; clear BK125; clear HB; have BK121 := n0_; have BK125 := n1_; have HB := n2_; clear n0_ n1_ n2_; (try clear hb); (try clear hb2); (try clear hk); (try clear hi)))
                  go_ret
                  exact ⟨by first | rfl | (simp [errW_none, errW_some] <;> rfl) | (simp [*, errW_none, errW_some] <;> rfl), by repeat (first | (with_reducible first | exact HB.out | apply below_alloc | apply pw_below_drewN | apply below_drew1 | refine below_set ?_ GE121.out | refine below_set ?_ GE125.out) | exact HB.out)⟩

/-- THE ONE PURE STATEMENT of pontoonlaw6_WindowFar: yours. -/
def pontoonlaw6_WindowFar.Pure : Prop := ∀ (a0 : Int) (a1 : Int) (a2 : Int), (Lit.int .i64 a0).wf = true → (Lit.int .i64 a1).wf = true → (Lit.int .i64 a2).wf = true → ∃ k, pontoonlaw6_WindowFar.f k a0 a1 a2 = some true
theorem pontoonlaw6_WindowFar.walk (P : pontoonlaw6_WindowFar.Pure) (a0 : Int) (a1 : Int) (a2 : Int) (w : World) (w0 : (Lit.int .i64 a0).wf = true) (w1 : (Lit.int .i64 a1).wf = true) (w2 : (Lit.int .i64 a2).wf = true) :
    Calls Try.prog 9 #[.int .i64 a0, .int .i64 a1, .int .i64 a2] w fun e w' => e = .returned (.bool true) ∧ Below w.heap.size w w' := by
  obtain ⟨k, h⟩ := P a0 a1 a2 w0 w1 w2
  refine (pontoonlaw6_WindowFar.calls k a0 a1 a2 true w h).mono ?_
  rintro e w' ⟨rfl, hd⟩
  exact ⟨rfl, hd⟩

end Go.Proofs.Ytgilccdajlpeaaa.PWindowFar
