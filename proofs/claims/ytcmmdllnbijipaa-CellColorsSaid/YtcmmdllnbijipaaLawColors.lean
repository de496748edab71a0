/- The walk of CellColors. Conditions: those in each theorem. -/
import Derived.Test.YtcmmdllnbijipaaPureColors
import Derived.OpenShut
namespace Go.Proofs.Ytcmmdllnbijipaa.Colors
open Go.RowKit Go.Proofs.Ytcmmdllnbijipaa.PCellSgr Go.Proofs.Ytcmmdllnbijipaa.Pure Go.Proofs.YtcmmdllnbijipaaW.PrintWords Go.Proofs.YtcmmdllnbijipaaW.PrintLast Go.Proofs.YtcmmdllnbijipaaW.PrintMore
attribute [local go_sem] max2_int min2_int max_two min_two max_three min_three max_four min_four
set_option linter.unusedVariables false
set_option linter.unusedSimpArgs false

theorem alive (w : World) : Calls Try.prog 21 #[] w fun e w' => e = .returned (.bool true) ∧ Below w.heap.size w w' :=
  pontoonlaw14_alive.calls 20 true w (alive_ok 20 (Nat.le_refl _))
theorem valid_t (f g : Int) (x y z : Bool) (h : V (f, g, x, y, z)) (w : World) : Calls Try.prog 20 #[.agg #[.int .i64 f, .int .i64 g, .bool x, .bool y, .bool z]] w fun e w' => e = .returned (.bool true) ∧ Below w.heap.size w w' :=
  pontoonref12_ValidAttr.calls f g x y z true w (by
    obtain ⟨v1, v2, v3, v4⟩ := h
    unfold pontoonref12_ValidAttr.f
    rw [if_pos v1, if_pos v2, if_pos v3, decide_eq_true v4])
theorem valid_f (f g : Int) (x y z : Bool) (h : ¬ V (f, g, x, y, z)) (w : World) : Calls Try.prog 20 #[.agg #[.int .i64 f, .int .i64 g, .bool x, .bool y, .bool z]] w fun e w' => e = .returned (.bool false) ∧ Below w.heap.size w w' :=
  pontoonref12_ValidAttr.calls f g x y z false w (by
    unfold pontoonref12_ValidAttr.f
    by_cases v1 : f ≥ 0
    · rw [if_pos v1]
      by_cases v2 : f ≤ 16
      · rw [if_pos v2]
        by_cases v3 : g ≥ 0
        · rw [if_pos v3, decide_eq_false (fun v4 => h ⟨v1, v2, v3, v4⟩)]
        · rw [if_neg v3]
      · rw [if_neg v2]
    · rw [if_neg v1])
theorem takeH {P : Program} {md : Region.Mode} {ops : Array Oper} {Q : Exit → Act → World → Prop} {S : World → Prop} {i d : Nat} {oi : Oper} {v : Value} {fuel : Nat} {listed : Array Bool} {a : Act} {w : World} (hi : ops[i]? = some oi) (hd : oi.dst = some d)
    (hs : Region.noSelect ops = true) (hf : Region.free md ops listed i = true) (hr : (Region.ready md ops listed).contains i = true)
    (hQ : ∀ c a w, Q (.panic c) (a.put oi.dst v) w → Q (.panic c) a w) (hy : YieldsIf P ops S oi v a) (hS : S w)
    (h : wpAnyH P md ops Q S fuel (listed.setIfInBounds i true) { a with tmps := a.tmps.setIfInBounds d v } w) : wpAnyH P md ops Q S (fuel + 1) listed a w :=
  wpAnyH_take hi hs hf hr hQ hy hS (by rw [hd]; exact h)
/-- What the last region holds: the base, and the four looks. -/
def ColS (f g k : Int) (x y z : Bool) (w : World) (ga gb gc gd : Nat) (w' : World) : Prop :=
  Below w.heap.size w w' ∧ w'.heap[ga]? = some (.cells #[.int .i64 f, .int .i64 g, .bool x, .bool y, .bool z] 23 (0, 0)) ∧ w'.heap[gb]? = some (.cells #[.int .i64 (k + 1), .int .i64 g, .bool x, .bool y, .bool z] 23 (0, 0)) ∧ w'.heap[gc]? = some (.cells #[.int .i64 f, .int .i64 (k + 1), .bool x, .bool y, .bool z] 23 (0, 0)) ∧ w'.heap[gd]? = some (.cells #[.int .i64 0, .int .i64 g, .bool x, .bool y, .bool z] 23 (0, 0))
section
variable {f g k : Int} {x y z : Bool} {w : World} {ga gb gc gd : Nat} {w' w2 : World}
theorem colS_drew (h : ColS f g k x y z w ga gb gc gd w') : ColS f g k x y z w ga gb gc gd w'.drew := ⟨below_drew h.1, h.2⟩
theorem colS_alloc (h : ColS f g k x y z w ga gb gc gd w') (o : Obj) : ColS f g k x y z w ga gb gc gd (w'.alloc o) := ⟨below_alloc h.1 _, blk_alloc h.2.1 _, blk_alloc h.2.2.1 _, blk_alloc h.2.2.2.1 _, blk_alloc h.2.2.2.2 _⟩
theorem colS_step (h : ColS f g k x y z w ga gb gc gd w') (hb : Below w'.heap.size w' w2) : ColS f g k x y z w ga gb gc gd w2 := ⟨below_step h.1 hb, blk_below h.2.1 hb, blk_below h.2.2.1 hb, blk_below h.2.2.2.1 hb, blk_below h.2.2.2.2 hb⟩
theorem colS_new (h1 : Below w.heap.size w w') (h2 : w'.heap[ga]? = some (.cells #[.int .i64 f, .int .i64 g, .bool x, .bool y, .bool z] 23 (0, 0))) (h3 : w'.heap[gb]? = some (.cells #[.int .i64 (k + 1), .int .i64 g, .bool x, .bool y, .bool z] 23 (0, 0))) (h4 : w'.heap[gc]? = some (.cells #[.int .i64 f, .int .i64 (k + 1), .bool x, .bool y, .bool z] 23 (0, 0))) (hd : gd = w'.heap.size) :
    ColS f g k x y z w ga gb gc gd (w'.alloc (.cells #[.int .i64 0, .int .i64 g, .bool x, .bool y, .bool z] 23)) := by
  subst hd
  exact ⟨below_alloc h1 _, blk_alloc h2 _, blk_alloc h3 _, blk_alloc h4 _, blk_new _ _⟩
end
theorem sgr_lit (a b : At) (k : Nat) (l : List Int) (w : World) (hl : l.length ≤ 9223372036854775807) (h : cell_Sgr.f k a.1 a.2.1 a.2.2.1 a.2.2.2.1 a.2.2.2.2 l = some b) :
    Calls Try.prog 22 #[.agg #[.int .i64 a.1, .int .i64 a.2.1, .bool a.2.2.1, .bool a.2.2.2.1, .bool a.2.2.2.2], .slice (some ⟨w.heap.size, 0, none⟩) l.length l.length] (w.alloc (.cells (nums .i64 l).toArray 3)) fun e w' => e = .returned (.agg #[.int .i64 b.1, .int .i64 b.2.1, .bool b.2.2.1, .bool b.2.2.2.1, .bool b.2.2.2.2]) ∧ Below (w.alloc (.cells (nums .i64 l).toArray 3)).heap.size (w.alloc (.cells (nums .i64 l).toArray 3)) w' := by
  have ho := own_lit w w.heap.size 3 .i64 l (Nat.le_refl _) hl
  have hR : (Kd.int .i64).R 3 (w.alloc (.cells (nums .i64 l).toArray 3)) w.heap.size (fun _ => True) (.slice (some ⟨w.heap.size, 0, none⟩) l.length l.length) l := Kd.R_of_own ho (fun _ _ => trivial)
  exact cell_Sgr.calls k _ _ _ _ _ (fun k_ => some k_ = (.slice (some ⟨w.heap.size, 0, none⟩) l.length l.length : Value).ownBlock) _ _ l _ _ _ _ _ _ (Kd.R_V (Kd.R_tight rfl hR)) h
theorem two_new (w : World) (o o' : Obj) : ((w.alloc o).alloc o').heap[w.heap.size + 1]? = some o' := by
  have := blk_new (w.alloc o) o'
  rwa [World.size_alloc] at this
theorem k_w (n : Int) : wrap64 (n.tmod 16 + 16) = n.tmod 16 + 16 := by
  have h1 := Int.tmod_lt_of_pos n (show (0 : Int) < 16 by decide)
  have h2 := Int.lt_tmod_of_pos n (show (0 : Int) < 16 by decide)
  exact c_wrap (by omega) (by omega)
set_option maxHeartbeats 8000000 in
set_option maxRecDepth 100000 in
theorem colors_live (f g : Int) (x y z : Bool) (n : Int) (k low : Int) (w : World) (hv : V (f, g, x, y, z)) (h0 : 0 ≤ k) (h1 : k < 16) (hk : (n.tmod 16 + 16).tmod 16 = k) (hlow : low = if k < 8 then 30 + k else 82 + k) :
    Calls Try.prog 5 #[.agg #[.int .i64 f, .int .i64 g, .bool x, .bool y, .bool z], .int .i64 n] w fun r w' => r = .returned (.bool true) ∧ Below w.heap.size w w' := by
  have hu23 := Try.underlying23
  have HB0 := Aside0.mk (below_alloc (Below.refl w.heap.size w) (.cells #[.int .i64 f, .int .i64 g, .bool x, .bool y, .bool z] 23))
  have BK0 := Aside0.mk (blk_new w (.cells #[.int .i64 f, .int .i64 g, .bool x, .bool y, .bool z] 23))
  have HV := Aside0.mk hv
  clear hv
  have F1 := Aside0.mk (col1 (f, g, x, y, z) h0 h1 hlow)
  have F2 := Aside0.mk (col2 (f, g, x, y, z) h0 h1 hlow)
  have F3 := Aside0.mk (col3 (f, g, x, y, z) h0 h1)
  have F4 := Aside0.mk (col4 (f, g, x, y, z) h0 h1)
  have F5 := Aside0.mk (col5 (f, g, x, y, z))
  have F6 := Aside0.mk (col6 (f, g, x, y, z) h0 h1)
  have F7 := Aside0.mk (col7 (f, g, x, y, z))
  have F8 := Aside0.mk (col8 (f, g, x, y, z))
  have F9 := Aside0.mk (col9 (f, g, x, y, z) h0 h1)
  have F10 := Aside0.mk (col10 (f, g, x, y, z))
  have q1 : wrap64 (low + 10) = low + 10 := c_wrap (by rw [hlow]; split <;> omega) (by rw [hlow]; split <;> omega)
  have q2 : wrap64 (16 + k) = 16 + k := c_wrap (by omega) (by omega)
  have q3 : wrap64 (200 + k) = 200 + k := c_wrap (by omega) (by omega)
  have q1' : IntKind.i64.wrap (low + 10) = low + 10 := by simp only [i64_w]; exact q1
  have q2' : IntKind.i64.wrap (16 + k) = 16 + k := by simp only [i64_w]; exact q2
  have q3' : IntKind.i64.wrap (200 + k) = 200 + k := by simp only [i64_w]; exact q3
  go_enter Try.func5, Try.ntmps5
  go_wp2_with fail
  refine (valid_t f g x y z HV.out _).mono ?_
  rintro e1 w1 ⟨rfl, hb1⟩
  have HB1 := Aside0.mk (below_step HB0.out hb1)
  have BK1 := Aside0.mk (blk_below BK0.out hb1)
  clear hb1
  go_wp2_with fail
  refine (alive _).mono ?_
  rintro e2 w2 ⟨rfl, hb2⟩
  have HB2 := Aside0.mk (below_step HB1.out hb2)
  have BK2 := Aside0.mk (blk_below BK1.out hb2)
  clear hb2
  have hmod : (wrap64 (n.tmod 16 + 16)).tmod 16 = k := by rw [k_w n]; exact hk
  have h30 : wrap64 (30 + k) = 30 + k := c_wrap (by omega) (by omega)
  have h82 : wrap64 (82 + k) = 82 + k := c_wrap (by omega) (by omega)
  have hk1 : wrap64 (k + 1) = k + 1 := c_wrap (by omega) (by omega)
  clear hk
  have c0 : w2.cell? ⟨w.heap.size, 0, none⟩ = some (.int .i64 f) := (blk_cell BK2.out 0).trans rfl
  have c1 : w2.cell? ⟨w.heap.size, 1, none⟩ = some (.int .i64 g) := (blk_cell BK2.out 1).trans rfl
  have c2 : w2.cell? ⟨w.heap.size, 2, none⟩ = some (.bool x) := (blk_cell BK2.out 2).trans rfl
  have c3 : w2.cell? ⟨w.heap.size, 3, none⟩ = some (.bool y) := (blk_cell BK2.out 3).trans rfl
  have c4 : w2.cell? ⟨w.heap.size, 4, none⟩ = some (.bool z) := (blk_cell BK2.out 4).trans rfl
  go_upto_if 25 with (fail)
  go_cut [6] (fun v6 wc => v6 = .int .i64 low ∧ wc = w2)
  case first =>
    by_cases h8 : k < 8
    · rw [if_pos h8] at hlow
      go_wp2
      go_meet
      case rel => exact ⟨by rw [hlow], rfl⟩
    · rw [if_neg h8] at hlow
      go_wp2
      go_meet
      case rel => exact ⟨by rw [hlow], rfl⟩
  case rest =>
    obtain ⟨rfl, rfl⟩ := hcut
    clear hlow h30 h82
    have hlt := blk_lt BK2.out
    go_upto_region 7 with (fail)
    go_cut [7, 8] (fun v7 v8 wd => ∃ (gb gc : Nat), v7 = .pointer (some ⟨gb, 0, none⟩) ∧ v8 = .pointer (some ⟨gc, 0, none⟩) ∧ Aside0 (gb ≠ gc ∧ w.heap.size < gb ∧ w.heap.size < gc) ∧ Aside0 (Below w.heap.size w wd ∧ wd.heap[w.heap.size]? = some (.cells #[.int .i64 f, .int .i64 g, .bool x, .bool y, .bool z] 23 (0, 0))) ∧ Aside0 (wd.heap[gb]? = some (.cells #[.int .i64 f, .int .i64 g, .bool x, .bool y, .bool z] 23 (0, 0)) ∧ wd.heap[gc]? = some (.cells #[.int .i64 f, .int .i64 g, .bool x, .bool y, .bool z] 23 (0, 0))))
    case first =>
      go_region_held3 (fun w' => w'.cell? ⟨w.heap.size, 0, none⟩ = some (.int .i64 f) ∧ w'.cell? ⟨w.heap.size, 1, none⟩ = some (.int .i64 g) ∧ w'.cell? ⟨w.heap.size, 2, none⟩ = some (.bool x) ∧ w'.cell? ⟨w.heap.size, 3, none⟩ = some (.bool y) ∧ w'.cell? ⟨w.heap.size, 4, none⟩ = some (.bool z)) (go_keep) (fail)
      · go_wp2
        go_meet
        case rel => exact ⟨_, _, rfl, rfl, ⟨by omega, by omega, by omega⟩, ⟨below_drew (below_alloc (below_alloc HB2.out _) _), blk_alloc (blk_alloc BK2.out _) _⟩, ⟨blk_alloc (blk_new _ _) _, two_new _ _ _⟩⟩
      · go_wp2
        go_meet
        case rel => exact ⟨_, _, rfl, rfl, ⟨by omega, by omega, by omega⟩, ⟨below_drew (below_alloc (below_alloc HB2.out _) _), blk_alloc (blk_alloc BK2.out _) _⟩, ⟨two_new _ _ _, blk_alloc (blk_new _ _) _⟩⟩
    case rest =>
      clear c0 c1 c2 c3 c4
      obtain ⟨gb, gc, rfl, rfl, ⟨hbc, hgb, hgc⟩, ⟨hB, hA⟩, ⟨hb, hc⟩⟩ := hcut
      have fb := blk_frozen hb 0
      have fc := blk_frozen hc 1
      have HX := Aside0.mk (And.intro hB (And.intro hA (And.intro hb hc)))
      clear hB hA hb hc
      have e1 : (gb = w.heap.size) = False := by simp; omega
      have e2 : (gc = w.heap.size) = False := by simp; omega
      have e3 : (w.heap.size = gb) = False := by simp; omega
      have e4 : (w.heap.size = gc) = False := by simp; omega
      have b0 : wc.cell? ⟨gb, 0, none⟩ = some (.int .i64 f) := (blk_cell HX.out.2.2.1 0).trans rfl
      have b1 : wc.cell? ⟨gc, 1, none⟩ = some (.int .i64 g) := (blk_cell HX.out.2.2.2 1).trans rfl
      have a0 : wc.cell? ⟨w.heap.size, 0, none⟩ = some (.int .i64 f) := (blk_cell HX.out.2.1 0).trans rfl
      have a1 : wc.cell? ⟨w.heap.size, 1, none⟩ = some (.int .i64 g) := (blk_cell HX.out.2.1 1).trans rfl
      have a2 : wc.cell? ⟨w.heap.size, 2, none⟩ = some (.bool x) := (blk_cell HX.out.2.1 2).trans rfl
      have a3 : wc.cell? ⟨w.heap.size, 3, none⟩ = some (.bool y) := (blk_cell HX.out.2.1 3).trans rfl
      have a4 : wc.cell? ⟨w.heap.size, 4, none⟩ = some (.bool z) := (blk_cell HX.out.2.1 4).trans rfl
      go_wp2_with fail
      have hS0 : ColS f g k x y z w w.heap.size gb gc wc.heap.size (((wc.setCell ⟨gb, 0, none⟩ (.int .i64 (k + 1))).setCell ⟨gc, 1, none⟩ (.int .i64 (k + 1))).alloc (.cells #[.int .i64 0, .int .i64 g, .bool x, .bool y, .bool z] 23)) := by
        have h := HX.out
        refine colS_new ?_ ?_ ?_ ?_ ?_
        · exact below_set (below_set h.1 (by omega)) (by omega)
        · exact blk_far (blk_far h.2.1 (by simp; omega) _) (by simp; omega) _
        · exact blk_far (blk_put h.2.2.1 0 _ rfl) (by simpa using hbc) _
        · exact blk_put (blk_far h.2.2.2 (by simp; omega) _) 1 _ rfl
        · simp
      obtain ⟨gd, hgd⟩ : ∃ q, q = wc.heap.size := ⟨_, rfl⟩
      obtain ⟨wd, hwd⟩ : ∃ q, q = ((wc.setCell ⟨gb, 0, none⟩ (.int .i64 (k + 1))).setCell ⟨gc, 1, none⟩ (.int .i64 (k + 1))).alloc (.cells #[.int .i64 0, .int .i64 g, .bool x, .bool y, .bool z] 23) := ⟨_, rfl⟩
      rw [← hwd] at hS0 ⊢
      rw [← hgd] at hS0 ⊢
      clear hwd hgd HX a0 a1 a2 a3 a4 b0 b1 fb fc e1 e2 e3 e4
      refine wp_region_held_drew (S := ColS f g k x y z w w.heap.size gb gc gd) (by kernel_rfl) (by exact colS_drew hS0) (fun hHeld => ?_)
      obtain ⟨ws, hws⟩ : ∃ q, q = wd.drew := ⟨_, rfl⟩
      rw [← hws] at hHeld ⊢
      clear hws hS0 wd
      refine takeH (i := 0) (d := 38) (v := (.agg #[.int .i64 (f), .int .i64 (g), .bool x, .bool y, .bool z])) rfl rfl (by kernel_rfl) (by kernel_rfl) (by kernel_rfl) (fun _ _ _ h => h) (Or.inl ⟨by kernel_rfl, by intro w hSw; have hq := hSw.2.1; have c0 := blk_cell hq 0; have c1 := blk_cell hq 1; have c2 := blk_cell hq 2; have c3 := blk_cell hq 3; have c4 := blk_cell hq 4; simp only [List.getElem?_toArray, List.getElem?_cons_zero, List.getElem?_cons_succ] at c0 c1 c2 c3 c4; go_simp; done⟩) (by assumption) ?_
      try simp only [List.setIfInBounds_toArray, List.set_cons_zero, List.set_cons_succ]
      refine takeH (i := 1) (d := 39) (v := (.int .i64 (low))) rfl rfl (by kernel_rfl) (by kernel_rfl) (by kernel_rfl) (fun _ _ _ h => h) (Or.inl ⟨by kernel_rfl, by intro w hSw; go_simp; done⟩) (by assumption) ?_
      try simp only [List.setIfInBounds_toArray, List.set_cons_zero, List.set_cons_succ]
      refine takeH (i := 4) (d := 42) (v := (.agg #[.int .i64 (k + 1), .int .i64 (g), .bool x, .bool y, .bool z])) rfl rfl (by kernel_rfl) (by kernel_rfl) (by kernel_rfl) (fun _ _ _ h => h) (Or.inl ⟨by kernel_rfl, by intro w hSw; have hq := hSw.2.2.1; have c0 := blk_cell hq 0; have c1 := blk_cell hq 1; have c2 := blk_cell hq 2; have c3 := blk_cell hq 3; have c4 := blk_cell hq 4; simp only [List.getElem?_toArray, List.getElem?_cons_zero, List.getElem?_cons_succ] at c0 c1 c2 c3 c4; go_simp; done⟩) (by assumption) ?_
      try simp only [List.setIfInBounds_toArray, List.set_cons_zero, List.set_cons_succ]
      refine wpAnyH_ready (rs := [2]) (by kernel_rfl) (by simp) ?_
      refine AllReadyH.cons (o := { dst := some 40, op := Op.buildSlice 34 1 #[(0, Operand.tmp 39)], type := 34, pos := "more.go:25", after := #[{ on := 1, ground := Ground.data }], guard := none }) rfl (fun K hK => ?_) AllReadyH.nil
      rw [if_pos (by kernel_rfl)]
      go_simp
      refine hK.out _ _ (colS_alloc hHeld _) (fun hHeld2 => ?_)
      clear hK K
      try simp only [Act.put, List.setIfInBounds_toArray, List.set_cons_zero, List.set_cons_succ]
      refine wpAnyH_ready (rs := [3]) (by kernel_rfl) (by simp) ?_
      refine AllReadyH.cons (o := { dst := some 41, op := Op.call { callee := Callee.value (Operand.func 22), args := #[Operand.tmp 38, Operand.tmp 40], argTypes := #[23, 34] }, type := 23, pos := "more.go:25", after := #[{ on := 0, ground := Ground.data }, { on := 2, ground := Ground.data }], guard := none }) rfl (fun K hK => ?_) AllReadyH.nil
      rw [if_pos (by kernel_rfl)]
      go_simp
      refine (sgr_lit (f, g, x, y, z) (k + 1, g, x, y, z) 50 [low] ws (by simp) F1.out).mono ?_
      rintro e5 ws1 ⟨rfl, hb5⟩
      have hS5 := colS_step (colS_alloc hHeld _) hb5
      clear hb5 hHeld hHeld2
      refine hK.out _ _ hS5 (fun hHeld => ?_)
      clear hK K hS5
      try simp only [Act.put, List.setIfInBounds_toArray, List.set_cons_zero, List.set_cons_succ]
      refine takeH (i := 5) (d := 43) (v := (.bool true)) rfl rfl (by kernel_rfl) (by kernel_rfl) (by kernel_rfl) (fun _ _ _ h => h) (Or.inl ⟨by kernel_rfl, by intro w hSw; go_simp; done⟩) (by assumption) ?_
      try simp only [List.setIfInBounds_toArray, List.set_cons_zero, List.set_cons_succ]
      refine takeH (i := 6) (d := 44) (v := (.bool true)) rfl rfl (by kernel_rfl) (by kernel_rfl) (by kernel_rfl) (fun _ _ _ h => h) (Or.inl ⟨by kernel_rfl, by intro w hSw; go_simp; done⟩) (by assumption) ?_
      try simp only [List.setIfInBounds_toArray, List.set_cons_zero, List.set_cons_succ]
      refine takeH (i := 7) (d := 45) (v := (.agg #[.int .i64 (f), .int .i64 (g), .bool x, .bool y, .bool z])) rfl rfl (by kernel_rfl) (by kernel_rfl) (by kernel_rfl) (fun _ _ _ h => h) (Or.inl ⟨by kernel_rfl, by intro w hSw; have hq := hSw.2.1; have c0 := blk_cell hq 0; have c1 := blk_cell hq 1; have c2 := blk_cell hq 2; have c3 := blk_cell hq 3; have c4 := blk_cell hq 4; simp only [List.getElem?_toArray, List.getElem?_cons_zero, List.getElem?_cons_succ] at c0 c1 c2 c3 c4; go_simp; done⟩) (by assumption) ?_
      try simp only [List.setIfInBounds_toArray, List.set_cons_zero, List.set_cons_succ]
      refine takeH (i := 8) (d := 46) (v := (.int .i64 (low))) rfl rfl (by kernel_rfl) (by kernel_rfl) (by kernel_rfl) (fun _ _ _ h => h) (Or.inl ⟨by kernel_rfl, by intro w hSw; go_simp; done⟩) (by assumption) ?_
      try simp only [List.setIfInBounds_toArray, List.set_cons_zero, List.set_cons_succ]
      refine takeH (i := 9) (d := 47) (v := (.int .i64 (low + 10))) rfl rfl (by kernel_rfl) (by kernel_rfl) (by kernel_rfl) (fun _ _ _ h => h) (Or.inl ⟨by kernel_rfl, by intro w hSw; go_simp; done⟩) (by assumption) ?_
      try simp only [List.setIfInBounds_toArray, List.set_cons_zero, List.set_cons_succ]
      refine takeH (i := 12) (d := 50) (v := (.agg #[.int .i64 (f), .int .i64 (k + 1), .bool x, .bool y, .bool z])) rfl rfl (by kernel_rfl) (by kernel_rfl) (by kernel_rfl) (fun _ _ _ h => h) (Or.inl ⟨by kernel_rfl, by intro w hSw; have hq := hSw.2.2.2.1; have c0 := blk_cell hq 0; have c1 := blk_cell hq 1; have c2 := blk_cell hq 2; have c3 := blk_cell hq 3; have c4 := blk_cell hq 4; simp only [List.getElem?_toArray, List.getElem?_cons_zero, List.getElem?_cons_succ] at c0 c1 c2 c3 c4; go_simp; done⟩) (by assumption) ?_
      try simp only [List.setIfInBounds_toArray, List.set_cons_zero, List.set_cons_succ]
      refine wpAnyH_ready (rs := [10]) (by kernel_rfl) (by simp) ?_
      refine AllReadyH.cons (o := { dst := some 48, op := Op.buildSlice 34 1 #[(0, Operand.tmp 47)], type := 34, pos := "more.go:25", after := #[{ on := 9, ground := Ground.data }, { on := 6, ground := Ground.guard }], guard := some (6, true) }) rfl (fun K hK => ?_) AllReadyH.nil
      rw [if_pos (by kernel_rfl)]
      go_simp
      refine hK.out _ _ (colS_alloc hHeld _) (fun hHeld2 => ?_)
      clear hK K
      try simp only [Act.put, List.setIfInBounds_toArray, List.set_cons_zero, List.set_cons_succ]
      refine wpAnyH_ready (rs := [11]) (by kernel_rfl) (by simp) ?_
      refine AllReadyH.cons (o := { dst := some 49, op := Op.call { callee := Callee.value (Operand.func 22), args := #[Operand.tmp 45, Operand.tmp 48], argTypes := #[23, 34] }, type := 23, pos := "more.go:25", after := #[{ on := 7, ground := Ground.data }, { on := 10, ground := Ground.data }, { on := 6, ground := Ground.chain }, { on := 6, ground := Ground.guard }], guard := some (6, true) }) rfl (fun K hK => ?_) AllReadyH.nil
      rw [if_pos (by kernel_rfl)]
      go_simp
      refine (sgr_lit (f, g, x, y, z) (f, k + 1, x, y, z) 50 [low + 10] ws1 (by simp) F2.out).mono ?_
      rintro e5 ws2 ⟨rfl, hb5⟩
      have hS5 := colS_step (colS_alloc hHeld _) hb5
      clear hb5 hHeld hHeld2
      refine hK.out _ _ hS5 (fun hHeld => ?_)
      clear hK K hS5
      try simp only [Act.put, List.setIfInBounds_toArray, List.set_cons_zero, List.set_cons_succ]
      refine takeH (i := 13) (d := 51) (v := (.bool true)) rfl rfl (by kernel_rfl) (by kernel_rfl) (by kernel_rfl) (fun _ _ _ h => h) (Or.inl ⟨by kernel_rfl, by intro w hSw; go_simp; done⟩) (by assumption) ?_
      try simp only [List.setIfInBounds_toArray, List.set_cons_zero, List.set_cons_succ]
      refine takeH (i := 14) (d := 52) (v := (.bool true)) rfl rfl (by kernel_rfl) (by kernel_rfl) (by kernel_rfl) (fun _ _ _ h => h) (Or.inl ⟨by kernel_rfl, by intro w hSw; go_simp; done⟩) (by assumption) ?_
      try simp only [List.setIfInBounds_toArray, List.set_cons_zero, List.set_cons_succ]
      refine takeH (i := 15) (d := 53) (v := (.bool true)) rfl rfl (by kernel_rfl) (by kernel_rfl) (by kernel_rfl) (fun _ _ _ h => h) (Or.inl ⟨by kernel_rfl, by intro w hSw; go_simp; done⟩) (by assumption) ?_
      try simp only [List.setIfInBounds_toArray, List.set_cons_zero, List.set_cons_succ]
      refine takeH (i := 16) (d := 54) (v := (.agg #[.int .i64 (f), .int .i64 (g), .bool x, .bool y, .bool z])) rfl rfl (by kernel_rfl) (by kernel_rfl) (by kernel_rfl) (fun _ _ _ h => h) (Or.inl ⟨by kernel_rfl, by intro w hSw; have hq := hSw.2.1; have c0 := blk_cell hq 0; have c1 := blk_cell hq 1; have c2 := blk_cell hq 2; have c3 := blk_cell hq 3; have c4 := blk_cell hq 4; simp only [List.getElem?_toArray, List.getElem?_cons_zero, List.getElem?_cons_succ] at c0 c1 c2 c3 c4; go_simp; done⟩) (by assumption) ?_
      try simp only [List.setIfInBounds_toArray, List.set_cons_zero, List.set_cons_succ]
      refine takeH (i := 17) (d := 55) (v := (.int .i64 (k))) rfl rfl (by kernel_rfl) (by kernel_rfl) (by kernel_rfl) (fun _ _ _ h => h) (Or.inl ⟨by kernel_rfl, by intro w hSw; go_simp; done⟩) (by assumption) ?_
      try simp only [List.setIfInBounds_toArray, List.set_cons_zero, List.set_cons_succ]
      refine takeH (i := 20) (d := 58) (v := (.agg #[.int .i64 (k + 1), .int .i64 (g), .bool x, .bool y, .bool z])) rfl rfl (by kernel_rfl) (by kernel_rfl) (by kernel_rfl) (fun _ _ _ h => h) (Or.inl ⟨by kernel_rfl, by intro w hSw; have hq := hSw.2.2.1; have c0 := blk_cell hq 0; have c1 := blk_cell hq 1; have c2 := blk_cell hq 2; have c3 := blk_cell hq 3; have c4 := blk_cell hq 4; simp only [List.getElem?_toArray, List.getElem?_cons_zero, List.getElem?_cons_succ] at c0 c1 c2 c3 c4; go_simp; done⟩) (by assumption) ?_
      try simp only [List.setIfInBounds_toArray, List.set_cons_zero, List.set_cons_succ]
      refine wpAnyH_ready (rs := [18]) (by kernel_rfl) (by simp) ?_
      refine AllReadyH.cons (o := { dst := some 56, op := Op.buildSlice 34 3 #[(0, Operand.const (Value.int IntKind.i64 38)), (1, Operand.const (Value.int IntKind.i64 5)), (2, Operand.tmp 55)], type := 34, pos := "more.go:25", after := #[{ on := 17, ground := Ground.data }, { on := 15, ground := Ground.guard }], guard := some (15, true) }) rfl (fun K hK => ?_) AllReadyH.nil
      rw [if_pos (by kernel_rfl)]
      go_simp
      refine hK.out _ _ (colS_alloc hHeld _) (fun hHeld2 => ?_)
      clear hK K
      try simp only [Act.put, List.setIfInBounds_toArray, List.set_cons_zero, List.set_cons_succ]
      refine wpAnyH_ready (rs := [19]) (by kernel_rfl) (by simp) ?_
      refine AllReadyH.cons (o := { dst := some 57, op := Op.call { callee := Callee.value (Operand.func 22), args := #[Operand.tmp 54, Operand.tmp 56], argTypes := #[23, 34] }, type := 23, pos := "more.go:25", after := #[{ on := 16, ground := Ground.data }, { on := 18, ground := Ground.data }, { on := 15, ground := Ground.chain }, { on := 15, ground := Ground.guard }], guard := some (15, true) }) rfl (fun K hK => ?_) AllReadyH.nil
      rw [if_pos (by kernel_rfl)]
      go_simp
      refine (sgr_lit (f, g, x, y, z) (k + 1, g, x, y, z) 50 [38, 5, k] ws2 (by simp) F3.out).mono ?_
      rintro e5 ws3 ⟨rfl, hb5⟩
      have hS5 := colS_step (colS_alloc hHeld _) hb5
      clear hb5 hHeld hHeld2
      refine hK.out _ _ hS5 (fun hHeld => ?_)
      clear hK K hS5
      try simp only [Act.put, List.setIfInBounds_toArray, List.set_cons_zero, List.set_cons_succ]
      refine takeH (i := 21) (d := 59) (v := (.bool true)) rfl rfl (by kernel_rfl) (by kernel_rfl) (by kernel_rfl) (fun _ _ _ h => h) (Or.inl ⟨by kernel_rfl, by intro w hSw; go_simp; done⟩) (by assumption) ?_
      try simp only [List.setIfInBounds_toArray, List.set_cons_zero, List.set_cons_succ]
      refine takeH (i := 22) (d := 60) (v := (.bool true)) rfl rfl (by kernel_rfl) (by kernel_rfl) (by kernel_rfl) (fun _ _ _ h => h) (Or.inl ⟨by kernel_rfl, by intro w hSw; go_simp; done⟩) (by assumption) ?_
      try simp only [List.setIfInBounds_toArray, List.set_cons_zero, List.set_cons_succ]
      refine takeH (i := 23) (d := 61) (v := (.bool true)) rfl rfl (by kernel_rfl) (by kernel_rfl) (by kernel_rfl) (fun _ _ _ h => h) (Or.inl ⟨by kernel_rfl, by intro w hSw; go_simp; done⟩) (by assumption) ?_
      try simp only [List.setIfInBounds_toArray, List.set_cons_zero, List.set_cons_succ]
      refine takeH (i := 24) (d := 62) (v := (.agg #[.int .i64 (f), .int .i64 (g), .bool x, .bool y, .bool z])) rfl rfl (by kernel_rfl) (by kernel_rfl) (by kernel_rfl) (fun _ _ _ h => h) (Or.inl ⟨by kernel_rfl, by intro w hSw; have hq := hSw.2.1; have c0 := blk_cell hq 0; have c1 := blk_cell hq 1; have c2 := blk_cell hq 2; have c3 := blk_cell hq 3; have c4 := blk_cell hq 4; simp only [List.getElem?_toArray, List.getElem?_cons_zero, List.getElem?_cons_succ] at c0 c1 c2 c3 c4; go_simp; done⟩) (by assumption) ?_
      try simp only [List.setIfInBounds_toArray, List.set_cons_zero, List.set_cons_succ]
      refine takeH (i := 25) (d := 63) (v := (.int .i64 (k))) rfl rfl (by kernel_rfl) (by kernel_rfl) (by kernel_rfl) (fun _ _ _ h => h) (Or.inl ⟨by kernel_rfl, by intro w hSw; go_simp; done⟩) (by assumption) ?_
      try simp only [List.setIfInBounds_toArray, List.set_cons_zero, List.set_cons_succ]
      refine takeH (i := 28) (d := 66) (v := (.agg #[.int .i64 (f), .int .i64 (k + 1), .bool x, .bool y, .bool z])) rfl rfl (by kernel_rfl) (by kernel_rfl) (by kernel_rfl) (fun _ _ _ h => h) (Or.inl ⟨by kernel_rfl, by intro w hSw; have hq := hSw.2.2.2.1; have c0 := blk_cell hq 0; have c1 := blk_cell hq 1; have c2 := blk_cell hq 2; have c3 := blk_cell hq 3; have c4 := blk_cell hq 4; simp only [List.getElem?_toArray, List.getElem?_cons_zero, List.getElem?_cons_succ] at c0 c1 c2 c3 c4; go_simp; done⟩) (by assumption) ?_
      try simp only [List.setIfInBounds_toArray, List.set_cons_zero, List.set_cons_succ]
      refine wpAnyH_ready (rs := [26]) (by kernel_rfl) (by simp) ?_
      refine AllReadyH.cons (o := { dst := some 64, op := Op.buildSlice 34 3 #[(0, Operand.const (Value.int IntKind.i64 48)), (1, Operand.const (Value.int IntKind.i64 5)), (2, Operand.tmp 63)], type := 34, pos := "more.go:25", after := #[{ on := 25, ground := Ground.data }, { on := 23, ground := Ground.guard }], guard := some (23, true) }) rfl (fun K hK => ?_) AllReadyH.nil
      rw [if_pos (by kernel_rfl)]
      go_simp
      refine hK.out _ _ (colS_alloc hHeld _) (fun hHeld2 => ?_)
      clear hK K
      try simp only [Act.put, List.setIfInBounds_toArray, List.set_cons_zero, List.set_cons_succ]
      refine wpAnyH_ready (rs := [27]) (by kernel_rfl) (by simp) ?_
      refine AllReadyH.cons (o := { dst := some 65, op := Op.call { callee := Callee.value (Operand.func 22), args := #[Operand.tmp 62, Operand.tmp 64], argTypes := #[23, 34] }, type := 23, pos := "more.go:25", after := #[{ on := 24, ground := Ground.data }, { on := 26, ground := Ground.data }, { on := 23, ground := Ground.chain }, { on := 23, ground := Ground.guard }], guard := some (23, true) }) rfl (fun K hK => ?_) AllReadyH.nil
      rw [if_pos (by kernel_rfl)]
      go_simp
      refine (sgr_lit (f, g, x, y, z) (f, k + 1, x, y, z) 50 [48, 5, k] ws3 (by simp) F4.out).mono ?_
      rintro e5 ws4 ⟨rfl, hb5⟩
      have hS5 := colS_step (colS_alloc hHeld _) hb5
      clear hb5 hHeld hHeld2
      refine hK.out _ _ hS5 (fun hHeld => ?_)
      clear hK K hS5
      try simp only [Act.put, List.setIfInBounds_toArray, List.set_cons_zero, List.set_cons_succ]
      refine takeH (i := 29) (d := 67) (v := (.bool true)) rfl rfl (by kernel_rfl) (by kernel_rfl) (by kernel_rfl) (fun _ _ _ h => h) (Or.inl ⟨by kernel_rfl, by intro w hSw; go_simp; done⟩) (by assumption) ?_
      try simp only [List.setIfInBounds_toArray, List.set_cons_zero, List.set_cons_succ]
      refine takeH (i := 30) (d := 68) (v := (.bool true)) rfl rfl (by kernel_rfl) (by kernel_rfl) (by kernel_rfl) (fun _ _ _ h => h) (Or.inl ⟨by kernel_rfl, by intro w hSw; go_simp; done⟩) (by assumption) ?_
      try simp only [List.setIfInBounds_toArray, List.set_cons_zero, List.set_cons_succ]
      refine takeH (i := 31) (d := 69) (v := (.bool true)) rfl rfl (by kernel_rfl) (by kernel_rfl) (by kernel_rfl) (fun _ _ _ h => h) (Or.inl ⟨by kernel_rfl, by intro w hSw; go_simp; done⟩) (by assumption) ?_
      try simp only [List.setIfInBounds_toArray, List.set_cons_zero, List.set_cons_succ]
      refine takeH (i := 32) (d := 70) (v := (.agg #[.int .i64 (f), .int .i64 (g), .bool x, .bool y, .bool z])) rfl rfl (by kernel_rfl) (by kernel_rfl) (by kernel_rfl) (fun _ _ _ h => h) (Or.inl ⟨by kernel_rfl, by intro w hSw; have hq := hSw.2.1; have c0 := blk_cell hq 0; have c1 := blk_cell hq 1; have c2 := blk_cell hq 2; have c3 := blk_cell hq 3; have c4 := blk_cell hq 4; simp only [List.getElem?_toArray, List.getElem?_cons_zero, List.getElem?_cons_succ] at c0 c1 c2 c3 c4; go_simp; done⟩) (by assumption) ?_
      try simp only [List.setIfInBounds_toArray, List.set_cons_zero, List.set_cons_succ]
      refine takeH (i := 35) (d := 73) (v := (.agg #[.int .i64 (0), .int .i64 (g), .bool x, .bool y, .bool z])) rfl rfl (by kernel_rfl) (by kernel_rfl) (by kernel_rfl) (fun _ _ _ h => h) (Or.inl ⟨by kernel_rfl, by intro w hSw; have hq := hSw.2.2.2.2; have c0 := blk_cell hq 0; have c1 := blk_cell hq 1; have c2 := blk_cell hq 2; have c3 := blk_cell hq 3; have c4 := blk_cell hq 4; simp only [List.getElem?_toArray, List.getElem?_cons_zero, List.getElem?_cons_succ] at c0 c1 c2 c3 c4; go_simp; done⟩) (by assumption) ?_
      try simp only [List.setIfInBounds_toArray, List.set_cons_zero, List.set_cons_succ]
      refine wpAnyH_ready (rs := [33]) (by kernel_rfl) (by simp) ?_
      refine AllReadyH.cons (o := { dst := some 71, op := Op.buildSlice 34 1 #[(0, Operand.const (Value.int IntKind.i64 39))], type := 34, pos := "more.go:25", after := #[{ on := 31, ground := Ground.guard }], guard := some (31, true) }) rfl (fun K hK => ?_) AllReadyH.nil
      rw [if_pos (by kernel_rfl)]
      go_simp
      refine hK.out _ _ (colS_alloc hHeld _) (fun hHeld2 => ?_)
      clear hK K
      try simp only [Act.put, List.setIfInBounds_toArray, List.set_cons_zero, List.set_cons_succ]
      refine wpAnyH_ready (rs := [34]) (by kernel_rfl) (by simp) ?_
      refine AllReadyH.cons (o := { dst := some 72, op := Op.call { callee := Callee.value (Operand.func 22), args := #[Operand.tmp 70, Operand.tmp 71], argTypes := #[23, 34] }, type := 23, pos := "more.go:25", after := #[{ on := 32, ground := Ground.data }, { on := 33, ground := Ground.data }, { on := 31, ground := Ground.chain }, { on := 31, ground := Ground.guard }], guard := some (31, true) }) rfl (fun K hK => ?_) AllReadyH.nil
      rw [if_pos (by kernel_rfl)]
      go_simp
      refine (sgr_lit (f, g, x, y, z) (0, g, x, y, z) 50 [39] ws4 (by simp) F5.out).mono ?_
      rintro e5 ws5 ⟨rfl, hb5⟩
      have hS5 := colS_step (colS_alloc hHeld _) hb5
      clear hb5 hHeld hHeld2
      refine hK.out _ _ hS5 (fun hHeld => ?_)
      clear hK K hS5
      try simp only [Act.put, List.setIfInBounds_toArray, List.set_cons_zero, List.set_cons_succ]
      refine takeH (i := 36) (d := 74) (v := (.bool true)) rfl rfl (by kernel_rfl) (by kernel_rfl) (by kernel_rfl) (fun _ _ _ h => h) (Or.inl ⟨by kernel_rfl, by intro w hSw; go_simp; done⟩) (by assumption) ?_
      try simp only [List.setIfInBounds_toArray, List.set_cons_zero, List.set_cons_succ]
      refine takeH (i := 37) (d := 75) (v := (.bool true)) rfl rfl (by kernel_rfl) (by kernel_rfl) (by kernel_rfl) (fun _ _ _ h => h) (Or.inl ⟨by kernel_rfl, by intro w hSw; go_simp; done⟩) (by assumption) ?_
      try simp only [List.setIfInBounds_toArray, List.set_cons_zero, List.set_cons_succ]
      refine takeH (i := 38) (d := 76) (v := (.bool true)) rfl rfl (by kernel_rfl) (by kernel_rfl) (by kernel_rfl) (fun _ _ _ h => h) (Or.inl ⟨by kernel_rfl, by intro w hSw; go_simp; done⟩) (by assumption) ?_
      try simp only [List.setIfInBounds_toArray, List.set_cons_zero, List.set_cons_succ]
      refine takeH (i := 39) (d := 77) (v := (.agg #[.int .i64 (f), .int .i64 (g), .bool x, .bool y, .bool z])) rfl rfl (by kernel_rfl) (by kernel_rfl) (by kernel_rfl) (fun _ _ _ h => h) (Or.inl ⟨by kernel_rfl, by intro w hSw; have hq := hSw.2.1; have c0 := blk_cell hq 0; have c1 := blk_cell hq 1; have c2 := blk_cell hq 2; have c3 := blk_cell hq 3; have c4 := blk_cell hq 4; simp only [List.getElem?_toArray, List.getElem?_cons_zero, List.getElem?_cons_succ] at c0 c1 c2 c3 c4; go_simp; done⟩) (by assumption) ?_
      try simp only [List.setIfInBounds_toArray, List.set_cons_zero, List.set_cons_succ]
      refine takeH (i := 40) (d := 78) (v := (.int .i64 (k))) rfl rfl (by kernel_rfl) (by kernel_rfl) (by kernel_rfl) (fun _ _ _ h => h) (Or.inl ⟨by kernel_rfl, by intro w hSw; go_simp; done⟩) (by assumption) ?_
      try simp only [List.setIfInBounds_toArray, List.set_cons_zero, List.set_cons_succ]
      refine takeH (i := 41) (d := 79) (v := (.int .i64 (16 + k))) rfl rfl (by kernel_rfl) (by kernel_rfl) (by kernel_rfl) (fun _ _ _ h => h) (Or.inl ⟨by kernel_rfl, by intro w hSw; go_simp; done⟩) (by assumption) ?_
      try simp only [List.setIfInBounds_toArray, List.set_cons_zero, List.set_cons_succ]
      refine takeH (i := 44) (d := 82) (v := (.agg #[.int .i64 (f), .int .i64 (g), .bool x, .bool y, .bool z])) rfl rfl (by kernel_rfl) (by kernel_rfl) (by kernel_rfl) (fun _ _ _ h => h) (Or.inl ⟨by kernel_rfl, by intro w hSw; have hq := hSw.2.1; have c0 := blk_cell hq 0; have c1 := blk_cell hq 1; have c2 := blk_cell hq 2; have c3 := blk_cell hq 3; have c4 := blk_cell hq 4; simp only [List.getElem?_toArray, List.getElem?_cons_zero, List.getElem?_cons_succ] at c0 c1 c2 c3 c4; go_simp; done⟩) (by assumption) ?_
      try simp only [List.setIfInBounds_toArray, List.set_cons_zero, List.set_cons_succ]
      refine wpAnyH_ready (rs := [42]) (by kernel_rfl) (by simp) ?_
      refine AllReadyH.cons (o := { dst := some 80, op := Op.buildSlice 34 3 #[(0, Operand.const (Value.int IntKind.i64 38)), (1, Operand.const (Value.int IntKind.i64 5)), (2, Operand.tmp 79)], type := 34, pos := "more.go:25", after := #[{ on := 41, ground := Ground.data }, { on := 38, ground := Ground.guard }], guard := some (38, true) }) rfl (fun K hK => ?_) AllReadyH.nil
      rw [if_pos (by kernel_rfl)]
      go_simp
      refine hK.out _ _ (colS_alloc hHeld _) (fun hHeld2 => ?_)
      clear hK K
      try simp only [Act.put, List.setIfInBounds_toArray, List.set_cons_zero, List.set_cons_succ]
      refine wpAnyH_ready (rs := [43]) (by kernel_rfl) (by simp) ?_
      refine AllReadyH.cons (o := { dst := some 81, op := Op.call { callee := Callee.value (Operand.func 22), args := #[Operand.tmp 77, Operand.tmp 80], argTypes := #[23, 34] }, type := 23, pos := "more.go:25", after := #[{ on := 39, ground := Ground.data }, { on := 42, ground := Ground.data }, { on := 38, ground := Ground.chain }, { on := 38, ground := Ground.guard }], guard := some (38, true) }) rfl (fun K hK => ?_) AllReadyH.nil
      rw [if_pos (by kernel_rfl)]
      go_simp
      refine (sgr_lit (f, g, x, y, z) (f, g, x, y, z) 50 [38, 5, 16 + k] ws5 (by simp) F6.out).mono ?_
      rintro e5 ws6 ⟨rfl, hb5⟩
      have hS5 := colS_step (colS_alloc hHeld _) hb5
      clear hb5 hHeld hHeld2
      refine hK.out _ _ hS5 (fun hHeld => ?_)
      clear hK K hS5
      try simp only [Act.put, List.setIfInBounds_toArray, List.set_cons_zero, List.set_cons_succ]
      refine takeH (i := 45) (d := 83) (v := (.bool true)) rfl rfl (by kernel_rfl) (by kernel_rfl) (by kernel_rfl) (fun _ _ _ h => h) (Or.inl ⟨by kernel_rfl, by intro w hSw; go_simp; done⟩) (by assumption) ?_
      try simp only [List.setIfInBounds_toArray, List.set_cons_zero, List.set_cons_succ]
      refine takeH (i := 46) (d := 84) (v := (.bool true)) rfl rfl (by kernel_rfl) (by kernel_rfl) (by kernel_rfl) (fun _ _ _ h => h) (Or.inl ⟨by kernel_rfl, by intro w hSw; go_simp; done⟩) (by assumption) ?_
      try simp only [List.setIfInBounds_toArray, List.set_cons_zero, List.set_cons_succ]
      refine takeH (i := 47) (d := 85) (v := (.bool true)) rfl rfl (by kernel_rfl) (by kernel_rfl) (by kernel_rfl) (fun _ _ _ h => h) (Or.inl ⟨by kernel_rfl, by intro w hSw; go_simp; done⟩) (by assumption) ?_
      try simp only [List.setIfInBounds_toArray, List.set_cons_zero, List.set_cons_succ]
      refine takeH (i := 48) (d := 86) (v := (.agg #[.int .i64 (f), .int .i64 (g), .bool x, .bool y, .bool z])) rfl rfl (by kernel_rfl) (by kernel_rfl) (by kernel_rfl) (fun _ _ _ h => h) (Or.inl ⟨by kernel_rfl, by intro w hSw; have hq := hSw.2.1; have c0 := blk_cell hq 0; have c1 := blk_cell hq 1; have c2 := blk_cell hq 2; have c3 := blk_cell hq 3; have c4 := blk_cell hq 4; simp only [List.getElem?_toArray, List.getElem?_cons_zero, List.getElem?_cons_succ] at c0 c1 c2 c3 c4; go_simp; done⟩) (by assumption) ?_
      try simp only [List.setIfInBounds_toArray, List.set_cons_zero, List.set_cons_succ]
      refine takeH (i := 51) (d := 89) (v := (.agg #[.int .i64 (f), .int .i64 (g), .bool x, .bool y, .bool z])) rfl rfl (by kernel_rfl) (by kernel_rfl) (by kernel_rfl) (fun _ _ _ h => h) (Or.inl ⟨by kernel_rfl, by intro w hSw; have hq := hSw.2.1; have c0 := blk_cell hq 0; have c1 := blk_cell hq 1; have c2 := blk_cell hq 2; have c3 := blk_cell hq 3; have c4 := blk_cell hq 4; simp only [List.getElem?_toArray, List.getElem?_cons_zero, List.getElem?_cons_succ] at c0 c1 c2 c3 c4; go_simp; done⟩) (by assumption) ?_
      try simp only [List.setIfInBounds_toArray, List.set_cons_zero, List.set_cons_succ]
      refine wpAnyH_ready (rs := [49]) (by kernel_rfl) (by simp) ?_
      refine AllReadyH.cons (o := { dst := some 87, op := Op.buildSlice 34 5 #[(0, Operand.const (Value.int IntKind.i64 38)), (1, Operand.const (Value.int IntKind.i64 2)), (2, Operand.const (Value.int IntKind.i64 1)), (3, Operand.const (Value.int IntKind.i64 4)), (4, Operand.const (Value.int IntKind.i64 7))], type := 34, pos := "more.go:25", after := #[{ on := 47, ground := Ground.guard }], guard := some (47, true) }) rfl (fun K hK => ?_) AllReadyH.nil
      rw [if_pos (by kernel_rfl)]
      go_simp
      refine hK.out _ _ (colS_alloc hHeld _) (fun hHeld2 => ?_)
      clear hK K
      try simp only [Act.put, List.setIfInBounds_toArray, List.set_cons_zero, List.set_cons_succ]
      refine wpAnyH_ready (rs := [50]) (by kernel_rfl) (by simp) ?_
      refine AllReadyH.cons (o := { dst := some 88, op := Op.call { callee := Callee.value (Operand.func 22), args := #[Operand.tmp 86, Operand.tmp 87], argTypes := #[23, 34] }, type := 23, pos := "more.go:25", after := #[{ on := 48, ground := Ground.data }, { on := 49, ground := Ground.data }, { on := 47, ground := Ground.chain }, { on := 47, ground := Ground.guard }], guard := some (47, true) }) rfl (fun K hK => ?_) AllReadyH.nil
      rw [if_pos (by kernel_rfl)]
      go_simp
      refine (sgr_lit (f, g, x, y, z) (f, g, x, y, z) 50 [38, 2, 1, 4, 7] ws6 (by simp) F7.out).mono ?_
      rintro e5 ws7 ⟨rfl, hb5⟩
      have hS5 := colS_step (colS_alloc hHeld _) hb5
      clear hb5 hHeld hHeld2
      refine hK.out _ _ hS5 (fun hHeld => ?_)
      clear hK K hS5
      try simp only [Act.put, List.setIfInBounds_toArray, List.set_cons_zero, List.set_cons_succ]
      refine takeH (i := 52) (d := 90) (v := (.bool true)) rfl rfl (by kernel_rfl) (by kernel_rfl) (by kernel_rfl) (fun _ _ _ h => h) (Or.inl ⟨by kernel_rfl, by intro w hSw; go_simp; done⟩) (by assumption) ?_
      try simp only [List.setIfInBounds_toArray, List.set_cons_zero, List.set_cons_succ]
      refine takeH (i := 53) (d := 91) (v := (.bool true)) rfl rfl (by kernel_rfl) (by kernel_rfl) (by kernel_rfl) (fun _ _ _ h => h) (Or.inl ⟨by kernel_rfl, by intro w hSw; go_simp; done⟩) (by assumption) ?_
      try simp only [List.setIfInBounds_toArray, List.set_cons_zero, List.set_cons_succ]
      refine takeH (i := 54) (d := 92) (v := (.bool true)) rfl rfl (by kernel_rfl) (by kernel_rfl) (by kernel_rfl) (fun _ _ _ h => h) (Or.inl ⟨by kernel_rfl, by intro w hSw; go_simp; done⟩) (by assumption) ?_
      try simp only [List.setIfInBounds_toArray, List.set_cons_zero, List.set_cons_succ]
      refine takeH (i := 55) (d := 93) (v := (.agg #[.int .i64 (f), .int .i64 (g), .bool x, .bool y, .bool z])) rfl rfl (by kernel_rfl) (by kernel_rfl) (by kernel_rfl) (fun _ _ _ h => h) (Or.inl ⟨by kernel_rfl, by intro w hSw; have hq := hSw.2.1; have c0 := blk_cell hq 0; have c1 := blk_cell hq 1; have c2 := blk_cell hq 2; have c3 := blk_cell hq 3; have c4 := blk_cell hq 4; simp only [List.getElem?_toArray, List.getElem?_cons_zero, List.getElem?_cons_succ] at c0 c1 c2 c3 c4; go_simp; done⟩) (by assumption) ?_
      try simp only [List.setIfInBounds_toArray, List.set_cons_zero, List.set_cons_succ]
      refine takeH (i := 58) (d := 96) (v := (.agg #[.int .i64 (f), .int .i64 (g), .bool x, .bool y, .bool z])) rfl rfl (by kernel_rfl) (by kernel_rfl) (by kernel_rfl) (fun _ _ _ h => h) (Or.inl ⟨by kernel_rfl, by intro w hSw; have hq := hSw.2.1; have c0 := blk_cell hq 0; have c1 := blk_cell hq 1; have c2 := blk_cell hq 2; have c3 := blk_cell hq 3; have c4 := blk_cell hq 4; simp only [List.getElem?_toArray, List.getElem?_cons_zero, List.getElem?_cons_succ] at c0 c1 c2 c3 c4; go_simp; done⟩) (by assumption) ?_
      try simp only [List.setIfInBounds_toArray, List.set_cons_zero, List.set_cons_succ]
      refine wpAnyH_ready (rs := [56]) (by kernel_rfl) (by simp) ?_
      refine AllReadyH.cons (o := { dst := some 94, op := Op.buildSlice 34 1 #[(0, Operand.const (Value.int IntKind.i64 38))], type := 34, pos := "more.go:25", after := #[{ on := 54, ground := Ground.guard }], guard := some (54, true) }) rfl (fun K hK => ?_) AllReadyH.nil
      rw [if_pos (by kernel_rfl)]
      go_simp
      refine hK.out _ _ (colS_alloc hHeld _) (fun hHeld2 => ?_)
      clear hK K
      try simp only [Act.put, List.setIfInBounds_toArray, List.set_cons_zero, List.set_cons_succ]
      refine wpAnyH_ready (rs := [57]) (by kernel_rfl) (by simp) ?_
      refine AllReadyH.cons (o := { dst := some 95, op := Op.call { callee := Callee.value (Operand.func 22), args := #[Operand.tmp 93, Operand.tmp 94], argTypes := #[23, 34] }, type := 23, pos := "more.go:25", after := #[{ on := 55, ground := Ground.data }, { on := 56, ground := Ground.data }, { on := 54, ground := Ground.chain }, { on := 54, ground := Ground.guard }], guard := some (54, true) }) rfl (fun K hK => ?_) AllReadyH.nil
      rw [if_pos (by kernel_rfl)]
      go_simp
      refine (sgr_lit (f, g, x, y, z) (f, g, x, y, z) 50 [38] ws7 (by simp) F8.out).mono ?_
      rintro e5 ws8 ⟨rfl, hb5⟩
      have hS5 := colS_step (colS_alloc hHeld _) hb5
      clear hb5 hHeld hHeld2
      refine hK.out _ _ hS5 (fun hHeld => ?_)
      clear hK K hS5
      try simp only [Act.put, List.setIfInBounds_toArray, List.set_cons_zero, List.set_cons_succ]
      refine takeH (i := 59) (d := 97) (v := (.bool true)) rfl rfl (by kernel_rfl) (by kernel_rfl) (by kernel_rfl) (fun _ _ _ h => h) (Or.inl ⟨by kernel_rfl, by intro w hSw; go_simp; done⟩) (by assumption) ?_
      try simp only [List.setIfInBounds_toArray, List.set_cons_zero, List.set_cons_succ]
      refine takeH (i := 60) (d := 98) (v := (.bool true)) rfl rfl (by kernel_rfl) (by kernel_rfl) (by kernel_rfl) (fun _ _ _ h => h) (Or.inl ⟨by kernel_rfl, by intro w hSw; go_simp; done⟩) (by assumption) ?_
      try simp only [List.setIfInBounds_toArray, List.set_cons_zero, List.set_cons_succ]
      refine takeH (i := 61) (d := 99) (v := (.bool true)) rfl rfl (by kernel_rfl) (by kernel_rfl) (by kernel_rfl) (fun _ _ _ h => h) (Or.inl ⟨by kernel_rfl, by intro w hSw; go_simp; done⟩) (by assumption) ?_
      try simp only [List.setIfInBounds_toArray, List.set_cons_zero, List.set_cons_succ]
      refine takeH (i := 62) (d := 100) (v := (.agg #[.int .i64 (f), .int .i64 (g), .bool x, .bool y, .bool z])) rfl rfl (by kernel_rfl) (by kernel_rfl) (by kernel_rfl) (fun _ _ _ h => h) (Or.inl ⟨by kernel_rfl, by intro w hSw; have hq := hSw.2.1; have c0 := blk_cell hq 0; have c1 := blk_cell hq 1; have c2 := blk_cell hq 2; have c3 := blk_cell hq 3; have c4 := blk_cell hq 4; simp only [List.getElem?_toArray, List.getElem?_cons_zero, List.getElem?_cons_succ] at c0 c1 c2 c3 c4; go_simp; done⟩) (by assumption) ?_
      try simp only [List.setIfInBounds_toArray, List.set_cons_zero, List.set_cons_succ]
      refine takeH (i := 63) (d := 101) (v := (.int .i64 (k))) rfl rfl (by kernel_rfl) (by kernel_rfl) (by kernel_rfl) (fun _ _ _ h => h) (Or.inl ⟨by kernel_rfl, by intro w hSw; go_simp; done⟩) (by assumption) ?_
      try simp only [List.setIfInBounds_toArray, List.set_cons_zero, List.set_cons_succ]
      refine takeH (i := 64) (d := 102) (v := (.int .i64 (200 + k))) rfl rfl (by kernel_rfl) (by kernel_rfl) (by kernel_rfl) (fun _ _ _ h => h) (Or.inl ⟨by kernel_rfl, by intro w hSw; go_simp; done⟩) (by assumption) ?_
      try simp only [List.setIfInBounds_toArray, List.set_cons_zero, List.set_cons_succ]
      refine takeH (i := 67) (d := 105) (v := (.agg #[.int .i64 (f), .int .i64 (g), .bool x, .bool y, .bool z])) rfl rfl (by kernel_rfl) (by kernel_rfl) (by kernel_rfl) (fun _ _ _ h => h) (Or.inl ⟨by kernel_rfl, by intro w hSw; have hq := hSw.2.1; have c0 := blk_cell hq 0; have c1 := blk_cell hq 1; have c2 := blk_cell hq 2; have c3 := blk_cell hq 3; have c4 := blk_cell hq 4; simp only [List.getElem?_toArray, List.getElem?_cons_zero, List.getElem?_cons_succ] at c0 c1 c2 c3 c4; go_simp; done⟩) (by assumption) ?_
      try simp only [List.setIfInBounds_toArray, List.set_cons_zero, List.set_cons_succ]
      refine wpAnyH_ready (rs := [65]) (by kernel_rfl) (by simp) ?_
      refine AllReadyH.cons (o := { dst := some 103, op := Op.buildSlice 34 1 #[(0, Operand.tmp 102)], type := 34, pos := "more.go:25", after := #[{ on := 64, ground := Ground.data }, { on := 61, ground := Ground.guard }], guard := some (61, true) }) rfl (fun K hK => ?_) AllReadyH.nil
      rw [if_pos (by kernel_rfl)]
      go_simp
      refine hK.out _ _ (colS_alloc hHeld _) (fun hHeld2 => ?_)
      clear hK K
      try simp only [Act.put, List.setIfInBounds_toArray, List.set_cons_zero, List.set_cons_succ]
      refine wpAnyH_ready (rs := [66]) (by kernel_rfl) (by simp) ?_
      refine AllReadyH.cons (o := { dst := some 104, op := Op.call { callee := Callee.value (Operand.func 22), args := #[Operand.tmp 100, Operand.tmp 103], argTypes := #[23, 34] }, type := 23, pos := "more.go:25", after := #[{ on := 62, ground := Ground.data }, { on := 65, ground := Ground.data }, { on := 61, ground := Ground.chain }, { on := 61, ground := Ground.guard }], guard := some (61, true) }) rfl (fun K hK => ?_) AllReadyH.nil
      rw [if_pos (by kernel_rfl)]
      go_simp
      refine (sgr_lit (f, g, x, y, z) (f, g, x, y, z) 50 [200 + k] ws8 (by simp) F9.out).mono ?_
      rintro e5 ws9 ⟨rfl, hb5⟩
      have hS5 := colS_step (colS_alloc hHeld _) hb5
      clear hb5 hHeld hHeld2
      refine hK.out _ _ hS5 (fun hHeld => ?_)
      clear hK K hS5
      try simp only [Act.put, List.setIfInBounds_toArray, List.set_cons_zero, List.set_cons_succ]
      refine takeH (i := 68) (d := 106) (v := (.bool true)) rfl rfl (by kernel_rfl) (by kernel_rfl) (by kernel_rfl) (fun _ _ _ h => h) (Or.inl ⟨by kernel_rfl, by intro w hSw; go_simp; done⟩) (by assumption) ?_
      try simp only [List.setIfInBounds_toArray, List.set_cons_zero, List.set_cons_succ]
      refine takeH (i := 69) (d := 107) (v := (.bool true)) rfl rfl (by kernel_rfl) (by kernel_rfl) (by kernel_rfl) (fun _ _ _ h => h) (Or.inl ⟨by kernel_rfl, by intro w hSw; go_simp; done⟩) (by assumption) ?_
      try simp only [List.setIfInBounds_toArray, List.set_cons_zero, List.set_cons_succ]
      refine takeH (i := 70) (d := 108) (v := (.bool true)) rfl rfl (by kernel_rfl) (by kernel_rfl) (by kernel_rfl) (fun _ _ _ h => h) (Or.inl ⟨by kernel_rfl, by intro w hSw; go_simp; done⟩) (by assumption) ?_
      try simp only [List.setIfInBounds_toArray, List.set_cons_zero, List.set_cons_succ]
      refine takeH (i := 71) (d := 109) (v := (.agg #[.int .i64 (f), .int .i64 (g), .bool x, .bool y, .bool z])) rfl rfl (by kernel_rfl) (by kernel_rfl) (by kernel_rfl) (fun _ _ _ h => h) (Or.inl ⟨by kernel_rfl, by intro w hSw; have hq := hSw.2.1; have c0 := blk_cell hq 0; have c1 := blk_cell hq 1; have c2 := blk_cell hq 2; have c3 := blk_cell hq 3; have c4 := blk_cell hq 4; simp only [List.getElem?_toArray, List.getElem?_cons_zero, List.getElem?_cons_succ] at c0 c1 c2 c3 c4; go_simp; done⟩) (by assumption) ?_
      try simp only [List.setIfInBounds_toArray, List.set_cons_zero, List.set_cons_succ]
      refine takeH (i := 74) (d := 112) (v := (.agg #[.int .i64 (f), .int .i64 (g), .bool x, .bool y, .bool z])) rfl rfl (by kernel_rfl) (by kernel_rfl) (by kernel_rfl) (fun _ _ _ h => h) (Or.inl ⟨by kernel_rfl, by intro w hSw; have hq := hSw.2.1; have c0 := blk_cell hq 0; have c1 := blk_cell hq 1; have c2 := blk_cell hq 2; have c3 := blk_cell hq 3; have c4 := blk_cell hq 4; simp only [List.getElem?_toArray, List.getElem?_cons_zero, List.getElem?_cons_succ] at c0 c1 c2 c3 c4; go_simp; done⟩) (by assumption) ?_
      try simp only [List.setIfInBounds_toArray, List.set_cons_zero, List.set_cons_succ]
      refine wpAnyH_ready (rs := [72]) (by kernel_rfl) (by simp) ?_
      refine AllReadyH.cons (o := { dst := some 110, op := Op.buildSlice 34 2 #[(0, Operand.const (Value.int IntKind.i64 38)), (1, Operand.const (Value.int IntKind.i64 5))], type := 34, pos := "more.go:25", after := #[{ on := 70, ground := Ground.guard }], guard := some (70, true) }) rfl (fun K hK => ?_) AllReadyH.nil
      rw [if_pos (by kernel_rfl)]
      go_simp
      refine hK.out _ _ (colS_alloc hHeld _) (fun hHeld2 => ?_)
      clear hK K
      try simp only [Act.put, List.setIfInBounds_toArray, List.set_cons_zero, List.set_cons_succ]
      refine wpAnyH_ready (rs := [73]) (by kernel_rfl) (by simp) ?_
      refine AllReadyH.cons (o := { dst := some 111, op := Op.call { callee := Callee.value (Operand.func 22), args := #[Operand.tmp 109, Operand.tmp 110], argTypes := #[23, 34] }, type := 23, pos := "more.go:25", after := #[{ on := 71, ground := Ground.data }, { on := 72, ground := Ground.data }, { on := 70, ground := Ground.chain }, { on := 70, ground := Ground.guard }], guard := some (70, true) }) rfl (fun K hK => ?_) AllReadyH.nil
      rw [if_pos (by kernel_rfl)]
      go_simp
      refine (sgr_lit (f, g, x, y, z) (f, g, x, y, z) 50 [38, 5] ws9 (by simp) F10.out).mono ?_
      rintro e5 ws10 ⟨rfl, hb5⟩
      have hS5 := colS_step (colS_alloc hHeld _) hb5
      clear hb5 hHeld hHeld2
      refine hK.out _ _ hS5 (fun hHeld => ?_)
      clear hK K hS5
      try simp only [Act.put, List.setIfInBounds_toArray, List.set_cons_zero, List.set_cons_succ]
      refine takeH (i := 75) (d := 113) (v := (.bool true)) rfl rfl (by kernel_rfl) (by kernel_rfl) (by kernel_rfl) (fun _ _ _ h => h) (Or.inl ⟨by kernel_rfl, by intro w hSw; go_simp; done⟩) (by assumption) ?_
      try simp only [List.setIfInBounds_toArray, List.set_cons_zero, List.set_cons_succ]
      refine takeH (i := 76) (d := 114) (v := (.bool true)) rfl rfl (by kernel_rfl) (by kernel_rfl) (by kernel_rfl) (fun _ _ _ h => h) (Or.inl ⟨by kernel_rfl, by intro w hSw; go_simp; done⟩) (by assumption) ?_
      try simp only [List.setIfInBounds_toArray, List.set_cons_zero, List.set_cons_succ]
      refine takeH (i := 77) (d := 4) (v := (.bool true)) rfl rfl (by kernel_rfl) (by kernel_rfl) (by kernel_rfl) (fun _ _ _ h => h) (Or.inl ⟨by kernel_rfl, by intro w hSw; go_simp; done⟩) (by assumption) ?_
      try simp only [List.setIfInBounds_toArray, List.set_cons_zero, List.set_cons_succ]
      refine wpAnyH_done (by kernel_rfl) ?_ _
      go_wp2
      go_ret
      exact ⟨rfl, hHeld.1⟩
set_option maxHeartbeats 8000000 in
set_option maxRecDepth 100000 in
theorem colors_dead (f g : Int) (x y z : Bool) (n : Int) (w : World) (hv : ¬ V (f, g, x, y, z)) :
    Calls Try.prog 5 #[.agg #[.int .i64 f, .int .i64 g, .bool x, .bool y, .bool z], .int .i64 n] w fun r w' => r = .returned (.bool true) ∧ Below w.heap.size w w' := by
  have hu23 := Try.underlying23
  have HB0 := Aside0.mk (below_alloc (Below.refl w.heap.size w) (.cells #[.int .i64 f, .int .i64 g, .bool x, .bool y, .bool z] 23))
  have HV := Aside0.mk hv
  clear hv
  go_enter Try.func5, Try.ntmps5
  go_wp2_with fail
  refine (valid_f f g x y z HV.out _).mono ?_
  rintro e1 w1 ⟨rfl, hb1⟩
  have HB1 := Aside0.mk (below_step HB0.out hb1)
  clear hb1
  go_wp2_with fail
  refine (alive _).mono ?_
  rintro e2 w2 ⟨rfl, hb2⟩
  have HB2 := Aside0.mk (below_step HB1.out hb2)
  clear hb2
  go_wp2
  go_ret
  exact ⟨rfl, HB2.out⟩
theorem walk (f g : Int) (x y z : Bool) (n : Int) (w : World) (_u0 : (Lit.int .i64 f).wf = true) (_u1 : (Lit.int .i64 g).wf = true) (_u2 : (Lit.int .i64 n).wf = true) :
    Calls Try.prog 5 #[.agg #[.int .i64 f, .int .i64 g, .bool x, .bool y, .bool z], .int .i64 n] w fun r w' => r = .returned (.bool true) ∧ Below w.heap.size w w' := by
  by_cases hv : V (f, g, x, y, z)
  · have h1 := Int.tmod_lt_of_pos n (show (0 : Int) < 16 by decide)
    have h2 := Int.lt_tmod_of_pos n (show (0 : Int) < 16 by decide)
    exact colors_live f g x y z n _ _ w hv (Int.tmod_nonneg 16 (by omega)) (Int.tmod_lt_of_pos _ (by decide)) rfl rfl
  · exact colors_dead f g x y z n w hv
end Go.Proofs.Ytcmmdllnbijipaa.Colors
