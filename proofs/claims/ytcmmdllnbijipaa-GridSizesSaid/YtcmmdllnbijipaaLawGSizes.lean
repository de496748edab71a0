/- The walk of GridSizes: a grid that is made greater, and smaller again, has what stood there. Conditions: those in each theorem. -/
import Derived.Test.YtcmmdllnbijipaaLawGMoves
import Derived.Test.YtcmmdllnbijipaaGrid5
namespace Go.Proofs.Ytcmmdllnbijipaa.Grd
open Go.RowKit Go.Proofs.Ytcmmdllnbijipaa.Mem Go.Proofs.YtcmmdllnbijipaaW.PrintWords Go.Proofs.YtcmmdllnbijipaaW.PrintMore
attribute [local go_sem] max2_i min2_i max_two min_two
set_option linter.unusedVariables false
set_option linter.unusedSimpArgs false
theorem sizes_over (w0 h0 x0 y0 : Int) (A : Option Addr) (c : Nat) (l : List C6) (w : World) (hl : ¬ l.length ≤ 40) :
    Calls Try.prog 7 #[.int .i64 w0, .int .i64 h0, .int .i64 x0, .int .i64 y0, .slice A l.length c] w fun r w' => r = .returned (.bool true) ∧ Below w.heap.size w w' := by
  have hl6 : (40 : Int) < (l.length : Int) := by omega
  clear hl
  go_enter Try.func7, Try.ntmps7
  go_wp2_with fail
  refine (alive15 _).mono ?_
  rintro e0 w0 ⟨rfl, hb0⟩
  have HB := Aside0.mk hb0
  clear hb0
  go_wp2
  go_ret
  exact ⟨rfl, HB.out⟩
set_option maxHeartbeats 4000000 in
set_option maxRecDepth 100000 in
theorem sizes_live (w0 h0 X0 Y0 : Int) (A : Option Addr) (c : Nat) (l : List C6) (w : World) (hs : Src w A l.length l) (hc : l.length ≤ c) (hl : l.length ≤ 40) :
    Calls Try.prog 7 #[.int .i64 w0, .int .i64 h0, .int .i64 X0, .int .i64 Y0, .slice A l.length c] w fun r w' => r = .returned (.bool true) ∧ Below w.heap.size w w' := by
  have hu := Try.underlying25
  have hua := Try.underlying23
  have hl6 : ¬ (40 : Int) < (l.length : Int) := by omega
  have HS := Aside0.mk hs
  clear hs
  obtain ⟨L, hL⟩ : ∃ L, L = l.length := ⟨_, rfl⟩
  have HL := Aside0.mk hL
  rw [← hL] at HS hl6 hl hc ⊢
  clear hL
  go_enter Try.func7, Try.ntmps7
  go_wp2_with fail
  refine (alive15 _).mono ?_
  rintro e1 w1 ⟨rfl, hb1⟩
  have XB := Aside0.mk hb1
  clear hb1
  go_wp2_with fail
  refine (new_calls w0 h0 _).mono ?_
  rintro e2 w2 ⟨g, b, rfl, hg, hb, hI, hB⟩
  obtain ⟨W, hW⟩ : ∃ W, W = clW w0 := ⟨_, rfl⟩
  obtain ⟨H, hH⟩ : ∃ H, H = clH h0 := ⟨_, rfl⟩
  have hW2 := clW_le w0
  have hH2 := clH_le h0
  rw [← hW] at hW2 hI
  rw [← hH] at hH2 hI
  have hgw : w.heap.size ≤ b := Nat.le_trans XB.out.size hb
  have hgg : w.heap.size ≤ g := Nat.le_trans XB.out.size hg
  have XB := Aside0.mk (below_step XB.out hB)
  have HI := Aside0.mk hI
  have hcW : clW (W : Int) = W := by unfold clW; omega
  have hcH : clH (H : Int) = H := by unfold clH; omega
  clear hI hB hW hH
  have hn := eql_grid ⟨g, 0, none⟩
  go_wp2_with fail
  refine (w_calls g b W H _ _ HI.out).mono ?_
  rintro e3 w3 ⟨rfl, rfl⟩
  go_wp2_with fail
  refine (h_calls g b W H _ _ HI.out).mono ?_
  rintro e4 w4 ⟨rfl, rfl⟩
  have hwH : IntKind.i64.wrap ((H : Int) - 1) = (H : Int) - 1 := IntWalk.i64_in _ (by omega)
  go_wp2_with fail
  refine (set_calls g b W H 0 ((H : Int) - 1) A L c l _ w2 HI.out (HS.out.only XB.out)).mono ?_
  rintro e5 w5 ⟨rfl, hI5, hO5⟩
  have HI5 := Aside0.mk hI5
  have XB5 := Aside0.mk (hO5.belowOf XB.out XB.out.size (by simpa using hgw))
  clear hI5 hO5 HI XB
  go_wp2_with fail
  refine (set_calls g b W H 0 0 A L c l _ w5 HI5.out (HS.out.only XB5.out)).mono ?_
  rintro e6 w6 ⟨rfl, hI6, hO6⟩
  obtain ⟨cs, hcs⟩ : ∃ q : List C6, IsGrid w6 g b W H q := ⟨_, hI6⟩
  have HI6 := Aside0.mk hcs
  have XB6 := Aside0.mk (hO6.belowOf XB5.out XB5.out.size (by simpa using hgw))
  clear hI6 hO6 HI5 XB5 hcs
  go_wp2_with fail
  refine (copy_calls g b W H cs _ HI6.out).mono ?_
  rintro e7 w7 ⟨g2, b2, rfl, hg2, hb2, hI7, hB7⟩
  have HW := Aside0.mk hI7
  have hl6g := HI6.out.lt
  have HI7 := Aside0.mk (HI6.out.below hB7)
  have XB7 := Aside0.mk (below_step XB6.out hB7)
  have hn2 := eql_grid ⟨g2, 0, none⟩
  have hlw := HW.out.lt
  clear hI7 hB7 HI6 XB6
  go_wp2_with fail
  refine (size_calls g b W H X0 Y0 cs _ HI7.out).mono ?_
  rintro e8 w8 ⟨rfl, b8, cs8, hb8, hI8, hT8, hO8⟩
  obtain ⟨A8, hA8⟩ : ∃ q, q = clW X0 := ⟨_, rfl⟩
  obtain ⟨B8, hB8⟩ : ∃ q, q = clH Y0 := ⟨_, rfl⟩
  have hA8l := clW_le X0
  have hB8l := clH_le Y0
  rw [← hA8] at hI8 hT8 hA8l
  rw [← hB8] at hI8 hT8 hB8l
  have HI8 := Aside0.mk hI8
  have HT8 := Aside0.mk hT8
  have HW8 := Aside0.mk (HW.out.only hO8 (by simp; omega) (by simp; omega))
  have XB8 := Aside0.mk (hO8.belowOf XB7.out XB7.out.size (by simpa using hgg))
  have hl8 := hI8.lt
  have hsz8 := hO8.size
  clear hI8 hT8 hO8 hA8 hB8 HI7 HW XB7
  go_wp2_with fail
  refine (w_calls g b8 A8 B8 _ _ HI8.out).mono ?_
  rintro e3 w3 ⟨rfl, rfl⟩
  go_wp2_with fail
  refine (h_calls g b8 A8 B8 _ _ HI8.out).mono ?_
  rintro e4 w4 ⟨rfl, rfl⟩
  go_wp2_with fail
  refine (size_calls g b8 A8 B8 (W : Int) (H : Int) cs8 _ HI8.out).mono ?_
  rw [hcW, hcH]
  rintro e9 w9 ⟨rfl, b9, cs9, hb9, hI9, hT9, hO9⟩
  have HP := Aside0.mk (show ∀ i j, i < W → j < H → cs9[j * W + i]? = if i < A8 ∧ j < B8 then cs[j * W + i]? else some bC by
    intro i j hi hj
    rw [hT9 i j hi hj]
    by_cases h : i < A8 ∧ j < B8
    · rw [if_pos (by omega), if_pos h, HT8.out i j h.1 h.2, if_pos (by omega)]
    · rw [if_neg (by omega), if_neg h])
  have HI9 := Aside0.mk hI9
  have HW9 := Aside0.mk (HW8.out.only hO9 (by simp; omega) (by simp; omega))
  have XB9 := Aside0.mk (hO9.belowOf XB8.out XB8.out.size (by simpa using hgg))
  have hcl := HW8.out.1
  clear hI9 hT9 hO9 HI8 HT8 HW8 XB8 hcW hcH
  go_wp2_with fail
  go_loopg [15] H (fun kq v15 wr => ∃ (j : Nat), v15 = .int .i64 (j : Int) ∧ Aside0 (j ≤ H ∧ kq = H - j) ∧ Aside0 (IsGrid wr g b9 W H cs9) ∧ Aside0 (IsGrid wr g2 b2 W H cs) ∧ Aside0 (Below w.heap.size w wr))
  case atStart => exact ⟨0, rfl, ⟨Nat.zero_le _, rfl⟩, HI9, HW9, XB9⟩
  case round =>
    obtain ⟨j, rfl, ⟨hj, hkq⟩, HIj, HWj, XBj⟩ := hrel
    have HQj := Aside0.mk hkq
    clear hkq HI9 HW9 XB9
    obtain ⟨kj, rfl⟩ : ∃ kj : Nat, kj = gk := ⟨_, rfl⟩
    obtain ⟨wj, rfl⟩ : ∃ wj : World, wj = wr := ⟨_, rfl⟩
    by_cases hlt : j < H
    · go_wp2_with fail
      go_loopg [16] W (fun kq v16 wi => ∃ (i : Nat), v16 = .int .i64 (i : Int) ∧ Aside0 (i ≤ W ∧ kq = W - i) ∧ Aside0 (IsGrid wi g b9 W H cs9) ∧ Aside0 (IsGrid wi g2 b2 W H cs) ∧ Aside0 (Below w.heap.size w wi))
      case atStart => exact ⟨0, rfl, ⟨Nat.zero_le _, rfl⟩, HIj, HWj, XBj⟩
      case round =>
        obtain ⟨i, rfl, ⟨hi, hkq⟩, HIi, HWi, XBi⟩ := hrel
        have HQi := Aside0.mk hkq
        clear hkq HIj HWj XBj
        obtain ⟨wi, rfl⟩ : ∃ wi : World, wi = wr := ⟨_, rfl⟩
        by_cases hlti : i < W
        · have hin : inG W H (i : Int) (j : Int) = true := inG_iff.2 ⟨by omega, by omega, by omega, by omega⟩
          have hix : ix W (i : Int) (j : Int) = j * W + i := by unfold ix; simp
          have hfit := ix_lt' hin
          rw [hix] at hfit
          obtain ⟨p, hp⟩ : ∃ q, cs[j * W + i]? = some q := ⟨cs[j * W + i]'(by omega), by simp⟩
          have h3 := HP.out i j hlti hlt
          rw [hp] at h3
          have A0 := Aside0.mk (fun W1 hh => at_in g2 b2 W H (i : Int) (j : Int) cs p W1 hh hin (by rw [hix]; exact hp))
          have A3 := Aside0.mk (fun (r : C6) (hr : cs9[j * W + i]? = some r) W1 hh => at_in g b9 W H (i : Int) (j : Int) cs9 r W1 hh hin (by rw [hix]; exact hr))
          have H3 := Aside0.mk h3
          clear hp h3 hin hix hfit
          have BW0 := Aside0.mk (Blk.new wi 25 #[.int .i32 32, .int .i64 0, .int .i64 0, .bool false, .bool false, .bool false])
          have HI0 := Aside0.mk (HIi.out.below (below_alloc (Below.refl _ _) (.cells #[.int .i32 32, .int .i64 0, .int .i64 0, .bool false, .bool false, .bool false] 25)))
          have HW0 := Aside0.mk (HWi.out.below (below_alloc (Below.refl _ _) (.cells #[.int .i32 32, .int .i64 0, .int .i64 0, .bool false, .bool false, .bool false] 25)))
          have XB0 := Aside0.mk (below_alloc XBi.out (.cells #[.int .i32 32, .int .i64 0, .int .i64 0, .bool false, .bool false, .bool false] 25))
          by_cases hc1 : i < A8
          · by_cases hc2 : j < B8
            · have h4 := H3.out
              rw [if_pos ⟨hc1, hc2⟩] at h4
              have A3' := Aside0.mk (A3.out p h4)
              clear h4
              go_wp2_with fail
              refine (A0.out _ HW0.out).mono ?_
              rintro e1 w1 ⟨rfl, hb1⟩
              have BW1 := Aside0.mk (BW0.out.below' hb1)
              have HI1 := Aside0.mk (HI0.out.below hb1)
              have HW1 := Aside0.mk (HW0.out.below hb1)
              have XB1 := Aside0.mk (below_step XB0.out hb1)
              have hgi := XBi.out.size
              have hli := HIi.out.lt
              have hlw2 := HWi.out.lt
              clear hb1 BW0 HI0 HW0 XB0
              have f0 := BW1.out.frozen
              have d0 : (w1).cell? ⟨wi.heap.size, 0, none⟩ = some (.int .i32 32) := (BW1.out.cell 0).trans rfl
              have d1 : (w1).cell? ⟨wi.heap.size, 1, none⟩ = some (.int .i64 0) := (BW1.out.cell 1).trans rfl
              have d2 : (w1).cell? ⟨wi.heap.size, 2, none⟩ = some (.int .i64 0) := (BW1.out.cell 2).trans rfl
              have d3 : (w1).cell? ⟨wi.heap.size, 3, none⟩ = some (.bool false) := (BW1.out.cell 3).trans rfl
              have d4 : (w1).cell? ⟨wi.heap.size, 4, none⟩ = some (.bool false) := (BW1.out.cell 4).trans rfl
              have d5 : (w1).cell? ⟨wi.heap.size, 5, none⟩ = some (.bool false) := (BW1.out.cell 5).trans rfl
              go_wp2_with fail
              clear f0 d0 d1 d2 d3 d4 d5
              have BWa := Aside0.mk (show Blk _ wi.heap.size 25 #[.int .i32 p.r, .int .i64 p.f, .int .i64 p.g, .bool p.bo, .bool p.un, .bool p.iv] from Blk.set_ (Blk.set_ (Blk.set_ (Blk.set_ (Blk.set_ (Blk.set_ BW1.out 0 (.int .i32 p.r)) 1 (.int .i64 p.f)) 2 (.int .i64 p.g)) 3 (.bool p.bo)) 4 (.bool p.un)) 5 (.bool p.iv))
              have HOa := Aside0.mk (((((((Only.refl [wi.heap.size] w1).setCell ⟨wi.heap.size, 0, none⟩ (.int .i32 p.r) (.inl (by simp))).setCell ⟨wi.heap.size, 1, none⟩ (.int .i64 p.f) (.inl (by simp))).setCell ⟨wi.heap.size, 2, none⟩ (.int .i64 p.g) (.inl (by simp))).setCell ⟨wi.heap.size, 3, none⟩ (.bool p.bo) (.inl (by simp))).setCell ⟨wi.heap.size, 4, none⟩ (.bool p.un) (.inl (by simp))).setCell ⟨wi.heap.size, 5, none⟩ (.bool p.iv) (.inl (by simp)))
              generalize (((((w1.setCell ⟨wi.heap.size, 0, none⟩ (.int .i32 p.r)).setCell ⟨wi.heap.size, 1, none⟩ (.int .i64 p.f)).setCell ⟨wi.heap.size, 2, none⟩ (.int .i64 p.g)).setCell ⟨wi.heap.size, 3, none⟩ (.bool p.bo)).setCell ⟨wi.heap.size, 4, none⟩ (.bool p.un)).setCell ⟨wi.heap.size, 5, none⟩ (.bool p.iv) = WA at BWa HOa ⊢
              have HIa := Aside0.mk (HI1.out.only HOa.out (by simp; omega) (by simp; omega))
              have HWa := Aside0.mk (HW1.out.only HOa.out (by simp; omega) (by simp; omega))
              have XBa := Aside0.mk (HOa.out.belowOf XB1.out XB1.out.size (by simpa using hgi))
              have hne := ne_cell p.r p.f p.g p.bo p.un p.iv
              obtain ⟨gw, hgw2⟩ : ∃ gw, gw = wi.heap.size := ⟨_, rfl⟩
              rw [← hgw2] at BWa ⊢
              have hgwl : w.heap.size ≤ gw := by have := XBi.out.size; omega
              clear hgw2
              have XQ0 := Aside0.mk (show WA.drew.heap[gw]? = some (.cells #[.int .i32 p.r, .int .i64 p.f, .int .i64 p.g, .bool p.bo, .bool p.un, .bool p.iv] 25 (0, 0)) ∧ IsGrid WA.drew g b9 W H cs9 ∧ IsGrid WA.drew g2 b2 W H cs ∧ Below w.heap.size w WA.drew from ⟨BWa.out, HIa.out, HWa.out, below_drew XBa.out⟩)
              refine wp_region_held_drew (S := fun w' => w'.heap[gw]? = some (.cells #[.int .i32 p.r, .int .i64 p.f, .int .i64 p.g, .bool p.bo, .bool p.un, .bool p.iv] 25 (0, 0)) ∧ IsGrid w' g b9 W H cs9 ∧ IsGrid w' g2 b2 W H cs ∧ Below w.heap.size w w') (by kernel_rfl) (by exact XQ0.out) (fun hHeld => ?_)
              refine takeH (i := 0) (d := 82) (v := (.pointer (some ⟨g, 0, none⟩))) rfl rfl (by kernel_rfl) (by kernel_rfl) (by kernel_rfl) (fun _ _ _ h => h) (Or.inl ⟨by kernel_rfl, by intro w hSw; (try dsimp only at hSw); go_simp; done⟩) (by assumption) ?_
              try simp only [List.setIfInBounds_toArray, List.set_cons_zero, List.set_cons_succ]
              refine takeH (i := 1) (d := 83) (v := (.int .i64 (i : Int))) rfl rfl (by kernel_rfl) (by kernel_rfl) (by kernel_rfl) (fun _ _ _ h => h) (Or.inl ⟨by kernel_rfl, by intro w hSw; (try dsimp only at hSw); go_simp; done⟩) (by assumption) ?_
              try simp only [List.setIfInBounds_toArray, List.set_cons_zero, List.set_cons_succ]
              refine takeH (i := 2) (d := 84) (v := (.int .i64 (j : Int))) rfl rfl (by kernel_rfl) (by kernel_rfl) (by kernel_rfl) (fun _ _ _ h => h) (Or.inl ⟨by kernel_rfl, by intro w hSw; (try dsimp only at hSw); go_simp; done⟩) (by assumption) ?_
              try simp only [List.setIfInBounds_toArray, List.set_cons_zero, List.set_cons_succ]
              refine takeH (i := 4) (d := 86) (v := (.agg #[.int .i32 p.r, .int .i64 p.f, .int .i64 p.g, .bool p.bo, .bool p.un, .bool p.iv])) rfl rfl (by kernel_rfl) (by kernel_rfl) (by kernel_rfl) (fun _ _ _ h => h) (Or.inl ⟨by kernel_rfl, by intro w hSw; (try dsimp only at hSw); have hq := hSw.1; have c0 := blk_cell hq 0; have c1 := blk_cell hq 1; have c2 := blk_cell hq 2; have c3 := blk_cell hq 3; have c4 := blk_cell hq 4; have c5 := blk_cell hq 5; simp only [List.getElem?_toArray, List.getElem?_cons_zero, List.getElem?_cons_succ] at c0 c1 c2 c3 c4 c5; clear hq; go_simp; done⟩) (by assumption) ?_
              try simp only [List.setIfInBounds_toArray, List.set_cons_zero, List.set_cons_succ]
              refine wpAnyH_ready (rs := [3]) (by kernel_rfl) (by simp) ?_
              refine AllReadyH.cons (o := { dst := some 85, op := Op.call { callee := Callee.value (Operand.func 18), args := #[Operand.tmp 82, Operand.tmp 83, Operand.tmp 84], argTypes := #[27, 3, 3] }, type := 25, pos := "more.go:35", after := #[{ on := 0, ground := Ground.data }, { on := 1, ground := Ground.data }, { on := 2, ground := Ground.data }], guard := none }) rfl (fun K hK => ?_) AllReadyH.nil
              rw [if_pos (by kernel_rfl)]
              go_simp
              refine (A3'.out _ XQ0.out.2.1).mono ?_
              rintro e1 w1 ⟨rfl, hb1⟩
              have XQ1 := Aside0.mk ((show _ ∧ IsGrid w1 g b9 W H cs9 ∧ IsGrid w1 g2 b2 W H cs ∧ Below w.heap.size w w1 from ⟨blk_below XQ0.out.1 hb1, XQ0.out.2.1.below hb1, XQ0.out.2.2.1.below hb1, below_step XQ0.out.2.2.2 hb1⟩))
              clear hb1
              clear hHeld
              refine hK.out _ _ (XQ1.out) (fun hHeld => ?_)
              clear hK K
              try simp only [Act.put, List.setIfInBounds_toArray, List.set_cons_zero, List.set_cons_succ]
              refine takeH (i := 5) (d := 87) (v := (.bool false)) rfl rfl (by kernel_rfl) (by kernel_rfl) (by kernel_rfl) (fun _ _ _ h => h) (Or.inl ⟨by kernel_rfl, by intro w hSw; (try dsimp only at hSw); go_simp; done⟩) (by assumption) ?_
              try simp only [List.setIfInBounds_toArray, List.set_cons_zero, List.set_cons_succ]
              refine wpAnyH_done (by kernel_rfl) ?_ _
              have XF := XQ1
              clear hHeld hne
              go_wp2
              go_roundg (W - (i + 1))
              case measure => have := HQi.out; omega
              case rel => exact ⟨i + 1, by go_num, ⟨by omega, rfl⟩, ⟨XF.out.2.1⟩, ⟨XF.out.2.2.1⟩, ⟨XF.out.2.2.2⟩⟩
            · have h4 := H3.out
              rw [if_neg (fun h => hc2 h.2)] at h4
              have A3' : Aside0 (∀ W1, IsGrid W1 g b9 W H cs9 → Calls Try.prog 18 #[.pointer (some ⟨g, 0, none⟩), .int .i64 (i : Int), .int .i64 (j : Int)] W1 fun r w' => r = .returned (.agg #[.int .i32 32, .int .i64 0, .int .i64 0, .bool false, .bool false, .bool false]) ∧ Below W1.heap.size W1 w') := Aside0.mk (A3.out bC h4)
              clear h4
              go_wp2_with fail
              have BWa := BW0
              have HIa := HI0
              have HWa := HW0
              have XBa := XB0
              generalize wi.alloc (.cells #[.int .i32 32, .int .i64 0, .int .i64 0, .bool false, .bool false, .bool false] 25) = WA at BWa HIa HWa XBa ⊢
              have hne := ne_cell 32 0 0 false false false
              obtain ⟨gw, hgw2⟩ : ∃ gw, gw = wi.heap.size := ⟨_, rfl⟩
              rw [← hgw2] at BWa ⊢
              have hgwl : w.heap.size ≤ gw := by have := XBi.out.size; omega
              clear hgw2
              have XQ0 := Aside0.mk (show WA.drew.heap[gw]? = some (.cells #[.int .i32 32, .int .i64 0, .int .i64 0, .bool false, .bool false, .bool false] 25 (0, 0)) ∧ IsGrid WA.drew g b9 W H cs9 ∧ IsGrid WA.drew g2 b2 W H cs ∧ Below w.heap.size w WA.drew from ⟨BWa.out, HIa.out, HWa.out, below_drew XBa.out⟩)
              refine wp_region_held_drew (S := fun w' => w'.heap[gw]? = some (.cells #[.int .i32 32, .int .i64 0, .int .i64 0, .bool false, .bool false, .bool false] 25 (0, 0)) ∧ IsGrid w' g b9 W H cs9 ∧ IsGrid w' g2 b2 W H cs ∧ Below w.heap.size w w') (by kernel_rfl) (by exact XQ0.out) (fun hHeld => ?_)
              refine takeH (i := 0) (d := 82) (v := (.pointer (some ⟨g, 0, none⟩))) rfl rfl (by kernel_rfl) (by kernel_rfl) (by kernel_rfl) (fun _ _ _ h => h) (Or.inl ⟨by kernel_rfl, by intro w hSw; (try dsimp only at hSw); go_simp; done⟩) (by assumption) ?_
              try simp only [List.setIfInBounds_toArray, List.set_cons_zero, List.set_cons_succ]
              refine takeH (i := 1) (d := 83) (v := (.int .i64 (i : Int))) rfl rfl (by kernel_rfl) (by kernel_rfl) (by kernel_rfl) (fun _ _ _ h => h) (Or.inl ⟨by kernel_rfl, by intro w hSw; (try dsimp only at hSw); go_simp; done⟩) (by assumption) ?_
              try simp only [List.setIfInBounds_toArray, List.set_cons_zero, List.set_cons_succ]
              refine takeH (i := 2) (d := 84) (v := (.int .i64 (j : Int))) rfl rfl (by kernel_rfl) (by kernel_rfl) (by kernel_rfl) (fun _ _ _ h => h) (Or.inl ⟨by kernel_rfl, by intro w hSw; (try dsimp only at hSw); go_simp; done⟩) (by assumption) ?_
              try simp only [List.setIfInBounds_toArray, List.set_cons_zero, List.set_cons_succ]
              refine takeH (i := 4) (d := 86) (v := (.agg #[.int .i32 32, .int .i64 0, .int .i64 0, .bool false, .bool false, .bool false])) rfl rfl (by kernel_rfl) (by kernel_rfl) (by kernel_rfl) (fun _ _ _ h => h) (Or.inl ⟨by kernel_rfl, by intro w hSw; (try dsimp only at hSw); have hq := hSw.1; have c0 := blk_cell hq 0; have c1 := blk_cell hq 1; have c2 := blk_cell hq 2; have c3 := blk_cell hq 3; have c4 := blk_cell hq 4; have c5 := blk_cell hq 5; simp only [List.getElem?_toArray, List.getElem?_cons_zero, List.getElem?_cons_succ] at c0 c1 c2 c3 c4 c5; clear hq; go_simp; done⟩) (by assumption) ?_
              try simp only [List.setIfInBounds_toArray, List.set_cons_zero, List.set_cons_succ]
              refine wpAnyH_ready (rs := [3]) (by kernel_rfl) (by simp) ?_
              refine AllReadyH.cons (o := { dst := some 85, op := Op.call { callee := Callee.value (Operand.func 18), args := #[Operand.tmp 82, Operand.tmp 83, Operand.tmp 84], argTypes := #[27, 3, 3] }, type := 25, pos := "more.go:35", after := #[{ on := 0, ground := Ground.data }, { on := 1, ground := Ground.data }, { on := 2, ground := Ground.data }], guard := none }) rfl (fun K hK => ?_) AllReadyH.nil
              rw [if_pos (by kernel_rfl)]
              go_simp
              refine (A3'.out _ XQ0.out.2.1).mono ?_
              rintro e1 w1 ⟨rfl, hb1⟩
              have XQ1 := Aside0.mk ((show _ ∧ IsGrid w1 g b9 W H cs9 ∧ IsGrid w1 g2 b2 W H cs ∧ Below w.heap.size w w1 from ⟨blk_below XQ0.out.1 hb1, XQ0.out.2.1.below hb1, XQ0.out.2.2.1.below hb1, below_step XQ0.out.2.2.2 hb1⟩))
              clear hb1
              clear hHeld
              refine hK.out _ _ (XQ1.out) (fun hHeld => ?_)
              clear hK K
              try simp only [Act.put, List.setIfInBounds_toArray, List.set_cons_zero, List.set_cons_succ]
              refine takeH (i := 5) (d := 87) (v := (.bool false)) rfl rfl (by kernel_rfl) (by kernel_rfl) (by kernel_rfl) (fun _ _ _ h => h) (Or.inl ⟨by kernel_rfl, by intro w hSw; (try dsimp only at hSw); go_simp; done⟩) (by assumption) ?_
              try simp only [List.setIfInBounds_toArray, List.set_cons_zero, List.set_cons_succ]
              refine wpAnyH_done (by kernel_rfl) ?_ _
              have XF := XQ1
              clear hHeld hne
              go_wp2
              go_roundg (W - (i + 1))
              case measure => have := HQi.out; omega
              case rel => exact ⟨i + 1, by go_num, ⟨by omega, rfl⟩, ⟨XF.out.2.1⟩, ⟨XF.out.2.2.1⟩, ⟨XF.out.2.2.2⟩⟩
          · have h4 := H3.out
            rw [if_neg (fun h => hc1 h.1)] at h4
            have A3' : Aside0 (∀ W1, IsGrid W1 g b9 W H cs9 → Calls Try.prog 18 #[.pointer (some ⟨g, 0, none⟩), .int .i64 (i : Int), .int .i64 (j : Int)] W1 fun r w' => r = .returned (.agg #[.int .i32 32, .int .i64 0, .int .i64 0, .bool false, .bool false, .bool false]) ∧ Below W1.heap.size W1 w') := Aside0.mk (A3.out bC h4)
            clear h4
            go_wp2_with fail
            have BWa := BW0
            have HIa := HI0
            have HWa := HW0
            have XBa := XB0
            generalize wi.alloc (.cells #[.int .i32 32, .int .i64 0, .int .i64 0, .bool false, .bool false, .bool false] 25) = WA at BWa HIa HWa XBa ⊢
            have hne := ne_cell 32 0 0 false false false
            obtain ⟨gw, hgw2⟩ : ∃ gw, gw = wi.heap.size := ⟨_, rfl⟩
            rw [← hgw2] at BWa ⊢
            have hgwl : w.heap.size ≤ gw := by have := XBi.out.size; omega
            clear hgw2
            have XQ0 := Aside0.mk (show WA.drew.heap[gw]? = some (.cells #[.int .i32 32, .int .i64 0, .int .i64 0, .bool false, .bool false, .bool false] 25 (0, 0)) ∧ IsGrid WA.drew g b9 W H cs9 ∧ IsGrid WA.drew g2 b2 W H cs ∧ Below w.heap.size w WA.drew from ⟨BWa.out, HIa.out, HWa.out, below_drew XBa.out⟩)
            refine wp_region_held_drew (S := fun w' => w'.heap[gw]? = some (.cells #[.int .i32 32, .int .i64 0, .int .i64 0, .bool false, .bool false, .bool false] 25 (0, 0)) ∧ IsGrid w' g b9 W H cs9 ∧ IsGrid w' g2 b2 W H cs ∧ Below w.heap.size w w') (by kernel_rfl) (by exact XQ0.out) (fun hHeld => ?_)
            refine takeH (i := 0) (d := 82) (v := (.pointer (some ⟨g, 0, none⟩))) rfl rfl (by kernel_rfl) (by kernel_rfl) (by kernel_rfl) (fun _ _ _ h => h) (Or.inl ⟨by kernel_rfl, by intro w hSw; (try dsimp only at hSw); go_simp; done⟩) (by assumption) ?_
            try simp only [List.setIfInBounds_toArray, List.set_cons_zero, List.set_cons_succ]
            refine takeH (i := 1) (d := 83) (v := (.int .i64 (i : Int))) rfl rfl (by kernel_rfl) (by kernel_rfl) (by kernel_rfl) (fun _ _ _ h => h) (Or.inl ⟨by kernel_rfl, by intro w hSw; (try dsimp only at hSw); go_simp; done⟩) (by assumption) ?_
            try simp only [List.setIfInBounds_toArray, List.set_cons_zero, List.set_cons_succ]
            refine takeH (i := 2) (d := 84) (v := (.int .i64 (j : Int))) rfl rfl (by kernel_rfl) (by kernel_rfl) (by kernel_rfl) (fun _ _ _ h => h) (Or.inl ⟨by kernel_rfl, by intro w hSw; (try dsimp only at hSw); go_simp; done⟩) (by assumption) ?_
            try simp only [List.setIfInBounds_toArray, List.set_cons_zero, List.set_cons_succ]
            refine takeH (i := 4) (d := 86) (v := (.agg #[.int .i32 32, .int .i64 0, .int .i64 0, .bool false, .bool false, .bool false])) rfl rfl (by kernel_rfl) (by kernel_rfl) (by kernel_rfl) (fun _ _ _ h => h) (Or.inl ⟨by kernel_rfl, by intro w hSw; (try dsimp only at hSw); have hq := hSw.1; have c0 := blk_cell hq 0; have c1 := blk_cell hq 1; have c2 := blk_cell hq 2; have c3 := blk_cell hq 3; have c4 := blk_cell hq 4; have c5 := blk_cell hq 5; simp only [List.getElem?_toArray, List.getElem?_cons_zero, List.getElem?_cons_succ] at c0 c1 c2 c3 c4 c5; clear hq; go_simp; done⟩) (by assumption) ?_
            try simp only [List.setIfInBounds_toArray, List.set_cons_zero, List.set_cons_succ]
            refine wpAnyH_ready (rs := [3]) (by kernel_rfl) (by simp) ?_
            refine AllReadyH.cons (o := { dst := some 85, op := Op.call { callee := Callee.value (Operand.func 18), args := #[Operand.tmp 82, Operand.tmp 83, Operand.tmp 84], argTypes := #[27, 3, 3] }, type := 25, pos := "more.go:35", after := #[{ on := 0, ground := Ground.data }, { on := 1, ground := Ground.data }, { on := 2, ground := Ground.data }], guard := none }) rfl (fun K hK => ?_) AllReadyH.nil
            rw [if_pos (by kernel_rfl)]
            go_simp
            refine (A3'.out _ XQ0.out.2.1).mono ?_
            rintro e1 w1 ⟨rfl, hb1⟩
            have XQ1 := Aside0.mk ((show _ ∧ IsGrid w1 g b9 W H cs9 ∧ IsGrid w1 g2 b2 W H cs ∧ Below w.heap.size w w1 from ⟨blk_below XQ0.out.1 hb1, XQ0.out.2.1.below hb1, XQ0.out.2.2.1.below hb1, below_step XQ0.out.2.2.2 hb1⟩))
            clear hb1
            clear hHeld
            refine hK.out _ _ (XQ1.out) (fun hHeld => ?_)
            clear hK K
            try simp only [Act.put, List.setIfInBounds_toArray, List.set_cons_zero, List.set_cons_succ]
            refine takeH (i := 5) (d := 87) (v := (.bool false)) rfl rfl (by kernel_rfl) (by kernel_rfl) (by kernel_rfl) (fun _ _ _ h => h) (Or.inl ⟨by kernel_rfl, by intro w hSw; (try dsimp only at hSw); go_simp; done⟩) (by assumption) ?_
            try simp only [List.setIfInBounds_toArray, List.set_cons_zero, List.set_cons_succ]
            refine wpAnyH_done (by kernel_rfl) ?_ _
            have XF := XQ1
            clear hHeld hne
            go_wp2
            go_roundg (W - (i + 1))
            case measure => have := HQi.out; omega
            case rel => exact ⟨i + 1, by go_num, ⟨by omega, rfl⟩, ⟨XF.out.2.1⟩, ⟨XF.out.2.2.1⟩, ⟨XF.out.2.2.2⟩⟩
        · obtain rfl : W = i := by omega
          go_wp2
          go_roundg (H - (j + 1))
          case measure => have := HQj.out; omega
          case rel => exact ⟨j + 1, by go_num, ⟨by omega, rfl⟩, HIi, HWi, XBi⟩
    · obtain rfl : H = j := by omega
      go_wp2_with fail
      refine (w_calls g b9 W H _ _ HIj.out).mono ?_
      rintro e3 w3 ⟨rfl, rfl⟩
      go_wp2_with fail
      refine (h_calls g b9 W H _ _ HIj.out).mono ?_
      rintro e4 w4 ⟨rfl, rfl⟩
      have q1 : (2 : Int) ≤ (A8 : Int) := by omega
      have q2 : (A8 : Int) ≤ 40 := by omega
      have q3 : (1 : Int) ≤ (B8 : Int) := by omega
      have q4 : (B8 : Int) ≤ 20 := by omega
      go_wp2
      go_ret
      exact ⟨rfl, XBj.out⟩
theorem sizes_row (w0 h0 x0 y0 : Int) (A : Option Addr) (c : Nat) (l : List C6) (w : World) (_h0 : (Lit.int .i64 w0).wf = true) (_h1 : (Lit.int .i64 h0).wf = true) (_h2 : (Lit.int .i64 x0).wf = true) (_h3 : (Lit.int .i64 y0).wf = true) (h : Kd.C Opens.kC w A l.length l) (hc : l.length ≤ c) :
    Calls Try.prog 7 #[.int .i64 w0, .int .i64 h0, .int .i64 x0, .int .i64 y0, .slice A l.length c] w fun r w' => r = .returned (.bool true) ∧ Below w.heap.size w w' := by
  by_cases hl : l.length ≤ 40
  · exact sizes_live w0 h0 x0 y0 A c l w (Opens.src_of h) hc hl
  · exact sizes_over w0 h0 x0 y0 A c l w hl
end Go.Proofs.Ytcmmdllnbijipaa.Grd
