/- The walk of GridFills: from a place to another one all cells are set, and no others. Conditions: those in each theorem. -/
import Derived.Test.YtcmmdllnbijipaaLawGA
import Derived.Test.YtcmmdllnbijipaaOpC
namespace Go.Proofs.Ytcmmdllnbijipaa.Grd
open Go.RowKit Go.Proofs.Ytcmmdllnbijipaa.Mem Go.Proofs.YtcmmdllnbijipaaW.PrintWords Go.Proofs.YtcmmdllnbijipaaW.PrintMore
attribute [local go_sem] max2_i min2_i max_two min_two
set_option linter.unusedVariables false
set_option linter.unusedSimpArgs false
theorem idx_at {W H k : Nat} (hk : k < W * H) (cs : List C6) (q : C6) (hq : cs[k]? = some q) : inG W H ((k % W : Nat) : Int) ((k / W : Nat) : Int) = true ∧ cs[ix W ((k % W : Nat) : Int) ((k / W : Nat) : Int)]? = some q := by
  have hW : 0 < W := by
    rcases Nat.eq_zero_or_pos W with h | h
    · rw [h, Nat.zero_mul] at hk; omega
    · exact h
  have h1 := Nat.mod_lt k hW
  have h2 : k / W < H := Nat.div_lt_of_lt_mul hk
  refine ⟨inG_iff.2 ⟨Int.natCast_nonneg _, Int.ofNat_lt.2 h1, Int.natCast_nonneg _, Int.ofNat_lt.2 h2⟩, ?_⟩
  have : ix W ((k % W : Nat) : Int) ((k / W : Nat) : Int) = k := by
    unfold ix
    rw [Int.toNat_natCast, Int.toNat_natCast, Nat.mul_comm]
    exact Nat.div_add_mod k W
  rw [this]
  exact hq
theorem div_in {k W : Nat} (hk : k ≤ 1000) : IntKind.i64.wrap ((k : Int) / (W : Int)) = (k : Int) / (W : Int) := by
  have h := Nat.div_le_self k W
  rw [← Int.natCast_ediv]
  generalize k / W = d at h ⊢
  exact IntWalk.i64_in _ (by omega)
theorem mod_in {k W : Nat} (hk : k ≤ 1000) : IntKind.i64.wrap ((k : Int) % (W : Int)) = (k : Int) % (W : Int) := by
  have h := Nat.mod_le k W
  rw [← Int.natCast_emod]
  generalize k % W = d at h ⊢
  exact IntWalk.i64_in _ (by omega)
set_option maxHeartbeats 4000000 in
set_option maxRecDepth 100000 in
theorem fills_live (w0 h0 a z : Int) (x : C6) (w : World) :
    Calls Try.prog 3 #[.int .i64 w0, .int .i64 h0, .int .i64 a, .int .i64 z, .agg #[.int .i32 x.r, .int .i64 x.f, .int .i64 x.g, .bool x.bo, .bool x.un, .bool x.iv]] w fun r w' => r = .returned (.bool true) ∧ Below w.heap.size w w' := by
  have hu := Try.underlying25
  have hua := Try.underlying23
  have XX := Aside0.mk (Blk.new w 25 #[.int .i32 x.r, .int .i64 x.f, .int .i64 x.g, .bool x.bo, .bool x.un, .bool x.iv])
  have XB := Aside0.mk (below_alloc (Below.refl w.heap.size w) (.cells #[.int .i32 x.r, .int .i64 x.f, .int .i64 x.g, .bool x.bo, .bool x.un, .bool x.iv] 25))
  go_enter Try.func3, Try.ntmps3
  go_wp2_with fail
  refine (alive15 _).mono ?_
  rintro e1 w1 ⟨rfl, hb1⟩
  have XX := Aside0.mk (XX.out.below' hb1)
  have XB := Aside0.mk (below_step XB.out hb1)
  clear hb1
  go_wp2_with fail
  refine (new_calls w0 h0 _).mono ?_
  rintro e2 w2 ⟨g, b, rfl, hg, hb, hI, hB⟩
  obtain ⟨W, hW⟩ : ∃ W, W = clW w0 := ⟨_, rfl⟩
  obtain ⟨H, hH⟩ : ∃ H, H = clH h0 := ⟨_, rfl⟩
  have hW2 := clW_le w0
  have hH2 := clH_le h0
  rw [← hW] at hW2 hI
  rw [← hH] at hH2 hI
  have hxl := XX.out.lt
  have XX := Aside0.mk (XX.out.below' hB)
  have XB := Aside0.mk (below_step XB.out hB)
  have HI := Aside0.mk hI
  have hgl := hI.lt
  have hsz1 : w.heap.size + 1 ≤ w1.heap.size := by omega
  clear hI hB hW hH
  have hn := eql_grid ⟨g, 0, none⟩
  go_wp2_with fail
  refine (w_calls g b W H _ _ HI.out).mono ?_
  rintro e3 w3 ⟨rfl, rfl⟩
  go_wp2_with fail
  refine (h_calls g b W H _ _ HI.out).mono ?_
  rintro e4 w4 ⟨rfl, rfl⟩
  have x0 : w2.cell? ⟨w.heap.size, 0, none⟩ = some (.int .i32 x.r) := (XX.out.cell 0).trans rfl
  have x1 : w2.cell? ⟨w.heap.size, 1, none⟩ = some (.int .i64 x.f) := (XX.out.cell 1).trans rfl
  have x2 : w2.cell? ⟨w.heap.size, 2, none⟩ = some (.int .i64 x.g) := (XX.out.cell 2).trans rfl
  have x3 : w2.cell? ⟨w.heap.size, 3, none⟩ = some (.bool x.bo) := (XX.out.cell 3).trans rfl
  have x4 : w2.cell? ⟨w.heap.size, 4, none⟩ = some (.bool x.un) := (XX.out.cell 4).trans rfl
  have x5 : w2.cell? ⟨w.heap.size, 5, none⟩ = some (.bool x.iv) := (XX.out.cell 5).trans rfl
  go_wp2_with fail
  clear x0 x1 x2 x3 x4 x5
  refine (gfill_calls g b W H a z x _ _ HI.out).mono ?_
  rintro e5 w5 ⟨rfl, hI5, hO5⟩
  obtain ⟨N, hN⟩ : ∃ N, N = W * H := ⟨_, rfl⟩
  obtain ⟨cs, hcs⟩ : ∃ cs, cs = gFill (List.replicate (W * H) bC) a z x := ⟨_, rfl⟩
  rw [← hcs] at hI5
  have HC := Aside0.mk (show ∀ k, k < N → cs[k]? = some (if a ≤ k ∧ (k : Int) < z then x else bC) by
    intro k hk
    rw [hcs, gFill_get _ _ _ _ _ (by rw [List.length_replicate, ← hN]; exact hk), List.getElem?_replicate]
    by_cases hq : a ≤ k ∧ (k : Int) < z
    · rw [if_pos hq, if_pos hq]
    · rw [if_neg hq, if_neg hq, if_pos (by rw [← hN]; exact hk)])
  have HI := Aside0.mk hI5
  have XX := Aside0.mk (XX.out.only hO5 (by simp; omega))
  have XB := Aside0.mk (hO5.belowOf XB.out XB.out.size (by simp; omega))
  have HN := Aside0.mk hN
  have hN8 : N ≤ 800 := by rw [hN]; exact wh_le hW2.2 hH2.2
  have hw : IntKind.i64.wrap ((W : Int) * (H : Int)) = (N : Int) := by rw [hN, Int.natCast_mul]; exact IntWalk.i64_in _ (by rw [← Int.natCast_mul, ← hN]; omega)
  clear hI5 hO5 hcs hN
  go_wp2_with fail
  go_loopg [12] N (fun kq v12 wr => ∃ k : Nat, v12 = .int .i64 (k : Int) ∧ Aside0 (k ≤ N ∧ kq = N - k) ∧ Aside0 (IsGrid wr g b W H cs) ∧ Aside0 (Blk wr w.heap.size 25 #[.int .i32 x.r, .int .i64 x.f, .int .i64 x.g, .bool x.bo, .bool x.un, .bool x.iv]) ∧ Aside0 (Below w.heap.size w wr))
  case atStart => exact ⟨0, rfl, ⟨Nat.zero_le _, rfl⟩, HI, XX, XB⟩
  case round =>
    obtain ⟨k, rfl, ⟨hk, hkq⟩, HIr, XXr, XBr⟩ := hrel
    have HQ := Aside0.mk hkq
    clear hkq HI XX XB
    by_cases hlt : k < N
    · have hkN : k < W * H := by rw [← HN.out]; exact hlt
      have hW0 : (W : Int) ≠ 0 := by omega
      have XXa := Aside0.mk (XXr.out.alloc (.cells #[.int .i32 32, .int .i64 0, .int .i64 0, .bool false, .bool false, .bool false] 25))
      have x0 : (wr.alloc (.cells #[.int .i32 32, .int .i64 0, .int .i64 0, .bool false, .bool false, .bool false] 25)).cell? ⟨w.heap.size, 0, none⟩ = some (.int .i32 x.r) := (XXa.out.cell 0).trans rfl
      have x1 : (wr.alloc (.cells #[.int .i32 32, .int .i64 0, .int .i64 0, .bool false, .bool false, .bool false] 25)).cell? ⟨w.heap.size, 1, none⟩ = some (.int .i64 x.f) := (XXa.out.cell 1).trans rfl
      have x2 : (wr.alloc (.cells #[.int .i32 32, .int .i64 0, .int .i64 0, .bool false, .bool false, .bool false] 25)).cell? ⟨w.heap.size, 2, none⟩ = some (.int .i64 x.g) := (XXa.out.cell 2).trans rfl
      have x3 : (wr.alloc (.cells #[.int .i32 32, .int .i64 0, .int .i64 0, .bool false, .bool false, .bool false] 25)).cell? ⟨w.heap.size, 3, none⟩ = some (.bool x.bo) := (XXa.out.cell 3).trans rfl
      have x4 : (wr.alloc (.cells #[.int .i32 32, .int .i64 0, .int .i64 0, .bool false, .bool false, .bool false] 25)).cell? ⟨w.heap.size, 4, none⟩ = some (.bool x.un) := (XXa.out.cell 4).trans rfl
      have x5 : (wr.alloc (.cells #[.int .i32 32, .int .i64 0, .int .i64 0, .bool false, .bool false, .bool false] 25)).cell? ⟨w.heap.size, 5, none⟩ = some (.bool x.iv) := (XXa.out.cell 5).trans rfl
      by_cases c1 : a ≤ k
      · by_cases c2 : (k : Int) < z
        · skip
          have hck : cs[k]? = some x := by rw [HC.out k hlt, if_pos ⟨c1, c2⟩]
          obtain ⟨hia, hib⟩ := idx_at (W := W) (H := H) (k := k) hkN cs x hck
          have HA := Aside0.mk (fun W1 hh => at_in g b W H ((k % W : Nat) : Int) ((k / W : Nat) : Int) cs x W1 hh hia hib)
          clear hck hia hib
          go_wp2_with fail
          have BW := Aside0.mk (Blk.new wr 25 #[.int .i32 x.r, .int .i64 x.f, .int .i64 x.g, .bool x.bo, .bool x.un, .bool x.iv])
          have BX := Aside0.mk (XXr.out.alloc (.cells #[.int .i32 x.r, .int .i64 x.f, .int .i64 x.g, .bool x.bo, .bool x.un, .bool x.iv] 25))
          have BB := Aside0.mk (below_alloc XBr.out (.cells #[.int .i32 x.r, .int .i64 x.f, .int .i64 x.g, .bool x.bo, .bool x.un, .bool x.iv] 25))
          have BI := Aside0.mk (HIr.out.below (below_alloc (Below.refl _ _) (.cells #[.int .i32 x.r, .int .i64 x.f, .int .i64 x.g, .bool x.bo, .bool x.un, .bool x.iv] 25)))
          have hA2 : ∀ W1, IsGrid W1 g b W H cs → Calls Try.prog 18 #[.pointer (some ⟨g, 0, none⟩), .int .i64 ((k % W : Nat) : Int), .int .i64 ((k / W : Nat) : Int)] W1 (fun r w' => r = .returned (.agg #[.int .i32 x.r, .int .i64 x.f, .int .i64 x.g, .bool x.bo, .bool x.un, .bool x.iv]) ∧ Below W1.heap.size W1 w') := HA.out
          have HA2 := Aside0.mk hA2
          have hne := ne_cell x.r x.f x.g x.bo x.un x.iv
          generalize wr.alloc (.cells #[.int .i32 x.r, .int .i64 x.f, .int .i64 x.g, .bool x.bo, .bool x.un, .bool x.iv] 25) = WA at BW BX BB BI ⊢
          clear hA2 x0 x1 x2 x3 x4 x5
          obtain ⟨gw, hgw⟩ : ∃ gw, gw = wr.heap.size := ⟨_, rfl⟩
          rw [← hgw] at BW ⊢
          clear hgw
          have hWn : ¬ W = 0 := by omega
          have htm : ((k : Int)).tmod (W : Int) = (k : Int) % (W : Int) := Int.tmod_eq_emod_of_nonneg (Int.natCast_nonneg k)
          have hwq := div_in (k := k) (W := W) (by omega)
          have hwm := mod_in (k := k) (W := W) (by omega)
          have XP0 := Aside0.mk (show WA.drew.heap[gw]? = some (.cells #[.int .i32 x.r, .int .i64 x.f, .int .i64 x.g, .bool x.bo, .bool x.un, .bool x.iv] 25 (0, 0)) from BW.out)
          refine wp_region_held_drew (S := fun w' => w'.heap[gw]? = some (.cells #[.int .i32 x.r, .int .i64 x.f, .int .i64 x.g, .bool x.bo, .bool x.un, .bool x.iv] 25 (0, 0))) (by kernel_rfl) (by exact XP0.out) (fun hHeld => ?_)
          refine takeH (i := 0) (d := 47) (v := (.pointer (some ⟨g, 0, none⟩))) rfl rfl (by kernel_rfl) (by kernel_rfl) (by kernel_rfl) (fun _ _ _ h => h) (Or.inl ⟨by kernel_rfl, by intro w hSw; (try dsimp only at hSw); go_simp; done⟩) (by assumption) ?_
          try simp only [List.setIfInBounds_toArray, List.set_cons_zero, List.set_cons_succ]
          refine takeH (i := 1) (d := 48) (v := (.int .i64 ((k : Int)))) rfl rfl (by kernel_rfl) (by kernel_rfl) (by kernel_rfl) (fun _ _ _ h => h) (Or.inl ⟨by kernel_rfl, by intro w hSw; (try dsimp only at hSw); go_simp; done⟩) (by assumption) ?_
          try simp only [List.setIfInBounds_toArray, List.set_cons_zero, List.set_cons_succ]
          refine takeH (i := 2) (d := 49) (v := (.int .i64 ((W : Int)))) rfl rfl (by kernel_rfl) (by kernel_rfl) (by kernel_rfl) (fun _ _ _ h => h) (Or.inl ⟨by kernel_rfl, by intro w hSw; (try dsimp only at hSw); go_simp; done⟩) (by assumption) ?_
          try simp only [List.setIfInBounds_toArray, List.set_cons_zero, List.set_cons_succ]
          refine takeH (i := 3) (d := 50) (v := (.int .i64 (((k % W : Nat) : Int)))) rfl rfl (by kernel_rfl) (by kernel_rfl) (by kernel_rfl) (fun _ _ _ h => h) (Or.inl ⟨by kernel_rfl, by intro w hSw; (try dsimp only at hSw); go_simp; done⟩) (by assumption) ?_
          try simp only [List.setIfInBounds_toArray, List.set_cons_zero, List.set_cons_succ]
          refine takeH (i := 4) (d := 51) (v := (.int .i64 ((k : Int)))) rfl rfl (by kernel_rfl) (by kernel_rfl) (by kernel_rfl) (fun _ _ _ h => h) (Or.inl ⟨by kernel_rfl, by intro w hSw; (try dsimp only at hSw); go_simp; done⟩) (by assumption) ?_
          try simp only [List.setIfInBounds_toArray, List.set_cons_zero, List.set_cons_succ]
          refine takeH (i := 5) (d := 52) (v := (.int .i64 ((W : Int)))) rfl rfl (by kernel_rfl) (by kernel_rfl) (by kernel_rfl) (fun _ _ _ h => h) (Or.inl ⟨by kernel_rfl, by intro w hSw; (try dsimp only at hSw); go_simp; done⟩) (by assumption) ?_
          try simp only [List.setIfInBounds_toArray, List.set_cons_zero, List.set_cons_succ]
          refine takeH (i := 6) (d := 53) (v := (.int .i64 (((k / W : Nat) : Int)))) rfl rfl (by kernel_rfl) (by kernel_rfl) (by kernel_rfl) (fun _ _ _ h => h) (Or.inl ⟨by kernel_rfl, by intro w hSw; (try dsimp only at hSw); go_simp; done⟩) (by assumption) ?_
          try simp only [List.setIfInBounds_toArray, List.set_cons_zero, List.set_cons_succ]
          refine takeH (i := 8) (d := 55) (v := (.agg #[.int .i32 x.r, .int .i64 x.f, .int .i64 x.g, .bool x.bo, .bool x.un, .bool x.iv])) rfl rfl (by kernel_rfl) (by kernel_rfl) (by kernel_rfl) (fun _ _ _ h => h) (Or.inl ⟨by kernel_rfl, by intro w hSw; (try dsimp only at hSw); have hq := hSw; have c0 := blk_cell hq 0; have c1 := blk_cell hq 1; have c2 := blk_cell hq 2; have c3 := blk_cell hq 3; have c4 := blk_cell hq 4; have c5 := blk_cell hq 5; simp only [List.getElem?_toArray, List.getElem?_cons_zero, List.getElem?_cons_succ] at c0 c1 c2 c3 c4 c5; clear hq; go_simp; done⟩) (by assumption) ?_
          try simp only [List.setIfInBounds_toArray, List.set_cons_zero, List.set_cons_succ]
          refine wpAnyH_ready (rs := [7]) (by kernel_rfl) (by simp) ?_
          refine AllReadyH.cons (o := { dst := some 54, op := Op.call { callee := Callee.value (Operand.func 18), args := #[Operand.tmp 47, Operand.tmp 50, Operand.tmp 53], argTypes := #[27, 3, 3] }, type := 25, pos := "more.go:90", after := #[{ on := 0, ground := Ground.data }, { on := 3, ground := Ground.data }, { on := 6, ground := Ground.data }], guard := none }) rfl (fun K hK => ?_) AllReadyH.nil
          rw [if_pos (by kernel_rfl)]
          go_simp
          refine (HA2.out WA.drew BI.out).mono ?_
          rintro e9 w9 ⟨rfl, hb9⟩
          have XP1 := Aside0.mk (blk_below XP0.out hb9)
          have HB9 := Aside0.mk hb9
          clear hb9 hHeld
          refine hK.out _ _ (XP1.out) (fun hHeld => ?_)
          clear hK K
          try simp only [Act.put, List.setIfInBounds_toArray, List.set_cons_zero, List.set_cons_succ]
          refine takeH (i := 9) (d := 56) (v := (.bool false)) rfl rfl (by kernel_rfl) (by kernel_rfl) (by kernel_rfl) (fun _ _ _ h => h) (Or.inl ⟨by kernel_rfl, by intro w hSw; (try dsimp only at hSw); go_simp; done⟩) (by assumption) ?_
          try simp only [List.setIfInBounds_toArray, List.set_cons_zero, List.set_cons_succ]
          refine wpAnyH_done (by kernel_rfl) ?_ _
          have HB9 := Aside0.mk (show Below WA.heap.size WA w9 from ⟨HB9.out.os, HB9.out.tape, HB9.out.output, HB9.out.size, HB9.out.block⟩)
          clear hHeld hwq hwm htm
          go_wp2
          go_roundg (N - (k + 1))
          case measure => have := HQ.out; omega
          case rel => exact ⟨k + 1, by go_num, ⟨by omega, rfl⟩, ⟨BI.out.below HB9.out⟩, ⟨BX.out.below' HB9.out⟩, ⟨below_step BB.out HB9.out⟩⟩
        · skip
          have hck : cs[k]? = some bC := by rw [HC.out k hlt, if_neg (fun h => c2 h.2)]
          obtain ⟨hia, hib⟩ := idx_at (W := W) (H := H) (k := k) hkN cs bC hck
          have HA := Aside0.mk (fun W1 hh => at_in g b W H ((k % W : Nat) : Int) ((k / W : Nat) : Int) cs bC W1 hh hia hib)
          clear hck hia hib
          go_wp2_with fail
          have BW := Aside0.mk (Blk.new wr 25 #[.int .i32 32, .int .i64 0, .int .i64 0, .bool false, .bool false, .bool false])
          have BX := Aside0.mk (XXr.out.alloc (.cells #[.int .i32 32, .int .i64 0, .int .i64 0, .bool false, .bool false, .bool false] 25))
          have BB := Aside0.mk (below_alloc XBr.out (.cells #[.int .i32 32, .int .i64 0, .int .i64 0, .bool false, .bool false, .bool false] 25))
          have BI := Aside0.mk (HIr.out.below (below_alloc (Below.refl _ _) (.cells #[.int .i32 32, .int .i64 0, .int .i64 0, .bool false, .bool false, .bool false] 25)))
          have hA2 : ∀ W1, IsGrid W1 g b W H cs → Calls Try.prog 18 #[.pointer (some ⟨g, 0, none⟩), .int .i64 ((k % W : Nat) : Int), .int .i64 ((k / W : Nat) : Int)] W1 (fun r w' => r = .returned (.agg #[.int .i32 32, .int .i64 0, .int .i64 0, .bool false, .bool false, .bool false]) ∧ Below W1.heap.size W1 w') := HA.out
          have HA2 := Aside0.mk hA2
          have hne := ne_cell 32 0 0 false false false
          generalize wr.alloc (.cells #[.int .i32 32, .int .i64 0, .int .i64 0, .bool false, .bool false, .bool false] 25) = WA at BW BX BB BI ⊢
          clear hA2 x0 x1 x2 x3 x4 x5
          obtain ⟨gw, hgw⟩ : ∃ gw, gw = wr.heap.size := ⟨_, rfl⟩
          rw [← hgw] at BW ⊢
          clear hgw
          have hWn : ¬ W = 0 := by omega
          have htm : ((k : Int)).tmod (W : Int) = (k : Int) % (W : Int) := Int.tmod_eq_emod_of_nonneg (Int.natCast_nonneg k)
          have hwq := div_in (k := k) (W := W) (by omega)
          have hwm := mod_in (k := k) (W := W) (by omega)
          have XP0 := Aside0.mk (show WA.drew.heap[gw]? = some (.cells #[.int .i32 32, .int .i64 0, .int .i64 0, .bool false, .bool false, .bool false] 25 (0, 0)) from BW.out)
          refine wp_region_held_drew (S := fun w' => w'.heap[gw]? = some (.cells #[.int .i32 32, .int .i64 0, .int .i64 0, .bool false, .bool false, .bool false] 25 (0, 0))) (by kernel_rfl) (by exact XP0.out) (fun hHeld => ?_)
          refine takeH (i := 0) (d := 47) (v := (.pointer (some ⟨g, 0, none⟩))) rfl rfl (by kernel_rfl) (by kernel_rfl) (by kernel_rfl) (fun _ _ _ h => h) (Or.inl ⟨by kernel_rfl, by intro w hSw; (try dsimp only at hSw); go_simp; done⟩) (by assumption) ?_
          try simp only [List.setIfInBounds_toArray, List.set_cons_zero, List.set_cons_succ]
          refine takeH (i := 1) (d := 48) (v := (.int .i64 ((k : Int)))) rfl rfl (by kernel_rfl) (by kernel_rfl) (by kernel_rfl) (fun _ _ _ h => h) (Or.inl ⟨by kernel_rfl, by intro w hSw; (try dsimp only at hSw); go_simp; done⟩) (by assumption) ?_
          try simp only [List.setIfInBounds_toArray, List.set_cons_zero, List.set_cons_succ]
          refine takeH (i := 2) (d := 49) (v := (.int .i64 ((W : Int)))) rfl rfl (by kernel_rfl) (by kernel_rfl) (by kernel_rfl) (fun _ _ _ h => h) (Or.inl ⟨by kernel_rfl, by intro w hSw; (try dsimp only at hSw); go_simp; done⟩) (by assumption) ?_
          try simp only [List.setIfInBounds_toArray, List.set_cons_zero, List.set_cons_succ]
          refine takeH (i := 3) (d := 50) (v := (.int .i64 (((k % W : Nat) : Int)))) rfl rfl (by kernel_rfl) (by kernel_rfl) (by kernel_rfl) (fun _ _ _ h => h) (Or.inl ⟨by kernel_rfl, by intro w hSw; (try dsimp only at hSw); go_simp; done⟩) (by assumption) ?_
          try simp only [List.setIfInBounds_toArray, List.set_cons_zero, List.set_cons_succ]
          refine takeH (i := 4) (d := 51) (v := (.int .i64 ((k : Int)))) rfl rfl (by kernel_rfl) (by kernel_rfl) (by kernel_rfl) (fun _ _ _ h => h) (Or.inl ⟨by kernel_rfl, by intro w hSw; (try dsimp only at hSw); go_simp; done⟩) (by assumption) ?_
          try simp only [List.setIfInBounds_toArray, List.set_cons_zero, List.set_cons_succ]
          refine takeH (i := 5) (d := 52) (v := (.int .i64 ((W : Int)))) rfl rfl (by kernel_rfl) (by kernel_rfl) (by kernel_rfl) (fun _ _ _ h => h) (Or.inl ⟨by kernel_rfl, by intro w hSw; (try dsimp only at hSw); go_simp; done⟩) (by assumption) ?_
          try simp only [List.setIfInBounds_toArray, List.set_cons_zero, List.set_cons_succ]
          refine takeH (i := 6) (d := 53) (v := (.int .i64 (((k / W : Nat) : Int)))) rfl rfl (by kernel_rfl) (by kernel_rfl) (by kernel_rfl) (fun _ _ _ h => h) (Or.inl ⟨by kernel_rfl, by intro w hSw; (try dsimp only at hSw); go_simp; done⟩) (by assumption) ?_
          try simp only [List.setIfInBounds_toArray, List.set_cons_zero, List.set_cons_succ]
          refine takeH (i := 8) (d := 55) (v := (.agg #[.int .i32 32, .int .i64 0, .int .i64 0, .bool false, .bool false, .bool false])) rfl rfl (by kernel_rfl) (by kernel_rfl) (by kernel_rfl) (fun _ _ _ h => h) (Or.inl ⟨by kernel_rfl, by intro w hSw; (try dsimp only at hSw); have hq := hSw; have c0 := blk_cell hq 0; have c1 := blk_cell hq 1; have c2 := blk_cell hq 2; have c3 := blk_cell hq 3; have c4 := blk_cell hq 4; have c5 := blk_cell hq 5; simp only [List.getElem?_toArray, List.getElem?_cons_zero, List.getElem?_cons_succ] at c0 c1 c2 c3 c4 c5; clear hq; go_simp; done⟩) (by assumption) ?_
          try simp only [List.setIfInBounds_toArray, List.set_cons_zero, List.set_cons_succ]
          refine wpAnyH_ready (rs := [7]) (by kernel_rfl) (by simp) ?_
          refine AllReadyH.cons (o := { dst := some 54, op := Op.call { callee := Callee.value (Operand.func 18), args := #[Operand.tmp 47, Operand.tmp 50, Operand.tmp 53], argTypes := #[27, 3, 3] }, type := 25, pos := "more.go:90", after := #[{ on := 0, ground := Ground.data }, { on := 3, ground := Ground.data }, { on := 6, ground := Ground.data }], guard := none }) rfl (fun K hK => ?_) AllReadyH.nil
          rw [if_pos (by kernel_rfl)]
          go_simp
          refine (HA2.out WA.drew BI.out).mono ?_
          rintro e9 w9 ⟨rfl, hb9⟩
          have XP1 := Aside0.mk (blk_below XP0.out hb9)
          have HB9 := Aside0.mk hb9
          clear hb9 hHeld
          refine hK.out _ _ (XP1.out) (fun hHeld => ?_)
          clear hK K
          try simp only [Act.put, List.setIfInBounds_toArray, List.set_cons_zero, List.set_cons_succ]
          refine takeH (i := 9) (d := 56) (v := (.bool false)) rfl rfl (by kernel_rfl) (by kernel_rfl) (by kernel_rfl) (fun _ _ _ h => h) (Or.inl ⟨by kernel_rfl, by intro w hSw; (try dsimp only at hSw); go_simp; done⟩) (by assumption) ?_
          try simp only [List.setIfInBounds_toArray, List.set_cons_zero, List.set_cons_succ]
          refine wpAnyH_done (by kernel_rfl) ?_ _
          have HB9 := Aside0.mk (show Below WA.heap.size WA w9 from ⟨HB9.out.os, HB9.out.tape, HB9.out.output, HB9.out.size, HB9.out.block⟩)
          clear hHeld hwq hwm htm
          go_wp2
          go_roundg (N - (k + 1))
          case measure => have := HQ.out; omega
          case rel => exact ⟨k + 1, by go_num, ⟨by omega, rfl⟩, ⟨BI.out.below HB9.out⟩, ⟨BX.out.below' HB9.out⟩, ⟨below_step BB.out HB9.out⟩⟩
      · skip
        have hck : cs[k]? = some bC := by rw [HC.out k hlt, if_neg (fun h => c1 h.1)]
        obtain ⟨hia, hib⟩ := idx_at (W := W) (H := H) (k := k) hkN cs bC hck
        have HA := Aside0.mk (fun W1 hh => at_in g b W H ((k % W : Nat) : Int) ((k / W : Nat) : Int) cs bC W1 hh hia hib)
        clear hck hia hib
        go_wp2_with fail
        have BW := Aside0.mk (Blk.new wr 25 #[.int .i32 32, .int .i64 0, .int .i64 0, .bool false, .bool false, .bool false])
        have BX := Aside0.mk (XXr.out.alloc (.cells #[.int .i32 32, .int .i64 0, .int .i64 0, .bool false, .bool false, .bool false] 25))
        have BB := Aside0.mk (below_alloc XBr.out (.cells #[.int .i32 32, .int .i64 0, .int .i64 0, .bool false, .bool false, .bool false] 25))
        have BI := Aside0.mk (HIr.out.below (below_alloc (Below.refl _ _) (.cells #[.int .i32 32, .int .i64 0, .int .i64 0, .bool false, .bool false, .bool false] 25)))
        have hA2 : ∀ W1, IsGrid W1 g b W H cs → Calls Try.prog 18 #[.pointer (some ⟨g, 0, none⟩), .int .i64 ((k % W : Nat) : Int), .int .i64 ((k / W : Nat) : Int)] W1 (fun r w' => r = .returned (.agg #[.int .i32 32, .int .i64 0, .int .i64 0, .bool false, .bool false, .bool false]) ∧ Below W1.heap.size W1 w') := HA.out
        have HA2 := Aside0.mk hA2
        have hne := ne_cell 32 0 0 false false false
        generalize wr.alloc (.cells #[.int .i32 32, .int .i64 0, .int .i64 0, .bool false, .bool false, .bool false] 25) = WA at BW BX BB BI ⊢
        clear hA2 x0 x1 x2 x3 x4 x5
        obtain ⟨gw, hgw⟩ : ∃ gw, gw = wr.heap.size := ⟨_, rfl⟩
        rw [← hgw] at BW ⊢
        clear hgw
        have hWn : ¬ W = 0 := by omega
        have htm : ((k : Int)).tmod (W : Int) = (k : Int) % (W : Int) := Int.tmod_eq_emod_of_nonneg (Int.natCast_nonneg k)
        have hwq := div_in (k := k) (W := W) (by omega)
        have hwm := mod_in (k := k) (W := W) (by omega)
        have XP0 := Aside0.mk (show WA.drew.heap[gw]? = some (.cells #[.int .i32 32, .int .i64 0, .int .i64 0, .bool false, .bool false, .bool false] 25 (0, 0)) from BW.out)
        refine wp_region_held_drew (S := fun w' => w'.heap[gw]? = some (.cells #[.int .i32 32, .int .i64 0, .int .i64 0, .bool false, .bool false, .bool false] 25 (0, 0))) (by kernel_rfl) (by exact XP0.out) (fun hHeld => ?_)
        refine takeH (i := 0) (d := 47) (v := (.pointer (some ⟨g, 0, none⟩))) rfl rfl (by kernel_rfl) (by kernel_rfl) (by kernel_rfl) (fun _ _ _ h => h) (Or.inl ⟨by kernel_rfl, by intro w hSw; (try dsimp only at hSw); go_simp; done⟩) (by assumption) ?_
        try simp only [List.setIfInBounds_toArray, List.set_cons_zero, List.set_cons_succ]
        refine takeH (i := 1) (d := 48) (v := (.int .i64 ((k : Int)))) rfl rfl (by kernel_rfl) (by kernel_rfl) (by kernel_rfl) (fun _ _ _ h => h) (Or.inl ⟨by kernel_rfl, by intro w hSw; (try dsimp only at hSw); go_simp; done⟩) (by assumption) ?_
        try simp only [List.setIfInBounds_toArray, List.set_cons_zero, List.set_cons_succ]
        refine takeH (i := 2) (d := 49) (v := (.int .i64 ((W : Int)))) rfl rfl (by kernel_rfl) (by kernel_rfl) (by kernel_rfl) (fun _ _ _ h => h) (Or.inl ⟨by kernel_rfl, by intro w hSw; (try dsimp only at hSw); go_simp; done⟩) (by assumption) ?_
        try simp only [List.setIfInBounds_toArray, List.set_cons_zero, List.set_cons_succ]
        refine takeH (i := 3) (d := 50) (v := (.int .i64 (((k % W : Nat) : Int)))) rfl rfl (by kernel_rfl) (by kernel_rfl) (by kernel_rfl) (fun _ _ _ h => h) (Or.inl ⟨by kernel_rfl, by intro w hSw; (try dsimp only at hSw); go_simp; done⟩) (by assumption) ?_
        try simp only [List.setIfInBounds_toArray, List.set_cons_zero, List.set_cons_succ]
        refine takeH (i := 4) (d := 51) (v := (.int .i64 ((k : Int)))) rfl rfl (by kernel_rfl) (by kernel_rfl) (by kernel_rfl) (fun _ _ _ h => h) (Or.inl ⟨by kernel_rfl, by intro w hSw; (try dsimp only at hSw); go_simp; done⟩) (by assumption) ?_
        try simp only [List.setIfInBounds_toArray, List.set_cons_zero, List.set_cons_succ]
        refine takeH (i := 5) (d := 52) (v := (.int .i64 ((W : Int)))) rfl rfl (by kernel_rfl) (by kernel_rfl) (by kernel_rfl) (fun _ _ _ h => h) (Or.inl ⟨by kernel_rfl, by intro w hSw; (try dsimp only at hSw); go_simp; done⟩) (by assumption) ?_
        try simp only [List.setIfInBounds_toArray, List.set_cons_zero, List.set_cons_succ]
        refine takeH (i := 6) (d := 53) (v := (.int .i64 (((k / W : Nat) : Int)))) rfl rfl (by kernel_rfl) (by kernel_rfl) (by kernel_rfl) (fun _ _ _ h => h) (Or.inl ⟨by kernel_rfl, by intro w hSw; (try dsimp only at hSw); go_simp; done⟩) (by assumption) ?_
        try simp only [List.setIfInBounds_toArray, List.set_cons_zero, List.set_cons_succ]
        refine takeH (i := 8) (d := 55) (v := (.agg #[.int .i32 32, .int .i64 0, .int .i64 0, .bool false, .bool false, .bool false])) rfl rfl (by kernel_rfl) (by kernel_rfl) (by kernel_rfl) (fun _ _ _ h => h) (Or.inl ⟨by kernel_rfl, by intro w hSw; (try dsimp only at hSw); have hq := hSw; have c0 := blk_cell hq 0; have c1 := blk_cell hq 1; have c2 := blk_cell hq 2; have c3 := blk_cell hq 3; have c4 := blk_cell hq 4; have c5 := blk_cell hq 5; simp only [List.getElem?_toArray, List.getElem?_cons_zero, List.getElem?_cons_succ] at c0 c1 c2 c3 c4 c5; clear hq; go_simp; done⟩) (by assumption) ?_
        try simp only [List.setIfInBounds_toArray, List.set_cons_zero, List.set_cons_succ]
        refine wpAnyH_ready (rs := [7]) (by kernel_rfl) (by simp) ?_
        refine AllReadyH.cons (o := { dst := some 54, op := Op.call { callee := Callee.value (Operand.func 18), args := #[Operand.tmp 47, Operand.tmp 50, Operand.tmp 53], argTypes := #[27, 3, 3] }, type := 25, pos := "more.go:90", after := #[{ on := 0, ground := Ground.data }, { on := 3, ground := Ground.data }, { on := 6, ground := Ground.data }], guard := none }) rfl (fun K hK => ?_) AllReadyH.nil
        rw [if_pos (by kernel_rfl)]
        go_simp
        refine (HA2.out WA.drew BI.out).mono ?_
        rintro e9 w9 ⟨rfl, hb9⟩
        have XP1 := Aside0.mk (blk_below XP0.out hb9)
        have HB9 := Aside0.mk hb9
        clear hb9 hHeld
        refine hK.out _ _ (XP1.out) (fun hHeld => ?_)
        clear hK K
        try simp only [Act.put, List.setIfInBounds_toArray, List.set_cons_zero, List.set_cons_succ]
        refine takeH (i := 9) (d := 56) (v := (.bool false)) rfl rfl (by kernel_rfl) (by kernel_rfl) (by kernel_rfl) (fun _ _ _ h => h) (Or.inl ⟨by kernel_rfl, by intro w hSw; (try dsimp only at hSw); go_simp; done⟩) (by assumption) ?_
        try simp only [List.setIfInBounds_toArray, List.set_cons_zero, List.set_cons_succ]
        refine wpAnyH_done (by kernel_rfl) ?_ _
        have HB9 := Aside0.mk (show Below WA.heap.size WA w9 from ⟨HB9.out.os, HB9.out.tape, HB9.out.output, HB9.out.size, HB9.out.block⟩)
        clear hHeld hwq hwm htm
        go_wp2
        go_roundg (N - (k + 1))
        case measure => have := HQ.out; omega
        case rel => exact ⟨k + 1, by go_num, ⟨by omega, rfl⟩, ⟨BI.out.below HB9.out⟩, ⟨BX.out.below' HB9.out⟩, ⟨below_step BB.out HB9.out⟩⟩
    · obtain rfl : k = N := by omega
      have hg1 := at_out g b W H (W : Int) 0 cs wr HIr.out (by omega)
      have hq0 := eq_cell 0 0 0 false false false
      go_wp2_with fail
      refine hg1.mono ?_
      rintro e1 w1 ⟨rfl, hb1⟩
      have HI1 := Aside0.mk (HIr.out.below hb1)
      have XX1 := Aside0.mk (XXr.out.below' hb1)
      have XB1 := Aside0.mk (below_step XBr.out hb1)
      clear hb1 hg1
      go_wp2_with fail
      refine (at_out g b W H 0 (H : Int) cs w1 HI1.out (by omega)).mono ?_
      rintro e2 w2 ⟨rfl, hb2⟩
      have HI2 := Aside0.mk (HI1.out.below hb2)
      have XX2 := Aside0.mk (XX1.out.below' hb2)
      have XB2 := Aside0.mk (below_step XB1.out hb2)
      clear hb2
      have x0 : w2.cell? ⟨w.heap.size, 0, none⟩ = some (.int .i32 x.r) := (XX2.out.cell 0).trans rfl
      have x1 : w2.cell? ⟨w.heap.size, 1, none⟩ = some (.int .i64 x.f) := (XX2.out.cell 1).trans rfl
      have x2 : w2.cell? ⟨w.heap.size, 2, none⟩ = some (.int .i64 x.g) := (XX2.out.cell 2).trans rfl
      have x3 : w2.cell? ⟨w.heap.size, 3, none⟩ = some (.bool x.bo) := (XX2.out.cell 3).trans rfl
      have x4 : w2.cell? ⟨w.heap.size, 4, none⟩ = some (.bool x.un) := (XX2.out.cell 4).trans rfl
      have x5 : w2.cell? ⟨w.heap.size, 5, none⟩ = some (.bool x.iv) := (XX2.out.cell 5).trans rfl
      go_wp2_with fail
      clear x0 x1 x2 x3 x4 x5
      have XR := Aside0.mk (Src.new w2 [x] #[.int .i32 x.r, .int .i64 x.f, .int .i64 x.g, .bool x.bo, .bool x.un, .bool x.iv] rfl)
      have XX3 := Aside0.mk (XX2.out.alloc (.cells #[.int .i32 x.r, .int .i64 x.f, .int .i64 x.g, .bool x.bo, .bool x.un, .bool x.iv] 25))
      have XB3 := Aside0.mk (below_alloc XB2.out (.cells #[.int .i32 x.r, .int .i64 x.f, .int .i64 x.g, .bool x.bo, .bool x.un, .bool x.iv] 25))
      refine (set_calls g b W H (W : Int) 0 _ 1 1 [x] cs _ (HI2.out.below (below_alloc (Below.refl _ _) _)) XR.out).mono ?_
      rintro e3 w3 ⟨rfl, hI3, hO3⟩
      have hs0 : gSetN W H (W : Int) 0 1 = 0 := by
        unfold gSetN
        rw [if_neg (fun h => by have := inG_iff.1 h; omega)]
      rw [hs0]
      have HI3 := Aside0.mk hI3
      have XX3 := Aside0.mk (XX3.out.only hO3 (by simp; omega))
      have XB3 := Aside0.mk (hO3.belowOf XB3.out (by have := XB3.out.size; omega) (by simp; omega))
      clear hI3 hO3 hs0
      obtain ⟨cs4, hcs4⟩ : ∃ q, q = gSet W H cs (W : Int) 0 [x] := ⟨_, rfl⟩
      rw [← hcs4] at HI3
      clear hcs4
      have x0 : w3.cell? ⟨w.heap.size, 0, none⟩ = some (.int .i32 x.r) := (XX3.out.cell 0).trans rfl
      have x1 : w3.cell? ⟨w.heap.size, 1, none⟩ = some (.int .i64 x.f) := (XX3.out.cell 1).trans rfl
      have x2 : w3.cell? ⟨w.heap.size, 2, none⟩ = some (.int .i64 x.g) := (XX3.out.cell 2).trans rfl
      have x3 : w3.cell? ⟨w.heap.size, 3, none⟩ = some (.bool x.bo) := (XX3.out.cell 3).trans rfl
      have x4 : w3.cell? ⟨w.heap.size, 4, none⟩ = some (.bool x.un) := (XX3.out.cell 4).trans rfl
      have x5 : w3.cell? ⟨w.heap.size, 5, none⟩ = some (.bool x.iv) := (XX3.out.cell 5).trans rfl
      have hw1 : IntKind.i64.wrap ((W : Int) - 1) = (W : Int) - 1 := IntWalk.i64_in _ (by omega)
      have hw2 : IntKind.i64.wrap ((H : Int) - 1) = (H : Int) - 1 := IntWalk.i64_in _ (by omega)
      go_wp2_with fail
      clear x0 x1 x2 x3 x4 x5
      have XR := Aside0.mk (Src.new w3 [x, x] #[.int .i32 x.r, .int .i64 x.f, .int .i64 x.g, .bool x.bo, .bool x.un, .bool x.iv, .int .i32 x.r, .int .i64 x.f, .int .i64 x.g, .bool x.bo, .bool x.un, .bool x.iv] rfl)
      have XB4 := Aside0.mk (below_alloc XB3.out (.cells #[.int .i32 x.r, .int .i64 x.f, .int .i64 x.g, .bool x.bo, .bool x.un, .bool x.iv, .int .i32 x.r, .int .i64 x.f, .int .i64 x.g, .bool x.bo, .bool x.un, .bool x.iv] 25))
      refine (set_calls g b W H ((W : Int) - 1) ((H : Int) - 1) _ 2 2 [x, x] cs4 _ (HI3.out.below (below_alloc (Below.refl _ _) _)) XR.out).mono ?_
      rintro e4 w4 ⟨rfl, hI4, hO4⟩
      have hs1 : gSetN W H ((W : Int) - 1) ((H : Int) - 1) 2 = 1 := by
        unfold gSetN
        rw [if_pos (inG_iff.2 ⟨by omega, by omega, by omega, by omega⟩)]
        omega
      rw [hs1]
      have XB5 := Aside0.mk (hO4.belowOf XB4.out (by have := XB4.out.size; omega) (by simp; omega))
      clear hI4 hO4 hs1
      go_wp2
      go_ret
      exact ⟨rfl, XB5.out⟩
theorem fills_row (w0 h0 a z : Int) (r f g : Int) (x y t : Bool) (w : World) (_h0 : (Lit.int .i64 w0).wf = true) (_h1 : (Lit.int .i64 h0).wf = true) (_h2 : (Lit.int .i64 a).wf = true) (_h3 : (Lit.int .i64 z).wf = true) :
    Calls Try.prog 3 #[.int .i64 w0, .int .i64 h0, .int .i64 a, .int .i64 z, .agg #[.int .i32 r, .int .i64 f, .int .i64 g, .bool x, .bool y, .bool t]] w fun r w' => r = .returned (.bool true) ∧ Below w.heap.size w w' := fills_live w0 h0 a z ⟨r, f, g, x, y, t⟩ w
end Go.Proofs.Ytcmmdllnbijipaa.Grd
