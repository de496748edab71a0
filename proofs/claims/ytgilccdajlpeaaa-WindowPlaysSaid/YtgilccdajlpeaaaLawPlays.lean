/- The walk of WindowPlays. Conditions: those in each theorem. -/
import Derived.Test.YtgilccdajlpeaaaPlaysD
import Derived.Test.YtgilccdajlpeaaaLawOnce
namespace Go.Proofs.Ytgilccdajlpeaaa.Win
open Go.RowKit Go.Proofs.Ytgilccdajlpeaaa.Once Go.Proofs.Ytgilccdajlpeaaa.PWindowFar Go.Proofs.Ytgilccdajlpeaaa.Pure Go.Proofs.YtgilccdajlpeaaaW.PrintWords Go.Proofs.YtgilccdajlpeaaaW.PrintLast Go.Proofs.YtgilccdajlpeaaaW.PrintMore
attribute [local go_sem] max2_int min2_int max_two min_two max_three min_three max_four min_four
set_option linter.unusedVariables false
set_option linter.unusedSimpArgs false

/-- The memory in a round: the window, the document's, one number of the list. -/
def PS (w : World) (gw gr B : Nat) (t : Int) (s : Nat) (G : List Int) (ad : Addr) (x : Int) (w' : World) : Prop :=
  Below w.heap.size w w' ∧ w'.heap[gw]? = some (.cells #[.int .i64 t, .int .u64 s] 26 (0, 0)) ∧ IsW B w' gr t G ∧ w'.cell? ad = some (.int .i64 x)
section
variable {w w1 w2 : World} {gw gr B : Nat} {t x : Int} {s : Nat} {G : List Int} {ad : Addr}
theorem PS.below (h : PS w gw gr B t s G ad x w1) (hb : Below w1.heap.size w1 w2) : PS w gw gr B t s G ad x w2 :=
  ⟨below_step h.1 hb, blk_below h.2.1 hb, h.2.2.1.below hb, pw_cell_below hb h.2.2.2⟩
theorem PS.alloc (h : PS w gw gr B t s G ad x w1) (o : Obj) : PS w gw gr B t s G ad x (w1.alloc o) := h.below (below_alloc (Below.refl _ _) o)
theorem PS.drew (h : PS w gw gr B t s G ad x w1) : PS w gw gr B t s G ad x w1.drew := ⟨below_drew h.1, h.2.1, h.2.2.1, h.2.2.2⟩
theorem PS.far {cs : Array Value} (h : PS w gw gr B t s G ad x w1) {g j : Nat} {v : Value} (h1 : w.heap.size ≤ g) (h2 : gw ≠ g) (h3 : gr ≠ g) (h4 : ad.block ≠ g) (h5 : w1.heap[g]? = some (.cells cs 26 (0, 0))) : PS w gw gr B t s G ad x (w1.setCell ⟨g, j, none⟩ v) := by
  obtain ⟨hb, hw, ⟨u, hu, ho⟩, hc⟩ := h
  exact ⟨below_set hb h1, blk_far hw h2 _, ⟨u, blk_far hu h3 _, own_setCell ho (own_ne ho h5 (by decide)) _⟩, (World.cell?_of_block (w := w1) (heap_setCell_other w1 ⟨g, j, none⟩ ad.block v h4)).trans hc⟩
end
theorem fresh_w (t : Int) (s : Nat) (G : List Int) (n : Int) (w : World) (h : RS t s G) :
    Calls Try.prog 18 #[.agg #[.int .i64 t, .int .u64 s], .int .i64 n] w fun e w' => e = .returned (.bool (rfr t G n)) ∧ Below w.heap.size w w' :=
  window_Window_Fresh.calls 1 t s n _ w (by rw [fresh_ok t s n h.t0 h.t1 h.s64 1 (by omega), rs_fr h])
theorem mark_w (t : Int) (s : Nat) (n t' : Int) (s' : Nat) (b : Bool) (w : World) (G : List Int) (h : RS t s G) (hm : mk t s n = (t', s', b)) :
    Calls Try.prog 11 #[.agg #[.int .i64 t, .int .u64 s], .int .i64 n] w fun e w' => e = .returned (.tuple #[.agg #[.int .i64 t', .int .u64 s'], .bool b]) ∧ Below w.heap.size w w' :=
  window_Window_Mark.calls 1 t s n t' s' b w (by rw [mark_ok t s n h.t0 h.t1 h.s64 1 (by omega), hm])
theorem rfresh_w (B g : Nat) (t : Int) (s : Nat) (G : List Int) (n : Int) (w : World) (h : IsW B w g t G) (hr : RS t s G) (hG : G.length ≤ 1000) :
    Calls Try.prog 19 #[.pointer (some ⟨g, 0, none⟩), .int .i64 n] w fun r w' => r = .returned (.bool (rfr t G n)) ∧ Below w.heap.size w w' := by
  refine (rfresh_calls B g t G n w h hr.t0 hr.t1 hG).mono ?_
  rintro e w' ⟨rfl, rfl⟩
  exact ⟨rfl, Below.refl _ _⟩
theorem rbits_w (B g : Nat) (t : Int) (s : Nat) (G : List Int) (w : World) (h : IsW B w g t G) (hr : RS t s G) (hG : G.length ≤ 1000) :
    Calls Try.prog 21 #[.pointer (some ⟨g, 0, none⟩)] w fun r w' => r = .returned (.int .u64 s) ∧ Below w.heap.size w w' := by
  refine (rbits_calls B g t G w h hr.t0 hr.t1 hG hr.inn).mono ?_
  rintro e w' ⟨rfl, m, rfl⟩
  exact ⟨by rw [rs_bits hr], pw_below_drewN (Below.refl _ _) m⟩
theorem old_w (t : Int) (s : Nat) (G : List Int) (w : World) (h : RS t s G) :
    Calls Try.prog 22 #[.agg #[.int .i64 t, .int .u64 s]] w fun e w' => e = .returned (.int .i64 (max (t - 64) 0)) ∧ Below w.heap.size w w' :=
  window_Window_Old.calls t s _ w (old_ok t s h.t0 h.t1)
set_option maxHeartbeats 16000000 in
set_option maxRecDepth 100000 in
theorem plays_live (A : Option Addr) (cap : Nat) (zs : List Int) (ask : Int) (w : World) (hc : ∀ i x, zs[i]? = some x → ∃ ad, A = some ad ∧ w.cell? (ad.add i) = some (.int .i64 x)) (h2 : zs.length ≤ 200) :
    Calls Try.prog 8 #[.slice A zs.length cap, .int .i64 ask] w fun r w' => r = .returned (.bool true) ∧ Below w.heap.size w w' := by
  have hn1 : (zs.length : Int) ≤ 200 := by omega
  have HA := Aside0.mk hc
  clear hc
  go_enter Try.func8, Try.ntmps8
  go_wp2_with fail
  refine (alive _).mono ?_
  rintro e0 w0 ⟨rfl, hb0⟩
  have HB0 := Aside0.mk hb0
  clear hb0
  go_wp2_with fail
  obtain ⟨gw, hgw⟩ : ∃ g, g = w0.heap.size := ⟨_, rfl⟩
  obtain ⟨gr, hgr⟩ : ∃ g, g = w0.heap.size + 1 := ⟨_, rfl⟩
  have GE : w.heap.size ≤ gw := by rw [hgw]; exact HB0.out.size
  have GM : gr = gw + 1 := by omega
  have BK1 := Aside0.mk (blk_alloc (blk_new w0 (.cells #[.int .i64 0, .int .u64 0] 26)) (.cells #[.int .i64 0, .slice none 0 0] 42))
  have IW1 := Aside0.mk (show IsW (gr + 1) ((w0.alloc (.cells #[.int .i64 0, .int .u64 0] 26)).alloc (.cells #[.int .i64 0, .slice none 0 0] 42)) (w0.alloc (.cells #[.int .i64 0, .int .u64 0] 26)).heap.size 0 [] from ⟨_, blk_new _ _, own_nil _ _ _ _⟩)
  have hgr2 : gr = (w0.alloc (.cells #[.int .i64 0, .int .u64 0] 26)).heap.size := by rw [hgr]; simp
  rw [← hgr2] at IW1
  rw [← hgw] at BK1
  have HB2 := Aside0.mk (below_alloc (below_alloc HB0.out (.cells #[.int .i64 0, .int .u64 0] 26)) (.cells #[.int .i64 0, .slice none 0 0] 42))
  have HS2 : gr + 1 ≤ ((w0.alloc (.cells #[.int .i64 0, .int .u64 0] 26)).alloc (.cells #[.int .i64 0, .slice none 0 0] 42)).heap.size := by simp; omega
  rw [← hgr, ← hgw]
  generalize ((w0.alloc (.cells #[.int .i64 0, .int .u64 0] 26)).alloc (.cells #[.int .i64 0, .slice none 0 0] 42)) = W0 at BK1 IW1 HB2 HS2 ⊢
  clear hgr2 hgr hgw
  have GMA := Aside0.mk GM
  clear GM
  go_loopg [7] zs.length (fun kq v7 wr => ∃ (i : Nat) (t : Int) (s : Nat) (G : List Int), v7 = .int .i64 (i : Int) ∧ Aside0 (i ≤ zs.length ∧ kq = zs.length - i) ∧ Aside0 (RS t s G) ∧ Aside0 (G.length ≤ i) ∧ Aside0 (wr.heap[gw]? = some (.cells #[.int .i64 t, .int .u64 s] 26 (0, 0))) ∧ Aside0 (IsW (gr + 1) wr gr t G) ∧ Aside0 (Below w.heap.size w wr) ∧ Aside0 (gr + 1 ≤ wr.heap.size))
  case atStart => exact ⟨0, 0, 0, [], rfl, ⟨Nat.zero_le _, rfl⟩, ⟨rs_zero⟩, ⟨Nat.le_refl _⟩, BK1, IW1, HB2, ⟨HS2⟩⟩
  case round =>
    obtain ⟨i, t, s, G, rfl, ⟨hi, hkq⟩, HR, HG, BK, IW, HB, HSZ⟩ := hrel
    have HQ := Aside0.mk hkq
    clear hkq
    by_cases hlt : i < zs.length
    · have hi0 : (0 : Int) ≤ (i : Int) := Int.natCast_nonneg _
      have hi1 : (i : Int) < (zs.length : Int) := by omega
      obtain ⟨ad, hAd, hcz0⟩ := HA.out i zs[i] (by simp [hlt])
      subst hAd
      have hadw := World.block_lt_of_cell? w _ hcz0
      obtain ⟨x, hx⟩ : ∃ x, x = zs[i] := ⟨_, rfl⟩
      rw [← hx] at hcz0
      clear hx
      have hG : G.length ≤ 900 := by have := HG.out; omega
      obtain ⟨t', s', G', b, hmk, hb, ht', hR', hG', hN', hS'⟩ := rs_step HR.out x
      have HMK := Aside0.mk hmk
      have HBB := Aside0.mk hb
      have HT' := Aside0.mk ht'
      have HR' := Aside0.mk hR'
      have HG' := Aside0.mk hG'
      have HN' := Aside0.mk hN'
      have HS' := Aside0.mk hS'
      clear hmk hb ht' hR' hG' hN' hS'
      have XP0 := Aside0.mk (show PS w gw gr (gr + 1) t s G (ad.add i) x wr.drew from ⟨below_drew HB.out, BK.out, IW.out, pw_cell_below HB.out hcz0⟩)
      have hsz0 := HSZ.out
      go_upto_region 8 with (fail)
      have hsw := HB.out.size
      refine wp_region_held_drew (S := PS w gw gr (gr + 1) t s G (ad.add i) x) (by kernel_rfl) (by exact XP0.out) (fun hHeld => ?_)
      refine takeH (i := 0) (d := 26) (v := (.agg #[.int .i64 t, .int .u64 (s : Int)])) rfl rfl (by kernel_rfl) (by kernel_rfl) (by kernel_rfl) (fun _ _ _ h => h) (Or.inl ⟨by kernel_rfl, by intro w hSw; (try dsimp only at hSw); obtain ⟨s0, s1, s2, s3⟩ := hSw; have c0 := blk_cell s1 0; have c1 := blk_cell s1 1; simp only [List.getElem?_toArray, List.getElem?_cons_zero, List.getElem?_cons_succ] at c0 c1; clear s0 s1 s2 s3; go_simp; done⟩) (by assumption) ?_
      try simp only [List.setIfInBounds_toArray, List.set_cons_zero, List.set_cons_succ]
      refine takeH (i := 1) (d := 27) (v := (.slice (some ad) zs.length cap)) rfl rfl (by kernel_rfl) (by kernel_rfl) (by kernel_rfl) (fun _ _ _ h => h) (Or.inl ⟨by kernel_rfl, by intro w hSw; (try dsimp only at hSw); go_simp; done⟩) (by assumption) ?_
      try simp only [List.setIfInBounds_toArray, List.set_cons_zero, List.set_cons_succ]
      refine takeH (i := 2) (d := 28) (v := (.int .i64 (i : Int))) rfl rfl (by kernel_rfl) (by kernel_rfl) (by kernel_rfl) (fun _ _ _ h => h) (Or.inl ⟨by kernel_rfl, by intro w hSw; (try dsimp only at hSw); go_simp; done⟩) (by assumption) ?_
      try simp only [List.setIfInBounds_toArray, List.set_cons_zero, List.set_cons_succ]
      refine takeH (i := 3) (d := 29) (v := (.pointer (some (ad.add i)))) rfl rfl (by kernel_rfl) (by kernel_rfl) (by kernel_rfl) (fun _ _ _ h => h) (Or.inl ⟨by kernel_rfl, by intro w hSw; (try dsimp only at hSw); go_simp; done⟩) (by assumption) ?_
      try simp only [List.setIfInBounds_toArray, List.set_cons_zero, List.set_cons_succ]
      refine takeH (i := 4) (d := 30) (v := (.int .i64 x)) rfl rfl (by kernel_rfl) (by kernel_rfl) (by kernel_rfl) (fun _ _ _ h => h) (Or.inl ⟨by kernel_rfl, by intro w hSw; (try dsimp only at hSw); obtain ⟨s0, s1, s2, s3⟩ := hSw; clear s0 s1 s2; go_simp; done⟩) (by assumption) ?_
      try simp only [List.setIfInBounds_toArray, List.set_cons_zero, List.set_cons_succ]
      refine takeH (i := 6) (d := 32) (v := (.pointer (some ⟨gr, 0, none⟩))) rfl rfl (by kernel_rfl) (by kernel_rfl) (by kernel_rfl) (fun _ _ _ h => h) (Or.inl ⟨by kernel_rfl, by intro w hSw; (try dsimp only at hSw); go_simp; done⟩) (by assumption) ?_
      try simp only [List.setIfInBounds_toArray, List.set_cons_zero, List.set_cons_succ]
      refine takeH (i := 7) (d := 33) (v := (.slice (some ad) zs.length cap)) rfl rfl (by kernel_rfl) (by kernel_rfl) (by kernel_rfl) (fun _ _ _ h => h) (Or.inl ⟨by kernel_rfl, by intro w hSw; (try dsimp only at hSw); go_simp; done⟩) (by assumption) ?_
      try simp only [List.setIfInBounds_toArray, List.set_cons_zero, List.set_cons_succ]
      refine takeH (i := 8) (d := 34) (v := (.int .i64 (i : Int))) rfl rfl (by kernel_rfl) (by kernel_rfl) (by kernel_rfl) (fun _ _ _ h => h) (Or.inl ⟨by kernel_rfl, by intro w hSw; (try dsimp only at hSw); go_simp; done⟩) (by assumption) ?_
      try simp only [List.setIfInBounds_toArray, List.set_cons_zero, List.set_cons_succ]
      refine takeH (i := 9) (d := 35) (v := (.pointer (some (ad.add i)))) rfl rfl (by kernel_rfl) (by kernel_rfl) (by kernel_rfl) (fun _ _ _ h => h) (Or.inl ⟨by kernel_rfl, by intro w hSw; (try dsimp only at hSw); go_simp; done⟩) (by assumption) ?_
      try simp only [List.setIfInBounds_toArray, List.set_cons_zero, List.set_cons_succ]
      refine takeH (i := 10) (d := 36) (v := (.int .i64 x)) rfl rfl (by kernel_rfl) (by kernel_rfl) (by kernel_rfl) (fun _ _ _ h => h) (Or.inl ⟨by kernel_rfl, by intro w hSw; (try dsimp only at hSw); obtain ⟨s0, s1, s2, s3⟩ := hSw; clear s0 s1 s2; go_simp; done⟩) (by assumption) ?_
      try simp only [List.setIfInBounds_toArray, List.set_cons_zero, List.set_cons_succ]
      refine wpAnyH_ready (rs := [5]) (by kernel_rfl) (by simp) ?_
      refine AllReadyH.cons (o := { dst := some 31, op := Op.call { callee := Callee.value (Operand.func 18), args := #[Operand.tmp 26, Operand.tmp 30], argTypes := #[26, 3] }, type := 4, pos := "law.go:24", after := #[{ on := 0, ground := Ground.data }, { on := 4, ground := Ground.data }], guard := none }) rfl (fun K hK => ?_) AllReadyH.nil
      rw [if_pos (by kernel_rfl)]
      go_simp
      refine (fresh_w t s G x _ HR.out).mono ?_
      rintro e1 w1 ⟨rfl, hB1⟩
      have X2 := Aside0.mk (XP0.out.below hB1)
      have hs1 := hB1.size
      (try simp at hs1)
      clear hB1
      clear hHeld
      refine hK.out _ _ (X2.out) (fun hHeld => ?_)
      clear hK K
      try simp only [Act.put, List.setIfInBounds_toArray, List.set_cons_zero, List.set_cons_succ]
      refine wpAnyH_ready (rs := [11]) (by kernel_rfl) (by simp) ?_
      refine AllReadyH.cons (o := { dst := some 37, op := Op.call { callee := Callee.value (Operand.func 19), args := #[Operand.tmp 32, Operand.tmp 36], argTypes := #[40, 3] }, type := 4, pos := "law.go:24", after := #[{ on := 6, ground := Ground.data }, { on := 10, ground := Ground.data }, { on := 5, ground := Ground.chain }], guard := none }) rfl (fun K hK => ?_) AllReadyH.nil
      rw [if_pos (by kernel_rfl)]
      go_simp
      refine (rfresh_w (gr + 1) gr t s G x _ X2.out.2.2.1 HR.out (by omega)).mono ?_
      rintro e3 w3 ⟨rfl, hB3⟩
      have X4 := Aside0.mk (X2.out.below hB3)
      have hs3 := hB3.size
      (try simp at hs3)
      clear hB3
      clear hHeld
      refine hK.out _ _ (X4.out) (fun hHeld => ?_)
      clear hK K
      try simp only [Act.put, List.setIfInBounds_toArray, List.set_cons_zero, List.set_cons_succ]
      refine takeH (i := 12) (d := 38) (v := (.bool false)) rfl rfl (by kernel_rfl) (by kernel_rfl) (by kernel_rfl) (fun _ _ _ h => h) (Or.inl ⟨by kernel_rfl, by intro w hSw; (try dsimp only at hSw); go_simp; done⟩) (by assumption) ?_
      try simp only [List.setIfInBounds_toArray, List.set_cons_zero, List.set_cons_succ]
      refine wpAnyH_done (by kernel_rfl) ?_ _
      have hsz9 : gr + 1 ≤ w3.heap.size := by omega
      have XP9 := X4
      go_upto_region 10 with (fail)
      go_cut [8, 9] (fun v8 v9 wc => ∃ g2, v8 = .pointer (some ⟨g2, 0, none⟩) ∧ v9 = .bool b ∧ Aside0 (gr < g2) ∧ Aside0 (wc.heap[g2]? = some (.cells #[.int .i64 t', .int .u64 s'] 26 (0, 0))) ∧ Aside0 (PS w gw gr (gr + 1) t s G (ad.add i) x wc) ∧ Aside0 (gr + 1 ≤ wc.heap.size))
      case first =>
        have XP9d := Aside0.mk XP9.out.drew
        have hdr3 : w3.drew.heap.size = w3.heap.size := rfl
        refine wp_region_held_drew (S := PS w gw gr (gr + 1) t s G (ad.add i) x) (by kernel_rfl) (by exact XP9.out.drew) (fun hHeld => ?_)
        refine takeH (i := 0) (d := 40) (v := (.agg #[.int .i64 t, .int .u64 (s : Int)])) rfl rfl (by kernel_rfl) (by kernel_rfl) (by kernel_rfl) (fun _ _ _ h => h) (Or.inl ⟨by kernel_rfl, by intro w hSw; (try dsimp only at hSw); obtain ⟨s0, s1, s2, s3⟩ := hSw; have c0 := blk_cell s1 0; have c1 := blk_cell s1 1; simp only [List.getElem?_toArray, List.getElem?_cons_zero, List.getElem?_cons_succ] at c0 c1; clear s0 s1 s2 s3; go_simp; done⟩) (by assumption) ?_
        try simp only [List.setIfInBounds_toArray, List.set_cons_zero, List.set_cons_succ]
        refine takeH (i := 1) (d := 41) (v := (.slice (some ad) zs.length cap)) rfl rfl (by kernel_rfl) (by kernel_rfl) (by kernel_rfl) (fun _ _ _ h => h) (Or.inl ⟨by kernel_rfl, by intro w hSw; (try dsimp only at hSw); go_simp; done⟩) (by assumption) ?_
        try simp only [List.setIfInBounds_toArray, List.set_cons_zero, List.set_cons_succ]
        refine takeH (i := 2) (d := 42) (v := (.int .i64 (i : Int))) rfl rfl (by kernel_rfl) (by kernel_rfl) (by kernel_rfl) (fun _ _ _ h => h) (Or.inl ⟨by kernel_rfl, by intro w hSw; (try dsimp only at hSw); go_simp; done⟩) (by assumption) ?_
        try simp only [List.setIfInBounds_toArray, List.set_cons_zero, List.set_cons_succ]
        refine takeH (i := 3) (d := 43) (v := (.pointer (some (ad.add i)))) rfl rfl (by kernel_rfl) (by kernel_rfl) (by kernel_rfl) (fun _ _ _ h => h) (Or.inl ⟨by kernel_rfl, by intro w hSw; (try dsimp only at hSw); go_simp; done⟩) (by assumption) ?_
        try simp only [List.setIfInBounds_toArray, List.set_cons_zero, List.set_cons_succ]
        refine takeH (i := 4) (d := 44) (v := (.int .i64 x)) rfl rfl (by kernel_rfl) (by kernel_rfl) (by kernel_rfl) (fun _ _ _ h => h) (Or.inl ⟨by kernel_rfl, by intro w hSw; (try dsimp only at hSw); obtain ⟨s0, s1, s2, s3⟩ := hSw; clear s0 s1 s2; go_simp; done⟩) (by assumption) ?_
        try simp only [List.setIfInBounds_toArray, List.set_cons_zero, List.set_cons_succ]
        refine wpAnyH_ready (rs := [5, 9]) (by kernel_rfl) (by simp) ?_
        refine AllReadyH.cons (o := { dst := some 45, op := Op.call { callee := Callee.value (Operand.func 11), args := #[Operand.tmp 40, Operand.tmp 44], argTypes := #[26, 3] }, type := 28, pos := "law.go:27", after := #[{ on := 0, ground := Ground.data }, { on := 4, ground := Ground.data }], guard := none }) rfl (fun K hK => ?_) (AllReadyH.cons (o := { dst := some 8, op := Op.alloc 26, type := 0, pos := "law.go:27", after := #[], guard := none }) rfl (fun K hK => ?_) AllReadyH.nil)
        · rw [if_pos (by kernel_rfl)]
          go_simp
          refine (mark_w t s x t' s' b _ G HR.out HMK.out).mono ?_
          rintro e1 w1 ⟨rfl, hB1⟩
          have X2 := Aside0.mk (XP9d.out.below hB1)
          have hs1 := hB1.size
          (try simp at hs1)
          clear hB1
          clear hHeld
          refine hK.out _ _ (X2.out) (fun hHeld => ?_)
          clear hK K
          try simp only [Act.put, List.setIfInBounds_toArray, List.set_cons_zero, List.set_cons_succ]
          refine takeH (i := 6) (d := 39) (v := (.tuple #[.agg #[.int .i64 t', .int .u64 (s' : Int)], .bool b])) rfl rfl (by kernel_rfl) (by kernel_rfl) (by kernel_rfl) (fun _ _ _ h => h) (Or.inl ⟨by kernel_rfl, by intro w hSw; (try dsimp only at hSw); go_simp; done⟩) (by assumption) ?_
          try simp only [List.setIfInBounds_toArray, List.set_cons_zero, List.set_cons_succ]
          refine takeH (i := 7) (d := 46) (v := (.agg #[.int .i64 t', .int .u64 (s' : Int)])) rfl rfl (by kernel_rfl) (by kernel_rfl) (by kernel_rfl) (fun _ _ _ h => h) (Or.inl ⟨by kernel_rfl, by intro w hSw; (try dsimp only at hSw); go_simp; done⟩) (by assumption) ?_
          try simp only [List.setIfInBounds_toArray, List.set_cons_zero, List.set_cons_succ]
          refine takeH (i := 8) (d := 47) (v := (.bool b)) rfl rfl (by kernel_rfl) (by kernel_rfl) (by kernel_rfl) (fun _ _ _ h => h) (Or.inl ⟨by kernel_rfl, by intro w hSw; (try dsimp only at hSw); go_simp; done⟩) (by assumption) ?_
          try simp only [List.setIfInBounds_toArray, List.set_cons_zero, List.set_cons_succ]
          refine wpAnyH_ready (rs := [9]) (by kernel_rfl) (by simp) ?_
          refine AllReadyH.cons (o := { dst := some 8, op := Op.alloc 26, type := 0, pos := "law.go:27", after := #[], guard := none }) rfl (fun K hK => ?_) AllReadyH.nil
          rw [if_pos (by kernel_rfl)]
          go_simp
          clear hHeld
          have X3 := Aside0.mk (X2.out.alloc (.cells #[.int .i64 0, .int .u64 0] 26))
          have X4 := Aside0.mk (blk_new w1 (.cells #[.int .i64 0, .int .u64 0] 26))
          refine hK.out _ _ (X3.out) (fun hHeld => ?_)
          clear hK K
          try simp only [Act.put, List.setIfInBounds_toArray, List.set_cons_zero, List.set_cons_succ]
          refine wpAnyH_ready (rs := [10]) (by kernel_rfl) (by simp) ?_
          refine AllReadyH.cons (o := { dst := none, op := Op.store 26 (Operand.tmp 8) (Operand.tmp 46), type := 0, pos := "law.go:27", after := #[{ on := 9, ground := Ground.data }, { on := 7, ground := Ground.data }, { on := 5, ground := Ground.chain }, { on := 0, ground := Ground.phase }, { on := 1, ground := Ground.phase }, { on := 2, ground := Ground.phase }, { on := 3, ground := Ground.phase }, { on := 4, ground := Ground.phase }, { on := 5, ground := Ground.phase }, { on := 6, ground := Ground.phase }, { on := 7, ground := Ground.phase }, { on := 8, ground := Ground.textOnly Departure.lateStores }, { on := 9, ground := Ground.phase }], guard := none }) rfl (fun K hK => ?_) AllReadyH.nil
          rw [if_pos (by kernel_rfl)]
          go_simp
          clear hHeld
          have X5 := Aside0.mk (X2.out.alloc (.cells #[.int .i64 t', .int .u64 s'] 26))
          have X6 := Aside0.mk (blk_new w1 (.cells #[.int .i64 t', .int .u64 s'] 26))
          refine hK.out _ _ (X5.out) (fun hHeld => ?_)
          clear hK K
          try simp only [Act.put, List.setIfInBounds_toArray, List.set_cons_zero, List.set_cons_succ]
          refine takeH (i := 11) (d := 9) (v := (.bool b)) rfl rfl (by kernel_rfl) (by kernel_rfl) (by kernel_rfl) (fun _ _ _ h => h) (Or.inl ⟨by kernel_rfl, by intro w hSw; (try dsimp only at hSw); go_simp; done⟩) (by assumption) ?_
          try simp only [List.setIfInBounds_toArray, List.set_cons_zero, List.set_cons_succ]
          refine wpAnyH_done (by kernel_rfl) ?_ _
          go_wp2
          go_meet
          case rel => exact ⟨_, rfl, rfl, ⟨by omega⟩, X6, X5, ⟨by first | omega | (simp; omega)⟩⟩
        · rw [if_pos (by kernel_rfl)]
          go_simp
          clear hHeld
          have X7 := Aside0.mk (XP9d.out.alloc (.cells #[.int .i64 0, .int .u64 0] 26))
          have X8 := Aside0.mk (blk_new w3.drew (.cells #[.int .i64 0, .int .u64 0] 26))
          refine hK.out _ _ (X7.out) (fun hHeld => ?_)
          clear hK K
          try simp only [Act.put, List.setIfInBounds_toArray, List.set_cons_zero, List.set_cons_succ]
          refine wpAnyH_ready (rs := [5]) (by kernel_rfl) (by simp) ?_
          refine AllReadyH.cons (o := { dst := some 45, op := Op.call { callee := Callee.value (Operand.func 11), args := #[Operand.tmp 40, Operand.tmp 44], argTypes := #[26, 3] }, type := 28, pos := "law.go:27", after := #[{ on := 0, ground := Ground.data }, { on := 4, ground := Ground.data }], guard := none }) rfl (fun K hK => ?_) AllReadyH.nil
          rw [if_pos (by kernel_rfl)]
          go_simp
          refine (mark_w t s x t' s' b _ G HR.out HMK.out).mono ?_
          rintro e9 w9 ⟨rfl, hB9⟩
          have X10 := Aside0.mk (X7.out.below hB9)
          have X11 := Aside0.mk (blk_below X8.out hB9)
          have hs9 := hB9.size
          (try simp at hs9)
          clear hB9
          have n0 : w9.cell? ⟨w3.heap.size, 0, none⟩ = some (.int .i64 0) := (blk_cell X11.out 0).trans rfl
          have n1 : w9.cell? ⟨w3.heap.size, 1, none⟩ = some (.int .u64 0) := (blk_cell X11.out 1).trans rfl
          have nf0 : w9.frozen? ⟨w3.heap.size, 0, none⟩ = false := blk_frozen X11.out 0
          have nf1 : w9.frozen? ⟨w3.heap.size, 1, none⟩ = false := blk_frozen X11.out 1
          clear hHeld
          refine hK.out _ _ (X10.out) (fun hHeld => ?_)
          clear hK K
          try simp only [Act.put, List.setIfInBounds_toArray, List.set_cons_zero, List.set_cons_succ]
          refine takeH (i := 6) (d := 39) (v := (.tuple #[.agg #[.int .i64 t', .int .u64 (s' : Int)], .bool b])) rfl rfl (by kernel_rfl) (by kernel_rfl) (by kernel_rfl) (fun _ _ _ h => h) (Or.inl ⟨by kernel_rfl, by intro w hSw; (try dsimp only at hSw); go_simp; done⟩) (by assumption) ?_
          try simp only [List.setIfInBounds_toArray, List.set_cons_zero, List.set_cons_succ]
          refine takeH (i := 7) (d := 46) (v := (.agg #[.int .i64 t', .int .u64 (s' : Int)])) rfl rfl (by kernel_rfl) (by kernel_rfl) (by kernel_rfl) (fun _ _ _ h => h) (Or.inl ⟨by kernel_rfl, by intro w hSw; (try dsimp only at hSw); go_simp; done⟩) (by assumption) ?_
          try simp only [List.setIfInBounds_toArray, List.set_cons_zero, List.set_cons_succ]
          refine takeH (i := 8) (d := 47) (v := (.bool b)) rfl rfl (by kernel_rfl) (by kernel_rfl) (by kernel_rfl) (fun _ _ _ h => h) (Or.inl ⟨by kernel_rfl, by intro w hSw; (try dsimp only at hSw); go_simp; done⟩) (by assumption) ?_
          try simp only [List.setIfInBounds_toArray, List.set_cons_zero, List.set_cons_succ]
          refine wpAnyH_ready (rs := [10]) (by kernel_rfl) (by simp) ?_
          refine AllReadyH.cons (o := { dst := none, op := Op.store 26 (Operand.tmp 8) (Operand.tmp 46), type := 0, pos := "law.go:27", after := #[{ on := 9, ground := Ground.data }, { on := 7, ground := Ground.data }, { on := 5, ground := Ground.chain }, { on := 0, ground := Ground.phase }, { on := 1, ground := Ground.phase }, { on := 2, ground := Ground.phase }, { on := 3, ground := Ground.phase }, { on := 4, ground := Ground.phase }, { on := 5, ground := Ground.phase }, { on := 6, ground := Ground.phase }, { on := 7, ground := Ground.phase }, { on := 8, ground := Ground.textOnly Departure.lateStores }, { on := 9, ground := Ground.phase }], guard := none }) rfl (fun K hK => ?_) AllReadyH.nil
          rw [if_pos (by kernel_rfl)]
          go_simp
          clear hHeld n0 n1 nf0 nf1
          have X14 := Aside0.mk (blk_put (cs' := #[.int .i64 t', .int .u64 0]) X11.out 0 (.int .i64 t') rfl)
          have X13 := Aside0.mk (blk_put (cs' := #[.int .i64 t', .int .u64 s']) X14.out 1 (.int .u64 s') rfl)
          have X12 := Aside0.mk (((X10.out).far (j := 0) (v := .int .i64 t') (by omega) (by have := GMA.out; omega) (by omega) (by omega) X11.out).far (j := 1) (v := .int .u64 s') (by omega) (by have := GMA.out; omega) (by omega) (by omega) X14.out)
          refine hK.out _ _ (X12.out) (fun hHeld => ?_)
          clear hK K
          try simp only [Act.put, List.setIfInBounds_toArray, List.set_cons_zero, List.set_cons_succ]
          refine takeH (i := 11) (d := 9) (v := (.bool b)) rfl rfl (by kernel_rfl) (by kernel_rfl) (by kernel_rfl) (fun _ _ _ h => h) (Or.inl ⟨by kernel_rfl, by intro w hSw; (try dsimp only at hSw); go_simp; done⟩) (by assumption) ?_
          try simp only [List.setIfInBounds_toArray, List.set_cons_zero, List.set_cons_succ]
          refine wpAnyH_done (by kernel_rfl) ?_ _
          go_wp2
          go_meet
          case rel => exact ⟨_, rfl, rfl, ⟨by omega⟩, X13, X12, ⟨by first | omega | (simp; omega)⟩⟩
      case rest =>
        obtain ⟨g2, rfl, rfl, HG2, B2, P2, HZ2⟩ := hcut
        clear XP0 hsz0 HSZ BK IW HB X2 hs1 X4 hs3 hsz9 XP9
        have hcx : wc.cell? (ad.add i) = some (.int .i64 x) := P2.out.2.2.2
        have hmk := fun (W : World) (hI : IsW (gr + 1) W gr t G) (hz : gr + 1 ≤ W.heap.size) => rmark_all (gr + 1) gr t t' G G' b x W hI HR.out.t0 HR.out.t1 hG (by omega) hz HBB.out HT'.out
        have hg2 := HG2.out
        go_upto_region 11 with (fail)
        go_cut [8, 64] (fun v8 v64 wd => v8 = .pointer (some ⟨g2, 0, none⟩) ∧ v64 = .bool false ∧ Aside0 (wd.heap[gw]? = some (.cells #[.int .i64 t, .int .u64 s] 26 (0, 0))) ∧ Aside0 (wd.heap[g2]? = some (.cells #[.int .i64 t', .int .u64 s'] 26 (0, 0))) ∧ Aside0 (IsW (gr + 1) wd gr t' G') ∧ Aside0 (Below w.heap.size w wd) ∧ Aside0 (gr + 1 ≤ wd.heap.size))
        case first =>
          go_wp2_with fail
          refine (hmk _ P2.out.2.2.1 HZ2.out).mono ?_
          rintro e5 w5 ⟨rfl, hI5, hF5⟩
          have hgr2 : g2 ≠ gr := by omega
          have hgw2 : gw ≠ gr := by have := GMA.out; omega
          have hlt2 : g2 < wc.heap.size := blk_lt B2.out
          have hltw : gw < wc.heap.size := blk_lt P2.out.2.1
          have hb5 := (hF5.low g2 hlt2 hgr2).trans B2.out
          have hw5 := (hF5.low gw hltw hgw2).trans P2.out.2.1
          have q0 : w5.cell? ⟨g2, 0, none⟩ = some (.int .i64 t') := (blk_cell hb5 0).trans rfl
          have q1 : w5.cell? ⟨g2, 1, none⟩ = some (.int .u64 s') := (blk_cell hb5 1).trans rfl
          have p0 : w5.cell? ⟨gw, 0, none⟩ = some (.int .i64 t) := (blk_cell hw5 0).trans rfl
          have p1 : w5.cell? ⟨gw, 1, none⟩ = some (.int .u64 s) := (blk_cell hw5 1).trans rfl
          have hs5 := hF5.size
          have HSZ5 := Aside0.mk (show gr + 1 ≤ w5.heap.size by have := HZ2.out; omega)
          have hB5 := Aside0.mk (show Below w.heap.size w w5 from ⟨hF5.os.trans P2.out.1.os, hF5.tape.trans P2.out.1.tape, hF5.output.trans P2.out.1.output, by have := P2.out.1.size; omega, fun j hj => (hF5.low j (by have := P2.out.1.size; omega) (by have := GMA.out; omega)).trans (P2.out.1.block j hj)⟩)
          have HW5 := Aside0.mk hw5
          have HX5 := Aside0.mk hb5
          have HI5 := Aside0.mk hI5
          clear hb5 hw5 hI5 hF5 hs5 hcx hmk
          cases b with
          | true =>
            go_wp2
            go_meet
            case rel => exact ⟨rfl, rfl, HW5, HX5, HI5, hB5, HSZ5⟩
          | false =>
            obtain ⟨h1, h2⟩ := HS'.out rfl
            go_wp2
            go_meet
            case rel => exact ⟨rfl, rfl, HW5, HX5, HI5, hB5, HSZ5⟩
        case rest =>
          obtain ⟨rfl, rfl, HW6, HX6, HI6, HB6, HZ6⟩ := hcut
          have HAD := Aside0.mk hadw
          have q0 : wc.cell? ⟨g2, 0, none⟩ = some (.int .i64 t') := (blk_cell HX6.out 0).trans rfl
          have q1 : wc.cell? ⟨g2, 1, none⟩ = some (.int .u64 s') := (blk_cell HX6.out 1).trans rfl
          have p0 : wc.cell? ⟨gw, 0, none⟩ = some (.int .i64 t) := (blk_cell HW6.out 0).trans rfl
          have p1 : wc.cell? ⟨gw, 1, none⟩ = some (.int .u64 s) := (blk_cell HW6.out 1).trans rfl
          have f0 := blk_frozen HW6.out 0
          have f1 := blk_frozen HW6.out 1
          go_upto_region 14 with (fail)
          clear q0 q1 p0 p1 f0 f1
          obtain ⟨W7, hW7⟩ : ∃ W, W = (wc.setCell ⟨gw, 0, none⟩ (.int .i64 t')).setCell ⟨gw, 1, none⟩ (.int .u64 (s' : Int)) := ⟨_, rfl⟩
          have HW7 := Aside0.mk (show W7.heap[gw]? = some (.cells #[.int .i64 t', .int .u64 (s' : Int)] 26 (0, 0)) by
            rw [hW7]
            exact blk_put (cs := #[.int .i64 t', .int .u64 (s : Int)]) (blk_put HW6.out 0 _ rfl) 1 _ rfl)
          have HI7 := Aside0.mk (show IsW (gr + 1) W7 gr t' G' by
            rw [hW7]
            obtain ⟨v, h1, h2⟩ := HI6.out
            have hne : gr ≠ gw := by have := GMA.out; omega
            exact ⟨v, blk_far (blk_far h1 hne _) hne _, own_setCell (own_setCell h2 (own_ne h2 HW6.out (by decide)) _) (own_ne h2 HW6.out (by decide)) _⟩)
          have HB7 := Aside0.mk (show Below w.heap.size w W7 by
            rw [hW7]
            exact below_set (below_set HB6.out GE) GE)
          have hz7 : gr + 1 ≤ W7.heap.size := by
            have := HZ6.out
            rw [hW7]
            simp
            omega
          have XP7 := Aside0.mk (show PS w gw gr (gr + 1) t' s' G' (ad.add i) x W7.drew from ⟨below_drew HB7.out, HW7.out, HI7.out, pw_cell_below HB7.out hcz0⟩)
          rw [← hW7]
          have hG' : G'.length ≤ 900 := by have := HG'.out; have := HG.out; omega
          have hGi : G'.length ≤ i + 1 := by have := HG'.out; have := HG.out; omega
          have hw7 : wrap64 (t' - 64) = t' - 64 := by have := HR'.out.t0; have := HR'.out.t1; unfold wrap64; omega
          have hw8 : IntKind.i64.wrap (t' - 64) = t' - 64 := by have := HR'.out.t0; have := HR'.out.t1; simp [IntKind.wrap, IntKind.bits, IntKind.signed]; omega
          have HGI := Aside0.mk hGi
          clear hW7 hGi
          refine wp_region_held_drew (S := PS w gw gr (gr + 1) t' s' G' (ad.add i) x) (by kernel_rfl) (by exact XP7.out) (fun hHeld => ?_)
          refine takeH (i := 0) (d := 66) (v := (.pointer (some ⟨gw, 0, none⟩))) rfl rfl (by kernel_rfl) (by kernel_rfl) (by kernel_rfl) (fun _ _ _ h => h) (Or.inl ⟨by kernel_rfl, by intro w hSw; (try dsimp only at hSw); go_simp; done⟩) (by assumption) ?_
          try simp only [List.setIfInBounds_toArray, List.set_cons_zero, List.set_cons_succ]
          refine takeH (i := 1) (d := 67) (v := (.int .i64 t')) rfl rfl (by kernel_rfl) (by kernel_rfl) (by kernel_rfl) (fun _ _ _ h => h) (Or.inl ⟨by kernel_rfl, by intro w hSw; (try dsimp only at hSw); obtain ⟨s0, s1, s2, s3⟩ := hSw; have c0 := blk_cell s1 0; have c1 := blk_cell s1 1; simp only [List.getElem?_toArray, List.getElem?_cons_zero, List.getElem?_cons_succ] at c0 c1; clear s0 s1 s2 s3; go_simp; done⟩) (by assumption) ?_
          try simp only [List.setIfInBounds_toArray, List.set_cons_zero, List.set_cons_succ]
          refine takeH (i := 2) (d := 68) (v := (.pointer (some ⟨gr, 0, none⟩))) rfl rfl (by kernel_rfl) (by kernel_rfl) (by kernel_rfl) (fun _ _ _ h => h) (Or.inl ⟨by kernel_rfl, by intro w hSw; (try dsimp only at hSw); go_simp; done⟩) (by assumption) ?_
          try simp only [List.setIfInBounds_toArray, List.set_cons_zero, List.set_cons_succ]
          refine takeH (i := 3) (d := 69) (v := (.pointer (some ⟨gr, 0, none⟩))) rfl rfl (by kernel_rfl) (by kernel_rfl) (by kernel_rfl) (fun _ _ _ h => h) (Or.inl ⟨by kernel_rfl, by intro w hSw; (try dsimp only at hSw); go_simp; done⟩) (by assumption) ?_
          try simp only [List.setIfInBounds_toArray, List.set_cons_zero, List.set_cons_succ]
          refine takeH (i := 4) (d := 70) (v := (.pointer (some ⟨gr, 0, none⟩))) rfl rfl (by kernel_rfl) (by kernel_rfl) (by kernel_rfl) (fun _ _ _ h => h) (Or.inl ⟨by kernel_rfl, by intro w hSw; (try dsimp only at hSw); go_simp; done⟩) (by assumption) ?_
          try simp only [List.setIfInBounds_toArray, List.set_cons_zero, List.set_cons_succ]
          refine takeH (i := 5) (d := 71) (v := (.int .i64 t')) rfl rfl (by kernel_rfl) (by kernel_rfl) (by kernel_rfl) (fun _ _ _ h => h) (Or.inl ⟨by kernel_rfl, by intro w hSw; (try dsimp only at hSw); obtain ⟨s0, s1, ⟨v0, s4, s5⟩, s3⟩ := hSw; have c0 := (blk_cell s4 0).trans rfl; have c0 : w.cell? ⟨gr, 0, none⟩ = some (.int .i64 t') := c0; clear s0 s1 s3 s4 s5; go_simp; done⟩) (by assumption) ?_
          try simp only [List.setIfInBounds_toArray, List.set_cons_zero, List.set_cons_succ]
          refine takeH (i := 6) (d := 72) (v := (.bool false)) rfl rfl (by kernel_rfl) (by kernel_rfl) (by kernel_rfl) (fun _ _ _ h => h) (Or.inl ⟨by kernel_rfl, by intro w hSw; (try dsimp only at hSw); go_simp; done⟩) (by assumption) ?_
          try simp only [List.setIfInBounds_toArray, List.set_cons_zero, List.set_cons_succ]
          refine takeH (i := 7) (d := 73) (v := (.bool false)) rfl rfl (by kernel_rfl) (by kernel_rfl) (by kernel_rfl) (fun _ _ _ h => h) (Or.inl ⟨by kernel_rfl, by intro w hSw; (try dsimp only at hSw); go_simp; done⟩) (by assumption) ?_
          try simp only [List.setIfInBounds_toArray, List.set_cons_zero, List.set_cons_succ]
          refine takeH (i := 8) (d := 74) (v := (.pointer (some ⟨gw, 1, none⟩))) rfl rfl (by kernel_rfl) (by kernel_rfl) (by kernel_rfl) (fun _ _ _ h => h) (Or.inl ⟨by kernel_rfl, by intro w hSw; (try dsimp only at hSw); go_simp; done⟩) (by assumption) ?_
          try simp only [List.setIfInBounds_toArray, List.set_cons_zero, List.set_cons_succ]
          refine takeH (i := 9) (d := 75) (v := (.int .u64 (s' : Int))) rfl rfl (by kernel_rfl) (by kernel_rfl) (by kernel_rfl) (fun _ _ _ h => h) (Or.inl ⟨by kernel_rfl, by intro w hSw; (try dsimp only at hSw); obtain ⟨s0, s1, s2, s3⟩ := hSw; have c0 := blk_cell s1 0; have c1 := blk_cell s1 1; simp only [List.getElem?_toArray, List.getElem?_cons_zero, List.getElem?_cons_succ] at c0 c1; clear s0 s1 s2 s3; go_simp; done⟩) (by assumption) ?_
          try simp only [List.setIfInBounds_toArray, List.set_cons_zero, List.set_cons_succ]
          refine takeH (i := 10) (d := 76) (v := (.pointer (some ⟨gr, 0, none⟩))) rfl rfl (by kernel_rfl) (by kernel_rfl) (by kernel_rfl) (fun _ _ _ h => h) (Or.inl ⟨by kernel_rfl, by intro w hSw; (try dsimp only at hSw); go_simp; done⟩) (by assumption) ?_
          try simp only [List.setIfInBounds_toArray, List.set_cons_zero, List.set_cons_succ]
          refine wpAnyH_ready (rs := [11]) (by kernel_rfl) (by simp) ?_
          refine AllReadyH.cons (o := { dst := some 77, op := Op.call { callee := Callee.value (Operand.func 21), args := #[Operand.tmp 76], argTypes := #[40] }, type := 24, pos := "law.go:32", after := #[{ on := 10, ground := Ground.data }, { on := 7, ground := Ground.chain }, { on := 7, ground := Ground.guard }], guard := some (7, false) }) rfl (fun K hK => ?_) AllReadyH.nil
          rw [if_pos (by kernel_rfl)]
          go_simp
          refine (rbits_w (gr + 1) gr t' s' G' _ XP7.out.2.2.1 HR'.out (by omega)).mono ?_
          rintro e1 w1 ⟨rfl, hB1⟩
          have X2 := Aside0.mk (XP7.out.below hB1)
          have hs1 := hB1.size
          (try simp at hs1)
          clear hB1
          clear hHeld
          refine hK.out _ _ (X2.out) (fun hHeld => ?_)
          clear hK K
          try simp only [Act.put, List.setIfInBounds_toArray, List.set_cons_zero, List.set_cons_succ]
          refine takeH (i := 12) (d := 78) (v := (.bool false)) rfl rfl (by kernel_rfl) (by kernel_rfl) (by kernel_rfl) (fun _ _ _ h => h) (Or.inl ⟨by kernel_rfl, by intro w hSw; (try dsimp only at hSw); go_simp; done⟩) (by assumption) ?_
          try simp only [List.setIfInBounds_toArray, List.set_cons_zero, List.set_cons_succ]
          refine takeH (i := 13) (d := 79) (v := (.bool false)) rfl rfl (by kernel_rfl) (by kernel_rfl) (by kernel_rfl) (fun _ _ _ h => h) (Or.inl ⟨by kernel_rfl, by intro w hSw; (try dsimp only at hSw); go_simp; done⟩) (by assumption) ?_
          try simp only [List.setIfInBounds_toArray, List.set_cons_zero, List.set_cons_succ]
          refine takeH (i := 14) (d := 80) (v := (.bool false)) rfl rfl (by kernel_rfl) (by kernel_rfl) (by kernel_rfl) (fun _ _ _ h => h) (Or.inl ⟨by kernel_rfl, by intro w hSw; (try dsimp only at hSw); go_simp; done⟩) (by assumption) ?_
          try simp only [List.setIfInBounds_toArray, List.set_cons_zero, List.set_cons_succ]
          refine takeH (i := 15) (d := 81) (v := (.agg #[.int .i64 t', .int .u64 (s' : Int)])) rfl rfl (by kernel_rfl) (by kernel_rfl) (by kernel_rfl) (fun _ _ _ h => h) (Or.inl ⟨by kernel_rfl, by intro w hSw; (try dsimp only at hSw); obtain ⟨s0, s1, s2, s3⟩ := hSw; have c0 := blk_cell s1 0; have c1 := blk_cell s1 1; simp only [List.getElem?_toArray, List.getElem?_cons_zero, List.getElem?_cons_succ] at c0 c1; clear s0 s1 s2 s3; go_simp; done⟩) (by assumption) ?_
          try simp only [List.setIfInBounds_toArray, List.set_cons_zero, List.set_cons_succ]
          refine takeH (i := 16) (d := 82) (v := (.int .i64 ask)) rfl rfl (by kernel_rfl) (by kernel_rfl) (by kernel_rfl) (fun _ _ _ h => h) (Or.inl ⟨by kernel_rfl, by intro w hSw; (try dsimp only at hSw); go_simp; done⟩) (by assumption) ?_
          try simp only [List.setIfInBounds_toArray, List.set_cons_zero, List.set_cons_succ]
          refine takeH (i := 18) (d := 84) (v := (.pointer (some ⟨gr, 0, none⟩))) rfl rfl (by kernel_rfl) (by kernel_rfl) (by kernel_rfl) (fun _ _ _ h => h) (Or.inl ⟨by kernel_rfl, by intro w hSw; (try dsimp only at hSw); go_simp; done⟩) (by assumption) ?_
          try simp only [List.setIfInBounds_toArray, List.set_cons_zero, List.set_cons_succ]
          refine takeH (i := 19) (d := 85) (v := (.int .i64 ask)) rfl rfl (by kernel_rfl) (by kernel_rfl) (by kernel_rfl) (fun _ _ _ h => h) (Or.inl ⟨by kernel_rfl, by intro w hSw; (try dsimp only at hSw); go_simp; done⟩) (by assumption) ?_
          try simp only [List.setIfInBounds_toArray, List.set_cons_zero, List.set_cons_succ]
          refine wpAnyH_ready (rs := [17]) (by kernel_rfl) (by simp) ?_
          refine AllReadyH.cons (o := { dst := some 83, op := Op.call { callee := Callee.value (Operand.func 18), args := #[Operand.tmp 81, Operand.tmp 82], argTypes := #[26, 3] }, type := 4, pos := "law.go:32", after := #[{ on := 15, ground := Ground.data }, { on := 16, ground := Ground.data }, { on := 14, ground := Ground.chain }, { on := 14, ground := Ground.guard }], guard := some (14, false) }) rfl (fun K hK => ?_) AllReadyH.nil
          rw [if_pos (by kernel_rfl)]
          go_simp
          refine (fresh_w t' s' G' ask _ HR'.out).mono ?_
          rintro e3 w3 ⟨rfl, hB3⟩
          have X4 := Aside0.mk (X2.out.below hB3)
          have hs3 := hB3.size
          (try simp at hs3)
          clear hB3
          clear hHeld
          refine hK.out _ _ (X4.out) (fun hHeld => ?_)
          clear hK K
          try simp only [Act.put, List.setIfInBounds_toArray, List.set_cons_zero, List.set_cons_succ]
          refine wpAnyH_ready (rs := [20]) (by kernel_rfl) (by simp) ?_
          refine AllReadyH.cons (o := { dst := some 86, op := Op.call { callee := Callee.value (Operand.func 19), args := #[Operand.tmp 84, Operand.tmp 85], argTypes := #[40, 3] }, type := 4, pos := "law.go:32", after := #[{ on := 18, ground := Ground.data }, { on := 19, ground := Ground.data }, { on := 17, ground := Ground.chain }, { on := 14, ground := Ground.guard }], guard := some (14, false) }) rfl (fun K hK => ?_) AllReadyH.nil
          rw [if_pos (by kernel_rfl)]
          go_simp
          refine (rfresh_w (gr + 1) gr t' s' G' ask _ X4.out.2.2.1 HR'.out (by omega)).mono ?_
          rintro e5 w5 ⟨rfl, hB5⟩
          have X6 := Aside0.mk (X4.out.below hB5)
          have hs5 := hB5.size
          (try simp at hs5)
          clear hB5
          clear hHeld
          refine hK.out _ _ (X6.out) (fun hHeld => ?_)
          clear hK K
          try simp only [Act.put, List.setIfInBounds_toArray, List.set_cons_zero, List.set_cons_succ]
          refine takeH (i := 21) (d := 87) (v := (.bool false)) rfl rfl (by kernel_rfl) (by kernel_rfl) (by kernel_rfl) (fun _ _ _ h => h) (Or.inl ⟨by kernel_rfl, by intro w hSw; (try dsimp only at hSw); go_simp; done⟩) (by assumption) ?_
          try simp only [List.setIfInBounds_toArray, List.set_cons_zero, List.set_cons_succ]
          refine takeH (i := 22) (d := 88) (v := (.bool false)) rfl rfl (by kernel_rfl) (by kernel_rfl) (by kernel_rfl) (fun _ _ _ h => h) (Or.inl ⟨by kernel_rfl, by intro w hSw; (try dsimp only at hSw); go_simp; done⟩) (by assumption) ?_
          try simp only [List.setIfInBounds_toArray, List.set_cons_zero, List.set_cons_succ]
          refine takeH (i := 23) (d := 89) (v := (.bool false)) rfl rfl (by kernel_rfl) (by kernel_rfl) (by kernel_rfl) (fun _ _ _ h => h) (Or.inl ⟨by kernel_rfl, by intro w hSw; (try dsimp only at hSw); go_simp; done⟩) (by assumption) ?_
          try simp only [List.setIfInBounds_toArray, List.set_cons_zero, List.set_cons_succ]
          refine takeH (i := 24) (d := 90) (v := (.agg #[.int .i64 t', .int .u64 (s' : Int)])) rfl rfl (by kernel_rfl) (by kernel_rfl) (by kernel_rfl) (fun _ _ _ h => h) (Or.inl ⟨by kernel_rfl, by intro w hSw; (try dsimp only at hSw); obtain ⟨s0, s1, s2, s3⟩ := hSw; have c0 := blk_cell s1 0; have c1 := blk_cell s1 1; simp only [List.getElem?_toArray, List.getElem?_cons_zero, List.getElem?_cons_succ] at c0 c1; clear s0 s1 s2 s3; go_simp; done⟩) (by assumption) ?_
          try simp only [List.setIfInBounds_toArray, List.set_cons_zero, List.set_cons_succ]
          refine takeH (i := 26) (d := 92) (v := (.pointer (some ⟨gr, 0, none⟩))) rfl rfl (by kernel_rfl) (by kernel_rfl) (by kernel_rfl) (fun _ _ _ h => h) (Or.inl ⟨by kernel_rfl, by intro w hSw; (try dsimp only at hSw); go_simp; done⟩) (by assumption) ?_
          try simp only [List.setIfInBounds_toArray, List.set_cons_zero, List.set_cons_succ]
          refine takeH (i := 27) (d := 93) (v := (.pointer (some ⟨gr, 0, none⟩))) rfl rfl (by kernel_rfl) (by kernel_rfl) (by kernel_rfl) (fun _ _ _ h => h) (Or.inl ⟨by kernel_rfl, by intro w hSw; (try dsimp only at hSw); go_simp; done⟩) (by assumption) ?_
          try simp only [List.setIfInBounds_toArray, List.set_cons_zero, List.set_cons_succ]
          refine takeH (i := 28) (d := 94) (v := (.pointer (some ⟨gr, 0, none⟩))) rfl rfl (by kernel_rfl) (by kernel_rfl) (by kernel_rfl) (fun _ _ _ h => h) (Or.inl ⟨by kernel_rfl, by intro w hSw; (try dsimp only at hSw); go_simp; done⟩) (by assumption) ?_
          try simp only [List.setIfInBounds_toArray, List.set_cons_zero, List.set_cons_succ]
          refine takeH (i := 29) (d := 95) (v := (.int .i64 t')) rfl rfl (by kernel_rfl) (by kernel_rfl) (by kernel_rfl) (fun _ _ _ h => h) (Or.inl ⟨by kernel_rfl, by intro w hSw; (try dsimp only at hSw); obtain ⟨s0, s1, ⟨v0, s4, s5⟩, s3⟩ := hSw; have c0 := (blk_cell s4 0).trans rfl; have c0 : w.cell? ⟨gr, 0, none⟩ = some (.int .i64 t') := c0; clear s0 s1 s3 s4 s5; go_simp; done⟩) (by assumption) ?_
          try simp only [List.setIfInBounds_toArray, List.set_cons_zero, List.set_cons_succ]
          refine takeH (i := 30) (d := 96) (v := (.int .i64 (t' - 64))) rfl rfl (by kernel_rfl) (by kernel_rfl) (by kernel_rfl) (fun _ _ _ h => h) (Or.inl ⟨by kernel_rfl, by intro w hSw; (try dsimp only at hSw); go_simp; done⟩) (by assumption) ?_
          try simp only [List.setIfInBounds_toArray, List.set_cons_zero, List.set_cons_succ]
          refine takeH (i := 31) (d := 97) (v := (.int .i64 (max (t' - 64) 0))) rfl rfl (by kernel_rfl) (by kernel_rfl) (by kernel_rfl) (fun _ _ _ h => h) (Or.inl ⟨by kernel_rfl, by intro w hSw; (try dsimp only at hSw); have hmx : max (t' - 64) 0 = if t' - 64 < 0 then 0 else t' - 64 := (by split <;> omega); rw [hmx]; clear hmx; go_simp; done⟩) (by assumption) ?_
          try simp only [List.setIfInBounds_toArray, List.set_cons_zero, List.set_cons_succ]
          refine wpAnyH_ready (rs := [25]) (by kernel_rfl) (by simp) ?_
          refine AllReadyH.cons (o := { dst := some 91, op := Op.call { callee := Callee.value (Operand.func 22), args := #[Operand.tmp 90], argTypes := #[26] }, type := 3, pos := "law.go:32", after := #[{ on := 24, ground := Ground.data }, { on := 23, ground := Ground.chain }, { on := 23, ground := Ground.guard }], guard := some (23, false) }) rfl (fun K hK => ?_) AllReadyH.nil
          rw [if_pos (by kernel_rfl)]
          go_simp
          refine (old_w t' s' G' _ HR'.out).mono ?_
          rintro e7 w7 ⟨rfl, hB7⟩
          have X8 := Aside0.mk (X6.out.below hB7)
          have hs7 := hB7.size
          (try simp at hs7)
          clear hB7
          clear hHeld
          refine hK.out _ _ (X8.out) (fun hHeld => ?_)
          clear hK K
          try simp only [Act.put, List.setIfInBounds_toArray, List.set_cons_zero, List.set_cons_succ]
          refine takeH (i := 32) (d := 98) (v := (.bool false)) rfl rfl (by kernel_rfl) (by kernel_rfl) (by kernel_rfl) (fun _ _ _ h => h) (Or.inl ⟨by kernel_rfl, by intro w hSw; (try dsimp only at hSw); go_simp; done⟩) (by assumption) ?_
          try simp only [List.setIfInBounds_toArray, List.set_cons_zero, List.set_cons_succ]
          refine takeH (i := 33) (d := 99) (v := (.bool false)) rfl rfl (by kernel_rfl) (by kernel_rfl) (by kernel_rfl) (fun _ _ _ h => h) (Or.inl ⟨by kernel_rfl, by intro w hSw; (try dsimp only at hSw); go_simp; done⟩) (by assumption) ?_
          try simp only [List.setIfInBounds_toArray, List.set_cons_zero, List.set_cons_succ]
          refine takeH (i := 34) (d := 100) (v := (.bool false)) rfl rfl (by kernel_rfl) (by kernel_rfl) (by kernel_rfl) (fun _ _ _ h => h) (Or.inl ⟨by kernel_rfl, by intro w hSw; (try dsimp only at hSw); go_simp; done⟩) (by assumption) ?_
          try simp only [List.setIfInBounds_toArray, List.set_cons_zero, List.set_cons_succ]
          refine takeH (i := 35) (d := 101) (v := (.agg #[.int .i64 t', .int .u64 (s' : Int)])) rfl rfl (by kernel_rfl) (by kernel_rfl) (by kernel_rfl) (fun _ _ _ h => h) (Or.inl ⟨by kernel_rfl, by intro w hSw; (try dsimp only at hSw); obtain ⟨s0, s1, s2, s3⟩ := hSw; have c0 := blk_cell s1 0; have c1 := blk_cell s1 1; simp only [List.getElem?_toArray, List.getElem?_cons_zero, List.getElem?_cons_succ] at c0 c1; clear s0 s1 s2 s3; go_simp; done⟩) (by assumption) ?_
          try simp only [List.setIfInBounds_toArray, List.set_cons_zero, List.set_cons_succ]
          refine takeH (i := 36) (d := 102) (v := (.slice (some ad) zs.length cap)) rfl rfl (by kernel_rfl) (by kernel_rfl) (by kernel_rfl) (fun _ _ _ h => h) (Or.inl ⟨by kernel_rfl, by intro w hSw; (try dsimp only at hSw); go_simp; done⟩) (by assumption) ?_
          try simp only [List.setIfInBounds_toArray, List.set_cons_zero, List.set_cons_succ]
          refine takeH (i := 37) (d := 103) (v := (.int .i64 (i : Int))) rfl rfl (by kernel_rfl) (by kernel_rfl) (by kernel_rfl) (fun _ _ _ h => h) (Or.inl ⟨by kernel_rfl, by intro w hSw; (try dsimp only at hSw); go_simp; done⟩) (by assumption) ?_
          try simp only [List.setIfInBounds_toArray, List.set_cons_zero, List.set_cons_succ]
          refine takeH (i := 38) (d := 104) (v := (.pointer (some (ad.add i)))) rfl rfl (by kernel_rfl) (by kernel_rfl) (by kernel_rfl) (fun _ _ _ h => h) (Or.inl ⟨by kernel_rfl, by intro w hSw; (try dsimp only at hSw); go_simp; done⟩) (by assumption) ?_
          try simp only [List.setIfInBounds_toArray, List.set_cons_zero, List.set_cons_succ]
          refine takeH (i := 39) (d := 105) (v := (.int .i64 x)) rfl rfl (by kernel_rfl) (by kernel_rfl) (by kernel_rfl) (fun _ _ _ h => h) (Or.inl ⟨by kernel_rfl, by intro w hSw; (try dsimp only at hSw); obtain ⟨s0, s1, s2, s3⟩ := hSw; clear s0 s1 s2; go_simp; done⟩) (by assumption) ?_
          try simp only [List.setIfInBounds_toArray, List.set_cons_zero, List.set_cons_succ]
          refine wpAnyH_ready (rs := [40]) (by kernel_rfl) (by simp) ?_
          refine AllReadyH.cons (o := { dst := some 106, op := Op.call { callee := Callee.value (Operand.func 18), args := #[Operand.tmp 101, Operand.tmp 105], argTypes := #[26, 3] }, type := 4, pos := "law.go:32", after := #[{ on := 35, ground := Ground.data }, { on := 39, ground := Ground.data }, { on := 34, ground := Ground.chain }, { on := 34, ground := Ground.guard }], guard := some (34, false) }) rfl (fun K hK => ?_) AllReadyH.nil
          rw [if_pos (by kernel_rfl)]
          go_simp
          refine (fresh_w t' s' G' x _ HR'.out).mono ?_
          rw [HN'.out]
          rintro e9 w9 ⟨rfl, hB9⟩
          have X10 := Aside0.mk (X8.out.below hB9)
          have hs9 := hB9.size
          (try simp at hs9)
          clear hB9
          clear hHeld
          refine hK.out _ _ (X10.out) (fun hHeld => ?_)
          clear hK K
          try simp only [Act.put, List.setIfInBounds_toArray, List.set_cons_zero, List.set_cons_succ]
          refine takeH (i := 41) (d := 107) (v := (.bool false)) rfl rfl (by kernel_rfl) (by kernel_rfl) (by kernel_rfl) (fun _ _ _ h => h) (Or.inl ⟨by kernel_rfl, by intro w hSw; (try dsimp only at hSw); go_simp; done⟩) (by assumption) ?_
          try simp only [List.setIfInBounds_toArray, List.set_cons_zero, List.set_cons_succ]
          refine wpAnyH_done (by kernel_rfl) ?_ _
          have hsz9 : gr + 1 ≤ w9.heap.size := by omega
          have HZ9 := Aside0.mk hsz9
          have PF := Aside0.mk X10.out
          clear hHeld hsz9
          go_wp2
          go_roundg (zs.length - (i + 1))
          case measure => have := HQ.out; omega
          case rel => exact ⟨i + 1, t', s', G', by go_num, ⟨hlt, rfl⟩, HR', HGI, ⟨PF.out.2.1⟩, ⟨PF.out.2.2.1⟩, ⟨PF.out.1⟩, HZ9⟩
    · have hie : i = zs.length := by omega
      go_wp2
      go_ret
      exact ⟨rfl, HB.out⟩
set_option maxHeartbeats 4000000 in
set_option maxRecDepth 100000 in
theorem plays_dead (A : Option Addr) (len cap : Nat) (ask : Int) (w : World) (h : 200 < (len : Int)) :
    Calls Try.prog 8 #[.slice A len cap, .int .i64 ask] w fun r w' => r = .returned (.bool true) ∧ Below w.heap.size w w' := by
  go_enter Try.func8, Try.ntmps8
  go_wp2_with (go_at_call 10; refine (alive _).mono ?_; rintro e1 w1 ⟨rfl, hb⟩)
  go_ret
  exact ⟨rfl, hb⟩
theorem plays_walk (A : Option Addr) (len cap : Nat) (zs : List Int) (ask : Int) (w : World)
    (h : (A = none ∧ len = 0 ∧ cap = 0 ∧ zs = []) ∨ ∃ x, A = some x ∧ len ≤ cap ∧ cap ≤ maxLen ∧ zs.length = cap ∧ (∀ i, i < zs.length → w.cell? (x.add i) = some (.int .i64 (zs.getD i 0))) ∧ ∀ n ∈ zs, (Lit.int .i64 n).wf = true)
    (_y : len * 8 ≤ 140737488351232) (_w0 : (Lit.int .i64 ask).wf = true) :
    Calls Try.prog 8 #[.slice A len cap, .int .i64 ask] w fun r w' => r = .returned (.bool true) ∧ Below w.heap.size w w' := by
  by_cases h30 : 200 < (len : Int)
  · exact plays_dead A len cap ask w h30
  · rcases h with ⟨rfl, rfl, rfl, rfl⟩ | ⟨x, rfl, h1, h2, h3, h4, h5⟩
    · exact plays_live none 0 [] ask w (by simp) (by simp)
    · have hl : (zs.take len).length = len := by rw [List.length_take]; omega
      have := plays_live (some x) cap (zs.take len) ask w (fun i y hy => ⟨x, rfl, by
        have hi : i < (zs.take len).length := (List.getElem?_eq_some_iff.1 hy).1
        have hi2 : i < zs.length := by omega
        rw [h4 i hi2]
        rw [List.getElem?_take] at hy
        rw [if_pos (by omega)] at hy
        simp [List.getD_eq_getElem?_getD, hy]⟩) (by omega)
      rwa [hl] at this
end Go.Proofs.Ytgilccdajlpeaaa.Win
