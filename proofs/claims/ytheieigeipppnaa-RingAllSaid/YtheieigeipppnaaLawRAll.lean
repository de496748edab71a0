/- The walk of RingAll: all of it or nothing; what is refused leaves what waits, what was taken makes room. Conditions: those in each theorem. -/
import Derived.Test.YtheieigeipppnaaRingA
import Derived.Test.YtheieigeipppnaaArgs
import Derived.OpenShut
namespace Go.Proofs.Ytheieigeipppnaa.Obj
open Go.RowKit Go.Proofs.YtheieigeipppnaaW.PrintWords Go.Proofs.YtheieigeipppnaaW.PrintMore

theorem takeH {P : Program} {md : Region.Mode} {ops : Array Oper} {Q : Exit → Act → World → Prop} {S : World → Prop} {i d : Nat} {oi : Oper} {v : Value} {fuel : Nat} {listed : Array Bool} {a : Act} {w : World} (hi : ops[i]? = some oi) (hd : oi.dst = some d)
    (hs : Region.noSelect ops = true) (hf : Region.free md ops listed i = true) (hr : (Region.ready md ops listed).contains i = true)
    (hQ : ∀ c a w, Q (.panic c) (a.put oi.dst v) w → Q (.panic c) a w) (hy : YieldsIf P ops S oi v a) (hS : S w)
    (h : wpAnyH P md ops Q S fuel (listed.setIfInBounds i true) { a with tmps := a.tmps.setIfInBounds d v } w) : wpAnyH P md ops Q S (fuel + 1) listed a w :=
  wpAnyH_take hi hs hf hr hQ hy hS (by rw [hd]; exact h)
theorem below_step' {B : Nat} {w w1 w2 : World} (h : Below B w w1) (k : Below w1.heap.size w1 w2) (hB : B ≤ w.heap.size := by omega) : Below B w w2 := h.trans ⟨k.os, k.tape, k.output, k.size, fun i hi => k.block i (by have := h.size; omega)⟩
theorem rPeek_all {b : ByteArray} (h : b.size ≤ 1000) : rPeek b 1000 = b := by
  apply dl_ext
  rw [dl_peek, List.take_of_length_le (by rw [dl_len]; show b.size ≤ (1000 : Int).toNat; exact h)]

set_option maxHeartbeats 4000000 in
set_option maxRecDepth 100000 in
theorem rall_dead (room : Int) (A : Option Addr) (n cap : Nat) (w : World) (hn : n ≤ 9223372036854775807) (h : room < 0 ∨ 300 < room ∨ 40 < (n : Int)) :
    Calls Try.prog 7 #[.int .i64 room, .slice A n cap] w fun r w' => r = .returned (.bool true) ∧ Below w.heap.size w w' := by
  by_cases g0 : room < 0
  · clear h
    go_enter Try.func7, Try.ntmps7
    go_wp2_with (go_at_call 13; refine (alive2 _).mono ?_; rintro e1 w1 ⟨rfl, hb⟩)
    go_ret
    exact ⟨rfl, hb⟩
  · skip
    by_cases g1 : 300 < room
    · clear h
      go_enter Try.func7, Try.ntmps7
      go_wp2_with (go_at_call 13; refine (alive2 _).mono ?_; rintro e1 w1 ⟨rfl, hb⟩)
      go_ret
      exact ⟨rfl, hb⟩
    · skip
      have g2 : 40 < (n : Int) := by omega
      clear h
      go_enter Try.func7, Try.ntmps7
      go_wp2_with (go_at_call 13; refine (alive2 _).mono ?_; rintro e1 w1 ⟨rfl, hb⟩)
      go_ret
      exact ⟨rfl, hb⟩

set_option maxHeartbeats 8000000 in
set_option maxRecDepth 100000 in
theorem rall_live (R : Nat) (ad : Addr) (cap : Nat) (ss : List ByteArray) (w : World) (hA : ∀ i s, ss[i]? = some s → w.cell? (ad.add i) = some (.string s)) (hl : ss.length ≤ 40) (hR : R ≤ 300) :
    Calls Try.prog 7 #[.int .i64 (R : Int), .slice (some ad) ss.length cap] w fun r w' => r = .returned (.bool true) ∧ Below w.heap.size w w' := by
  have HA := Aside0.mk hA
  clear hA
  go_enter Try.func7, Try.ntmps7
  go_wp2_with fail
  refine (alive2 _).mono ?_
  rintro e0 w0 ⟨rfl, hb0⟩
  have hs0 := hb0.size
  have hnil := eql_ring ⟨w0.heap.size, 0, none⟩
  have HB0 := Aside0.mk (hb0.alloc hs0 (.cells #[.int .i64 (R : Int), .string ⟨#[]⟩] 71))
  have HI0 := Aside0.mk (show IsRing (w0.alloc (.cells #[.int .i64 (R : Int), .string ⟨#[]⟩] 71)) w0.heap.size R ⟨#[]⟩ from heap_alloc_new w0 _)
  clear hb0
  go_wp2_with fail
  refine (rnew_calls R w0).mono ?_
  rw [show roomOf (R : Int) = R by unfold roomOf; rw [if_neg (by omega), if_neg (by omega)]; omega]
  rintro e1 w1 ⟨rfl, rfl⟩
  go_wp2_with fail
  go_loopg [6] 40 (fun kq v6 wr => ∃ (k : Nat) (b : ByteArray), v6 = .int .i64 k ∧ Aside0 (k ≤ ss.length ∧ kq = 40 - k) ∧ Aside0 (IsRing wr w0.heap.size R b ∧ Below w.heap.size w wr ∧ w0.heap.size < wr.heap.size ∧ b.size ≤ R))
  case atStart => exact ⟨0, ⟨#[]⟩, rfl, ⟨Nat.zero_le _, rfl⟩, ⟨HI0.out, HB0.out, by simp, Nat.zero_le _⟩⟩
  case round =>
    obtain ⟨k, b, rfl, ⟨hk, hkq⟩, ⟨hI, hB, hsz, hbR⟩⟩ := hrel
    have HI := Aside0.mk hI
    have HB := Aside0.mk hB
    have HQ := Aside0.mk hkq
    clear hI hB hkq
    by_cases hlt : k < ss.length
    · obtain ⟨x, hxk⟩ : ∃ x, ss[k]? = some x := ⟨ss[k], by simp [hlt]⟩
      have HC0 := Aside0.mk (HA.out k x hxk)
      have hc := pw_cell_below HB.out HC0.out
      have hi0 : (0 : Int) ≤ (k : Int) := Int.natCast_nonneg _
      have hi1 : (k : Int) < (ss.length : Int) := by omega
      clear hxk
      by_cases h4 : 400 < (x.size : Int)
      · go_wp2
        go_ret
        exact ⟨rfl, HB.out⟩
      · have HPB := Aside0.mk (rPeek_all (b := b) (by omega))
        go_wp2_with fail
        refine (rpeek_calls w0.heap.size R b 1000 _ HI.out (by omega)).mono ?_
        rw [HPB.out]
        rintro e2 w2 ⟨rfl, hb2⟩
        have HI2 := Aside0.mk (HI.out.below hb2)
        have HB2 := Aside0.mk (below_step' HB.out hb2)
        have hs2 := hb2.size
        clear hb2 hc
        go_wp2_with fail
        refine (rroom_calls w0.heap.size R b _ HI2.out hbR (by omega)).mono ?_
        rintro e3 w3 ⟨rfl, n3, rfl⟩
        have HB3 := Aside0.mk (pw_below_drewN HB2.out n3)
        have hc := pw_cell_below HB3.out HC0.out
        go_wp2_with fail
        refine (rall1 w0.heap.size _ R b x (w2.drewN n3) rfl HI2.out hbR (by omega) (by omega)).mono ?_
        by_cases hfit : x.size ≤ R - b.size
        · have hfi : (x.size : Int) ≤ (R : Int) - (b.size : Int) := by omega
          rw [show rAllOk R b x = true from decide_eq_true hfit, show rAllV R b x = b ++ x from if_pos hfit]
          have hbx : (b ++ x).size ≤ R := by rw [ByteArray.size_append]; omega
          have hdec : decide ((x.size : Int) ≤ (R : Int) - (b.size : Int)) = true := decide_eq_true hfi
          rintro e4 w4 ⟨rfl, hI4, hF4⟩
          have HI4 := Aside0.mk hI4
          have HB4 := Aside0.mk (hF4.upOf HB3.out (by simp; omega) (show w.heap.size ≤ w0.heap.size by omega))
          have hs4 : w2.heap.size ≤ w4.heap.size := hF4.size
          have hc4 := pw_cell_below HB4.out HC0.out
          have HPX := Aside0.mk (rPeek_all (b := (b ++ x)) (by omega))
          clear hI4 hF4 hc hfit
          go_wp2_with fail
          have hbs : b.size + x.size ≤ 9223372036854775807 := by omega
          refine wp_region_held_drew (S := fun w' => w'.cell? (ad.add k) = some (.string x)) (by kernel_rfl) (by first | assumption | go_keep) (fun hHeld => ?_)
          refine takeH (i := 0) (d := 53) (v := (.bool true)) rfl rfl (by kernel_rfl) (by kernel_rfl) (by kernel_rfl) (fun _ _ _ h => h) (Or.inl ⟨by kernel_rfl, by intro w hSw; (try dsimp only at hSw); go_simp; done⟩) (by assumption) ?_
          try simp only [List.setIfInBounds_toArray, List.set_cons_zero, List.set_cons_succ]
          refine takeH (i := 1) (d := 54) (v := (.slice (some ad) ss.length cap)) rfl rfl (by kernel_rfl) (by kernel_rfl) (by kernel_rfl) (fun _ _ _ h => h) (Or.inl ⟨by kernel_rfl, by intro w hSw; (try dsimp only at hSw); go_simp; done⟩) (by assumption) ?_
          try simp only [List.setIfInBounds_toArray, List.set_cons_zero, List.set_cons_succ]
          refine takeH (i := 2) (d := 55) (v := (.int .i64 (k : Int))) rfl rfl (by kernel_rfl) (by kernel_rfl) (by kernel_rfl) (fun _ _ _ h => h) (Or.inl ⟨by kernel_rfl, by intro w hSw; (try dsimp only at hSw); go_simp; done⟩) (by assumption) ?_
          try simp only [List.setIfInBounds_toArray, List.set_cons_zero, List.set_cons_succ]
          refine takeH (i := 3) (d := 56) (v := (.pointer (some (ad.add k)))) rfl rfl (by kernel_rfl) (by kernel_rfl) (by kernel_rfl) (fun _ _ _ h => h) (Or.inl ⟨by kernel_rfl, by intro w hSw; (try dsimp only at hSw); go_simp; done⟩) (by assumption) ?_
          try simp only [List.setIfInBounds_toArray, List.set_cons_zero, List.set_cons_succ]
          refine takeH (i := 4) (d := 57) (v := (.string x)) rfl rfl (by kernel_rfl) (by kernel_rfl) (by kernel_rfl) (fun _ _ _ h => h) (Or.inl ⟨by kernel_rfl, by intro w hSw; (try dsimp only at hSw); go_simp; done⟩) (by assumption) ?_
          try simp only [List.setIfInBounds_toArray, List.set_cons_zero, List.set_cons_succ]
          refine takeH (i := 5) (d := 58) (v := (.int .i64 (x.size : Int))) rfl rfl (by kernel_rfl) (by kernel_rfl) (by kernel_rfl) (fun _ _ _ h => h) (Or.inl ⟨by kernel_rfl, by intro w hSw; (try dsimp only at hSw); go_simp; done⟩) (by assumption) ?_
          try simp only [List.setIfInBounds_toArray, List.set_cons_zero, List.set_cons_succ]
          refine takeH (i := 6) (d := 59) (v := (.int .i64 ((R : Int) - (b.size : Int)))) rfl rfl (by kernel_rfl) (by kernel_rfl) (by kernel_rfl) (fun _ _ _ h => h) (Or.inl ⟨by kernel_rfl, by intro w hSw; (try dsimp only at hSw); go_simp; done⟩) (by assumption) ?_
          try simp only [List.setIfInBounds_toArray, List.set_cons_zero, List.set_cons_succ]
          refine takeH (i := 7) (d := 60) (v := (.bool true)) rfl rfl (by kernel_rfl) (by kernel_rfl) (by kernel_rfl) (fun _ _ _ h => h) (Or.inl ⟨by kernel_rfl, by intro w hSw; (try dsimp only at hSw); go_simp; done⟩) (by assumption) ?_
          try simp only [List.setIfInBounds_toArray, List.set_cons_zero, List.set_cons_succ]
          refine takeH (i := 8) (d := 61) (v := (.bool false)) rfl rfl (by kernel_rfl) (by kernel_rfl) (by kernel_rfl) (fun _ _ _ h => h) (Or.inl ⟨by kernel_rfl, by intro w hSw; (try dsimp only at hSw); go_simp; done⟩) (by assumption) ?_
          try simp only [List.setIfInBounds_toArray, List.set_cons_zero, List.set_cons_succ]
          refine takeH (i := 9) (d := 62) (v := (.bool false)) rfl rfl (by kernel_rfl) (by kernel_rfl) (by kernel_rfl) (fun _ _ _ h => h) (Or.inl ⟨by kernel_rfl, by intro w hSw; (try dsimp only at hSw); go_simp; done⟩) (by assumption) ?_
          try simp only [List.setIfInBounds_toArray, List.set_cons_zero, List.set_cons_succ]
          refine takeH (i := 10) (d := 63) (v := (.bool true)) rfl rfl (by kernel_rfl) (by kernel_rfl) (by kernel_rfl) (fun _ _ _ h => h) (Or.inl ⟨by kernel_rfl, by intro w hSw; (try dsimp only at hSw); go_simp; done⟩) (by assumption) ?_
          try simp only [List.setIfInBounds_toArray, List.set_cons_zero, List.set_cons_succ]
          refine takeH (i := 11) (d := 64) (v := (.bool false)) rfl rfl (by kernel_rfl) (by kernel_rfl) (by kernel_rfl) (fun _ _ _ h => h) (Or.inl ⟨by kernel_rfl, by intro w hSw; (try dsimp only at hSw); go_simp; done⟩) (by assumption) ?_
          try simp only [List.setIfInBounds_toArray, List.set_cons_zero, List.set_cons_succ]
          refine takeH (i := 12) (d := 65) (v := (.bool false)) rfl rfl (by kernel_rfl) (by kernel_rfl) (by kernel_rfl) (fun _ _ _ h => h) (Or.inl ⟨by kernel_rfl, by intro w hSw; (try dsimp only at hSw); go_simp; done⟩) (by assumption) ?_
          try simp only [List.setIfInBounds_toArray, List.set_cons_zero, List.set_cons_succ]
          refine takeH (i := 13) (d := 66) (v := _) rfl rfl (by kernel_rfl) (by kernel_rfl) (by kernel_rfl) (fun _ _ _ h => h) (Or.inr ⟨by kernel_rfl, rfl⟩) (by assumption) ?_
          try simp only [List.setIfInBounds_toArray, List.set_cons_zero, List.set_cons_succ]
          refine takeH (i := 14) (d := 67) (v := _) rfl rfl (by kernel_rfl) (by kernel_rfl) (by kernel_rfl) (fun _ _ _ h => h) (Or.inr ⟨by kernel_rfl, rfl⟩) (by assumption) ?_
          try simp only [List.setIfInBounds_toArray, List.set_cons_zero, List.set_cons_succ]
          refine takeH (i := 15) (d := 68) (v := _) rfl rfl (by kernel_rfl) (by kernel_rfl) (by kernel_rfl) (fun _ _ _ h => h) (Or.inr ⟨by kernel_rfl, rfl⟩) (by assumption) ?_
          try simp only [List.setIfInBounds_toArray, List.set_cons_zero, List.set_cons_succ]
          refine takeH (i := 16) (d := 69) (v := _) rfl rfl (by kernel_rfl) (by kernel_rfl) (by kernel_rfl) (fun _ _ _ h => h) (Or.inr ⟨by kernel_rfl, rfl⟩) (by assumption) ?_
          try simp only [List.setIfInBounds_toArray, List.set_cons_zero, List.set_cons_succ]
          refine takeH (i := 17) (d := 70) (v := (.bool false)) rfl rfl (by kernel_rfl) (by kernel_rfl) (by kernel_rfl) (fun _ _ _ h => h) (Or.inl ⟨by kernel_rfl, by intro w hSw; (try dsimp only at hSw); go_simp; done⟩) (by assumption) ?_
          try simp only [List.setIfInBounds_toArray, List.set_cons_zero, List.set_cons_succ]
          refine takeH (i := 18) (d := 71) (v := (.bool false)) rfl rfl (by kernel_rfl) (by kernel_rfl) (by kernel_rfl) (fun _ _ _ h => h) (Or.inl ⟨by kernel_rfl, by intro w hSw; (try dsimp only at hSw); go_simp; done⟩) (by assumption) ?_
          try simp only [List.setIfInBounds_toArray, List.set_cons_zero, List.set_cons_succ]
          refine takeH (i := 19) (d := 72) (v := (.bool false)) rfl rfl (by kernel_rfl) (by kernel_rfl) (by kernel_rfl) (fun _ _ _ h => h) (Or.inl ⟨by kernel_rfl, by intro w hSw; (try dsimp only at hSw); go_simp; done⟩) (by assumption) ?_
          try simp only [List.setIfInBounds_toArray, List.set_cons_zero, List.set_cons_succ]
          refine takeH (i := 20) (d := 73) (v := (.bool true)) rfl rfl (by kernel_rfl) (by kernel_rfl) (by kernel_rfl) (fun _ _ _ h => h) (Or.inl ⟨by kernel_rfl, by intro w hSw; (try dsimp only at hSw); go_simp; done⟩) (by assumption) ?_
          try simp only [List.setIfInBounds_toArray, List.set_cons_zero, List.set_cons_succ]
          refine takeH (i := 21) (d := 74) (v := (.bool true)) rfl rfl (by kernel_rfl) (by kernel_rfl) (by kernel_rfl) (fun _ _ _ h => h) (Or.inl ⟨by kernel_rfl, by intro w hSw; (try dsimp only at hSw); go_simp; done⟩) (by assumption) ?_
          try simp only [List.setIfInBounds_toArray, List.set_cons_zero, List.set_cons_succ]
          refine takeH (i := 22) (d := 75) (v := (.pointer (some ⟨w0.heap.size, 0, none⟩))) rfl rfl (by kernel_rfl) (by kernel_rfl) (by kernel_rfl) (fun _ _ _ h => h) (Or.inl ⟨by kernel_rfl, by intro w hSw; (try dsimp only at hSw); go_simp; done⟩) (by assumption) ?_
          try simp only [List.setIfInBounds_toArray, List.set_cons_zero, List.set_cons_succ]
          refine takeH (i := 24) (d := 77) (v := (.string b)) rfl rfl (by kernel_rfl) (by kernel_rfl) (by kernel_rfl) (fun _ _ _ h => h) (Or.inl ⟨by kernel_rfl, by intro w hSw; (try dsimp only at hSw); go_simp; done⟩) (by assumption) ?_
          try simp only [List.setIfInBounds_toArray, List.set_cons_zero, List.set_cons_succ]
          refine takeH (i := 25) (d := 78) (v := (.slice (some ad) ss.length cap)) rfl rfl (by kernel_rfl) (by kernel_rfl) (by kernel_rfl) (fun _ _ _ h => h) (Or.inl ⟨by kernel_rfl, by intro w hSw; (try dsimp only at hSw); go_simp; done⟩) (by assumption) ?_
          try simp only [List.setIfInBounds_toArray, List.set_cons_zero, List.set_cons_succ]
          refine takeH (i := 26) (d := 79) (v := (.int .i64 (k : Int))) rfl rfl (by kernel_rfl) (by kernel_rfl) (by kernel_rfl) (fun _ _ _ h => h) (Or.inl ⟨by kernel_rfl, by intro w hSw; (try dsimp only at hSw); go_simp; done⟩) (by assumption) ?_
          try simp only [List.setIfInBounds_toArray, List.set_cons_zero, List.set_cons_succ]
          refine takeH (i := 27) (d := 80) (v := (.pointer (some (ad.add k)))) rfl rfl (by kernel_rfl) (by kernel_rfl) (by kernel_rfl) (fun _ _ _ h => h) (Or.inl ⟨by kernel_rfl, by intro w hSw; (try dsimp only at hSw); go_simp; done⟩) (by assumption) ?_
          try simp only [List.setIfInBounds_toArray, List.set_cons_zero, List.set_cons_succ]
          refine takeH (i := 28) (d := 81) (v := (.string x)) rfl rfl (by kernel_rfl) (by kernel_rfl) (by kernel_rfl) (fun _ _ _ h => h) (Or.inl ⟨by kernel_rfl, by intro w hSw; (try dsimp only at hSw); go_simp; done⟩) (by assumption) ?_
          try simp only [List.setIfInBounds_toArray, List.set_cons_zero, List.set_cons_succ]
          refine takeH (i := 29) (d := 82) (v := (.string (b ++ x))) rfl rfl (by kernel_rfl) (by kernel_rfl) (by kernel_rfl) (fun _ _ _ h => h) (Or.inl ⟨by kernel_rfl, by intro w hSw; (try dsimp only at hSw); go_simp; done⟩) (by assumption) ?_
          try simp only [List.setIfInBounds_toArray, List.set_cons_zero, List.set_cons_succ]
          refine wpAnyH_ready (rs := [23]) (by kernel_rfl) (by simp) ?_
          refine AllReadyH.cons (o := { dst := some 76, op := Op.call { callee := Callee.value (Operand.func 27), args := #[Operand.tmp 75, Operand.const (Value.int IntKind.i64 1000)], argTypes := #[23, 3] }, type := 9, pos := "more.go:24", after := #[{ on := 22, ground := .data }, { on := 21, ground := .chain }, { on := 21, ground := .guard }], guard := some (21, true) }) rfl (fun K hK => ?_) AllReadyH.nil
          rw [if_pos (by kernel_rfl)]
          go_simp
          refine (rpeek_calls w0.heap.size R (b ++ x) 1000 _ (by exact HI4.out) (by omega)).mono ?_
          rw [HPX.out]
          rintro e5 w5 ⟨rfl, hb5⟩
          have hb5' : Below w4.heap.size w4 w5 := ⟨hb5.os, hb5.tape, hb5.output, hb5.size, hb5.block⟩
          have HI5 := Aside0.mk (HI4.out.below hb5')
          have HB5 := Aside0.mk (below_step' HB4.out hb5')
          have hc5 := pw_cell_below HB5.out HC0.out
          have hs5 : w4.heap.size ≤ w5.heap.size := hb5.size
          clear hb5 hb5'
          refine hK.out _ _ hc5 (fun hHeld => ?_)
          clear hK K
          try simp only [Act.put, List.setIfInBounds_toArray, List.set_cons_zero, List.set_cons_succ]
          refine takeH (i := 30) (d := 83) (v := (.bool false)) rfl rfl (by kernel_rfl) (by kernel_rfl) (by kernel_rfl) (fun _ _ _ h => h) (Or.inl ⟨by kernel_rfl, by intro w hSw; (try dsimp only at hSw); go_simp; done⟩) (by assumption) ?_
          try simp only [List.setIfInBounds_toArray, List.set_cons_zero, List.set_cons_succ]
          refine takeH (i := 31) (d := 84) (v := (.bool false)) rfl rfl (by kernel_rfl) (by kernel_rfl) (by kernel_rfl) (fun _ _ _ h => h) (Or.inl ⟨by kernel_rfl, by intro w hSw; (try dsimp only at hSw); go_simp; done⟩) (by assumption) ?_
          try simp only [List.setIfInBounds_toArray, List.set_cons_zero, List.set_cons_succ]
          refine takeH (i := 32) (d := 85) (v := (.bool false)) rfl rfl (by kernel_rfl) (by kernel_rfl) (by kernel_rfl) (fun _ _ _ h => h) (Or.inl ⟨by kernel_rfl, by intro w hSw; (try dsimp only at hSw); go_simp; done⟩) (by assumption) ?_
          try simp only [List.setIfInBounds_toArray, List.set_cons_zero, List.set_cons_succ]
          refine wpAnyH_done (by kernel_rfl) ?_ _
          clear hfi hdec hbs hc4 hc5
          have hdiv : (0 : Int) ≤ (b.size : Int) / 2 := by omega
          by_cases h3 : (k : Int) % 3 = 2
          · go_wp2_with fail
            refine (rtake_calls w0.heap.size R (b ++ x) ((b.size : Int) / 2) _ HI5.out (by omega)).mono ?_
            have hsz6 : (rDrop (b ++ x) ((b.size : Int) / 2)).size ≤ R := by rw [rDrop_size]; omega
            rintro e6 w6 ⟨rfl, hI6, hF6⟩
            have HI6 := Aside0.mk hI6
            have HB6 := Aside0.mk (hF6.upOf HB5.out (by omega) (show w.heap.size ≤ w0.heap.size by omega))
            have hs6 := hF6.size
            clear hI6 hF6
            go_wp2
            go_roundg (39 - k)
            case measure => have := HQ.out; omega
            case rel => exact ⟨k + 1, _, by go_num, ⟨by omega, by omega⟩, ⟨HI6.out, HB6.out, by omega, hsz6⟩⟩
          · go_wp2
            go_roundg (39 - k)
            case measure => have := HQ.out; omega
            case rel => exact ⟨k + 1, _, by go_num, ⟨by omega, by omega⟩, ⟨HI5.out, HB5.out, by omega, hbx⟩⟩
        · have hfi : ¬ (x.size : Int) ≤ (R : Int) - (b.size : Int) := by omega
          rw [show rAllOk R b x = false from decide_eq_false hfit, show rAllV R b x = b from if_neg hfit]
          have hbx : b.size ≤ R := hbR
          have hdec : decide ((x.size : Int) ≤ (R : Int) - (b.size : Int)) = false := decide_eq_false hfi
          rintro e4 w4 ⟨rfl, hI4, hF4⟩
          have HI4 := Aside0.mk hI4
          have HB4 := Aside0.mk (hF4.upOf HB3.out (by simp; omega) (show w.heap.size ≤ w0.heap.size by omega))
          have hs4 : w2.heap.size ≤ w4.heap.size := hF4.size
          have hc4 := pw_cell_below HB4.out HC0.out
          have HPX := Aside0.mk (rPeek_all (b := b) (by omega))
          clear hI4 hF4 hc hfit
          go_wp2_with fail
          have hbs : b.size + x.size ≤ 9223372036854775807 := by omega
          refine wp_region_held_drew (S := fun w' => w'.cell? (ad.add k) = some (.string x)) (by kernel_rfl) (by first | assumption | go_keep) (fun hHeld => ?_)
          refine takeH (i := 0) (d := 53) (v := (.bool false)) rfl rfl (by kernel_rfl) (by kernel_rfl) (by kernel_rfl) (fun _ _ _ h => h) (Or.inl ⟨by kernel_rfl, by intro w hSw; (try dsimp only at hSw); go_simp; done⟩) (by assumption) ?_
          try simp only [List.setIfInBounds_toArray, List.set_cons_zero, List.set_cons_succ]
          refine takeH (i := 1) (d := 54) (v := (.slice (some ad) ss.length cap)) rfl rfl (by kernel_rfl) (by kernel_rfl) (by kernel_rfl) (fun _ _ _ h => h) (Or.inl ⟨by kernel_rfl, by intro w hSw; (try dsimp only at hSw); go_simp; done⟩) (by assumption) ?_
          try simp only [List.setIfInBounds_toArray, List.set_cons_zero, List.set_cons_succ]
          refine takeH (i := 2) (d := 55) (v := (.int .i64 (k : Int))) rfl rfl (by kernel_rfl) (by kernel_rfl) (by kernel_rfl) (fun _ _ _ h => h) (Or.inl ⟨by kernel_rfl, by intro w hSw; (try dsimp only at hSw); go_simp; done⟩) (by assumption) ?_
          try simp only [List.setIfInBounds_toArray, List.set_cons_zero, List.set_cons_succ]
          refine takeH (i := 3) (d := 56) (v := (.pointer (some (ad.add k)))) rfl rfl (by kernel_rfl) (by kernel_rfl) (by kernel_rfl) (fun _ _ _ h => h) (Or.inl ⟨by kernel_rfl, by intro w hSw; (try dsimp only at hSw); go_simp; done⟩) (by assumption) ?_
          try simp only [List.setIfInBounds_toArray, List.set_cons_zero, List.set_cons_succ]
          refine takeH (i := 4) (d := 57) (v := (.string x)) rfl rfl (by kernel_rfl) (by kernel_rfl) (by kernel_rfl) (fun _ _ _ h => h) (Or.inl ⟨by kernel_rfl, by intro w hSw; (try dsimp only at hSw); go_simp; done⟩) (by assumption) ?_
          try simp only [List.setIfInBounds_toArray, List.set_cons_zero, List.set_cons_succ]
          refine takeH (i := 5) (d := 58) (v := (.int .i64 (x.size : Int))) rfl rfl (by kernel_rfl) (by kernel_rfl) (by kernel_rfl) (fun _ _ _ h => h) (Or.inl ⟨by kernel_rfl, by intro w hSw; (try dsimp only at hSw); go_simp; done⟩) (by assumption) ?_
          try simp only [List.setIfInBounds_toArray, List.set_cons_zero, List.set_cons_succ]
          refine takeH (i := 6) (d := 59) (v := (.int .i64 ((R : Int) - (b.size : Int)))) rfl rfl (by kernel_rfl) (by kernel_rfl) (by kernel_rfl) (fun _ _ _ h => h) (Or.inl ⟨by kernel_rfl, by intro w hSw; (try dsimp only at hSw); go_simp; done⟩) (by assumption) ?_
          try simp only [List.setIfInBounds_toArray, List.set_cons_zero, List.set_cons_succ]
          refine takeH (i := 7) (d := 60) (v := (.bool false)) rfl rfl (by kernel_rfl) (by kernel_rfl) (by kernel_rfl) (fun _ _ _ h => h) (Or.inl ⟨by kernel_rfl, by intro w hSw; (try dsimp only at hSw); go_simp; done⟩) (by assumption) ?_
          try simp only [List.setIfInBounds_toArray, List.set_cons_zero, List.set_cons_succ]
          refine takeH (i := 8) (d := 61) (v := (.bool false)) rfl rfl (by kernel_rfl) (by kernel_rfl) (by kernel_rfl) (fun _ _ _ h => h) (Or.inl ⟨by kernel_rfl, by intro w hSw; (try dsimp only at hSw); go_simp; done⟩) (by assumption) ?_
          try simp only [List.setIfInBounds_toArray, List.set_cons_zero, List.set_cons_succ]
          refine takeH (i := 9) (d := 62) (v := (.bool false)) rfl rfl (by kernel_rfl) (by kernel_rfl) (by kernel_rfl) (fun _ _ _ h => h) (Or.inl ⟨by kernel_rfl, by intro w hSw; (try dsimp only at hSw); go_simp; done⟩) (by assumption) ?_
          try simp only [List.setIfInBounds_toArray, List.set_cons_zero, List.set_cons_succ]
          refine takeH (i := 10) (d := 63) (v := (.bool false)) rfl rfl (by kernel_rfl) (by kernel_rfl) (by kernel_rfl) (fun _ _ _ h => h) (Or.inl ⟨by kernel_rfl, by intro w hSw; (try dsimp only at hSw); go_simp; done⟩) (by assumption) ?_
          try simp only [List.setIfInBounds_toArray, List.set_cons_zero, List.set_cons_succ]
          refine takeH (i := 11) (d := 64) (v := (.bool true)) rfl rfl (by kernel_rfl) (by kernel_rfl) (by kernel_rfl) (fun _ _ _ h => h) (Or.inl ⟨by kernel_rfl, by intro w hSw; (try dsimp only at hSw); go_simp; done⟩) (by assumption) ?_
          try simp only [List.setIfInBounds_toArray, List.set_cons_zero, List.set_cons_succ]
          refine takeH (i := 12) (d := 65) (v := (.bool true)) rfl rfl (by kernel_rfl) (by kernel_rfl) (by kernel_rfl) (fun _ _ _ h => h) (Or.inl ⟨by kernel_rfl, by intro w hSw; (try dsimp only at hSw); go_simp; done⟩) (by assumption) ?_
          try simp only [List.setIfInBounds_toArray, List.set_cons_zero, List.set_cons_succ]
          refine takeH (i := 13) (d := 66) (v := (.pointer (some ⟨w0.heap.size, 0, none⟩))) rfl rfl (by kernel_rfl) (by kernel_rfl) (by kernel_rfl) (fun _ _ _ h => h) (Or.inl ⟨by kernel_rfl, by intro w hSw; (try dsimp only at hSw); go_simp; done⟩) (by assumption) ?_
          try simp only [List.setIfInBounds_toArray, List.set_cons_zero, List.set_cons_succ]
          refine takeH (i := 15) (d := 68) (v := (.string b)) rfl rfl (by kernel_rfl) (by kernel_rfl) (by kernel_rfl) (fun _ _ _ h => h) (Or.inl ⟨by kernel_rfl, by intro w hSw; (try dsimp only at hSw); go_simp; done⟩) (by assumption) ?_
          try simp only [List.setIfInBounds_toArray, List.set_cons_zero, List.set_cons_succ]
          refine wpAnyH_ready (rs := [14]) (by kernel_rfl) (by simp) ?_
          refine AllReadyH.cons (o := { dst := some 67, op := Op.call { callee := Callee.value (Operand.func 27), args := #[Operand.tmp 66, Operand.const (Value.int IntKind.i64 1000)], argTypes := #[23, 3] }, type := 9, pos := "more.go:24", after := #[{ on := 13, ground := .data }, { on := 12, ground := .chain }, { on := 12, ground := .guard }], guard := some (12, true) }) rfl (fun K hK => ?_) AllReadyH.nil
          rw [if_pos (by kernel_rfl)]
          go_simp
          refine (rpeek_calls w0.heap.size R b 1000 _ (by exact HI4.out) (by omega)).mono ?_
          rw [HPX.out]
          rintro e5 w5 ⟨rfl, hb5⟩
          have hb5' : Below w4.heap.size w4 w5 := ⟨hb5.os, hb5.tape, hb5.output, hb5.size, hb5.block⟩
          have HI5 := Aside0.mk (HI4.out.below hb5')
          have HB5 := Aside0.mk (below_step' HB4.out hb5')
          have hc5 := pw_cell_below HB5.out HC0.out
          have hs5 : w4.heap.size ≤ w5.heap.size := hb5.size
          clear hb5 hb5'
          refine hK.out _ _ hc5 (fun hHeld => ?_)
          clear hK K
          try simp only [Act.put, List.setIfInBounds_toArray, List.set_cons_zero, List.set_cons_succ]
          refine takeH (i := 16) (d := 69) (v := (.bool false)) rfl rfl (by kernel_rfl) (by kernel_rfl) (by kernel_rfl) (fun _ _ _ h => h) (Or.inl ⟨by kernel_rfl, by intro w hSw; (try dsimp only at hSw); go_simp; done⟩) (by assumption) ?_
          try simp only [List.setIfInBounds_toArray, List.set_cons_zero, List.set_cons_succ]
          refine takeH (i := 17) (d := 70) (v := (.bool false)) rfl rfl (by kernel_rfl) (by kernel_rfl) (by kernel_rfl) (fun _ _ _ h => h) (Or.inl ⟨by kernel_rfl, by intro w hSw; (try dsimp only at hSw); go_simp; done⟩) (by assumption) ?_
          try simp only [List.setIfInBounds_toArray, List.set_cons_zero, List.set_cons_succ]
          refine takeH (i := 18) (d := 71) (v := (.bool false)) rfl rfl (by kernel_rfl) (by kernel_rfl) (by kernel_rfl) (fun _ _ _ h => h) (Or.inl ⟨by kernel_rfl, by intro w hSw; (try dsimp only at hSw); go_simp; done⟩) (by assumption) ?_
          try simp only [List.setIfInBounds_toArray, List.set_cons_zero, List.set_cons_succ]
          refine takeH (i := 19) (d := 72) (v := (.bool false)) rfl rfl (by kernel_rfl) (by kernel_rfl) (by kernel_rfl) (fun _ _ _ h => h) (Or.inl ⟨by kernel_rfl, by intro w hSw; (try dsimp only at hSw); go_simp; done⟩) (by assumption) ?_
          try simp only [List.setIfInBounds_toArray, List.set_cons_zero, List.set_cons_succ]
          refine takeH (i := 20) (d := 73) (v := (.bool false)) rfl rfl (by kernel_rfl) (by kernel_rfl) (by kernel_rfl) (fun _ _ _ h => h) (Or.inl ⟨by kernel_rfl, by intro w hSw; (try dsimp only at hSw); go_simp; done⟩) (by assumption) ?_
          try simp only [List.setIfInBounds_toArray, List.set_cons_zero, List.set_cons_succ]
          refine takeH (i := 21) (d := 74) (v := (.bool false)) rfl rfl (by kernel_rfl) (by kernel_rfl) (by kernel_rfl) (fun _ _ _ h => h) (Or.inl ⟨by kernel_rfl, by intro w hSw; (try dsimp only at hSw); go_simp; done⟩) (by assumption) ?_
          try simp only [List.setIfInBounds_toArray, List.set_cons_zero, List.set_cons_succ]
          refine takeH (i := 22) (d := 75) (v := _) rfl rfl (by kernel_rfl) (by kernel_rfl) (by kernel_rfl) (fun _ _ _ h => h) (Or.inr ⟨by kernel_rfl, rfl⟩) (by assumption) ?_
          try simp only [List.setIfInBounds_toArray, List.set_cons_zero, List.set_cons_succ]
          refine takeH (i := 23) (d := 76) (v := _) rfl rfl (by kernel_rfl) (by kernel_rfl) (by kernel_rfl) (fun _ _ _ h => h) (Or.inr ⟨by kernel_rfl, rfl⟩) (by assumption) ?_
          try simp only [List.setIfInBounds_toArray, List.set_cons_zero, List.set_cons_succ]
          refine takeH (i := 24) (d := 77) (v := _) rfl rfl (by kernel_rfl) (by kernel_rfl) (by kernel_rfl) (fun _ _ _ h => h) (Or.inr ⟨by kernel_rfl, rfl⟩) (by assumption) ?_
          try simp only [List.setIfInBounds_toArray, List.set_cons_zero, List.set_cons_succ]
          refine takeH (i := 25) (d := 78) (v := _) rfl rfl (by kernel_rfl) (by kernel_rfl) (by kernel_rfl) (fun _ _ _ h => h) (Or.inr ⟨by kernel_rfl, rfl⟩) (by assumption) ?_
          try simp only [List.setIfInBounds_toArray, List.set_cons_zero, List.set_cons_succ]
          refine takeH (i := 26) (d := 79) (v := _) rfl rfl (by kernel_rfl) (by kernel_rfl) (by kernel_rfl) (fun _ _ _ h => h) (Or.inr ⟨by kernel_rfl, rfl⟩) (by assumption) ?_
          try simp only [List.setIfInBounds_toArray, List.set_cons_zero, List.set_cons_succ]
          refine takeH (i := 27) (d := 80) (v := _) rfl rfl (by kernel_rfl) (by kernel_rfl) (by kernel_rfl) (fun _ _ _ h => h) (Or.inr ⟨by kernel_rfl, rfl⟩) (by assumption) ?_
          try simp only [List.setIfInBounds_toArray, List.set_cons_zero, List.set_cons_succ]
          refine takeH (i := 28) (d := 81) (v := _) rfl rfl (by kernel_rfl) (by kernel_rfl) (by kernel_rfl) (fun _ _ _ h => h) (Or.inr ⟨by kernel_rfl, rfl⟩) (by assumption) ?_
          try simp only [List.setIfInBounds_toArray, List.set_cons_zero, List.set_cons_succ]
          refine takeH (i := 29) (d := 82) (v := _) rfl rfl (by kernel_rfl) (by kernel_rfl) (by kernel_rfl) (fun _ _ _ h => h) (Or.inr ⟨by kernel_rfl, rfl⟩) (by assumption) ?_
          try simp only [List.setIfInBounds_toArray, List.set_cons_zero, List.set_cons_succ]
          refine takeH (i := 30) (d := 83) (v := _) rfl rfl (by kernel_rfl) (by kernel_rfl) (by kernel_rfl) (fun _ _ _ h => h) (Or.inr ⟨by kernel_rfl, rfl⟩) (by assumption) ?_
          try simp only [List.setIfInBounds_toArray, List.set_cons_zero, List.set_cons_succ]
          refine takeH (i := 31) (d := 84) (v := (.bool false)) rfl rfl (by kernel_rfl) (by kernel_rfl) (by kernel_rfl) (fun _ _ _ h => h) (Or.inl ⟨by kernel_rfl, by intro w hSw; (try dsimp only at hSw); go_simp; done⟩) (by assumption) ?_
          try simp only [List.setIfInBounds_toArray, List.set_cons_zero, List.set_cons_succ]
          refine takeH (i := 32) (d := 85) (v := (.bool false)) rfl rfl (by kernel_rfl) (by kernel_rfl) (by kernel_rfl) (fun _ _ _ h => h) (Or.inl ⟨by kernel_rfl, by intro w hSw; (try dsimp only at hSw); go_simp; done⟩) (by assumption) ?_
          try simp only [List.setIfInBounds_toArray, List.set_cons_zero, List.set_cons_succ]
          refine wpAnyH_done (by kernel_rfl) ?_ _
          clear hfi hdec hbs hc4 hc5
          have hdiv : (0 : Int) ≤ (b.size : Int) / 2 := by omega
          by_cases h3 : (k : Int) % 3 = 2
          · go_wp2_with fail
            refine (rtake_calls w0.heap.size R b ((b.size : Int) / 2) _ HI5.out (by omega)).mono ?_
            have hsz6 : (rDrop b ((b.size : Int) / 2)).size ≤ R := by rw [rDrop_size]; omega
            rintro e6 w6 ⟨rfl, hI6, hF6⟩
            have HI6 := Aside0.mk hI6
            have HB6 := Aside0.mk (hF6.upOf HB5.out (by omega) (show w.heap.size ≤ w0.heap.size by omega))
            have hs6 := hF6.size
            clear hI6 hF6
            go_wp2
            go_roundg (39 - k)
            case measure => have := HQ.out; omega
            case rel => exact ⟨k + 1, _, by go_num, ⟨by omega, by omega⟩, ⟨HI6.out, HB6.out, by omega, hsz6⟩⟩
          · go_wp2
            go_roundg (39 - k)
            case measure => have := HQ.out; omega
            case rel => exact ⟨k + 1, _, by go_num, ⟨by omega, by omega⟩, ⟨HI5.out, HB5.out, by omega, hbx⟩⟩
    · go_wp2
      go_ret
      exact ⟨rfl, HB.out⟩
set_option maxHeartbeats 8000000 in
set_option maxRecDepth 100000 in
theorem rall_none (R : Nat) (A : Option Addr) (cap : Nat) (w : World) (hR : R ≤ 300) :
    Calls Try.prog 7 #[.int .i64 (R : Int), .slice A 0 cap] w fun r w' => r = .returned (.bool true) ∧ Below w.heap.size w w' := by
  go_enter Try.func7, Try.ntmps7
  go_wp2_with fail
  refine (alive2 _).mono ?_
  rintro e0 w0 ⟨rfl, hb0⟩
  have hs0 := hb0.size
  have hnil := eql_ring ⟨w0.heap.size, 0, none⟩
  have HB0 := Aside0.mk (hb0.alloc hs0 (.cells #[.int .i64 (R : Int), .string ⟨#[]⟩] 71))
  clear hb0
  go_wp2_with fail
  refine (rnew_calls R w0).mono ?_
  rw [show roomOf (R : Int) = R by unfold roomOf; rw [if_neg (by omega), if_neg (by omega)]; omega]
  rintro e1 w1 ⟨rfl, rfl⟩
  go_wp2_with fail
  refine wp_loop_rounds 1 ?_
  rw [rounds_succ]
  go_wp2
  go_ret
  exact ⟨rfl, HB0.out⟩
theorem rall_walk (room : Int) (A : Option Addr) (n cap : Nat) (ss : List ByteArray) (w : World) (_w0 : (Lit.int .i64 room).wf = true) (h : ArgStr w A n ss) :
    Calls Try.prog 7 #[.int .i64 room, .slice A n cap] w fun r w' => r = .returned (.bool true) ∧ Below w.heap.size w w' := by
  obtain ⟨rfl, hm, hc⟩ := h
  unfold maxLen at hm
  by_cases h30 : room < 0 ∨ 300 < room ∨ 40 < (ss.length : Int)
  · exact rall_dead room A _ cap w hm h30
  · obtain ⟨R, rfl⟩ := Int.eq_ofNat_of_zero_le (show 0 ≤ room by omega)
    rcases hc with h0 | ⟨ad, rfl, hc⟩
    · rw [h0]; exact rall_none R A cap w (by omega)
    · exact rall_live R ad cap ss w hc (by omega) (by omega)
end Go.Proofs.Ytheieigeipppnaa.Obj
