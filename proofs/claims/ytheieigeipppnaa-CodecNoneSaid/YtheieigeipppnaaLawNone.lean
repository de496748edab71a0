/- The walk of CodecNone: what a nil writer and a nil reader answer. Conditions: those in each theorem. -/
import Derived.Test.YtheieigeipppnaaCodPure
import Derived.OpenShut
namespace Go.Proofs.Ytheieigeipppnaa.Obj
open Go.RowKit Go.Proofs.YtheieigeipppnaaW.PrintWords Go.Proofs.YtheieigeipppnaaW.PrintMore
theorem eql_out0 (w : World) : Sem.run Try.prog (binOp .eql 29 (.pointer none) (.pointer none)) w = .ok (.bool true) w := by kernel_rfl
theorem eql_in0 (w : World) : Sem.run Try.prog (binOp .eql 38 (.pointer none) (.pointer none)) w = .ok (.bool true) w := by kernel_rfl
theorem fine0 (b : Bool) (w : World) : Calls Try.prog 53 #[.pointer none, .bool b] w fun e w' => e = .returned (.bool false) ∧ w = w' := by
  have hn := eql_out0
  go_enter Try.func53, Try.ntmps53
  go_wp2
  go_ret
  exact ⟨rfl, rfl⟩
theorem onum0 (p : Nat) (x : Int) (w : World) (hp : p = w.heap.size) : Calls Try.prog 19 #[.pointer none, .slice (some ⟨p, 0, none⟩) 1 1] (w.alloc (.cells #[.int .i64 x] 3)) fun e w' => e = .returned (.pointer none) ∧ Below w.heap.size w w' := by
  subst hp
  go_enter Try.func19, Try.ntmps19
  go_wp2
  refine wp_loop_rounds 1 ?_
  rw [rounds_succ]
  go_wp2_with (go_at_call 53; refine (fine0 _ _).mono ?_; rintro e1 w1 ⟨rfl, rfl⟩)
  go_ret
  exact ⟨rfl, below_alloc (Below.refl _ _) _⟩
theorem obyte0 (p : Nat) (x : Int) (w : World) (hp : p = w.heap.size) : Calls Try.prog 46 #[.pointer none, .slice (some ⟨p, 0, none⟩) 1 1] (w.alloc (.cells #[.int .i64 x] 3)) fun e w' => e = .returned (.pointer none) ∧ Below w.heap.size w w' := by
  subst hp
  by_cases h0 : x < 0
  · go_enter Try.func46, Try.ntmps46
    go_wp2
    refine wp_loop_rounds 1 ?_
    rw [rounds_succ]
    go_wp2_with (go_at_call 53; refine (fine0 _ _).mono ?_; rintro e1 w1 ⟨rfl, rfl⟩)
    go_ret
    exact ⟨rfl, below_alloc (Below.refl _ _) _⟩
  · go_enter Try.func46, Try.ntmps46
    go_wp2
    refine wp_loop_rounds 1 ?_
    rw [rounds_succ]
    go_wp2_with (go_at_call 53; refine (fine0 _ _).mono ?_; rintro e1 w1 ⟨rfl, rfl⟩)
    all_goals
      go_ret
      exact ⟨rfl, below_alloc (Below.refl _ _) _⟩
theorem oraw0 (p : Nat) (x : ByteArray) (w : World) (hp : p = w.heap.size) : Calls Try.prog 48 #[.pointer none, .slice (some ⟨p, 0, none⟩) 1 1] (w.alloc (.cells #[.string x] 9)) fun e w' => e = .returned (.pointer none) ∧ Below w.heap.size w w' := by
  subst hp
  go_enter Try.func48, Try.ntmps48
  go_wp2
  refine wp_loop_rounds 1 ?_
  rw [rounds_succ]
  go_wp2_with (go_at_call 53; refine (fine0 _ _).mono ?_; rintro e1 w1 ⟨rfl, rfl⟩)
  go_ret
  exact ⟨rfl, below_alloc (Below.refl _ _) _⟩
theorem otext0 (p : Nat) (x : ByteArray) (w : World) (hp : p = w.heap.size) : Calls Try.prog 20 #[.pointer none, .slice (some ⟨p, 0, none⟩) 1 1] (w.alloc (.cells #[.string x] 9)) fun e w' => e = .returned (.pointer none) ∧ Below w.heap.size w w' := by
  subst hp
  have HB0 := Aside0.mk (below_alloc (Below.refl w.heap.size w) (.cells #[.string x] 9))
  go_enter Try.func20, Try.ntmps20
  go_wp2
  refine wp_loop_rounds 2 ?_
  rw [rounds_succ]
  go_wp2_with fail
  refine (onum0 _ _ (w.alloc _) (by simp)).mono ?_
  rintro e1 w1 ⟨rfl, hb1⟩
  have hs1 := hb1.size
  simp only [World.size_alloc] at hs1
  have HB1 := Aside0.mk (below_step HB0.out hb1)
  clear hb1
  go_wp2_with fail
  refine (oraw0 _ x w1 rfl).mono ?_
  rintro e2 w2 ⟨rfl, hb2⟩
  have HB2 := Aside0.mk (below_step HB1.out hb2)
  clear hb2
  go_wp2
  rw [rounds_succ]
  go_wp2
  go_ret
  exact ⟨rfl, HB2.out⟩
theorem oend0 (w : World) : Calls Try.prog 21 #[.pointer none] w fun e w' => e = .returned (.tuple #[.string ByteArray.empty, .int .i64 1]) ∧ w = w' := by
  have hn := eql_out0
  go_enter Try.func21, Try.ntmps21
  go_wp2
  go_ret2
  exact ⟨rfl, rfl⟩
theorem iraw0 (n : Int) (w : World) : Calls Try.prog 40 #[.pointer none, .int .i64 n] w fun e w' => e = .returned (.string ByteArray.empty) ∧ w = w' := by
  have hn := eql_in0
  go_enter Try.func40, Try.ntmps40
  go_wp2
  go_ret
  exact ⟨rfl, rfl⟩
theorem inum0 (w : World) : Calls Try.prog 23 #[.pointer none] w fun e w' => e = .returned (.int .i64 0) ∧ w = w' := by
  go_enter Try.func23, Try.ntmps23
  go_wp2
  refine wp_loop_rounds 1 ?_
  rw [rounds_succ]
  go_wp2_with (go_at_call 40; refine (iraw0 _ _).mono ?_; rintro e1 w1 ⟨rfl, rfl⟩)
  go_ret
  exact ⟨rfl, rfl⟩
theorem ibyte0 (w : World) : Calls Try.prog 37 #[.pointer none] w fun e w' => e = .returned (.int .i64 0) ∧ w = w' := by
  go_enter Try.func37, Try.ntmps37
  go_wp2_with (go_at_call 40; refine (iraw0 _ _).mono ?_; rintro e1 w1 ⟨rfl, rfl⟩)
  go_ret
  exact ⟨rfl, rfl⟩
theorem itext0 (w : World) : Calls Try.prog 24 #[.pointer none] w fun e w' => e = .returned (.string ByteArray.empty) ∧ w = w' := by
  go_enter Try.func24, Try.ntmps24
  go_wp2_with (first | (go_at_call 23; refine (inum0 _).mono ?_; rintro e1 w1 ⟨rfl, rfl⟩) | (go_at_call 40; refine (iraw0 _ _).mono ?_; rintro e1 w1 ⟨rfl, rfl⟩))
  go_ret
  exact ⟨rfl, rfl⟩
theorem ileft0 (w : World) : Calls Try.prog 26 #[.pointer none] w fun e w' => e = .returned (.int .i64 0) ∧ w = w' := by
  have hn := eql_in0
  go_enter Try.func26, Try.ntmps26
  go_wp2
  go_ret
  exact ⟨rfl, rfl⟩
theorem iend0 (w : World) : Calls Try.prog 25 #[.pointer none] w fun e w' => e = .returned (.int .i64 1) ∧ w = w' := by
  have hn := eql_in0
  go_enter Try.func25, Try.ntmps25
  go_wp2
  go_ret
  exact ⟨rfl, rfl⟩

set_option maxHeartbeats 4000000 in
set_option maxRecDepth 100000 in
theorem none_dead (n : Int) (s : ByteArray) (w : World) (h : 200 < (s.size : Int)) :
    Calls Try.prog 12 #[.int .i64 n, .string s] w fun r w' => r = .returned (.bool true) ∧ Below w.heap.size w w' := by
  have g0 : 200 < (s.size : Int) := by omega
  clear h
  go_enter Try.func12, Try.ntmps12
  go_wp2_with (go_at_call 18; refine (alive1 _).mono ?_; rintro e1 w1 ⟨rfl, hb⟩)
  go_ret
  exact ⟨rfl, hb⟩
set_option maxHeartbeats 8000000 in
set_option maxRecDepth 100000 in
theorem none_walk (n : Int) (s : ByteArray) (w : World) (_w0 : (Lit.int .i64 n).wf = true) (_w1 : s.size ≤ 140737488351232) :
    Calls Try.prog 12 #[.int .i64 n, .string s] w fun r w' => r = .returned (.bool true) ∧ Below w.heap.size w w' := by
  by_cases h : 200 < (s.size : Int)
  · exact none_dead n s w h
  clear _w0 _w1
  go_enter Try.func12, Try.ntmps12
  go_wp2_with fail
  refine (alive1 _).mono ?_
  rintro e0 w0 ⟨rfl, hb0⟩
  have hs0 := hb0.size
  have HB0 := Aside0.mk hb0
  clear hb0
  go_wp2_with fail
  refine (onum0 _ n w0 rfl).mono ?_
  rintro e1 w1 ⟨rfl, hb1⟩
  have hs1 := hb1.size
  have HB1 := Aside0.mk (below_step HB0.out hb1)
  clear hb1
  go_wp2_with fail
  refine (obyte0 _ n w1 rfl).mono ?_
  rintro e2 w2 ⟨rfl, hb2⟩
  have hs2 := hb2.size
  have HB2 := Aside0.mk (below_step HB1.out hb2)
  clear hb2
  go_wp2_with fail
  refine (otext0 _ s w2 rfl).mono ?_
  rintro e3 w3 ⟨rfl, hb3⟩
  have hs3 := hb3.size
  have HB3 := Aside0.mk (below_step HB2.out hb3)
  clear hb3
  go_wp2_with fail
  refine (oraw0 _ s w3 rfl).mono ?_
  rintro e4 w4 ⟨rfl, hb4⟩
  have hs4 := hb4.size
  have HB4 := Aside0.mk (below_step HB3.out hb4)
  clear hb4
  go_wp2_with (first | (go_at_call 21; refine (oend0 _).mono ?_; rintro e5 w5 ⟨rfl, rfl⟩) | (go_at_call 23; refine (inum0 _).mono ?_; rintro e1 w1 ⟨rfl, rfl⟩) | (go_at_call 37; refine (ibyte0 _).mono ?_; rintro e1 w1 ⟨rfl, rfl⟩) | (go_at_call 26; refine (ileft0 _).mono ?_; rintro e1 w1 ⟨rfl, rfl⟩) | (go_at_call 24; refine (itext0 _).mono ?_; rintro e1 w1 ⟨rfl, rfl⟩) | (go_at_call 40; refine (iraw0 _ _).mono ?_; rintro e1 w1 ⟨rfl, rfl⟩) | (go_at_call 25; refine (iend0 _).mono ?_; rintro e1 w1 ⟨rfl, rfl⟩))
  go_ret
  exact ⟨rfl, HB4.out⟩
end Go.Proofs.Ytheieigeipppnaa.Obj
