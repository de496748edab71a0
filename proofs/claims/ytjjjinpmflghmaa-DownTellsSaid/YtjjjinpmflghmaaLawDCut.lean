/- The walk of DownCut: a message that is cut off within its numbers is too short; behind them what is left is the patch. Conditions: those in each theorem. -/
import Derived.Test.YtjjjinpmflghmaaDownA
import Derived.Test.YtjjjinpmflghmaaWEqStruct
import Derived.OpenShut
namespace Go.Proofs.Ytjjjinpmflghmaa.Obj
open Go.RowKit Go.Proofs.YtjjjinpmflghmaaW.PrintWords Go.Proofs.YtjjjinpmflghmaaW.PrintMore
set_option linter.unusedVariables false
set_option linter.unusedSimpArgs false

theorem eqA_msg (d : Nat) (w : World) (x0 y0 x1 y1 x2 y2 : Int) (x3 y3 : ByteArray) :
    (Op.equalIn (d + 2) 47 (.agg #[.int .i64 x0, .int .i64 x1, .int .i64 x2, .string x3]) (.agg #[.int .i64 y0, .int .i64 y1, .int .i64 y2, .string y3])).run Try.prog w = .ok (x0 == y0 && (x1 == y1 && (x2 == y2 && (x3.toList == y3.toList)))) w := by
  refine eqA_of Try.underlying47 (by kernel_rfl) ?_
  refine eqf_cons (by rfl) (by go_simp; rfl) (by go_simp; rfl) (by go_simp) ?_
  refine eqf_cons (by rfl) (by go_simp; rfl) (by go_simp; rfl) (by go_simp) ?_
  refine eqf_cons (by rfl) (by go_simp; rfl) (by go_simp; rfl) (by go_simp) ?_
  exact eqf_last (by rfl) (by go_simp; rfl) (by go_simp; rfl) (by go_simp)
/-- Messages that are alike. -/
theorem eq_msg (x0 x1 x2 : Int) (x3 : ByteArray) (w : World) : (binOp .eql 47 (.agg #[.int .i64 x0, .int .i64 x1, .int .i64 x2, .string x3]) (.agg #[.int .i64 x0, .int .i64 x1, .int .i64 x2, .string x3])).run Try.prog w = .ok (.bool true) w := by
  rw [run_eql_struct, show (10000 : Nat) = 9998 + 2 from rfl, eqA_msg]
  simp [Result.andThen]
theorem dLay_sample : strOfNums (dLay 0 0 5 ⟨#[]⟩) = ⟨#[0, 0, 5]⟩ := by
  unfold dLay
  rw [numB_small (by decide), numB_small (by decide)]
  rfl
set_option maxHeartbeats 4000000 in
set_option maxRecDepth 100000 in
theorem alive22 (w : World) : Calls Try.prog 16 #[] w fun r w' => r = .returned (.bool true) ∧ Below w.heap.size w w' := by
  have hu := Try.underlying47
  have heq := eq_msg 1 2 3 ⟨#[120, 121]⟩
  go_enter Try.func16, Try.ntmps16
  go_wp2_with fail
  refine (lay_ok 0 0 5 ⟨#[]⟩ _ (by decide)).mono ?_
  rw [dLay_sample]
  rintro e0 w0 ⟨rfl, hb0⟩
  have HB0 := Aside0.mk hb0
  clear hb0
  go_wp2_with fail
  refine (read_calls ⟨#[1, 2, 3, 120, 121]⟩ 1 2 3 ⟨#[2, 3, 120, 121]⟩ ⟨#[3, 120, 121]⟩ ⟨#[120, 121]⟩ 0 0 0 (by decide +kernel) (by decide +kernel) (by decide +kernel) (by decide) _).mono ?_
  rw [if_neg (by decide), if_pos (by decide +kernel)]
  rintro e1 w1 ⟨rfl, hb1⟩
  have HB1 := Aside0.mk (below_step HB0.out hb1)
  clear hb1
  go_wp2_with fail
  go_ret
  exact ⟨rfl, below_alloc HB1.out _⟩
theorem num_cut (u : Nat) (hu : u < 9223372036854775808) (rest : List Int) (j : Nat) (h : j < (numB u).length) : iNum (strOfNums ((numB u ++ rest).take j)) 0 = (0, strOfNums [], 2) := by
  rw [List.take_append_of_le_length (by omega), iNum_cut hu h]
theorem num_past (u : Nat) (hu : u < 9223372036854775808) (rest : List Int) (j : Nat) (h : ¬ j < (numB u).length) : iNum (strOfNums ((numB u ++ rest).take j)) 0 = (u, strOfNums (rest.take (j - (numB u).length)), 0) := by
  rw [List.take_append, List.take_of_length_le (by omega), iNum_put _ hu]
theorem bytes_take (p : ByteArray) (n : Nat) : strOfNums ((bytesOf p).take n) = p.extract 0 n := by
  rw [← str_take, str_bytes]
/-- What is read of a message that is cut off. -/
theorem dcut_pure (b t g : Nat) (p : ByteArray) (j : Nat) (hb : b < 9223372036854775808) (ht : t < 9223372036854775808) (hg : g < 9223372036854775808) :
    ∃ n1 n2 n3 b1 b2 b3 e1 e2 e3, iNum (strOfNums ((numB b ++ numB t ++ numB g ++ bytesOf p).take j)) 0 = (n1, b1, e1) ∧ iNum b1 e1 = (n2, b2, e2) ∧ iNum b2 e2 = (n3, b3, e3) ∧
      (j < (numB b).length + (numB t).length + (numB g).length → e3 = 2) ∧
      ((numB b).length + (numB t).length + (numB g).length ≤ j → e3 = 0 ∧ n1 = b ∧ n2 = t ∧ n3 = g ∧ b3 = p.extract 0 (j - ((numB b).length + (numB t).length + (numB g).length))) := by
  rw [List.append_assoc, List.append_assoc]
  by_cases h1 : j < (numB b).length
  · exact ⟨0, 0, 0, _, _, _, 2, 2, 2, num_cut b hb _ j h1, iNum_err (by decide), iNum_err (by decide), fun _ => rfl, fun _ => by omega⟩
  · by_cases h2 : j - (numB b).length < (numB t).length
    · exact ⟨b, 0, 0, _, _, _, 0, 2, 2, num_past b hb _ j h1, num_cut t ht _ _ h2, iNum_err (by decide), fun _ => rfl, fun _ => by omega⟩
    · by_cases h3 : j - (numB b).length - (numB t).length < (numB g).length
      · exact ⟨b, t, 0, _, _, _, 0, 0, 2, num_past b hb _ j h1, num_past t ht _ _ h2, num_cut g hg _ _ h3, fun _ => rfl, fun _ => by omega⟩
      · refine ⟨b, t, g, _, _, _, 0, 0, 0, num_past b hb _ j h1, num_past t ht _ _ h2, num_past g hg _ _ h3, fun _ => by omega, fun _ => ⟨rfl, rfl, rfl, rfl, ?_⟩⟩
        rw [bytes_take]
        congr 1
        omega
set_option maxHeartbeats 8000000 in
set_option maxRecDepth 100000 in
theorem dcut_live (b t g : Int) (p : ByteArray) (k : Nat) (w : World) (hp : p.size ≤ 300) (h1 : 0 ≤ b) (h2 : b < t) (h3 : t ≤ 4611686018427387904) (h4 : 0 ≤ g) (h5 : g ≤ 4611686018427387904) (hk : k ≤ 9223372036854775807) :
    Calls Try.prog 5 #[.int .i64 b, .int .i64 t, .int .i64 g, .string p, .int .i64 (k : Int)] w fun r w' => r = .returned (.bool true) ∧ Below w.heap.size w w' := by
  have hu := Try.underlying47
  have hpi : (p.size : Int) ≤ 300 := by omega
  have hv : dVal b t g p = true := by
    simp [dVal]
    omega
  have HV := Aside0.mk hv
  clear hv
  go_enter Try.func5, Try.ntmps5
  go_wp2_with fail
  refine (alive22 _).mono ?_
  rintro e0 w0 ⟨rfl, hb0⟩
  have HM := Aside0.mk (blk_below (blk_new w (.cells #[.int .i64 b, .int .i64 t, .int .i64 g, .string p] 47)) hb0)
  have HB := Aside0.mk (below_step (below_alloc (Below.refl _ w) (.cells #[.int .i64 b, .int .i64 t, .int .i64 g, .string p] 47)) hb0)
  clear hb0
  have c0 : w0.cell? ⟨w.heap.size, 0, none⟩ = some (.int .i64 b) := (blk_cell HM.out 0).trans rfl
  have c1 : w0.cell? ⟨w.heap.size, 1, none⟩ = some (.int .i64 t) := (blk_cell HM.out 1).trans rfl
  have c2 : w0.cell? ⟨w.heap.size, 2, none⟩ = some (.int .i64 g) := (blk_cell HM.out 2).trans rfl
  have c3 : w0.cell? ⟨w.heap.size, 3, none⟩ = some (.string p) := (blk_cell HM.out 3).trans rfl
  go_wp2_with fail
  clear c0 c1 c2 c3
  refine (lay_ok b t g p _ HV.out).mono ?_
  obtain ⟨x, hx⟩ : ∃ x, x = strOfNums (dLay b t g p) := ⟨_, rfl⟩
  rw [← hx]
  rintro e1 w1 ⟨rfl, hb1⟩
  have HM1 := Aside0.mk (blk_below HM.out hb1)
  have HB1 := Aside0.mk (below_step HB.out hb1)
  clear hb1
  obtain ⟨h, hh⟩ : ∃ h, h = (numB b.toNat).length + (numB t.toNat).length + (numB g.toNat).length := ⟨_, rfl⟩
  have hxs : x.size = h + p.size := by rw [hx, strOfNums_size, hh]; simp [dLay, bytesOf_length]; omega
  have hl1 := numB_len9 (v := b.toNat) (by omega)
  have hl2 := numB_len9 (v := t.toNat) (by omega)
  have hl3 := numB_len9 (v := g.toNat) (by omega)
  have hh27 : h ≤ 27 := by omega
  have hk0 : 0 ≤ (k : Int) % ((x.size : Int) + 1) := Int.emod_nonneg _ (by omega)
  have hk1 : (k : Int) % ((x.size : Int) + 1) < (x.size : Int) + 1 := Int.emod_lt_of_pos _ (by omega)
  have hxb : x.size ≤ 400 := by omega
  have Hx := Aside0.mk hx
  have Hh := Aside0.mk hh
  have Hxs := Aside0.mk hxs
  clear hx hh hxs hl1 hl2 hl3
  go_wp2_with fail
  obtain ⟨j, hj⟩ : ∃ j, j = k % (x.size + 1) := ⟨_, rfl⟩
  have hji : (k : Int) % ((x.size : Int) + 1) = (j : Int) := by rw [hj]; simp
  obtain ⟨n1, n2, n3, b1, b2, b3, e1, e2, e3, r1, r2, r3, q1, q2⟩ := dcut_pure b.toNat t.toNat g.toNat p j (by omega) (by omega) (by omega)
  rw [← hj]
  have hy : x.extract 0 j = strOfNums ((numB b.toNat ++ numB t.toNat ++ numB g.toNat ++ bytesOf p).take j) := by
    rw [Hx.out, str_take]; rfl
  rw [← hy] at r1
  rw [← Hh.out] at q1 q2
  have hys : (x.extract 0 j).size ≤ 1000000 := by simp; omega
  refine (read_calls _ n1 n2 n3 b1 b2 b3 e1 e2 e3 r1 r2 r3 hys _).mono ?_
  rw [hji] at hk0 hk1 ⊢
  have hxp : (x.size : Int) - (p.size : Int) = (h : Int) := by have := Hxs.out; omega
  by_cases hlt : j < h
  · have hltI : (j : Int) < (h : Int) := by omega
    obtain rfl := q1 hlt
    have heq := eq_msg 0 0 0 ⟨#[]⟩
    rw [if_pos (by decide)]
    clear q1 q2 r1 r2 r3 hy hys hj hji
    rintro r2 w2 ⟨rfl, hb2⟩
    have HB2 := Aside0.mk (below_step HB1.out hb2)
    clear hb2
    go_wp2
    go_ret
    exact ⟨rfl, below_alloc HB2.out _⟩
  · have hltI : ¬ (j : Int) < (h : Int) := by omega
    obtain ⟨rfl, rfl, rfl, rfl, rfl⟩ := q2 (by omega)
    obtain ⟨d, hd⟩ : ∃ d : Nat, d = j - h := ⟨_, rfl⟩
    have hdI : (j : Int) - (h : Int) = (d : Int) := by omega
    have hdp : d ≤ p.size := by have := Hxs.out; omega
    have hdp1 : (d : Int) ≤ (p.size : Int) := by omega
    have hdp0 : (0 : Int) ≤ (d : Int) := by omega
    rw [← hd]
    rw [if_neg (by decide), if_pos (by simp [dVal]; omega)]
    rw [Int.toNat_of_nonneg (show 0 ≤ b by omega), Int.toNat_of_nonneg (show 0 ≤ t by omega), Int.toNat_of_nonneg (show 0 ≤ g by omega)]
    have heq := eq_msg b t g (p.extract 0 d)
    clear q1 q2 r1 r2 r3 hy hys hj hji hd
    rintro r2 w2 ⟨rfl, hb2⟩
    have hlt2 : w.heap.size < w2.heap.size := blk_lt (blk_below HM1.out hb2)
    have hne2 : w2.heap.size ≠ w.heap.size := by omega
    have HM2 := Aside0.mk (blk_below HM1.out hb2)
    have HB2 := Aside0.mk (below_step HB1.out hb2)
    clear hb2
    have c0 : w2.cell? ⟨w.heap.size, 0, none⟩ = some (.int .i64 b) := (blk_cell HM2.out 0).trans rfl
    have c1 : w2.cell? ⟨w.heap.size, 1, none⟩ = some (.int .i64 t) := (blk_cell HM2.out 1).trans rfl
    have c2 : w2.cell? ⟨w.heap.size, 2, none⟩ = some (.int .i64 g) := (blk_cell HM2.out 2).trans rfl
    have c3 : w2.cell? ⟨w.heap.size, 3, none⟩ = some (.string p) := (blk_cell HM2.out 3).trans rfl
    have f3 := blk_frozen HM2.out 3
    go_wp2
    go_ret
    exact ⟨rfl, below_alloc (below_set HB2.out (Nat.le_refl _)) _⟩
set_option maxHeartbeats 4000000 in
set_option maxRecDepth 100000 in
theorem dcut_dead (b t g : Int) (p : ByteArray) (k : Int) (w : World) (h : 300 < (p.size : Int) ∨ b < 0 ∨ t ≤ b ∨ 4611686018427387904 < t ∨ g < 0 ∨ 4611686018427387904 < g ∨ k < 0) :
    Calls Try.prog 5 #[.int .i64 b, .int .i64 t, .int .i64 g, .string p, .int .i64 k] w fun r w' => r = .returned (.bool true) ∧ Below w.heap.size w w' := by
  by_cases g0 : 300 < (p.size : Int)
  · clear h
    go_enter Try.func5, Try.ntmps5
    go_wp2_with (go_at_call 16; refine (alive22 _).mono ?_; rintro e1 w1 ⟨rfl, hb⟩)
    go_ret
    exact ⟨rfl, below_step (below_alloc (Below.refl _ w) _) hb⟩
  · skip
    by_cases g1 : b < 0
    · clear h
      go_enter Try.func5, Try.ntmps5
      go_wp2_with (go_at_call 16; refine (alive22 _).mono ?_; rintro e1 w1 ⟨rfl, hb⟩)
      go_ret
      exact ⟨rfl, below_step (below_alloc (Below.refl _ w) _) hb⟩
    · skip
      by_cases g2 : t ≤ b
      · clear h
        go_enter Try.func5, Try.ntmps5
        go_wp2_with (go_at_call 16; refine (alive22 _).mono ?_; rintro e1 w1 ⟨rfl, hb⟩)
        go_ret
        exact ⟨rfl, below_step (below_alloc (Below.refl _ w) _) hb⟩
      · skip
        by_cases g3 : 4611686018427387904 < t
        · clear h
          go_enter Try.func5, Try.ntmps5
          go_wp2_with (go_at_call 16; refine (alive22 _).mono ?_; rintro e1 w1 ⟨rfl, hb⟩)
          go_ret
          exact ⟨rfl, below_step (below_alloc (Below.refl _ w) _) hb⟩
        · skip
          by_cases g4 : g < 0
          · clear h
            go_enter Try.func5, Try.ntmps5
            go_wp2_with (go_at_call 16; refine (alive22 _).mono ?_; rintro e1 w1 ⟨rfl, hb⟩)
            go_ret
            exact ⟨rfl, below_step (below_alloc (Below.refl _ w) _) hb⟩
          · skip
            by_cases g5 : 4611686018427387904 < g
            · clear h
              go_enter Try.func5, Try.ntmps5
              go_wp2_with (go_at_call 16; refine (alive22 _).mono ?_; rintro e1 w1 ⟨rfl, hb⟩)
              go_ret
              exact ⟨rfl, below_step (below_alloc (Below.refl _ w) _) hb⟩
            · skip
              have g6 : k < 0 := by omega
              clear h
              go_enter Try.func5, Try.ntmps5
              go_wp2_with (go_at_call 16; refine (alive22 _).mono ?_; rintro e1 w1 ⟨rfl, hb⟩)
              go_ret
              exact ⟨rfl, below_step (below_alloc (Below.refl _ w) _) hb⟩
theorem dcut_walk (b t g : Int) (p : ByteArray) (k : Int) (w : World) (_w0 : (Lit.int .i64 b).wf = true) (_w1 : (Lit.int .i64 t).wf = true) (_w2 : (Lit.int .i64 g).wf = true) (_w3 : p.size ≤ 140737488351232) (w4 : (Lit.int .i64 k).wf = true) :
    Calls Try.prog 5 #[.int .i64 b, .int .i64 t, .int .i64 g, .string p, .int .i64 k] w fun r w' => r = .returned (.bool true) ∧ Below w.heap.size w w' := by
  by_cases h : 300 < (p.size : Int) ∨ b < 0 ∨ t ≤ b ∨ 4611686018427387904 < t ∨ g < 0 ∨ 4611686018427387904 < g ∨ k < 0
  · exact dcut_dead b t g p k w h
  · have hb := (Go.bounds_i64 w4).2
    obtain ⟨K, rfl⟩ := Int.eq_ofNat_of_zero_le (show 0 ≤ k by omega)
    exact dcut_live b t g p K w (by omega) (by omega) (by omega) (by omega) (by omega) (by omega) (by omega)
end Go.Proofs.Ytjjjinpmflghmaa.Obj
