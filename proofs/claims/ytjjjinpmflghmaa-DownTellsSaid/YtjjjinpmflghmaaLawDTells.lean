/- The walk of DownTells: every message's bytes, or the error; every bytes' message. Conditions: those in each theorem. -/
import Derived.Test.YtjjjinpmflghmaaDownR
import Derived.Test.YtjjjinpmflghmaaLawDCut
import Derived.OpenShut
namespace Go.Proofs.Ytjjjinpmflghmaa.Obj
open Go.RowKit Go.Proofs.YtjjjinpmflghmaaW.PrintWords Go.Proofs.YtjjjinpmflghmaaW.PrintMore
set_option linter.unusedVariables false
set_option linter.unusedSimpArgs false
set_option maxHeartbeats 4000000 in
set_option maxRecDepth 100000 in
theorem lay_bad (b t g : Int) (p : ByteArray) (w : World) (hv : dVal b t g p = false) :
    Calls Try.prog 17 #[.agg #[.int .i64 b, .int .i64 t, .int .i64 g, .string p]] w fun e w' => e = .returned (.tuple #[.string ⟨#[]⟩, .int .i64 1]) ∧ Below w.heap.size w w' := by
  have hu := Try.underlying47
  go_enter Try.func17, Try.ntmps17
  go_wp2_with fail
  refine (valid_calls b t g p _).mono ?_
  rw [hv]
  rintro e0 w0 ⟨rfl, hb0⟩
  have HB0 := Aside0.mk (below_step (below_alloc (Below.refl _ w) (.cells #[.int .i64 b, .int .i64 t, .int .i64 g, .string p] 47)) hb0)
  clear hb0
  go_wp2
  go_ret2
  exact ⟨rfl, HB0.out⟩
theorem read_both (y : ByteArray) (hy : y.size ≤ 1000000) : ∃ (m1 m2 m3 : Int) (q : ByteArray) (e : Int),
    (∀ w, Calls Try.prog 21 #[.string y] w fun r w' => r = .returned (.tuple #[.agg #[.int .i64 m1, .int .i64 m2, .int .i64 m3, .string q], .int .i64 e]) ∧ Below w.heap.size w w') ∧
    (∀ w, Calls Try.prog 22 #[.string y] w fun r w' => r = .returned (.tuple #[.agg #[.int .i64 m1, .int .i64 m2, .int .i64 m3, .string q], .int .i64 e]) ∧ Below w.heap.size w w') := by
  obtain ⟨n1, b1, e1, c1⟩ : ∃ n b e, iNum y 0 = (n, b, e) := ⟨_, _, _, rfl⟩
  obtain ⟨n2, b2, e2, c2⟩ : ∃ n b e, iNum b1 e1 = (n, b, e) := ⟨_, _, _, rfl⟩
  obtain ⟨n3, b3, e3, c3⟩ : ∃ n b e, iNum b2 e2 = (n, b, e) := ⟨_, _, _, rfl⟩
  have h1 := read_calls y n1 n2 n3 b1 b2 b3 e1 e2 e3 c1 c2 c3 hy
  have h2 := readref_calls y n1 n2 n3 b1 b2 b3 e1 e2 e3 c1 c2 c3 hy
  by_cases he : e3 ≠ 0
  · simp only [if_pos he] at h1 h2
    exact ⟨_, _, _, _, _, h1, h2⟩
  · simp only [if_neg he] at h1 h2
    by_cases hv : dVal n1 n2 n3 b3 = true
    · simp only [if_pos hv] at h1 h2
      exact ⟨_, _, _, _, _, h1, h2⟩
    · simp only [if_neg hv] at h1 h2
      exact ⟨_, _, _, _, _, h1, h2⟩
theorem neq_msg (x0 x1 x2 : Int) (x3 : ByteArray) (w : World) : (binOp .neq 47 (.agg #[.int .i64 x0, .int .i64 x1, .int .i64 x2, .string x3]) (.agg #[.int .i64 x0, .int .i64 x1, .int .i64 x2, .string x3])).run Try.prog w = .ok (.bool false) w := by
  rw [run_neq_struct, show (10000 : Nat) = 9998 + 2 from rfl, eqA_msg]
  simp [Result.andThen]
/-- A message that was laid is read as it was. -/
theorem read_full (b t g : Int) (p : ByteArray) (hv : dVal b t g p = true) (w : World) :
    Calls Try.prog 21 #[.string (strOfNums (dLay b t g p))] w fun r w' => r = .returned (.tuple #[.agg #[.int .i64 b, .int .i64 t, .int .i64 g, .string p], .int .i64 0]) ∧ Below w.heap.size w w' := by
  have hv' := hv
  simp only [dVal, Bool.and_eq_true, decide_eq_true_eq] at hv'
  obtain ⟨⟨⟨⟨⟨⟨h1, h2⟩, h3⟩, h4⟩, h5⟩, _⟩, h6⟩ := hv'
  have hl1 := numB_len9 (v := b.toNat) (by omega)
  have hl2 := numB_len9 (v := t.toNat) (by omega)
  have hl3 := numB_len9 (v := g.toNat) (by omega)
  obtain ⟨n1, n2, n3, b1, b2, b3, e1, e2, e3, r1, r2, r3, q1, q2⟩ := dcut_pure b.toNat t.toNat g.toNat p ((numB b.toNat).length + (numB t.toNat).length + (numB g.toNat).length + p.size) (by omega) (by omega) (by omega)
  rw [List.take_of_length_le (by simp [bytesOf_length]; omega)] at r1
  obtain ⟨rfl, rfl, rfl, rfl, rfl⟩ := q2 (by omega)
  have hx : p.extract 0 ((numB b.toNat).length + (numB t.toNat).length + (numB g.toNat).length + p.size - ((numB b.toNat).length + (numB t.toNat).length + (numB g.toNat).length)) = p := by
    rw [Nat.add_sub_cancel_left, ← bytes_take, List.take_of_length_le (by rw [bytesOf_length]; exact Nat.le_refl _), str_bytes]
  rw [hx] at r3
  have hs : (strOfNums (dLay b t g p)).size ≤ 1000000 := by rw [strOfNums_size]; simp [dLay, bytesOf_length]; omega
  have := read_calls (strOfNums (dLay b t g p)) _ _ _ _ _ _ _ _ _ r1 r2 r3 hs w
  rw [Int.toNat_of_nonneg h1, Int.toNat_of_nonneg (show 0 ≤ t by omega), Int.toNat_of_nonneg h4, if_neg (by decide), if_pos hv] at this
  exact this
theorem numB_pos (v : Nat) : 1 ≤ (numB v).length := by
  by_cases h : v < 128
  · rw [numB_small h]; simp
  · rw [numB_great h]; simp
set_option maxHeartbeats 8000000 in
set_option maxRecDepth 100000 in
theorem dtells_live (b t g : Int) (p y : ByteArray) (w : World) (hp : p.size ≤ 600) (hy : y.size ≤ 600) :
    Calls Try.prog 4 #[.int .i64 b, .int .i64 t, .int .i64 g, .string p, .string y] w fun r w' => r = .returned (.bool true) ∧ Below w.heap.size w w' := by
  have hu := Try.underlying47
  have hu2 := Try.underlying48
  have hpi : (p.size : Int) ≤ 600 := by omega
  have hyi : (y.size : Int) ≤ 600 := by omega
  go_enter Try.func4, Try.ntmps4
  go_wp2_with fail
  refine (alive22 _).mono ?_
  rintro e0 w0 ⟨rfl, hb0⟩
  have HB := Aside0.mk hb0
  clear hb0
  go_wp2_with fail
  obtain ⟨gm, hgm⟩ : ∃ x, x = w0.heap.size := ⟨_, rfl⟩
  obtain ⟨gr, hgr⟩ : ∃ x, x = w0.heap.size + 1 := ⟨_, rfl⟩
  have HM := Aside0.mk (blk_alloc (blk_new w0 (.cells #[.int .i64 b, .int .i64 t, .int .i64 g, .string p] 47)) (.cells #[.int .i64 b, .int .i64 t, .int .i64 g, .string p] 48))
  have HR := Aside0.mk (blk_new (w0.alloc (.cells #[.int .i64 b, .int .i64 t, .int .i64 g, .string p] 47)) (.cells #[.int .i64 b, .int .i64 t, .int .i64 g, .string p] 48))
  have HB := Aside0.mk (below_alloc (below_alloc HB.out (.cells #[.int .i64 b, .int .i64 t, .int .i64 g, .string p] 47)) (.cells #[.int .i64 b, .int .i64 t, .int .i64 g, .string p] 48))
  rw [World.size_alloc, ← hgr] at HR
  rw [← hgm] at HM
  rw [← hgr, ← hgm]
  clear hgm hgr
  by_cases hv : dVal b t g p = true
  · have HV := Aside0.mk hv
    clear hv
    refine (lay_ok b t g p _ HV.out).mono ?_
    obtain ⟨x, hx⟩ : ∃ x, x = strOfNums (dLay b t g p) := ⟨_, rfl⟩
    have Hx := Aside0.mk hx
    rw [← hx]
    clear hx
    rintro e1 w1 ⟨rfl, hb⟩
    have HM := Aside0.mk (blk_below HM.out hb)
    have HR := Aside0.mk (blk_below HR.out hb)
    have HB := Aside0.mk (below_step HB.out hb)
    clear hb
    have r0 : w1.cell? ⟨gr, 0, none⟩ = some (.int .i64 b) := (blk_cell HR.out 0).trans rfl
    have r1 : w1.cell? ⟨gr, 1, none⟩ = some (.int .i64 t) := (blk_cell HR.out 1).trans rfl
    have r2 : w1.cell? ⟨gr, 2, none⟩ = some (.int .i64 g) := (blk_cell HR.out 2).trans rfl
    have r3 : w1.cell? ⟨gr, 3, none⟩ = some (.string p) := (blk_cell HR.out 3).trans rfl
    go_wp2_with fail
    refine (validref_calls b t g p _).mono ?_
    rw [HV.out]
    rintro e2 w2 ⟨rfl, hb⟩
    have HM := Aside0.mk (blk_below HM.out hb)
    have HR := Aside0.mk (blk_below HR.out hb)
    have HB := Aside0.mk (below_step HB.out hb)
    clear hb r0 r1 r2 r3
    have r0 : w2.cell? ⟨gr, 0, none⟩ = some (.int .i64 b) := (blk_cell HR.out 0).trans rfl
    have r1 : w2.cell? ⟨gr, 1, none⟩ = some (.int .i64 t) := (blk_cell HR.out 1).trans rfl
    have r2 : w2.cell? ⟨gr, 2, none⟩ = some (.int .i64 g) := (blk_cell HR.out 2).trans rfl
    have r3 : w2.cell? ⟨gr, 3, none⟩ = some (.string p) := (blk_cell HR.out 3).trans rfl
    have c0 : w2.cell? ⟨gm, 0, none⟩ = some (.int .i64 b) := (blk_cell HM.out 0).trans rfl
    have c1 : w2.cell? ⟨gm, 1, none⟩ = some (.int .i64 t) := (blk_cell HM.out 1).trans rfl
    have c2 : w2.cell? ⟨gm, 2, none⟩ = some (.int .i64 g) := (blk_cell HM.out 2).trans rfl
    have c3 : w2.cell? ⟨gm, 3, none⟩ = some (.string p) := (blk_cell HM.out 3).trans rfl
    go_wp2_with fail
    refine (valid_calls b t g p _).mono ?_
    rw [HV.out]
    rintro e3 w3 ⟨rfl, hb⟩
    have HM := Aside0.mk (blk_below HM.out hb)
    have HR := Aside0.mk (blk_below HR.out hb)
    have HB := Aside0.mk (below_step HB.out hb)
    clear hb r0 r1 r2 r3 c0 c1 c2 c3
    have r0 : w3.cell? ⟨gr, 0, none⟩ = some (.int .i64 b) := (blk_cell HR.out 0).trans rfl
    have r1 : w3.cell? ⟨gr, 1, none⟩ = some (.int .i64 t) := (blk_cell HR.out 1).trans rfl
    have r2 : w3.cell? ⟨gr, 2, none⟩ = some (.int .i64 g) := (blk_cell HR.out 2).trans rfl
    have r3 : w3.cell? ⟨gr, 3, none⟩ = some (.string p) := (blk_cell HR.out 3).trans rfl
    go_wp2_with fail
    refine (layref_calls b t g p _ HV.out).mono ?_
    rw [← Hx.out]
    rintro e4 w4 ⟨rfl, hb⟩
    have HM := Aside0.mk (blk_below HM.out hb)
    have HR := Aside0.mk (blk_below HR.out hb)
    have HB := Aside0.mk (below_step HB.out hb)
    clear hb r0 r1 r2 r3
    obtain ⟨m1, m2, m3, q, e, hr1, hr2⟩ := read_both y (by omega)
    go_wp2_with fail
    refine (hr1 _).mono ?_
    rintro e5 w5 ⟨rfl, hb⟩
    have HM := Aside0.mk (blk_below HM.out hb)
    have HR := Aside0.mk (blk_below HR.out hb)
    have HB := Aside0.mk (below_step HB.out hb)
    clear hb hr1
    go_wp2_with fail
    have HX := Aside0.mk (blk_new w5 (.cells #[.int .i64 m1, .int .i64 m2, .int .i64 m3, .string q] 47))
    obtain ⟨gx, hgx⟩ : ∃ z, z = w5.heap.size := ⟨_, rfl⟩
    have HM := Aside0.mk (blk_alloc HM.out (.cells #[.int .i64 m1, .int .i64 m2, .int .i64 m3, .string q] 47))
    have HB := Aside0.mk (below_alloc HB.out (.cells #[.int .i64 m1, .int .i64 m2, .int .i64 m3, .string q] 47))
    rw [← hgx] at HX ⊢
    clear HR hgx
    refine (hr2 _).mono ?_
    rintro e6 w6 ⟨rfl, hb⟩
    have HM := Aside0.mk (blk_below HM.out hb)
    have HX := Aside0.mk (blk_below HX.out hb)
    have HB := Aside0.mk (below_step HB.out hb)
    have hlx : gx < w6.heap.size := blk_lt HX.out
    have hlm : gm < w6.heap.size := blk_lt HM.out
    clear hb hr2
    have x0 : w6.cell? ⟨gx, 0, none⟩ = some (.int .i64 m1) := (blk_cell HX.out 0).trans rfl
    have x1 : w6.cell? ⟨gx, 1, none⟩ = some (.int .i64 m2) := (blk_cell HX.out 1).trans rfl
    have x2 : w6.cell? ⟨gx, 2, none⟩ = some (.int .i64 m3) := (blk_cell HX.out 2).trans rfl
    have x3 : w6.cell? ⟨gx, 3, none⟩ = some (.string q) := (blk_cell HX.out 3).trans rfl
    have c0 : w6.cell? ⟨gm, 0, none⟩ = some (.int .i64 b) := (blk_cell HM.out 0).trans rfl
    have c1 : w6.cell? ⟨gm, 1, none⟩ = some (.int .i64 t) := (blk_cell HM.out 1).trans rfl
    have c2 : w6.cell? ⟨gm, 2, none⟩ = some (.int .i64 g) := (blk_cell HM.out 2).trans rfl
    have c3 : w6.cell? ⟨gm, 3, none⟩ = some (.string p) := (blk_cell HM.out 3).trans rfl
    have hneq := neq_msg m1 m2 m3 q
    have HM := Aside0.mk (blk_alloc HM.out (.cells #[.int .i64 m1, .int .i64 m2, .int .i64 m3, .string q] 48))
    have HB := Aside0.mk (below_alloc HB.out (.cells #[.int .i64 m1, .int .i64 m2, .int .i64 m3, .string q] 48))
    go_wp2_with fail
    have hrf := read_full b t g p HV.out
    rw [← Hx.out] at hrf
    clear c0 c1 c2 c3 x0 x1 x2 x3 hneq
    refine (hrf _).mono ?_
    rintro e8 w8 ⟨rfl, hb⟩
    have HM := Aside0.mk (blk_below HM.out hb)
    have HB := Aside0.mk (below_step HB.out hb)
    clear hb hrf
    have hlm8 : gm < w8.heap.size := blk_lt HM.out
    have c0 : w8.cell? ⟨gm, 0, none⟩ = some (.int .i64 b) := (blk_cell HM.out 0).trans rfl
    have c1 : w8.cell? ⟨gm, 1, none⟩ = some (.int .i64 t) := (blk_cell HM.out 1).trans rfl
    have c2 : w8.cell? ⟨gm, 2, none⟩ = some (.int .i64 g) := (blk_cell HM.out 2).trans rfl
    have c3 : w8.cell? ⟨gm, 3, none⟩ = some (.string p) := (blk_cell HM.out 3).trans rfl
    have heq := eq_msg b t g p
    have hv' := HV.out
    simp only [dVal, Bool.and_eq_true, decide_eq_true_eq] at hv'
    obtain ⟨⟨⟨⟨⟨⟨h1, h2⟩, h3⟩, h4⟩, h5⟩, _⟩, h6⟩ := hv'
    have hrn := refnum_calls g.toNat (by omega)
    rw [Int.toNat_of_nonneg h4] at hrn
    obtain ⟨s3, hs3⟩ : ∃ z, z = strOfNums (numB g.toNat) := ⟨_, rfl⟩
    rw [← hs3] at hrn
    have hl1 := numB_len9 (v := b.toNat) (by omega)
    have hl2 := numB_len9 (v := t.toNat) (by omega)
    have hl3 := numB_len9 (v := g.toNat) (by omega)
    have hp1 := numB_pos b.toNat
    have hp2 := numB_pos t.toNat
    have hs3s : s3.size = (numB g.toNat).length := by rw [hs3, strOfNums_size]
    have hxs : x.size = (numB b.toNat).length + (numB t.toNat).length + (numB g.toNat).length + p.size := by rw [Hx.out, strOfNums_size]; simp [dLay, bytesOf_length]; omega
    have hge : (p.size : Int) + (s3.size : Int) + 2 ≤ (x.size : Int) := by omega
    have hs9 : s3.size ≤ 9 := by omega
    have HB := Aside0.mk (below_alloc HB.out (.cells #[.int .i64 b, .int .i64 t, .int .i64 g, .string p] 47))
    clear hs3 hs3s hxs hl1 hl2 hl3 hp1 hp2 h1 h2 h3 h4 h5 h6
    go_wp2_with fail
    refine (hrn _).mono ?_
    rintro e9 w9 ⟨rfl, hb⟩
    have HB := Aside0.mk (below_step HB.out hb)
    clear hb hrn c0 c1 c2 c3
    go_wp2
    go_ret
    exact ⟨rfl, HB.out⟩
  · have hv2 : dVal b t g p = false := by simpa using hv
    have HV := Aside0.mk hv2
    clear hv hv2
    refine (lay_bad b t g p _ HV.out).mono ?_
    rintro e1 w1 ⟨rfl, hb⟩
    have HM := Aside0.mk (blk_below HM.out hb)
    have HR := Aside0.mk (blk_below HR.out hb)
    have HB := Aside0.mk (below_step HB.out hb)
    clear hb
    have r0 : w1.cell? ⟨gr, 0, none⟩ = some (.int .i64 b) := (blk_cell HR.out 0).trans rfl
    have r1 : w1.cell? ⟨gr, 1, none⟩ = some (.int .i64 t) := (blk_cell HR.out 1).trans rfl
    have r2 : w1.cell? ⟨gr, 2, none⟩ = some (.int .i64 g) := (blk_cell HR.out 2).trans rfl
    have r3 : w1.cell? ⟨gr, 3, none⟩ = some (.string p) := (blk_cell HR.out 3).trans rfl
    go_wp2_with fail
    refine (validref_calls b t g p _).mono ?_
    rw [HV.out]
    rintro e2 w2 ⟨rfl, hb⟩
    have HM := Aside0.mk (blk_below HM.out hb)
    have HR := Aside0.mk (blk_below HR.out hb)
    have HB := Aside0.mk (below_step HB.out hb)
    clear hb r0 r1 r2 r3
    have r0 : w2.cell? ⟨gr, 0, none⟩ = some (.int .i64 b) := (blk_cell HR.out 0).trans rfl
    have r1 : w2.cell? ⟨gr, 1, none⟩ = some (.int .i64 t) := (blk_cell HR.out 1).trans rfl
    have r2 : w2.cell? ⟨gr, 2, none⟩ = some (.int .i64 g) := (blk_cell HR.out 2).trans rfl
    have r3 : w2.cell? ⟨gr, 3, none⟩ = some (.string p) := (blk_cell HR.out 3).trans rfl
    have c0 : w2.cell? ⟨gm, 0, none⟩ = some (.int .i64 b) := (blk_cell HM.out 0).trans rfl
    have c1 : w2.cell? ⟨gm, 1, none⟩ = some (.int .i64 t) := (blk_cell HM.out 1).trans rfl
    have c2 : w2.cell? ⟨gm, 2, none⟩ = some (.int .i64 g) := (blk_cell HM.out 2).trans rfl
    have c3 : w2.cell? ⟨gm, 3, none⟩ = some (.string p) := (blk_cell HM.out 3).trans rfl
    go_wp2_with fail
    refine (valid_calls b t g p _).mono ?_
    rw [HV.out]
    rintro e3 w3 ⟨rfl, hb⟩
    have HM := Aside0.mk (blk_below HM.out hb)
    have HR := Aside0.mk (blk_below HR.out hb)
    have HB := Aside0.mk (below_step HB.out hb)
    clear hb r0 r1 r2 r3 c0 c1 c2 c3
    obtain ⟨m1, m2, m3, q, e, hr1, hr2⟩ := read_both y (by omega)
    go_wp2_with fail
    refine (hr1 _).mono ?_
    rintro e5 w5 ⟨rfl, hb⟩
    have HM := Aside0.mk (blk_below HM.out hb)
    have HR := Aside0.mk (blk_below HR.out hb)
    have HB := Aside0.mk (below_step HB.out hb)
    clear hb hr1
    go_wp2_with fail
    have HX := Aside0.mk (blk_new w5 (.cells #[.int .i64 m1, .int .i64 m2, .int .i64 m3, .string q] 47))
    obtain ⟨gx, hgx⟩ : ∃ z, z = w5.heap.size := ⟨_, rfl⟩
    have HM := Aside0.mk (blk_alloc HM.out (.cells #[.int .i64 m1, .int .i64 m2, .int .i64 m3, .string q] 47))
    have HB := Aside0.mk (below_alloc HB.out (.cells #[.int .i64 m1, .int .i64 m2, .int .i64 m3, .string q] 47))
    rw [← hgx] at HX ⊢
    clear HR hgx
    refine (hr2 _).mono ?_
    rintro e6 w6 ⟨rfl, hb⟩
    have HM := Aside0.mk (blk_below HM.out hb)
    have HX := Aside0.mk (blk_below HX.out hb)
    have HB := Aside0.mk (below_step HB.out hb)
    have hlx : gx < w6.heap.size := blk_lt HX.out
    have hlm : gm < w6.heap.size := blk_lt HM.out
    clear hb hr2
    have x0 : w6.cell? ⟨gx, 0, none⟩ = some (.int .i64 m1) := (blk_cell HX.out 0).trans rfl
    have x1 : w6.cell? ⟨gx, 1, none⟩ = some (.int .i64 m2) := (blk_cell HX.out 1).trans rfl
    have x2 : w6.cell? ⟨gx, 2, none⟩ = some (.int .i64 m3) := (blk_cell HX.out 2).trans rfl
    have x3 : w6.cell? ⟨gx, 3, none⟩ = some (.string q) := (blk_cell HX.out 3).trans rfl
    have c0 : w6.cell? ⟨gm, 0, none⟩ = some (.int .i64 b) := (blk_cell HM.out 0).trans rfl
    have c1 : w6.cell? ⟨gm, 1, none⟩ = some (.int .i64 t) := (blk_cell HM.out 1).trans rfl
    have c2 : w6.cell? ⟨gm, 2, none⟩ = some (.int .i64 g) := (blk_cell HM.out 2).trans rfl
    have c3 : w6.cell? ⟨gm, 3, none⟩ = some (.string p) := (blk_cell HM.out 3).trans rfl
    have hneq := neq_msg m1 m2 m3 q
    have HM := Aside0.mk (blk_alloc HM.out (.cells #[.int .i64 m1, .int .i64 m2, .int .i64 m3, .string q] 48))
    have HB := Aside0.mk (below_alloc HB.out (.cells #[.int .i64 m1, .int .i64 m2, .int .i64 m3, .string q] 48))
    go_wp2
    go_ret
    exact ⟨rfl, HB.out⟩
set_option maxHeartbeats 4000000 in
set_option maxRecDepth 100000 in
theorem dtells_dead (b t g : Int) (p y : ByteArray) (w : World) (h : 600 < (p.size : Int) ∨ 600 < (y.size : Int)) :
    Calls Try.prog 4 #[.int .i64 b, .int .i64 t, .int .i64 g, .string p, .string y] w fun r w' => r = .returned (.bool true) ∧ Below w.heap.size w w' := by
  by_cases g0 : 600 < (p.size : Int)
  · clear h
    go_enter Try.func4, Try.ntmps4
    go_wp2_with (go_at_call 16; refine (alive22 _).mono ?_; rintro e1 w1 ⟨rfl, hb⟩)
    go_ret
    exact ⟨rfl, hb⟩
  · skip
    have g1 : 600 < (y.size : Int) := by omega
    clear h
    go_enter Try.func4, Try.ntmps4
    go_wp2_with (go_at_call 16; refine (alive22 _).mono ?_; rintro e1 w1 ⟨rfl, hb⟩)
    go_ret
    exact ⟨rfl, hb⟩
theorem dtells_walk (b t g : Int) (p y : ByteArray) (w : World) (_w0 : (Lit.int .i64 b).wf = true) (_w1 : (Lit.int .i64 t).wf = true) (_w2 : (Lit.int .i64 g).wf = true) (_w3 : p.size ≤ 140737488351232) (_w4 : y.size ≤ 140737488351232) :
    Calls Try.prog 4 #[.int .i64 b, .int .i64 t, .int .i64 g, .string p, .string y] w fun r w' => r = .returned (.bool true) ∧ Below w.heap.size w w' := by
  by_cases h : 600 < (p.size : Int) ∨ 600 < (y.size : Int)
  · exact dtells_dead b t g p y w h
  · exact dtells_live b t g p y w (by omega) (by omega)
end Go.Proofs.Ytjjjinpmflghmaa.Obj
