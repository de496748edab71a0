/- The walk of CellBack: a cell is read as it was laid, whatever stands behind it. Conditions: those in each theorem. -/
import Derived.Test.YtcmmdllnbijipaaCellB
import Derived.Test.YtcmmdllnbijipaaWEqStruct
import Derived.OpenShut
namespace Go.Proofs.Ytcmmdllnbijipaa.Obj
open Go.RowKit Go.Proofs.YtcmmdllnbijipaaW.PrintWords Go.Proofs.YtcmmdllnbijipaaW.PrintMore Go.Proofs.YtcmmdllnbijipaaW.PrintLast Go.Proofs.Ytcmmdllnbijipaa.PCellBack
set_option linter.unusedVariables false
set_option linter.unusedSimpArgs false

theorem alive14 (w : World) : Calls Try.prog 21 #[] w fun r w' => r = .returned (.bool true) ∧ Below w.heap.size w w' :=
  pontoonlaw14_alive.calls 50 true w (by decide +kernel)
theorem cva_calls (f g : Int) (x y z : Bool) (w : World) :
    Calls Try.prog 20 #[.agg #[.int .i64 f, .int .i64 g, .bool x, .bool y, .bool z]] w fun e w' => e = .returned (.bool (aVal f g)) ∧ Below w.heap.size w w' := by
  refine pontoonref12_ValidAttr.calls f g x y z _ w ?_
  unfold pontoonref12_ValidAttr.f aVal
  by_cases h1 : 0 ≤ f
  · by_cases h2 : f ≤ 16
    · by_cases h3 : 0 ≤ g
      · simp [h1, h2, h3]
      · simp [h1, h2, h3]
    · simp [h1, h2]
  · simp [h1]
theorem eqA_attr (d : Nat) (w : World) (x0 y0 : Int) (x1 y1 : Int) (x2 y2 : Bool) (x3 y3 : Bool) (x4 y4 : Bool) :
    (Op.equalIn (d + 2) 23 (.agg #[.int .i64 x0, .int .i64 x1, .bool x2, .bool x3, .bool x4]) (.agg #[.int .i64 y0, .int .i64 y1, .bool y2, .bool y3, .bool y4])).run Try.prog w = .ok (x0 == y0 && (x1 == y1 && (x2 == y2 && (x3 == y3 && (x4 == y4))))) w := by
  refine eqA_of Try.underlying23 (by kernel_rfl) ?_
  refine eqf_cons (by rfl) (by go_simp; rfl) (by go_simp; rfl) (by go_simp) ?_
  refine eqf_cons (by rfl) (by go_simp; rfl) (by go_simp; rfl) (by go_simp) ?_
  refine eqf_cons (by rfl) (by go_simp; rfl) (by go_simp; rfl) (by go_simp) ?_
  refine eqf_cons (by rfl) (by go_simp; rfl) (by go_simp; rfl) (by go_simp) ?_
  exact eqf_last (by rfl) (by go_simp; rfl) (by go_simp; rfl) (by go_simp)
theorem eqA_cell (d : Nat) (w : World) (r : Int) (x0 : Int) (x1 : Int) (x2 : Bool) (x3 : Bool) (x4 : Bool) :
    (Op.equalIn (d + 3) 25 (.agg #[.int .i32 r, .int .i64 x0, .int .i64 x1, .bool x2, .bool x3, .bool x4]) (.agg #[.int .i32 r, .int .i64 x0, .int .i64 x1, .bool x2, .bool x3, .bool x4])).run Try.prog w = .ok true w := by
  have hua := Try.underlying23
  refine eqA_of Try.underlying25 (by kernel_rfl) ?_
  have h1 := eqf_last (P := Try.prog) (d := d + 2) (xs := #[.int .i32 r, .int .i64 x0, .int .i64 x1, .bool x2, .bool x3, .bool x4]) (ys := #[.int .i32 r, .int .i64 x0, .int .i64 x1, .bool x2, .bool x3, .bool x4]) (f := { name := "Attr", type := 23, offset := 1, embedded := false, tag := "", pkgPath := "", byteOffset := 8 }) (a := .agg #[.int .i64 x0, .int .i64 x1, .bool x2, .bool x3, .bool x4]) (b := .agg #[.int .i64 x0, .int .i64 x1, .bool x2, .bool x3, .bool x4]) (r := true) (w := w) (by rfl) (by go_simp) (by go_simp) (by rw [eqA_attr]; simp)
  have h2 := eqf_cons (P := Try.prog) (d := d + 2) (f := { name := "Rune", type := 21, offset := 0, embedded := false, tag := "", pkgPath := "", byteOffset := 0 }) (a := .int .i32 r) (b := .int .i32 r) (r := true) (by rfl) (by go_simp) (by go_simp) (by go_simp) h1
  exact h2
theorem eq_cell (r : Int) (x0 : Int) (x1 : Int) (x2 : Bool) (x3 : Bool) (x4 : Bool) (w : World) : (binOp .eql 25 (.agg #[.int .i32 r, .int .i64 x0, .int .i64 x1, .bool x2, .bool x3, .bool x4]) (.agg #[.int .i32 r, .int .i64 x0, .int .i64 x1, .bool x2, .bool x3, .bool x4])).run Try.prog w = .ok (.bool true) w := by
  rw [run_eql_struct, show (10000 : Nat) = 9997 + 3 from rfl, eqA_cell]
  simp [Result.andThen]
set_option maxHeartbeats 8000000 in
set_option maxRecDepth 100000 in
theorem cback_live (r f g : Nat) (x y z : Bool) (m : ByteArray) (w : World) (hr : r ≤ 1114111) (hf : f ≤ 16) (hg : g ≤ 16) (hm : m.size ≤ 100) :
    Calls Try.prog 11 #[.agg #[.int .i32 (r : Int), .int .i64 (f : Int), .int .i64 (g : Int), .bool x, .bool y, .bool z], .string m] w fun e w' => e = .returned (.bool true) ∧ Below w.heap.size w w' := by
  have hu := Try.underlying25
  have hua := Try.underlying23
  have hmi : (m.size : Int) ≤ 100 := by omega
  have hrI : ¬ (1114111 : Int) < (r : Int) := by omega
  have hr0 : ¬ (r : Int) < 0 := by omega
  have hv := cva_calls (f : Int) (g : Int) x y z
  rw [show aVal (f : Int) (g : Int) = true by simp [aVal]; omega] at hv
  go_enter Try.func11, Try.ntmps11
  go_wp2_with fail
  refine (hv _).mono ?_
  rintro e0 w0 ⟨rfl, hb0⟩
  have HM := Aside0.mk (blk_below (blk_new w (.cells #[.int .i32 (r : Int), .int .i64 (f : Int), .int .i64 (g : Int), .bool x, .bool y, .bool z] 25)) hb0)
  have HB := Aside0.mk (below_step (below_alloc (Below.refl _ w) (.cells #[.int .i32 (r : Int), .int .i64 (f : Int), .int .i64 (g : Int), .bool x, .bool y, .bool z] 25)) hb0)
  clear hb0 hv
  go_wp2_with fail
  refine (alive14 _).mono ?_
  rintro e1 w1 ⟨rfl, hb1⟩
  have HM := Aside0.mk (blk_below HM.out hb1)
  have HB := Aside0.mk (below_step HB.out hb1)
  clear hb1
  have c0 : w1.cell? ⟨w.heap.size, 0, none⟩ = some (.int .i32 (r : Int)) := (blk_cell HM.out 0).trans rfl
  have c1 : w1.cell? ⟨w.heap.size, 1, none⟩ = some (.int .i64 (f : Int)) := (blk_cell HM.out 1).trans rfl
  have c2 : w1.cell? ⟨w.heap.size, 2, none⟩ = some (.int .i64 (g : Int)) := (blk_cell HM.out 2).trans rfl
  have c3 : w1.cell? ⟨w.heap.size, 3, none⟩ = some (.bool x) := (blk_cell HM.out 3).trans rfl
  have c4 : w1.cell? ⟨w.heap.size, 4, none⟩ = some (.bool y) := (blk_cell HM.out 4).trans rfl
  have c5 : w1.cell? ⟨w.heap.size, 5, none⟩ = some (.bool z) := (blk_cell HM.out 5).trans rfl
  have hl := clay_ok (r : Int) (f : Int) (g : Int) x y z
  obtain ⟨fl, hfl⟩ : ∃ q, q = bitv x 1 + bitv y 2 + bitv z 4 := ⟨_, rfl⟩
  rw [← hfl] at hl
  rw [Int.toNat_natCast] at hl
  have hnl : (numB r).length ≤ 3 := numB_len 3 r (by omega)
  have hnp : 1 ≤ (numB r).length := by
    by_cases h : r < 128
    · rw [numB_small h]; simp
    · rw [numB_great h]; simp
  obtain ⟨s, hs⟩ : ∃ q, q = strOfNums (numB r ++ [(f : Int), (g : Int), (fl : Int)]) := ⟨_, rfl⟩
  rw [← hs] at hl
  have hss : s.size = (numB r).length + 3 := by rw [hs, strOfNums_size]; simp
  have hsm : s ++ m = strOfNums (numB r ++ ((f : Int) :: (g : Int) :: (fl : Int) :: bytesOf m)) := by
    rw [hs]
    apply str_ext
    have := congrArg (fun q : ByteArray => q.data.toList) (str_bytes m)
    simp only [strOfNums_data] at this
    simp [strOfNums, ← this]
  have hrd := cread_ok r f g fl x y z (bytesOf m)
  rw [← hsm] at hrd
  have heq := eq_cell (r : Int) (f : Int) (g : Int) x y z
  have HL := Aside0.mk (fun q => hl q (by omega) (by omega) (by simp [aVal]; omega))
  have HR := Aside0.mk (fun q => hrd q hr hf hg hfl (by rw [bytesOf_length]; omega))
  have hn1 : ((numB r).length + 3 : Nat) = s.size := hss.symm
  rw [hn1] at HR
  have hs4 : (4 : Int) ≤ (s.size : Int) := by omega
  have hs6 : (s.size : Int) ≤ 6 := by omega
  clear hl hrd hs hsm hnl hnp hss hn1 hfl
  go_wp2_with fail
  refine (HL.out _).mono ?_
  rintro e2 w2 ⟨rfl, hb2⟩
  have HM := Aside0.mk (blk_below HM.out hb2)
  have HB := Aside0.mk (below_step HB.out hb2)
  clear hb2 c0 c1 c2 c3 c4 c5
  go_wp2_with fail
  refine (HR.out _).mono ?_
  rintro e3 w3 ⟨rfl, hb3⟩
  have HM := Aside0.mk (blk_below HM.out hb3)
  have HB := Aside0.mk (below_step HB.out hb3)
  have hlt : w.heap.size < w3.heap.size := blk_lt HM.out
  clear hb3
  have c0 : w3.cell? ⟨w.heap.size, 0, none⟩ = some (.int .i32 (r : Int)) := (blk_cell HM.out 0).trans rfl
  have c1 : w3.cell? ⟨w.heap.size, 1, none⟩ = some (.int .i64 (f : Int)) := (blk_cell HM.out 1).trans rfl
  have c2 : w3.cell? ⟨w.heap.size, 2, none⟩ = some (.int .i64 (g : Int)) := (blk_cell HM.out 2).trans rfl
  have c3 : w3.cell? ⟨w.heap.size, 3, none⟩ = some (.bool x) := (blk_cell HM.out 3).trans rfl
  have c4 : w3.cell? ⟨w.heap.size, 4, none⟩ = some (.bool y) := (blk_cell HM.out 4).trans rfl
  have c5 : w3.cell? ⟨w.heap.size, 5, none⟩ = some (.bool z) := (blk_cell HM.out 5).trans rfl
  go_wp2
  go_ret
  exact ⟨rfl, below_alloc HB.out _⟩
set_option maxHeartbeats 4000000 in
set_option maxRecDepth 100000 in
theorem cback_dead (r f g : Int) (x y z : Bool) (m : ByteArray) (w : World) (h : 100 < (m.size : Int) ∨ r < 0 ∨ 1114111 < r) :
    Calls Try.prog 11 #[.agg #[.int .i32 r, .int .i64 f, .int .i64 g, .bool x, .bool y, .bool z], .string m] w fun r w' => r = .returned (.bool true) ∧ Below w.heap.size w w' := by
  by_cases g0 : 100 < (m.size : Int)
  · clear h
    go_enter Try.func11, Try.ntmps11
    go_wp2_with (go_at_call 21; refine (alive14 _).mono ?_; rintro e1 w1 ⟨rfl, hb⟩)
    go_ret
    exact ⟨rfl, below_step (below_alloc (Below.refl _ w) _) hb⟩
  · skip
    by_cases g1 : r < 0
    · clear h
      go_enter Try.func11, Try.ntmps11
      go_wp2_with (go_at_call 21; refine (alive14 _).mono ?_; rintro e1 w1 ⟨rfl, hb⟩)
      go_ret
      exact ⟨rfl, below_step (below_alloc (Below.refl _ w) _) hb⟩
    · skip
      have g2 : 1114111 < r := by omega
      clear h
      go_enter Try.func11, Try.ntmps11
      go_wp2_with (go_at_call 21; refine (alive14 _).mono ?_; rintro e1 w1 ⟨rfl, hb⟩)
      go_ret
      exact ⟨rfl, below_step (below_alloc (Below.refl _ w) _) hb⟩
set_option maxHeartbeats 4000000 in
set_option maxRecDepth 100000 in
theorem cback_bad (r f g : Int) (x y z : Bool) (m : ByteArray) (w : World) (h1 : ¬ 100 < (m.size : Int)) (h2 : ¬ r < 0) (h3 : ¬ 1114111 < r) (hv : aVal f g = false) :
    Calls Try.prog 11 #[.agg #[.int .i32 r, .int .i64 f, .int .i64 g, .bool x, .bool y, .bool z], .string m] w fun e w' => e = .returned (.bool true) ∧ Below w.heap.size w w' := by
  have hu := Try.underlying25
  have hua := Try.underlying23
  have hc := cva_calls f g x y z
  rw [hv] at hc
  clear hv
  go_enter Try.func11, Try.ntmps11
  go_wp2_with fail
  refine (hc _).mono ?_
  rintro e0 w0 ⟨rfl, hb0⟩
  have HB := Aside0.mk (below_step (below_alloc (Below.refl _ w) (.cells #[.int .i32 r, .int .i64 f, .int .i64 g, .bool x, .bool y, .bool z] 25)) hb0)
  clear hb0 hc
  go_wp2_with fail
  refine (alive14 _).mono ?_
  rintro e1 w1 ⟨rfl, hb1⟩
  have HB := Aside0.mk (below_step HB.out hb1)
  clear hb1
  go_wp2
  go_ret
  exact ⟨rfl, HB.out⟩
theorem cback_walk (r f g : Int) (x y z : Bool) (m : ByteArray) (w : World) (_w1 : m.size ≤ 140737488351232) :
    Calls Try.prog 11 #[.agg #[.int .i32 r, .int .i64 f, .int .i64 g, .bool x, .bool y, .bool z], .string m] w fun e w' => e = .returned (.bool true) ∧ Below w.heap.size w w' := by
  by_cases h : 100 < (m.size : Int) ∨ r < 0 ∨ 1114111 < r
  · exact cback_dead r f g x y z m w h
  · cases hv : aVal f g with
    | false => exact cback_bad r f g x y z m w (by omega) (by omega) (by omega) hv
    | true =>
      simp only [aVal, Bool.and_eq_true, decide_eq_true_eq] at hv
      obtain ⟨⟨⟨h1, h2⟩, h3⟩, h4⟩ := hv
      obtain ⟨R, rfl⟩ := Int.eq_ofNat_of_zero_le (show 0 ≤ r by omega)
      obtain ⟨F, rfl⟩ := Int.eq_ofNat_of_zero_le h1
      obtain ⟨G, rfl⟩ := Int.eq_ofNat_of_zero_le h3
      exact cback_live R F G x y z m w (by omega) (by omega) (by omega) (by omega)
end Go.Proofs.Ytcmmdllnbijipaa.Obj
namespace Go.Proofs.Ytcmmdllnbijipaa.Opens
open Go.RowKit Go.ChangeShapes Go.WideShapes Go.Deep
set_option maxRecDepth 100000 in
/-- A cell that is handed in. -/
theorem open_cell {H : Type} {enc : TypeId × Value → H} {w : World} {base : Nat} {spare : Nat → Bool} {held : Bool} {rr : Reach} {b0 : Nat} {v : Value} {d : DataW H} {p : List MemPlace}
    (hv : Value.okWide Try.prog w rr b0 25 v) (h : DataW.Trod enc Try.prog w base spare held 25 v d p) :
    ∃ (r f g : Int) (x y z : Bool), v = .agg #[.int .i32 r, .int .i64 f, .int .i64 g, .bool x, .bool y, .bool z] := by
  obtain ⟨cs, rfl, hsz⟩ := okWide_struct Try.underlying25 hv
  have hC : Try.prog.cellsOf 25 = 6 := by kernel_rfl
  have hA : Try.prog.cellsOf 23 = 5 := by kernel_rfl
  have hR : Try.prog.cellsOf 21 = 1 := by kernel_rfl
  have hI : Try.prog.cellsOf 3 = 1 := by kernel_rfl
  have hB : Try.prog.cellsOf 4 = 1 := by kernel_rfl
  obtain ⟨l⟩ := cs
  match l, hsz.trans hC with
  | [c0, c1, c2, c3, c4, c5], _ =>
    obtain ⟨fuel, hf⟩ := h
    obtain ⟨xs, n, _, _, _, hlen, hg⟩ := DataW.trod_struct Try.underlying25 hf
    match xs, hlen with
    | [y0, y1], _ =>
      have g0 := hg 0 _ rfl
      have g1 := hg 1 _ rfl
      simp [Value.cells, hR, hA] at g0 g1
      obtain ⟨r, e0, _⟩ := DataW.trod_int Try.underlying21 g0
      obtain ⟨xs2, n2, _, _, _, hlen2, hg2⟩ := DataW.trod_struct Try.underlying23 g1
      match xs2, hlen2 with
      | [z0, z1, z2, z3, z4], _ =>
        have k0 := hg2 0 _ rfl
        have k1 := hg2 1 _ rfl
        have k2 := hg2 2 _ rfl
        have k3 := hg2 3 _ rfl
        have k4 := hg2 4 _ rfl
        simp [hI, hB] at k0 k1 k2 k3 k4
        obtain ⟨f, q0, _⟩ := DataW.trod_int Try.underlying3 k0
        obtain ⟨g, q1, _⟩ := DataW.trod_int Try.underlying3 k1
        obtain ⟨x, q2, _⟩ := DataW.trod_bool Try.underlying4 k2
        obtain ⟨y, q3, _⟩ := DataW.trod_bool Try.underlying4 k3
        obtain ⟨z, q4, _⟩ := DataW.trod_bool Try.underlying4 k4
        simp only [List.cons.injEq, and_true] at e0 q0 q1 q2 q3 q4
        subst e0 q0 q1 q2 q3 q4
        exact ⟨r, f, g, x, y, z, rfl⟩
end Go.Proofs.Ytcmmdllnbijipaa.Opens
