/- Cells that come in: one by value, and slices of them. Conditions: those in each theorem. -/
import Derived.Test.YtcmmdllnbijipaaGrid
import Derived.Test.YtcmmdllnbijipaaOpens
import Derived.OpenShut
namespace Go.Proofs.Ytcmmdllnbijipaa.Opens
open Go.RowKit Go.ChangeShapes Go.WideShapes Go.Deep Go.Proofs.YtcmmdllnbijipaaW.PrintWords Go.Proofs.Ytcmmdllnbijipaa.Grd Go.Proofs.Ytcmmdllnbijipaa.Mem
set_option linter.unusedVariables false
set_option maxRecDepth 100000
theorem open_cell {H : Type} {enc : TypeId × Value → H} {w : World} {base : Nat} {spare : Nat → Bool} {held : Bool} {rr : Reach} {b0 : Nat} {v : Value} {d : DataW H} {p : List MemPlace}
    (hv : Value.okWide Try.prog w rr b0 25 v) (h : DataW.Trod enc Try.prog w base spare held 25 v d p) :
    ∃ (r f g : Int) (x y z : Bool), v = .agg #[.int .i32 r, .int .i64 f, .int .i64 g, .bool x, .bool y, .bool z] := by
  obtain ⟨cs, rfl, hsz⟩ := okWide_struct Try.underlying25 hv
  have hC : Try.prog.cellsOf 25 = 6 := by kernel_rfl
  have hA : Try.prog.cellsOf 23 = 5 := by kernel_rfl
  have hR : Try.prog.cellsOf 21 = 1 := by kernel_rfl
  have hI : Try.prog.cellsOf 3 = 1 := by kernel_rfl
  have hB : Try.prog.cellsOf 4 = 1 := by kernel_rfl
  obtain ⟨l⟩ := cs
  match l, hsz.trans hC with
  | [c0, c1, c2, c3, c4, c5], _ =>
    obtain ⟨fuel, hf⟩ := h
    obtain ⟨xs, n, _, _, _, hlen, hg⟩ := DataW.trod_struct Try.underlying25 hf
    match xs, hlen with
    | [y0, y1], _ =>
      have g0 := hg 0 _ rfl
      have g1 := hg 1 _ rfl
      simp [Value.cells, hR, hA] at g0 g1
      obtain ⟨r, e0, _⟩ := DataW.trod_int Try.underlying21 g0
      obtain ⟨xs2, n2, _, _, _, hlen2, hg2⟩ := DataW.trod_struct Try.underlying23 g1
      match xs2, hlen2 with
      | [z0, z1, z2, z3, z4], _ =>
        have k0 := hg2 0 _ rfl
        have k1 := hg2 1 _ rfl
        have k2 := hg2 2 _ rfl
        have k3 := hg2 3 _ rfl
        have k4 := hg2 4 _ rfl
        simp [hI, hB] at k0 k1 k2 k3 k4
        obtain ⟨f, q0, _⟩ := DataW.trod_int Try.underlying3 k0
        obtain ⟨g, q1, _⟩ := DataW.trod_int Try.underlying3 k1
        obtain ⟨x, q2, _⟩ := DataW.trod_bool Try.underlying4 k2
        obtain ⟨y, q3, _⟩ := DataW.trod_bool Try.underlying4 k3
        obtain ⟨z, q4, _⟩ := DataW.trod_bool Try.underlying4 k4
        simp only [List.cons.injEq, and_true] at e0 q0 q1 q2 q3 q4
        subst e0 q0 q1 q2 q3 q4
        exact ⟨r, f, g, x, y, z, rfl⟩
def kC : Kd C6 := Kd.iso (Kd.pair (Kd.int .i32) (Kd.pair (Kd.int .i64) (Kd.pair (Kd.int .i64) (Kd.pair Kd.bool (Kd.pair Kd.bool Kd.bool))))) (fun x : C6 => (x.r, x.f, x.g, x.bo, x.un, x.iv))
theorem kC_iff {w : World} {x : C6} {cs : List Value} : kC.K w x cs ↔ cs = x.vals := by
  constructor
  · rintro ⟨_, _, rfl, rfl, ⟨_, _, rfl, rfl, ⟨_, _, rfl, rfl, ⟨_, _, rfl, rfl, ⟨_, _, rfl, rfl, rfl⟩⟩⟩⟩⟩
    rfl
  · rintro rfl
    exact ⟨[_], _, rfl, rfl, ⟨[_], _, rfl, rfl, ⟨[_], _, rfl, rfl, ⟨[_], _, rfl, rfl, ⟨[_], _, rfl, rfl, rfl⟩⟩⟩⟩⟩
theorem opens_cell : Opens Try.prog 25 kC := fun H enc w base spare held fuel cs v h => by
  obtain ⟨xs, n, _, _, hcl, hlen, hg⟩ := DataW.trod_struct Try.underlying25 h
  have hC : Try.prog.cellsOf 25 = 6 := by kernel_rfl
  have hA : Try.prog.cellsOf 23 = 5 := by kernel_rfl
  have hR : Try.prog.cellsOf 21 = 1 := by kernel_rfl
  have hI : Try.prog.cellsOf 3 = 1 := by kernel_rfl
  have hB : Try.prog.cellsOf 4 = 1 := by kernel_rfl
  rw [hC] at hcl
  match cs, hcl with
  | [c0, c1, c2, c3, c4, c5], _ =>
    match xs, hlen with
    | [y0, y1], _ =>
      have g0 := hg 0 _ rfl
      have g1 := hg 1 _ rfl
      simp [hR, hA] at g0 g1
      obtain ⟨r, e0, _⟩ := DataW.trod_int Try.underlying21 g0
      obtain ⟨xs2, n2, _, _, _, hlen2, hg2⟩ := DataW.trod_struct Try.underlying23 g1
      match xs2, hlen2 with
      | [z0, z1, z2, z3, z4], _ =>
        have k0 := hg2 0 _ rfl
        have k1 := hg2 1 _ rfl
        have k2 := hg2 2 _ rfl
        have k3 := hg2 3 _ rfl
        have k4 := hg2 4 _ rfl
        simp [hI, hB] at k0 k1 k2 k3 k4
        obtain ⟨f, q0, _⟩ := DataW.trod_int Try.underlying3 k0
        obtain ⟨g, q1, _⟩ := DataW.trod_int Try.underlying3 k1
        obtain ⟨x, q2, _⟩ := DataW.trod_bool Try.underlying4 k2
        obtain ⟨y, q3, _⟩ := DataW.trod_bool Try.underlying4 k3
        obtain ⟨z, q4, _⟩ := DataW.trod_bool Try.underlying4 k4
        simp only [List.cons.injEq, and_true] at e0 q0 q1 q2 q3 q4
        subst e0 q0 q1 q2 q3 q4
        exact ⟨⟨r, f, g, x, y, z⟩, kC_iff.2 rfl⟩
/-- A slice of cells that came in. -/
theorem src_of {w : World} {A : Option Addr} {l : List C6} (h : Kd.C kC w A l.length l) : Src w A l.length l := by
  refine ⟨rfl, ?_⟩
  rcases Nat.eq_zero_or_pos l.length with h0 | h0
  · exact .inl h0
  · right
    obtain ⟨ad, hA, hc⟩ := h.2.2 h0
    refine ⟨ad, hA, fun j v hv => ?_⟩
    have hj : j < (fl l).length := (List.getElem?_eq_some_iff.1 hv).1
    rw [fl_len] at hj
    have hi : j / 6 < l.length := by omega
    obtain ⟨c, hcl, hK, hcell⟩ := hc (j / 6) l[j / 6] (List.getElem?_eq_getElem hi)
    rw [kC_iff.1 hK] at hcell
    have h2 := fl_at vals_len (l := l) (i := j / 6) (x := l[j / 6]) (List.getElem?_eq_getElem hi) (j := j % 6) (by omega)
    rw [show j / 6 * 6 + j % 6 = j by omega] at h2
    have h3 := hcell (j % 6) v (by rw [← h2]; exact hv)
    have h4 : kC.sz = 6 := rfl
    rw [h4, show j / 6 * 6 + j % 6 = j by omega] at h3
    exact h3
end Go.Proofs.Ytcmmdllnbijipaa.Opens
