/- What Size of a grid.Grid comes to. Conditions: those in each theorem. -/
import Derived.Test.YtcmmdllnbijipaaLawGMoves
namespace Go.Proofs.Ytcmmdllnbijipaa.Grd
open Go.RowKit Go.Proofs.Ytcmmdllnbijipaa.Mem Go.Proofs.YtcmmdllnbijipaaW.PrintWords Go.Proofs.YtcmmdllnbijipaaW.PrintMore
attribute [local go_sem] max2_i min2_i max_two min_two
set_option linter.unusedVariables false
set_option linter.unusedSimpArgs false
/-- What stands in a grid of another size, rows up to y taken over. -/
def Took (W : Nat) (cs : List C6) (W2 H2 y : Nat) (cs2 : List C6) : Prop := ∀ i j, i < W2 → j < H2 → cs2[j * W2 + i]? = if j < y ∧ i < W then cs[j * W + i]? else some bC
theorem took_zero (W : Nat) (cs : List C6) (W2 H2 : Nat) : Took W cs W2 H2 0 (List.replicate (W2 * H2) bC) := fun i j hi hj => by
  rw [if_neg (by omega), List.getElem?_replicate, if_pos]
  have : (j + 1) * W2 ≤ H2 * W2 := Nat.mul_le_mul_right W2 (by omega)
  rw [Nat.succ_mul, Nat.mul_comm H2 W2] at this
  omega
theorem took_step {W H W2 H2 y : Nat} {cs cs2 : List C6} (h : Took W cs W2 H2 y cs2) (hc : cs.length = W * H) (hc2 : cs2.length = W2 * H2) (hy : y < H) (hy2 : y < H2) (hW2 : 0 < W2) : Took W cs W2 H2 (y + 1) (gSet W2 H2 cs2 0 (y : Int) ((cs.drop (y * W)).take W)) := fun i j hi hj => by
  have hin : inG W2 H2 0 (y : Int) = true := inG_iff.2 ⟨by omega, by omega, by omega, by omega⟩
  have hix : ix W2 0 (y : Int) = y * W2 := by unfold ix; simp
  have hf : (y + 1) * W2 ≤ H2 * W2 := Nat.mul_le_mul_right W2 (by omega)
  rw [Nat.succ_mul, Nat.mul_comm H2 W2] at hf
  have hf2 : (y + 1) * W ≤ H * W := Nat.mul_le_mul_right W (by omega)
  rw [Nat.succ_mul, Nat.mul_comm H W] at hf2
  have hll : (((cs.drop (y * W)).take W).take (W2 - (0 : Int).toNat)).length = min W2 W := by simp; omega
  unfold gSet
  rw [if_pos hin, hix, put_get _ _ _ (by omega), hll]
  by_cases hjy : j = y
  · subst hjy
    by_cases hiW : i < W
    · rw [if_pos ⟨by omega, by omega⟩, if_pos ⟨by omega, hiW⟩, Nat.add_sub_cancel_left, List.getElem?_take, if_pos (by omega), List.getElem?_take, if_pos hiW, List.getElem?_drop]
    · rw [if_neg (by omega), if_neg (by omega), h i j hi hj, if_neg (by omega)]
  · have hne : ¬ (y * W2 ≤ j * W2 + i ∧ j * W2 + i < y * W2 + min W2 W) := by
      rintro ⟨h1, h2⟩
      rcases Nat.lt_or_gt_of_ne hjy with h3 | h3
      · have := Nat.mul_le_mul_right W2 (show j + 1 ≤ y by omega)
        rw [Nat.succ_mul] at this
        omega
      · have := Nat.mul_le_mul_right W2 (show y + 1 ≤ j by omega)
        rw [Nat.succ_mul] at this
        omega
    rw [if_neg hne, h i j hi hj]
    by_cases h4 : j < y ∧ i < W
    · rw [if_pos h4, if_pos (by omega)]
    · rw [if_neg h4, if_neg (by omega)]
set_option maxHeartbeats 4000000 in
set_option maxRecDepth 100000 in
theorem size_calls (g b W H : Nat) (W0 H0 : Int) (cs : List C6) (w : World) (h : IsGrid w g b W H cs) :
    Calls Try.prog 28 #[.pointer (some ⟨g, 0, none⟩), .int .i64 W0, .int .i64 H0] w fun r w' => r = .returned (.tuple #[]) ∧ ∃ b' cs', w.heap.size ≤ b' ∧ IsGrid w' g b' (clW W0) (clH H0) cs' ∧ Took W cs (clW W0) (clH H0) (min H (clH H0)) cs' ∧ Only [g] w w' := by
  obtain ⟨W2, hW⟩ : ∃ W, W = clW W0 := ⟨_, rfl⟩
  obtain ⟨H2, hH⟩ : ∃ H, H = clH H0 := ⟨_, rfl⟩
  have hW2 := clW_le W0
  have hH2 := clH_le H0
  have hn := eql_grid ⟨g, 0, none⟩
  have hlen := h.1
  have hgl := h.lt
  have hWp := h.2.1
  have HI := Aside0.mk h
  have hnew := new_calls W0 H0 w
  rw [← hW] at hW2 hnew ⊢
  rw [← hH] at hH2 hnew ⊢
  have HNEW := Aside0.mk hnew
  clear h hW hH hnew
  go_enter Try.func28, Try.ntmps28
  go_wp2_with fail
  refine HNEW.out.mono ?_
  rintro e1 w1 ⟨g2, b2, rfl, hg2, hb2, hI2, hB⟩
  have HI := Aside0.mk (HI.out.below hB)
  have HI2 := Aside0.mk hI2
  have HO := Aside0.mk (Only.of_below [g] hB)
  have hn2 := eql_grid ⟨g2, 0, none⟩
  have hg2l := hI2.lt
  clear hI2 hB
  obtain ⟨_, _, _, _, _, cap, rest, hG, hBb, _, _⟩ := HI.out
  obtain ⟨_, _, _, _, _, cap2, rest2, hG2, hBb2, _, _⟩ := HI2.out
  have c1 : w1.cell? ⟨g, 1, none⟩ = some (.int .i64 (H : Int)) := (hG.cell 1).trans rfl
  have c2 : w1.cell? ⟨g2, 1, none⟩ = some (.int .i64 (H2 : Int)) := (hG2.cell 1).trans rfl
  clear hG hBb hG2 hBb2
  go_wp2_with fail
  go_quiet (fail)
  clear c1 c2
  obtain ⟨M, hM⟩ : ∃ M, M = min H H2 := ⟨_, rfl⟩
  have hMi : min (H : Int) (H2 : Int) = (M : Int) := by omega
  have hMH : M ≤ H := by omega
  have hMH2 : M ≤ H2 := by omega
  have HM := Aside0.mk hM
  rw [hMi]
  clear hM hMi
  go_wp2
  go_loopg [22] M (fun kq v22 wr => ∃ (y : Nat) (cs2 : List C6), v22 = .int .i64 (y : Int) ∧ Aside0 (y ≤ M ∧ kq = M - y) ∧ Aside0 (IsGrid wr g b W H cs) ∧ Aside0 (IsGrid wr g2 b2 W2 H2 cs2) ∧ Aside0 (Took W cs W2 H2 y cs2) ∧ Aside0 (Only [g] w wr))
  case atStart => exact ⟨0, _, rfl, ⟨Nat.zero_le _, rfl⟩, ⟨HI.out.below (pw_below_drewN (Below.refl _ _) nq)⟩, ⟨HI2.out.below (pw_below_drewN (Below.refl _ _) nq)⟩, ⟨took_zero _ _ _ _⟩, ⟨HO.out.drewN nq⟩⟩
  case round =>
    obtain ⟨y, cs2, rfl, ⟨hy, hkq⟩, HIr, HI2r, HTr, HOr⟩ := hrel
    have HQ := Aside0.mk hkq
    clear hkq HI HI2 HO
    by_cases hlt : y < M
    · have hin : inG W H 0 (y : Int) = true := inG_iff.2 ⟨by omega, by omega, by omega, by omega⟩
      have hixy : ix W 0 (y : Int) = y * W := by unfold ix; simp
      have hrow := row_calls g b W H 0 (y : Int) cs wr HIr.out
      rw [hixy, if_pos hin, show W - (0 : Int).toNat = W by simp] at hrow
      have HROW := Aside0.mk hrow
      have hyf : y * W + W ≤ cs.length := by
        have := Nat.mul_le_mul_right W (show y + 1 ≤ H by omega)
        rw [Nat.succ_mul, Nat.mul_comm H W] at this
        omega
      have HYF := Aside0.mk hyf
      clear hrow hin hixy hyf
      go_wp2_with fail
      refine HROW.out.mono ?_
      rintro e3 w3 ⟨⟨v, rfl, A, c, rfl, hc, hA⟩, nq3, rfl⟩
      obtain ⟨rest', hB', _⟩ := HIr.out.put_
      have HSR := Aside0.mk (seg_src (hB'.drewN nq3) HYF.out hA)
      have HI2d := Aside0.mk (show IsGrid (wr.drewN nq3) g2 b2 W2 H2 cs2 from HI2r.out.below (pw_below_drewN (Below.refl _ _) nq3))
      have HId := Aside0.mk (show IsGrid (wr.drewN nq3) g b W H cs from HIr.out.below (pw_below_drewN (Below.refl _ _) nq3))
      have HOd := Aside0.mk (HOr.out.drewN nq3)
      clear hB' hA
      go_wp2_with fail
      refine (set_calls g2 b2 W2 H2 0 (y : Int) A W c _ cs2 _ HI2d.out HSR.out).mono ?_
      rintro e5 w5 ⟨rfl, hI5, hO5⟩
      have hlt2 := HI2d.out.lt
      have HI5 := Aside0.mk hI5
      have HIg5 := Aside0.mk (HId.out.only hO5 (by simp; omega) (by simp; omega))
      have HT5 := Aside0.mk (took_step HTr.out hlen HI2r.out.1 (by omega) (by omega) (by omega))
      have HO5 := Aside0.mk (((HOd.out.mono (hs := [g, b2]) (by simp)).trans (hO5.mono (hs := [g, b2]) (by simp))).new (gs := [g]) (by simp; omega))
      clear hI5 hO5
      go_wp2
      go_roundg (M - (y + 1))
      case measure => have := HQ.out; omega
      case rel => exact ⟨y + 1, _, by go_num, ⟨by omega, rfl⟩, HIg5, HI5, HT5, HO5⟩
    · obtain rfl : M = y := by omega
      obtain ⟨q1, q2, q3, q4, q5, capa, resta, hGa, hBa, q6, q7⟩ := HIr.out
      obtain ⟨p1, p2, p3, p4, p5, capb, restb, hGb, hBb, p6, p7⟩ := HI2r.out
      have s0 : wr.cell? ⟨g2, 0, none⟩ = some (.int .i64 (W2 : Int)) := (hGb.cell 0).trans rfl
      have s1 : wr.cell? ⟨g2, 1, none⟩ = some (.int .i64 (H2 : Int)) := (hGb.cell 1).trans rfl
      have s2 : wr.cell? ⟨g2, 2, none⟩ = some (.slice (some ⟨b2, 0, none⟩) (W2 * H2) capb) := (hGb.cell 2).trans rfl
      have HGa := Aside0.mk hGa
      have HBb := Aside0.mk hBb
      have hgb2 : g ≠ b2 := by omega
      clear hGa hBa hGb hBb q1 q6 q7
      have f0 := HGa.out.frozen 0
      have f1 := HGa.out.frozen 1
      have f2 := HGa.out.frozen 2
      have t0 : wr.cell? ⟨g, 0, none⟩ = some (.int .i64 (W : Int)) := (HGa.out.cell 0).trans rfl
      have t1 : wr.cell? ⟨g, 1, none⟩ = some (.int .i64 (H : Int)) := (HGa.out.cell 1).trans rfl
      have t2 : wr.cell? ⟨g, 2, none⟩ = some (.slice (some ⟨b, 0, none⟩) (W * H) capa) := (HGa.out.cell 2).trans rfl
      go_wp2
      go_end0
      have HX := Blk.set_ (Blk.set_ (Blk.set_ HGa.out 0 (.int .i64 (W2 : Int))) 1 (.int .i64 (H2 : Int))) 2 (.slice (some ⟨b2, 0, none⟩) (W2 * H2) capb)
      have HY := ((HBb.out.far (p := ⟨g, 0, none⟩) (Ne.symm hgb2) (.int .i64 (W2 : Int))).far (p := ⟨g, 1, none⟩) (Ne.symm hgb2) (.int .i64 (H2 : Int))).far (p := ⟨g, 2, none⟩) (Ne.symm hgb2) (.slice (some ⟨b2, 0, none⟩) (W2 * H2) capb)
      rw [← HM.out]
      exact ⟨rfl, b2, cs2, hb2, ⟨p1, p2, p3, p4, p5, capb, restb, HX, HY, p6, p7⟩, HTr.out, ((HOr.out.setCell _ _ (.inl (by simp))).setCell _ _ (.inl (by simp))).setCell _ _ (.inl (by simp))⟩
end Go.Proofs.Ytcmmdllnbijipaa.Grd
