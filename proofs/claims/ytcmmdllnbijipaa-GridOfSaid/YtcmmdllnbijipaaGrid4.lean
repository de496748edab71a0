/- What New, Cells, Copy, Size and Of of a grid.Grid come to. Conditions: those in each theorem. -/
import Derived.Test.YtcmmdllnbijipaaGrid3
import Derived.Laws.MakeOwn
import Derived.WalkSpells
import Derived.StillTailTactics
namespace Go.Proofs.Ytcmmdllnbijipaa.Grd
open Go.RowKit Go.Proofs.Ytcmmdllnbijipaa.Mem Go.Proofs.YtcmmdllnbijipaaW.PrintWords Go.Proofs.YtcmmdllnbijipaaW.PrintMore
attribute [local go_sem] max2_i min2_i max_two min_two
set_option linter.unusedVariables false
set_option linter.unusedSimpArgs false

theorem infoCell : (Try.prog.info? 25).map (fun i => (i.zero, i.size, i.bytes)) = some (some (.agg #[.int .i32 0, .int .i64 0, .int .i64 0, .bool false, .bool false, .bool false]), 6, 32) := by kernel_rfl
/-- make. -/
theorem run_make_rowN {P : Program} (t e : TypeId) (i : TypeInfo) (z : Value) (ht : P.underlying t = some (.slice e)) (hi : P.info? e = some i) (hz : i.zero = some z)
    (kl kc : IntKind) (n c : Nat) (hnc : n ≤ c) (hbytes : i.bytes * c ≤ 281474976710656) (h63 : c ≤ 9223372036854775807) (w : World) :
    (Instr.makeSlice t (.int kl (n : Int)) (.int kc (c : Int))).run P w = .ok (.slice (some ⟨w.heap.size, 0, none⟩) n c) (w.alloc (.cells (madeCells z.cells (c * i.size)) e)) := by
  have hb : (i.bytes : Int) * (c : Int) ≤ 281474976710656 := by
    have h : ((i.bytes * c : Nat) : Int) ≤ 281474976710656 := by omega
    rwa [Int.natCast_mul] at h
  have hr := run_make (P := P) w t e i z ht hi hz kl kc n c (by omega) (by omega) hb (by omega)
  simp only [Int.toNat_natCast] at hr
  exact hr
theorem made_fl (n : Nat) : madeCells (Value.agg #[.int .i32 0, .int .i64 0, .int .i64 0, .bool false, .bool false, .bool false]).cells (n * 6) = (fl (List.replicate n zC)).toArray := by
  apply Array.ext_getElem?
  intro t
  by_cases ht : t < n * 6
  · have h1 : (fl (List.replicate n zC)).toArray[t]? = zC.vals[t % 6]? := by
      have h2 := fl_at vals_len (l := List.replicate n zC) (i := t / 6) (x := zC) (by rw [List.getElem?_replicate, if_pos (by omega)]) (j := t % 6) (by omega)
      rw [show t / 6 * 6 + t % 6 = t by omega] at h2
      rw [List.getElem?_toArray]
      exact h2
    rw [h1]
    have h3 : t % 6 < 6 := by omega
    simp only [madeCells, Array.getElem?_map, Array.getElem?_range, ht, if_true, Option.map_some]
    show some ((Value.agg #[.int .i32 0, .int .i64 0, .int .i64 0, .bool false, .bool false, .bool false]).cells[t % 6]!) = _
    generalize t % 6 = j at h3
    match j, h3 with
    | 0, _ => rfl
    | 1, _ => rfl
    | 2, _ => rfl
    | 3, _ => rfl
    | 4, _ => rfl
    | 5, _ => rfl
  · have h1 : (fl (List.replicate n zC)).length = n * 6 := by rw [fl_len, List.length_replicate]
    rw [Array.getElem?_eq_none (by rw [size_madeCells]; omega), Array.getElem?_eq_none (by simp [h1]; omega)]
theorem wpList_append_of {P : Program} {w w' : World} {v : Value} {ops : Array Oper} {rest : List Oper} {o : Oper} {a : Act} {Q : Exit → Act → World → Prop} (hgd : o.guard = none) (d s : Operand) (dT sT : TypeId) (x y : Value)
    (ho : o.op = .call { callee := .builtin .append, args := #[d, s], argTypes := #[dT, sT] }) (hd : a.eval d = x) (hs : a.eval s = y)
    (hr : (Builtin.append_ #[dT, sT] o.type #[x, y]).run P w = .ok v w')
    (h : wpList P ops Q rest (a.put o.dst v) w') : wpList P ops Q (o :: rest) a w :=
  wpList_plain hgd fun _ hK => by
    unfold Oper.wp execOp
    simp only [ho, resolve, invoke, builtin, Sem.run_bind, Sem.run_pure, Result.andThen_ok, List.map_toArray, List.map_cons, List.map_nil, hd, hs, hr]
    exact hK _ _ h
/-- A row of the call's own that holds these cells. -/
def OwnC (w : World) (B : Nat) (v : Value) (l : List C6) : Prop := ∃ g c rest, v = .slice (some ⟨g, 0, none⟩) l.length c ∧ B ≤ g ∧ l.length ≤ c ∧ c ≤ maxLen ∧ Blk w g 25 (fl l ++ rest).toArray
set_option maxHeartbeats 1000000 in
set_option maxRecDepth 100000 in
theorem clone_cells (ad : Addr) (m c : Nat) (l : List C6) (w : World) (hs : Src w (some ad) m l) (hm : 0 < m) (hl : m ≤ 100000) :
    Calls Try.prog 66 #[.slice (some ad) m c] w fun r w' => (∃ v, r = .returned v ∧ OwnC w' w.heap.size v l) ∧ Below w.heap.size w w' := by
  have HS := Aside0.mk (hs.only (below_alloc (Below.refl _ _) (.cells #[] 25)))
  have hnil := fun W1 : World => Lib.run_eql_slice_nil W1 39 25 (some ad) m c 0 0 Try.underlying39
  have HOW := Aside0.mk (World.ownsRow_made (base := w.heap.size) (size := 6) (e := 25) w #[] 0 (Nat.le_refl _) (by simp) rfl)
  have HB := Aside0.mk (below_alloc (Below.refl w.heap.size w) (.cells #[] 25))
  clear hs
  obtain ⟨hSl, hSc⟩ := HS.out
  have hsrc : ∀ j u, (fl l)[j]? = some u → (w.alloc (.cells #[] 25)).cell? (ad.add j) = some u := by
    rcases hSc with h | ⟨ad', h, h2⟩
    · omega
    · injection h with h
      subst h
      exact h2
  obtain ⟨iC, hiC, hz0, hz1, hz2⟩ := info_parts infoCell
  obtain ⟨v2, w2, hr, ho, hg, _, _⟩ := run_append_own_at (P := Try.prog) _ w.heap.size 39 39 25 iC _ 6 32 Try.underlying39 hiC hz0 hz1 hz2 rfl (by decide) _ 0 [] HOW.out ad m c (fl l) (by rw [fl_len, hSl]) hsrc (fl_one l) (by unfold maxLen; omega) (by omega) (by simp)
  rw [Nat.zero_add, List.nil_append] at ho
  obtain ⟨g, cap, rfl, hg1, hg2⟩ := ho.form hm
  have HG := Aside0.mk (show OwnC w2 w.heap.size (.slice (some ⟨g, 0, none⟩) m cap) l by
    obtain ⟨h1, h2⟩ := ho
    rcases h2 with ⟨h2, _⟩ | ⟨g', cap', cur, h2, h3, h4, h5, h6, h7, h8⟩
    · cases h2
    · injection h2 with h2 h2' h2''
      injection h2 with h2
      injection h2 with h2
      subst h2 h2''
      refine ⟨g, cap, cur.toList.drop (m * 6), by rw [hSl], h3, by omega, h6, ?_⟩
      unfold Blk
      rw [h4, ← h8, List.take_append_drop, Array.toArray_toList])
  have HB2 := Aside0.mk (show Below w.heap.size w w2 from HB.out.trans ⟨hg.os, hg.tape, hg.output, hg.size, fun k hk => hg.block k (by simp; omega) (by simp [Value.ownBlock]; omega)⟩)
  have HR := Aside0.mk hr
  clear hr ho hg hsrc hSc hSl hiC hz0 hz1 hz2 hg1 hg2
  go_enter Try.func66, Try.ntmps66
  go_wp2_with (with_reducible refine wpList_append_of rfl (.tmp 5) (.tmp 6) 39 39 (.slice (some ⟨w.heap.size, 0, none⟩) 0 0) (.slice (some ad) m c) rfl ?_ ?_ HR.out ?_)
  · rfl
  · rfl
  go_ret
  exact ⟨⟨_, rfl, HG.out⟩, HB2.out⟩
set_option maxHeartbeats 1000000 in
set_option maxRecDepth 100000 in
theorem blank_calls (f g : Int) (x y z : Bool) (w : World) :
    Calls Try.prog 58 #[.agg #[.int .i64 f, .int .i64 g, .bool x, .bool y, .bool z]] w fun r w' => r = .returned (.agg #[.int .i32 32, .int .i64 0, .int .i64 g, .bool false, .bool false, .bool false]) ∧ Below w.heap.size w w' := by
  have hu := Try.underlying25
  have hua := Try.underlying23
  go_enter Try.func58, Try.ntmps58
  go_wp2
  have HN := Blk.new (w.alloc (.cells #[.int .i64 f, .int .i64 g, .bool x, .bool y, .bool z] 23)) 25 #[.int .i32 32, .int .i64 0, .int .i64 g, .bool false, .bool false, .bool false]
  rw [World.size_alloc] at HN
  exact bodyPost_ret (results_cell_row rfl _ _ (w.heap.size + 1) 25 _ (0, 0) _ rfl HN hu rfl sizeCell) rfl ⟨rfl, below_alloc (below_alloc (Below.refl _ _) _) _⟩
set_option maxHeartbeats 1000000 in
set_option maxRecDepth 100000 in
theorem new_calls (W0 H0 : Int) (w : World) :
    Calls Try.prog 14 #[.int .i64 W0, .int .i64 H0] w fun r w' => ∃ g b, r = .returned (.pointer (some ⟨g, 0, none⟩)) ∧ w.heap.size ≤ g ∧ w.heap.size ≤ b ∧ IsGrid w' g b (clW W0) (clH H0) (List.replicate (clW W0 * clH H0) bC) ∧ Below w.heap.size w w' := by
  have hu := Try.underlying25
  have hua := Try.underlying23
  obtain ⟨W, hW⟩ : ∃ W, W = clW W0 := ⟨_, rfl⟩
  obtain ⟨H, hH⟩ : ∃ H, H = clH H0 := ⟨_, rfl⟩
  have hW2 := clW_le W0
  have hH2 := clH_le H0
  rw [← hW] at hW2 ⊢
  rw [← hH] at hH2 ⊢
  have hWi : (W : Int) = min (max W0 2) 40 := by rw [hW]; unfold clW; omega
  have hHi : (H : Int) = min (max H0 1) 20 := by rw [hH]; unfold clH; omega
  have hN8 := wh_le hW2.2 hH2.2
  obtain ⟨N, hN⟩ : ∃ N, N = W * H := ⟨_, rfl⟩
  have hw : IntKind.i64.wrap ((W : Int) * (H : Int)) = (N : Int) := by rw [hN, Int.natCast_mul]; exact IntWalk.i64_in _ (by rw [← Int.natCast_mul]; omega)
  have hw' : wrap64 ((W : Int) * (H : Int)) = (N : Int) := by rw [hN, ← Int.natCast_mul]; unfold wrap64; omega
  rw [← hN] at hN8
  have HWi := Aside0.mk hWi
  have HHi := Aside0.mk hHi
  have HN := Aside0.mk hN
  obtain ⟨iC, hiC, hz0, hz1, hz2⟩ := info_parts infoCell
  have hmk := fun W1 => run_make_rowN (P := Try.prog) 39 25 iC _ Try.underlying39 hiC hz0 .i64 .i64 N N (Nat.le_refl _) (by rw [hz2]; omega) (by omega) W1
  rw [hz1, made_fl] at hmk
  clear hWi hHi hN hW hH hz0 hz1 hz2 hiC
  go_enter Try.func14, Try.ntmps14
  go_upto_region 2 with (fail)
  rw [← HWi.out, ← HHi.out]
  go_wp2_with fail
  have HC := Aside0.mk (Blk.new w 25 (fl (List.replicate N zC)).toArray)
  have HC := Aside0.mk (HC.out.alloc (.cells #[.int .i64 W, .int .i64 H, .slice (some ⟨w.heap.size, 0, none⟩) N N] 98))
  have HG := Aside0.mk (Blk.new (w.alloc (.cells (fl (List.replicate N zC)).toArray 25)) 98 #[.int .i64 W, .int .i64 H, .slice (some ⟨w.heap.size, 0, none⟩) N N])
  rw [World.size_alloc] at HG
  have HB := Aside0.mk (below_alloc (below_alloc (Below.refl w.heap.size w) (.cells (fl (List.replicate N zC)).toArray 25)) (.cells #[.int .i64 W, .int .i64 H, .slice (some ⟨w.heap.size, 0, none⟩) N N] 98))
  refine (blank_calls 0 0 false false false _).mono ?_
  rintro e1 w1 ⟨rfl, hb1⟩
  have HI := Aside0.mk (show IsGrid w1 (w.heap.size + 1) w.heap.size W H (List.replicate N zC) from ⟨by rw [List.length_replicate, HN.out], hW2.1, hW2.2, hH2.1, hH2.2, N, [], by rw [← HN.out]; exact HG.out.below' hb1, by rw [List.append_nil]; exact HC.out.below' hb1, by rw [HN.out]; exact Nat.le_refl _, by unfold maxLen; omega⟩)
  have HB1 := Aside0.mk (below_step HB.out hb1)
  clear hb1 hmk
  go_wp2_with fail
  refine (gfill_calls (w.heap.size + 1) w.heap.size W H 0 (N : Int) bC _ _ HI.out).mono ?_
  rintro e2 w2 ⟨rfl, hI2, ho2⟩
  have HE := Aside0.mk (show gFill (List.replicate N zC) 0 (N : Int) bC = List.replicate N bC by
    apply List.ext_getElem?
    intro i
    by_cases hi : i < N
    · rw [gFill_get _ _ _ _ _ (by rw [List.length_replicate]; exact hi), if_pos (by omega), List.getElem?_replicate, if_pos hi]
    · rw [List.getElem?_eq_none (by rw [gFill_len, List.length_replicate]; omega), List.getElem?_eq_none (by rw [List.length_replicate]; omega)])
  rw [HE.out] at hI2
  have HI2 := Aside0.mk hI2
  have HB2 := Aside0.mk (ho2.belowOf HB1.out HB1.out.size (by simp))
  clear hI2 ho2
  go_wp2
  go_ret
  rw [← HN.out]
  exact ⟨_, _, rfl, by omega, Nat.le_refl _, HI2.out, HB2.out⟩
theorem cells_calls (g b W H : Nat) (cs : List C6) (w : World) (h : IsGrid w g b W H cs) :
    Calls Try.prog 24 #[.pointer (some ⟨g, 0, none⟩)] w fun r w' => (∃ v, r = .returned v ∧ OwnC w' w.heap.size v cs) ∧ Below w.heap.size w w' := by
  obtain ⟨h1, h2, h3, h4, h5, cap, rest, hG, hB, h6, h7⟩ := h
  have hn := eql_grid ⟨g, 0, none⟩
  have c2 : w.cell? ⟨g, 2, none⟩ = some (.slice (some ⟨b, 0, none⟩) (W * H) cap) := (hG.cell 2).trans rfl
  have hN8 := wh_le h3 h5
  have hN0 : 0 < W * H := Nat.mul_pos (by omega) (by omega)
  obtain ⟨N, hN⟩ : ∃ N, N = W * H := ⟨_, rfl⟩
  rw [← hN] at h1 c2 hN8 hN0
  have hs := seg_src (A := some ⟨b, 0, none⟩) (k := 0) (m := N) hB (by omega) (.inr (by rw [Nat.zero_mul]))
  rw [List.drop_zero, List.take_of_length_le (by omega)] at hs
  have HS := Aside0.mk hs
  clear hs hG hB h1 h6 h7 hN
  go_enter Try.func24, Try.ntmps24
  go_wp2_with fail
  refine (clone_cells ⟨b, 0, none⟩ N cap cs _ HS.out hN0 (by omega)).mono ?_
  rintro e1 w1 ⟨⟨v, rfl, hO⟩, hb1⟩
  have HO := Aside0.mk hO
  have HB := Aside0.mk hb1
  clear hO hb1
  go_wp2
  go_ret
  exact ⟨⟨_, rfl, HO.out⟩, HB.out⟩
set_option maxHeartbeats 1000000 in
set_option maxRecDepth 100000 in
theorem copy_calls (g b W H : Nat) (cs : List C6) (w : World) (h : IsGrid w g b W H cs) :
    Calls Try.prog 27 #[.pointer (some ⟨g, 0, none⟩)] w fun r w' => ∃ g' b', r = .returned (.pointer (some ⟨g', 0, none⟩)) ∧ w.heap.size ≤ g' ∧ w.heap.size ≤ b' ∧ IsGrid w' g' b' W H cs ∧ Below w.heap.size w w' := by
  have HI := Aside0.mk h
  obtain ⟨h1, h2, h3, h4, h5, cap, rest, hG, hB, h6, h7⟩ := h
  have hn := eql_grid ⟨g, 0, none⟩
  have c0 : w.cell? ⟨g, 0, none⟩ = some (.int .i64 W) := (hG.cell 0).trans rfl
  have c1 : w.cell? ⟨g, 1, none⟩ = some (.int .i64 H) := (hG.cell 1).trans rfl
  have c2 : w.cell? ⟨g, 2, none⟩ = some (.slice (some ⟨b, 0, none⟩) (W * H) cap) := (hG.cell 2).trans rfl
  have hN8 := wh_le h3 h5
  have hN0 : 0 < W * H := Nat.mul_pos (by omega) (by omega)
  obtain ⟨N, hN⟩ : ∃ N, N = W * H := ⟨_, rfl⟩
  rw [← hN] at h1 c2 hN8 hN0
  have hs := seg_src (A := some ⟨b, 0, none⟩) (k := 0) (m := N) hB (by omega) (.inr (by rw [Nat.zero_mul]))
  rw [List.drop_zero, List.take_of_length_le (by omega)] at hs
  have HS := Aside0.mk hs
  have HN := Aside0.mk (show cs.length = W * H by omega)
  have hglt := hG.lt
  clear hs hG hB h1 h6 h7 hN
  go_enter Try.func27, Try.ntmps27
  go_wp2_with fail
  go_region_held3 (fun w' => w'.cell? ⟨g, 0, none⟩ = some (.int .i64 W) ∧ w'.cell? ⟨g, 1, none⟩ = some (.int .i64 H) ∧ w'.cell? ⟨g, 2, none⟩ = some (.slice (some ⟨b, 0, none⟩) N cap)) (first | exact ⟨c0, c1, c2⟩ | exact ⟨x0, x1, x2⟩ | go_keep) (first | (go_at_call 66; refine (clone_cells ⟨b, 0, none⟩ N cap cs w.drew HS.out hN0 (by omega)).mono ?_; rintro e1 w1 ⟨⟨v, rfl, gc, cc, rst, rfl, hO⟩, hb1⟩; have x0 := pw_cell_below (w := w.drew) hb1 c0; have x1 := pw_cell_below (w := w.drew) hb1 c1; have x2 := pw_cell_below (w := w.drew) hb1 c2; have HO := Aside0.mk hO; have HB := Aside0.mk hb1; clear hO hb1))
  go_wp2
  go_ret
  have hG2 := Blk.new w1 98 #[.int .i64 W, .int .i64 H, .slice (some ⟨gc, 0, none⟩) cs.length cc]
  have hC2 := HO.out.2.2.2.alloc (.cells #[.int .i64 W, .int .i64 H, .slice (some ⟨gc, 0, none⟩) cs.length cc] 98)
  have hsz : w.heap.size ≤ w1.heap.size := HB.out.size
  have hgc : w.heap.size ≤ gc := HO.out.1
  refine ⟨w1.heap.size, gc, rfl, hsz, hgc, ⟨HN.out, h2, h3, h4, h5, cc, rst, by rw [← HN.out]; exact hG2, hC2, by rw [← HN.out]; exact HO.out.2.1, HO.out.2.2.1⟩, ?_⟩
  have hb := below_alloc HB.out (.cells #[.int .i64 W, .int .i64 H, .slice (some ⟨gc, 0, none⟩) cs.length cc] 98)
  exact ⟨hb.os, hb.tape, hb.output, hb.size, hb.block⟩
end Go.Proofs.Ytcmmdllnbijipaa.Grd
