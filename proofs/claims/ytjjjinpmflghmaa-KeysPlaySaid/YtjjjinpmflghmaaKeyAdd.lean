/- keys.Out's Add: the first events that may be, as long as there is room. Conditions: those in each theorem. -/
import Derived.Test.YtjjjinpmflghmaaKeyO
import Derived.Deep.RegionLaw
namespace Go.Proofs.Ytjjjinpmflghmaa.Keys
open Go.RowKit Go.Proofs.Ytjjjinpmflghmaa.Mem Go.Proofs.YtjjjinpmflghmaaW.PrintWords Go.Proofs.YtjjjinpmflghmaaW.PrintMore Go.Proofs.YtjjjinpmflghmaaW.PrintLast Go.Proofs.Ytjjjinpmflghmaa.PKeysBounds
set_option linter.unusedVariables false
set_option linter.unusedSimpArgs false
def okE (e : E4) : Bool := (keys_Valid.f e.k e.s e.x e.y).getD false
theorem valid_some (e : E4) : keys_Valid.f e.k e.s e.x e.y = some (okE e) := by
  unfold okE keys_Valid.f
  repeat' split
  all_goals rfl
/-- Those that are taken. -/
def addE : Nat → List E4 → List E4
  | _, [] => []
  | m, e :: es => if okE e = true ∧ m < 40 then e :: addE (m + 1) es else []
theorem add_stop {m : Nat} {e : E4} {es : List E4} (h : okE e = false ∨ ¬ m < 40) : addE m (e :: es) = [] := by
  unfold addE
  rw [if_neg]
  rintro ⟨h1, h2⟩
  rcases h with h | h
  · rw [h1] at h; cases h
  · exact h h2
theorem add_end {m i : Nat} {es : List E4} (h : addE m es = es.take i ++ addE (m + i) (es.drop i)) (h2 : addE (m + i) (es.drop i) = []) (hi : i ≤ es.length) : addE m es = es.take i ∧ (es.take i).length = i := by
  rw [h, h2]
  simp
  omega
theorem drop_at {α : Type} {l : List α} {k : Nat} {x : α} (h : l[k]? = some x) : l.drop k = x :: l.drop (k + 1) := by
  obtain ⟨hk, rfl⟩ := List.getElem?_eq_some_iff.1 h
  exact List.drop_eq_getElem_cons hk
theorem take_at {α : Type} {l : List α} {k : Nat} {x : α} (h : l[k]? = some x) : l.take (k + 1) = l.take k ++ [x] := by
  obtain ⟨hk, rfl⟩ := List.getElem?_eq_some_iff.1 h
  rw [List.take_succ_eq_append_getElem hk]
theorem turn_grown {w w1 : World} {g : Nat} {v v1 : Value} (hg : w.drew.grownBy w1 v.ownBlock) (hb : v1.ownBlock = v.ownBlock ∨ ∃ b, v1.ownBlock = some b ∧ w.drew.heap.size ≤ b) (u : Value) : Turn g v w (w1.setCell ⟨g, 0, none⟩ u) v1 :=
  ⟨Only.setCell (gs := g :: v.ownBlock.toList) (w := w) (w' := w1) ⟨hg.os, hg.tape, hg.output, hg.size, fun k hk hn => hg.block k hk (fun he => hn (by simp [← he]))⟩ _ _ (.inl (by simp)), fun k hk => by
    rcases hb with h1 | ⟨b, h1, h2⟩
    · exact .inl (by rw [← h1]; exact hk)
    · rw [h1] at hk
      injection hk with hk
      subst hk
      exact .inr h2⟩
theorem four {w : World} {gb : Nat} {es : List E4} (h : ∀ j u, (fe es)[j]? = some u → w.cell? ⟨gb, j, none⟩ = some u) {i : Nat} {e : E4} (he : es[i]? = some e) :
    w.cell? ⟨gb, i * 4, none⟩ = some (.int .i64 e.k) ∧ w.cell? ⟨gb, i * 4 + 1, none⟩ = some (.string e.s) ∧ w.cell? ⟨gb, i * 4 + 2, none⟩ = some (.int .i64 e.x) ∧ w.cell? ⟨gb, i * 4 + 3, none⟩ = some (.int .i64 e.y) := by
  have key : ∀ j, j < 4 → (fe es)[i * 4 + j]? = e.cells[j]? := by
    intro j hj
    obtain ⟨hi, rfl⟩ := List.getElem?_eq_some_iff.1 he
    have h1 : (fe es)[i * 4 + j]? = ((fe es).drop (i * 4))[j]? := by rw [List.getElem?_drop]
    rw [h1, fe_drop, List.drop_eq_getElem_cons hi]
    simp only [fe]
    rw [List.getElem?_append_left (by simpa [E4.cells] using hj)]
  exact ⟨h _ _ (key 0 (by omega)), h _ _ (key 1 (by omega)), h _ _ (key 2 (by omega)), h _ _ (key 3 (by omega))⟩
set_option maxHeartbeats 4000000 in
set_option maxRecDepth 100000 in
theorem add_calls (g : Nat) (v : Value) (l es : List E4) (a b : Int) (gb c n : Nat) (w : World) (h : IsQ w g 33 v l a b) (hn : es.length = n) (hsrc : ∀ j u, (fe es)[j]? = some u → w.cell? ⟨gb, j, none⟩ = some u) (hg : gb ≠ g) (hv : some gb ≠ v.ownBlock)
    (ha : 0 ≤ a) (ha2 : a ≤ 1000000000000) (hl : l.length ≤ 40) (hnl : n ≤ 100000) :
    Calls Try.prog 11 #[.pointer (some ⟨g, 0, none⟩), .slice (some ⟨gb, 0, none⟩) n c] w fun r w' => r = .returned (.int .i64 ((addE l.length es).length : Int)) ∧ ∃ A' c', IsQ w' g 33 (.slice A' (l.length + (addE l.length es).length) c') (l ++ addE l.length es) (a + (addE l.length es).length) b ∧ Turn g v w w' (.slice A' (l.length + (addE l.length es).length) c') := by
  have HN := Aside0.mk hn
  have HSRC := Aside0.mk hsrc
  have HFAR := Aside0.mk (show gb ∉ g :: v.ownBlock.toList by
    intro hm
    rcases List.mem_cons.1 hm with h1 | h1
    · exact hg h1
    · have h2 : v.ownBlock = some gb := by simpa using h1
      exact hv h2.symm)
  obtain ⟨A0, c0, rfl⟩ := own_sl h.row
  have HQ0 := Aside0.mk h
  have hne := eql_pout ⟨g, 0, none⟩
  clear h hn hsrc hg hv
  go_enter Try.func11, Try.ntmps11
  go_wp2_with fail
  go_loopg [5, 12] n (fun kq v5 v12 wr => ∃ (i : Nat) (A' : Option Addr) (c' : Nat), v5 = .int .i64 (i : Int) ∧ v12 = .int .i64 (i : Int) ∧ Aside0 (i ≤ n ∧ kq = n - i ∧ addE l.length es = es.take i ++ addE (l.length + i) (es.drop i)) ∧ Aside0 (IsQ wr g 33 (.slice A' (l.length + i) c') (l ++ es.take i) (a + i) b) ∧ Aside0 (Turn g (.slice A0 l.length c0) w wr (.slice A' (l.length + i) c')))
  case atStart => exact ⟨0, A0, c0, rfl, rfl, ⟨Nat.zero_le _, rfl, by simp⟩, ⟨by simpa using HQ0.out⟩, ⟨Turn.refl _ _ _⟩⟩
  case round =>
    obtain ⟨i, A', c', rfl, rfl, ⟨hi, hkq, hadd⟩, HQ, HT⟩ := hrel
    have HK := Aside0.mk hkq
    have HA := Aside0.mk hadd
    clear hkq hadd
    by_cases hlt : i < n
    · obtain ⟨e, he⟩ : ∃ e, es[i]? = some e := ⟨es[i]'(by have := HN.out; omega), by simp⟩
      have HE := Aside0.mk he
      have hi0 : (0 : Int) ≤ (i : Int) := Int.natCast_nonneg _
      have hiI : (i : Int) < (n : Int) := by omega
      obtain ⟨q0, q1, q2, q3⟩ := four (w := wr) (gb := gb) (fun j u hj => HT.out.o.cell (HSRC.out j u hj) HFAR.out) he
      clear he
      have HX := Aside0.mk (Blk.new wr 38 #[.int .i64 e.k, .string e.s, .int .i64 e.x, .int .i64 e.y])
      have HQ1 := Aside0.mk (HQ.out.below (below_alloc (Below.refl _ _) (.cells #[.int .i64 e.k, .string e.s, .int .i64 e.x, .int .i64 e.y] 38)))
      have HT1 := Aside0.mk (HT.out.below (below_alloc (Below.refl _ _) (.cells #[.int .i64 e.k, .string e.s, .int .i64 e.x, .int .i64 e.y] 38)))
      go_wp2_with fail
      clear q0 q1 q2 q3
      refine (keys_Valid.calls e.k e.s e.x e.y (okE e) _ (valid_some e)).mono ?_
      rintro e2 w2 ⟨rfl, hb2⟩
      have HX2 := Aside0.mk (HX.out.below' hb2)
      have HQ2 := Aside0.mk (HQ1.out.below hb2)
      have HT2 := Aside0.mk (HT1.out.below hb2)
      clear hb2 HX HQ1 HT1
      have hq := (HQ2.out.blk.cell 0).trans (show _ = some (Value.slice A' (l.length + i) c') from rfl)
      cases hok : okE e with
      | false =>
        go_wp2
        go_ret
        obtain ⟨hE, hL⟩ := add_end HA.out (by rw [drop_at HE.out]; exact add_stop (.inl hok)) (by have := HN.out; omega)
        rw [hE, hL]
        exact ⟨rfl, A', c', HQ2.out, HT2.out⟩
      | true =>
        by_cases hroom : l.length + i < 40
        · have hroomI : (l.length : Int) + (i : Int) < 40 := by omega
          go_upto_region 8 with (fail)
          have hli : (l ++ es.take i).length = l.length + i := by have := HN.out; simp; omega
          have HROW := Aside0.mk (show w2.drew.ownsRow 0 38 4 (.slice A' (l.length + i) c') (l.length + i) (fe (l ++ es.take i)) by
            have h5 := pw_own_below HQ2.out.row (below_drew (Below.refl _ _))
            rw [hli] at h5
            exact h5)
          have HNE := Aside0.mk (own_ne HROW.out HQ2.out.blk (show 38 ≠ 33 by decide))
          have HFE := Aside0.mk (show fe (l ++ es.take (i + 1)) = fe (l ++ es.take i) ++ [.int .i64 e.k, .string e.s, .int .i64 e.x, .int .i64 e.y] by
            rw [take_at HE.out, ← List.append_assoc, fe_app]
            rfl)
          have HLE2 := Aside0.mk (show (l ++ es.take (i + 1)).length = l.length + (i + 1) by have := HN.out; simp; omega)
          clear hli
          go_cut [7] from 27 to 36 (fun v7 wc => v7 = .pointer (some ⟨wr.heap.size, 0, none⟩) ∧ ∃ A1 c1, Aside0 (IsQ wc g 33 (.slice A1 (l.length + (i + 1)) c1) (l ++ es.take (i + 1)) (a + i) b) ∧ Aside0 (Turn g (.slice A' (l.length + i) c') w2 wc (.slice A1 (l.length + (i + 1)) c1)))
          case first =>
            have x0 : w2.cell? ⟨wr.heap.size, 0, none⟩ = some (.int .i64 e.k) := (HX2.out.cell 0).trans rfl
            have x1 : w2.cell? ⟨wr.heap.size, 1, none⟩ = some (.string e.s) := (HX2.out.cell 1).trans rfl
            have x2 : w2.cell? ⟨wr.heap.size, 2, none⟩ = some (.int .i64 e.x) := (HX2.out.cell 2).trans rfl
            have x3 : w2.cell? ⟨wr.heap.size, 3, none⟩ = some (.int .i64 e.y) := (HX2.out.cell 3).trans rfl
            have hqa : (w2.alloc (.cells #[.int .i64 e.k, .string e.s, .int .i64 e.x, .int .i64 e.y] 38)).cell? ⟨g, 0, none⟩ = some (.slice A' (l.length + i) c') := ((HQ2.out.blk.alloc _).cell 0).trans rfl
            go_region_law (refine step_append_cells (w0 := w2.drew) (W := w2.drew) 0 (by kernel_rfl) (.tmp 31) (.tmp 33) 24 38 _ 4 40 rfl Try.underlying24 infoEv rfl (by decide) (by decide) (.slice A' (l.length + i) c') (l.length + i) (fe (l ++ es.take i)) [.int .i64 e.k, .string e.s, .int .i64 e.x, .int .i64 e.y] rfl rfl rfl (fe_one [e]) HROW.out (Below.refl _ _) (Nat.zero_le _) (by omega) ?_; intro v1 w1 ho1 hB1 hg1 hb1; obtain ⟨A1, C1, rfl⟩ := own_sl ho1; have HBK := Aside0.mk (show Blk w1 g 33 #[.slice A' (l.length + i) c', .int .i64 (a + i), .int .i64 b] from (hg1.block g HQ2.out.blk.lt HNE.out).trans HQ2.out.blk); have hc1 : w1.cell? ⟨g, 0, none⟩ = some (.slice A' (l.length + i) c') := (HBK.out.cell 0).trans rfl; have hf1 := HBK.out.frozen 0)
            all_goals (go_wp2; go_meet; have hne1 : some g ≠ (Value.slice A1 (l.length + i + 1) C1).ownBlock := own_ne ho1 HBK.out (by decide); have hrow := own_setCell (p := ⟨g, 0, none⟩) ho1 hne1 (.slice A1 (l.length + i + 1) C1); exact ⟨rfl, A1, C1, ⟨⟨HBK.out.set_ 0 _, by rw [HLE2.out, HFE.out]; exact hrow⟩⟩, ⟨turn_grown hg1 hb1 _⟩⟩)
          case rest =>
            obtain ⟨rfl, A1, c1, HQ3, HT3⟩ := hcut
            clear hq
            go_wp2_with fail
            have HQ4 := Aside0.mk (HQ3.out.below (below_alloc (Below.refl _ _) (.cells #[.int .i64 1] 3)))
            have HT4 := Aside0.mk (((HT2.out.trans HT3.out).o.alloc (.cells #[.int .i64 1] 3)).setCell ⟨g, 1, none⟩ (.int .i64 (a + ((i + 1 : Nat) : Int))) (.inl (by simp)))
            refine (add1_calls g 1 wc.heap.size (a + i) (a + ((i + 1 : Nat) : Int)) _ ((HQ4.out.blk.cell 1).trans rfl) (HQ4.out.blk.frozen 1) (((Blk.new wc 3 #[.int .i64 1]).cell 0).trans rfl) (by push_cast; omega) (by omega) (by omega)).mono ?_
            rintro e4 w4 ⟨rfl, rfl⟩
            go_wp2
            go_roundg (n - (i + 1))
            case measure => have := HK.out; omega
            case rel => exact ⟨i + 1, A1, c1, by go_num, by go_num, ⟨by omega, rfl, by rw [HA.out, drop_at HE.out, take_at HE.out, addE, if_pos ⟨hok, hroom⟩, List.append_assoc]; rfl⟩, ⟨HQ4.out.setA (by decide) _⟩, ⟨⟨HT4.out, (HT2.out.trans HT3.out).n⟩⟩⟩
        · have hroomI : ¬ (l.length : Int) + (i : Int) < 40 := by omega
          go_wp2
          go_ret
          obtain ⟨hE, hL⟩ := add_end HA.out (by rw [drop_at HE.out]; exact add_stop (.inr hroom)) (by have := HN.out; omega)
          rw [hE, hL]
          exact ⟨rfl, A', c', HQ2.out, HT2.out⟩
    · obtain rfl : i = n := by omega
      go_wp2
      go_ret
      obtain ⟨hE, hL⟩ := add_end HA.out (by rw [List.drop_of_length_le (by have := HN.out; omega)]; rfl) (by have := HN.out; omega)
      rw [hE, hL]
      exact ⟨rfl, A', c', HQ.out, HT.out⟩
end Go.Proofs.Ytjjjinpmflghmaa.Keys
