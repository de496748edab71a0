/- keys.In's Take: the events behind those that came, as long as there is room. Conditions: those in each theorem. -/
import Derived.Test.YtjjjinpmflghmaaKeyAdd
import Derived.Deep.RegionLaw
namespace Go.Proofs.Ytjjjinpmflghmaa.Keys
open Go.RowKit Go.Proofs.Ytjjjinpmflghmaa.Mem Go.Proofs.YtjjjinpmflghmaaW.PrintWords Go.Proofs.YtjjjinpmflghmaaW.PrintMore Go.Proofs.YtjjjinpmflghmaaW.PrintLast Go.Proofs.Ytjjjinpmflghmaa.PKeysBounds
set_option linter.unusedVariables false
set_option linter.unusedSimpArgs false
/-- Those that are taken: of number 'first' on. -/
def takeE (first : Int) : Int → Nat → Int → List E4 → List E4
  | _, _, _, [] => []
  | k, m, d, e :: es => if d + 1 < first then [] else if first + k ≤ d then takeE first (k + 1) m d es else if okE e = true ∧ m < 40 then e :: takeE first (k + 1) (m + 1) (d + 1) es else []
theorem take_end {first b d : Int} {l q : List E4} {es es' : List E4} {i : Int} (h : l ++ takeE first 0 l.length b es = q ++ takeE first i q.length d es') (h2 : takeE first i q.length d es' = []) (hd : d + l.length = b + q.length) :
    l ++ takeE first 0 l.length b es = q ∧ b + ((takeE first 0 l.length b es).length : Int) = d := by
  rw [h2, List.append_nil] at h
  refine ⟨h, ?_⟩
  have := congrArg List.length h
  rw [List.length_append] at this
  omega
set_option maxHeartbeats 4000000 in
set_option maxRecDepth 100000 in
theorem take_calls (g : Nat) (v : Value) (l es : List E4) (a b first : Int) (gb c n : Nat) (w : World) (h : IsQ w g 36 v l a b) (hn : es.length = n) (hsrc : ∀ j u, (fe es)[j]? = some u → w.cell? ⟨gb, j, none⟩ = some u) (hg : gb ≠ g) (hv : some gb ≠ v.ownBlock)
    (ha : 0 ≤ b) (ha2 : b ≤ 1000000000000) (hl : l.length ≤ 40) (hnl : n ≤ 100000) (hf1 : -2000000000000 ≤ first) (hf2 : first ≤ 2000000000000) :
    Calls Try.prog 12 #[.pointer (some ⟨g, 0, none⟩), .int .i64 first, .slice (some ⟨gb, 0, none⟩) n c] w fun r w' => r = .returned (.int .i64 (b + ((takeE first 0 l.length b es).length : Int))) ∧ ∃ A' c', IsQ w' g 36 (.slice A' (l ++ takeE first 0 l.length b es).length c') (l ++ takeE first 0 l.length b es) a (b + ((takeE first 0 l.length b es).length : Int)) ∧ Turn g v w w' (.slice A' (l ++ takeE first 0 l.length b es).length c') := by
  have HN := Aside0.mk hn
  have HSRC := Aside0.mk hsrc
  have HFAR := Aside0.mk (show gb ∉ g :: v.ownBlock.toList by
    intro hm
    rcases List.mem_cons.1 hm with h1 | h1
    · exact hg h1
    · have h2 : v.ownBlock = some gb := by simpa using h1
      exact hv h2.symm)
  obtain ⟨A0, c0, rfl⟩ := own_sl h.row
  have HQ0 := Aside0.mk h
  have hne := eql_pin ⟨g, 0, none⟩
  clear h hn hsrc hg hv
  go_enter Try.func12, Try.ntmps12
  go_wp2_with fail
  go_loopg [14] n (fun kq v14 wr => ∃ (i : Nat) (q : List E4) (d : Int) (A' : Option Addr) (c' : Nat), v14 = .int .i64 (i : Int) ∧ Aside0 (i ≤ n ∧ kq = n - i ∧ d + l.length = b + q.length ∧ (l.length ≤ q.length ∧ q.length ≤ l.length + i) ∧ l ++ takeE first 0 l.length b es = q ++ takeE first i q.length d (es.drop i)) ∧ Aside0 (IsQ wr g 36 (.slice A' q.length c') q a d) ∧ Aside0 (Turn g (.slice A0 l.length c0) w wr (.slice A' q.length c')))
  case atStart => exact ⟨0, l, b, A0, c0, rfl, ⟨Nat.zero_le _, rfl, rfl, ⟨Nat.le_refl _, Nat.le_refl _⟩, by simp⟩, HQ0, ⟨Turn.refl _ _ _⟩⟩
  case round =>
    obtain ⟨i, q, d, A', c', rfl, ⟨hi, hkq, hd, hql, hadd⟩, HQ, HT⟩ := hrel
    have HK := Aside0.mk hkq
    have HA := Aside0.mk hadd
    have HD := Aside0.mk hd
    have hd0 : 0 ≤ d := by omega
    have hd1 : d ≤ 1000000100000 := by omega
    clear hkq hadd hd
    have hi0 : (0 : Int) ≤ (i : Int) := Int.natCast_nonneg _
    by_cases hlt : i < n
    · obtain ⟨e, he⟩ : ∃ e, es[i]? = some e := ⟨es[i]'(by have := HN.out; omega), by simp⟩
      have HE := Aside0.mk he
      have hiI : (i : Int) < (n : Int) := by omega
      obtain ⟨q0, q1, q2, q3⟩ := four (w := wr) (gb := gb) (fun j u hj => HT.out.o.cell (HSRC.out j u hj) HFAR.out) he
      clear he
      have HX := Aside0.mk (Blk.new wr 38 #[.int .i64 e.k, .string e.s, .int .i64 e.x, .int .i64 e.y])
      have HQ1 := Aside0.mk (HQ.out.below (below_alloc (Below.refl _ _) (.cells #[.int .i64 e.k, .string e.s, .int .i64 e.x, .int .i64 e.y] 38)))
      have HT1 := Aside0.mk (HT.out.below (below_alloc (Below.refl _ _) (.cells #[.int .i64 e.k, .string e.s, .int .i64 e.x, .int .i64 e.y] 38)))
      go_wp2_with fail
      clear q0 q1 q2 q3
      refine (now_calls g 2 d _ ((HQ1.out.blk.cell 2).trans rfl)).mono ?_
      rintro e1 w1 ⟨rfl, rfl⟩
      have hw1 : IntKind.i64.wrap (d + 1) = d + 1 := IntWalk.i64_in _ (by omega)
      have hw2 : IntKind.i64.wrap (first + (i : Int)) = first + (i : Int) := IntWalk.i64_in _ (by omega)
      by_cases hb1 : d + 1 < first
      · go_wp2_with fail
        refine (now_calls g 2 d _ ((HQ1.out.blk.cell 2).trans rfl)).mono ?_
        rintro e9 w9 ⟨rfl, rfl⟩
        go_wp2
        go_ret
        obtain ⟨hE, hL⟩ := take_end HA.out (by rw [drop_at HE.out, takeE, if_pos (by omega)]) HD.out
        rw [hE, hL]
        exact ⟨rfl, A', c', HQ1.out, HT1.out⟩
      · by_cases hb2 : first + (i : Int) ≤ d
        · go_wp2
          go_roundg (n - (i + 1))
          case measure => have := HK.out; omega
          case rel => exact ⟨i + 1, q, d, A', c', by go_num, ⟨by omega, rfl, HD.out, by omega, by rw [HA.out, drop_at HE.out, takeE, if_neg (by omega), if_pos (by omega)]; simp⟩, HQ1, HT1⟩
        · go_wp2_with fail
          refine (keys_Valid.calls e.k e.s e.x e.y (okE e) _ (valid_some e)).mono ?_
          rintro e2 w2 ⟨rfl, hb2'⟩
          have HX2 := Aside0.mk (HX.out.below' hb2')
          have HQ2 := Aside0.mk (HQ1.out.below hb2')
          have HT2 := Aside0.mk (HT1.out.below hb2')
          clear hb2' HX HQ1 HT1
          have hq := (HQ2.out.blk.cell 0).trans (show _ = some (Value.slice A' q.length c') from rfl)
          cases hok : okE e with
          | false =>
            go_wp2_with fail
            refine (now_calls g 2 d _ ((HQ2.out.blk.cell 2).trans rfl)).mono ?_
            rintro e9 w9 ⟨rfl, rfl⟩
            go_wp2
            go_ret
            obtain ⟨hE, hL⟩ := take_end HA.out (by rw [drop_at HE.out, takeE, if_neg (by omega), if_neg (by omega), if_neg (by rw [hok]; simp)]) HD.out
            rw [hE, hL]
            exact ⟨rfl, A', c', HQ2.out, HT2.out⟩
          | true =>
            by_cases hroom : q.length < 40
            · have hroomI : (q.length : Int) < 40 := by omega
              go_upto_region 10 with (fail)
              have HROW := Aside0.mk (show w2.drew.ownsRow 0 38 4 (.slice A' q.length c') q.length (fe q) from pw_own_below HQ2.out.row (below_drew (Below.refl _ _)))
              have HNE := Aside0.mk (own_ne HROW.out HQ2.out.blk (show 38 ≠ 36 by decide))
              have HFE := Aside0.mk (show fe (q ++ [e]) = fe q ++ [.int .i64 e.k, .string e.s, .int .i64 e.x, .int .i64 e.y] by
                rw [fe_app]
                rfl)
              go_cut [7] from 43 to 52 (fun v7 wc => v7 = .int .i64 (i : Int) ∧ ∃ A1 c1, Aside0 (IsQ wc g 36 (.slice A1 (q.length + 1) c1) (q ++ [e]) a d) ∧ Aside0 (Turn g (.slice A' q.length c') w2 wc (.slice A1 (q.length + 1) c1)))
              case first =>
                have x0 : w2.cell? ⟨wr.heap.size, 0, none⟩ = some (.int .i64 e.k) := (HX2.out.cell 0).trans rfl
                have x1 : w2.cell? ⟨wr.heap.size, 1, none⟩ = some (.string e.s) := (HX2.out.cell 1).trans rfl
                have x2 : w2.cell? ⟨wr.heap.size, 2, none⟩ = some (.int .i64 e.x) := (HX2.out.cell 2).trans rfl
                have x3 : w2.cell? ⟨wr.heap.size, 3, none⟩ = some (.int .i64 e.y) := (HX2.out.cell 3).trans rfl
                have hqa : (w2.alloc (.cells #[.int .i64 e.k, .string e.s, .int .i64 e.x, .int .i64 e.y] 38)).cell? ⟨g, 0, none⟩ = some (.slice A' q.length c') := ((HQ2.out.blk.alloc _).cell 0).trans rfl
                go_region_law (refine step_append_cells (w0 := w2.drew) (W := w2.drew) 0 (by kernel_rfl) (.tmp 47) (.tmp 49) 24 38 _ 4 40 rfl Try.underlying24 infoEv rfl (by decide) (by decide) (.slice A' q.length c') q.length (fe q) [.int .i64 e.k, .string e.s, .int .i64 e.x, .int .i64 e.y] rfl rfl rfl (fe_one [e]) HROW.out (Below.refl _ _) (Nat.zero_le _) (by omega) ?_; intro v1 w1 ho1 hB1 hg1 hb1; obtain ⟨A1, C1, rfl⟩ := own_sl ho1; have HBK := Aside0.mk (show Blk w1 g 36 #[.slice A' q.length c', .int .i64 a, .int .i64 d] from (hg1.block g HQ2.out.blk.lt HNE.out).trans HQ2.out.blk); have hc1 : w1.cell? ⟨g, 0, none⟩ = some (.slice A' q.length c') := (HBK.out.cell 0).trans rfl; have hf1 := HBK.out.frozen 0)
                all_goals (go_wp2; go_meet; have hne1 : some g ≠ (Value.slice A1 (q.length + 1) C1).ownBlock := own_ne ho1 HBK.out (by decide); have hrow := own_setCell (p := ⟨g, 0, none⟩) ho1 hne1 (.slice A1 (q.length + 1) C1); exact ⟨rfl, A1, C1, ⟨⟨HBK.out.set_ 0 _, by rw [List.length_append, HFE.out]; exact hrow⟩⟩, ⟨turn_grown hg1 hb1 _⟩⟩)
              case rest =>
                obtain ⟨rfl, A1, c1, HQ3, HT3⟩ := hcut
                clear hq
                go_wp2_with fail
                have HQ4 := Aside0.mk (HQ3.out.below (below_alloc (Below.refl _ _) (.cells #[.int .i64 1] 3)))
                have HT4 := Aside0.mk (((HT2.out.trans HT3.out).o.alloc (.cells #[.int .i64 1] 3)).setCell ⟨g, 2, none⟩ (.int .i64 (d + 1)) (.inl (by simp)))
                refine (add1_calls g 2 wc.heap.size d (d + 1) _ ((HQ4.out.blk.cell 2).trans rfl) (HQ4.out.blk.frozen 2) (((Blk.new wc 3 #[.int .i64 1]).cell 0).trans rfl) rfl (by omega) (by omega)).mono ?_
                rintro e4 w4 ⟨rfl, rfl⟩
                go_wp2
                go_roundg (n - (i + 1))
                case measure => have := HK.out; omega
                case rel => exact ⟨i + 1, q ++ [e], d + 1, A1, c1, by go_num, ⟨by omega, rfl, by have := HD.out; simp; omega, by simp; omega, by rw [HA.out, drop_at HE.out, takeE, if_neg (by omega), if_neg (by omega), if_pos ⟨hok, hroom⟩, List.append_assoc]; simp⟩, ⟨by rw [List.length_append]; exact HQ4.out.setB (by decide) _⟩, ⟨by rw [List.length_append]; exact ⟨HT4.out, (HT2.out.trans HT3.out).n⟩⟩⟩
            · have hroomI : ¬ (q.length : Int) < 40 := by omega
              go_wp2_with fail
              refine (now_calls g 2 d _ ((HQ2.out.blk.cell 2).trans rfl)).mono ?_
              rintro e9 w9 ⟨rfl, rfl⟩
              go_wp2
              go_ret
              obtain ⟨hE, hL⟩ := take_end HA.out (by rw [drop_at HE.out, takeE, if_neg (by omega), if_neg (by omega), if_neg (by omega)]) HD.out
              rw [hE, hL]
              exact ⟨rfl, A', c', HQ2.out, HT2.out⟩
    · obtain rfl : i = n := by omega
      go_wp2_with fail
      refine (now_calls g 2 d _ ((HQ.out.blk.cell 2).trans rfl)).mono ?_
      rintro e9 w9 ⟨rfl, rfl⟩
      go_wp2
      go_ret
      obtain ⟨hE, hL⟩ := take_end HA.out (by rw [List.drop_of_length_le (by have := HN.out; omega)]; rfl) HD.out
      rw [hE, hL]
      exact ⟨rfl, A', c', HQ.out, HT.out⟩
end Go.Proofs.Ytjjjinpmflghmaa.Keys
