/- The walk of HostFlows. Conditions: those in each theorem. -/
import Derived.Test.YtmdhiimgeocgeaaHostL
namespace Go.Proofs.Ytmdhiimgeocgeaa.Host
open Go.RowKit Go.Proofs.Ytmdhiimgeocgeaa.Mem Go.Proofs.Ytmdhiimgeocgeaa.Row Go.Proofs.Ytmdhiimgeocgeaa.Tally Go.Proofs.Ytmdhiimgeocgeaa.Obj Go.Proofs.YtmdhiimgeocgeaaW.PrintWords Go.Proofs.YtmdhiimgeocgeaaW.PrintMore Go.Proofs.YtmdhiimgeocgeaaW.PrintLast
attribute [local go_sem] min2_i max2_i max_two min_two
set_option linter.unusedVariables false
set_option linter.unusedSimpArgs false
theorem str_ext {a b : ByteArray} (h : a.data.toList = b.data.toList) : a = b := by
  apply ByteArray.ext
  exact Array.toList_inj.1 h
theorem ex_list (s : ByteArray) (a b : Nat) : (s.extract a b).data.toList = (s.data.toList.take b).drop a := by
  simp [ByteArray.data_extract, List.drop_take]
theorem ex_ex (s : ByteArray) (p k : Nat) (h : p + k ≤ s.size) : (s.extract p s.size).extract 0 k = s.extract p (p + k) := by
  apply str_ext
  rw [ex_list, ex_list, ex_list, List.drop_zero, List.take_of_length_le (l := s.data.toList) (by rw [Array.length_toList]; exact Nat.le_refl _), List.drop_take]
  congr 1
  omega
theorem ex_tail (s : ByteArray) (p k : Nat) (h : p + k ≤ s.size) : (s.extract p s.size).extract k (s.extract p s.size).size = s.extract (p + k) s.size := by
  apply str_ext
  have h1 : (s.extract p s.size).size = s.size - p := by simp
  rw [ex_list, ex_list, ex_list, h1, List.take_of_length_le (l := s.data.toList) (by rw [Array.length_toList]; exact Nat.le_refl _), List.take_of_length_le (by rw [List.length_drop, Array.length_toList]; exact Nat.le_refl _), List.drop_drop]
theorem ex_app (s : ByteArray) (p k : Nat) (h : p + k ≤ s.size) : s.extract 0 p ++ s.extract p (p + k) = s.extract 0 (p + k) := by
  apply str_ext
  have h1 : (s.data.toList.take (p + k)).take p = s.data.toList.take p := by rw [List.take_take, Nat.min_eq_left (by omega)]
  rw [ByteArray.data_append, Array.toList_append, ex_list, ex_list, ex_list, List.drop_zero, List.drop_zero, ← h1, List.take_append_drop]
theorem ex_none (s : ByteArray) : s.extract 0 0 = ⟨#[]⟩ := by
  apply str_ext
  rw [ex_list]
  rfl
theorem ex_whole (s : ByteArray) : s.extract 0 s.size = s := extract_all s
set_option maxHeartbeats 4000000 in
set_option maxRecDepth 100000 in
theorem hflows_live (said written : ByteArray) (n room : Nat) (w : World) (h1 : said.size ≤ 600) (h2 : written.size ≤ 600) (h3 : 1 ≤ n) (h4 : n ≤ 100) (h5 : room ≤ 700) :
    Calls Try.prog 7 #[.string said, .string written, .int .i64 (n : Int), .int .i64 (room : Int)] w fun r w' => r = .returned (.bool true) ∧ Below w.heap.size w w' := by
  have h1I : ¬ (600 < (said.size : Int)) := by omega
  have h2I : ¬ (600 < (written.size : Int)) := by omega
  have h3I : ¬ ((n : Int) < 1) := by omega
  have h4I : ¬ (100 < (n : Int)) := by omega
  have h5I : ¬ ((room : Int) < 0) := by omega
  have h6I : ¬ (700 < (room : Int)) := by omega
  go_enter Try.func7, Try.ntmps7
  go_wp2_with fail
  refine (alive25 _).mono ?_
  rintro e0 w0 ⟨rfl, hb0⟩
  have H0 := Aside0.mk (HF.new w w0 hb0)
  clear hb0
  go_wp2_with fail
  obtain ⟨g, hg⟩ : ∃ g, g = w0.heap.size := ⟨_, rfl⟩
  rw [← hg] at H0 ⊢
  clear hg
  refine (H0.out.listen true).mono ?_
  rintro e1 w1 ⟨rfl, h⟩
  have H1 := Aside0.mk h
  clear h H0
  go_wp2_with fail
  refine (H1.out.con_yes (by decide) (by decide) (by decide) rfl rfl).mono ?_
  rintro e2 w2 ⟨rfl, h⟩
  have H2 := Aside0.mk (show HF w _ ⟨true, true, ⟨#[]⟩, false, 0, [⟨#[]⟩], 1⟩ w2 from h)
  clear h H1
  have hcan : (HS.mk true true ⟨#[]⟩ false 0 [⟨#[]⟩] 1).can said = true := by
    simp only [HS.can, Bool.true_and, decide_eq_true_eq]
    have : (ByteArray.mk #[]).size = 0 := rfl
    omega
  go_wp2_with fail
  have hs1 := H2.out.say1 said (by decide) (by omega)
  rw [hcan, if_pos rfl] at hs1
  refine hs1.mono ?_
  clear hs1 hcan
  rintro e3 w3 ⟨rfl, h⟩
  have H3 := Aside0.mk (show HF w _ ⟨true, true, said, false, 0, [⟨#[]⟩], 1⟩ w3 by
    have e : (ByteArray.mk #[]) ++ said = said := by apply str_ext; simp [ByteArray.data_append]
    rw [← e]
    exact h)
  clear h H2
  have hpk : ∀ p, p < said.size → pk (said.extract p said.size) (n : Int) = min n (said.size - p) := by
    intro p hp
    have e : (said.extract p said.size).size = said.size - p := by simp
    unfold pk
    rw [e]
    omega
  have HP := Aside0.mk hpk
  clear hpk
  go_upto_block 0 with (fail)
  go_cut [10, 11] from 59 to 74 (fun v10 v11 wc => v10 = .string said ∧ Aside0 (HF w g ⟨true, true, ⟨#[]⟩, false, 0, [⟨#[]⟩], 1⟩ wc))
  case first =>
    go_wp2_with fail
    go_loopg [10, 11] 700 (fun kq v10 v11 wr => ∃ (i p : Nat) (G : ByteArray), v10 = .string G ∧ v11 = .int .i64 (i : Int) ∧ Aside0 (i ≤ 700 ∧ kq = 700 - i ∧ p = min (i * n) said.size ∧ G = said.extract 0 p) ∧ Aside0 (HF w g ⟨true, true, said.extract p said.size, false, 0, [⟨#[]⟩], 1⟩ wr))
    case atStart => exact ⟨0, 0, _, rfl, rfl, ⟨by omega, rfl, by simp, (ex_none said).symm⟩, ⟨by rw [ex_whole]; exact H3.out⟩⟩
    case round =>
      obtain ⟨i, p, G, rfl, rfl, HA, HH⟩ := hrel
      have hi0 : (0 : Int) ≤ (i : Int) := Int.natCast_nonneg _
      have hin : i ≤ i * n := Nat.le_mul_of_pos_right _ (by omega)
      have hGp : G.size = p := by rw [HA.out.2.2.2]; simp; have := HA.out.2.2.1; omega
      have hpp := HA.out.2.2.1
      by_cases hp : p < said.size
      · have hi : i < 700 := by omega
        have hiI : (i : Int) < 700 := by omega
        have hG : G.size < said.size := by omega
        have hGI : (G.size : Int) < (said.size : Int) := by omega
        obtain ⟨k, hk⟩ : ∃ k, k = min n (said.size - p) := ⟨_, rfl⟩
        have hpk : p + k ≤ said.size := by omega
        have hpk2 : p + k = min ((i + 1) * n) said.size := by rw [Nat.succ_mul]; omega
        have hrd := HH.out.rd (n : Int) (by simp; omega)
        rw [HP.out p hp, ← hk] at hrd
        dsimp only at hrd
        rw [ex_ex said p k hpk, ex_tail said p k hpk] at hrd
        have HRD := Aside0.mk hrd
        obtain ⟨R, hR⟩ := (⟨_, rfl⟩ : ∃ R, R = said.extract p (p + k))
        have hRs : R.size ≤ 600 := by rw [hR]; simp; omega
        have hGR : G ++ R = said.extract 0 (p + k) := by rw [hR, HA.out.2.2.2, ex_app said p k hpk]
        rw [← hR] at HRD
        have HGR := Aside0.mk hGR
        have HPK := Aside0.mk (And.intro hpk2 hk)
        clear hrd hpk hpk2 hk hR hGR hpp hGp hin
        go_wp2_with fail
        refine HRD.out.mono ?_
        rintro e4 w4 ⟨rfl, h⟩
        have H4 := Aside0.mk h
        clear h
        have hsz : G.size + R.size ≤ 9223372036854775807 := by omega
        go_wp2_with fail
        go_roundg (700 - (i + 1))
        case measure => have := HA.out.2.1; omega
        case rel => exact ⟨i + 1, p + k, _, rfl, by go_num, ⟨by omega, rfl, HPK.out.1, HGR.out⟩, H4⟩
      · have hps : p = said.size := by omega
        have hGs : G = said := by rw [HA.out.2.2.2, hps, ex_whole]
        have H4 := Aside0.mk (show HF w g ⟨true, true, ⟨#[]⟩, false, 0, [⟨#[]⟩], 1⟩ wr by
          have e : said.extract p said.size = ⟨#[]⟩ := by rw [hps]; apply str_ext; rw [ex_list]; simp
          have k := HH.out
          rw [e] at k
          exact k)
        clear hps hpp hGp hin HH HA hp
        subst hGs
        have hlt : ¬ (G.size < G.size) := by omega
        go_wp2_with fail
        all_goals
          go_meet
          case rel => exact ⟨rfl, H4⟩
  case rest =>
    obtain ⟨rfl, H4⟩ := hcut
    clear H3 HP
    go_wp2_with fail
    refine (H4.out.rm (room : Int)).mono ?_
    rintro e5 w5 ⟨rfl, h⟩
    have H5 := Aside0.mk (show HF w g ⟨true, true, ⟨#[]⟩, true, (room : Int), [⟨#[]⟩], 1⟩ w5 by
      rw [show max (room : Int) 0 = (room : Int) by omega, show decide (0 ≤ (room : Int)) = true by simp] at h
      exact h)
    clear h H4
    obtain ⟨T, hT⟩ : ∃ T, T = min written.size room := ⟨_, rfl⟩
    have HT := Aside0.mk hT
    clear hT
    go_upto_block 2 with (fail)
    go_cut [12, 13, 14] from 78 to 103 (fun v12 v13 v14 wc => v12 = .int .i64 (T : Int) ∧ Aside0 (HF w g ⟨true, true, ⟨#[]⟩, true, (room : Int) - (T : Int), [written.extract 0 T], 1⟩ wc))
    case first =>
      go_wp2_with fail
      go_loopg [12, 13, 14] 700 (fun kq v12 v13 v14 wr => ∃ (i t : Nat), v12 = .int .i64 (t : Int) ∧ v13 = .int .i64 (i : Int) ∧ Aside0 (i ≤ 700 ∧ kq = 700 - i ∧ t = min (i * n) T) ∧ Aside0 (HF w g ⟨true, true, ⟨#[]⟩, true, (room : Int) - (t : Int), [written.extract 0 t], 1⟩ wr))
      case atStart => exact ⟨0, 0, rfl, rfl, ⟨by omega, rfl, by simp⟩, ⟨by rw [ex_none]; simpa using H5.out⟩⟩
      case round =>
        obtain ⟨i, t, rfl, rfl, HA, HH⟩ := hrel
        have hi0 : (0 : Int) ≤ (i : Int) := Int.natCast_nonneg _
        have ht0 : (0 : Int) ≤ (t : Int) := Int.natCast_nonneg _
        have hin : i ≤ i * n := Nat.le_mul_of_pos_right _ (by omega)
        have htt := HA.out.2.2
        have hTT := HT.out
        by_cases ht : t < written.size
        · have htI : (t : Int) < (written.size : Int) := by omega
          obtain ⟨m, hm⟩ : ∃ m, m = min (t + n) written.size := ⟨_, rfl⟩
          have hmI : min ((t : Int) + (n : Int)) (written.size : Int) = (m : Int) := by omega
          have htm : t ≤ m := by omega
          have htmI : (t : Int) ≤ (m : Int) := by omega
          have hms : m ≤ written.size := by omega
          have hmsI : (m : Int) ≤ (written.size : Int) := by omega
          obtain ⟨k, hk⟩ : ∃ k, k = min (m - t) (room - t) := ⟨_, rfl⟩
          have hwr := HH.out.wr (written.extract t m) [] (written.extract 0 t) rfl rfl (by simp) (by simp; omega) (by simp; omega) (by dsimp only; omega) (by dsimp only; omega)
          have htk : (HS.mk true true ⟨#[]⟩ true ((room : Int) - (t : Int)) [written.extract 0 t] 1).takes (written.extract t m).size = k := by
            simp only [HS.takes, if_true]
            simp
            omega
          have hex : written.extract 0 t ++ (written.extract t m).extract 0 k = written.extract 0 (t + k) := by
            rw [← ex_app written t k (by omega)]
            congr 1
            apply str_ext
            rw [ex_list, ex_list, ex_list, List.drop_zero, List.take_drop, List.take_take]
            congr 2
            omega
          rw [htk] at hwr
          simp only [List.nil_append] at hwr
          rw [hex] at hwr
          have hleft : (HS.mk true true ⟨#[]⟩ true ((room : Int) - (t : Int)) [written.extract 0 t] 1).left (k : Int) = (room : Int) - ((t + k : Nat) : Int) := by
            simp only [HS.left, if_true]
            omega
          rw [hleft] at hwr
          have HWR := Aside0.mk hwr
          clear hwr htk hex hleft
          by_cases hr : t < room
          · have hi : i < 700 := by omega
            have hiI : (i : Int) < 700 := by omega
            have hk0 : 0 < k := by omega
            have hk0I : (0 : Int) < (k : Int) := by omega
            have hkb : k ≤ 600 := by omega
            have hnx := Aside0.mk (show t + k = min ((i + 1) * n) T by rw [Nat.succ_mul]; omega)
            clear htt hTT hm hk hin
            go_wp2_with fail
            refine HWR.out.mono ?_
            rintro e6 w6 ⟨rfl, h⟩
            have H6 := Aside0.mk h
            clear h
            go_wp2_with fail
            go_roundg (700 - (i + 1))
            case measure => have := HA.out.2.1; omega
            case rel => exact ⟨i + 1, t + k, by go_num, by go_num, ⟨by omega, rfl, hnx.out⟩, H6⟩
          · have hk0 : k = 0 := by omega
            have hT2 : T = t := by omega
            have hi : i ≤ 700 := HA.out.1
            clear htt hTT hm hk hin
            subst hk0
            subst hT2
            go_wp2_with fail
            · refine HWR.out.mono ?_
              rintro e6 w6 ⟨rfl, h⟩
              have H6 := Aside0.mk h
              clear h
              go_wp2_with fail
              go_meet
              case rel => exact ⟨rfl, H6⟩
            · go_wp2_with fail
              go_meet
              case rel => exact ⟨rfl, HH⟩
        · have hT2 : T = t := by omega
          have htI : ¬ (t : Int) < (written.size : Int) := by omega
          clear htt hTT hin
          subst hT2
          go_wp2_with fail
          all_goals
            go_meet
            case rel => exact ⟨rfl, HH⟩
    case rest =>
      obtain ⟨rfl, H6⟩ := hcut
      clear H5
      go_wp2_with fail
      refine (H6.out.brk).mono ?_
      rintro e7 w7 ⟨rfl, h⟩
      have H7 := Aside0.mk h
      clear h H6
      go_wp2_with fail
      refine (H7.out.wr_down ⟨#[120]⟩ rfl).mono ?_
      rintro e8 w8 ⟨rfl, rfl⟩
      go_wp2_with fail
      have hs := H7.out.say1 ⟨#[120]⟩ (by dsimp only; decide) (by decide)
      rw [show (HS.mk true false ⟨#[]⟩ true ((room : Int) - (T : Int)) [written.extract 0 T] 1).can ⟨#[120]⟩ = false from rfl] at hs
      refine hs.mono ?_
      clear hs
      rintro e9 w9 ⟨rfl, h⟩
      have H9 := Aside0.mk h
      clear h H7
      go_wp2_with fail
      refine (H9.out.con_yes (by dsimp only; decide) (by dsimp only; decide) (by simp) rfl rfl).mono ?_
      rintro e10 w10 ⟨rfl, h⟩
      have H10 := Aside0.mk h
      clear h H9
      go_wp2_with fail
      refine (H10.out.hrd (by simp)).mono ?_
      rintro e11 w11 ⟨⟨v11, rfl, hr11⟩, h⟩
      have H11 := Aside0.mk h
      dsimp only at hr11
      rcases row_form hr11 with ⟨_, h2, _⟩ | ⟨b, c, rfl, hbc, _, _, _, hc, _⟩
      · cases h2
      have x0 := hc 0 _ rfl
      have x1 := hc 1 _ rfl
      have hbc2 : 2 ≤ c := hbc
      clear h H10 hr11 hc hbc
      rw [show ([written.extract 0 T] ++ [ByteArray.mk #[]] : List ByteArray).length = 2 from rfl]
      have hmin : min (written.size : Int) (room : Int) = (T : Int) := by have := HT.out; omega
      have hTI : (T : Int) ≤ (written.size : Int) := by omega
      have hT0 : (0 : Int) ≤ (T : Int) := Int.natCast_nonneg _
      go_wp2_with fail
      go_quiet (fail)
      go_wp2
      go_ret
      exact ⟨rfl, H11.out.bel.os, H11.out.bel.tape, H11.out.bel.output, H11.out.bel.size, H11.out.bel.block⟩
set_option maxHeartbeats 2000000 in
set_option maxRecDepth 100000 in
theorem hflows_over (said written : ByteArray) (n room : Int) (w : World) (h : 600 < (said.size : Int) ∨ 600 < (written.size : Int) ∨ n < 1 ∨ 100 < n ∨ room < 0 ∨ 700 < room) :
    Calls Try.prog 7 #[.string said, .string written, .int .i64 n, .int .i64 room] w fun r w' => r = .returned (.bool true) ∧ Below w.heap.size w w' := by
  rcases h with h | h | h | h | h | h
  all_goals
    go_enter Try.func7, Try.ntmps7
    go_wp2_with fail
    all_goals
      refine (alive25 _).mono ?_
      rintro e0 w0 ⟨rfl, hb0⟩
      go_wp2
      go_ret
      exact ⟨rfl, hb0⟩
theorem hostFlows_walk (said written : ByteArray) (n room : Int) (w : World) (h1 : said.size ≤ 140737488351232) (h2 : written.size ≤ 140737488351232) (h3 : (Lit.int .i64 n).wf = true) (h4 : (Lit.int .i64 room).wf = true) :
    Calls Try.prog 7 #[.string said, .string written, .int .i64 n, .int .i64 room] w fun r w' => r = .returned (.bool true) ∧ Below w.heap.size w w' := by
  by_cases h : 600 < (said.size : Int) ∨ 600 < (written.size : Int) ∨ n < 1 ∨ 100 < n ∨ room < 0 ∨ 700 < room
  · exact hflows_over said written n room w h
  · obtain ⟨a, rfl⟩ := Int.eq_ofNat_of_zero_le (show 0 ≤ n by omega)
    obtain ⟨b, rfl⟩ := Int.eq_ofNat_of_zero_le (show 0 ≤ room by omega)
    exact hflows_live said written a b w (by omega) (by omega) (by omega) (by omega) (by omega)
end Go.Proofs.Ytmdhiimgeocgeaa.Host
