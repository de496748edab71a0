/- The document's Take of events. Conditions: those in each theorem. -/
import Derived.Test.YtjjjinpmflghmaaRefKA
import Derived.Test.YtjjjinpmflghmaaKeyTake
namespace Go.Proofs.Ytjjjinpmflghmaa.Keys
open Go.RowKit Go.Proofs.Ytjjjinpmflghmaa.Mem Go.Proofs.Ytjjjinpmflghmaa.Row Go.Proofs.YtjjjinpmflghmaaW.PrintWords Go.Proofs.YtjjjinpmflghmaaW.PrintMore Go.Proofs.YtjjjinpmflghmaaW.PrintLast Go.Proofs.Ytjjjinpmflghmaa.PKeysPlay
set_option linter.unusedVariables false
set_option linter.unusedSimpArgs false
set_option maxHeartbeats 4000000 in
set_option maxRecDepth 100000 in
theorem rtake_calls (g : Nat) (A : Option Addr) (c : Nat) (l es : List E4) (a first : Int) (ad : Addr) (ce n : Nat) (w : World) (h : IsR w g 69 A c l a) (hn : es.length = n) (hsrc : BookEv.Src w (some ad) es.length es) (hce : n ≤ ce) (hg : ad.block ≠ g)
    (ha : 0 ≤ a) (ha2 : a ≤ 1000000000000) (hl : l.length ≤ 40) (hnl : n ≤ 100000) (hf1 : -2000000000000 ≤ first) (hf2 : first ≤ 2000000000000) :
    Calls Try.prog 32 #[.pointer (some ⟨g, 0, none⟩), .int .i64 first, .slice (some ad) n ce] w fun r w' => r = .returned (.int .i64 (a + ((l ++ takeE first 0 l.length (a + l.length) es).length : Int))) ∧ ∃ A' c', Aside0 (IsR w' g 69 A' c' (l ++ takeE first 0 l.length (a + l.length) es) a) ∧ Aside0 (Only [g] w w') ∧ Aside0 (Whence w A A' l (l ++ takeE first 0 l.length (a + l.length) es)) := by
  have HN := Aside0.mk hn
  have HSRC := Aside0.mk hsrc
  have HG := Aside0.mk hg
  have HR0 := Aside0.mk h
  clear h hn hsrc hg
  go_enter Try.func32, Try.ntmps32
  go_wp2_with fail
  go_loopg [7] n (fun kq v7 wr => ∃ (i : Nat) (q : List E4) (A' : Option Addr) (c' : Nat), v7 = .int .i64 (i : Int) ∧ Aside0 (i ≤ n ∧ kq = n - i ∧ (q.length ≤ 40) ∧ (i = 0 ∨ first + i ≤ a + q.length + 1) ∧ l ++ takeE first 0 l.length (a + l.length) es = q ++ takeE first i q.length (a + q.length) (es.drop i)) ∧ Aside0 (IsR wr g 69 A' c' q a) ∧ Aside0 (Only [g] w wr) ∧ Aside0 (Whence w A A' l q))
  case atStart => exact ⟨0, l, A, c, rfl, ⟨Nat.zero_le _, rfl, hl, .inl rfl, by simp⟩, HR0, ⟨Only.refl _ _⟩, ⟨.inl ⟨rfl, by simp⟩⟩⟩
  case round =>
    obtain ⟨i, q, A', c', rfl, ⟨hi, hkq, hq40, hst, hadd⟩, HR, HO, HA'⟩ := hrel
    have HK := Aside0.mk hkq
    have HA := Aside0.mk hadd
    have HST := Aside0.mk hst
    have hi0 : (0 : Int) ≤ (i : Int) := Int.natCast_nonneg _
    clear hkq hadd hst
    by_cases hlt : i < n
    · obtain ⟨e, he⟩ : ∃ e, es[i]? = some e := ⟨es[i]'(by have := HN.out; omega), by simp⟩
      have HE := Aside0.mk he
      have hiI : (i : Int) < (n : Int) := by omega
      have hw2 : IntKind.i64.wrap (first + (i : Int)) = first + (i : Int) := IntWalk.i64_in _ (by omega)
      have hw1 : IntKind.i64.wrap (a + (q.length : Int) + 1) = a + (q.length : Int) + 1 := IntWalk.i64_in _ (by omega)
      clear he
      go_wp2_with fail
      refine (rgot_calls _ HR.out ha (by omega) (by omega)).mono ?_
      rintro e1 w1 ⟨rfl, hb1⟩
      have HR1 := Aside0.mk (HR.out.below hb1)
      have HO1 := Aside0.mk (HO.out.below hb1)
      clear hb1 HR HO
      by_cases hb2 : first + (i : Int) ≤ a + (q.length : Int)
      · go_wp2
        go_roundg (n - (i + 1))
        case measure => have := HK.out; omega
        case rel => exact ⟨i + 1, q, A', c', by go_num, ⟨by omega, rfl, hq40, by omega, by rw [HA.out, drop_at HE.out, takeE, if_neg (by have := HST.out; omega), if_pos (by omega)]; simp⟩, HR1, HO1, HA'⟩
      · go_wp2_with fail
        refine (rgot_calls _ HR1.out ha (by omega) (by omega)).mono ?_
        rintro e1 w1' ⟨rfl, hb1⟩
        have HR3 := Aside0.mk (HR1.out.below hb1)
        have HO3 := Aside0.mk (HO1.out.below hb1)
        clear hb1 HR1 HO1
        by_cases hb3 : a + (q.length : Int) + 1 < first + (i : Int)
        · go_wp2_with fail
          refine (rgot_calls _ HR3.out ha (by omega) (by omega)).mono ?_
          rintro e9 w9 ⟨rfl, hb9⟩
          go_wp2
          go_ret
          have hE : l ++ takeE first 0 l.length (a + l.length) es = q := by rw [HA.out, drop_at HE.out, takeE, if_pos (by have := HST.out; omega)]; simp
          rw [hE]
          first | exact ⟨rfl, A', c', ⟨HR3.out.below hb9⟩, ⟨HO3.out.below hb9⟩, HA'⟩ | exact ⟨rfl, A', ⟨c', ⟨HR3.out.below hb9⟩⟩, ⟨HO3.out.below hb9⟩, HA'⟩
        · have hb3I : first + (i : Int) ≤ a + (q.length : Int) + 1 := by omega
          obtain ⟨q0, q1, q2, q3⟩ := src_four (HSRC.out.only HO3.out (fun x hx => by injection hx with hx; rw [← hx]; simpa using HG.out)) HE.out
          go_wp2_with fail
          refine (refEv_calls e _).mono ?_
          rintro e2 w2 ⟨rfl, hb2'⟩
          have HR2 := Aside0.mk (HR3.out.below hb2')
          have HO2 := Aside0.mk (HO3.out.below hb2')
          have hq : w2.cell? ⟨g, 0, none⟩ = some (.slice A' q.length c') := (HR2.out.blk.cell 0).trans rfl
          clear hb2' HR3 HO3 q0 q1 q2 q3
          cases hok : okE e with
          | false =>
            go_wp2_with fail
            refine (rgot_calls _ HR2.out ha (by omega) (by omega)).mono ?_
            rintro e9 w9 ⟨rfl, hb9⟩
            go_wp2
            go_ret
            have hE : l ++ takeE first 0 l.length (a + l.length) es = q := by rw [HA.out, drop_at HE.out, takeE, if_neg (by have := HST.out; omega), if_neg (by omega), if_neg (by rw [hok]; simp)]; simp
            rw [hE]
            first | exact ⟨rfl, A', c', ⟨HR2.out.below hb9⟩, ⟨HO2.out.below hb9⟩, HA'⟩ | exact ⟨rfl, A', ⟨c', ⟨HR2.out.below hb9⟩⟩, ⟨HO2.out.below hb9⟩, HA'⟩
          | true =>
            by_cases hroom : q.length < 40
            · have hroomI : (q.length : Int) < 40 := by omega
              have HRD := Aside0.mk (HR2.out.below (below_drew (Below.refl w2.heap.size w2)))
              have hsD := HRD.out.src
              have hlc := HRD.out.lc
              have hl2 : (q ++ [e]).length = q.length + 1 := by simp
              obtain ⟨v4, w4, hr4, hb4, v7, w7, hr7, ho7, hb7⟩ := app_a w2.drew A' q.length c' q e hsD hlc (by omega)
              obtain ⟨v5, w5, hr5, hb5, v6, w6, hr6, ho6, hb6⟩ := app_b w2.drew A' q.length c' q e hsD hlc (by omega)
              obtain ⟨A7, C7, rfl⟩ := row_sl ho7
              obtain ⟨A6, C6, rfl⟩ := row_sl ho6
              have HSR2 := HSRC.out.only HO2.out (fun x hx => by injection hx with hx; rw [← hx]; simpa using HG.out)
              obtain ⟨q0, q1, q2, q3⟩ := src_four HSR2 HE.out
              obtain ⟨p0, p1, p2, p3⟩ := src_four (HSR2.below ((below_drew (Below.refl w2.heap.size w2)).trans (hb4.mono (Nat.le_refl _)))) HE.out
              have hqb : (w2.alloc (.cells #[.int .i64 e.k, .string e.s, .int .i64 e.x, .int .i64 e.y] 38)).cell? ⟨g, 0, none⟩ = some (.slice A' q.length c') := ((HR2.out.blk.alloc _).cell 0).trans rfl
              have hqa : (w2.drew.alloc (litE e)).cell? ⟨g, 0, none⟩ = some (.slice A' q.length c') := ((HRD.out.blk.alloc _).cell 0).trans rfl
              have c7 : w7.cell? ⟨g, 0, none⟩ = some (.slice A' q.length c') := ((HRD.out.blk.below' hb7).cell 0).trans rfl
              have c6 : w6.cell? ⟨g, 0, none⟩ = some (.slice A' q.length c') := ((HRD.out.blk.below' hb6).cell 0).trans rfl
              have f7 := (HRD.out.blk.below' hb7).frozen 0
              have f6 := (HRD.out.blk.below' hb6).frozen 0
              have HG7 := Aside0.mk (HRD.out.grown (l2 := q ++ [e]) (A1 := A7) (A1c := C7) hb7 (by rw [hl2]; exact ho7))
              have HG6 := Aside0.mk (HRD.out.grown (l2 := q ++ [e]) (A1 := A6) (A1c := C6) hb6 (by rw [hl2]; exact ho6))
              have HR4 := Aside0.mk hr4
              have HR5 := Aside0.mk hr5
              have HR6 := Aside0.mk hr6
              have HR7 := Aside0.mk hr7
              rw [hl2] at HG7 HG6
              clear hr4 hr5 hr6 hr7 ho6 ho7 hb4 hb5 hb6 hb7 hsD HSR2 hl2 hlc
              go_upto_region 7 with (fail)
              go_region_law (first
                | refine step_append_of (by kernel_rfl) (.const (.slice none 0 0)) (.tmp 47) 24 _ _ rfl rfl rfl HR4.out ?_
                | refine step_append_of (by kernel_rfl) (.const (.slice none 0 0)) (.tmp 47) 24 _ _ rfl rfl rfl HR5.out ?_
                | refine step_append_of (by kernel_rfl) (.tmp 48) (.tmp 53) 24 _ _ rfl rfl rfl HR7.out ?_
                | refine step_append_of (by kernel_rfl) (.tmp 48) (.tmp 53) 24 _ _ rfl rfl rfl HR6.out ?_)
              all_goals
                go_wp2
                go_roundg (n - (i + 1))
                case measure => have := HK.out; omega
                case rel => first
                  | exact ⟨i + 1, q ++ [e], A7, C7, by go_num, ⟨by omega, rfl, by simp; omega, by simp; omega, by rw [HA.out, drop_at HE.out, takeE, if_neg (by have := HST.out; omega), if_neg (by omega), if_pos ⟨hok, hroom⟩, List.append_assoc]; simp [Int.add_assoc]⟩, ⟨HG7.out.1⟩, ⟨HO2.out.drew.trans HG7.out.2.1⟩, ⟨.inr ⟨by simp, fun x hx => Nat.le_trans HO2.out.size (HG7.out.2.2 x hx)⟩⟩⟩
                  | exact ⟨i + 1, q ++ [e], A6, C6, by go_num, ⟨by omega, rfl, by simp; omega, by simp; omega, by rw [HA.out, drop_at HE.out, takeE, if_neg (by have := HST.out; omega), if_neg (by omega), if_pos ⟨hok, hroom⟩, List.append_assoc]; simp [Int.add_assoc]⟩, ⟨HG6.out.1⟩, ⟨HO2.out.drew.trans HG6.out.2.1⟩, ⟨.inr ⟨by simp, fun x hx => Nat.le_trans HO2.out.size (HG6.out.2.2 x hx)⟩⟩⟩
            · have hroomI : ¬ (q.length : Int) < 40 := by omega
              go_wp2_with fail
              refine (rgot_calls _ HR2.out ha (by omega) (by omega)).mono ?_
              rintro e9 w9 ⟨rfl, hb9⟩
              go_wp2
              go_ret
              have hE : l ++ takeE first 0 l.length (a + l.length) es = q := by rw [HA.out, drop_at HE.out, takeE, if_neg (by have := HST.out; omega), if_neg (by omega), if_neg (by omega)]; simp
              rw [hE]
              first | exact ⟨rfl, A', c', ⟨HR2.out.below hb9⟩, ⟨HO2.out.below hb9⟩, HA'⟩ | exact ⟨rfl, A', ⟨c', ⟨HR2.out.below hb9⟩⟩, ⟨HO2.out.below hb9⟩, HA'⟩
    · have hiI : ¬ (i : Int) < (n : Int) := by omega
      go_wp2_with fail
      refine (rgot_calls _ HR.out ha (by omega) (by omega)).mono ?_
      rintro e9 w9 ⟨rfl, hb9⟩
      go_wp2
      go_ret
      have hE : l ++ takeE first 0 l.length (a + l.length) es = q := by rw [HA.out, List.drop_of_length_le (by have := HN.out; omega)]; simp [takeE]
      rw [hE]
      first | exact ⟨rfl, A', c', ⟨HR.out.below hb9⟩, ⟨HO.out.below hb9⟩, HA'⟩ | exact ⟨rfl, A', ⟨c', ⟨HR.out.below hb9⟩⟩, ⟨HO.out.below hb9⟩, HA'⟩
end Go.Proofs.Ytjjjinpmflghmaa.Keys
