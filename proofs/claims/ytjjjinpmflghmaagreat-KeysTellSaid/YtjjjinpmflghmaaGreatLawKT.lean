/- The walk of KeysTell. Conditions: those in each theorem. -/
import Derived.Test.YtjjjinpmflghmaaGreatEvArg
import Derived.Test.YtjjjinpmflghmaaGreatRefEvs
import Derived.Test.YtjjjinpmflghmaaGreatMC
import Derived.OpenShut
namespace Go.Proofs.YtjjjinpmflghmaaGreat.Keys
open Go.RowKit Go.Proofs.YtjjjinpmflghmaaGreat.Mem Go.Proofs.YtjjjinpmflghmaaGreat.Row Go.Proofs.YtjjjinpmflghmaaGreat.Obj Go.Proofs.YtjjjinpmflghmaaGreatW.PrintWords Go.Proofs.YtjjjinpmflghmaaGreatW.PrintMore Go.Proofs.YtjjjinpmflghmaaGreatW.PrintLast Go.Proofs.YtjjjinpmflghmaaGreat.PKeysTell
open Go.Proofs.YtjjjinpmflghmaaGreat.BookEv (BK LS foot mem_foot Own Src Lent)
set_option linter.unusedVariables false
set_option linter.unusedSimpArgs false
theorem layB_len {l : List E4} (h : AllOk l) (hl : l.length ≤ 100) : (layB l).length ≤ 5000 := by
  have h1 := evsB_len h
  have h2 := numB_len9 (show l.length < 9223372036854775808 by omega)
  unfold layB
  rw [List.length_append]
  omega
theorem all_snoc {l : List E4} {i : Nat} {e : E4} (he : l[i]? = some e) : (l.take (i + 1)).all okE = ((l.take i).all okE && okE e) := by
  rw [take_at he, List.all_append]
  simp
theorem KT.new {w0 w : World} {gm cm : Nat} {l : List E4} (h : Lent w w0.heap.size gm cm l) (hb : Below w0.heap.size w0 w) :
    KT w0 gm cm w.heap.size l (.slice none 0 0) (.slice none 0 0) [] [] (w.alloc (.cells (BookEv.bookCells (.slice none 0 0) (.slice none 0 0)) 42)) := by
  have hbl := below_alloc (Below.refl w.heap.size w) (.cells (BookEv.bookCells (.slice none 0 0) (.slice none 0 0)) 42)
  have hl := h.lt
  have hs := hb.size
  refine ⟨h.below hbl, BK.new (Blk.new _ _ _), fun b hm => ?_, fun hm => ?_, below_step hb hbl, rfl⟩
  · simp [foot, Value.ownBlock] at hm
    omega
  · simp [foot, Value.ownBlock] at hm
    omega
set_option maxHeartbeats 16000000 in
set_option maxRecDepth 100000 in
theorem ktell_live (A : Option Addr) (c : Nat) (l : List E4) (b : ByteArray) (w : World) (h : Src w A l.length l) (hc : l.length ≤ c) (hn : l.length ≤ 60) (hb : b.size ≤ 600) :
    Calls Tryz.prog 3 #[.slice A l.length c, .string b] w fun r w' => r = .returned (.bool true) ∧ Below w.heap.size w w' := by
  have HS := Aside0.mk h
  have HC := Aside0.mk hc
  obtain ⟨N, hN⟩ : ∃ N, N = l.length := ⟨_, rfl⟩
  have hN60 : ¬ (60 < (N : Int)) := by omega
  have hN60N : N ≤ 60 := by omega
  have hbI : ¬ (600 < (b.size : Int)) := by omega
  have HBS := Aside0.mk hb
  have HN := Aside0.mk hN
  rw [← hN]
  clear h hc hn hb hN
  go_enter Tryz.func3, Tryz.ntmps3
  go_wp2_with fail
  refine (alive20 _).mono ?_
  rintro e0 w0 ⟨rfl, hb0⟩
  have HB0 := Aside0.mk hb0
  clear hb0
  go_upto_block 0 with (fail)
  go_wp2_with fail
  go_loopg [5, 6] N (fun kq v5 v6 wr => ∃ (i : Nat) (rt : Bool), v5 = .bool rt ∧ v6 = .int .i64 (i : Int) ∧ Aside0 (i ≤ N ∧ kq = N - i ∧ rt = (l.take i).all okE) ∧ Aside0 (Below w.heap.size w wr))
  case atStart => exact ⟨0, true, rfl, rfl, ⟨Nat.zero_le _, rfl, by simp⟩, HB0⟩
  case round =>
    obtain ⟨i, rt, rfl, rfl, HI, HB⟩ := hrel
    clear HB0
    have hi0 : (0 : Int) ≤ (i : Int) := Int.natCast_nonneg _
    by_cases hlt : i < N
    · skip
      -- @blk l1
      have hltI : (i : Int) < (N : Int) := by omega
      obtain ⟨e, he⟩ : ∃ e, l[i]? = some e := ⟨l[i]'(by rw [← HN.out]; exact hlt), by simp⟩
      have HE := Aside0.mk he
      obtain ⟨ad, hA⟩ : ∃ ad, A = some ad := by
        rcases HS.out.2 with h0 | ⟨ad, hA, _⟩
        · have := HN.out; omega
        · exact ⟨ad, hA⟩
      subst hA
      obtain ⟨y0, y1, y2, y3⟩ := src_four (HS.out.below HB.out) he
      have HVL := Aside0.mk (keys_Valid.calls e.k e.s e.x e.y (okE e))
      have HV := Aside0.mk (valid_some e)
      clear he
      by_cases h200 : 200 < (e.s.size : Int)
      · go_wp2
        go_ret
        exact ⟨rfl, HB.out⟩
      · go_wp2_with fail
        refine (refEv_calls e wr).mono ?_
        rintro e1 w1 ⟨rfl, hb1⟩
        have HB1 := Aside0.mk (below_step HB.out hb1)
        clear y0 y1 y2 y3 hb1
        obtain ⟨y0, y1, y2, y3⟩ := src_four (HS.out.below HB1.out) HE.out
        obtain ⟨ok, hok⟩ : ∃ ok, ok = okE e := ⟨_, rfl⟩
        have HOK := Aside0.mk hok
        rw [← hok] at HVL HV ⊢
        clear hok HB
        have HRT := Aside0.mk (show (rt && ok) = (l.take (i + 1)).all okE by rw [all_snoc HE.out, ← HI.out.2.2, HOK.out])
        cases rt <;> cases ok
        all_goals
          go_wp2_with fail
          refine (HVL.out _ HV.out).mono ?_
          rintro e2 w2 ⟨rfl, hb2⟩
          have HB2 := Aside0.mk (below_step HB1.out hb2)
          clear y0 y1 y2 y3 hb2
          go_wp2
          go_roundg (N - (i + 1))
          case measure => have := HI.out.2.1; omega
          case rel => exact ⟨i + 1, _, rfl, by go_num, ⟨by omega, rfl, by have := HRT.out; simpa using this⟩, HB2⟩
      -- @end
    · have hltI : ¬ (i : Int) < (N : Int) := by omega
      have hiN : l.take i = l := List.take_of_length_le (by have := HN.out; omega)
      have HRT := Aside0.mk (show rt = l.all okE by have := HI.out.2.2; rwa [hiN] at this)
      clear hiN
      have hlent := BookEv.lent_calls A N c l wr (by have := HS.out.below HB.out; rwa [← HN.out] at this) (by have := HC.out; have := HN.out; omega) (by omega)
      have HLENT := Aside0.mk hlent
      clear hlent
      go_wp2_with fail
      refine HLENT.out.mono ?_
      rintro e1 w1 ⟨gm, cm, rfl, hle, hb1⟩
      have HLE := Aside0.mk (show Lent w1 w.heap.size gm cm l from ⟨Nat.le_trans HB.out.size hle.1, hle.2⟩)
      have HB1 := Aside0.mk (below_step HB.out hb1)
      clear hle hb1 HB HLENT
      have hlay := klay_calls (some ⟨gm, 0, none⟩) cm l w1 HLE.out.src (by have := HLE.out.2.1; omega) (by have := HN.out; omega)
      rw [← HN.out] at hlay
      have HLAY := Aside0.mk hlay
      clear hlay
      go_wp2_with fail
      refine HLAY.out.mono ?_
      rintro e2 w2 ⟨rfl, hb2⟩
      have HLE2 := Aside0.mk (HLE.out.below hb2)
      have HB2 := Aside0.mk (below_step HB1.out hb2)
      clear hb2 HLE HB1 HLAY
      obtain ⟨S, hS⟩ : ∃ S, S = layS l := ⟨_, rfl⟩
      obtain ⟨X, hX⟩ : ∃ X, X = layX l := ⟨_, rfl⟩
      have HSX := Aside0.mk (And.intro hS hX)
      rw [← hS, ← hX]
      clear hS hX
      go_upto_region 15 with (fail)
      go_cut [90] from 68 to 90 (fun v90 wc => v90 = .bool false ∧ Aside0 (Lent wc w.heap.size gm cm l) ∧ Aside0 (Below w.heap.size w wc))
      case first =>
        cases rt with
        | true =>
          have hall : l.all okE = true := HRT.out.symm
          obtain rfl : X = 0 := by rw [HSX.out.2, layX, if_pos hall]
          have hlv := levs_calls A c l w2 (HS.out.below HB2.out) HC.out (all_ok.1 hall) (by have := HN.out; omega)
          rw [← HN.out, show strOfNums (layB l) = S by rw [HSX.out.1, layS, if_pos hall]] at hlv
          have HLV := Aside0.mk hlv
          clear hlv hall
          go_wp2_with fail
          refine HLV.out.mono ?_
          rintro e3 w3 ⟨rfl, hb3⟩
          go_wp2
          go_meet
          case rel => exact ⟨rfl, ⟨HLE2.out.below hb3⟩, ⟨below_step HB2.out hb3⟩⟩
        | false =>
          have hall : ¬ l.all okE = true := fun h => by have := HRT.out; rw [h] at this; cases this
          obtain rfl : X = 1 := by rw [HSX.out.2, layX, if_neg hall]
          obtain rfl : S = ⟨#[]⟩ := by rw [HSX.out.1, layS, if_neg hall]
          clear hall
          go_wp2
          go_meet
          case rel => exact ⟨rfl, HLE2, HB2⟩
      case rest =>
        obtain ⟨rfl, HLE3, HB3⟩ := hcut
        clear HLE2 HB2
        have HK0 := Aside0.mk (KT.new HLE3.out HB3.out)
        go_wp2_with fail
        obtain ⟨WB, hWB⟩ : ∃ WB, WB = wc.alloc (.cells (BookEv.bookCells (.slice none 0 0) (.slice none 0 0)) 42) := ⟨_, rfl⟩
        rw [← hWB] at HK0
        change _ ; simp only [show wc.alloc (.cells #[.slice none 0 0, .slice none 0 0, .slice none 0 0, .slice none 0 0, .slice none 0 0, .slice none 0 0, .slice none 0 0, .slice none 0 0, .slice none 0 0, .slice none 0 0, .slice none 0 0, .slice none 0 0, .slice none 0 0, .slice none 0 0, .slice none 0 0, .slice none 0 0] 42) = WB from hWB.symm]
        obtain ⟨gb, hgb⟩ : ∃ gb, gb = wc.heap.size := ⟨_, rfl⟩
        rw [← hgb] at HK0 ⊢
        clear hWB hgb HLE3 HB3
        go_loopg [12] 2 (fun kq v12 wr => ∃ (k : Nat) (vx vw : Value) (L Lw : LS), v12 = .int .i64 (k : Int) ∧ Aside0 (k ≤ 2 ∧ kq = 2 - k ∧ L.length ≤ k) ∧ Aside0 (KT w gm cm gb l vx vw L Lw wr))
        case atStart => exact ⟨0, _, _, [], [], rfl, ⟨by omega, rfl, by simp⟩, HK0⟩
        case round =>
          obtain ⟨k, vx, vw, L, Lw, rfl, HKI, HK⟩ := hrel
          clear HK0
          have hk0 : (0 : Int) ≤ (k : Int) := Int.natCast_nonneg _
          by_cases hk2 : k < 2
          · skip
            -- @blk l2
            have hk2I : (k : Int) < 2 := by omega
            go_wp2_with fail
            refine (kread_calls b wr (by have := HBS.out; omega)).mono ?_
            rintro e4 w4 ⟨hra, hb4⟩
            have HB4 := Aside0.mk hb4
            by_cases hl : ∃ l', IsLay b l'
            · obtain ⟨l', hl'⟩ := hl
              have HLY := Aside0.mk hl'
              rcases hra with ⟨l1, v1, hl1, rfl, ho1⟩ | ⟨hno, _⟩
              · obtain rfl := hl1.inj hl'
                obtain ⟨A1, C1, rfl⟩ := row_sl ho1
                have HO1 := Aside0.mk ho1
                clear hl1 hl' ho1 hb4
                go_wp2_with fail
                refine (revs_calls b w4 (by have := HBS.out; omega)).mono ?_
                rintro e5 w5 ⟨hrb, hb5⟩
                rcases hrb with ⟨l2, v2, hl2, rfl, ho2⟩ | ⟨hno, _⟩
                · obtain rfl := hl2.inj HLY.out
                  obtain ⟨A2, C2, rfl⟩ := row_sl ho2
                  have HO2 := Aside0.mk ho2
                  have HO15 := Aside0.mk (HO1.out.below hb5)
                  have HB5 := Aside0.mk (HB4.out.trans (hb5.mono HB4.out.size))
                  have hl40 := HLY.out.2.1
                  have hkp := HK.out.kept HB5.out HO15.out (by omega) (by have := HKI.out; omega)
                  have HKP := Aside0.mk hkp
                  clear hl2 ho2 hb5 hkp
                  go_wp2_with fail
                  refine HKP.out.mono ?_
                  rintro e6 w6 ⟨rfl, vx6, vw6, c6, hk6, ho6, hon6⟩
                  have HK6 := Aside0.mk hk6
                  have HO6 := Aside0.mk ho6
                  have HO26 := Aside0.mk (HO2.out.only hon6 (fun k hk hm => by
                    have h1 := own_base HO2.out k hk
                    have h2 := HK.out.bk.lt k hm
                    have h3 := HB4.out.size
                    omega))
                  obtain ⟨A1', C1', he1, hlc1, hsrc1, _⟩ := HO6.out.src
                  obtain ⟨rfl, rfl⟩ : A1 = A1' ∧ C1 = C1' := by injection he1 with h1 _ h2; exact ⟨h1, h2⟩
                  obtain ⟨A2', C2', he2, hlc2, hsrc2, _⟩ := HO26.out.src
                  obtain ⟨rfl, rfl⟩ : A2 = A2' ∧ C2 = C2' := by injection he2 with h1 _ h2; exact ⟨h1, h2⟩
                  have HSM := Aside0.mk (BookEv.same_calls A1 l2.length C1 A2 l2.length C2 l2 w6 hsrc1 hlc1 hsrc2 hlc2 (by omega))
                  clear hk6 ho6 hon6 he1 hlc1 hsrc1 he2 hlc2 hsrc2 HKP
                  go_wp2_with fail
                  refine HSM.out.mono ?_
                  rintro e7 w7 ⟨rfl, n7, hw7⟩
                  have HK7 := Aside0.mk (HK6.out.below (show Below w6.heap.size w6 w7 by rw [← hw7]; exact BookEv.below_dn w6 n7))
                  clear hw7
                  go_wp2
                  go_roundg (2 - (k + 1))
                  case measure => have := HKI.out; omega
                  case rel => exact ⟨k + 1, vx6, vw6, _, _, by go_num, ⟨by omega, rfl, by have := HKI.out; simp; omega⟩, HK7⟩
                · exact absurd HLY.out (hno _)
              · exact absurd hl' (hno _)
            · rcases hra with ⟨l1, v1, hl1, _⟩ | ⟨hno, x1, hx1, rfl⟩
              · exact absurd ⟨l1, hl1⟩ hl
              · have hx1b : (x1 == 0) = false := by simpa using hx1
                clear hb4 hx1
                go_wp2_with fail
                refine (revs_calls b w4 (by have := HBS.out; omega)).mono ?_
                rintro e5 w5 ⟨hrb, hb5⟩
                rcases hrb with ⟨l2, v2, hl2, _⟩ | ⟨_, v2, l2, rfl, ho2, hl240⟩
                · exact absurd hl2 (hno _)
                · obtain ⟨A2, C2, rfl⟩ := row_sl ho2
                  have HB5 := Aside0.mk (HB4.out.trans (hb5.mono HB4.out.size))
                  have hkp := HK.out.kept HB5.out (BookEv.Own.nil w5 wr.heap.size) (by simp) (by have := HKI.out; omega)
                  have HKP := Aside0.mk hkp
                  clear ho2 hb5 hkp hl240 hno hl
                  go_wp2_with fail
                  refine HKP.out.mono ?_
                  rintro e6 w6 ⟨rfl, vx6, vw6, c6, hk6, ho6, hon6⟩
                  have HK6 := Aside0.mk hk6
                  clear hk6 ho6 hon6 HKP
                  go_wp2
                  go_roundg (2 - (k + 1))
                  case measure => have := HKI.out; omega
                  case rel => exact ⟨k + 1, vx6, vw6, _, _, by go_num, ⟨by omega, rfl, by have := HKI.out; simp; omega⟩, HK6⟩
            -- @end
          · have hk2I : ¬ (k : Int) < 2 := by omega
            -- @blk fin
            by_cases hrd : rt = true ∧ N ≤ 40
            · obtain ⟨rfl, hN40⟩ := hrd
              have hN40I : (N : Int) ≤ 40 := by omega
              have hall : l.all okE = true := HRT.out.symm
              have HLY := Aside0.mk (show IsLay S l from ⟨all_ok.1 hall, by have := HN.out; omega, by rw [HSX.out.1, layS, if_pos hall]⟩)
              have HSZ := Aside0.mk (show S.size ≤ 100000 by
                have h1 := layB_len (all_ok.1 hall) (by have := HN.out; omega)
                rw [HSX.out.1, layS, if_pos hall, strOfNums_size]
                omega)
              clear hall
              go_wp2_with fail
              refine (kread_calls S wr HSZ.out).mono ?_
              rintro e4 w4 ⟨hra, hb4⟩
              rcases hra with ⟨l1, v1, hl1, rfl, ho1⟩ | ⟨hno, _⟩
              · obtain rfl := hl1.inj HLY.out
                obtain ⟨A1, C1, rfl⟩ := row_sl ho1
                have HO1 := Aside0.mk ho1
                have HK4 := Aside0.mk (HK.out.below hb4)
                obtain ⟨A1', C1', he1, hlc1, hsrc1, _⟩ := HO1.out.src
                obtain ⟨rfl, rfl⟩ : A1 = A1' ∧ C1 = C1' := by injection he1 with h1 _ h2; exact ⟨h1, h2⟩
                have hsm := BookEv.same_calls A1 l1.length C1 A l1.length c l1 w4 hsrc1 hlc1 (HS.out.below HK4.out.bel) HC.out (by have := HN.out; omega)
                have HSM := Aside0.mk hsm
                rw [← HN.out] at HSM ⊢
                clear hl1 ho1 hb4 he1 hlc1 hsrc1 hsm
                go_wp2_with fail
                refine HSM.out.mono ?_
                rintro e7 w7 ⟨rfl, n7, hw7⟩
                have HK7 := Aside0.mk (HK4.out.below (show Below w4.heap.size w4 w7 by rw [← hw7]; exact BookEv.below_dn w4 n7))
                clear hw7
                have hst := BookEv.stays_calls w.heap.size gm cm A l1.length c l1 w7 HK7.out.lent (HS.out.below HK7.out.bel) HC.out (by have := HN.out; omega)
                rw [← HN.out] at hst
                have HST := Aside0.mk hst
                clear hst
                go_wp2_with fail
                refine HST.out.mono ?_
                rintro e8 w8 ⟨rfl, n8, hw8⟩
                have HK8 := Aside0.mk (HK7.out.below (show Below _ _ w8 by rw [← hw8]; exact BookEv.below_dn _ n8))
                clear hw8
                go_wp2_with fail
                refine (BookEv.apart_calls _ _ vx vw L Lw HK8.out.bk HK8.out.same).mono ?_
                rintro e9 w9 ⟨rfl, ho9⟩
                have HB9 := Aside0.mk (HK8.out.bel.trans (ho9.toBelow HK8.out.bel.size (fun b hb => HK8.out.ft b hb)))
                clear ho9
                go_wp2
                go_ret
                exact ⟨rfl, HB9.out⟩
              · exact absurd HLY.out (hno _)
            · have hst := BookEv.stays_calls w.heap.size gm cm A l.length c l wr HK.out.lent (HS.out.below HK.out.bel) HC.out (by have := HN.out; omega)
              rw [← HN.out] at hst
              have HST := Aside0.mk hst
              clear hst
              cases rt with
              | true =>
                have hN40I : (40 : Int) < (N : Int) := by have h : ¬ (N ≤ 40) := fun h => hrd ⟨rfl, h⟩; omega
                clear hrd
                go_wp2_with fail
                refine HST.out.mono ?_
                rintro e8 w8 ⟨rfl, n8, hw8⟩
                have HK8 := Aside0.mk (HK.out.below (show Below _ _ w8 by rw [← hw8]; exact BookEv.below_dn _ n8))
                clear hw8
                go_wp2_with fail
                refine (BookEv.apart_calls _ _ vx vw L Lw HK8.out.bk HK8.out.same).mono ?_
                rintro e9 w9 ⟨rfl, ho9⟩
                have HB9 := Aside0.mk (HK8.out.bel.trans (ho9.toBelow HK8.out.bel.size (fun b hb => HK8.out.ft b hb)))
                clear ho9
                go_wp2
                go_ret
                exact ⟨rfl, HB9.out⟩
              | false =>
                clear hrd
                go_wp2_with fail
                refine HST.out.mono ?_
                rintro e8 w8 ⟨rfl, n8, hw8⟩
                have HK8 := Aside0.mk (HK.out.below (show Below _ _ w8 by rw [← hw8]; exact BookEv.below_dn _ n8))
                clear hw8
                go_wp2_with fail
                refine (BookEv.apart_calls _ _ vx vw L Lw HK8.out.bk HK8.out.same).mono ?_
                rintro e9 w9 ⟨rfl, ho9⟩
                have HB9 := Aside0.mk (HK8.out.bel.trans (ho9.toBelow HK8.out.bel.size (fun b hb => HK8.out.ft b hb)))
                clear ho9
                go_wp2
                go_ret
                exact ⟨rfl, HB9.out⟩
            -- @end
set_option maxHeartbeats 2000000 in
set_option maxRecDepth 100000 in
theorem ktell_over (A : Option Addr) (c N : Nat) (b : ByteArray) (w : World) (h : ¬ (N ≤ 60 ∧ b.size ≤ 600)) :
    Calls Tryz.prog 3 #[.slice A N c, .string b] w fun r w' => r = .returned (.bool true) ∧ Below w.heap.size w w' := by
  by_cases h1 : 60 < (N : Int)
  · clear h
    go_enter Tryz.func3, Tryz.ntmps3
    go_wp2_with fail
    refine (alive20 _).mono ?_
    rintro e0 w0 ⟨rfl, hb0⟩
    go_wp2
    go_ret
    exact ⟨rfl, hb0⟩
  · have h2 : 600 < (b.size : Int) := by omega
    clear h
    go_enter Tryz.func3, Tryz.ntmps3
    go_wp2_with fail
    refine (alive20 _).mono ?_
    rintro e0 w0 ⟨rfl, hb0⟩
    go_wp2
    go_ret
    exact ⟨rfl, hb0⟩
/-- KeysTell of whatever comes in. -/
theorem ktell_row (A : Option Addr) (c : Nat) (l : List PKeysTell.S25) (b : ByteArray) (w : World) (hC : Kd.C PKeysTell.k25 w A l.length l) (hc : l.length ≤ c) (hb : b.size ≤ 140737488351232) :
    Calls Tryz.prog 3 #[.slice A l.length c, .string b] w fun r w' => r = .returned (.bool true) ∧ Below w.heap.size w w' := by
  have h1 := C_src hC
  rw [← evs_len] at hc ⊢
  by_cases h : (evs l).length ≤ 60 ∧ b.size ≤ 600
  · exact ktell_live A c (evs l) b w h1 hc h.1 h.2
  · exact ktell_over A c _ b w h
end Go.Proofs.YtjjjinpmflghmaaGreat.Keys
