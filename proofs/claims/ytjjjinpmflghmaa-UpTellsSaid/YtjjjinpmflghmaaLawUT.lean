/- The walk of UpTells. Conditions: those in each theorem. -/
import Derived.Test.YtjjjinpmflghmaaEvArg
import Derived.Test.YtjjjinpmflghmaaMF
import Derived.OpenShut
namespace Go.Proofs.Ytjjjinpmflghmaa.Keys
open Go.RowKit Go.Proofs.Ytjjjinpmflghmaa.Mem Go.Proofs.Ytjjjinpmflghmaa.Row Go.Proofs.Ytjjjinpmflghmaa.Obj Go.Proofs.YtjjjinpmflghmaaW.PrintWords Go.Proofs.YtjjjinpmflghmaaW.PrintMore Go.Proofs.YtjjjinpmflghmaaW.PrintLast Go.Proofs.Ytjjjinpmflghmaa.PKeysBounds
open Go.Proofs.Ytjjjinpmflghmaa.BookEv (BK LS foot mem_foot Own Src Lent)
set_option linter.unusedVariables false
set_option linter.unusedSimpArgs false
theorem UpAns.both {b : ByteArray} {w w' : World} {r : Ending} (h : UpAns b w r w') : ∃ (t f : Int) (l : List E4) (A : Option Addr) (c : Nat) (x : Int), r = .returned (.tuple #[.agg #[.int .i64 t, .int .i64 f, .slice A l.length c], .int .i64 x]) ∧ Own w' w.heap.size (.slice A l.length c) l ∧ ((x = 0 ∧ IsUp b t f l) ∨ (x ≠ 0 ∧ (∀ t f l, ¬ IsUp b t f l) ∧ t = 0 ∧ f = 0 ∧ l = [])) := by
  rcases h with ⟨t, f, l, A, c, hu, rfl, ho⟩ | ⟨hno, e, he, rfl⟩
  · exact ⟨t, f, l, A, c, 0, rfl, ho, .inl ⟨rfl, hu⟩⟩
  · exact ⟨0, 0, [], none, 0, e, rfl, BookEv.Own.nil _ _, .inr ⟨he, hno, rfl, rfl, rfl⟩⟩
theorem RUpAns.both {b : ByteArray} {w w' : World} {r : Ending} (h : RUpAns b w r w') {t f x : Int} {l : List E4} (hx : (x = 0 ∧ IsUp b t f l) ∨ (x ≠ 0 ∧ (∀ t f l, ¬ IsUp b t f l) ∧ t = 0 ∧ f = 0 ∧ l = [])) :
    ∃ (A : Option Addr) (c : Nat) (q : Bool), r = .returned (.tuple #[.agg #[.int .i64 t, .int .i64 f, .slice A l.length c], .bool q]) ∧ Own w' w.heap.size (.slice A l.length c) l ∧ ((x = 0 ∧ q = true) ∨ (x ≠ 0 ∧ q = false)) := by
  rcases hx with ⟨hx, hu⟩ | ⟨hx, hno, rfl, rfl, rfl⟩
  · rcases h with ⟨t', f', l', A, c, hu', rfl, ho⟩ | ⟨hno, rfl⟩
    · obtain ⟨rfl, rfl, rfl⟩ := hu'.inj hu
      exact ⟨A, c, true, rfl, ho, .inl ⟨hx, rfl⟩⟩
    · exact absurd hu (hno _ _ _)
  · rcases h with ⟨t', f', l', A, c, hu', rfl, ho⟩ | ⟨_, rfl⟩
    · exact absurd hu' (hno _ _ _)
    · exact ⟨none, 0, false, rfl, BookEv.Own.nil _ _, .inr ⟨hx, rfl⟩⟩
theorem both_len {b : ByteArray} {t f x : Int} {l : List E4} (hx : (x = 0 ∧ IsUp b t f l) ∨ (x ≠ 0 ∧ (∀ t f l, ¬ IsUp b t f l) ∧ t = 0 ∧ f = 0 ∧ l = [])) : l.length ≤ 40 := by
  rcases hx with ⟨_, hu⟩ | ⟨_, _, _, _, rfl⟩
  · exact (upV_iff.1 hu.1).2.1
  · simp
theorem KT.new {w0 w : World} {gm cm : Nat} {l : List E4} (h : Lent w w0.heap.size gm cm l) (hb : Below w0.heap.size w0 w) :
    KT w0 gm cm w.heap.size l (.slice none 0 0) (.slice none 0 0) [] [] (w.alloc (.cells (BookEv.bookCells (.slice none 0 0) (.slice none 0 0)) 80)) := by
  have hbl := below_alloc (Below.refl w.heap.size w) (.cells (BookEv.bookCells (.slice none 0 0) (.slice none 0 0)) 80)
  have hl := h.lt
  have hs := hb.size
  refine ⟨h.below hbl, BK.new (Blk.new _ _ _), fun b hm => ?_, fun hm => ?_, below_step hb hbl, rfl⟩
  · simp [foot, Value.ownBlock] at hm
    omega
  · simp [foot, Value.ownBlock] at hm
    omega
set_option maxHeartbeats 16000000 in
set_option maxRecDepth 100000 in
theorem utell_live (top first : Int) (A : Option Addr) (c : Nat) (l : List E4) (b : ByteArray) (w : World) (h : Src w A l.length l) (hc : l.length ≤ c) (hn : l.length ≤ 60) (hb : b.size ≤ 600) :
    Calls Try.prog 8 #[.int .i64 top, .int .i64 first, .slice A l.length c, .string b] w fun r w' => r = .returned (.bool true) ∧ Below w.heap.size w w' := by
  have HS := Aside0.mk h
  have HC := Aside0.mk hc
  obtain ⟨N, hN⟩ : ∃ N, N = l.length := ⟨_, rfl⟩
  have hN60 : ¬ (60 < (N : Int)) := by omega
  have hN60N : N ≤ 60 := by omega
  have hbI : ¬ (600 < (b.size : Int)) := by omega
  have HBS := Aside0.mk hb
  have HN := Aside0.mk hN
  rw [← hN]
  clear h hc hn hb hN
  go_enter Try.func8, Try.ntmps8
  go_wp2_with fail
  refine (alive23 _).mono ?_
  rintro e0 w0 ⟨rfl, hb0⟩
  have HB0 := Aside0.mk hb0
  clear hb0
  go_upto_block 0 with (fail)
  go_wp2_with fail
  go_loopg [9] N (fun kq v9 wr => ∃ (i : Nat), v9 = .int .i64 (i : Int) ∧ Aside0 (i ≤ N ∧ kq = N - i) ∧ Aside0 (Below w.heap.size w wr))
  case atStart => exact ⟨0, rfl, ⟨Nat.zero_le _, rfl⟩, HB0⟩
  case round =>
    obtain ⟨i, rfl, HI, HB⟩ := hrel
    clear HB0
    have hi0 : (0 : Int) ≤ (i : Int) := Int.natCast_nonneg _
    by_cases hlt : i < N
    · skip
      as_aux_lemma =>
        -- @blk l1
        have hltI : (i : Int) < (N : Int) := by omega
        obtain ⟨e, he⟩ : ∃ e, l[i]? = some e := ⟨l[i]'(by rw [← HN.out]; exact hlt), by simp⟩
        obtain ⟨ad, hA⟩ : ∃ ad, A = some ad := by
          rcases HS.out.2 with h0 | ⟨ad, hA, _⟩
          · have := HN.out; omega
          · exact ⟨ad, hA⟩
        subst hA
        obtain ⟨y0, y1, y2, y3⟩ := src_four (HS.out.below HB.out) he
        clear he
        by_cases h200 : 200 < (e.s.size : Int)
        · go_wp2
          go_ret
          exact ⟨rfl, HB.out⟩
        · go_wp2
          go_roundg (N - (i + 1))
          case measure => have := HI.out; omega
          case rel => exact ⟨i + 1, by go_num, ⟨by omega, rfl⟩, HB⟩
        -- @end
    · have hltI : ¬ (i : Int) < (N : Int) := by omega
      have hlent := BookEv.lent_calls A N c l wr (by have := HS.out.below HB.out; rwa [← HN.out] at this) (by have := HC.out; have := HN.out; omega) (by omega)
      have HLENT := Aside0.mk hlent
      clear hlent
      go_wp2_with fail
      refine HLENT.out.mono ?_
      rintro e1 w1 ⟨gm, cm, rfl, hle, hb1⟩
      have HLE := Aside0.mk (show Lent w1 w.heap.size gm cm l from ⟨Nat.le_trans HB.out.size hle.1, hle.2⟩)
      have HB1 := Aside0.mk (below_step HB.out hb1)
      clear hle hb1 HB HLENT
      go_upto_region 11 with (fail)
      have HM := Aside0.mk ((Blk.new w1 95 #[.int .i64 top, .int .i64 first, .slice (some ⟨gm, 0, none⟩) N cm]).alloc (.cells #[.int .i64 top, .int .i64 first, .slice A N c] 97))
      have hr := Blk.new (w1.alloc (.cells #[.int .i64 top, .int .i64 first, .slice (some ⟨gm, 0, none⟩) N cm] 95)) 97 #[.int .i64 top, .int .i64 first, .slice A N c]
      rw [World.size_alloc] at hr
      have HR := Aside0.mk hr
      have hb3 := below_alloc (below_alloc (Below.refl w1.heap.size w1) (.cells #[.int .i64 top, .int .i64 first, .slice (some ⟨gm, 0, none⟩) N cm] 95)) (.cells #[.int .i64 top, .int .i64 first, .slice A N c] 97)
      have HLE3 := Aside0.mk (HLE.out.below hb3)
      have HB3 := Aside0.mk (below_step HB1.out hb3)
      clear hr hb3 HLE HB1
      obtain ⟨W3, hW3⟩ : ∃ W3, W3 = (w1.alloc (.cells #[.int .i64 top, .int .i64 first, .slice (some ⟨gm, 0, none⟩) N cm] 95)).alloc (.cells #[.int .i64 top, .int .i64 first, .slice A N c] 97) := ⟨_, rfl⟩
      obtain ⟨p1, hp1⟩ : ∃ p1, p1 = w1.heap.size := ⟨_, rfl⟩
      rw [← hW3] at HM HR HLE3 HB3 ⊢
      rw [← hp1] at HM HR ⊢
      clear hW3 hp1
      have c0 : W3.cell? ⟨p1, 0, none⟩ = some (.int .i64 top) := (HM.out.cell 0).trans rfl
      have c1 : W3.cell? ⟨p1, 1, none⟩ = some (.int .i64 first) := (HM.out.cell 1).trans rfl
      have c2 : W3.cell? ⟨p1, 2, none⟩ = some (.slice (some ⟨gm, 0, none⟩) N cm) := (HM.out.cell 2).trans rfl
      have hlay := uplay_calls top first (some ⟨gm, 0, none⟩) cm l W3 HLE3.out.src (by have := HLE3.out.2.1; omega) (by have := HN.out; omega)
      rw [← HN.out] at hlay
      have HLAY := Aside0.mk hlay
      clear hlay
      go_wp2_with fail
      refine HLAY.out.mono ?_
      rintro e4 w4 ⟨rfl, hb4⟩
      have HLE4 := Aside0.mk (HLE3.out.below hb4)
      have HB4 := Aside0.mk (below_step HB3.out hb4)
      have HM4 := Aside0.mk (HM.out.below' hb4)
      have HR4 := Aside0.mk (HR.out.below' hb4)
      clear hb4 HLE3 HB3 HLAY c0 c1 c2 HM HR
      obtain ⟨S, hS⟩ : ∃ S, S = upS top first l := ⟨_, rfl⟩
      obtain ⟨X, hX⟩ : ∃ X, X = upX top first l := ⟨_, rfl⟩
      obtain ⟨ok, hok⟩ : ∃ ok, ok = upV top first l := ⟨_, rfl⟩
      have HSX := Aside0.mk (And.intro hS hX)
      have HOK := Aside0.mk hok
      rw [← hS, ← hX]
      clear hS hX hok
      have c0 : w4.cell? ⟨p1 + 1, 0, none⟩ = some (.int .i64 top) := (HR4.out.cell 0).trans rfl
      have c1 : w4.cell? ⟨p1 + 1, 1, none⟩ = some (.int .i64 first) := (HR4.out.cell 1).trans rfl
      have c2 : w4.cell? ⟨p1 + 1, 2, none⟩ = some (.slice A N c) := (HR4.out.cell 2).trans rfl
      have hrv := rupv_calls top first A c l w4 (HS.out.below HB4.out) HC.out (by have := HN.out; omega)
      rw [← HN.out, ← HOK.out] at hrv
      have HRV := Aside0.mk hrv
      clear hrv
      go_wp2_with fail
      refine HRV.out.mono ?_
      rintro e5 w5 ⟨rfl, hb5⟩
      have HLE5 := Aside0.mk (HLE4.out.below hb5)
      have HB5 := Aside0.mk (below_step HB4.out hb5)
      have HM5 := Aside0.mk (HM4.out.below' hb5)
      have HR5 := Aside0.mk (HR4.out.below' hb5)
      clear hb5 HLE4 HB4 HRV c0 c1 c2 HM4 HR4
      go_upto_region 13 with (fail)
      go_cut [95] from 67 to 95 (fun v95 wc => v95 = .bool false ∧ Aside0 (Lent wc w.heap.size gm cm l) ∧ Aside0 (Below w.heap.size w wc))
      case first =>
        -- @blk fst
        have c0 : w5.cell? ⟨p1, 0, none⟩ = some (.int .i64 top) := (HM5.out.cell 0).trans rfl
        have c1 : w5.cell? ⟨p1, 1, none⟩ = some (.int .i64 first) := (HM5.out.cell 1).trans rfl
        have c2 : w5.cell? ⟨p1, 2, none⟩ = some (.slice (some ⟨gm, 0, none⟩) N cm) := (HM5.out.cell 2).trans rfl
        have huv := upv_calls top first (some ⟨gm, 0, none⟩) cm l w5 HLE5.out.src (by have := HLE5.out.2.1; omega) (by have := HN.out; omega)
        rw [← HN.out, ← HOK.out] at huv
        have HUV := Aside0.mk huv
        clear huv
        cases ok with
        | true =>
          have hv : upV top first l = true := HOK.out.symm
          obtain rfl : X = 0 := by rw [HSX.out.2, upX, if_pos hv]
          have HV := Aside0.mk hv
          have HSS := Aside0.mk (show S = strOfNums (upB top first l) by rw [HSX.out.1, upS, if_pos hv])
          clear hv
          go_wp2_with fail
          refine HUV.out.mono ?_
          rintro e6 w6 ⟨rfl, hb6⟩
          have HLE6 := Aside0.mk (HLE5.out.below hb6)
          have HB6 := Aside0.mk (below_step HB5.out hb6)
          have HR6 := Aside0.mk (HR5.out.below' hb6)
          clear hb6 c0 c1 c2
          have c0 : w6.cell? ⟨p1 + 1, 0, none⟩ = some (.int .i64 top) := (HR6.out.cell 0).trans rfl
          have c1 : w6.cell? ⟨p1 + 1, 1, none⟩ = some (.int .i64 first) := (HR6.out.cell 1).trans rfl
          have c2 : w6.cell? ⟨p1 + 1, 2, none⟩ = some (.slice A N c) := (HR6.out.cell 2).trans rfl
          have hrl := ruplay_calls top first A c l w6 (HS.out.below HB6.out) HC.out HV.out
          rw [← HN.out, ← HSS.out] at hrl
          have HRL := Aside0.mk hrl
          clear hrl
          go_wp2_with fail
          refine HRL.out.mono ?_
          rintro e7 w7 ⟨rfl, hb7⟩
          go_wp2
          go_meet
          case rel => exact ⟨rfl, ⟨HLE6.out.below hb7⟩, ⟨below_step HB6.out hb7⟩⟩
        | false =>
          have hv : ¬ upV top first l = true := fun h => by have := HOK.out; rw [h] at this; cases this
          obtain rfl : X = 1 := by rw [HSX.out.2, upX, if_neg hv]
          obtain rfl : S = ⟨#[]⟩ := by rw [HSX.out.1, upS, if_neg hv]
          clear hv
          go_wp2_with fail
          refine HUV.out.mono ?_
          rintro e6 w6 ⟨rfl, hb6⟩
          go_wp2
          go_meet
          case rel => exact ⟨rfl, ⟨HLE5.out.below hb6⟩, ⟨below_step HB5.out hb6⟩⟩
        -- @end
      case rest =>
        obtain ⟨rfl, HLE6, HB6⟩ := hcut
        clear HLE5 HB5 HM5 HR5
        have HK0 := Aside0.mk (KT.new HLE6.out HB6.out)
        go_wp2_with fail
        obtain ⟨WB, hWB⟩ : ∃ WB, WB = wc.alloc (.cells (BookEv.bookCells (.slice none 0 0) (.slice none 0 0)) 80) := ⟨_, rfl⟩
        rw [← hWB] at HK0
        change _ ; simp only [show wc.alloc (.cells #[.slice none 0 0, .slice none 0 0, .slice none 0 0, .slice none 0 0, .slice none 0 0, .slice none 0 0, .slice none 0 0, .slice none 0 0, .slice none 0 0, .slice none 0 0, .slice none 0 0, .slice none 0 0, .slice none 0 0, .slice none 0 0, .slice none 0 0, .slice none 0 0] 80) = WB from hWB.symm]
        obtain ⟨gb, hgb⟩ : ∃ gb, gb = wc.heap.size := ⟨_, rfl⟩
        rw [← hgb] at HK0 ⊢
        clear hWB hgb HLE6 HB6
        go_loopg [17] 2 (fun kq v17 wr => ∃ (k : Nat) (vx vw : Value) (L Lw : LS), v17 = .int .i64 (k : Int) ∧ Aside0 (k ≤ 2 ∧ kq = 2 - k ∧ L.length ≤ k) ∧ Aside0 (KT w gm cm gb l vx vw L Lw wr))
        case atStart => exact ⟨0, _, _, [], [], rfl, ⟨by omega, rfl, by simp⟩, HK0⟩
        case round =>
          obtain ⟨k, vx, vw, L, Lw, rfl, HKI, HK⟩ := hrel
          clear HK0
          have hk0 : (0 : Int) ≤ (k : Int) := Int.natCast_nonneg _
          by_cases hk2 : k < 2
          · skip
            as_aux_lemma =>
              -- @blk l2
              have hk2I : (k : Int) < 2 := by omega
              go_wp2_with fail
              refine (uread_calls b wr (by have := HBS.out; omega)).mono ?_
              rintro e7 w7 ⟨hra, hb7⟩
              obtain ⟨t, f, l1, A1, C1, x, rfl, ho1, hx⟩ := hra.both
              have HX := Aside0.mk hx
              have HL1 := Aside0.mk (both_len hx)
              have HM1 := Aside0.mk (Blk.new w7 95 #[.int .i64 t, .int .i64 f, .slice A1 l1.length C1])
              have HB7 := Aside0.mk (below_alloc hb7 (.cells #[.int .i64 t, .int .i64 f, .slice A1 l1.length C1] 95))
              have HO1 := Aside0.mk (ho1.below (below_alloc (Below.refl w7.heap.size w7) (.cells #[.int .i64 t, .int .i64 f, .slice A1 l1.length C1] 95)))
              have HP1 := Aside0.mk hb7.size
              clear hx ho1 hb7 hra
              go_wp2_with fail
              refine (rupread_calls b _ (by have := HBS.out; omega)).mono ?_
              rintro e8 w8 ⟨hrb, hb8⟩
              obtain ⟨A2, C2, q, rfl, ho2, hq⟩ := hrb.both HX.out
              have HQ := Aside0.mk hq
              have hbl := below_alloc (Below.refl w8.heap.size w8) (.cells #[.int .i64 t, .int .i64 f, .slice A2 l1.length C2] 97)
              have HM2 := Aside0.mk (Blk.new w8 97 #[.int .i64 t, .int .i64 f, .slice A2 l1.length C2])
              have HM18 := Aside0.mk ((HM1.out.below' hb8).below' hbl)
              have HB8 := Aside0.mk (below_alloc (HB7.out.trans (hb8.mono HB7.out.size)) (.cells #[.int .i64 t, .int .i64 f, .slice A2 l1.length C2] 97))
              have HO2 := Aside0.mk (ho2.below hbl)
              have HO18 := Aside0.mk ((HO1.out.below hb8).below hbl)
              have HP2 := Aside0.mk (show wr.heap.size ≤ w8.heap.size from Nat.le_trans HB7.out.size hb8.size)
              have HP3 := Aside0.mk HB7.out.size
              clear hq ho2 hb8 hbl hrb HM1 HO1 HB7
              go_upto_region 21 with (fail)
              obtain ⟨W8, hW8⟩ : ∃ W8, W8 = w8.alloc (.cells #[.int .i64 t, .int .i64 f, .slice A2 l1.length C2] 97) := ⟨_, rfl⟩
              obtain ⟨p3, hp3⟩ : ∃ p3, p3 = w7.heap.size := ⟨_, rfl⟩
              obtain ⟨p4, hp4⟩ : ∃ p4, p4 = w8.heap.size := ⟨_, rfl⟩
              obtain ⟨n1, hn1⟩ : ∃ n1, n1 = l1.length := ⟨_, rfl⟩
              have HN1 := Aside0.mk hn1
              rw [← hW8] at HM2 HM18 HB8 HO2 HO18 ⊢
              rw [← hp3] at HM18 HP1 ⊢
              rw [← hp4] at HM2 HP2 ⊢
              rw [← hn1] at HM2 HM18 HO2 HO18 HL1 HP3 ⊢
              clear hW8 hp3 hp4 hn1
              have a2 : W8.cell? ⟨p3, 2, none⟩ = some (.slice A1 n1 C1) := (HM18.out.cell 2).trans rfl
              have hkp := HK.out.kept HB8.out HO18.out (by have := HL1.out; have := HN1.out; omega) (by have := HKI.out; omega)
              have HKP := Aside0.mk hkp
              clear hkp
              go_wp2_with fail
              refine HKP.out.mono ?_
              rintro e9 w9 ⟨rfl, vx6, vw6, c6, hk6, ho6, hon6⟩
              have HK6 := Aside0.mk hk6
              have HO6 := Aside0.mk ho6
              have HO26 := Aside0.mk (HO2.out.only hon6 (fun j hj hm => by
                have h1 := own_base HO2.out j hj
                have h2 := HK.out.bk.lt j hm
                have h3 := HP3.out
                omega))
              have HM3 := Aside0.mk (HM18.out.only hon6 (fun hm => by have h2 := HK.out.bk.lt _ hm; have := HP1.out; omega))
              have HM4 := Aside0.mk (HM2.out.only hon6 (fun hm => by have h2 := HK.out.bk.lt _ hm; have := HP2.out; omega))
              clear a2 hk6 ho6 hon6 HKP
              have a0 : w9.cell? ⟨p3, 0, none⟩ = some (.int .i64 t) := (HM3.out.cell 0).trans rfl
              have a1 : w9.cell? ⟨p3, 1, none⟩ = some (.int .i64 f) := (HM3.out.cell 1).trans rfl
              have a2 : w9.cell? ⟨p3, 2, none⟩ = some (.slice A1 n1 C1) := (HM3.out.cell 2).trans rfl
              have b0 : w9.cell? ⟨p4, 0, none⟩ = some (.int .i64 t) := (HM4.out.cell 0).trans rfl
              have b1 : w9.cell? ⟨p4, 1, none⟩ = some (.int .i64 f) := (HM4.out.cell 1).trans rfl
              have b2 : w9.cell? ⟨p4, 2, none⟩ = some (.slice A2 n1 C2) := (HM4.out.cell 2).trans rfl
              have HSM := Aside0.mk (show Calls _ _ _ _ _ from by
                obtain ⟨A1', C1', he1, hlc1, hsrc1, _⟩ := HO6.out.src
                obtain ⟨A2', C2', he2, hlc2, hsrc2, _⟩ := HO26.out.src
                rw [HN1.out] at he1 he2
                obtain ⟨rfl, rfl⟩ : A1 = A1' ∧ C1 = C1' := by injection he1 with h1 _ h2; exact ⟨h1, h2⟩
                obtain ⟨rfl, rfl⟩ : A2 = A2' ∧ C2 = C2' := by injection he2 with h1 _ h2; exact ⟨h1, h2⟩
                exact BookEv.same_calls A1 l1.length C1 A2 l1.length C2 l1 w9 hsrc1 hlc1 hsrc2 hlc2 (by have := HL1.out; have := HN1.out; omega))
              rw [← HN1.out] at HSM
              have hq := HQ.out
              rcases hq with ⟨rfl, rfl⟩ | ⟨hx0, rfl⟩
              · go_wp2_with fail
                refine HSM.out.mono ?_
                rintro e10 w10 ⟨rfl, n7, hw7⟩
                have HK7 := Aside0.mk (HK6.out.below (show Below w9.heap.size w9 w10 by rw [← hw7]; exact BookEv.below_dn w9 n7))
                clear hw7
                go_wp2
                go_roundg (2 - (k + 1))
                case measure => have := HKI.out; omega
                case rel => exact ⟨k + 1, vx6, vw6, _, _, by go_num, ⟨by omega, rfl, by have := HKI.out; simp; omega⟩, HK7⟩
              · have hx1b : (x == 0) = false := by simpa using hx0
                go_wp2_with fail
                refine HSM.out.mono ?_
                rintro e10 w10 ⟨rfl, n7, hw7⟩
                have HK7 := Aside0.mk (HK6.out.below (show Below w9.heap.size w9 w10 by rw [← hw7]; exact BookEv.below_dn w9 n7))
                clear hw7
                go_wp2
                go_roundg (2 - (k + 1))
                case measure => have := HKI.out; omega
                case rel => exact ⟨k + 1, vx6, vw6, _, _, by go_num, ⟨by omega, rfl, by have := HKI.out; simp; omega⟩, HK7⟩
              -- @end
          · have hk2I : ¬ (k : Int) < 2 := by omega
            as_aux_lemma =>
              cases ok with
              | true =>
                have hv : upV top first l = true := HOK.out.symm
                have HU := Aside0.mk (show IsUp S top first l from ⟨hv, by rw [HSX.out.1, upS, if_pos hv]⟩)
                have HSZ := Aside0.mk (show S.size ≤ 100000 by
                  have h1 := upB_len hv
                  rw [HSX.out.1, upS, if_pos hv, strOfNums_size]
                  omega)
                clear hv
                go_wp2_with fail
                refine (uread_calls S wr HSZ.out).mono ?_
                rintro e7 w7 ⟨hra, hb7⟩
                rcases hra with ⟨t, f, l1, A1, C1, hu, rfl, ho1⟩ | ⟨hno, _⟩
                · obtain ⟨rfl, rfl, rfl⟩ := hu.inj HU.out
                  have hbl := below_alloc (Below.refl w7.heap.size w7) (.cells #[.int .i64 t, .int .i64 f, .slice A1 l1.length C1] 95)
                  have HM1 := Aside0.mk (Blk.new w7 95 #[.int .i64 t, .int .i64 f, .slice A1 l1.length C1])
                  have HO1 := Aside0.mk (ho1.below hbl)
                  have HK7 := Aside0.mk ((HK.out.below hb7).below hbl)
                  clear hu ho1 hb7 hbl
                  go_upto_region 26 with (fail)
                  obtain ⟨W7, hW7⟩ : ∃ W7, W7 = w7.alloc (.cells #[.int .i64 t, .int .i64 f, .slice A1 l1.length C1] 95) := ⟨_, rfl⟩
                  obtain ⟨p3, hp3⟩ : ∃ p3, p3 = w7.heap.size := ⟨_, rfl⟩
                  rw [← hW7] at HM1 HO1 HK7 ⊢
                  rw [← hp3] at HM1 ⊢
                  rw [← HN.out] at HM1 ⊢
                  clear hW7 hp3
                  have a0 : W7.cell? ⟨p3, 0, none⟩ = some (.int .i64 t) := (HM1.out.cell 0).trans rfl
                  have a1 : W7.cell? ⟨p3, 1, none⟩ = some (.int .i64 f) := (HM1.out.cell 1).trans rfl
                  have a2 : W7.cell? ⟨p3, 2, none⟩ = some (.slice A1 N C1) := (HM1.out.cell 2).trans rfl
                  obtain ⟨A1', C1', he1, hlc1, hsrc1, _⟩ := HO1.out.src
                  obtain ⟨rfl, rfl⟩ : A1 = A1' ∧ C1 = C1' := by injection he1 with h1 _ h2; exact ⟨h1, h2⟩
                  have hsm := BookEv.same_calls A1 l1.length C1 A l1.length c l1 W7 hsrc1 hlc1 (HS.out.below HK7.out.bel) HC.out (by have := HN.out; omega)
                  rw [← HN.out] at hsm
                  have HSM := Aside0.mk hsm
                  clear he1 hlc1 hsrc1 hsm
                  go_wp2_with fail
                  refine HSM.out.mono ?_
                  rintro e8 w8 ⟨rfl, n8, hw8⟩
                  have HK8 := Aside0.mk (HK7.out.below (show Below W7.heap.size W7 w8 by rw [← hw8]; exact BookEv.below_dn W7 n8))
                  clear hw8
                  have hst := BookEv.stays_calls w.heap.size gm cm A l1.length c l1 w8 HK8.out.lent (HS.out.below HK8.out.bel) HC.out (by have := HN.out; omega)
                  rw [← HN.out] at hst
                  have HST := Aside0.mk hst
                  clear hst a0 a1 a2
                  go_wp2_with fail
                  refine HST.out.mono ?_
                  rintro e9 w9 ⟨rfl, n9, hw9⟩
                  have HK9 := Aside0.mk (HK8.out.below (show Below _ _ w9 by rw [← hw9]; exact BookEv.below_dn _ n9))
                  clear hw9
                  go_wp2_with fail
                  refine (BookEv.apart_calls _ _ vx vw L Lw HK9.out.bk HK9.out.same).mono ?_
                  rintro e10 w10 ⟨rfl, ho10⟩
                  have HB10 := Aside0.mk (HK9.out.bel.trans (ho10.toBelow HK9.out.bel.size (fun b hb => HK9.out.ft b hb)))
                  clear ho10
                  go_wp2
                  go_ret
                  exact ⟨rfl, HB10.out⟩
                · exact absurd HU.out (hno _ _ _)
              | false =>
                have hst := BookEv.stays_calls w.heap.size gm cm A l.length c l wr HK.out.lent (HS.out.below HK.out.bel) HC.out (by have := HN.out; omega)
                rw [← HN.out] at hst
                have HST := Aside0.mk hst
                clear hst
                go_wp2_with fail
                refine HST.out.mono ?_
                rintro e8 w8 ⟨rfl, n8, hw8⟩
                have HK8 := Aside0.mk (HK.out.below (show Below _ _ w8 by rw [← hw8]; exact BookEv.below_dn _ n8))
                clear hw8
                go_wp2_with fail
                refine (BookEv.apart_calls _ _ vx vw L Lw HK8.out.bk HK8.out.same).mono ?_
                rintro e9 w9 ⟨rfl, ho9⟩
                have HB9 := Aside0.mk (HK8.out.bel.trans (ho9.toBelow HK8.out.bel.size (fun b hb => HK8.out.ft b hb)))
                clear ho9
                go_wp2
                go_ret
                exact ⟨rfl, HB9.out⟩
set_option maxHeartbeats 2000000 in
set_option maxRecDepth 100000 in
theorem utell_over (top first : Int) (A : Option Addr) (c N : Nat) (b : ByteArray) (w : World) (h : ¬ (N ≤ 60 ∧ b.size ≤ 600)) :
    Calls Try.prog 8 #[.int .i64 top, .int .i64 first, .slice A N c, .string b] w fun r w' => r = .returned (.bool true) ∧ Below w.heap.size w w' := by
  by_cases h1 : 60 < (N : Int)
  · clear h
    go_enter Try.func8, Try.ntmps8
    go_wp2_with fail
    refine (alive23 _).mono ?_
    rintro e0 w0 ⟨rfl, hb0⟩
    go_wp2
    go_ret
    exact ⟨rfl, hb0⟩
  · have h2 : 600 < (b.size : Int) := by omega
    clear h
    go_enter Try.func8, Try.ntmps8
    go_wp2_with fail
    refine (alive23 _).mono ?_
    rintro e0 w0 ⟨rfl, hb0⟩
    go_wp2
    go_ret
    exact ⟨rfl, hb0⟩
/-- UpTells of whatever comes in. -/
theorem utell_row (top first : Int) (A : Option Addr) (c : Nat) (l : List PKeysPlay.S38) (b : ByteArray) (w : World) (_w0 : (Lit.int .i64 top).wf = true) (_w1 : (Lit.int .i64 first).wf = true) (hC : Kd.C PKeysPlay.k38 w A l.length l) (hc : l.length ≤ c) (hb : b.size ≤ 140737488351232) :
    Calls Try.prog 8 #[.int .i64 top, .int .i64 first, .slice A l.length c, .string b] w fun r w' => r = .returned (.bool true) ∧ Below w.heap.size w w' := by
  have h1 := C_src hC
  rw [← evs_len] at hc ⊢
  by_cases h : (evs l).length ≤ 60 ∧ b.size ≤ 600
  · exact utell_live top first A c (evs l) b w h1 hc h.1 h.2
  · exact utell_over top first A c _ b w h
end Go.Proofs.Ytjjjinpmflghmaa.Keys
