/- The walk of UpCut. Conditions: those in each theorem. -/
import Derived.Test.YtjjjinpmflghmaaMF
import Derived.Test.YtjjjinpmflghmaaUpC
import Derived.Test.YtjjjinpmflghmaaArgs
import Derived.Deep.RegionLaw
import Derived.OpenShut
namespace Go.Proofs.Ytjjjinpmflghmaa.Keys
open Go.RowKit Go.Proofs.Ytjjjinpmflghmaa.Mem Go.Proofs.Ytjjjinpmflghmaa.Row Go.Proofs.Ytjjjinpmflghmaa.Obj Go.Proofs.YtjjjinpmflghmaaW.PrintWords Go.Proofs.YtjjjinpmflghmaaW.PrintMore Go.Proofs.YtjjjinpmflghmaaW.PrintLast Go.Proofs.Ytjjjinpmflghmaa.PKeysBounds
open Go.Proofs.Ytjjjinpmflghmaa.BookEv (Own Src)
set_option linter.unusedVariables false
set_option linter.unusedSimpArgs false
def keyE (s : ByteArray) : E4 := ⟨1, s, 0, 0⟩
theorem keyE_ok {s : ByteArray} (h : 1 ≤ s.size ∧ s.size ≤ 30) : okE (keyE s) = true := (okE_iff _).2 (.inl ⟨rfl, h.1, h.2, rfl, rfl⟩)
theorem blk_grown {w w' : World} {g : Nat} {t : TypeId} {cs : Array Value} {o : Option Nat} (h : Blk w g t cs) (hg : w.grownBy w' o) (hne : o ≠ some g) : Blk w' g t cs :=
  (hg.block g h.lt (fun he => hne (by simp [← he]))).trans h
theorem app_key (W1 : World) (B g n : Nat) (v : Value) (l : List E4) (e : E4) (hBs : B ≤ W1.heap.size) (ho : W1.ownsRow B 38 4 v n (BookEv.fl l)) (hb : Blk W1 g 38 #[.int .i64 e.k, .string e.s, .int .i64 e.x, .int .i64 e.y]) (hn : n ≤ 100000) :
    ∃ v' w', (Builtin.append_ #[24, 24] 24 #[v, .slice (some ⟨g, 0, none⟩) 1 1]).run Try.prog W1 = .ok v' w' ∧ w'.ownsRow B 38 4 v' (n + 1) (BookEv.fl (l ++ [e])) ∧ W1.grownBy w' v.ownBlock ∧ (v'.ownBlock = v.ownBlock ∨ v'.ownBlock = some W1.heap.size) := by
  obtain ⟨iC, hiC, hz0, hz1, hz2⟩ := info_parts BookEv.infoE
  obtain ⟨v', w2, hr, ho2, hg, hv, _⟩ := run_append_two (P := Try.prog) W1 B 24 24 38 iC _ 4 40 Try.underlying24 hiC hz0 hz1 hz2 rfl (by decide) v n _ ho ⟨g, 0, none⟩ 1 1 (BookEv.vals e) rfl (fun j u hj => by
    rw [BookEv.add0]
    exact (hb.cell j).trans (by simpa [BookEv.vals, E4.cells] using hj)) (BookEv.vals_one e) (by decide) (by unfold maxLen; omega) (by omega) hBs
  refine ⟨v', w2, hr, ?_, hg, hv⟩
  rw [BookEv.fl_app]
  simpa [BookEv.fl] using ho2
set_option maxHeartbeats 16000000 in
set_option maxRecDepth 100000 in
theorem ucut_live (top first : Int) (A : Option Addr) (N c : Nat) (ss : List ByteArray) (k : Int) (m : ByteArray) (w : World) (h : ArgStr w A N ss) (ht : 0 ≤ top ∧ top ≤ 4611686018427387904) (hf : 1 ≤ first ∧ first ≤ 4611686018427387904) (hN : 1 ≤ N ∧ N ≤ 20) (hk : 0 ≤ k) (hm : 1 ≤ m.size ∧ m.size ≤ 50) :
    Calls Try.prog 9 #[.int .i64 top, .int .i64 first, .slice A N c, .int .i64 k, .string m] w fun r w' => r = .returned (.bool true) ∧ Below w.heap.size w w' := by
  have HS := Aside0.mk h
  have t1 : ¬ top < 0 := by omega
  have t2 : ¬ 4611686018427387904 < top := by omega
  have t3 : ¬ first < 1 := by omega
  have t4 : ¬ 4611686018427387904 < first := by omega
  have t5 : ¬ 20 < (N : Int) := by omega
  have t6 : ((N : Int) == 0) = false := by simp; omega
  have t7 : ¬ k < 0 := by omega
  have t8 : ¬ (m.size : Int) < 1 := by omega
  have t9 : ¬ 50 < (m.size : Int) := by omega
  have hN20 : N ≤ 20 := hN.2
  have HT := Aside0.mk (And.intro ht (And.intro hf (And.intro hN (And.intro hk hm))))
  clear h ht hf hN hk hm
  go_enter Try.func9, Try.ntmps9
  go_wp2_with fail
  refine (alive23 _).mono ?_
  rintro e0 w0 ⟨rfl, hb0⟩
  have HB0 := Aside0.mk (below_alloc hb0 (.cells #[.int .i64 top, .int .i64 first, .slice none 0 0] 95))
  have HM0 := Aside0.mk (Blk.new w0 95 #[.int .i64 top, .int .i64 first, .slice none 0 0])
  have HP0 := Aside0.mk hb0.size
  clear hb0 t1 t2 t3 t4 t5 t6 t7 t8 t9
  go_upto_block 0 with (fail)
  go_wp2_with fail
  obtain ⟨W1, hW1⟩ : ∃ W1, W1 = w0.alloc (.cells #[.int .i64 top, .int .i64 first, .slice none 0 0] 95) := ⟨_, rfl⟩
  obtain ⟨p1, hp1⟩ : ∃ p1, p1 = w0.heap.size := ⟨_, rfl⟩
  rw [← hW1] at HB0 HM0 ⊢
  rw [← hp1] at HM0 HP0 ⊢
  clear hW1 hp1
  go_loopg [12] N (fun kq v12 wr => ∃ (i : Nat) (A' : Option Addr) (c' : Nat), v12 = .int .i64 (i : Int) ∧ Aside0 (i ≤ N ∧ kq = N - i ∧ AllOk ((ss.take i).map keyE)) ∧ Aside0 (Blk wr p1 95 #[.int .i64 top, .int .i64 first, .slice A' i c']) ∧ Aside0 (Own wr w.heap.size (.slice A' i c') ((ss.take i).map keyE)) ∧ Aside0 ((Value.slice A' i c').ownBlock ≠ some p1) ∧ Aside0 (Below w.heap.size w wr))
  case atStart => exact ⟨0, none, 0, rfl, ⟨Nat.zero_le _, rfl, fun x hx => by simp at hx⟩, HM0, ⟨BookEv.Own.nil _ _⟩, ⟨by simp [Value.ownBlock]⟩, HB0⟩
  case round =>
    obtain ⟨i, A', c', rfl, HI, HM, HO, HNE, HB⟩ := hrel
    clear HM0 HB0
    have hi0 : (0 : Int) ≤ (i : Int) := Int.natCast_nonneg _
    by_cases hlt : i < N
    · skip
      as_aux_lemma =>
        -- @blk l1
        have hltI : (i : Int) < (N : Int) := by omega
        obtain ⟨s, hs⟩ : ∃ s, ss[i]? = some s := ⟨ss[i]'(by rw [HS.out.1]; exact hlt), by simp⟩
        obtain ⟨ad, rfl, hcs⟩ := (HS.out.below HB.out).at_ i s hs
        have HSI := Aside0.mk hs
        clear hs
        by_cases h1 : (s.size : Int) < 1
        · go_wp2
          go_ret
          exact ⟨rfl, HB.out⟩
        · by_cases h2 : 30 < (s.size : Int)
          · go_wp2
            go_ret
            exact ⟨rfl, HB.out⟩
          · have hil : ((ss.take i).map keyE).length = i := by have := HS.out.1; simp; omega
            have hoD : wr.drew.ownsRow w.heap.size 38 4 (.slice A' i c') i (BookEv.fl ((ss.take i).map keyE)) := by
              have := HO.out.below (below_drew (Below.refl wr.heap.size wr))
              unfold Own at this
              rwa [hil] at this
            have hoL := own_alloc hoD (.cells #[.int .i64 1, .string s, .int .i64 0, .int .i64 0] 38)
            obtain ⟨v6, w6, hr6, ho6, hg6, hv6⟩ := app_key (wr.drew.alloc (.cells #[.int .i64 1, .string s, .int .i64 0, .int .i64 0] 38)) w.heap.size wr.heap.size i _ _ (keyE s) (by have := HB.out.size; simp; omega) hoL (Blk.new _ _ _) (by have := HT.out; omega)
            obtain ⟨A6, C6, rfl⟩ := row_sl ho6
            have HR6 := Aside0.mk hr6
            have q0 : wr.cell? ⟨p1, 2, none⟩ = some (.slice A' i c') := (HM.out.cell 2).trans rfl
            have q1 : (wr.alloc (.cells #[.int .i64 1, .string s, .int .i64 0, .int .i64 0] 38)).cell? ⟨p1, 2, none⟩ = some (.slice A' i c') := ((HM.out.alloc _).cell 2).trans rfl
            have q2 : (wr.drew.alloc (.cells #[.int .i64 1, .string s, .int .i64 0, .int .i64 0] 38)).cell? ⟨p1, 2, none⟩ = some (.slice A' i c') := ((HM.out.drew.alloc _).cell 2).trans rfl
            have hm6 := blk_grown (HM.out.drew.alloc (.cells #[.int .i64 1, .string s, .int .i64 0, .int .i64 0] 38)) hg6 HNE.out
            have q6 : w6.cell? ⟨p1, 2, none⟩ = some (.slice A' i c') := (hm6.cell 2).trans rfl
            have f6 := hm6.frozen 2
            have hne6 : (Value.slice A6 (i + 1) C6).ownBlock ≠ some p1 := by
              rcases hv6 with h | h
              · rw [h]; exact HNE.out
              · rw [h]
                have := HM.out.lt
                simp
                omega
            have HM6 := Aside0.mk (hm6.set_ 2 (.slice A6 (i + 1) C6))
            have HN6 := Aside0.mk hne6
            have HO6 := Aside0.mk (own_setCell (p := ⟨p1, 2, none⟩) ho6 (by simpa using hne6.symm) (.slice A6 (i + 1) C6))
            have HB6 := Aside0.mk (((((HB.out.drew).alloc HB.out.size (.cells #[.int .i64 1, .string s, .int .i64 0, .int .i64 0] 38)).grown hg6 (by have := HB.out.size; simp; omega) (own_base HO.out))).setCell (p := ⟨p1, 2, none⟩) HP0.out (.slice A6 (i + 1) C6))
            have HIL := Aside0.mk hil
            have HH := Aside0.mk (And.intro h1 h2)
            clear hil hoD hoL hr6 ho6 hg6 hv6 hm6 hne6
            go_upto_region 9 with (fail)
            go_region_law (refine step_append_of (by kernel_rfl) (.tmp 86) (.tmp 92) 24 _ _ rfl rfl rfl HR6.out ?_)
            all_goals
              go_wp2
              go_roundg (N - (i + 1))
              case measure => have := HI.out; omega
              case rel => exact ⟨i + 1, A6, C6, by go_num, ⟨by omega, rfl, fun x hx => by
                  rw [take_at HSI.out, List.map_append] at hx
                  rcases List.mem_append.1 hx with hx | hx
                  · exact HI.out.2.2 x hx
                  · have hx' : x = keyE s := by simpa using hx
                    rw [hx']
                    exact keyE_ok (by have := HH.out; omega)⟩, HM6, ⟨by
                  unfold Own
                  rw [take_at HSI.out, List.map_append]
                  have := HO6.out
                  simp only [List.length_append, HIL.out]
                  exact this⟩, HN6, HB6⟩
        -- @end
    · have hltI : ¬ (i : Int) < (N : Int) := by omega
      as_aux_lemma =>
        obtain rfl : i = N := by have := HI.out.1; omega
        have hss : ss.take i = ss := List.take_of_length_le (by rw [HS.out.1]; exact Nat.le_refl _)
        obtain ⟨l, hl⟩ : ∃ l, l = ss.map keyE := ⟨_, rfl⟩
        have hlen : l.length = i := by rw [hl, List.length_map, HS.out.1]
        have hall := HI.out.2.2
        have ho := HO.out
        rw [hss, ← hl] at hall ho
        have hv : upV top first l = true := upV_iff.2 ⟨HT.out.1, by have := HT.out; omega, by
          unfold fits
          rw [if_neg (by have := HT.out; omega)]
          exact decide_eq_true HT.out.2.1, hall⟩
        have HV := Aside0.mk hv
        have HLEN := Aside0.mk hlen
        have HOL := Aside0.mk ho
        have c0 : wr.cell? ⟨p1, 0, none⟩ = some (.int .i64 top) := (HM.out.cell 0).trans rfl
        have c1 : wr.cell? ⟨p1, 1, none⟩ = some (.int .i64 first) := (HM.out.cell 1).trans rfl
        have c2 : wr.cell? ⟨p1, 2, none⟩ = some (.slice A' i c') := (HM.out.cell 2).trans rfl
        obtain ⟨A1', C1', he1, hlc1, hsrc1, _⟩ := ho.src
        rw [hlen] at he1
        obtain ⟨rfl, rfl⟩ : A' = A1' ∧ c' = C1' := by injection he1 with h1 _ h2; exact ⟨h1, h2⟩
        have hlay := uplay_calls top first A' c' l wr hsrc1 hlc1 (by have := HT.out; omega)
        obtain ⟨S, hS⟩ : ∃ S, S = upS top first l := ⟨_, rfl⟩
        have HU := Aside0.mk (show IsUp S top first l from ⟨hv, by rw [hS, upS, if_pos hv]⟩)
        have HSZ := Aside0.mk (show 1 ≤ S.size ∧ S.size ≤ 5000 by
          have h1 := upB_len hv
          have h2 := HU.out.bytes
          have h3 := bytesOf_length S
          rw [h2] at h3
          have h4 : 1 ≤ (upB top first l).length := by
            unfold upB
            have := numB_pos top.toNat
            rw [List.length_append]
            omega
          omega)
        rw [hlen, ← hS, upX, if_pos hv] at hlay
        have HLAY := Aside0.mk hlay
        have HSRC := Aside0.mk (And.intro hsrc1 hlc1)
        clear hlay hS hv hall ho hlen hl he1 hsrc1 hlc1 hss HO HNE
        go_wp2_with fail
        refine HLAY.out.mono ?_
        rintro e4 w4 ⟨rfl, hb4⟩
        have HB4 := Aside0.mk (below_step HB.out hb4)
        have HM4 := Aside0.mk (HM.out.below' hb4)
        have huv := upv_calls top first A' c' l w4 (HSRC.out.1.below hb4) HSRC.out.2 (by have := HT.out; have := HLEN.out; omega)
        rw [HLEN.out, HV.out] at huv
        have HUV := Aside0.mk huv
        clear huv hb4 c0 c1 c2 HLAY
        have c0 : w4.cell? ⟨p1, 0, none⟩ = some (.int .i64 top) := (HM4.out.cell 0).trans rfl
        have c1 : w4.cell? ⟨p1, 1, none⟩ = some (.int .i64 first) := (HM4.out.cell 1).trans rfl
        have c2 : w4.cell? ⟨p1, 2, none⟩ = some (.slice A' i c') := (HM4.out.cell 2).trans rfl
        go_wp2_with fail
        refine HUV.out.mono ?_
        rintro e5 w5 ⟨rfl, hb5⟩
        have HB5 := Aside0.mk (below_step HB4.out hb5)
        clear hb5 c0 c1 c2
        obtain ⟨r, hr⟩ : ∃ r : Nat, (r : Int) = k.tmod (S.size : Int) := ⟨(k.tmod (S.size : Int)).toNat, by
          rw [Int.toNat_of_nonneg]
          exact Int.tmod_nonneg _ HT.out.2.2.2.1⟩
        have hrl : r < S.size := by
          have h1 := Int.tmod_lt_of_pos k (show 0 < (S.size : Int) by have := HSZ.out; omega)
          omega
        have s00 : ¬ (S.size : Int) = 0 := by have := HSZ.out; omega
        have s0 : ((S.size : Int) == 0) = false := beq_eq_false_iff_ne.2 s00
        have s1 : IntKind.i64.wrap (k.tmod (S.size : Int)) = (r : Int) := by rw [← hr]; exact IntWalk.i64_in _ (by have := HSZ.out; omega)
        have s2 : k.tmod (S.size : Int) = (r : Int) := hr.symm
        have s3 : (r : Int) ≤ (S.size : Int) := by omega
        have HRL := Aside0.mk hrl
        have HRD := Aside0.mk (uread_calls (S.extract 0 r) w5 (by have := HSZ.out; simp; omega))
        clear hr hrl
        go_wp2_with fail
        refine HRD.out.mono ?_
        rintro e6 w6 ⟨hra, hb6⟩
        rcases hra with ⟨t, f, l1, A1, C1, hu, _⟩ | ⟨_, x1, hx1, rfl⟩
        · exact absurd hu (up_cut HU.out HRL.out)
        · have HB6 := Aside0.mk (below_alloc (below_step HB5.out hb6) (.cells #[.int .i64 0, .int .i64 0, .slice none 0 0] 95))
          have HRE := Aside0.mk (uread_calls (S ++ m) (w6.alloc (.cells #[.int .i64 0, .int .i64 0, .slice none 0 0] 95)) (by have := HSZ.out; have := HT.out; simp; omega))
          have hx1b : (x1 == 0) = false := by simpa using hx1
          have s4 : S.size + m.size ≤ 9223372036854775807 := by have := HSZ.out; have := HT.out; omega
          clear s00 s0 s1 s2 s3 hb6 hx1
          go_wp2_with fail
          refine HRE.out.mono ?_
          rintro e7 w7 ⟨hra, hb7⟩
          rcases hra with ⟨t, f, l1, A1, C1, hu, _⟩ | ⟨_, x2, hx2, rfl⟩
          · exact absurd hu (up_more HU.out HT.out.2.2.2.2.1)
          · have HB7 := Aside0.mk (below_alloc (below_step HB6.out hb7) (.cells #[.int .i64 0, .int .i64 0, .slice none 0 0] 95))
            have hx2b : (x2 == 0) = false := by simpa using hx2
            have hx1n : (x1 != 0) = true := by simpa using hx1b
            have hx2n : (x2 != 0) = true := by simpa using hx2b
            have hx1m : ¬ x1 = 0 := by simpa using hx1b
            have hx2m : ¬ x2 = 0 := hx2
            clear hb7 hx2 s4
            go_wp2
            go_ret
            exact ⟨rfl, HB7.out⟩
set_option maxHeartbeats 4000000 in
set_option maxRecDepth 100000 in
theorem ucut_over (top first : Int) (A : Option Addr) (N c : Nat) (k : Int) (m : ByteArray) (w : World) (h : top < 0 ∨ 4611686018427387904 < top ∨ first < 1 ∨ 4611686018427387904 < first ∨ 20 < (N : Int) ∨ ((N : Int) == 0) = true ∨ k < 0 ∨ (m.size : Int) < 1 ∨ 50 < (m.size : Int)) :
    Calls Try.prog 9 #[.int .i64 top, .int .i64 first, .slice A N c, .int .i64 k, .string m] w fun r w' => r = .returned (.bool true) ∧ Below w.heap.size w w' := by
  by_cases t0 : top < 0
  · clear h
    go_enter Try.func9, Try.ntmps9
    go_wp2_with fail
    refine (alive23 _).mono ?_
    rintro e0 w0 ⟨rfl, hb0⟩
    go_wp2
    go_ret
    exact ⟨rfl, hb0⟩
  by_cases t1 : 4611686018427387904 < top
  · clear h
    go_enter Try.func9, Try.ntmps9
    go_wp2_with fail
    refine (alive23 _).mono ?_
    rintro e0 w0 ⟨rfl, hb0⟩
    go_wp2
    go_ret
    exact ⟨rfl, hb0⟩
  by_cases t2 : first < 1
  · clear h
    go_enter Try.func9, Try.ntmps9
    go_wp2_with fail
    refine (alive23 _).mono ?_
    rintro e0 w0 ⟨rfl, hb0⟩
    go_wp2
    go_ret
    exact ⟨rfl, hb0⟩
  by_cases t3 : 4611686018427387904 < first
  · clear h
    go_enter Try.func9, Try.ntmps9
    go_wp2_with fail
    refine (alive23 _).mono ?_
    rintro e0 w0 ⟨rfl, hb0⟩
    go_wp2
    go_ret
    exact ⟨rfl, hb0⟩
  by_cases t4 : 20 < (N : Int)
  · clear h
    go_enter Try.func9, Try.ntmps9
    go_wp2_with fail
    refine (alive23 _).mono ?_
    rintro e0 w0 ⟨rfl, hb0⟩
    go_wp2
    go_ret
    exact ⟨rfl, hb0⟩
  by_cases t5 : ((N : Int) == 0) = true
  · clear h
    go_enter Try.func9, Try.ntmps9
    go_wp2_with fail
    refine (alive23 _).mono ?_
    rintro e0 w0 ⟨rfl, hb0⟩
    go_wp2
    go_ret
    exact ⟨rfl, hb0⟩
  replace t5 : ((N : Int) == 0) = false := by simpa using t5
  by_cases t6 : k < 0
  · clear h
    go_enter Try.func9, Try.ntmps9
    go_wp2_with fail
    refine (alive23 _).mono ?_
    rintro e0 w0 ⟨rfl, hb0⟩
    go_wp2
    go_ret
    exact ⟨rfl, hb0⟩
  by_cases t7 : (m.size : Int) < 1
  · clear h
    go_enter Try.func9, Try.ntmps9
    go_wp2_with fail
    refine (alive23 _).mono ?_
    rintro e0 w0 ⟨rfl, hb0⟩
    go_wp2
    go_ret
    exact ⟨rfl, hb0⟩
  by_cases t8 : 50 < (m.size : Int)
  · clear h
    go_enter Try.func9, Try.ntmps9
    go_wp2_with fail
    refine (alive23 _).mono ?_
    rintro e0 w0 ⟨rfl, hb0⟩
    go_wp2
    go_ret
    exact ⟨rfl, hb0⟩
  exfalso
  simp only [t0, t1, t2, t3, t4, t5, t6, t7, t8] at h
  simp at h
/-- UpCut of whatever comes in. -/
theorem ucut_row (top first : Int) (A : Option Addr) (N c : Nat) (ss : List ByteArray) (k : Int) (m : ByteArray) (w : World) (_w0 : (Lit.int .i64 top).wf = true) (_w1 : (Lit.int .i64 first).wf = true) (h : ArgStr w A N ss) (_w3 : (Lit.int .i64 k).wf = true) (_w4 : m.size ≤ 140737488351232) :
    Calls Try.prog 9 #[.int .i64 top, .int .i64 first, .slice A N c, .int .i64 k, .string m] w fun r w' => r = .returned (.bool true) ∧ Below w.heap.size w w' := by
  by_cases hl : (0 ≤ top ∧ top ≤ 4611686018427387904) ∧ (1 ≤ first ∧ first ≤ 4611686018427387904) ∧ (1 ≤ N ∧ N ≤ 20) ∧ 0 ≤ k ∧ 1 ≤ m.size ∧ m.size ≤ 50
  · obtain ⟨h1, h2, h3, h4, h5⟩ := hl
    exact ucut_live top first A N c ss k m w h h1 h2 h3 h4 h5
  · refine ucut_over top first A N c k m w ?_
    simp only [beq_iff_eq]
    omega
end Go.Proofs.Ytjjjinpmflghmaa.Keys
