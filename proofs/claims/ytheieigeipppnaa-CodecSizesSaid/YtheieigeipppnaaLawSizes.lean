/- The walk of CodecSizes: how many bytes a number takes; one that was laid in more bytes than it needs is none. Conditions: those in each theorem. -/
import Derived.Test.YtheieigeipppnaaSizesD
import Derived.Test.YtheieigeipppnaaBuf
import Derived.OpenShut
namespace Go.Proofs.Ytheieigeipppnaa.Obj
open Go.RowKit Go.Proofs.YtheieigeipppnaaW.PrintWords Go.Proofs.YtheieigeipppnaaW.PrintMore
set_option linter.unusedVariables false
set_option linter.unusedSimpArgs false
set_option maxHeartbeats 8000000 in
set_option maxRecDepth 100000 in
theorem sizes_live (n : Nat) (more : Nat) (w : World) (hn : n < 9223372036854775808) (hm1 : 1 ≤ more) (hm6 : more ≤ 6) :
    Calls Try.prog 5 #[.int .i64 (n : Int), .int .i64 (more : Int)] w fun r w' => r = .returned (.bool true) ∧ Below w.heap.size w w' := by
  have hi1 : (1 : Int) ≤ (more : Int) := by omega
  have hi6 : (more : Int) ≤ 6 := by omega
  have hi0 : (0 : Int) ≤ (n : Int) := by omega
  go_enter Try.func5, Try.ntmps5
  go_wp2_with fail
  refine (alive1 _).mono ?_
  rintro e0 w0 ⟨rfl, hb0⟩
  have hs0 := hb0.size
  have HO0 := Aside0.mk (IsOut.new (B := w.heap.size) w0)
  have HB0 := Aside0.mk (hb0.alloc hs0 (.cells #[.slice none 0 0, .int .i64 0] 33))
  have hl1 := numB_len9 (v := n) hn
  clear hb0
  go_wp2_with fail
  refine (num1 w.heap.size w0.heap.size _ [] 0 n (w0.alloc _) (by simp) HO0.out (by simp; omega) (by simp) (by omega)).mono ?_
  rw [oNum_ok _ _ (by simp)]
  rintro e1 w1 ⟨rfl, hO1, hF1⟩
  have hs1 := hF1.size
  simp only [World.size_alloc] at hs1
  have HO1 := Aside0.mk hO1
  have HB1 := Aside0.mk (hF1.belowOf HB0.out (by simp; omega) hs0)
  clear hO1 hF1
  go_wp2_with fail
  refine (end_ok w.heap.size w0.heap.size _ w1 HO1.out).mono ?_
  rw [show ([] ++ [(n : Int)].flatMap (fun x => numB x.toNat)) = numB n by simp]
  obtain ⟨x, hx⟩ : ∃ x, x = strOfNums (numB n) := ⟨_, rfl⟩
  have hxs : x.size = (numB n).length := by rw [hx, strOfNums_size]
  rw [← hx]
  rintro e3 w3 ⟨rfl, rfl⟩
  have Hx := Aside0.mk hx
  have Hxs := Aside0.mk hxs
  clear hx hxs
  obtain ⟨L, hL⟩ : ∃ L, L = (numB n).length := ⟨_, rfl⟩
  have HL := Aside0.mk hL
  rw [← hL] at hl1
  obtain ⟨H, z, hHz, hz, hH⟩ := numB_last hn
  have hor := or128_at z hz
  have hLH : L = H.length + 1 := by rw [hL, hHz]; simp
  obtain ⟨W2, c0, hcv, hbf, hB2, hs2⟩ : ∃ W2 c0, (convert 9 30 (.string x)).run Try.prog w1 = .ok (.slice (some ⟨w1.heap.size, 0, none⟩) L c0) W2 ∧ IsBuf w.heap.size W2 w1.heap.size c0 (H ++ [(z : Int)]) ∧ Below w.heap.size w W2 ∧ w1.heap.size < W2.heap.size := by
    have hxs : x.size = L := by rw [Hxs.out, hL]
    refine ⟨_, _, by rw [← hxs]; exact Lib.run_convert_string_bytes (P := Try.prog) w1 9 30 5 x Try.underlying9 Try.underlying30 Try.underlying5, ?_, ?_, ?_⟩
    · have := IsBuf.ofBytes w.heap.size w1 x (by omega) (by simp only [maxLen]; omega)
      have hbx : bytesOf x = H ++ [(z : Int)] := by rw [Hx.out, bytes_str _ (numB_all hn), hHz]
      rwa [hbx] at this
    · exact below_step HB1.out ⟨rfl, rfl, rfl, by rw [Lib.bytesWorld_size]; omega, fun i hi => Lib.bytesWorld_at_old w1 5 x i hi⟩
    · rw [Lib.bytesWorld_size]; omega
  have cz : W2.cell? ⟨w1.heap.size, L - 1, none⟩ = some (.int .u8 (z : Int)) := hbf.cell_at (L - 1) z (by rw [hLH]; simp)
  have fz : W2.frozen? ⟨w1.heap.size, L - 1, none⟩ = false := (hbf.room (L - 1) (by obtain ⟨cur, fr, _, _, hl, _⟩ := hbf; simp at hl; omega)).2
  have HBF := Aside0.mk hbf
  have HB2 := Aside0.mk hB2
  have HHH := Aside0.mk hH
  have HLH := Aside0.mk hLH
  clear hbf hB2 hH hHz hLH
  have hxL : x.size = L := by rw [Hxs.out, HL.out]
  have hL1 : 1 ≤ L := by rw [hL, numB_wl]; omega
  have hsub : (x.size : Int) - 1 = ((L - 1 : Nat) : Int) := by omega
  clear hL
  go_wp2_with fail
  go_loopg [8, 9] 8 (fun kq v8 v9 wr => ∃ (q u : Nat), v8 = .int .i64 (q : Int) ∧ v9 = .int .i64 (u : Int) ∧ Aside0 (kq = 9 - q ∧ q + wl u = L ∧ u < 9223372036854775808) ∧ wr = w1)
  case atStart => exact ⟨1, n / 128, rfl, by simp, ⟨rfl, by rw [HL.out, numB_wl], by omega⟩, rfl⟩
  case round =>
    obtain ⟨q, u, rfl, rfl, ⟨hkq, hq, hub⟩, rfl⟩ := hrel
    have HQ := Aside0.mk hkq
    have HQ2 := Aside0.mk hq
    clear hkq hq
    by_cases hu : u = 0
    · subst hu
      have hqL : q = L := by have := HQ2.out; simp [wl] at this; exact this
      subst hqL
      go_wp2_with fail
      have hge : w.heap.size ≤ wr.heap.size := by omega
      go_loopg [10, 11] 5 (fun kq v10 v11 wq => ∃ (i g c : Nat) (X : List Int), v10 = .slice (some ⟨g, 0, none⟩) X.length c ∧ v11 = .int .i64 (i : Int) ∧ Aside0 (1 ≤ i ∧ i ≤ more ∧ kq = 6 - i) ∧ Aside0 (X = H ++ [((z + 128 : Nat) : Int)] ++ List.replicate (i - 1) 128) ∧ Aside0 (IsBuf w.heap.size wq g c X ∧ Below w.heap.size w wq))
      case atStart => 
        have h2 : (H ++ [(z : Int)]).set (q - 1) ((z + 128 : Nat) : Int) = H ++ [((z + 128 : Nat) : Int)] := by
          rw [HLH.out]; simp
        have hl : ((H ++ [(z : Int)]).set (q - 1) ((z + 128 : Nat) : Int)).length = q := by rw [h2]; simp [HLH.out]
        refine ⟨1, _, c0, (H ++ [(z : Int)]).set (q - 1) ((z + 128 : Nat) : Int), by rw [hl], rfl, ⟨by omega, hm1, rfl⟩, ⟨by rw [h2]; simp⟩, ⟨?_, below_set HB2.out hge⟩⟩
        exact HBF.out.set (q - 1) ((z + 128 : Nat) : Int)
      case round =>
        obtain ⟨i, g, c, X, rfl, rfl, ⟨hi1, hi2, hkq⟩, HX, ⟨hbuf, hB⟩⟩ := hrel
        have HK := Aside0.mk hkq
        have HF := Aside0.mk hbuf
        have HB := Aside0.mk hB
        have hlen : X.length = H.length + i := by rw [HX.out]; simp; omega
        have hll := HLH.out
        have hws : w.heap.size ≤ wr.heap.size := hB.size
        have HLN := Aside0.mk hlen
        have hXb : X.length + 1 ≤ 100 := by omega
        clear hkq hbuf hB hlen hll
        by_cases hlt : i < more
        · go_wp2_with (first | (at_builtin; refine Aside0.out ?_))
          refine ⟨?_⟩
          refine buf_append rfl (.tmp 69) (.tmp 70) rfl Try.underlying30 infoB _ rfl rfl HF.out hws (by omega) ?_
          intro g1 c1 w5 hb5 hB5 hs5
          obtain ⟨Y, hY⟩ : ∃ Y, Y = X ++ [128] := ⟨_, rfl⟩
          rw [← hY] at hb5 ⊢
          have HY := Aside0.mk (show Y = H ++ [((z + 128 : Nat) : Int)] ++ List.replicate (i + 1 - 1) 128 by
            obtain ⟨j, rfl⟩ : ∃ j, i = j + 1 := ⟨i - 1, by omega⟩
            rw [hY, HX.out, Nat.add_sub_cancel, Nat.add_sub_cancel, List.replicate_succ', List.append_assoc _ _ [128]])
          have HF5 := Aside0.mk hb5
          have HB5 := Aside0.mk (HB.out.trans hB5)
          clear hb5 hB5 hY
          go_wp2
          go_roundg (5 - i)
          case measure => have := HK.out; omega
          case rel => exact ⟨i + 1, g1, c1, Y, rfl, by go_num, ⟨by omega, by omega, by omega⟩, HY, ⟨HF5.out, HB5.out⟩⟩
        · go_wp2_with (first | (at_builtin; refine Aside0.out ?_))
          refine ⟨?_⟩
          refine buf_append rfl (.tmp 72) (.tmp 73) rfl Try.underlying30 infoB _ rfl rfl HF.out hws (by omega) ?_
          intro g1 c1 w5 hb5 hB5 hs5
          obtain ⟨Y, hY⟩ : ∃ Y, Y = X ++ [0] := ⟨_, rfl⟩
          rw [← hY] at hb5 ⊢
          have hst := hb5.string_of (src := 30) (dst := 9) Try.underlying30 Try.underlying5 Try.underlying9
          obtain ⟨y, hy⟩ : ∃ y, y = strOfNums Y := ⟨_, rfl⟩
          rw [← hy] at hst
          have hyl : y.size ≤ 101 := by rw [hy, strOfNums_size, hY]; simp; omega
          obtain ⟨br, hN⟩ : ∃ br, iNum y 0 = (0, br, 3) := by
            rw [hy, hY, HX.out]
            refine iNum_long _ ?_ (by simp)
            intro x hx
            rcases List.mem_append.1 hx with hx | hx
            · rcases List.mem_append.1 hx with hx | hx
              · exact HHH.out x hx
              · simp at hx; omega
            · have := List.eq_of_mem_replicate hx; omega
          have HN := Aside0.mk hN
          have HB5 := Aside0.mk (HB.out.trans hB5)
          have hz5 : w.heap.size ≤ w5.heap.size := HB5.out.size
          clear hb5 hB5 hY hy hN
          go_wp2_with fail
          refine (on_calls y w5).mono ?_
          rintro e4 w4 ⟨rfl, rfl⟩
          have hnn := eql_in ⟨w5.heap.size, 0, none⟩
          have HI4 := Aside0.mk (show IsIn (w5.alloc (.cells #[.string y, .int .i64 0] 76)) w5.heap.size y 0 from heap_alloc_new w5 _)
          have HB4 := Aside0.mk (HB5.out.alloc (by omega) (.cells #[.string y, .int .i64 0] 76))
          go_wp2_with fail
          refine (inum_calls w5.heap.size y 0 _ HI4.out (by omega)).mono ?_
          rw [HN.out]
          rintro e6 w6 ⟨rfl, hI6, hF6⟩
          have hs6 := hF6.size
          simp only [World.size_alloc] at hs6
          have HI6 := Aside0.mk hI6
          have HB6 := Aside0.mk (hF6.belowOf HB4.out (by simp; omega) (show w.heap.size ≤ w5.heap.size by omega))
          clear hI6 hF6
          go_wp2_with fail
          refine (iend_calls w5.heap.size _ 3 _ HI6.out).mono ?_
          rw [if_neg (by decide)]
          rintro e7 w7 ⟨rfl, hI7, hF7⟩
          have HB7 := Aside0.mk (hF7.belowOf HB6.out (by omega) (show w.heap.size ≤ w5.heap.size by omega))
          clear hI7 hF7
          go_wp2
          go_ret
          exact ⟨rfl, HB7.out⟩
    · have hu0 : (0 : Int) < (u : Int) := by omega
      have hst := wl_step hu
      have hq9 : q ≤ 9 := by have := HQ2.out; omega
      have HST := Aside0.mk hst
      clear hu hst
      go_wp2
      go_roundg (8 - q)
      case measure => have := HQ.out; have := HQ2.out; have := HST.out; omega
      case rel => exact ⟨q + 1, u / 128, by go_num, by first | (congr 1; unfold wrap64; omega) | go_num, ⟨by omega, by have := HQ2.out; have := HST.out; omega, by omega⟩, rfl⟩
set_option maxHeartbeats 4000000 in
set_option maxRecDepth 100000 in
theorem sizes_dead (n more : Int) (w : World) (h : n < 0 ∨ more < 1 ∨ 6 < more) :
    Calls Try.prog 5 #[.int .i64 n, .int .i64 more] w fun r w' => r = .returned (.bool true) ∧ Below w.heap.size w w' := by
  by_cases g0 : n < 0
  · clear h
    go_enter Try.func5, Try.ntmps5
    go_wp2_with (go_at_call 18; refine (alive1 _).mono ?_; rintro e1 w1 ⟨rfl, hb⟩)
    go_ret
    exact ⟨rfl, hb⟩
  · skip
    by_cases g1 : more < 1
    · clear h
      go_enter Try.func5, Try.ntmps5
      go_wp2_with (go_at_call 18; refine (alive1 _).mono ?_; rintro e1 w1 ⟨rfl, hb⟩)
      go_ret
      exact ⟨rfl, hb⟩
    · skip
      have g2 : 6 < more := by omega
      clear h
      go_enter Try.func5, Try.ntmps5
      go_wp2_with (go_at_call 18; refine (alive1 _).mono ?_; rintro e1 w1 ⟨rfl, hb⟩)
      go_ret
      exact ⟨rfl, hb⟩
theorem sizes_walk (n more : Int) (w : World) (w0 : (Lit.int .i64 n).wf = true) (_w1 : (Lit.int .i64 more).wf = true) :
    Calls Try.prog 5 #[.int .i64 n, .int .i64 more] w fun r w' => r = .returned (.bool true) ∧ Below w.heap.size w w' := by
  by_cases h : n < 0 ∨ more < 1 ∨ 6 < more
  · exact sizes_dead n more w h
  · have hb := (Go.bounds_i64 w0).2
    obtain ⟨N, rfl⟩ := Int.eq_ofNat_of_zero_le (show 0 ≤ n by omega)
    obtain ⟨M, rfl⟩ := Int.eq_ofNat_of_zero_le (show 0 ≤ more by omega)
    exact sizes_live N M w (by omega) (by omega) (by omega)
end Go.Proofs.Ytheieigeipppnaa.Obj
