/- The walk of CodecShort: what is cut off anywhere is too short, and the error stays. Conditions: those in each theorem. -/
import Derived.Test.YtheieigeipppnaaCodPure
import Derived.OpenShut
namespace Go.Proofs.Ytheieigeipppnaa.Obj
open Go.RowKit Go.Proofs.YtheieigeipppnaaW.PrintWords Go.Proofs.YtheieigeipppnaaW.PrintMore
set_option maxHeartbeats 4000000 in
set_option maxRecDepth 100000 in
theorem short_dead (a : Int) (s : ByteArray) (cut : Int) (w : World) (h : 500 < (s.size : Int) ∨ a < 0 ∨ cut < 0) :
    Calls Try.prog 4 #[.int .i64 a, .string s, .int .i64 cut] w fun r w' => r = .returned (.bool true) ∧ Below w.heap.size w w' := by
  by_cases h1 : 500 < (s.size : Int)
  · clear h
    go_enter Try.func4, Try.ntmps4
    go_wp2_with (go_at_call 18; refine (alive1 _).mono ?_; rintro e1 w1 ⟨rfl, hb⟩)
    go_ret
    exact ⟨rfl, hb⟩
  · by_cases h2 : a < 0
    · clear h
      go_enter Try.func4, Try.ntmps4
      go_wp2_with (go_at_call 18; refine (alive1 _).mono ?_; rintro e1 w1 ⟨rfl, hb⟩)
      go_ret
      exact ⟨rfl, hb⟩
    · have h3 : cut < 0 := by omega
      clear h
      go_enter Try.func4, Try.ntmps4
      go_wp2_with (go_at_call 18; refine (alive1 _).mono ?_; rintro e1 w1 ⟨rfl, hb⟩)
      go_ret
      exact ⟨rfl, hb⟩
set_option maxHeartbeats 8000000 in
set_option maxRecDepth 100000 in
theorem short_live (a : Int) (s : ByteArray) (cut : Int) (w : World) (h1 : ¬ 500 < (s.size : Int)) (h2 : ¬ a < 0) (h3 : ¬ cut < 0) (ha : a ≤ 9223372036854775807) (hc : cut ≤ 9223372036854775807) :
    Calls Try.prog 4 #[.int .i64 a, .string s, .int .i64 cut] w fun r w' => r = .returned (.bool true) ∧ Below w.heap.size w w' := by
  go_enter Try.func4, Try.ntmps4
  go_wp2_with fail
  refine (alive1 _).mono ?_
  rintro e0 w0 ⟨rfl, hb0⟩
  have hs0 := hb0.size
  have HO0 := Aside0.mk (IsOut.new (B := w.heap.size) w0)
  have HB0 := Aside0.mk (hb0.alloc hs0 (.cells #[.slice none 0 0, .int .i64 0] 33))
  obtain ⟨n, rfl⟩ := Int.eq_ofNat_of_zero_le (show 0 ≤ a by omega)
  obtain ⟨c, rfl⟩ := Int.eq_ofNat_of_zero_le (show 0 ≤ cut by omega)
  have hl1 := numB_len9 (v := n) (by omega)
  have hl2 := numB_len9 (v := s.size) (by omega)
  clear hb0
  go_wp2_with fail
  refine (num1 w.heap.size w0.heap.size _ [] 0 n (w0.alloc _) (by simp) HO0.out (by simp; omega) (by simp) (by omega)).mono ?_
  rw [oNum_ok _ _ (by simp)]
  rintro e1 w1 ⟨rfl, hO1, hF1⟩
  have hs1 := hF1.size
  simp only [World.size_alloc] at hs1
  have HO1 := Aside0.mk hO1
  have HB1 := Aside0.mk (hF1.belowOf HB0.out (by simp; omega) hs0)
  clear hO1 hF1
  go_wp2_with fail
  refine (text1 w.heap.size w0.heap.size _ _ 0 s w1 rfl HO1.out (by omega) (by simp; omega)).mono ?_
  rw [oText_ok]
  rintro e2 w2 ⟨rfl, hO2, hF2⟩
  have hs2 := hF2.size
  have HO2 := Aside0.mk hO2
  have HB2 := Aside0.mk (hF2.belowOf HB1.out (by omega) hs0)
  clear hO2 hF2
  go_wp2_with fail
  refine (end_ok w.heap.size w0.heap.size _ w2 HO2.out).mono ?_
  obtain ⟨X, hX⟩ : ∃ X, X = numB n ++ (numB s.size ++ bytesOf s) := ⟨_, rfl⟩
  have hX2 : ([] ++ [(n : Int)].flatMap (fun x => numB x.toNat)) ++ [s].flatMap (fun s => numB s.size ++ bytesOf s) = X := by rw [hX]; simp
  rw [hX2]
  have hXl : X.length = (numB n).length + ((numB s.size).length + s.size) := by rw [hX]; simp [bytesOf_length]
  obtain ⟨x, hx⟩ : ∃ x, x = strOfNums X := ⟨_, rfl⟩
  have hxs : x.size = X.length := by rw [hx, strOfNums_size]
  have hxb : x.size ≤ 1000 := by omega
  have hk0 : 0 ≤ (c : Int) % ((x.size : Int) + 1) := Int.emod_nonneg _ (by omega)
  have hk1 : (c : Int) % ((x.size : Int) + 1) < (x.size : Int) + 1 := Int.emod_lt_of_pos _ (by omega)
  rw [← hx]
  rintro e3 w3 ⟨rfl, rfl⟩
  have HX := Aside0.mk hX
  have HXl := Aside0.mk hXl
  have Hx := Aside0.mk hx
  have Hxs := Aside0.mk hxs
  clear hX hX2 hXl hx hxs
  go_wp2_with fail
  obtain ⟨y, hy⟩ : ∃ y, y = x.extract 0 (c % (x.size + 1)) := ⟨_, rfl⟩
  obtain ⟨k, hk⟩ : ∃ k, k = c % (x.size + 1) := ⟨_, rfl⟩
  have hyt : y = strOfNums (X.take k) := by rw [hy, ← hk, Hx.out, str_take]
  have hkl : k ≤ x.size := by rw [hk]; have := Nat.mod_lt c (show 0 < x.size + 1 by omega); omega
  have hki : (k : Int) = (c : Int) % ((x.size : Int) + 1) := by rw [hk]; simp
  rw [← hy]
  refine (on_calls y w2).mono ?_
  rintro e4 w4 ⟨rfl, rfl⟩
  have hn := eql_in ⟨w2.heap.size, 0, none⟩
  have hysz : y.size ≤ 1000 := by rw [hyt, strOfNums_size, List.length_take]; have := Hxs.out; omega
  have HI4 := Aside0.mk (show IsIn (w2.alloc (.cells #[.string y, .int .i64 0] 76)) w2.heap.size y 0 from heap_alloc_new w2 _)
  have HB4 := Aside0.mk (HB2.out.alloc (by omega) (.cells #[.string y, .int .i64 0] 76))
  have HY := Aside0.mk hyt
  have HK := Aside0.mk hk
  have HKI := Aside0.mk hki
  clear hy hyt hk hki
  by_cases hfull : k = x.size
  · have hN : iNum y 0 = (n, strOfNums (numB s.size ++ (bytesOf s ++ [])), 0) := by
      rw [HY.out, List.take_of_length_le (by have := Hxs.out; omega), HX.out, iNum_put _ (by omega), List.append_nil]
    have hT : iText (strOfNums (numB s.size ++ (bytesOf s ++ []))) 0 = (s, strOfNums [], 0) := iText_put s [] (by omega)
    have hd : ((c : Int) % ((x.size : Int) + 1) == (x.size : Int)) = true := by rw [← HKI.out, hfull]; simp
    have HN := Aside0.mk hN
    have HT := Aside0.mk hT
    clear hfull hN hT
    go_wp2_with fail
    refine (inum_calls w2.heap.size y 0 _ HI4.out (by omega)).mono ?_
    rw [HN.out]
    rintro e5 w5 ⟨rfl, hI5, hF5⟩
    have hs5 := hF5.size
    simp only [World.size_alloc] at hs5
    have HI5 := Aside0.mk hI5
    have HB5 := Aside0.mk (hF5.belowOf HB4.out (by simp; omega) (show w.heap.size ≤ w2.heap.size by omega))
    clear hI5 hF5
    go_wp2_with fail
    refine (itext_calls w2.heap.size _ 0 _ HI5.out (by rw [strOfNums_size]; simp [bytesOf_length]; omega)).mono ?_
    have hT := HT.out
    unfold iText at hT
    rw [hT]
    clear hT
    rintro e6 w6 ⟨rfl, hI6, hF6⟩
    have hs6 := hF6.size
    have HI6 := Aside0.mk hI6
    have HB6 := Aside0.mk (hF6.belowOf HB5.out (by omega) (show w.heap.size ≤ w2.heap.size by omega))
    clear hI6 hF6
    go_wp2_with fail
    refine (iend_calls w2.heap.size _ 0 _ HI6.out).mono ?_
    rw [if_pos rfl, if_pos (by rw [strOfNums_size]; rfl)]
    rintro e7 w7 ⟨rfl, hI7, hF7⟩
    have HB7 := Aside0.mk (hF7.belowOf HB6.out (by omega) (show w.heap.size ≤ w2.heap.size by omega))
    clear hI7 hF7
    go_wp2
    go_ret
    exact ⟨rfl, HB7.out⟩
  · obtain ⟨u, b1, e1, b2, hN, hT⟩ : ∃ u b1 e1 b2, iNum y 0 = (u, b1, e1) ∧ iText b1 e1 = (ByteArray.empty, b2, 2) := by
      rw [HY.out, HX.out]
      by_cases hc1 : k < (numB n).length
      · rw [List.take_append_of_le_length (by omega), iNum_cut (by omega) hc1]
        exact ⟨_, _, _, _, rfl, iText_err (by decide)⟩
      · rw [List.take_append, List.take_of_length_le (by omega), iNum_put _ (by omega)]
        obtain ⟨b2, hb2⟩ := iText_cut s (k - (numB n).length) (by omega) (by have := Hxs.out; have := HXl.out; omega)
        exact ⟨_, _, _, b2, rfl, hb2⟩
    have hd : ((c : Int) % ((x.size : Int) + 1) == (x.size : Int)) = false := by rw [← HKI.out, beq_eq_false_iff_ne]; omega
    have hb1 := iNum_size y 0
    rw [hN] at hb1
    replace hb1 : b1.size ≤ y.size := hb1
    have HN := Aside0.mk hN
    have HT := Aside0.mk hT
    clear hfull hN hT
    go_wp2_with fail
    refine (inum_calls w2.heap.size y 0 _ HI4.out (by omega)).mono ?_
    rw [HN.out]
    rintro e5 w5 ⟨rfl, hI5, hF5⟩
    have hs5 := hF5.size
    simp only [World.size_alloc] at hs5
    have HI5 := Aside0.mk hI5
    have HB5 := Aside0.mk (hF5.belowOf HB4.out (by simp; omega) (show w.heap.size ≤ w2.heap.size by omega))
    clear hI5 hF5
    go_wp2_with fail
    refine (itext_calls w2.heap.size _ e1 _ HI5.out (by omega)).mono ?_
    have hT := HT.out
    unfold iText at hT
    rw [hT]
    clear hT
    rintro e6 w6 ⟨rfl, hI6, hF6⟩
    have hs6 := hF6.size
    have HI6 := Aside0.mk hI6
    have HB6 := Aside0.mk (hF6.belowOf HB5.out (by omega) (show w.heap.size ≤ w2.heap.size by omega))
    clear hI6 hF6
    go_wp2_with fail
    refine (ileft_calls w2.heap.size _ 2 _ HI6.out).mono ?_
    rw [if_neg (by decide)]
    rintro e7 w7 ⟨rfl, rfl⟩
    go_wp2_with fail
    refine (iend_calls w2.heap.size _ 2 _ HI6.out).mono ?_
    rw [if_neg (by decide)]
    rintro e8 w8 ⟨rfl, hI8, hF8⟩
    have hs8 := hF8.size
    have HI8 := Aside0.mk hI8
    have HB8 := Aside0.mk (hF8.belowOf HB6.out (by omega) (show w.heap.size ≤ w2.heap.size by omega))
    clear hI8 hF8
    go_wp2_with fail
    refine (iend_calls w2.heap.size _ 2 _ HI8.out).mono ?_
    rw [if_neg (by decide)]
    rintro e9 w9 ⟨rfl, hI9, hF9⟩
    have HB9 := Aside0.mk (hF9.belowOf HB8.out (by omega) (show w.heap.size ≤ w2.heap.size by omega))
    clear hI9 hF9
    go_wp2
    go_ret
    exact ⟨rfl, HB9.out⟩
theorem short_walk (a : Int) (s : ByteArray) (cut : Int) (w : World) (w0 : (Lit.int .i64 a).wf = true) (_w1 : s.size ≤ 140737488351232) (w2 : (Lit.int .i64 cut).wf = true) :
    Calls Try.prog 4 #[.int .i64 a, .string s, .int .i64 cut] w fun r w' => r = .returned (.bool true) ∧ Below w.heap.size w w' := by
  have ha : a ≤ 9223372036854775807 := (Go.bounds_i64 w0).2
  have hc : cut ≤ 9223372036854775807 := (Go.bounds_i64 w2).2
  by_cases h : 500 < (s.size : Int) ∨ a < 0 ∨ cut < 0
  · exact short_dead a s cut w h
  · exact short_live a s cut w (by omega) (by omega) (by omega) ha hc
end Go.Proofs.Ytheieigeipppnaa.Obj
