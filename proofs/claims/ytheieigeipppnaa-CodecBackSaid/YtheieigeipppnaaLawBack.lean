/- The walk of CodecBack: what was laid is read as it was, in its order. Conditions: those in each theorem. -/
import Derived.Test.YtheieigeipppnaaCodPure
import Derived.Test.YtheieigeipppnaaInByte
import Derived.OpenShut
namespace Go.Proofs.Ytheieigeipppnaa.Obj
open Go.RowKit Go.Proofs.YtheieigeipppnaaW.PrintWords Go.Proofs.YtheieigeipppnaaW.PrintMore

set_option maxHeartbeats 4000000 in
set_option maxRecDepth 100000 in
theorem back_dead (a b : Int) (s t : ByteArray) (w : World) (h : 1000 < (s.size : Int) ∨ 1000 < (t.size : Int) ∨ a < 0 ∨ b < 0) :
    Calls Try.prog 11 #[.int .i64 a, .int .i64 b, .string s, .string t] w fun r w' => r = .returned (.bool true) ∧ Below w.heap.size w w' := by
  by_cases g0 : 1000 < (s.size : Int)
  · clear h
    go_enter Try.func11, Try.ntmps11
    go_wp2_with (go_at_call 18; refine (alive1 _).mono ?_; rintro e1 w1 ⟨rfl, hb⟩)
    go_ret
    exact ⟨rfl, hb⟩
  · skip
    by_cases g1 : 1000 < (t.size : Int)
    · clear h
      go_enter Try.func11, Try.ntmps11
      go_wp2_with (go_at_call 18; refine (alive1 _).mono ?_; rintro e1 w1 ⟨rfl, hb⟩)
      go_ret
      exact ⟨rfl, hb⟩
    · skip
      by_cases g2 : a < 0
      · clear h
        go_enter Try.func11, Try.ntmps11
        go_wp2_with (go_at_call 18; refine (alive1 _).mono ?_; rintro e1 w1 ⟨rfl, hb⟩)
        go_ret
        exact ⟨rfl, hb⟩
      · skip
        have g3 : b < 0 := by omega
        clear h
        go_enter Try.func11, Try.ntmps11
        go_wp2_with (go_at_call 18; refine (alive1 _).mono ?_; rintro e1 w1 ⟨rfl, hb⟩)
        go_ret
        exact ⟨rfl, hb⟩
theorem and255 (n : Nat) (h : n < 9223372036854775808) : Go.bits .and .i64 (n : Int) 255 = ((n % 256 : Nat) : Int) := by
  have := bits_mask .i64 63 (by decide) i64_in 8 (by decide) (n : Int) (by omega) (by have e : (2 : Int) ^ 63 = 9223372036854775808 := by decide
                                                                                      omega)
  rw [show ((2 : Int) ^ 8 - 1) = 255 by decide, show ((2 : Int) ^ 8) = 256 by decide] at this
  rw [this]
  simp
set_option maxHeartbeats 8000000 in
set_option maxRecDepth 100000 in
theorem back_live (n m : Nat) (s t : ByteArray) (w : World) (h1 : (s.size : Int) ≤ 1000) (h2 : (t.size : Int) ≤ 1000) (hn : n < 9223372036854775808) (hm : m < 9223372036854775808) :
    Calls Try.prog 11 #[.int .i64 n, .int .i64 m, .string s, .string t] w fun r w' => r = .returned (.bool true) ∧ Below w.heap.size w w' := by
  have hl1 := numB_len9 (v := n) hn
  have hl2 := numB_len9 (v := m) hm
  have hl3 := numB_len9 (v := s.size) (by omega)
  have hl4 := numB_len9 (v := t.size) (by omega)
  have hand := and255 n hn
  go_enter Try.func11, Try.ntmps11
  go_wp2_with fail
  refine (alive1 _).mono ?_
  rintro e0 w0 ⟨rfl, hb0⟩
  have hs0 := hb0.size
  have HO0 := Aside0.mk (IsOut.new (B := w.heap.size) w0)
  have HB0 := Aside0.mk (hb0.alloc hs0 (.cells #[.slice none 0 0, .int .i64 0] 33))
  clear hb0
  go_wp2_with fail
  refine (num2 w.heap.size w0.heap.size _ [] 0 n m (w0.alloc _) (by simp) HO0.out (by simp; omega) (by simp) (by omega) (by omega)).mono ?_
  rw [oNum_ok _ _ (by simp)]
  rintro e1 w1 ⟨rfl, hO1, hF1⟩
  have hs1 := hF1.size
  simp only [World.size_alloc] at hs1
  have HO1 := Aside0.mk hO1
  have HB1 := Aside0.mk (hF1.belowOf HB0.out (by simp; omega) hs0)
  clear hO1 hF1
  obtain ⟨X1, hX1⟩ : ∃ X, X = numB n ++ numB m := ⟨_, rfl⟩
  have HO1' := HO1.out
  rw [show ([] ++ [(n : Int), (m : Int)].flatMap (fun x => numB x.toNat)) = X1 by rw [hX1]; simp] at HO1'
  have HO1 := Aside0.mk HO1'
  have hx1 : X1.length ≤ 18 := by rw [hX1]; simp; omega
  have HX1 := Aside0.mk hX1
  clear HO1' hX1
  go_wp2_with fail
  refine (text2 w.heap.size w0.heap.size _ _ 0 s t w1 rfl HO1.out (by omega) (by omega)).mono ?_
  rw [oText_ok]
  rintro e2 w2 ⟨rfl, hO2, hF2⟩
  have hs2 := hF2.size
  have HO2 := Aside0.mk hO2
  have HB2 := Aside0.mk (hF2.belowOf HB1.out (by omega) hs0)
  clear hO2 hF2
  obtain ⟨X2, hX2⟩ : ∃ X, X = X1 ++ ((numB s.size ++ bytesOf s) ++ (numB t.size ++ bytesOf t)) := ⟨_, rfl⟩
  have HO2' := HO2.out
  rw [show (X1 ++ [s, t].flatMap (fun s => numB s.size ++ bytesOf s)) = X2 by rw [hX2]; simp] at HO2'
  have HO2 := Aside0.mk HO2'
  have hx2 : X2.length ≤ 3000 := by rw [hX2]; simp [bytesOf_length]; omega
  have HX2 := Aside0.mk hX2
  clear HO2' hX2
  go_wp2_with fail
  refine (raw1 w.heap.size w0.heap.size _ _ 0 t w2 rfl HO2.out (by omega) (by omega)).mono ?_
  rw [oRaw_ok]
  rintro e3 w3 ⟨rfl, hO3, hF3⟩
  have hs3 := hF3.size
  have HO3 := Aside0.mk hO3
  have HB3 := Aside0.mk (hF3.belowOf HB2.out (by omega) hs0)
  clear hO3 hF3
  have hx3 : (X2 ++ [t].flatMap bytesOf).length ≤ 5000 := by simp [bytesOf_length]; omega
  go_wp2_with fail
  refine (byte1 w.heap.size w0.heap.size _ _ 0 ((n % 256 : Nat) : Int) w3 rfl HO3.out (by omega) (by omega)).mono ?_
  rw [oByte_ok _ _ (by simp; omega)]
  rintro e4 w4 ⟨rfl, hO4, hF4⟩
  have hs4 := hF4.size
  have HO4 := Aside0.mk hO4
  have HB4 := Aside0.mk (hF4.belowOf HB3.out (by omega) hs0)
  clear hO4 hF4
  go_wp2_with fail
  refine (end_ok w.heap.size w0.heap.size _ w4 HO4.out).mono ?_
  obtain ⟨x, hx⟩ : ∃ x, x = strOfNums (X2 ++ [t].flatMap bytesOf ++ [((n % 256 : Nat) : Int)]) := ⟨_, rfl⟩
  have hxs : x.size ≤ 6000 := by rw [hx, strOfNums_size]; simp at hx3 ⊢; omega
  have hxx : x = strOfNums (numB n ++ (numB m ++ (numB s.size ++ (bytesOf s ++ (numB t.size ++ (bytesOf t ++ (bytesOf t ++ [((n % 256 : Nat) : Int)]))))))) := by rw [hx, HX2.out, HX1.out]; simp
  rw [← hx]
  have HX := Aside0.mk hxx
  clear hx hxx hx3
  rintro e5 w5 ⟨rfl, rfl⟩
  go_wp2_with fail
  refine (on_calls x w4).mono ?_
  rintro e6 w6 ⟨rfl, rfl⟩
  have hnil := eql_in ⟨w4.heap.size, 0, none⟩
  have HI6 := Aside0.mk (show IsIn (w4.alloc (.cells #[.string x, .int .i64 0] 76)) w4.heap.size x 0 from heap_alloc_new w4 _)
  have HB6 := Aside0.mk (HB4.out.alloc (by omega) (.cells #[.string x, .int .i64 0] 76))
  have HN := Aside0.mk (show iNum x 0 = (n, strOfNums (numB m ++ (numB s.size ++ (bytesOf s ++ (numB t.size ++ (bytesOf t ++ (bytesOf t ++ [((n % 256 : Nat) : Int)])))))), 0) by rw [HX.out, iNum_put _ hn])
  go_wp2_with fail
  refine (inum_calls w4.heap.size x 0 _ HI6.out (by omega)).mono ?_
  rw [HN.out]
  rintro e7 w7 ⟨rfl, hI7, hF7⟩
  have hs7 := hF7.size
  simp only [World.size_alloc] at hs7
  have HI7 := Aside0.mk hI7
  have HB7 := Aside0.mk (hF7.belowOf HB6.out (by simp; omega) (show w.heap.size ≤ w4.heap.size by omega))
  clear hI7 hF7
  go_wp2_with fail
  refine (inum_calls w4.heap.size _ 0 _ HI7.out (by rw [strOfNums_size]; simp [bytesOf_length]; omega)).mono ?_
  rw [iNum_put _ hm]
  rintro e8 w8 ⟨rfl, hI8, hF8⟩
  have hs8 := hF8.size
  have HI8 := Aside0.mk hI8
  have HB8 := Aside0.mk (hF8.belowOf HB7.out (by omega) (show w.heap.size ≤ w4.heap.size by omega))
  clear hI8 hF8
  go_wp2_with fail
  refine (itext_calls' w4.heap.size _ 0 _ HI8.out (by rw [strOfNums_size]; simp [bytesOf_length]; omega)).mono ?_
  rw [iText_put s _ (by omega)]
  rintro e9 w9 ⟨rfl, hI9, hF9⟩
  have hs9 := hF9.size
  have HI9 := Aside0.mk hI9
  have HB9 := Aside0.mk (hF9.belowOf HB8.out (by omega) (show w.heap.size ≤ w4.heap.size by omega))
  clear hI9 hF9
  go_wp2_with fail
  refine (itext_calls' w4.heap.size _ 0 _ HI9.out (by rw [strOfNums_size]; simp [bytesOf_length]; omega)).mono ?_
  rw [iText_put t _ (by omega)]
  rintro e10 w10 ⟨rfl, hI10, hF10⟩
  have hs10 := hF10.size
  have HI10 := Aside0.mk hI10
  have HB10 := Aside0.mk (hF10.belowOf HB9.out (by omega) (show w.heap.size ≤ w4.heap.size by omega))
  clear hI10 hF10
  go_wp2_with fail
  refine (iraw_calls w4.heap.size _ 0 _ _ HI10.out (by rw [strOfNums_size]; simp [bytesOf_length]; omega)).mono ?_
  rw [iRaw_put _ t.size (by simp [bytesOf_length]), List.take_left' (bytesOf_length t), List.drop_left' (bytesOf_length t), str_bytes]
  rintro e11 w11 ⟨rfl, hI11, hF11⟩
  have hs11 := hF11.size
  have HI11 := Aside0.mk hI11
  have HB11 := Aside0.mk (hF11.belowOf HB10.out (by omega) (show w.heap.size ≤ w4.heap.size by omega))
  clear hI11 hF11
  go_wp2_with fail
  refine (ibyte_calls w4.heap.size _ 0 _ HI11.out (by rw [strOfNums_size]; simp)).mono ?_
  rw [iByte_put _ [] (by omega) (by omega)]
  rintro e12 w12 ⟨rfl, hI12, hF12⟩
  have hs12 := hF12.size
  have HI12 := Aside0.mk hI12
  have HB12 := Aside0.mk (hF12.belowOf HB11.out (by omega) (show w.heap.size ≤ w4.heap.size by omega))
  clear hI12 hF12
  go_wp2_with fail
  refine (iend_calls w4.heap.size _ 0 _ HI12.out).mono ?_
  rw [if_pos rfl, if_pos (by rw [strOfNums_size]; rfl)]
  rintro e13 w13 ⟨rfl, hI13, hF13⟩
  have HB13 := Aside0.mk (hF13.belowOf HB12.out (by omega) (show w.heap.size ≤ w4.heap.size by omega))
  clear hI13 hF13
  go_wp2
  go_ret
  exact ⟨rfl, HB13.out⟩
theorem back_walk (a b : Int) (s t : ByteArray) (w : World) (w0 : (Lit.int .i64 a).wf = true) (w1 : (Lit.int .i64 b).wf = true) (_w2 : s.size ≤ 140737488351232) (_w3 : t.size ≤ 140737488351232) :
    Calls Try.prog 11 #[.int .i64 a, .int .i64 b, .string s, .string t] w fun r w' => r = .returned (.bool true) ∧ Below w.heap.size w w' := by
  have ha : a ≤ 9223372036854775807 := (Go.bounds_i64 w0).2
  have hb : b ≤ 9223372036854775807 := (Go.bounds_i64 w1).2
  by_cases h : 1000 < (s.size : Int) ∨ 1000 < (t.size : Int) ∨ a < 0 ∨ b < 0
  · exact back_dead a b s t w h
  · obtain ⟨n, rfl⟩ := Int.eq_ofNat_of_zero_le (show 0 ≤ a by omega)
    obtain ⟨m, rfl⟩ := Int.eq_ofNat_of_zero_le (show 0 ≤ b by omega)
    exact back_live n m s t w (by omega) (by omega) (by omega) (by omega)
end Go.Proofs.Ytheieigeipppnaa.Obj
