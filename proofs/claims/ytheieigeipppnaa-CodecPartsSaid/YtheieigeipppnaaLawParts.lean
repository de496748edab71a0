/- The walk of CodecParts: parts that are laid one behind the other are read one behind the other. Conditions: those in each theorem. -/
import Derived.Test.YtheieigeipppnaaInByte
import Derived.Test.YtheieigeipppnaaArgs
import Derived.OpenShut
namespace Go.Proofs.Ytheieigeipppnaa.Obj
open Go.RowKit Go.Proofs.YtheieigeipppnaaW.PrintWords Go.Proofs.YtheieigeipppnaaW.PrintMore
theorem iRaw_size' (b : ByteArray) (e : Int) : (iText b e).2.1.size ≤ b.size := by
  have h1 := iNum_size b e
  unfold iText iRaw
  split
  · exact h1
  · split
    · exact h1
    · split
      · exact h1
      · simp
        omega
/-- Texts, laid. -/
def layT (ss : List ByteArray) : List Int := ss.flatMap (fun s => numB s.size ++ bytesOf s)
theorem layT_snoc (ss : List ByteArray) (s : ByteArray) : layT (ss ++ [s]) = layT ss ++ (numB s.size ++ bytesOf s) := by simp [layT]
theorem take_next {α : Type} {l : List α} {k : Nat} {x : α} (h : l[k]? = some x) : l.take (k + 1) = l.take k ++ [x] := by
  obtain ⟨hk, rfl⟩ := List.getElem?_eq_some_iff.1 h
  exact List.take_succ_eq_append_getElem hk
set_option maxHeartbeats 8000000 in
set_option maxRecDepth 100000 in
theorem parts_live' (ad : Addr) (cap : Nat) (ss : List ByteArray) (w : World) (hA : ∀ i s, ss[i]? = some s → w.cell? (ad.add i) = some (.string s)) (hl : ss.length ≤ 30) :
    Calls Try.prog 6 #[.slice (some ad) ss.length cap] w fun r w' => r = .returned (.bool true) ∧ Below w.heap.size w w' := by
  have HA := Aside0.mk hA
  clear hA
  go_enter Try.func6, Try.ntmps6
  go_wp2_with fail
  refine (alive1 _).mono ?_
  rintro e0 w0 ⟨rfl, hb0⟩
  have hs0 := hb0.size
  have HO0 := Aside0.mk (IsOut.new (B := w.heap.size) w0)
  have HB0 := Aside0.mk (hb0.alloc hs0 (.cells #[.slice none 0 0, .int .i64 0] 33))
  clear hb0
  go_wp2_with fail
  go_loopg [4] 30 (fun kq v4 wr => ∃ (k : Nat), v4 = .int .i64 k ∧ Aside0 (k ≤ ss.length ∧ kq = 30 - k) ∧ Aside0 (IsOut w.heap.size wr w0.heap.size (layT (ss.take k)) 0 ∧ Below w.heap.size w wr ∧ w0.heap.size < wr.heap.size ∧ (layT (ss.take k)).length ≤ k * 400 ∧ ∀ s ∈ ss.take k, s.size ≤ 300))
  case atStart => exact ⟨0, rfl, ⟨Nat.zero_le _, rfl⟩, ⟨HO0.out, HB0.out, by simp, by simp [layT], by simp⟩⟩
  case round =>
    obtain ⟨k, rfl, ⟨hk, hkq⟩, ⟨hO, hB, hsz, hL, hS⟩⟩ := hrel
    have HO := Aside0.mk hO
    have HB := Aside0.mk hB
    have HS := Aside0.mk hS
    have HQ := Aside0.mk hkq
    clear hO hB hS hkq
    by_cases hlt : k < ss.length
    · obtain ⟨x, hxk⟩ : ∃ x, ss[k]? = some x := ⟨ss[k], by simp [hlt]⟩
      have hc := pw_cell_below HB.out (HA.out k x hxk)
      have HK := Aside0.mk hxk
      clear hxk
      by_cases h300 : 300 < (x.size : Int)
      · go_wp2
        go_ret
        exact ⟨rfl, HB.out⟩
      · have h9 := numB_len9 (v := x.size) (by omega)
        go_wp2_with fail
        refine (text1 w.heap.size w0.heap.size _ _ 0 x wr rfl HO.out (by omega) (by omega)).mono ?_
        rw [oText_ok]
        rintro e1 w1 ⟨rfl, hO1, hF1⟩
        have HO1 := Aside0.mk hO1
        have HB1 := Aside0.mk (hF1.belowOf HB.out (by omega) hs0)
        have hz := hF1.size
        clear hO1 hF1
        go_wp2
        go_roundg (29 - k)
        case measure => have := HQ.out; omega
        case rel =>
          have ht := take_next HK.out
          refine ⟨k + 1, by go_num, ⟨by omega, by omega⟩, ⟨?_, HB1.out, by omega, ?_, ?_⟩⟩
          · rw [ht, layT_snoc]
            have := HO1.out
            simpa using this
          · rw [ht, layT_snoc]
            simp [bytesOf_length]
            omega
          · rw [ht]
            intro s hs
            rcases List.mem_append.1 hs with h | h
            · exact HS.out s h
            · obtain rfl : s = x := by simpa using h
              omega
    · obtain rfl : k = ss.length := by omega
      have hO' := HO.out
      have hS' := HS.out
      rw [List.take_of_length_le (Nat.le_refl _)] at hO' hS' hL
      have HO := Aside0.mk hO'
      have HS := Aside0.mk hS'
      clear hO' hS'
      go_wp2_with fail
      refine (end_ok w.heap.size w0.heap.size _ wr HO.out).mono ?_
      obtain ⟨x, hx⟩ : ∃ x, x = strOfNums (layT ss) := ⟨_, rfl⟩
      have hxs : x.size ≤ 12000 := by rw [hx, strOfNums_size]; omega
      rw [← hx]
      rintro e1 w1 ⟨rfl, rfl⟩
      have HX := Aside0.mk hx
      clear hx
      go_wp2_with fail
      refine (on_calls x wr).mono ?_
      rintro e2 w2 ⟨rfl, rfl⟩
      have hnil := eql_in ⟨wr.heap.size, 0, none⟩
      have hz := HB.out.size
      have HI := Aside0.mk (show IsIn (wr.alloc (.cells #[.string x, .int .i64 0] 76)) wr.heap.size x 0 from heap_alloc_new wr _)
      have HB2 := Aside0.mk (HB.out.alloc (by omega) (.cells #[.string x, .int .i64 0] 76))
      go_wp2_with fail
      obtain ⟨wb, rfl⟩ : ∃ wb : World, wb = wr := ⟨_, rfl⟩
      go_loopg [8] 30 (fun kq v8 wr => ∃ (k : Nat), v8 = .int .i64 k ∧ Aside0 (k ≤ ss.length ∧ kq = 30 - k) ∧ Aside0 (IsIn wr wb.heap.size (strOfNums (layT (ss.drop k))) 0 ∧ Below w.heap.size w wr ∧ wb.heap.size < wr.heap.size ∧ (strOfNums (layT (ss.drop k))).size ≤ 12000))
      case atStart => exact ⟨0, rfl, ⟨Nat.zero_le _, rfl⟩, ⟨by have := HI.out; rw [HX.out] at this; simpa [HX.out] using this, HB2.out, by simp, by have := HX.out; rw [List.drop_zero, ← this]; exact hxs⟩⟩
      case round =>
        obtain ⟨k, rfl, ⟨hk, hkq⟩, ⟨hI, hB, hsz, hL3⟩⟩ := hrel
        have HI := Aside0.mk hI
        have HB := Aside0.mk hB
        have HQ := Aside0.mk hkq
        clear hI hB hkq
        by_cases hlt : k < ss.length
        · obtain ⟨y, hyk⟩ : ∃ y, ss[k]? = some y := ⟨ss[k], by simp [hlt]⟩
          have HC0 := Aside0.mk (HA.out k y hyk)
          have hc := pw_cell_below HB.out HC0.out
          have hi0 : (0 : Int) ≤ (k : Int) := Int.natCast_nonneg _
          have hi1 : (k : Int) < (ss.length : Int) := by omega
          have hy : y.size ≤ 300 := HS.out y (List.mem_of_getElem? hyk)
          have hT : iText (strOfNums (layT (ss.drop k))) 0 = (y, strOfNums (layT (ss.drop (k + 1))), 0) := by
            rw [drop_at hyk]
            have : layT (y :: ss.drop (k + 1)) = numB y.size ++ (bytesOf y ++ layT (ss.drop (k + 1))) := by simp [layT]
            rw [this, iText_put y _ (by omega)]
          have hT2 := iRaw_size' (strOfNums (layT (ss.drop k))) 0
          rw [hT] at hT2
          have HT := Aside0.mk hT
          have HT2 := Aside0.mk hT2
          clear hyk hT hT2
          go_wp2_with fail
          go_region_held3 (fun w' => w'.cell? (ad.add k) = some (.string y)) (first | assumption | go_keep) (first | (refine (itext_calls' wb.heap.size _ 0 _ (by exact HI.out) (by omega)).mono ?_; rw [HT.out]; rintro e3 w3 ⟨rfl, hI3, hF3⟩; have HB3 := Aside0.mk (hF3.belowOf (B := w.heap.size) (w0 := w) (by first | exact HB.out | exact below_drew HB.out) (by simp; omega) (show w.heap.size ≤ wb.heap.size by omega)); have hc3 := pw_cell_below HB3.out HC0.out; have HI3 := Aside0.mk hI3; have hz3 : wr.heap.size ≤ w3.heap.size := hF3.size; clear hI3 hF3))
          go_wp2
          go_roundg (29 - k)
          case measure => have := HQ.out; omega
          case rel => exact ⟨k + 1, by go_num, ⟨by omega, by omega⟩, ⟨HI3.out, HB3.out, by omega, by have h : (strOfNums (layT (ss.drop (k + 1)))).size ≤ (strOfNums (layT (ss.drop k))).size := HT2.out; omega⟩⟩
        · obtain rfl : k = ss.length := by omega
          have hI' := HI.out
          rw [List.drop_of_length_le (Nat.le_refl _)] at hI'
          have HI := Aside0.mk hI'
          clear hI'
          go_wp2_with fail
          refine (ileft_calls wb.heap.size _ 0 _ HI.out).mono ?_
          rw [if_pos rfl, show ((strOfNums (layT [])).size : Int) = 0 by rw [strOfNums_size]; rfl]
          rintro e3 w3 ⟨rfl, rfl⟩
          go_wp2_with fail
          refine (iend_calls wb.heap.size _ 0 _ HI.out).mono ?_
          rw [if_pos rfl, if_pos (by rw [strOfNums_size]; rfl)]
          rintro e4 w4 ⟨rfl, hI4, hF4⟩
          have HB4 := Aside0.mk (hF4.belowOf HB.out (by omega) (show w.heap.size ≤ wb.heap.size by omega))
          clear hI4 hF4
          go_wp2
          go_ret
          exact ⟨rfl, HB4.out⟩
set_option maxHeartbeats 8000000 in
set_option maxRecDepth 100000 in
theorem parts_none (A : Option Addr) (cap : Nat) (w : World) :
    Calls Try.prog 6 #[.slice A 0 cap] w fun r w' => r = .returned (.bool true) ∧ Below w.heap.size w w' := by
  go_enter Try.func6, Try.ntmps6
  go_wp2_with fail
  refine (alive1 _).mono ?_
  rintro e0 w0 ⟨rfl, hb0⟩
  have hs0 := hb0.size
  have HO0 := Aside0.mk (IsOut.new (B := w.heap.size) w0)
  have HB0 := Aside0.mk (hb0.alloc hs0 (.cells #[.slice none 0 0, .int .i64 0] 33))
  clear hb0
  go_wp2_with fail
  refine wp_loop_rounds 1 ?_
  rw [rounds_succ]
  go_wp2_with fail
  refine (end_ok w.heap.size w0.heap.size _ _ HO0.out).mono ?_
  rintro e1 w1 ⟨rfl, rfl⟩
  go_wp2_with fail
  refine (on_calls _ _).mono ?_
  rintro e2 w2 ⟨rfl, rfl⟩
  have hnil := eql_in ⟨w0.heap.size + 1, 0, none⟩
  have HI := Aside0.mk (show IsIn ((w0.alloc (.cells #[.slice none 0 0, .int .i64 0] 33)).alloc (.cells #[.string (strOfNums []), .int .i64 0] 76)) (w0.heap.size + 1) (strOfNums []) 0 from by
    have := heap_alloc_new (w0.alloc (.cells #[.slice none 0 0, .int .i64 0] 33)) (.cells #[.string (strOfNums []), .int .i64 0] 76)
    simp only [World.size_alloc] at this
    exact this)
  have HB := Aside0.mk (HB0.out.alloc (by simp; omega) (.cells #[.string (strOfNums []), .int .i64 0] 76))
  go_wp2_with fail
  refine wp_loop_rounds 1 ?_
  rw [rounds_succ]
  go_wp2_with fail
  refine (ileft_calls (w0.heap.size + 1) _ 0 _ HI.out).mono ?_
  rw [if_pos rfl, show ((strOfNums []).size : Int) = 0 by rw [strOfNums_size]; rfl]
  rintro e3 w3 ⟨rfl, rfl⟩
  go_wp2_with fail
  refine (iend_calls (w0.heap.size + 1) _ 0 _ HI.out).mono ?_
  rw [if_pos rfl, if_pos (by rw [strOfNums_size]; rfl)]
  rintro e4 w4 ⟨rfl, hI4, hF4⟩
  have HB4 := Aside0.mk (hF4.belowOf HB.out (by simp; omega) (show w.heap.size ≤ w0.heap.size + 1 by omega))
  clear hI4 hF4
  go_wp2
  go_ret
  exact ⟨rfl, HB4.out⟩
theorem parts_dead (A : Option Addr) (n cap : Nat) (w : World) (h : 30 < n) (hn : n ≤ 9223372036854775807) :
    Calls Try.prog 6 #[.slice A n cap] w fun r w' => r = .returned (.bool true) ∧ Below w.heap.size w w' := by
  have h' : 30 < (n : Int) := by omega
  clear h
  go_enter Try.func6, Try.ntmps6
  go_wp2_with (go_at_call 18; refine (alive1 _).mono ?_; rintro e1 w1 ⟨rfl, hb⟩)
  go_ret
  exact ⟨rfl, hb⟩
theorem parts_walk (A : Option Addr) (n cap : Nat) (ss : List ByteArray) (w : World) (h : ArgStr w A n ss) :
    Calls Try.prog 6 #[.slice A n cap] w fun r w' => r = .returned (.bool true) ∧ Below w.heap.size w w' := by
  obtain ⟨rfl, hm, hc⟩ := h
  unfold maxLen at hm
  by_cases h30 : 30 < ss.length
  · exact parts_dead A _ cap w h30 hm
  · rcases hc with h0 | ⟨ad, rfl, hc⟩
    · rw [h0]; exact parts_none A cap w
    · exact parts_live' ad cap ss w hc (by omega)
end Go.Proofs.Ytheieigeipppnaa.Obj
