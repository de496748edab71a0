/- The walk of RingFlows: bytes that go through a small ring bit by bit come out as they went in, in order. Conditions: those in each theorem. -/
import Derived.Test.YtheieigeipppnaaRingA
import Derived.OpenShut
namespace Go.Proofs.Ytheieigeipppnaa.Obj
open Go.RowKit Go.Proofs.YtheieigeipppnaaW.PrintWords Go.Proofs.YtheieigeipppnaaW.PrintMore
attribute [local go_sem] max2_int min2_int max_two min_two

set_option maxHeartbeats 4000000 in
set_option maxRecDepth 100000 in
theorem flows_dead (room : Int) (s : ByteArray) (inn out : Int) (w : World) (h : room < 1 ∨ 200 < room ∨ 1500 < (s.size : Int) ∨ inn < 1 ∨ out < 1) :
    Calls Try.prog 3 #[.int .i64 room, .string s, .int .i64 inn, .int .i64 out] w fun r w' => r = .returned (.bool true) ∧ Below w.heap.size w w' := by
  by_cases g0 : room < 1
  · clear h
    go_enter Try.func3, Try.ntmps3
    go_wp2_with (go_at_call 13; refine (alive2 _).mono ?_; rintro e1 w1 ⟨rfl, hb⟩)
    go_ret
    exact ⟨rfl, hb⟩
  · skip
    by_cases g1 : 200 < room
    · clear h
      go_enter Try.func3, Try.ntmps3
      go_wp2_with (go_at_call 13; refine (alive2 _).mono ?_; rintro e1 w1 ⟨rfl, hb⟩)
      go_ret
      exact ⟨rfl, hb⟩
    · skip
      by_cases g2 : 1500 < (s.size : Int)
      · clear h
        go_enter Try.func3, Try.ntmps3
        go_wp2_with (go_at_call 13; refine (alive2 _).mono ?_; rintro e1 w1 ⟨rfl, hb⟩)
        go_ret
        exact ⟨rfl, hb⟩
      · skip
        by_cases g3 : inn < 1
        · clear h
          go_enter Try.func3, Try.ntmps3
          go_wp2_with (go_at_call 13; refine (alive2 _).mono ?_; rintro e1 w1 ⟨rfl, hb⟩)
          go_ret
          exact ⟨rfl, hb⟩
        · skip
          have g4 : out < 1 := by omega
          clear h
          go_enter Try.func3, Try.ntmps3
          go_wp2_with (go_at_call 13; refine (alive2 _).mono ?_; rintro e1 w1 ⟨rfl, hb⟩)
          go_ret
          exact ⟨rfl, hb⟩

/-- One round, as numbers and lists have it: x is handed in, p of it is taken; t comes out. -/
theorem flow_step (R : Nat) (s left got b x : ByteArray) (out : Int) (m : Nat) (hx : dl x = (dl left).take m) (hm : m ≤ left.size) (hm1 : left.size ≠ 0 → 1 ≤ m) (hR : 1 ≤ R) (hb : b.size ≤ R) (ho : 1 ≤ out)
    (hs : dl got ++ (dl b ++ dl left) = dl s) (hl : got.size < s.size) :
    (rPut R b x).size ≤ left.size ∧ (b ++ rPut R b x).size ≤ R ∧ (rDrop (b ++ rPut R b x) out).size ≤ R ∧ got.size + 1 ≤ (got ++ rPeek (b ++ rPut R b x) out).size ∧
    dl (got ++ rPeek (b ++ rPut R b x) out) ++ (dl (rDrop (b ++ rPut R b x) out) ++ dl (left.extract (rPut R b x).size left.size)) = dl s := by
  have hxs : x.size = m := by rw [← dl_len, hx, List.length_take, dl_len]; omega
  have hp := rPut_size' R b x
  have hbp : (b ++ rPut R b x).size = b.size + (rPut R b x).size := by simp
  have hsz : got.size + (b.size + left.size) = s.size := by rw [← dl_len s, ← hs]; simp [dl_len]
  have hpk := rPeek_size' (b ++ rPut R b x) out
  have hrd := rDrop_size (b ++ rPut R b x) out
  refine ⟨by omega, by omega, by omega, ?_, ?_⟩
  · rw [ByteArray.size_append, hpk]
    by_cases h : left.size = 0
    · omega
    · have := hm1 h
      omega
  · rw [dl_app, dl_peek, dl_rdrop, dl_drop, dl_app, hp]
    have e : dl (rPut R b x) = (dl left).take (min (R - b.size) x.size) := by rw [dl_put, hx, List.take_take, hxs]
    rw [e]
    have e2 : ∀ (l : List UInt8) (n : Nat), l.take n ++ (l.drop n ++ (dl left).drop (min (R - b.size) x.size)) = l ++ (dl left).drop (min (R - b.size) x.size) := by
      intro l n
      rw [← List.append_assoc, List.take_append_drop]
    rw [List.append_assoc, e2, List.append_assoc, List.take_append_drop]
    exact hs
set_option maxHeartbeats 8000000 in
set_option maxRecDepth 100000 in
theorem flows_live (R : Nat) (s : ByteArray) (inn out : Int) (w : World) (h1 : 1 ≤ R) (h2 : R ≤ 200) (h3 : s.size ≤ 1500) (h4 : 1 ≤ inn) (h5 : 1 ≤ out) (h6 : inn ≤ 9223372036854775807) :
    Calls Try.prog 3 #[.int .i64 (R : Int), .string s, .int .i64 inn, .int .i64 out] w fun r w' => r = .returned (.bool true) ∧ Below w.heap.size w w' := by
  go_enter Try.func3, Try.ntmps3
  go_wp2_with fail
  refine (alive2 _).mono ?_
  rintro e0 w0 ⟨rfl, hb0⟩
  have hs0 := hb0.size
  have hnil := eql_ring ⟨w0.heap.size, 0, none⟩
  have HB0 := Aside0.mk (hb0.alloc hs0 (.cells #[.int .i64 (R : Int), .string ⟨#[]⟩] 71))
  have HI0 := Aside0.mk (show IsRing (w0.alloc (.cells #[.int .i64 (R : Int), .string ⟨#[]⟩] 71)) w0.heap.size R ⟨#[]⟩ from heap_alloc_new w0 _)
  clear hb0
  go_wp2_with fail
  refine (rnew_calls R w0).mono ?_
  rw [show roomOf (R : Int) = R by unfold roomOf; rw [if_neg (by omega), if_neg (by omega)]; omega]
  rintro e1 w1 ⟨rfl, rfl⟩
  go_wp2_with fail
  go_loopg [10, 11, 12] 4000 (fun kq v10 v11 v12 wr => ∃ (i : Nat) (left got b : ByteArray), v10 = .string left ∧ v11 = .string got ∧ v12 = .int .i64 i ∧ Aside0 (i ≤ got.size ∧ kq = 4000 - i ∧ left.size ≤ 1500 ∧ got.size ≤ 1500) ∧ Aside0 (IsRing wr w0.heap.size R b ∧ Below w.heap.size w wr ∧ w0.heap.size < wr.heap.size ∧ b.size ≤ R ∧ dl got ++ (dl b ++ dl left) = dl s))
  case atStart => exact ⟨0, s, ⟨#[]⟩, ⟨#[]⟩, rfl, rfl, rfl, ⟨Nat.zero_le _, rfl, h3, by decide⟩, ⟨HI0.out, HB0.out, by simp, Nat.zero_le _, by simp [dl_nil]⟩⟩
  case round =>
    obtain ⟨i, left, got, b, rfl, rfl, rfl, ⟨hi, hkq, hl15, hg15⟩, ⟨hI, hB, hsz, hbR, hs⟩⟩ := hrel
    have HI := Aside0.mk hI
    have HB := Aside0.mk hB
    have HS := Aside0.mk hs
    have HQ := Aside0.mk hkq
    clear hI hB hs hkq
    by_cases hlt : got.size < s.size
    · by_cases hin : (left.size : Int) < inn
      · have HX := flow_step R s left got b left out left.size (by rw [List.take_of_length_le (by rw [dl_len]; exact Nat.le_refl _)]) (Nat.le_refl _) (by omega) h1 hbR h5 HS.out hlt
        obtain ⟨x1, x2, x3, x4, x5⟩ := HX
        have x6 : (rPut R b left).size ≤ left.size := x1
        have X5 := Aside0.mk x5
        clear x5
        go_wp2_with fail
        refine (rput1 w0.heap.size _ R b left wr rfl HI.out hbR (by omega) (by omega)).mono ?_
        obtain ⟨p, hp⟩ : ∃ p, p = rPut R b left := ⟨_, rfl⟩
        rw [← hp] at x1 x2 x3 x4 x6 X5 ⊢
        clear hp
        rintro e2 w2 ⟨rfl, hI2, hF2⟩
        have HI2 := Aside0.mk hI2
        have HB2 := Aside0.mk (hF2.upOf HB.out (by omega) (show w.heap.size ≤ w0.heap.size by omega))
        have hs2 := hF2.size
        clear hI2 hF2
        go_wp2_with fail
        refine (rtake_calls w0.heap.size R _ out _ HI2.out (by omega)).mono ?_
        obtain ⟨t, ht⟩ : ∃ t, t = rPeek (b ++ p) out := ⟨_, rfl⟩
        rw [← ht] at x4 X5 ⊢
        have hts : t.size ≤ (b ++ p).size := by rw [ht]; exact rPeek_size _ _
        clear ht
        rintro e3 w3 ⟨rfl, hI3, hF3⟩
        have HI3 := Aside0.mk hI3
        have HB3 := Aside0.mk (hF3.upOf HB2.out (by omega) (show w.heap.size ≤ w0.heap.size by omega))
        have hs3 := hF3.size
        have hsum : (got ++ t).size + ((rDrop (b ++ p) out).size + (left.extract p.size left.size).size) = s.size := by rw [← dl_len s, ← X5.out]; simp [dl_len]
        clear hI3 hF3
        go_wp2
        go_roundg (3999 - i)
        case measure => have := HQ.out; omega
        case rel => exact ⟨i + 1, _, _, _, rfl, rfl, by go_num, ⟨by omega, by omega, by omega, by omega⟩, ⟨HI3.out, HB3.out, by omega, x3, X5.out⟩⟩
      · obtain ⟨m, rfl⟩ := Int.eq_ofNat_of_zero_le (show 0 ≤ inn by omega)
        have HX := flow_step R s left got b (left.extract 0 m) out m (dl_take left m) (by omega) (by omega) h1 hbR h5 HS.out hlt
        obtain ⟨x1, x2, x3, x4, x5⟩ := HX
        have x6 : (rPut R b (left.extract 0 m)).size ≤ m := by rw [rPut_size', ByteArray.size_extract]; omega
        have X5 := Aside0.mk x5
        clear x5
        go_wp2_with fail
        refine (rput1 w0.heap.size _ R b (left.extract 0 m) wr rfl HI.out hbR (by omega) (by simp; omega)).mono ?_
        obtain ⟨p, hp⟩ : ∃ p, p = rPut R b (left.extract 0 m) := ⟨_, rfl⟩
        rw [← hp] at x1 x2 x3 x4 x6 X5 ⊢
        clear hp
        rintro e2 w2 ⟨rfl, hI2, hF2⟩
        have HI2 := Aside0.mk hI2
        have HB2 := Aside0.mk (hF2.upOf HB.out (by omega) (show w.heap.size ≤ w0.heap.size by omega))
        have hs2 := hF2.size
        clear hI2 hF2
        go_wp2_with fail
        refine (rtake_calls w0.heap.size R _ out _ HI2.out (by omega)).mono ?_
        obtain ⟨t, ht⟩ : ∃ t, t = rPeek (b ++ p) out := ⟨_, rfl⟩
        rw [← ht] at x4 X5 ⊢
        have hts : t.size ≤ (b ++ p).size := by rw [ht]; exact rPeek_size _ _
        clear ht
        rintro e3 w3 ⟨rfl, hI3, hF3⟩
        have HI3 := Aside0.mk hI3
        have HB3 := Aside0.mk (hF3.upOf HB2.out (by omega) (show w.heap.size ≤ w0.heap.size by omega))
        have hs3 := hF3.size
        have hsum : (got ++ t).size + ((rDrop (b ++ p) out).size + (left.extract p.size left.size).size) = s.size := by rw [← dl_len s, ← X5.out]; simp [dl_len]
        clear hI3 hF3
        go_wp2
        go_roundg (3999 - i)
        case measure => have := HQ.out; omega
        case rel => exact ⟨i + 1, _, _, _, rfl, rfl, by go_num, ⟨by omega, by omega, by omega, by omega⟩, ⟨HI3.out, HB3.out, by omega, x3, X5.out⟩⟩
    · have hsz2 : got.size + (b.size + left.size) = s.size := by rw [← dl_len s, ← HS.out]; simp [dl_len]
      have hb0 : b.size = 0 := by omega
      have hgs : got = s := by
        apply dl_ext
        have hbn : dl b = [] := List.eq_nil_of_length_eq_zero (by rw [dl_len]; omega)
        have hln : dl left = [] := List.eq_nil_of_length_eq_zero (by rw [dl_len]; omega)
        rw [← HS.out, hbn, hln]
        simp
      subst hgs
      have hbi : (b.size : Int) = 0 := by omega
      have HBI := Aside0.mk hbi
      clear hb0 hsz2 hbi
      go_wp2_with fail
      refine (rlen_calls w0.heap.size R b _ HI.out).mono ?_
      rw [HBI.out]
      rintro e2 w2 ⟨rfl, rfl⟩
      go_wp2
      go_ret
      exact ⟨rfl, HB.out⟩
theorem flows_walk (room : Int) (s : ByteArray) (inn out : Int) (w : World) (_w0 : (Lit.int .i64 room).wf = true) (_w1 : s.size ≤ 140737488351232) (w2 : (Lit.int .i64 inn).wf = true) (_w3 : (Lit.int .i64 out).wf = true) :
    Calls Try.prog 3 #[.int .i64 room, .string s, .int .i64 inn, .int .i64 out] w fun r w' => r = .returned (.bool true) ∧ Below w.heap.size w w' := by
  by_cases h : room < 1 ∨ 200 < room ∨ 1500 < (s.size : Int) ∨ inn < 1 ∨ out < 1
  · exact flows_dead room s inn out w h
  · obtain ⟨R, rfl⟩ := Int.eq_ofNat_of_zero_le (show 0 ≤ room by omega)
    exact flows_live R s inn out w (by omega) (by omega) (by omega) (by omega) (by omega) (Go.bounds_i64 w2).2
end Go.Proofs.Ytheieigeipppnaa.Obj
