/- What more of the methods of a grid.Grid come to: what fills, and what moves. Conditions: those in each theorem. -/
import Derived.Test.YtcmmdllnbijipaaGrid
import Derived.StillTailTactics
namespace Go.Proofs.Ytcmmdllnbijipaa.Grd
open Go.RowKit Go.Proofs.Ytcmmdllnbijipaa.Mem Go.Proofs.YtcmmdllnbijipaaW.PrintWords Go.Proofs.YtcmmdllnbijipaaW.PrintMore
attribute [local go_sem] max2_i min2_i max_two min_two
set_option linter.unusedVariables false
set_option linter.unusedSimpArgs false

/-- Six cells of a struct by value, behind a box. -/
theorem six_box (w : World) (x : C6) : (w.alloc (.cells #[.int .i32 x.r, .int .i64 x.f, .int .i64 x.g, .bool x.bo, .bool x.un, .bool x.iv] 25)).cell? ⟨w.heap.size, 0, none⟩ = some (.int .i32 x.r) := (Blk.new w 25 _).cell 0
set_option maxHeartbeats 1000000 in
set_option maxRecDepth 100000 in
theorem gfill_calls (g b W H : Nat) (a z : Int) (x : C6) (cs : List C6) (w : World) (h : IsGrid w g b W H cs) :
    Calls Try.prog 17 #[.pointer (some ⟨g, 0, none⟩), .int .i64 a, .int .i64 z, .agg #[.int .i32 x.r, .int .i64 x.f, .int .i64 x.g, .bool x.bo, .bool x.un, .bool x.iv]] w fun r w' => r = .returned (.tuple #[]) ∧ IsGrid w' g b W H (gFill cs a z x) ∧ Only [b] w w' := by
  have hn := eql_grid ⟨g, 0, none⟩
  have hlen := h.1
  obtain ⟨hg0, hb0⟩ := h.lt
  have h' := h.below (below_alloc (Below.refl _ _) (.cells #[.int .i32 x.r, .int .i64 x.f, .int .i64 x.g, .bool x.bo, .bool x.un, .bool x.iv] 25))
  have HN := Aside0.mk (Blk.new w 25 #[.int .i32 x.r, .int .i64 x.f, .int .i64 x.g, .bool x.bo, .bool x.un, .bool x.iv])
  have HO := Aside0.mk ((Only.refl [b] w).alloc (.cells #[.int .i32 x.r, .int .i64 x.f, .int .i64 x.g, .bool x.bo, .bool x.un, .bool x.iv] 25))
  have HG := Aside0.mk h'
  obtain ⟨rest, hB, hK⟩ := h.put_
  have HB := Aside0.mk (hB.alloc (.cells #[.int .i32 x.r, .int .i64 x.f, .int .i64 x.g, .bool x.bo, .bool x.un, .bool x.iv] 25))
  have HK := Aside0.mk hK
  obtain ⟨h1, h2, h3, h4, h5, cap, rest', hGb, hBb, h6, h7⟩ := h'
  clear hB hK hBb
  have hN8 := wh_le h3 h5
  obtain ⟨N, hN⟩ : ∃ N, N = W * H := ⟨_, rfl⟩
  rw [← hN] at hGb h6 hlen hN8
  have c2 : (w.alloc (.cells #[.int .i32 x.r, .int .i64 x.f, .int .i64 x.g, .bool x.bo, .bool x.un, .bool x.iv] 25)).cell? ⟨g, 2, none⟩ = some (.slice (some ⟨b, 0, none⟩) N cap) := (hGb.cell 2).trans rfl
  have HNN := Aside0.mk hN
  clear hGb h hN h1
  by_cases hlt : max a 0 < min z (N : Int)
  · obtain ⟨F, hF⟩ : ∃ F : Nat, (F : Int) = max a 0 := ⟨(max a 0).toNat, by omega⟩
    obtain ⟨Z, hZ⟩ : ∃ Z : Nat, (Z : Int) = min z (N : Int) := ⟨(min z (N : Int)).toNat, by omega⟩
    have hFZ : F < Z := by omega
    have hFZ' : F ≤ Z := by omega
    have hZN : Z ≤ N := by omega
    have hZc : Z ≤ cap := by omega
    have HE := Aside0.mk (show gFill cs a z x = put cs F (List.replicate (Z - F) x) by
      unfold gFill
      rw [hlen, if_pos hlt, ← hF, ← hZ]
      congr 2
      omega)
    rw [← hF, ← hZ] at hlt
    unfold maxLen at h7
    have hne : ¬ cap = F := by omega
    go_enter Try.func17, Try.ntmps17
    go_wp2
    go_quiet (fail)
    rw [← hF, ← hZ]
    clear hF hZ
    go_wp2
    have HB := Aside0.mk (HB.out.drewN nq)
    have HN := Aside0.mk (HN.out.drewN nq)
    have HO := Aside0.mk (HO.out.drewN nq)
    have c2 : ((w.alloc (.cells #[.int .i32 x.r, .int .i64 x.f, .int .i64 x.g, .bool x.bo, .bool x.un, .bool x.iv] 25)).drewN nq).cell? ⟨g, 2, none⟩ = some (.slice (some ⟨b, 0, none⟩) N cap) := c2
    generalize (w.alloc (.cells #[.int .i32 x.r, .int .i64 x.f, .int .i64 x.g, .bool x.bo, .bool x.un, .bool x.iv] 25)).drewN nq = W1 at HB HN HO c2 ⊢
    have d0 : W1.cell? ⟨w.heap.size, 0, none⟩ = some (.int .i32 x.r) := (HN.out.cell 0).trans rfl
    have d1 : W1.cell? ⟨w.heap.size, 1, none⟩ = some (.int .i64 x.f) := (HN.out.cell 1).trans rfl
    have d2 : W1.cell? ⟨w.heap.size, 2, none⟩ = some (.int .i64 x.g) := (HN.out.cell 2).trans rfl
    have d3 : W1.cell? ⟨w.heap.size, 3, none⟩ = some (.bool x.bo) := (HN.out.cell 3).trans rfl
    have d4 : W1.cell? ⟨w.heap.size, 4, none⟩ = some (.bool x.un) := (HN.out.cell 4).trans rfl
    have d5 : W1.cell? ⟨w.heap.size, 5, none⟩ = some (.bool x.iv) := (HN.out.cell 5).trans rfl
    go_still_tail 8, (by kernel_rfl)
    change wpList _ _ _ _ _ W1.drew
    have HB := Aside0.mk (HB.out.drew)
    have HO := Aside0.mk (HO.out.drew)
    clear d0 d1 d2 d3 d4 d5 c2
    go_wp2_with fail
    refine (fill_calls b F (Z - F) (cap - F) _ cs rest x _ HB.out (.inr rfl) (by omega) (by omega)).mono ?_
    rintro e1 w1 ⟨rfl, hb1, ho1⟩
    have HB1 := Aside0.mk hb1
    have HO1 := Aside0.mk (HO.out.trans ho1)
    clear hb1 ho1
    go_wp2
    go_end0
    rw [HE.out]
    exact ⟨rfl, HK.out _ _ (put_length _ _ _ (by rw [List.length_replicate]; omega)) HB1.out HO1.out, HO1.out⟩
  · have HE := Aside0.mk (show gFill cs a z x = cs by unfold gFill; rw [hlen, if_neg hlt])
    go_enter Try.func17, Try.ntmps17
    go_wp2
    go_quiet (fail)
    go_wp2
    go_end0
    rw [HE.out]
    have HG2 := HG.out.below (pw_below_drewN (Below.refl _ _) nq)
    exact ⟨rfl, HG2, HO.out.drewN nq⟩
/-! ### Rows that move -/
theorem many_calls (g b W H : Nat) (n : Int) (A : Option Addr) (m c : Nat) (cs : List C6) (w : World) (h : IsGrid w g b W H cs) (hm : m ≤ 800) :
    Calls Try.prog 69 #[.pointer (some ⟨g, 0, none⟩), .slice A m c, .int .i64 n] w fun r w' => r = .returned (.int .i64 (((min (max n 0) H).toNat * min W m : Nat) : Int)) ∧ w = w' := by
  obtain ⟨P, hP⟩ : ∃ P : Nat, (P : Int) = min (max n 0) (H : Int) := ⟨(min (max n 0) (H : Int)).toNat, by omega⟩
  obtain ⟨Q, hQ⟩ : ∃ Q : Nat, (Q : Int) = min (W : Int) (m : Int) := ⟨min W m, by omega⟩
  have hPH : P ≤ 20 := by have := h.2.2.2.2.1; omega
  have hQW : Q ≤ 800 := by omega
  have hPQ : P * Q ≤ 20 * 800 := Nat.mul_le_mul hPH hQW
  have hw : wrap64 ((P : Int) * (Q : Int)) = ((P * Q : Nat) : Int) := by rw [← Int.natCast_mul]; unfold wrap64; omega
  rw [show (min (max n 0) (H : Int)).toNat * min W m = P * Q by rw [show (min (max n 0) (H : Int)).toNat = P by omega, show min W m = Q by omega]]
  obtain ⟨R, hR⟩ : ∃ R, R = P * Q := ⟨_, rfl⟩
  rw [← hR] at hw ⊢
  have HH := Aside0.mk h
  have HP := Aside0.mk hP
  have HQ := Aside0.mk hQ
  clear h hP hQ hPQ hR
  go_enter Try.func69, Try.ntmps69
  go_wp2_with fail
  refine (h_calls g b W H cs _ HH.out).mono ?_
  rintro e1 w1 ⟨rfl, rfl⟩
  go_wp2_with fail
  rw [← HP.out]
  refine (w_calls g b W H cs _ HH.out).mono ?_
  rintro e1 w1 ⟨rfl, rfl⟩
  go_wp2
  go_ret
  exact ⟨congrArg (fun z => Ending.returned (.int .i64 z)) (by rw [← HQ.out]; exact hw), rfl⟩
set_option maxRecDepth 100000 in
theorem rows_in (g b W H : Nat) (top bottom : Int) (cs : List C6) (w : World) (h : IsGrid w g b W H cs) (hlt : max top 0 < min bottom (H : Int)) :
    Calls Try.prog 67 #[.pointer (some ⟨g, 0, none⟩), .int .i64 top, .int .i64 bottom] w fun r w' => (∃ v, r = .returned v ∧ IsSeg b (rowsK W top) (rowsM W H top bottom) v) ∧ ∃ n, w.drewN n = w' := by
  have HI := Aside0.mk h
  obtain ⟨h1, h2, h3, h4, h5, cap, rest, hG, hB, h6, h7⟩ := h
  have hn := eql_grid ⟨g, 0, none⟩
  have c0 : w.cell? ⟨g, 0, none⟩ = some (.int .i64 (W : Int)) := (hG.cell 0).trans rfl
  have c2 : w.cell? ⟨g, 2, none⟩ = some (.slice (some ⟨b, 0, none⟩) (W * H) cap) := (hG.cell 2).trans rfl
  obtain ⟨T, hT⟩ : ∃ T : Nat, (T : Int) = max top 0 := ⟨(max top 0).toNat, by omega⟩
  obtain ⟨Bt, hBt⟩ : ∃ Bt : Nat, (Bt : Int) = min bottom (H : Int) := ⟨(min bottom (H : Int)).toNat, by omega⟩
  have hTB : T < Bt := by omega
  obtain ⟨I, hI⟩ : ∃ I, I = T * W := ⟨_, rfl⟩
  obtain ⟨J, hJ⟩ : ∃ J, J = Bt * W := ⟨_, rfl⟩
  obtain ⟨N, hN⟩ : ∃ N, N = W * H := ⟨_, rfl⟩
  have hJN : J ≤ N := by rw [hJ, hN, Nat.mul_comm W H]; exact Nat.mul_le_mul_right W (by omega)
  have hIJ : I ≤ J := by rw [hI, hJ]; exact Nat.mul_le_mul_right W (by omega)
  have hNl : N ≤ 800 := by rw [hN]; exact wh_le h3 h5
  have hI' : I < J := by
    have : (T + 1) * W ≤ J := by rw [hJ]; exact Nat.mul_le_mul_right W (by omega)
    rw [Nat.succ_mul, ← hI] at this
    omega
  have hw1 : IntKind.i64.wrap ((T : Int) * (W : Int)) = (I : Int) := by rw [hI, Int.natCast_mul]; exact IntWalk.i64_in _ (by rw [← Int.natCast_mul, ← hI]; omega)
  have hw2 : IntKind.i64.wrap ((Bt : Int) * (W : Int)) = (J : Int) := by rw [hJ, Int.natCast_mul]; exact IntWalk.i64_in _ (by rw [← Int.natCast_mul, ← hJ]; omega)
  have HK := Aside0.mk (show rowsK W top = I by unfold rowsK; rw [hI]; congr 1; omega)
  have HM := Aside0.mk (show rowsM W H top bottom = J - I by unfold rowsM; rw [hJ, hI, ← Nat.sub_mul]; congr 1; omega)
  rw [← hN] at c2 h6
  rw [HK.out, HM.out]
  have hJc : J ≤ cap := by omega
  have hne : ¬ cap = I := by omega
  unfold maxLen at h7
  have HT := Aside0.mk hT
  have HBt := Aside0.mk hBt
  rw [← hT, ← hBt] at hlt
  clear hG hB h1 hI hJ hN hT hBt
  go_enter Try.func67, Try.ntmps67
  go_wp2_with fail
  refine (h_calls g b W H cs _ HI.out).mono ?_
  rintro e1 w1 ⟨rfl, rfl⟩
  have hh : max top 0 < min bottom (H : Int) := by rw [← HT.out, ← HBt.out]; exact hlt
  go_wp2_with fail
  rw [← HT.out, ← HBt.out]
  clear hh
  go_quiet (fail)
  go_wp2
  go_ret
  exact ⟨⟨_, rfl, _, _, rfl, by omega, .inr rfl⟩, _, rfl⟩
theorem rows_out (g b W H : Nat) (top bottom : Int) (cs : List C6) (w : World) (h : IsGrid w g b W H cs) (hlt : ¬ max top 0 < min bottom (H : Int)) :
    Calls Try.prog 67 #[.pointer (some ⟨g, 0, none⟩), .int .i64 top, .int .i64 bottom] w fun r w' => r = .returned (.slice none 0 0) ∧ w = w' := by
  have HI := Aside0.mk h
  have hlt' : min bottom (H : Int) ≤ max top 0 := by omega
  clear h hlt
  go_enter Try.func67, Try.ntmps67
  go_wp2_with fail
  refine (h_calls g b W H cs _ HI.out).mono ?_
  rintro e1 w1 ⟨rfl, rfl⟩
  go_wp2
  go_ret
  exact ⟨rfl, rfl⟩
theorem rows_calls (g b W H : Nat) (top bottom : Int) (cs : List C6) (w : World) (h : IsGrid w g b W H cs) :
    Calls Try.prog 67 #[.pointer (some ⟨g, 0, none⟩), .int .i64 top, .int .i64 bottom] w fun r w' => (∃ v, r = .returned v ∧ IsSeg b (rowsK W top) (if max top 0 < min bottom (H : Int) then rowsM W H top bottom else 0) v) ∧ ∃ n, w.drewN n = w' := by
  by_cases hi : max top 0 < min bottom (H : Int)
  · rw [if_pos hi]
    exact rows_in g b W H top bottom cs w h hi
  · rw [if_neg hi]
    refine (rows_out g b W H top bottom cs w h hi).mono ?_
    rintro r w' ⟨rfl, rfl⟩
    exact ⟨⟨_, rfl, _, _, rfl, Nat.le_refl _, .inl rfl⟩, 0, rfl⟩
/-! ### Cells that move -/
theorem put_put (l : List C6) (k : Nat) (p r : List C6) (h : k + p.length + r.length ≤ l.length) : put (put l k p) (k + p.length) r = put l k (p ++ r) := by
  apply List.ext_getElem?
  intro j
  rw [put_get _ _ _ (by rw [put_length _ _ _ (by omega)]; exact h), put_get _ _ _ (by omega), put_get _ _ _ (by rw [List.length_append]; omega)]
  rw [List.length_append]
  by_cases h1 : k + p.length ≤ j ∧ j < k + p.length + r.length
  · rw [if_pos h1, if_pos (by omega), List.getElem?_append_right (by omega)]
    congr 1
    omega
  · rw [if_neg h1]
    by_cases h2 : k ≤ j ∧ j < k + p.length
    · rw [if_pos h2, if_pos (by omega), List.getElem?_append_left (by omega)]
    · rw [if_neg h2, if_neg (by omega)]
theorem put_put' (l : List C6) (k : Nat) (p r : List C6) (h : k + p.length + r.length ≤ l.length) : put (put l (k + p.length) r) k p = put l k (p ++ r) := by
  apply List.ext_getElem?
  intro j
  rw [put_get _ _ _ (by rw [put_length _ _ _ (by omega)]; omega), put_get _ _ _ (by omega), put_get _ _ _ (by rw [List.length_append]; omega)]
  rw [List.length_append]
  by_cases h1 : k ≤ j ∧ j < k + p.length
  · rw [if_pos h1, if_pos (by omega), List.getElem?_append_left (by omega)]
  · rw [if_neg h1]
    by_cases h2 : k + p.length ≤ j ∧ j < k + p.length + r.length
    · rw [if_pos h2, if_pos (by omega), List.getElem?_append_right (by omega)]
      congr 1
      omega
    · rw [if_neg h2, if_neg (by omega)]
theorem seg_src {w : World} {b k m : Nat} {A : Option Addr} {cs : List C6} {rest : List Value} (hb : Blk w b 25 (fl cs ++ rest).toArray) (hk : k + m ≤ cs.length) (hA : m = 0 ∨ A = some ⟨b, k * 6, none⟩) : Src w A m ((cs.drop k).take m) := by
  refine ⟨by simp; omega, hA.imp id (fun h => ⟨_, h, fun j v hv => ?_⟩)⟩
  have e : (⟨b, k * 6, none⟩ : Addr).add j = ⟨b, k * 6 + j, none⟩ := by unfold Addr.add; split <;> simp_all
  rw [e, hb.cell]
  have := fl_seg vals_len cs rest k m hk j v hv
  rw [List.getElem?_toArray]
  exact this
theorem cut_addr {b k m n c : Nat} {A : Option Addr} (hn : n ≤ m) (hc : m ≤ c) (hA : m = 0 ∨ A = some ⟨b, k * 6, none⟩) : m - n = 0 ∨ (if c = n then A else Option.map (fun x => x.add (n * 6)) A) = some ⟨b, (k + n) * 6, none⟩ := by
  by_cases h : m - n = 0
  · exact .inl h
  · right
    rw [if_neg (by omega)]
    rcases hA with h0 | rfl
    · omega
    · have e : (⟨b, k * 6, none⟩ : Addr).add (n * 6) = ⟨b, k * 6 + n * 6, none⟩ := by unfold Addr.add; split <;> simp_all
      rw [Option.map_some, e, Nat.add_mul]
set_option maxHeartbeats 1000000 in
set_option maxRecDepth 100000 in
theorem less_calls (b k m c n : Nat) (A : Option Addr) (cs : List C6) (rest : List Value) (x : C6) (w : World) (hb : Blk w b 25 (fl cs ++ rest).toArray) (hA : m = 0 ∨ A = some ⟨b, k * 6, none⟩) (hc : m ≤ c) (hk : k + m ≤ cs.length) (hl : cs.length ≤ 1000) (hn : n ≤ m) :
    Calls Try.prog 68 #[.slice A m c, .int .i64 (n : Int), .agg #[.int .i32 x.r, .int .i64 x.f, .int .i64 x.g, .bool x.bo, .bool x.un, .bool x.iv]] w fun r w' => r = .returned (.tuple #[]) ∧ Blk w' b 25 (fl (part cs k m (less n x)) ++ rest).toArray ∧ Only [b] w w' := by
  have hbl := hb.lt
  have HB := Aside0.mk (hb.alloc (.cells #[.int .i32 x.r, .int .i64 x.f, .int .i64 x.g, .bool x.bo, .bool x.un, .bool x.iv] 25))
  have HN := Aside0.mk (Blk.new w 25 #[.int .i32 x.r, .int .i64 x.f, .int .i64 x.g, .bool x.bo, .bool x.un, .bool x.iv])
  have HO := Aside0.mk ((Only.refl [b] w).alloc (.cells #[.int .i32 x.r, .int .i64 x.f, .int .i64 x.g, .bool x.bo, .bool x.un, .bool x.iv] 25))
  obtain ⟨D, rfl⟩ : ∃ D, m = n + D := ⟨m - n, by omega⟩
  clear hb
  have HA := Aside0.mk hA
  have hs : Src (w.alloc (.cells #[.int .i32 x.r, .int .i64 x.f, .int .i64 x.g, .bool x.bo, .bool x.un, .bool x.iv] 25)) (if c = n then A else Option.map (fun x => x.add (n * 6)) A) D ((cs.drop (k + n)).take D) := seg_src HB.out (by omega) (by have := cut_addr hn hc hA; rwa [Nat.add_sub_cancel_left] at this)
  obtain ⟨w2, hr, hb2, ho2⟩ := copy_cells (n2 := D) (c2 := c - n) 3 HB.out ⟨A, c, rfl, hc, hA⟩ hk hs
  have hL : (((cs.drop (k + n)).take D).take (n + D)) = (cs.drop (k + n)).take D := List.take_of_length_le (by simp; omega)
  have hLl : ((cs.drop (k + n)).take D).length = D := by simp; omega
  rw [hL] at hb2
  have HR := Aside0.mk hr
  have HB2 := Aside0.mk hb2
  have HN2 := Aside0.mk (HN.out.only ho2 (by simp; omega))
  have HO2 := Aside0.mk (HO.out.trans ho2)
  have HE := Aside0.mk (show put (put cs k ((cs.drop (k + n)).take D)) (k + D) (List.replicate n x) = part cs k (n + D) (less n x) by
    have h1 := put_put cs k ((cs.drop (k + n)).take D) (List.replicate n x) (by rw [hLl, List.length_replicate]; omega)
    rw [hLl] at h1
    rw [h1]
    unfold part less
    congr 2
    · rw [List.drop_take, List.drop_drop, Nat.add_sub_cancel_left]
    · congr 1
      simp
      omega)
  have HL1 := Aside0.mk (put_length cs k ((cs.drop (k + n)).take D) (by rw [hLl]; omega))
  have hwD : IntKind.i64.wrap (((n + D : Nat) : Int) - (n : Int)) = (D : Int) := by rw [show ((n + D : Nat) : Int) - (n : Int) = (D : Int) by omega]; exact IntWalk.i64_in _ (by omega)
  have hDn : D ≤ n + D := by omega
  obtain ⟨M, hM⟩ : ∃ M, M = n + D := ⟨_, rfl⟩
  have hMn : M - n = D := by omega
  have hMD : M - D = n := by omega
  have HA2 := Aside0.mk (cut_addr (n := D) hDn hc hA)
  rw [show n + D - D = n by omega] at HA2
  rw [← hM] at hn hc hk hwD hDn HE HR ⊢
  have HM := Aside0.mk hM
  clear hr hb2 ho2 hL hLl hs hA hM
  go_enter Try.func68, Try.ntmps68
  go_wp2_with (with_reducible refine wpList_copy_of _ rfl (.tmp 6) (.tmp 9) 39 39 (.slice A M c) (.slice (if c = n then A else Option.map (fun x => x.add (n * 6)) A) D (c - n)) rfl ?_ ?_ HR.out ?_)
  all_goals
    have d0 : w2.cell? ⟨w.heap.size, 0, none⟩ = some (.int .i32 x.r) := (HN2.out.cell 0).trans rfl
    have d1 : w2.cell? ⟨w.heap.size, 1, none⟩ = some (.int .i64 x.f) := (HN2.out.cell 1).trans rfl
    have d2 : w2.cell? ⟨w.heap.size, 2, none⟩ = some (.int .i64 x.g) := (HN2.out.cell 2).trans rfl
    have d3 : w2.cell? ⟨w.heap.size, 3, none⟩ = some (.bool x.bo) := (HN2.out.cell 3).trans rfl
    have d4 : w2.cell? ⟨w.heap.size, 4, none⟩ = some (.bool x.un) := (HN2.out.cell 4).trans rfl
    have d5 : w2.cell? ⟨w.heap.size, 5, none⟩ = some (.bool x.iv) := (HN2.out.cell 5).trans rfl
    go_still_tail 7, (by kernel_rfl)
  all_goals
    change wpList _ _ _ _ _ w2.drew
    have HB3 := Aside0.mk (HB2.out.drew)
    have HO3 := Aside0.mk (HO2.out.drew)
    clear d0 d1 d2 d3 d4 d5
    go_wp2_with fail
  all_goals
    refine (fill_calls b (k + D) _ _ _ _ rest x _ HB3.out ?hA ?hk ?hl).mono ?_
    case hA =>
      have h9 := HA2.out
      by_cases e1 : c = D
      · rw [if_pos e1] at h9
        first | exact h9 | (exfalso; omega) | (have e2 : n = D := by omega
                                               rw [e2] at h9; exact h9)
      · rw [if_neg e1] at h9
        first | exact h9 | (exfalso; omega)
    case hk => have := HL1.out; omega
    case hl => have := HL1.out; omega
    rintro e1 w3 ⟨rfl, hb3, ho3⟩
    have HB4 := Aside0.mk hb3
    have HO4 := Aside0.mk (HO3.out.trans ho3)
    clear hb3 ho3
    go_wp2
    go_end0
    have h5 := HB4.out
    first | rw [HE.out] at h5 | (have e2 : D = n := by omega
                                 rw [e2] at h5; have h6 := HE.out; rw [e2] at h6; rw [h6] at h5)
    exact ⟨rfl, h5, HO4.out⟩
set_option maxHeartbeats 1000000 in
set_option maxRecDepth 100000 in
theorem more_calls (b k m c n : Nat) (A : Option Addr) (cs : List C6) (rest : List Value) (x : C6) (w : World) (hb : Blk w b 25 (fl cs ++ rest).toArray) (hA : m = 0 ∨ A = some ⟨b, k * 6, none⟩) (hc : m ≤ c) (hk : k + m ≤ cs.length) (hl : cs.length ≤ 1000) (hn : n ≤ m) :
    Calls Try.prog 70 #[.slice A m c, .int .i64 (n : Int), .agg #[.int .i32 x.r, .int .i64 x.f, .int .i64 x.g, .bool x.bo, .bool x.un, .bool x.iv]] w fun r w' => r = .returned (.tuple #[]) ∧ Blk w' b 25 (fl (part cs k m (more n x)) ++ rest).toArray ∧ Only [b] w w' := by
  have hbl := hb.lt
  have HB := Aside0.mk (hb.alloc (.cells #[.int .i32 x.r, .int .i64 x.f, .int .i64 x.g, .bool x.bo, .bool x.un, .bool x.iv] 25))
  have HN := Aside0.mk (Blk.new w 25 #[.int .i32 x.r, .int .i64 x.f, .int .i64 x.g, .bool x.bo, .bool x.un, .bool x.iv])
  have HO := Aside0.mk ((Only.refl [b] w).alloc (.cells #[.int .i32 x.r, .int .i64 x.f, .int .i64 x.g, .bool x.bo, .bool x.un, .bool x.iv] 25))
  obtain ⟨D, rfl⟩ : ∃ D, m = n + D := ⟨m - n, by omega⟩
  clear hb
  have HA := Aside0.mk hA
  have hs : Src (w.alloc (.cells #[.int .i32 x.r, .int .i64 x.f, .int .i64 x.g, .bool x.bo, .bool x.un, .bool x.iv] 25)) A (n + D) ((cs.drop k).take (n + D)) := seg_src HB.out hk hA
  obtain ⟨w2, hr, hb2, ho2⟩ := copy_cells (n2 := n + D) (c2 := c) 3 HB.out (k := k + n) (m := D) ⟨(if c = n then A else Option.map (fun x => x.add (n * 6)) A), c - n, rfl, by omega, by have := cut_addr hn hc hA; rwa [Nat.add_sub_cancel_left] at this⟩ (by omega) hs
  have hL : (((cs.drop k).take (n + D)).take D) = (cs.drop k).take D := by rw [List.take_take, Nat.min_eq_left (by omega)]
  have hLl : ((cs.drop k).take D).length = D := by simp; omega
  rw [hL] at hb2
  have HR := Aside0.mk hr
  have HB2 := Aside0.mk hb2
  have HN2 := Aside0.mk (HN.out.only ho2 (by simp; omega))
  have HO2 := Aside0.mk (HO.out.trans ho2)
  have HE := Aside0.mk (show put (put cs (k + n) ((cs.drop k).take D)) k (List.replicate n x) = part cs k (n + D) (more n x) by
    have h1 := put_put' cs k (List.replicate n x) ((cs.drop k).take D) (by rw [hLl, List.length_replicate]; omega)
    rw [List.length_replicate] at h1
    rw [h1]
    unfold part more
    have h2 : ((cs.drop k).take (n + D)).length = n + D := by simp; omega
    rw [h2, Nat.add_sub_cancel_left, hL, Nat.min_eq_left (by omega)])
  have HL1 := Aside0.mk (put_length cs (k + n) ((cs.drop k).take D) (by rw [hLl]; omega))
  obtain ⟨M, hM⟩ : ∃ M, M = n + D := ⟨_, rfl⟩
  have hMn : M - n = D := by omega
  have hnc : n ≤ c := by omega
  have HA2 := Aside0.mk (show n = 0 ∨ A = some ⟨b, k * 6, none⟩ by rcases hA with h | h; exact .inl (by omega); exact .inr h)
  rw [← hM] at hn hc hk HE HR ⊢
  have HM := Aside0.mk hM
  clear hr hb2 ho2 hL hLl hs hA hM
  go_enter Try.func70, Try.ntmps70
  go_wp2_with (with_reducible refine wpList_copy_of _ rfl (.tmp 8) (.tmp 9) 39 39 (.slice (if c = n then A else Option.map (fun x => x.add (n * 6)) A) D (c - n)) (.slice A M c) rfl ?_ ?_ HR.out ?_)
  all_goals
    have d0 : w2.cell? ⟨w.heap.size, 0, none⟩ = some (.int .i32 x.r) := (HN2.out.cell 0).trans rfl
    have d1 : w2.cell? ⟨w.heap.size, 1, none⟩ = some (.int .i64 x.f) := (HN2.out.cell 1).trans rfl
    have d2 : w2.cell? ⟨w.heap.size, 2, none⟩ = some (.int .i64 x.g) := (HN2.out.cell 2).trans rfl
    have d3 : w2.cell? ⟨w.heap.size, 3, none⟩ = some (.bool x.bo) := (HN2.out.cell 3).trans rfl
    have d4 : w2.cell? ⟨w.heap.size, 4, none⟩ = some (.bool x.un) := (HN2.out.cell 4).trans rfl
    have d5 : w2.cell? ⟨w.heap.size, 5, none⟩ = some (.bool x.iv) := (HN2.out.cell 5).trans rfl
    go_still_tail 4, (by kernel_rfl)
  all_goals
    change wpList _ _ _ _ _ w2.drew
    have HB3 := Aside0.mk (HB2.out.drew)
    have HO3 := Aside0.mk (HO2.out.drew)
    clear d0 d1 d2 d3 d4 d5
    go_wp2_with fail
  trace_state
  all_goals
    refine (fill_calls b k n _ _ _ rest x _ HB3.out ?hA ?hk ?hl).mono ?_
    case hA => have h9 := HA2.out; first | exact h9 | (simpa using h9)
    case hk => have := HL1.out; omega
    case hl => have := HL1.out; omega
    rintro e1 w3 ⟨rfl, hb3, ho3⟩
    have HB4 := Aside0.mk hb3
    have HO4 := Aside0.mk (HO3.out.trans ho3)
    clear hb3 ho3
    go_wp2
    go_end0
    have h5 := HB4.out
    rw [HE.out] at h5
    exact ⟨rfl, h5, HO4.out⟩
end Go.Proofs.Ytcmmdllnbijipaa.Grd
