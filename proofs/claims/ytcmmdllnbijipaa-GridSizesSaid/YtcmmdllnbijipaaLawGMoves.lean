/- The walk of GridMoves: rows that go up, and down again, are as they were, but for those that went beyond. Conditions: those in each theorem. -/
import Derived.Test.YtcmmdllnbijipaaLawGA
import Derived.Test.YtcmmdllnbijipaaOpC
namespace Go.Proofs.Ytcmmdllnbijipaa.Grd
open Go.RowKit Go.Proofs.Ytcmmdllnbijipaa.Mem Go.Proofs.YtcmmdllnbijipaaW.PrintWords Go.Proofs.YtcmmdllnbijipaaW.PrintMore
attribute [local go_sem] max2_i min2_i max_two min_two
set_option linter.unusedVariables false
set_option linter.unusedSimpArgs false
/-- A dot. -/
def dC : C6 := ⟨46, 0, 0, false, false, false⟩
theorem Src.cut {w : World} {A : Option Addr} {n cap lo hi : Nat} {l : List C6} (h : Src w A n l) (h1 : lo ≤ hi) (h2 : hi ≤ n) (h3 : n ≤ cap) :
    Src w (if cap = lo then A else Option.map (fun x => x.add (lo * 6)) A) (hi - lo) ((l.drop lo).take (hi - lo)) := by
  obtain ⟨hl, hc⟩ := h
  refine ⟨by simp; omega, ?_⟩
  by_cases h0 : hi - lo = 0
  · exact .inl h0
  · right
    rw [if_neg (by omega)]
    rcases hc with hc | ⟨ad, rfl, hc⟩
    · omega
    · refine ⟨_, rfl, fun j v hv => ?_⟩
      have hj : (fl l)[lo * 6 + j]? = some v := by
        have h5 := fl_seg vals_len l [] lo (hi - lo) (by omega) j v hv
        rwa [List.append_nil] at h5
      have e : (ad.add (lo * 6)).add j = ad.add (lo * 6 + j) := by
        unfold Addr.add
        by_cases hi : lo * 6 = 0 <;> by_cases hj : j = 0 <;> simp [hi, hj, Nat.add_assoc]
      rw [e]
      exact hc _ _ hj
theorem moves_pure {W H K : Nat} {n : Int} (cs : List C6) (hc : cs.length = W * H) (hK : K = manyN W H n) (hH : 1 ≤ H) : ∀ k, k < W * H →
    (gRows W H (gRows W H cs 0 (H : Int) n (fun k => less k dC)) 0 (H : Int) n (fun k => more k dC))[k]? = if k < K then some dC else cs[k]? := by
  intro k hk
  have hKN : K ≤ W * H := by
    rw [hK, Nat.mul_comm W H]
    unfold manyN
    exact Nat.mul_le_mul_right W (by omega)
  have hrk : rowsK W 0 = 0 := by simp [rowsK]
  have hrm : rowsM W H 0 (H : Int) = W * H := by
    unfold rowsM
    rw [Nat.mul_comm W H]
    congr 1
    omega
  have hw : ∀ (l : List C6) (F : List C6 → List C6), l.length = W * H → (∀ L, (F L).length = L.length) → part l 0 (W * H) F = F l := by
    intro l F hl hF
    unfold part put
    have ht : List.take (W * H) l = l := List.take_of_length_le (by omega)
    rw [List.drop_zero, ht, List.take_zero, List.nil_append, List.drop_of_length_le (by rw [hF]; omega), List.append_nil]
  have h1 : gRows W H cs 0 (H : Int) n (fun k => less k dC) = less K dC cs := by
    unfold gRows
    rw [if_pos (by omega), hrk, hrm, hw _ _ hc (fun L => less_len _ _ L), hK]
  rw [h1]
  have hl1 : (less K dC cs).length = W * H := by rw [less_len, hc]
  have h2 : gRows W H (less K dC cs) 0 (H : Int) n (fun k => more k dC) = more K dC (less K dC cs) := by
    unfold gRows
    rw [if_pos (by omega), hrk, hrm, hw _ _ hl1 (fun L => more_len _ _ L), hK]
  rw [h2]
  unfold more
  rw [hl1, Nat.min_eq_left hKN]
  by_cases h : k < K
  · rw [if_pos h, List.getElem?_append_left (by rw [List.length_replicate]; exact h), List.getElem?_replicate, if_pos h]
  · rw [if_neg h, List.getElem?_append_right (by rw [List.length_replicate]; omega), List.length_replicate, List.getElem?_take, if_pos (by omega)]
    unfold less
    rw [List.getElem?_append_left (by simp; omega), List.getElem?_drop]
    congr 1
    omega
theorem moves_over (w0 h0 n0 : Int) (A : Option Addr) (c : Nat) (l : List C6) (w : World) (hl : ¬ l.length ≤ 800) :
    Calls Try.prog 6 #[.int .i64 w0, .int .i64 h0, .int .i64 n0, .slice A l.length c] w fun r w' => r = .returned (.bool true) ∧ Below w.heap.size w w' := by
  have hl6 : (800 : Int) < (l.length : Int) := by omega
  clear hl
  go_enter Try.func6, Try.ntmps6
  go_wp2_with fail
  refine (alive15 _).mono ?_
  rintro e0 w0 ⟨rfl, hb0⟩
  have HB := Aside0.mk hb0
  clear hb0
  go_wp2
  go_ret
  exact ⟨rfl, HB.out⟩
set_option maxHeartbeats 4000000 in
set_option maxRecDepth 100000 in
theorem moves_live (w0 h0 n0 : Int) (A : Option Addr) (c : Nat) (l : List C6) (w : World) (hs : Src w A l.length l) (hc : l.length ≤ c) (hl : l.length ≤ 800) :
    Calls Try.prog 6 #[.int .i64 w0, .int .i64 h0, .int .i64 n0, .slice A l.length c] w fun r w' => r = .returned (.bool true) ∧ Below w.heap.size w w' := by
  have hu := Try.underlying25
  have hua := Try.underlying23
  have hl6 : ¬ (800 : Int) < (l.length : Int) := by omega
  have HS := Aside0.mk hs
  clear hs
  obtain ⟨L, hL⟩ : ∃ L, L = l.length := ⟨_, rfl⟩
  have HL := Aside0.mk hL
  rw [← hL] at HS hl6 hl hc ⊢
  clear hL
  go_enter Try.func6, Try.ntmps6
  go_wp2_with fail
  refine (alive15 _).mono ?_
  rintro e1 w1 ⟨rfl, hb1⟩
  have XB := Aside0.mk hb1
  clear hb1
  go_wp2_with fail
  refine (new_calls w0 h0 _).mono ?_
  rintro e2 w2 ⟨g, b, rfl, hg, hb, hI, hB⟩
  obtain ⟨W, hW⟩ : ∃ W, W = clW w0 := ⟨_, rfl⟩
  obtain ⟨H, hH⟩ : ∃ H, H = clH h0 := ⟨_, rfl⟩
  have hW2 := clW_le w0
  have hH2 := clH_le h0
  rw [← hW] at hW2 hI
  rw [← hH] at hH2 hI
  have hgw : w.heap.size ≤ b := Nat.le_trans XB.out.size hb
  have XB := Aside0.mk (below_step XB.out hB)
  have HI := Aside0.mk hI
  clear hI hB hW hH
  have hn := eql_grid ⟨g, 0, none⟩
  go_wp2_with fail
  refine (w_calls g b W H _ _ HI.out).mono ?_
  rintro e3 w3 ⟨rfl, rfl⟩
  go_wp2_with fail
  refine (h_calls g b W H _ _ HI.out).mono ?_
  rintro e4 w4 ⟨rfl, rfl⟩
  obtain ⟨N, hN⟩ : ∃ N, N = W * H := ⟨_, rfl⟩
  have HN := Aside0.mk hN
  have hN8 : N ≤ 800 := by rw [hN]; exact wh_le hW2.2 hH2.2
  have hN0 : 0 < N := by rw [hN]; exact Nat.mul_pos (by omega) (by omega)
  have hw : IntKind.i64.wrap ((W : Int) * (H : Int)) = (N : Int) := by rw [hN, Int.natCast_mul]; exact IntWalk.i64_in _ (by rw [← Int.natCast_mul, ← hN]; omega)
  clear hN
  go_wp2_with fail
  go_loopg [10] H (fun kq v10 wr => ∃ (y : Nat) (cs : List C6), v10 = .int .i64 (y : Int) ∧ Aside0 (y ≤ H ∧ kq = H - y) ∧ Aside0 (IsGrid wr g b W H cs) ∧ Aside0 (Below w.heap.size w wr))
  case atStart => exact ⟨0, _, rfl, ⟨Nat.zero_le _, rfl⟩, HI, XB⟩
  case round =>
    obtain ⟨y, cs, rfl, ⟨hy, hkq⟩, HIr, XBr⟩ := hrel
    have HQ := Aside0.mk hkq
    clear hkq HI XB
    by_cases hlt : y < H
    · obtain ⟨P, hP⟩ : ∃ P, P = y * W := ⟨_, rfl⟩
      have hP8 : P ≤ 800 := by rw [hP]; have := Nat.mul_le_mul (show y ≤ 20 by omega) hW2.2; omega
      have hwP : IntKind.i64.wrap ((y : Int) * (W : Int)) = (P : Int) := by rw [hP, Int.natCast_mul]; exact IntWalk.i64_in _ (by rw [← Int.natCast_mul, ← hP]; omega)
      obtain ⟨R, hR⟩ : ∃ R, R = P + W := ⟨_, rfl⟩
      have hwQ : IntKind.i64.wrap ((P : Int) + (W : Int)) = (R : Int) := by rw [show (P : Int) + (W : Int) = (R : Int) by omega]; exact IntWalk.i64_in _ (by omega)
      clear hP
      by_cases hin : P < L
      · obtain ⟨Q, hQ⟩ : ∃ Q, Q = min L R := ⟨_, rfl⟩
        have hPQ : P ≤ Q := by omega
        have hQL : Q ≤ L := by omega
        have hQc : Q ≤ c := by omega
        have hmn : min (L : Int) (R : Int) = (Q : Int) := by omega
        have HC := Aside0.mk ((HS.out.only XBr.out).cut hPQ hQL hc)
        rw [if_neg (show ¬ c = P by omega)] at HC
        clear hQ hR
        go_wp2_with fail
        all_goals
          refine (set_calls g b W H 0 (y : Int) _ (Q - P) (c - P) ((l.drop P).take (Q - P)) cs wr HIr.out ?hsrc).mono ?_
          case hsrc => first | exact HC.out | (have h9 := HC.out; simpa [*] using h9)
          rintro e5 w5 ⟨rfl, hI5, hO5⟩
          have HI5 := Aside0.mk hI5
          have XB5 := Aside0.mk (hO5.belowOf XBr.out XBr.out.size (by simpa using hgw))
          clear hI5 hO5
          go_wp2
          go_roundg (H - (y + 1))
          case measure => have := HQ.out; omega
          case rel => exact ⟨y + 1, _, by go_num, ⟨by omega, rfl⟩, HI5, XB5⟩
      · go_wp2
        go_roundg (H - (y + 1))
        case measure => have := HQ.out; omega
        case rel => exact ⟨y + 1, _, by go_num, ⟨by omega, rfl⟩, HIr, XBr⟩
    · obtain rfl : H = y := by omega
      have hlenI := HIr.out.1
      go_wp2_with fail
      refine (cells_calls g b W H cs _ HIr.out).mono ?_
      rintro e5 w5 ⟨⟨v, rfl, gc, cc, rs, rfl, hgc, hcc, hcm, hBC⟩, hb5⟩
      have hCN : cs.length = N := by rw [hlenI, HN.out]
      have HBC := Aside0.mk hBC
      have HI5 := Aside0.mk (HIr.out.below hb5)
      have XB5 := Aside0.mk (below_step XBr.out hb5)
      have hgr := XBr.out.size
      have hgcb : b ≠ gc := by have := HIr.out.lt; omega
      clear hBC hb5 hlenI
      rw [hCN] at hcc ⊢
      obtain ⟨n, hn1⟩ : ∃ n : Nat, (n : Int) = min (max n0 0) (H : Int) := ⟨(min (max n0 0) (H : Int)).toNat, by omega⟩
      have HN1 := Aside0.mk hn1
      have hnH : n ≤ H := by omega
      clear hn1
      have hcN : N ≤ cc := hcc
      go_wp2_with fail
      rw [← HN1.out]
      have BD := Aside0.mk (Blk.new w5 25 #[.int .i32 46, .int .i64 0, .int .i64 0, .bool false, .bool false, .bool false])
      have BC := Aside0.mk (HBC.out.alloc (.cells #[.int .i32 46, .int .i64 0, .int .i64 0, .bool false, .bool false, .bool false] 25))
      have XB6 := Aside0.mk (below_alloc XB5.out (.cells #[.int .i32 46, .int .i64 0, .int .i64 0, .bool false, .bool false, .bool false] 25))
      have HI6 := Aside0.mk (HI5.out.below (below_alloc (Below.refl _ _) (.cells #[.int .i32 46, .int .i64 0, .int .i64 0, .bool false, .bool false, .bool false] 25)))
      have hlt5 := HI5.out.lt
      refine (up_calls g b W H 0 (H : Int) (n : Int) dC cs _ HI6.out).mono ?_
      rintro e7 w7 ⟨rfl, hI7, hO7⟩
      have BD := Aside0.mk (BD.out.only hO7 (by simp; omega))
      have BC := Aside0.mk (BC.out.only hO7 (by simp; omega))
      have XB7 := Aside0.mk (hO7.belowOf XB6.out XB6.out.size (by simpa using hgw))
      have HI7 := Aside0.mk hI7
      clear hI7 hO7
      obtain ⟨gd, hgd⟩ : ∃ gd, gd = w5.heap.size := ⟨_, rfl⟩
      rw [← hgd] at BD ⊢
      have hbd : b ≠ gd := by omega
      clear hgd hlt5
      have d0 : (w7).cell? ⟨gd, 0, none⟩ = some (.int .i32 46) := (BD.out.cell 0).trans rfl
      have d1 : (w7).cell? ⟨gd, 1, none⟩ = some (.int .i64 0) := (BD.out.cell 1).trans rfl
      have d2 : (w7).cell? ⟨gd, 2, none⟩ = some (.int .i64 0) := (BD.out.cell 2).trans rfl
      have d3 : (w7).cell? ⟨gd, 3, none⟩ = some (.bool false) := (BD.out.cell 3).trans rfl
      have d4 : (w7).cell? ⟨gd, 4, none⟩ = some (.bool false) := (BD.out.cell 4).trans rfl
      have d5 : (w7).cell? ⟨gd, 5, none⟩ = some (.bool false) := (BD.out.cell 5).trans rfl
      go_wp2_with fail
      clear d0 d1 d2 d3 d4 d5
      refine (down_calls g b W H 0 (H : Int) (n : Int) dC _ _ HI7.out).mono ?_
      rintro e8 w8 ⟨rfl, hI8, hO8⟩
      have BD := Aside0.mk (BD.out.only hO8 (by simp; omega))
      have BC := Aside0.mk (BC.out.only hO8 (by simp; omega))
      have XB8 := Aside0.mk (hO8.belowOf XB7.out XB7.out.size (by simpa using hgw))
      obtain ⟨K, hK⟩ : ∃ K, K = n * W := ⟨_, rfl⟩
      have hKm : K = manyN W H (n : Int) := by
        rw [hK]
        unfold manyN
        congr 1
        omega
      obtain ⟨cs2, hcs2⟩ : ∃ q, q = (gRows W H (gRows W H cs 0 (H : Int) n (fun k => less k dC)) 0 (H : Int) n (fun k => more k dC)) := ⟨_, rfl⟩
      have HP := Aside0.mk (show ∀ k, k < N → cs2[k]? = if k < K then some dC else cs[k]? by
        intro k hk
        rw [hcs2]
        exact moves_pure cs HIr.out.1 hKm hH2.1 k (by rw [← HN.out]; exact hk))
      have hI8' : IsGrid w8 g b W H cs2 := by rw [hcs2]; exact hI8
      have HI8 := Aside0.mk hI8'
      have hwK : IntKind.i64.wrap ((n : Int) * (W : Int)) = (K : Int) := by
        have hK8 : K ≤ 800 := by rw [hK]; have := Nat.mul_le_mul (show n ≤ 20 by omega) hW2.2; omega
        rw [hK, Int.natCast_mul]; exact IntWalk.i64_in _ (by rw [← Int.natCast_mul, ← hK]; omega)
      clear hI8 hO8 hcs2 hI8' hKm hK
      have hlen2 := HI8.out.1
      go_wp2_with fail
      refine (cells_calls g b W H cs2 _ HI8.out).mono ?_
      rintro e9 w9 ⟨⟨v, rfl, gn, cn, rn, rfl, hgn, hcn, hcnm, hBN⟩, hb9⟩
      have hCN2 : cs2.length = N := by rw [hlen2, HN.out]
      have BN := Aside0.mk hBN
      have BD := Aside0.mk (BD.out.below' hb9)
      have BC := Aside0.mk (BC.out.below' hb9)
      have XB9 := Aside0.mk (below_step XB8.out hb9)
      clear hBN hb9 hlen2
      rw [hCN2] at hcn ⊢
      go_wp2_with fail
      clear HBC HI5 XB5 XB6 HI6 XB7 HI7 XB8 HI8 XBr HIr
      go_loopg [14] N (fun kq v14 wr => ∃ (k : Nat), v14 = .int .i64 (k : Int) ∧ Aside0 (k ≤ N ∧ kq = N - k) ∧ Aside0 (Blk wr gc 25 (fl cs ++ rs).toArray) ∧ Aside0 (Blk wr gn 25 (fl cs2 ++ rn).toArray) ∧ Aside0 (Blk wr gd 25 #[.int .i32 46, .int .i64 0, .int .i64 0, .bool false, .bool false, .bool false]) ∧ Aside0 (Below w.heap.size w wr))
      case atStart => exact ⟨0, rfl, ⟨Nat.zero_le _, rfl⟩, BC, BN, BD, XB9⟩
      case round =>
        obtain ⟨k, rfl, ⟨hk, hkq⟩, BCr, BNr, BDr, XBr⟩ := hrel
        have HQ2 := Aside0.mk hkq
        clear hkq BC BN BD XB9
        by_cases hlt2 : k < N
        · obtain ⟨q, hq⟩ : ∃ q, cs[k]? = some q := ⟨cs[k]'(by omega), by simp⟩
          have hq2 := HP.out k hlt2
          rw [hq] at hq2
          have hk0 : (0 : Int) ≤ (k : Int) := Int.natCast_nonneg _
          have hkN : (k : Int) < (N : Int) := by omega
          obtain ⟨s0, s1, s2, s3, s4, s5⟩ := six BCr.out hq
          rw [Nat.add_zero] at s0
          by_cases hkK : k < K
          · rw [if_pos hkK] at hq2
            have hkK' : (k : Int) < (K : Int) := by omega
            have BNa := Aside0.mk (BNr.out.alloc (.cells #[.int .i32 q.r, .int .i64 q.f, .int .i64 q.g, .bool q.bo, .bool q.un, .bool q.iv] 25))
            have BDa := Aside0.mk (BDr.out.alloc (.cells #[.int .i32 q.r, .int .i64 q.f, .int .i64 q.g, .bool q.bo, .bool q.un, .bool q.iv] 25))
            have d0 : (wr.alloc (.cells #[.int .i32 q.r, .int .i64 q.f, .int .i64 q.g, .bool q.bo, .bool q.un, .bool q.iv] 25)).cell? ⟨gd, 0, none⟩ = some (.int .i32 46) := (BDa.out.cell 0).trans rfl
            have d1 : (wr.alloc (.cells #[.int .i32 q.r, .int .i64 q.f, .int .i64 q.g, .bool q.bo, .bool q.un, .bool q.iv] 25)).cell? ⟨gd, 1, none⟩ = some (.int .i64 0) := (BDa.out.cell 1).trans rfl
            have d2 : (wr.alloc (.cells #[.int .i32 q.r, .int .i64 q.f, .int .i64 q.g, .bool q.bo, .bool q.un, .bool q.iv] 25)).cell? ⟨gd, 2, none⟩ = some (.int .i64 0) := (BDa.out.cell 2).trans rfl
            have d3 : (wr.alloc (.cells #[.int .i32 q.r, .int .i64 q.f, .int .i64 q.g, .bool q.bo, .bool q.un, .bool q.iv] 25)).cell? ⟨gd, 3, none⟩ = some (.bool false) := (BDa.out.cell 3).trans rfl
            have d4 : (wr.alloc (.cells #[.int .i32 q.r, .int .i64 q.f, .int .i64 q.g, .bool q.bo, .bool q.un, .bool q.iv] 25)).cell? ⟨gd, 4, none⟩ = some (.bool false) := (BDa.out.cell 4).trans rfl
            have d5 : (wr.alloc (.cells #[.int .i32 q.r, .int .i64 q.f, .int .i64 q.g, .bool q.bo, .bool q.un, .bool q.iv] 25)).cell? ⟨gd, 5, none⟩ = some (.bool false) := (BDa.out.cell 5).trans rfl
            clear BNa
            go_wp2_with fail
            clear d0 d1 d2 d3 d4 d5 s0 s1 s2 s3 s4 s5 BDa
            have BNa := Aside0.mk (BNr.out.alloc (.cells #[.int .i32 46, .int .i64 0, .int .i64 0, .bool false, .bool false, .bool false] 25))
            have BCa := Aside0.mk (BCr.out.alloc (.cells #[.int .i32 46, .int .i64 0, .int .i64 0, .bool false, .bool false, .bool false] 25))
            have BDa := Aside0.mk (BDr.out.alloc (.cells #[.int .i32 46, .int .i64 0, .int .i64 0, .bool false, .bool false, .bool false] 25))
            have BWa := Aside0.mk (Blk.new wr 25 #[.int .i32 46, .int .i64 0, .int .i64 0, .bool false, .bool false, .bool false])
            have XBa := Aside0.mk (below_alloc XBr.out (.cells #[.int .i32 46, .int .i64 0, .int .i64 0, .bool false, .bool false, .bool false] 25))
            have hne := ne_cell 46 0 0 false false false
            generalize wr.alloc (.cells #[.int .i32 46, .int .i64 0, .int .i64 0, .bool false, .bool false, .bool false] 25) = WA at BNa BCa BDa BWa XBa ⊢
            obtain ⟨gw, hgw2⟩ : ∃ gw, gw = wr.heap.size := ⟨_, rfl⟩
            rw [← hgw2] at BWa ⊢
            clear hgw2
            have y0 : (WA).cell? ⟨gw, 0, none⟩ = some (.int .i32 46) := (BWa.out.cell 0).trans rfl
            have y1 : (WA).cell? ⟨gw, 1, none⟩ = some (.int .i64 0) := (BWa.out.cell 1).trans rfl
            have y2 : (WA).cell? ⟨gw, 2, none⟩ = some (.int .i64 0) := (BWa.out.cell 2).trans rfl
            have y3 : (WA).cell? ⟨gw, 3, none⟩ = some (.bool false) := (BWa.out.cell 3).trans rfl
            have y4 : (WA).cell? ⟨gw, 4, none⟩ = some (.bool false) := (BWa.out.cell 4).trans rfl
            have y5 : (WA).cell? ⟨gw, 5, none⟩ = some (.bool false) := (BWa.out.cell 5).trans rfl
            have t0 : (WA).cell? ⟨gn, k * 6, none⟩ = some (.int .i32 46) := (BNa.out.cell _).trans ((fl_cell hq2 0 (by omega) rn).trans rfl)
            have t1 : (WA).cell? ⟨gn, k * 6 + 1, none⟩ = some (.int .i64 0) := (BNa.out.cell _).trans ((fl_cell hq2 1 (by omega) rn).trans rfl)
            have t2 : (WA).cell? ⟨gn, k * 6 + 2, none⟩ = some (.int .i64 0) := (BNa.out.cell _).trans ((fl_cell hq2 2 (by omega) rn).trans rfl)
            have t3 : (WA).cell? ⟨gn, k * 6 + 3, none⟩ = some (.bool false) := (BNa.out.cell _).trans ((fl_cell hq2 3 (by omega) rn).trans rfl)
            have t4 : (WA).cell? ⟨gn, k * 6 + 4, none⟩ = some (.bool false) := (BNa.out.cell _).trans ((fl_cell hq2 4 (by omega) rn).trans rfl)
            have t5 : (WA).cell? ⟨gn, k * 6 + 5, none⟩ = some (.bool false) := (BNa.out.cell _).trans ((fl_cell hq2 5 (by omega) rn).trans rfl)
            clear hq hq2
            go_quiet (fail)
            clear y0 y1 y2 y3 y4 y5 t0 t1 t2 t3 t4 t5
            go_wp2
            go_roundg (N - (k + 1))
            case measure => have := HQ2.out; omega
            case rel => exact ⟨k + 1, by go_num, ⟨by omega, rfl⟩, BCa, BNa, BDa, ⟨pw_below_drewN XBa.out nq⟩⟩
          · rw [if_neg hkK] at hq2
            have hkK' : (K : Int) ≤ (k : Int) := by omega
            go_wp2_with fail
            clear s0 s1 s2 s3 s4 s5
            have BNa := Aside0.mk (BNr.out.alloc (.cells #[.int .i32 q.r, .int .i64 q.f, .int .i64 q.g, .bool q.bo, .bool q.un, .bool q.iv] 25))
            have BCa := Aside0.mk (BCr.out.alloc (.cells #[.int .i32 q.r, .int .i64 q.f, .int .i64 q.g, .bool q.bo, .bool q.un, .bool q.iv] 25))
            have BDa := Aside0.mk (BDr.out.alloc (.cells #[.int .i32 q.r, .int .i64 q.f, .int .i64 q.g, .bool q.bo, .bool q.un, .bool q.iv] 25))
            have BWa := Aside0.mk (Blk.new wr 25 #[.int .i32 q.r, .int .i64 q.f, .int .i64 q.g, .bool q.bo, .bool q.un, .bool q.iv])
            have XBa := Aside0.mk (below_alloc XBr.out (.cells #[.int .i32 q.r, .int .i64 q.f, .int .i64 q.g, .bool q.bo, .bool q.un, .bool q.iv] 25))
            have hne := ne_cell q.r q.f q.g q.bo q.un q.iv
            generalize wr.alloc (.cells #[.int .i32 q.r, .int .i64 q.f, .int .i64 q.g, .bool q.bo, .bool q.un, .bool q.iv] 25) = WA at BNa BCa BDa BWa XBa ⊢
            obtain ⟨gw, hgw2⟩ : ∃ gw, gw = wr.heap.size := ⟨_, rfl⟩
            rw [← hgw2] at BWa ⊢
            clear hgw2
            have y0 : (WA).cell? ⟨gw, 0, none⟩ = some (.int .i32 q.r) := (BWa.out.cell 0).trans rfl
            have y1 : (WA).cell? ⟨gw, 1, none⟩ = some (.int .i64 q.f) := (BWa.out.cell 1).trans rfl
            have y2 : (WA).cell? ⟨gw, 2, none⟩ = some (.int .i64 q.g) := (BWa.out.cell 2).trans rfl
            have y3 : (WA).cell? ⟨gw, 3, none⟩ = some (.bool q.bo) := (BWa.out.cell 3).trans rfl
            have y4 : (WA).cell? ⟨gw, 4, none⟩ = some (.bool q.un) := (BWa.out.cell 4).trans rfl
            have y5 : (WA).cell? ⟨gw, 5, none⟩ = some (.bool q.iv) := (BWa.out.cell 5).trans rfl
            have t0 : (WA).cell? ⟨gn, k * 6, none⟩ = some (.int .i32 q.r) := (BNa.out.cell _).trans ((fl_cell hq2 0 (by omega) rn).trans rfl)
            have t1 : (WA).cell? ⟨gn, k * 6 + 1, none⟩ = some (.int .i64 q.f) := (BNa.out.cell _).trans ((fl_cell hq2 1 (by omega) rn).trans rfl)
            have t2 : (WA).cell? ⟨gn, k * 6 + 2, none⟩ = some (.int .i64 q.g) := (BNa.out.cell _).trans ((fl_cell hq2 2 (by omega) rn).trans rfl)
            have t3 : (WA).cell? ⟨gn, k * 6 + 3, none⟩ = some (.bool q.bo) := (BNa.out.cell _).trans ((fl_cell hq2 3 (by omega) rn).trans rfl)
            have t4 : (WA).cell? ⟨gn, k * 6 + 4, none⟩ = some (.bool q.un) := (BNa.out.cell _).trans ((fl_cell hq2 4 (by omega) rn).trans rfl)
            have t5 : (WA).cell? ⟨gn, k * 6 + 5, none⟩ = some (.bool q.iv) := (BNa.out.cell _).trans ((fl_cell hq2 5 (by omega) rn).trans rfl)
            clear hq hq2
            go_quiet (fail)
            clear y0 y1 y2 y3 y4 y5 t0 t1 t2 t3 t4 t5
            go_wp2
            go_roundg (N - (k + 1))
            case measure => have := HQ2.out; omega
            case rel => exact ⟨k + 1, by go_num, ⟨by omega, rfl⟩, BCa, BNa, BDa, ⟨pw_below_drewN XBa.out nq⟩⟩
        · obtain rfl : N = k := by omega
          go_wp2
          go_ret
          exact ⟨rfl, XBr.out⟩
theorem moves_row (w0 h0 n0 : Int) (A : Option Addr) (c : Nat) (l : List C6) (w : World) (_h0 : (Lit.int .i64 w0).wf = true) (_h1 : (Lit.int .i64 h0).wf = true) (_h2 : (Lit.int .i64 n0).wf = true) (h : Kd.C Opens.kC w A l.length l) (hc : l.length ≤ c) :
    Calls Try.prog 6 #[.int .i64 w0, .int .i64 h0, .int .i64 n0, .slice A l.length c] w fun r w' => r = .returned (.bool true) ∧ Below w.heap.size w w' := by
  by_cases hl : l.length ≤ 800
  · exact moves_live w0 h0 n0 A c l w (Opens.src_of h) hc hl
  · exact moves_over w0 h0 n0 A c l w hl
end Go.Proofs.Ytcmmdllnbijipaa.Grd
