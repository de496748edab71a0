/- The walk of GridOf: every screen as a grid, or the error; of nil grids. Conditions: those in each theorem. -/
import Derived.Test.YtcmmdllnbijipaaLentC
namespace Go.Proofs.Ytcmmdllnbijipaa.Grd
open Go.RowKit Go.Proofs.Ytcmmdllnbijipaa.Mem Go.Proofs.YtcmmdllnbijipaaW.PrintWords Go.Proofs.YtcmmdllnbijipaaW.PrintMore Go.Proofs.Ytcmmdllnbijipaa.PGridOf
attribute [local go_sem] max2_i min2_i max_two min_two
set_option linter.unusedVariables false
set_option linter.unusedSimpArgs false
theorem of_bad (W H X Y : Int) (hd : Bool) (A : Option Addr) (n c : Nat) (w : World) (hb : ¬ (2 ≤ W ∧ W ≤ 40 ∧ 1 ≤ H ∧ H ≤ 20 ∧ (n : Int) = W * H)) :
    Calls Try.prog 32 #[.agg #[.int .i64 W, .int .i64 H, .slice A n c, .int .i64 X, .int .i64 Y, .bool hd]] w fun r w' => r = .returned (.tuple #[.pointer none, .int .i64 1]) ∧ Below w.heap.size w w' := by
  have hu := Try.underlying47
  by_cases h1 : W < 2
  · clear hb
    go_enter Try.func32, Try.ntmps32
    go_wp2
    go_ret2
    exact ⟨rfl, below_alloc (Below.refl _ _) _⟩
  · by_cases h2 : (40 : Int) < W
    · clear hb
      go_enter Try.func32, Try.ntmps32
      go_wp2
      go_ret2
      exact ⟨rfl, below_alloc (Below.refl _ _) _⟩
    · by_cases h3 : H < 1
      · clear hb
        go_enter Try.func32, Try.ntmps32
        go_wp2
        go_ret2
        exact ⟨rfl, below_alloc (Below.refl _ _) _⟩
      · by_cases h4 : (20 : Int) < H
        · clear hb
          go_enter Try.func32, Try.ntmps32
          go_wp2
          go_ret2
          exact ⟨rfl, below_alloc (Below.refl _ _) _⟩
        · obtain ⟨W', rfl⟩ := Int.eq_ofNat_of_zero_le (show 0 ≤ W by omega)
          obtain ⟨H', rfl⟩ := Int.eq_ofNat_of_zero_le (show 0 ≤ H by omega)
          have h5 : ¬ (n : Int) = (W' : Int) * (H' : Int) := fun h => hb ⟨by omega, by omega, by omega, by omega, h⟩
          have hN8 := wh_le (W := W') (H := H') (by omega) (by omega)
          obtain ⟨N, hN⟩ : ∃ N, N = W' * H' := ⟨_, rfl⟩
          have hw : IntKind.i64.wrap ((W' : Int) * (H' : Int)) = (N : Int) := by rw [hN, Int.natCast_mul]; exact IntWalk.i64_in _ (by rw [← Int.natCast_mul]; omega)
          have hnN : ((n : Int) != (N : Int)) = true := by
            rw [hN]
            simp only [bne_iff_ne, ne_eq]
            intro h
            apply h5
            rw [h, Int.natCast_mul]
          clear hb h5 hN
          go_enter Try.func32, Try.ntmps32
          go_wp2
          go_ret2
          exact ⟨rfl, below_alloc (Below.refl _ _) _⟩
set_option maxHeartbeats 1000000 in
set_option maxRecDepth 100000 in
theorem of_ok (W H : Nat) (X Y : Int) (hd : Bool) (ad : Addr) (c : Nat) (l : List C6) (w : World) (h1 : 2 ≤ W) (h2 : W ≤ 40) (h3 : 1 ≤ H) (h4 : H ≤ 20) (hs : Src w (some ad) (W * H) l) :
    Calls Try.prog 32 #[.agg #[.int .i64 (W : Int), .int .i64 (H : Int), .slice (some ad) (W * H) c, .int .i64 X, .int .i64 Y, .bool hd]] w fun r w' => ∃ g b, r = .returned (.tuple #[.pointer (some ⟨g, 0, none⟩), .int .i64 0]) ∧ w.heap.size ≤ g ∧ w.heap.size ≤ b ∧ IsGrid w' g b W H l ∧ Below w.heap.size w w' := by
  have hu := Try.underlying47
  have hN8 := wh_le h2 h4
  have hN0 : 0 < W * H := Nat.mul_pos (by omega) (by omega)
  obtain ⟨N, hN⟩ : ∃ N, N = W * H := ⟨_, rfl⟩
  have hw : IntKind.i64.wrap ((W : Int) * (H : Int)) = (N : Int) := by rw [hN, Int.natCast_mul]; exact IntWalk.i64_in _ (by rw [← Int.natCast_mul]; omega)
  rw [← hN] at hs hN0 hN8 ⊢
  have HL := Aside0.mk (show l.length = W * H by rw [hs.1, hN])
  have HS := Aside0.mk (hs.only (below_alloc (Below.refl _ _) (.cells #[.int .i64 (W : Int), .int .i64 (H : Int), .slice (some ad) N c, .int .i64 X, .int .i64 Y, .bool hd] 47)))
  have HB := Aside0.mk (below_alloc (Below.refl w.heap.size w) (.cells #[.int .i64 (W : Int), .int .i64 (H : Int), .slice (some ad) N c, .int .i64 X, .int .i64 Y, .bool hd] 47))
  have BX := Aside0.mk (Blk.new w 47 #[.int .i64 (W : Int), .int .i64 (H : Int), .slice (some ad) N c, .int .i64 X, .int .i64 Y, .bool hd])
  clear hs hN
  go_enter Try.func32, Try.ntmps32
  go_wp2_with fail
  generalize w.alloc (.cells #[.int .i64 (W : Int), .int .i64 (H : Int), .slice (some ad) N c, .int .i64 X, .int .i64 Y, .bool hd] 47) = W1 at HS HB BX ⊢
  have c0 : W1.cell? ⟨w.heap.size, 0, none⟩ = some (.int .i64 (W : Int)) := (BX.out.cell 0).trans rfl
  have c1 : W1.cell? ⟨w.heap.size, 1, none⟩ = some (.int .i64 (H : Int)) := (BX.out.cell 1).trans rfl
  have c2 : W1.cell? ⟨w.heap.size, 2, none⟩ = some (.slice (some ad) N c) := (BX.out.cell 2).trans rfl
  go_region_held3 (fun w' => w'.cell? ⟨w.heap.size, 0, none⟩ = some (.int .i64 (W : Int)) ∧ w'.cell? ⟨w.heap.size, 1, none⟩ = some (.int .i64 (H : Int)) ∧ w'.cell? ⟨w.heap.size, 2, none⟩ = some (.slice (some ad) N c)) (first | exact ⟨c0, c1, c2⟩ | exact ⟨x0, x1, x2⟩ | go_keep) (first | (go_at_call 66; refine (clone_cells ad N c l W1.drew HS.out hN0 (by omega)).mono ?_; rintro e1 w1 ⟨⟨v, rfl, gc, cc, rst, rfl, hO⟩, hb1⟩; have x0 := pw_cell_below (w := W1.drew) hb1 c0; have x1 := pw_cell_below (w := W1.drew) hb1 c1; have x2 := pw_cell_below (w := W1.drew) hb1 c2; have HO := Aside0.mk hO; have HB1 := Aside0.mk hb1; clear hO hb1))
  go_wp2
  go_ret2
  have hG2 := Blk.new w1 98 #[.int .i64 W, .int .i64 H, .slice (some ⟨gc, 0, none⟩) l.length cc]
  have hC2 := HO.out.2.2.2.alloc (.cells #[.int .i64 W, .int .i64 H, .slice (some ⟨gc, 0, none⟩) l.length cc] 98)
  have hsz : W1.heap.size ≤ w1.heap.size := HB1.out.size
  have hsz0 := HB.out.size
  have hgc : W1.heap.size ≤ gc := HO.out.1
  refine ⟨w1.heap.size, gc, rfl, by omega, by omega, ⟨HL.out, h1, h2, h3, h4, cc, rst, by rw [← HL.out]; exact hG2, hC2, by rw [← HL.out]; exact HO.out.2.1, HO.out.2.2.1⟩, ?_⟩
  exact below_alloc (below_step (below_drew HB.out) HB1.out) (.cells #[.int .i64 W, .int .i64 H, .slice (some ⟨gc, 0, none⟩) l.length cc] 98)
/-- The screen's cells in a box. -/
def boxS (W H X Y : Int) (hd : Bool) (A : Option Addr) (n c : Nat) : Array Value := #[.int .i64 W, .int .i64 H, .slice A n c, .int .i64 X, .int .i64 Y, .bool hd]
set_option maxHeartbeats 4000000 in
set_option maxRecDepth 100000 in
theorem gof_bad (W H X Y : Int) (hd : Bool) (A : Option Addr) (n c : Nat) (l : List C6) (w : World) (hs : Src w A n l) (hc : n ≤ c) (hl : n ≤ 1000) (hb : ¬ (2 ≤ W ∧ W ≤ 40 ∧ 1 ≤ H ∧ H ≤ 20 ∧ (n : Int) = W * H)) :
    Calls Try.prog 9 #[.agg #[.int .i64 W, .int .i64 H, .slice A n c, .int .i64 X, .int .i64 Y, .bool hd]] w fun r w' => r = .returned (.bool true) ∧ Below w.heap.size w w' := by
  have hu := Try.underlying47
  have hlI : ¬ (1000 : Int) < (n : Int) := by omega
  obtain ⟨r1, hr1⟩ : ∃ r1 : Int, r1 = mn (mx W 2) 40 := ⟨_, rfl⟩
  obtain ⟨r2, hr2⟩ : ∃ r2 : Int, r2 = mn (mx H 1) 20 := ⟨_, rfl⟩
  have HE := Aside0.mk (fun W1 => pontoonref12_Ends.calls W H r1 r2 W1 (by unfold pontoonref12_Ends.f; rw [hr1, hr2]))
  have HOF := Aside0.mk (fun A' c' W1 => of_bad W H X Y hd A' n c' W1 hb)
  have hcase : r1 ≠ W ∨ (r1 = W ∧ r2 ≠ H) ∨ (r1 = W ∧ r2 = H ∧ 2 ≤ W ∧ W ≤ 40 ∧ 1 ≤ H ∧ H ≤ 20 ∧ (n : Int) ≠ W * H) := by
    by_cases h1 : 2 ≤ W ∧ W ≤ 40
    · by_cases h2 : 1 ≤ H ∧ H ≤ 20
      · right; right
        exact ⟨by rw [hr1]; unfold mn mx; omega, by rw [hr2]; unfold mn mx; omega, h1.1, h1.2, h2.1, h2.2, fun h => hb ⟨h1.1, h1.2, h2.1, h2.2, h⟩⟩
      · by_cases h3 : r1 = W
        · exact .inr (.inl ⟨h3, by rw [hr2]; unfold mn mx; omega⟩)
        · exact .inl h3
    · left
      rw [hr1]; unfold mn mx; omega
  have HCASE := Aside0.mk hcase
  have HS := Aside0.mk (hs.only (below_alloc (Below.refl _ _) (.cells #[.int .i64 W, .int .i64 H, .slice A n c, .int .i64 X, .int .i64 Y, .bool hd] 47)))
  have HB := Aside0.mk (below_alloc (Below.refl w.heap.size w) (.cells #[.int .i64 W, .int .i64 H, .slice A n c, .int .i64 X, .int .i64 Y, .bool hd] 47))
  have BX := Aside0.mk (Blk.new w 47 #[.int .i64 W, .int .i64 H, .slice A n c, .int .i64 X, .int .i64 Y, .bool hd])
  clear hs hb hr1 hr2 hcase
  go_enter Try.func9, Try.ntmps9
  go_wp2_with fail
  generalize w.alloc (.cells #[.int .i64 W, .int .i64 H, .slice A n c, .int .i64 X, .int .i64 Y, .bool hd] 47) = W1 at HS HB BX ⊢
  refine (alive15 _).mono ?_
  rintro e1 w1 ⟨rfl, hb1⟩
  have HS := Aside0.mk (HS.out.only hb1)
  have BX := Aside0.mk (BX.out.below' hb1)
  have HB := Aside0.mk (below_step HB.out hb1)
  clear hb1
  have c2 : w1.cell? ⟨w.heap.size, 2, none⟩ = some (.slice A n c) := (BX.out.cell 2).trans rfl
  go_wp2_with fail
  refine (lent_calls A n c l w1 HS.out (by omega)).mono ?_
  rintro e2 w2 ⟨gm, cm, rfl, hL, hb2⟩
  have BX := Aside0.mk (BX.out.below' hb2)
  have HB := Aside0.mk (below_step HB.out hb2)
  clear hb2 hL c2
  have x0 : w2.cell? ⟨w.heap.size, 0, none⟩ = some (.int .i64 W) := (BX.out.cell 0).trans rfl
  have x1 : w2.cell? ⟨w.heap.size, 1, none⟩ = some (.int .i64 H) := (BX.out.cell 1).trans rfl
  have x2 : w2.cell? ⟨w.heap.size, 2, none⟩ = some (.slice A n c) := (BX.out.cell 2).trans rfl
  have x3 : w2.cell? ⟨w.heap.size, 3, none⟩ = some (.int .i64 X) := (BX.out.cell 3).trans rfl
  have x4 : w2.cell? ⟨w.heap.size, 4, none⟩ = some (.int .i64 Y) := (BX.out.cell 4).trans rfl
  have x5 : w2.cell? ⟨w.heap.size, 5, none⟩ = some (.bool hd) := (BX.out.cell 5).trans rfl
  go_wp2_with fail
  clear x0 x1 x2 x3 x4 x5
  have BX := Aside0.mk (BX.out.alloc (.cells #[.int .i64 W, .int .i64 H, .slice (some ⟨gm, 0, none⟩) n cm, .int .i64 X, .int .i64 Y, .bool hd] 47))
  have HB := Aside0.mk (below_alloc HB.out (.cells #[.int .i64 W, .int .i64 H, .slice (some ⟨gm, 0, none⟩) n cm, .int .i64 X, .int .i64 Y, .bool hd] 47))
  refine (HOF.out (some ⟨gm, 0, none⟩) cm _).mono ?_
  rintro e3 w3 ⟨rfl, hb3⟩
  have BX := Aside0.mk (BX.out.below' hb3)
  have HB := Aside0.mk (below_step HB.out hb3)
  clear hb3
  have x0 : w3.cell? ⟨w.heap.size, 0, none⟩ = some (.int .i64 W) := (BX.out.cell 0).trans rfl
  have x1 : w3.cell? ⟨w.heap.size, 1, none⟩ = some (.int .i64 H) := (BX.out.cell 1).trans rfl
  have x2 : w3.cell? ⟨w.heap.size, 2, none⟩ = some (.slice A n c) := (BX.out.cell 2).trans rfl
  go_wp2_with fail
  clear x0 x1 x2
  refine (HE.out _).mono ?_
  rintro e4 w4 ⟨rfl, hb4⟩
  have BX := Aside0.mk (BX.out.below' hb4)
  have HB := Aside0.mk (below_step HB.out hb4)
  clear hb4
  have x0 : w4.cell? ⟨w.heap.size, 0, none⟩ = some (.int .i64 W) := (BX.out.cell 0).trans rfl
  have x1 : w4.cell? ⟨w.heap.size, 1, none⟩ = some (.int .i64 H) := (BX.out.cell 1).trans rfl
  have x2 : w4.cell? ⟨w.heap.size, 2, none⟩ = some (.slice A n c) := (BX.out.cell 2).trans rfl
  have hn0 := eql_grid0
  have HBf := HB
  clear HB
  rcases HCASE.out with h | ⟨h1, h2⟩ | ⟨h1, h2, h3, h4, h5, h6, h7⟩
  · have hq : (r1 != W) = true := by simpa using h
    clear h
    go_wp2
    go_ret
    exact ⟨rfl, HBf.out⟩
  · have hq : (r2 != H) = true := by simpa using h2
    clear h2
    subst h1
    go_wp2
    go_ret
    exact ⟨rfl, HBf.out⟩
  · subst h1 h2
    obtain ⟨W', rfl⟩ := Int.eq_ofNat_of_zero_le (show 0 ≤ r1 by omega)
    obtain ⟨H', rfl⟩ := Int.eq_ofNat_of_zero_le (show 0 ≤ r2 by omega)
    have hN8 := wh_le (W := W') (H := H') (by omega) (by omega)
    obtain ⟨N, hN⟩ : ∃ N, N = W' * H' := ⟨_, rfl⟩
    have hw : IntKind.i64.wrap ((W' : Int) * (H' : Int)) = (N : Int) := by rw [hN, Int.natCast_mul]; exact IntWalk.i64_in _ (by rw [← Int.natCast_mul]; omega)
    have hnN : ((n : Int) != (N : Int)) = true := by
      rw [hN]
      simp only [bne_iff_ne, ne_eq]
      intro h
      apply h7
      rw [h, Int.natCast_mul]
    clear h7 hN
    go_wp2
    go_ret
    exact ⟨rfl, HBf.out⟩
theorem same19_ok (l : List S25) (hl : l.length ≤ 1000000) (a b : Int) (d e : Int) (f : Bool) : ∀ k i, l.length + 1 ≤ k + i → i ≤ l.length → pontoonref19_Same.l0 k (i : Int) a b l d e f a b l d e f = some true := by
  intro k
  induction k with
  | zero => intro i h1 h2; omega
  | succ k ih =>
    intro i h1 h2
    simp only [pontoonref19_Same.l0]
    by_cases hlt : i < l.length
    · have hw : wrap64 ((i : Int) + 1) = ((i + 1 : Nat) : Int) := by unfold wrap64; omega
      rw [if_pos (by omega), if_pos (by omega), if_pos (by omega), if_neg (by simp), hw]
      exact ih (i + 1) (by omega) (by omega)
    · rw [if_neg (by omega)]
theorem same_self (W H X Y : Int) (hd : Bool) (A : Option Addr) (n c : Nat) (l : List C6) (w : World) (hs : Src w A n l) (hc : n ≤ c) (hl : n ≤ 1000) :
    Calls Try.prog 37 #[.agg #[.int .i64 W, .int .i64 H, .slice A n c, .int .i64 X, .int .i64 Y, .bool hd], .agg #[.int .i64 W, .int .i64 H, .slice A n c, .int .i64 X, .int .i64 Y, .bool hd]] w fun r w' => r = .returned (.bool true) ∧ Below w.heap.size w w' := by
  have h0 := hs.1
  have hK := c25_of hs (by omega)
  rw [List.length_map, h0] at hK
  have := pontoonref19_Same.calls (l.length + 2) W H A c (l.map toS) X Y hd W H A c (l.map toS) X Y hd true w (by rw [List.length_map, h0]; exact hK) (by rw [List.length_map, h0]; exact hc) (by rw [List.length_map, h0]; exact hK) (by rw [List.length_map, h0]; exact hc) (by
    unfold pontoonref19_Same.f
    rw [if_pos rfl, if_pos rfl, if_pos rfl, if_pos rfl, if_neg (by simp)]
    simp only [pontoonref19_Same.j0]
    rw [if_neg (by simp)]
    exact same19_ok _ (by simp; omega) W H X Y hd _ 0 (by simp) (by omega))
  rw [List.length_map, h0] at this
  exact this
/-- What the line reads. -/
structure GO (w0 : World) (p g b W H wl gm cm : Nat) (l : List C6) (bx : Array Value) (w : World) : Prop where
  x : w.heap[p]? = some (.cells bx 47 (0, 0))
  i : IsGrid w g b W H l
  l : LentC w wl gm cm l
  b : Below w0.heap.size w0 w
theorem GO.below {w0 w w' : World} {p g b W H wl gm cm : Nat} {l : List C6} {bx : Array Value} (h : GO w0 p g b W H wl gm cm l bx w) (hb : Below w.heap.size w w') : GO w0 p g b W H wl gm cm l bx w' := ⟨blk_below h.x hb, h.i.below hb, h.l.below hb, below_step h.b hb⟩
theorem GO.drewN {w0 w : World} {p g b W H wl gm cm : Nat} {l : List C6} {bx : Array Value} (h : GO w0 p g b W H wl gm cm l bx w) (n : Nat) : GO w0 p g b W H wl gm cm l bx (w.drewN n) := ⟨h.x, h.i, h.l, pw_below_drewN h.b n⟩
set_option maxHeartbeats 4000000 in
set_option maxRecDepth 100000 in
theorem gof_ok (W H : Nat) (X Y : Int) (hd : Bool) (A : Option Addr) (n c : Nat) (l : List C6) (w : World) (hs : Src w A n l) (hc : n ≤ c) (hl : n ≤ 1000) (h1 : 2 ≤ W) (h2 : W ≤ 40) (h3 : 1 ≤ H) (h4 : H ≤ 20) (hnN : n = W * H) :
    Calls Try.prog 9 #[.agg #[.int .i64 (W : Int), .int .i64 (H : Int), .slice A n c, .int .i64 X, .int .i64 Y, .bool hd]] w fun r w' => r = .returned (.bool true) ∧ Below w.heap.size w w' := by
  have hu := Try.underlying47
  have hua := Try.underlying25
  have hlI : ¬ (1000 : Int) < (n : Int) := by omega
  have HE := Aside0.mk (fun W1 => pontoonref12_Ends.calls (W : Int) (H : Int) (W : Int) (H : Int) W1 (by unfold pontoonref12_Ends.f mn mx; congr 2 <;> omega))
  have HOF := Aside0.mk (fun ad c' W1 hs' => of_ok W H X Y hd ad c' l W1 h1 h2 h3 h4 hs')
  rw [← hnN] at HOF
  have hw : IntKind.i64.wrap ((W : Int) * (H : Int)) = (n : Int) := by rw [hnN, Int.natCast_mul]; exact IntWalk.i64_in _ (by rw [← Int.natCast_mul]; omega)
  have HS0 := Aside0.mk hs
  have HNN := Aside0.mk hnN
  have HS := Aside0.mk (hs.only (below_alloc (Below.refl _ _) (.cells #[.int .i64 W, .int .i64 H, .slice A n c, .int .i64 X, .int .i64 Y, .bool hd] 47)))
  have HB := Aside0.mk (below_alloc (Below.refl w.heap.size w) (.cells #[.int .i64 W, .int .i64 H, .slice A n c, .int .i64 X, .int .i64 Y, .bool hd] 47))
  have BX := Aside0.mk (Blk.new w 47 #[.int .i64 W, .int .i64 H, .slice A n c, .int .i64 X, .int .i64 Y, .bool hd])
  clear hs hnN
  go_enter Try.func9, Try.ntmps9
  go_wp2_with fail
  generalize w.alloc (.cells #[.int .i64 W, .int .i64 H, .slice A n c, .int .i64 X, .int .i64 Y, .bool hd] 47) = W1 at HS HB BX ⊢
  refine (alive15 _).mono ?_
  rintro e1 w1 ⟨rfl, hb1⟩
  have HS := Aside0.mk (HS.out.only hb1)
  have BX := Aside0.mk (BX.out.below' hb1)
  have HB := Aside0.mk (below_step HB.out hb1)
  clear hb1
  have c2 : w1.cell? ⟨w.heap.size, 2, none⟩ = some (.slice A n c) := (BX.out.cell 2).trans rfl
  go_wp2_with fail
  refine (lent_calls A n c l w1 HS.out (by omega)).mono ?_
  rintro e2 w2 ⟨gm, cm, rfl, hL, hb2⟩
  have BX := Aside0.mk (BX.out.below' hb2)
  have hgm : w.heap.size ≤ gm := Nat.le_trans HB.out.size hL.1
  have HB := Aside0.mk (below_step HB.out hb2)
  have HL := Aside0.mk hL
  clear hb2 hL c2
  have x0 : w2.cell? ⟨w.heap.size, 0, none⟩ = some (.int .i64 W) := (BX.out.cell 0).trans rfl
  have x1 : w2.cell? ⟨w.heap.size, 1, none⟩ = some (.int .i64 H) := (BX.out.cell 1).trans rfl
  have x2 : w2.cell? ⟨w.heap.size, 2, none⟩ = some (.slice A n c) := (BX.out.cell 2).trans rfl
  have x3 : w2.cell? ⟨w.heap.size, 3, none⟩ = some (.int .i64 X) := (BX.out.cell 3).trans rfl
  have x4 : w2.cell? ⟨w.heap.size, 4, none⟩ = some (.int .i64 Y) := (BX.out.cell 4).trans rfl
  have x5 : w2.cell? ⟨w.heap.size, 5, none⟩ = some (.bool hd) := (BX.out.cell 5).trans rfl
  go_wp2_with fail
  clear x0 x1 x2 x3 x4 x5
  have BX := Aside0.mk (BX.out.alloc (.cells #[.int .i64 W, .int .i64 H, .slice (some ⟨gm, 0, none⟩) n cm, .int .i64 X, .int .i64 Y, .bool hd] 47))
  have HL := Aside0.mk (HL.out.below (below_alloc (Below.refl _ _) (.cells #[.int .i64 W, .int .i64 H, .slice (some ⟨gm, 0, none⟩) n cm, .int .i64 X, .int .i64 Y, .bool hd] 47)))
  have HB := Aside0.mk (below_alloc HB.out (.cells #[.int .i64 W, .int .i64 H, .slice (some ⟨gm, 0, none⟩) n cm, .int .i64 X, .int .i64 Y, .bool hd] 47))
  have hln : l.length = n := HS.out.1
  have hglt : gm < (w2.alloc (.cells #[.int .i64 W, .int .i64 H, .slice (some ⟨gm, 0, none⟩) n cm, .int .i64 X, .int .i64 Y, .bool hd] 47)).heap.size := by
    obtain ⟨_, _, _, _, hx⟩ := HL.out
    exact hx.lt
  refine (HOF.out ⟨gm, 0, none⟩ cm _ (by have := HL.out.src; rwa [hln] at this)).mono ?_
  rintro e3 w3 ⟨g, b, rfl, hg, hb, hI, hb3⟩
  have BX := Aside0.mk (BX.out.below' hb3)
  have HL := Aside0.mk (HL.out.below hb3)
  have hbw : w.heap.size ≤ b := Nat.le_trans HB.out.size hb
  have HB := Aside0.mk (below_step HB.out hb3)
  have HI := Aside0.mk hI
  have hn := eql_grid ⟨g, 0, none⟩
  have hbgm : gm ≠ b := by omega
  clear hb3 hI
  have x0 : w3.cell? ⟨w.heap.size, 0, none⟩ = some (.int .i64 W) := (BX.out.cell 0).trans rfl
  have x1 : w3.cell? ⟨w.heap.size, 1, none⟩ = some (.int .i64 H) := (BX.out.cell 1).trans rfl
  have x2 : w3.cell? ⟨w.heap.size, 2, none⟩ = some (.slice A n c) := (BX.out.cell 2).trans rfl
  go_wp2_with fail
  clear x0 x1 x2
  refine (HE.out _).mono ?_
  rintro e4 w4 ⟨rfl, hb4⟩
  have BX := Aside0.mk (BX.out.below' hb4)
  have HL := Aside0.mk (HL.out.below hb4)
  have HI := Aside0.mk (HI.out.below hb4)
  have HB := Aside0.mk (below_step HB.out hb4)
  clear hb4
  have x0 : w4.cell? ⟨w.heap.size, 0, none⟩ = some (.int .i64 W) := (BX.out.cell 0).trans rfl
  have x1 : w4.cell? ⟨w.heap.size, 1, none⟩ = some (.int .i64 H) := (BX.out.cell 1).trans rfl
  have x2 : w4.cell? ⟨w.heap.size, 2, none⟩ = some (.slice A n c) := (BX.out.cell 2).trans rfl
  go_wp2_with fail
  clear x0 x1 x2
  have hl1 : l.length ≤ 1000000 := by omega
  have HLN := Aside0.mk hln
  clear hln
  have XQ0 := Aside0.mk (show GO w w.heap.size g b W H w1.heap.size gm cm l #[.int .i64 W, .int .i64 H, .slice A n c, .int .i64 X, .int .i64 Y, .bool hd] w4.drew from ⟨BX.out, HI.out, HL.out, below_drew HB.out⟩)
  obtain ⟨wl, hwl⟩ : ∃ wl : Nat, wl = w1.heap.size := ⟨_, rfl⟩
  rw [← hwl] at XQ0
  clear hwl
  refine wp_region_held_drew (S := GO w w.heap.size g b W H wl gm cm l #[.int .i64 W, .int .i64 H, .slice A n c, .int .i64 X, .int .i64 Y, .bool hd]) (by kernel_rfl) (by exact XQ0.out) (fun hHeld => ?_)
  refine takeH (i := 0) (d := 63) (v := (.int .i64 0)) rfl rfl (by kernel_rfl) (by kernel_rfl) (by kernel_rfl) (fun _ _ _ h => h) (Or.inl ⟨by kernel_rfl, by intro w hSw; (try dsimp only at hSw); go_simp; done⟩) (by assumption) ?_
  try simp only [List.setIfInBounds_toArray, List.set_cons_zero, List.set_cons_succ]
  refine takeH (i := 1) (d := 64) (v := (.bool false)) rfl rfl (by kernel_rfl) (by kernel_rfl) (by kernel_rfl) (fun _ _ _ h => h) (Or.inl ⟨by kernel_rfl, by intro w hSw; (try dsimp only at hSw); go_simp; done⟩) (by assumption) ?_
  try simp only [List.setIfInBounds_toArray, List.set_cons_zero, List.set_cons_succ]
  refine takeH (i := 2) (d := 65) (v := (.bool false)) rfl rfl (by kernel_rfl) (by kernel_rfl) (by kernel_rfl) (fun _ _ _ h => h) (Or.inl ⟨by kernel_rfl, by intro w hSw; (try dsimp only at hSw); go_simp; done⟩) (by assumption) ?_
  try simp only [List.setIfInBounds_toArray, List.set_cons_zero, List.set_cons_succ]
  refine takeH (i := 3) (d := 66) (v := (.pointer (some ⟨g, 0, none⟩))) rfl rfl (by kernel_rfl) (by kernel_rfl) (by kernel_rfl) (fun _ _ _ h => h) (Or.inl ⟨by kernel_rfl, by intro w hSw; (try dsimp only at hSw); go_simp; done⟩) (by assumption) ?_
  try simp only [List.setIfInBounds_toArray, List.set_cons_zero, List.set_cons_succ]
  refine takeH (i := 4) (d := 67) (v := (.bool false)) rfl rfl (by kernel_rfl) (by kernel_rfl) (by kernel_rfl) (fun _ _ _ h => h) (Or.inl ⟨by kernel_rfl, by intro w hSw; (try dsimp only at hSw); go_simp; done⟩) (by assumption) ?_
  try simp only [List.setIfInBounds_toArray, List.set_cons_zero, List.set_cons_succ]
  refine takeH (i := 5) (d := 68) (v := (.bool false)) rfl rfl (by kernel_rfl) (by kernel_rfl) (by kernel_rfl) (fun _ _ _ h => h) (Or.inl ⟨by kernel_rfl, by intro w hSw; (try dsimp only at hSw); go_simp; done⟩) (by assumption) ?_
  try simp only [List.setIfInBounds_toArray, List.set_cons_zero, List.set_cons_succ]
  refine takeH (i := 6) (d := 69) (v := (.bool false)) rfl rfl (by kernel_rfl) (by kernel_rfl) (by kernel_rfl) (fun _ _ _ h => h) (Or.inl ⟨by kernel_rfl, by intro w hSw; (try dsimp only at hSw); go_simp; done⟩) (by assumption) ?_
  try simp only [List.setIfInBounds_toArray, List.set_cons_zero, List.set_cons_succ]
  refine takeH (i := 7) (d := 70) (v := (.pointer (some ⟨g, 0, none⟩))) rfl rfl (by kernel_rfl) (by kernel_rfl) (by kernel_rfl) (fun _ _ _ h => h) (Or.inl ⟨by kernel_rfl, by intro w hSw; (try dsimp only at hSw); go_simp; done⟩) (by assumption) ?_
  try simp only [List.setIfInBounds_toArray, List.set_cons_zero, List.set_cons_succ]
  refine takeH (i := 9) (d := 72) (v := (.pointer (some ⟨w.heap.size, 2, none⟩))) rfl rfl (by kernel_rfl) (by kernel_rfl) (by kernel_rfl) (fun _ _ _ h => h) (Or.inl ⟨by kernel_rfl, by intro w hSw; (try dsimp only at hSw); go_simp; done⟩) (by assumption) ?_
  try simp only [List.setIfInBounds_toArray, List.set_cons_zero, List.set_cons_succ]
  refine takeH (i := 10) (d := 73) (v := (.slice A n c)) rfl rfl (by kernel_rfl) (by kernel_rfl) (by kernel_rfl) (fun _ _ _ h => h) (Or.inl ⟨by kernel_rfl, by intro w hSw; (try dsimp only at hSw); have hq := hSw.x; have c2 := blk_cell hq 2; simp only [List.getElem?_toArray, List.getElem?_cons_zero, List.getElem?_cons_succ] at c2; clear hq; go_simp; done⟩) (by assumption) ?_
  try simp only [List.setIfInBounds_toArray, List.set_cons_zero, List.set_cons_succ]
  refine wpAnyH_ready (rs := [8]) (by kernel_rfl) (by simp) ?_
  refine AllReadyH.cons (o := { dst := some 71, op := Op.call { callee := Callee.value (Operand.func 24), args := #[Operand.tmp 70], argTypes := #[27] }, type := 39, pos := "law.go:115", after := #[{ on := 7, ground := Ground.data }, { on := 6, ground := Ground.chain }, { on := 6, ground := Ground.guard }], guard := some (6, false) }) rfl (fun K hK => ?_) AllReadyH.nil
  rw [if_pos (by kernel_rfl)]
  go_simp
  refine (cells_calls g b W H l _ XQ0.out.i).mono ?_
  rintro e1 w1 ⟨⟨v, rfl, gc1, cc1, rs1, rfl, hgc1, hcc1, hcm1, hBC1⟩, hb1⟩
  have XQ1 := Aside0.mk (XQ0.out.below hb1)
  have HSC := Aside0.mk (show Src w1 (some ⟨gc1, 0, none⟩) l.length l by have h5 := seg_src (A := some ⟨gc1, 0, none⟩) (k := 0) (m := l.length) hBC1 (by omega) (.inr (by rw [Nat.zero_mul])); rwa [List.drop_zero, List.take_of_length_le (Nat.le_refl _)] at h5)
  clear hb1 hBC1
  clear hHeld
  refine hK.out _ _ (XQ1.out) (fun hHeld => ?_)
  clear hK K
  try simp only [Act.put, List.setIfInBounds_toArray, List.set_cons_zero, List.set_cons_succ]
  refine wpAnyH_ready (rs := [11]) (by kernel_rfl) (by simp) ?_
  refine AllReadyH.cons (o := { dst := some 74, op := Op.call { callee := Callee.value (Operand.func 34), args := #[Operand.tmp 71, Operand.tmp 73], argTypes := #[39, 39] }, type := 4, pos := "law.go:115", after := #[{ on := 8, ground := Ground.data }, { on := 10, ground := Ground.data }, { on := 8, ground := Ground.chain }, { on := 6, ground := Ground.guard }], guard := some (6, false) }) rfl (fun K hK => ?_) AllReadyH.nil
  rw [if_pos (by kernel_rfl)]
  go_simp
  refine (same_calls (some ⟨gc1, 0, none⟩) l.length cc1 A n c l _ HSC.out hcc1 (HS0.out.only XQ1.out.b) hc hl1).mono ?_
  rintro e2 w2 ⟨rfl, nq2, rfl⟩
  have XQ2 := Aside0.mk (XQ1.out.drewN nq2)
  clear hHeld
  refine hK.out _ _ (XQ2.out) (fun hHeld => ?_)
  clear hK K
  try simp only [Act.put, List.setIfInBounds_toArray, List.set_cons_zero, List.set_cons_succ]
  refine takeH (i := 12) (d := 75) (v := (.bool false)) rfl rfl (by kernel_rfl) (by kernel_rfl) (by kernel_rfl) (fun _ _ _ h => h) (Or.inl ⟨by kernel_rfl, by intro w hSw; (try dsimp only at hSw); go_simp; done⟩) (by assumption) ?_
  try simp only [List.setIfInBounds_toArray, List.set_cons_zero, List.set_cons_succ]
  refine takeH (i := 13) (d := 76) (v := (.bool false)) rfl rfl (by kernel_rfl) (by kernel_rfl) (by kernel_rfl) (fun _ _ _ h => h) (Or.inl ⟨by kernel_rfl, by intro w hSw; (try dsimp only at hSw); go_simp; done⟩) (by assumption) ?_
  try simp only [List.setIfInBounds_toArray, List.set_cons_zero, List.set_cons_succ]
  refine takeH (i := 14) (d := 77) (v := (.bool false)) rfl rfl (by kernel_rfl) (by kernel_rfl) (by kernel_rfl) (fun _ _ _ h => h) (Or.inl ⟨by kernel_rfl, by intro w hSw; (try dsimp only at hSw); go_simp; done⟩) (by assumption) ?_
  try simp only [List.setIfInBounds_toArray, List.set_cons_zero, List.set_cons_succ]
  refine takeH (i := 15) (d := 78) (v := (.pointer (some ⟨g, 0, none⟩))) rfl rfl (by kernel_rfl) (by kernel_rfl) (by kernel_rfl) (fun _ _ _ h => h) (Or.inl ⟨by kernel_rfl, by intro w hSw; (try dsimp only at hSw); go_simp; done⟩) (by assumption) ?_
  try simp only [List.setIfInBounds_toArray, List.set_cons_zero, List.set_cons_succ]
  refine takeH (i := 17) (d := 80) (v := (.int .i64 (W : Int))) rfl rfl (by kernel_rfl) (by kernel_rfl) (by kernel_rfl) (fun _ _ _ h => h) (Or.inl ⟨by kernel_rfl, by intro w hSw; (try dsimp only at hSw); go_simp; done⟩) (by assumption) ?_
  try simp only [List.setIfInBounds_toArray, List.set_cons_zero, List.set_cons_succ]
  refine wpAnyH_ready (rs := [16]) (by kernel_rfl) (by simp) ?_
  refine AllReadyH.cons (o := { dst := some 79, op := Op.call { callee := Callee.value (Operand.func 15), args := #[Operand.tmp 78], argTypes := #[27] }, type := 3, pos := "law.go:115", after := #[{ on := 15, ground := Ground.data }, { on := 14, ground := Ground.chain }, { on := 14, ground := Ground.guard }], guard := some (14, false) }) rfl (fun K hK => ?_) AllReadyH.nil
  rw [if_pos (by kernel_rfl)]
  go_simp
  refine (w_calls g b W H l _ XQ2.out.i).mono ?_
  rintro e3 w3 ⟨rfl, rfl⟩
  have XQ3 := Aside0.mk (XQ2.out)
  clear hHeld
  refine hK.out _ _ (XQ3.out) (fun hHeld => ?_)
  clear hK K
  try simp only [Act.put, List.setIfInBounds_toArray, List.set_cons_zero, List.set_cons_succ]
  refine takeH (i := 18) (d := 81) (v := (.bool false)) rfl rfl (by kernel_rfl) (by kernel_rfl) (by kernel_rfl) (fun _ _ _ h => h) (Or.inl ⟨by kernel_rfl, by intro w hSw; (try dsimp only at hSw); go_simp; done⟩) (by assumption) ?_
  try simp only [List.setIfInBounds_toArray, List.set_cons_zero, List.set_cons_succ]
  refine takeH (i := 19) (d := 82) (v := (.bool false)) rfl rfl (by kernel_rfl) (by kernel_rfl) (by kernel_rfl) (fun _ _ _ h => h) (Or.inl ⟨by kernel_rfl, by intro w hSw; (try dsimp only at hSw); go_simp; done⟩) (by assumption) ?_
  try simp only [List.setIfInBounds_toArray, List.set_cons_zero, List.set_cons_succ]
  refine wpAnyH_done (by kernel_rfl) ?_ _
  have XF := XQ3
  clear hHeld
  clear XQ0 XQ1 HSC XQ2 XQ3
  generalize w1.drewN nq2 = W9 at XF ⊢
  go_wp2_with fail
  refine (gfill_calls g b W H 0 (n : Int) ⟨122, 0, 0, false, false, false⟩ l _ XF.out.i).mono ?_
  rintro e5 w5 ⟨rfl, hI5, hO5⟩
  have BX5 := Aside0.mk ((hO5.block w.heap.size (blk_lt XF.out.x) (by simp; omega)).trans XF.out.x)
  have HL5 := Aside0.mk (XF.out.l.only hO5 (by simpa using hbgm))
  have HB5 := Aside0.mk (hO5.belowOf XF.out.b XF.out.b.size (by simpa using hbw))
  clear hI5 hO5
  go_wp2_with fail
  refine (gfill0_calls 0 9 _).mono ?_
  rintro e6 w6 ⟨rfl, hb6⟩
  have BX6 := Aside0.mk (blk_below BX5.out hb6)
  have HL6 := Aside0.mk (HL5.out.below hb6)
  have HB6 := Aside0.mk (below_step HB5.out hb6)
  clear hb6
  go_wp2_with fail
  refine (up0_calls _).mono ?_
  rintro e7 w7 ⟨rfl, hb7⟩
  have BX7 := Aside0.mk (blk_below BX6.out hb7)
  have HL7 := Aside0.mk (HL6.out.below hb7)
  have HB7 := Aside0.mk (below_step HB6.out hb7)
  clear hb7
  have x2 : w7.cell? ⟨w.heap.size, 2, none⟩ = some (.slice A n c) := (blk_cell BX7.out 2).trans rfl
  go_wp2_with fail
  clear x2
  refine (stays_calls _ gm cm A n c l _ HL7.out (HS0.out.only HB7.out) hc (by omega)).mono ?_
  rintro e8 w8 ⟨rfl, n8, rfl⟩
  have BX8 : Aside0 ((w7.drewN n8).heap[w.heap.size]? = _) := ⟨BX7.out⟩
  have HB8 := Aside0.mk (pw_below_drewN HB7.out n8)
  generalize w7.drewN n8 = W8 at BX8 HB8 ⊢
  go_wp2_with fail
  refine (w0_calls _).mono ?_
  rintro e9 w9 ⟨rfl, rfl⟩
  go_wp2_with fail
  refine (h0_calls _).mono ?_
  rintro e9 w9 ⟨rfl, rfl⟩
  go_wp2_with fail
  refine (set0_calls _ _ _ _).mono ?_
  rintro e9 w9 ⟨rfl, rfl⟩
  have BX9 := Aside0.mk (blk_alloc BX8.out (.cells #[.int .i32 0, .int .i64 0, .int .i64 0, .bool false, .bool false, .bool false] 25))
  have HB9 := Aside0.mk (below_alloc HB8.out (.cells #[.int .i32 0, .int .i64 0, .int .i64 0, .bool false, .bool false, .bool false] 25))
  generalize W8.alloc (.cells #[.int .i32 0, .int .i64 0, .int .i64 0, .bool false, .bool false, .bool false] 25) = W10 at BX9 HB9 ⊢
  have hw0 : IntKind.i64.wrap 0 = 0 := by decide
  go_wp2_with fail
  refine (cells0_calls _).mono ?_
  rintro e9 w9 ⟨rfl, rfl⟩
  go_wp2_with fail
  refine (text0_calls _).mono ?_
  rintro e9 w9 ⟨rfl, rfl⟩
  go_wp2_with fail
  refine (copy0_calls _).mono ?_
  rintro e9 w9 ⟨rfl, rfl⟩
  have hn0 := eql_grid0
  go_wp2_with fail
  refine (at0_calls _).mono ?_
  rintro e9 w9 ⟨rfl, hb9⟩
  have BX10 := Aside0.mk (blk_below BX9.out hb9)
  have HB10 := Aside0.mk (below_step HB9.out hb9)
  clear hb9
  have hq0 := eq_cell 0 0 0 false false false
  have x0 : w9.cell? ⟨w.heap.size, 0, none⟩ = some (.int .i64 (W : Int)) := (blk_cell BX10.out 0).trans rfl
  have x1 : w9.cell? ⟨w.heap.size, 1, none⟩ = some (.int .i64 (H : Int)) := (blk_cell BX10.out 1).trans rfl
  have x2 : w9.cell? ⟨w.heap.size, 2, none⟩ = some (.slice A n c) := (blk_cell BX10.out 2).trans rfl
  have x3 : w9.cell? ⟨w.heap.size, 3, none⟩ = some (.int .i64 X) := (blk_cell BX10.out 3).trans rfl
  have x4 : w9.cell? ⟨w.heap.size, 4, none⟩ = some (.int .i64 Y) := (blk_cell BX10.out 4).trans rfl
  have x5 : w9.cell? ⟨w.heap.size, 5, none⟩ = some (.bool hd) := (blk_cell BX10.out 5).trans rfl
  go_wp2_with fail
  clear x0 x1 x2 x3 x4 x5
  refine (same_self W H X Y hd A n c l _ (HS0.out.only HB10.out) hc hl).mono ?_
  rintro e11 w11 ⟨rfl, hb11⟩
  have HB11 := Aside0.mk (below_step HB10.out hb11)
  clear hb11
  go_wp2
  go_ret
  exact ⟨rfl, HB11.out⟩
theorem gof_over (W H X Y : Int) (hd : Bool) (A : Option Addr) (n c : Nat) (w : World) (hl : ¬ n ≤ 1000) :
    Calls Try.prog 9 #[.agg #[.int .i64 W, .int .i64 H, .slice A n c, .int .i64 X, .int .i64 Y, .bool hd]] w fun r w' => r = .returned (.bool true) ∧ Below w.heap.size w w' := by
  have hu := Try.underlying47
  have hlI : (1000 : Int) < (n : Int) := by omega
  have HB := Aside0.mk (below_alloc (Below.refl w.heap.size w) (.cells #[.int .i64 W, .int .i64 H, .slice A n c, .int .i64 X, .int .i64 Y, .bool hd] 47))
  go_enter Try.func9, Try.ntmps9
  go_wp2_with fail
  refine (alive15 _).mono ?_
  rintro e0 w0 ⟨rfl, hb0⟩
  have HB := Aside0.mk (below_step HB.out hb0)
  clear hb0
  go_wp2
  go_ret
  exact ⟨rfl, HB.out⟩
/-- A screen that came in, whatever it is. -/
theorem gof_all (W H X Y : Int) (hd : Bool) (A : Option Addr) (c : Nat) (l : List C6) (w : World) (h : Kd.C Opens.kC w A l.length l) (hc : l.length ≤ c) :
    Calls Try.prog 9 #[.agg #[.int .i64 W, .int .i64 H, .slice A l.length c, .int .i64 X, .int .i64 Y, .bool hd]] w fun r w' => r = .returned (.bool true) ∧ Below w.heap.size w w' := by
  by_cases hl : l.length ≤ 1000
  · by_cases hb : 2 ≤ W ∧ W ≤ 40 ∧ 1 ≤ H ∧ H ≤ 20 ∧ (l.length : Int) = W * H
    · obtain ⟨h1, h2, h3, h4, h5⟩ := hb
      obtain ⟨W', rfl⟩ := Int.eq_ofNat_of_zero_le (show 0 ≤ W by omega)
      obtain ⟨H', rfl⟩ := Int.eq_ofNat_of_zero_le (show 0 ≤ H by omega)
      exact gof_ok W' H' X Y hd A l.length c l w (Opens.src_of h) hc hl (by omega) (by omega) (by omega) (by omega) (by exact_mod_cast h5)
    · exact gof_bad W H X Y hd A l.length c l w (Opens.src_of h) hc hl hb
  · exact gof_over W H X Y hd A l.length c w hl
end Go.Proofs.Ytcmmdllnbijipaa.Grd
namespace Go.Proofs.Ytcmmdllnbijipaa.Opens
open Go.RowKit Go.ChangeShapes Go.WideShapes Go.Deep Go.Proofs.YtcmmdllnbijipaaW.PrintWords Go.Proofs.Ytcmmdllnbijipaa.Grd Go.Proofs.Ytcmmdllnbijipaa.Mem
set_option maxRecDepth 100000 in
theorem open_screen {Hh : Type} {enc : TypeId × Value → Hh} {w : World} {base : Nat} {spare : Nat → Bool} {held : Bool} {rr : Reach} {b0 : Nat} {v : Value} {d : DataW Hh} {p : List MemPlace}
    (hv : Value.okWide Try.prog w rr b0 47 v) (h : DataW.Trod enc Try.prog w base spare held 47 v d p) :
    ∃ (W H X Y : Int) (hd : Bool) (A : Option Addr) (c : Nat) (l : List C6), v = .agg #[.int .i64 W, .int .i64 H, .slice A l.length c, .int .i64 X, .int .i64 Y, .bool hd] ∧ Kd.C kC w A l.length l ∧ l.length ≤ c := by
  obtain ⟨cs, rfl, hsz⟩ := okWide_struct Try.underlying47 hv
  have hC : Try.prog.cellsOf 47 = 6 := by kernel_rfl
  have hI : Try.prog.cellsOf 3 = 1 := by kernel_rfl
  have hS : Try.prog.cellsOf 39 = 1 := by kernel_rfl
  have hB : Try.prog.cellsOf 4 = 1 := by kernel_rfl
  have hE : Try.prog.cellsOf 25 = 6 := by kernel_rfl
  obtain ⟨l⟩ := cs
  match l, hsz.trans hC with
  | [c0, c1, c2, c3, c4, c5], _ =>
    obtain ⟨fuel, hf⟩ := h
    obtain ⟨xs, n, _, _, _, hlen, hg⟩ := DataW.trod_struct Try.underlying47 hf
    match xs, hlen with
    | [y0, y1, y2, y3, y4, y5], _ =>
      have g0 := hg 0 _ rfl
      have g1 := hg 1 _ rfl
      have g2 := hg 2 _ rfl
      have g3 := hg 3 _ rfl
      have g4 := hg 4 _ rfl
      have g5 := hg 5 _ rfl
      simp [Value.cells, hI, hS, hB] at g0 g1 g2 g3 g4 g5
      obtain ⟨W, q0, _⟩ := DataW.trod_int Try.underlying3 g0
      obtain ⟨H, q1, _⟩ := DataW.trod_int Try.underlying3 g1
      obtain ⟨A, c, l, q2, hlc, _, hK⟩ := opens_row Try.underlying39 hE opens_cell g2
      obtain ⟨X, q3, _⟩ := DataW.trod_int Try.underlying3 g3
      obtain ⟨Y, q4, _⟩ := DataW.trod_int Try.underlying3 g4
      obtain ⟨z, q5, _⟩ := DataW.trod_bool Try.underlying4 g5
      simp only [List.cons.injEq, and_true] at q0 q1 q2 q3 q4 q5
      subst q0 q1 q2 q3 q4 q5
      exact ⟨W, H, X, Y, z, A, c, l, rfl, hK, hlc⟩
end Go.Proofs.Ytcmmdllnbijipaa.Opens
