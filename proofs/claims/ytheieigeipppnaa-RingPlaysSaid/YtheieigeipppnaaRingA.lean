/- A ring's bytes as lists, its calls with one text, and the first call of chapter 2's laws answers true. Conditions: those in each theorem. -/
import Derived.Test.YtheieigeipppnaaRing
namespace Go.Proofs.Ytheieigeipppnaa.Obj
open Go.RowKit Go.Proofs.YtheieigeipppnaaW.PrintWords Go.Proofs.YtheieigeipppnaaW.PrintMore
theorem Fg.upOf {B g : Nat} {w0 w w' : World} (h : Fg g w w') (hb : Below B w0 w) (hB : B ≤ w.heap.size) (hg : B ≤ g) : Below B w0 w' := hb.trans (h.toBelow hB hg)
/-- A text's bytes. -/
def dl (s : ByteArray) : List UInt8 := s.data.toList
theorem dl_len (s : ByteArray) : (dl s).length = s.size := by unfold dl; rw [Array.length_toList]; rfl
theorem dl_ext {a b : ByteArray} (h : dl a = dl b) : a = b := by
  apply ByteArray.ext
  exact Array.toList_inj.1 h
theorem dl_app (a b : ByteArray) : dl (a ++ b) = dl a ++ dl b := by simp [dl]
theorem dl_take (s : ByteArray) (n : Nat) : dl (s.extract 0 n) = (dl s).take n := by simp [dl]
theorem dl_drop (s : ByteArray) (n : Nat) : dl (s.extract n s.size) = (dl s).drop n := by
  simp [dl]
  rw [List.take_of_length_le (by rw [List.length_drop, Array.length_toList]; exact Nat.le_refl _)]
theorem dl_nil : dl ⟨#[]⟩ = [] := rfl
theorem join_one (x : ByteArray) : joinS [x] = x := by
  apply dl_ext
  simp [dl, joinS, Lib.join_one]
theorem rPeek_size' (b : ByteArray) (n : Int) : (rPeek b n).size = min n.toNat b.size := by
  unfold rPeek
  by_cases h : n < 0
  · rw [if_pos h]
    have : n.toNat = 0 := by omega
    rw [this]
    simp
    rfl
  · rw [if_neg h]
    by_cases h1 : (b.size : Int) < n
    · rw [if_pos h1]; omega
    · rw [if_neg h1]; simp
theorem dl_peek (b : ByteArray) (n : Int) : dl (rPeek b n) = (dl b).take n.toNat := by
  unfold rPeek
  by_cases h : n < 0
  · rw [if_pos h]
    have : n.toNat = 0 := by omega
    rw [this]
    rfl
  · rw [if_neg h]
    by_cases h1 : (b.size : Int) < n
    · rw [if_pos h1, List.take_of_length_le (by rw [dl_len]; omega)]
    · rw [if_neg h1, dl_take]
theorem dl_rdrop (b : ByteArray) (n : Int) : dl (rDrop b n) = (dl b).drop n.toNat := by
  unfold rDrop
  rw [dl_drop, rPeek_size']
  by_cases h : n.toNat ≤ b.size
  · rw [Nat.min_eq_left h]
  · rw [Nat.min_eq_right (by omega), List.drop_of_length_le (by rw [dl_len]; omega), List.drop_of_length_le (by rw [dl_len]; omega)]
theorem rDrop_size (b : ByteArray) (n : Int) : (rDrop b n).size = b.size - n.toNat := by rw [← dl_len, dl_rdrop, List.length_drop, dl_len]
theorem dl_put (room : Nat) (b j : ByteArray) : dl (rPut room b j) = (dl j).take (room - b.size) := by
  unfold rPut
  split
  · rw [dl_take]
  · rw [List.take_of_length_le (by rw [dl_len]; omega)]
theorem rPut_size' (room : Nat) (b j : ByteArray) : (rPut room b j).size = min (room - b.size) j.size := by rw [← dl_len, dl_put, List.length_take, dl_len]
theorem cell_lit1 (w : World) (x : ByteArray) (j : Nat) (y : ByteArray) (h : [x][j]? = some y) : (w.alloc (.cells #[.string x] 9)).cell? ⟨w.heap.size, 0 + j, none⟩ = some (.string y) := by
  rw [cell_of_row _ _ _ _ _ _ (heap_alloc_new w _)]
  match j, h with
  | 0, h => simp at h; subst h; rfl
theorem cell_lit2 (w : World) (x x' : ByteArray) (j : Nat) (y : ByteArray) (h : [x, x'][j]? = some y) : (w.alloc (.cells #[.string x, .string x'] 9)).cell? ⟨w.heap.size, 0 + j, none⟩ = some (.string y) := by
  rw [cell_of_row _ _ _ _ _ _ (heap_alloc_new w _)]
  match j, h with
  | 0, h => simp at h; subst h; rfl
  | 1, h => simp at h; subst h; rfl
theorem rput1 (g p room : Nat) (b x : ByteArray) (w : World) (hp : p = w.heap.size) (h : IsRing w g room b) (h0 : b.size ≤ room) (h1 : room ≤ 100000) (hx : x.size ≤ 140737488355328) :
    Calls Try.prog 15 #[.pointer (some ⟨g, 0, none⟩), .slice (some ⟨p, 0, none⟩) 1 1] (w.alloc (.cells #[.string x] 9)) fun r w' => r = .returned (.int .i64 (rPut room b x).size) ∧ IsRing w' g room (b ++ rPut room b x) ∧ Fg g w w' := by
  subst hp
  have hj := join_one x
  refine (rput_calls g 0 w.heap.size 1 room b [x] _ (h.alloc _) h0 h1 (cell_lit1 w x) (by simp) (by simp) (by simp) (by rw [hj]; exact hx)).mono ?_
  rw [hj]
  rintro r w' ⟨rfl, h2, h3⟩
  exact ⟨rfl, h2, (Fg.alloc _ _ _).trans h3⟩
theorem rput2 (g p room : Nat) (b x x' : ByteArray) (w : World) (hp : p = w.heap.size) (h : IsRing w g room b) (h0 : b.size ≤ room) (h1 : room ≤ 100000) (hx : (joinS [x, x']).size ≤ 140737488355328) :
    Calls Try.prog 15 #[.pointer (some ⟨g, 0, none⟩), .slice (some ⟨p, 0, none⟩) 2 2] (w.alloc (.cells #[.string x, .string x'] 9)) fun r w' => r = .returned (.int .i64 (rPut room b (joinS [x, x'])).size) ∧ IsRing w' g room (b ++ rPut room b (joinS [x, x'])) ∧ Fg g w w' := by
  subst hp
  refine (rput_calls g 0 w.heap.size 2 room b [x, x'] _ (h.alloc _) h0 h1 (cell_lit2 w x x') (by simp) (by simp) (by simp) hx).mono ?_
  rintro r w' ⟨rfl, h2, h3⟩
  exact ⟨rfl, h2, (Fg.alloc _ _ _).trans h3⟩
theorem rall1 (g p room : Nat) (b x : ByteArray) (w : World) (hp : p = w.heap.size) (h : IsRing w g room b) (h0 : b.size ≤ room) (h1 : room ≤ 100000) (hx : x.size ≤ 140737488355328) :
    Calls Try.prog 29 #[.pointer (some ⟨g, 0, none⟩), .slice (some ⟨p, 0, none⟩) 1 1] (w.alloc (.cells #[.string x] 9)) fun r w' => r = .returned (.bool (rAllOk room b x)) ∧ IsRing w' g room (rAllV room b x) ∧ Fg g w w' := by
  subst hp
  have hj := join_one x
  refine (rall2_calls g 0 w.heap.size 1 room b [x] _ (h.alloc _) h0 h1 (cell_lit1 w x) (by simp) (by simp) (by simp) (by rw [hj]; exact hx)).mono ?_
  rw [hj]
  rintro r w' ⟨rfl, h2, h3⟩
  exact ⟨rfl, h2, (Fg.alloc _ _ _).trans h3⟩
set_option maxHeartbeats 4000000 in
set_option maxRecDepth 100000 in
theorem alive2 (w : World) : Calls Try.prog 13 #[] w fun r w' => r = .returned (.bool true) ∧ Below w.heap.size w w' := by
  have hn := eql_ring ⟨w.heap.size, 0, none⟩
  have HI0 := Aside0.mk (show IsRing (w.alloc (.cells #[.int .i64 ((3 : Nat) : Int), .string ⟨#[]⟩] 71)) w.heap.size 3 ⟨#[]⟩ from heap_alloc_new w _)
  have HB0 := Aside0.mk (below_alloc (Below.refl w.heap.size w) (.cells #[.int .i64 ((3 : Nat) : Int), .string ⟨#[]⟩] 71))
  go_enter Try.func13, Try.ntmps13
  go_wp2_with fail
  refine (rnew_calls 3 w).mono ?_
  rw [show roomOf 3 = 3 by decide]
  rintro e0 w0 ⟨rfl, rfl⟩
  go_wp2_with fail
  refine (rput2 w.heap.size _ 3 ⟨#[]⟩ ⟨#[97, 98]⟩ ⟨#[99, 100]⟩ _ (by simp) HI0.out (by decide) (by decide) (by decide)).mono ?_
  rw [show rPut 3 ⟨#[]⟩ (joinS [⟨#[97, 98]⟩, ⟨#[99, 100]⟩]) = ⟨#[97, 98, 99]⟩ by decide +kernel]
  rintro e1 w1 ⟨rfl, hI, hF⟩
  have hs1 := hF.size
  simp only [World.size_alloc] at hs1
  have HI1 := Aside0.mk (show IsRing w1 w.heap.size 3 ⟨#[97, 98, 99]⟩ from hI)
  have HB1 := Aside0.mk (hF.upOf HB0.out (by simp) (Nat.le_refl _))
  clear hI hF
  go_wp2_with fail
  refine (rtake_calls w.heap.size 3 _ 2 _ HI1.out (by decide)).mono ?_
  rw [show rPeek ⟨#[97, 98, 99]⟩ 2 = ⟨#[97, 98]⟩ by decide +kernel, show rDrop ⟨#[97, 98, 99]⟩ 2 = ⟨#[99]⟩ by decide +kernel]
  rintro e2 w2 ⟨rfl, hI, hF⟩
  have hs2 := hF.size
  have HI2 := Aside0.mk hI
  have HB2 := Aside0.mk (hF.upOf HB1.out (by omega) (Nat.le_refl _))
  clear hI hF
  go_wp2_with fail
  refine (rput1 w.heap.size _ 3 ⟨#[99]⟩ ⟨#[120, 121, 122]⟩ _ rfl HI2.out (by decide) (by decide) (by decide)).mono ?_
  rw [show rPut 3 ⟨#[99]⟩ ⟨#[120, 121, 122]⟩ = ⟨#[120, 121]⟩ by decide +kernel]
  rintro e3 w3 ⟨rfl, hI, hF⟩
  have hs3 := hF.size
  have HI3 := Aside0.mk (show IsRing w3 w.heap.size 3 ⟨#[99, 120, 121]⟩ from hI)
  have HB3 := Aside0.mk (hF.upOf HB2.out (by omega) (Nat.le_refl _))
  clear hI hF
  go_wp2_with fail
  refine (rtake_calls w.heap.size 3 _ 9 _ HI3.out (by decide)).mono ?_
  rw [show rPeek ⟨#[99, 120, 121]⟩ 9 = ⟨#[99, 120, 121]⟩ by decide +kernel, show rDrop ⟨#[99, 120, 121]⟩ 9 = ⟨#[]⟩ by decide +kernel]
  rintro e4 w4 ⟨rfl, hI, hF⟩
  have hs4 := hF.size
  have HI4 := Aside0.mk hI
  have HB4 := Aside0.mk (hF.upOf HB3.out (by omega) (Nat.le_refl _))
  clear hI hF
  go_wp2_with fail
  refine (rroom_calls w.heap.size 3 _ _ HI4.out (by decide) (by decide)).mono ?_
  rintro e5 w5 ⟨rfl, n5, rfl⟩
  go_wp2
  go_ret
  exact ⟨rfl, pw_below_drewN HB4.out n5⟩
end Go.Proofs.Ytheieigeipppnaa.Obj
