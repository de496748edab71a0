/- What a writer that has no error comes to, and the first call of chapter 1's laws answers true. Conditions: those in each theorem. -/
import Derived.Test.YtheieigeipppnaaOut2
import Derived.Test.YtheieigeipppnaaInNum
namespace Go.Proofs.Ytheieigeipppnaa.Obj
open Go.RowKit Go.Proofs.YtheieigeipppnaaW.PrintWords Go.Proofs.YtheieigeipppnaaW.PrintMore

theorem oNum_ok : ∀ (xs : List Int) (bs : List Int), (∀ x ∈ xs, 0 ≤ x) → oNum (bs, 0) xs = (bs ++ xs.flatMap (fun x => numB x.toNat), 0)
  | [], bs, _ => by simp [oNum]
  | x :: xs, bs, h => by
    have h0 : 0 ≤ x := h x (by simp)
    rw [oNum, if_neg (by simp), if_neg (by omega), oNum_ok xs _ (fun y hy => h y (by simp [hy]))]
    simp
theorem oRaw_ok : ∀ (xs : List ByteArray) (bs : List Int), oRaw (bs, 0) xs = (bs ++ xs.flatMap bytesOf, 0)
  | [], bs => by simp [oRaw]
  | x :: xs, bs => by
    rw [oRaw, if_neg (by simp), oRaw_ok xs _]
    simp
theorem oText_ok : ∀ (xs : List ByteArray) (bs : List Int), oText (bs, 0) xs = (bs ++ xs.flatMap (fun s => numB s.size ++ bytesOf s), 0)
  | [], bs => by simp [oText]
  | x :: xs, bs => by
    rw [oText, oNum_ok _ _ (by simp), oRaw_ok, oText_ok xs _]
    simp
theorem oByte_ok : ∀ (xs : List Int) (bs : List Int), (∀ x ∈ xs, 0 ≤ x ∧ x ≤ 255) → oByte (bs, 0) xs = (bs ++ xs, 0)
  | [], bs, _ => by simp [oByte]
  | x :: xs, bs, h => by
    have h0 := h x (by simp)
    rw [oByte, if_neg (by simp), if_neg (by omega), oByte_ok xs _ (fun y hy => h y (by simp [hy]))]
    simp
theorem Fr.belowOf {B g : Nat} {w0 w w' : World} (h : Fr B g w w') (hb : Below B w0 w) (hB : B ≤ w.heap.size) (hg : B ≤ g) : Below B w0 w' := hb.trans (h.toBelow hB hg)
theorem Fg.belowOf {B g : Nat} {w0 w w' : World} (h : Fg g w w') (hb : Below B w0 w) (hB : B ≤ w.heap.size) (hg : B ≤ g) : Below B w0 w' := hb.trans (h.toBelow hB hg)

theorem a1_bytes : strOfNums (([] ++ [(1 : Int), 300].flatMap (fun x => numB x.toNat)) ++ [(⟨#[97]⟩ : ByteArray)].flatMap (fun s => numB s.size ++ bytesOf s)) = ⟨#[1, 172, 2, 1, 97]⟩ := by
  have h1 : numB 1 = [1] := numB_small (by decide)
  have h2 : numB 300 = [172, 2] := by rw [numB_great (by decide), numB_small (by decide)]; rfl
  have h3 : (⟨#[97]⟩ : ByteArray).size = 1 := rfl
  simp only [List.flatMap_cons, List.flatMap_nil, List.append_nil, List.nil_append, h3]
  show strOfNums ((numB 1 ++ numB 300) ++ (numB 1 ++ bytesOf ⟨#[97]⟩)) = _
  rw [h1, h2]
  decide +kernel
set_option maxHeartbeats 4000000 in
set_option maxRecDepth 100000 in
theorem alive1 (w : World) : Calls Try.prog 18 #[] w fun r w' => r = .returned (.bool true) ∧ Below w.heap.size w w' := by
  have HO0 := Aside0.mk (IsOut.new (B := w.heap.size) w)
  have HB0 := Aside0.mk (below_alloc (Below.refl w.heap.size w) (.cells #[.slice none 0 0, .int .i64 0] 33))
  go_enter Try.func18, Try.ntmps18
  go_wp2_with fail
  refine (num2 w.heap.size w.heap.size _ [] 0 1 300 (w.alloc _) (by simp) HO0.out (by simp) (by simp) (by omega) (by omega)).mono ?_
  rw [oNum_ok _ _ (by simp)]
  rintro e1 w1 ⟨rfl, hO1, hF1⟩
  have hs1 := hF1.size
  simp only [World.size_alloc] at hs1
  have HO1 := Aside0.mk hO1
  have HB1 := Aside0.mk (hF1.belowOf HB0.out (by simp) (Nat.le_refl _))
  clear hO1 hF1
  go_wp2_with fail
  refine (text1 w.heap.size w.heap.size _ _ 0 ⟨#[97]⟩ w1 rfl HO1.out (by omega) (by simp [numB_small, numB_great]; decide)).mono ?_
  rw [oText_ok]
  rintro e2 w2 ⟨rfl, hO2, hF2⟩
  have hs2 := hF2.size
  have HO2 := Aside0.mk hO2
  have HB2 := Aside0.mk (hF2.belowOf HB1.out (by omega) (Nat.le_refl _))
  clear hO2 hF2
  go_wp2_with fail
  refine (end_ok w.heap.size w.heap.size _ w2 HO2.out).mono ?_
  rw [a1_bytes]
  rintro e3 w3 ⟨rfl, rfl⟩
  go_wp2_with fail
  refine (on_calls _ w2).mono ?_
  rintro e4 w4 ⟨rfl, rfl⟩
  have hn := eql_in ⟨w2.heap.size, 0, none⟩
  have HI4 := Aside0.mk (show IsIn (w2.alloc (.cells #[.string ⟨#[1, 172, 2, 1, 97]⟩, .int .i64 0] 76)) w2.heap.size ⟨#[1, 172, 2, 1, 97]⟩ 0 from heap_alloc_new w2 _)
  have HB4 := Aside0.mk (HB2.out.trans ((Fg.alloc w2.heap.size w2 (.cells #[.string ⟨#[1, 172, 2, 1, 97]⟩, .int .i64 0] 76)).toBelow (B := w.heap.size) (by omega) (by omega)))
  go_wp2_with fail
  refine (inum_calls w2.heap.size _ 0 _ HI4.out (by decide)).mono ?_
  rw [show iNum ⟨#[1, 172, 2, 1, 97]⟩ 0 = (1, ⟨#[172, 2, 1, 97]⟩, 0) by decide +kernel]
  rintro e5 w5 ⟨rfl, hI5, hF5⟩
  have hs5 := hF5.size
  simp only [World.size_alloc] at hs5
  have HI5 := Aside0.mk hI5
  have HB5 := Aside0.mk (hF5.belowOf HB4.out (by simp; omega) (show w.heap.size ≤ w2.heap.size by omega))
  clear hI5 hF5
  go_wp2_with fail
  refine (inum_calls w2.heap.size _ 0 _ HI5.out (by decide)).mono ?_
  rw [show iNum ⟨#[172, 2, 1, 97]⟩ 0 = (300, ⟨#[1, 97]⟩, 0) by decide +kernel]
  rintro e6 w6 ⟨rfl, hI6, hF6⟩
  have hs6 := hF6.size
  have HI6 := Aside0.mk hI6
  have HB6 := Aside0.mk (hF6.belowOf HB5.out (by omega) (show w.heap.size ≤ w2.heap.size by omega))
  clear hI6 hF6
  go_wp2_with fail
  refine (itext_calls w2.heap.size _ 0 _ HI6.out (by decide)).mono ?_
  rw [show iNum ⟨#[1, 97]⟩ 0 = (1, ⟨#[97]⟩, 0) by decide +kernel]
  rw [show iRaw (1, (⟨#[97]⟩ : ByteArray), (0 : Int)).2.1 (1, (⟨#[97]⟩ : ByteArray), (0 : Int)).2.2 (((1, (⟨#[97]⟩ : ByteArray), (0 : Int)).1 : Nat) : Int) = (⟨#[97]⟩, ⟨#[]⟩, 0) by decide +kernel]
  rintro e7 w7 ⟨rfl, hI7, hF7⟩
  have hs7 := hF7.size
  have HI7 := Aside0.mk hI7
  have HB7 := Aside0.mk (hF7.belowOf HB6.out (by omega) (show w.heap.size ≤ w2.heap.size by omega))
  clear hI7 hF7
  go_wp2_with fail
  refine (iend_calls w2.heap.size _ 0 _ HI7.out).mono ?_
  rw [if_pos rfl, if_pos (by decide)]
  rintro e8 w8 ⟨rfl, hI8, hF8⟩
  have HB8 := Aside0.mk (hF8.belowOf HB7.out (by omega) (show w.heap.size ≤ w2.heap.size by omega))
  clear hI8 hF8
  go_wp2
  go_ret
  exact ⟨rfl, HB8.out⟩
end Go.Proofs.Ytheieigeipppnaa.Obj
