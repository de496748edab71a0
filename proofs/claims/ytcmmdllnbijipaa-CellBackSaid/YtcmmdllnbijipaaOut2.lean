/- What a codec.Out's calls with their values written out come to, and Text. Conditions: those in each theorem. -/
import Derived.Test.YtcmmdllnbijipaaOut
namespace Go.Proofs.Ytcmmdllnbijipaa.Obj
open Go.RowKit Go.Proofs.YtcmmdllnbijipaaW.PrintWords Go.Proofs.YtcmmdllnbijipaaW.PrintMore

theorem num1 (B g p : Nat) (bs : List Int) (e x : Int) (w : World) (hp : p = w.heap.size) (hO : IsOut B w g bs e) (hB : B ≤ w.heap.size) (hlen : bs.length ≤ 900000000000) (hx : x ≤ 9223372036854775807) :
    Calls Try.prog 109 #[.pointer (some ⟨g, 0, none⟩), .slice (some ⟨p, 0, none⟩) 1 1] (w.alloc (.cells #[.int .i64 x] 3)) fun r w' => r = .returned (.pointer (some ⟨g, 0, none⟩)) ∧ IsOut B w' g (oNum (bs, e) [x]).1 (oNum (bs, e) [x]).2 ∧ Fr B g w w' := by
  subst hp
  refine (num_calls B g bs e (some ⟨w.heap.size, 0, none⟩) 1 [x] _ (hO.alloc _) (by simp; omega) (RowAt.lit w 3 [.int .i64 x] (by simp [maxLen])) (by simp; omega) (by simpa using hx)).mono ?_
  rintro r w' ⟨rfl, h1, h2⟩
  exact ⟨rfl, h1, (Fr.alloc _ _ _ _).trans h2⟩
theorem num2 (B g p : Nat) (bs : List Int) (e x y : Int) (w : World) (hp : p = w.heap.size) (hO : IsOut B w g bs e) (hB : B ≤ w.heap.size) (hlen : bs.length ≤ 900000000000) (hx : x ≤ 9223372036854775807) (hy : y ≤ 9223372036854775807) :
    Calls Try.prog 109 #[.pointer (some ⟨g, 0, none⟩), .slice (some ⟨p, 0, none⟩) 2 2] (w.alloc (.cells #[.int .i64 x, .int .i64 y] 3)) fun r w' => r = .returned (.pointer (some ⟨g, 0, none⟩)) ∧ IsOut B w' g (oNum (bs, e) [x, y]).1 (oNum (bs, e) [x, y]).2 ∧ Fr B g w w' := by
  subst hp
  refine (num_calls B g bs e (some ⟨w.heap.size, 0, none⟩) 2 [x, y] _ (hO.alloc _) (by simp; omega) (RowAt.lit w 3 [.int .i64 x, .int .i64 y] (by simp [maxLen])) (by simp; omega) (by simpa using ⟨hx, hy⟩)).mono ?_
  rintro r w' ⟨rfl, h1, h2⟩
  exact ⟨rfl, h1, (Fr.alloc _ _ _ _).trans h2⟩
theorem num3 (B g p : Nat) (bs : List Int) (e x y z : Int) (w : World) (hp : p = w.heap.size) (hO : IsOut B w g bs e) (hB : B ≤ w.heap.size) (hlen : bs.length ≤ 900000000000) (hx : x ≤ 9223372036854775807) (hy : y ≤ 9223372036854775807) (hz : z ≤ 9223372036854775807) :
    Calls Try.prog 109 #[.pointer (some ⟨g, 0, none⟩), .slice (some ⟨p, 0, none⟩) 3 3] (w.alloc (.cells #[.int .i64 x, .int .i64 y, .int .i64 z] 3)) fun r w' => r = .returned (.pointer (some ⟨g, 0, none⟩)) ∧ IsOut B w' g (oNum (bs, e) [x, y, z]).1 (oNum (bs, e) [x, y, z]).2 ∧ Fr B g w w' := by
  subst hp
  refine (num_calls B g bs e (some ⟨w.heap.size, 0, none⟩) 3 [x, y, z] _ (hO.alloc _) (by simp; omega) (RowAt.lit w 3 [.int .i64 x, .int .i64 y, .int .i64 z] (by simp [maxLen])) (by simp; omega) (by simpa using ⟨hx, hy, hz⟩)).mono ?_
  rintro r w' ⟨rfl, h1, h2⟩
  exact ⟨rfl, h1, (Fr.alloc _ _ _ _).trans h2⟩
theorem byte1 (B g p : Nat) (bs : List Int) (e x : Int) (w : World) (hp : p = w.heap.size) (hO : IsOut B w g bs e) (hB : B ≤ w.heap.size) (hlen : bs.length ≤ 900000000000) :
    Calls Try.prog 110 #[.pointer (some ⟨g, 0, none⟩), .slice (some ⟨p, 0, none⟩) 1 1] (w.alloc (.cells #[.int .i64 x] 3)) fun r w' => r = .returned (.pointer (some ⟨g, 0, none⟩)) ∧ IsOut B w' g (oByte (bs, e) [x]).1 (oByte (bs, e) [x]).2 ∧ Fr B g w w' := by
  subst hp
  refine (byte_calls B g bs e (some ⟨w.heap.size, 0, none⟩) 1 [x] _ (hO.alloc _) (by simp; omega) (RowAt.lit w 3 [.int .i64 x] (by simp [maxLen])) (by simp) (by simp; omega)).mono ?_
  rintro r w' ⟨rfl, h1, h2⟩
  exact ⟨rfl, h1, (Fr.alloc _ _ _ _).trans h2⟩
theorem byte3 (B g p : Nat) (bs : List Int) (e x y z : Int) (w : World) (hp : p = w.heap.size) (hO : IsOut B w g bs e) (hB : B ≤ w.heap.size) (hlen : bs.length ≤ 900000000000) :
    Calls Try.prog 110 #[.pointer (some ⟨g, 0, none⟩), .slice (some ⟨p, 0, none⟩) 3 3] (w.alloc (.cells #[.int .i64 x, .int .i64 y, .int .i64 z] 3)) fun r w' => r = .returned (.pointer (some ⟨g, 0, none⟩)) ∧ IsOut B w' g (oByte (bs, e) [x, y, z]).1 (oByte (bs, e) [x, y, z]).2 ∧ Fr B g w w' := by
  subst hp
  refine (byte_calls B g bs e (some ⟨w.heap.size, 0, none⟩) 3 [x, y, z] _ (hO.alloc _) (by simp; omega) (RowAt.lit w 3 [.int .i64 x, .int .i64 y, .int .i64 z] (by simp [maxLen])) (by simp) (by simp; omega)).mono ?_
  rintro r w' ⟨rfl, h1, h2⟩
  exact ⟨rfl, h1, (Fr.alloc _ _ _ _).trans h2⟩
/-- Text, from a state on. -/
def oText : List Int × Int → List ByteArray → List Int × Int
  | s, [] => s
  | s, x :: xs => oText (oRaw (oNum s [(x.size : Int)]) [x]) xs
theorem oNum_len1 (bs : List Int) (e : Int) (x : Int) (hx : x ≤ 9223372036854775807) : (oNum (bs, e) [x]).1.length ≤ bs.length + 9 := by
  simp only [oNum]
  by_cases he : e ≠ 0
  · rw [if_pos he]; simp
  · rw [if_neg he]
    by_cases h0 : x < 0
    · rw [if_pos h0]; simp
    · rw [if_neg h0]
      have := numB_len9 (v := x.toNat) (by omega)
      simp; omega
theorem oRaw_len1 (bs : List Int) (e : Int) (x : ByteArray) : (oRaw (bs, e) [x]).1.length ≤ bs.length + x.size := by
  simp only [oRaw]
  by_cases he : e ≠ 0
  · rw [if_pos he]; simp
  · rw [if_neg he]; simp [bytesOf_length]
end Go.Proofs.Ytcmmdllnbijipaa.Obj
