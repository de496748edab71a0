/- What a codec.Out's calls with their values written out come to, and Text. Conditions: those in each theorem. -/
import Derived.Test.YtheieigeipppnaaOut
namespace Go.Proofs.Ytheieigeipppnaa.Obj
open Go.RowKit Go.Proofs.YtheieigeipppnaaW.PrintWords Go.Proofs.YtheieigeipppnaaW.PrintMore

theorem num1 (B g p : Nat) (bs : List Int) (e x : Int) (w : World) (hp : p = w.heap.size) (hO : IsOut B w g bs e) (hB : B ≤ w.heap.size) (hlen : bs.length ≤ 900000000000) (hx : x ≤ 9223372036854775807) :
    Calls Try.prog 19 #[.pointer (some ⟨g, 0, none⟩), .slice (some ⟨p, 0, none⟩) 1 1] (w.alloc (.cells #[.int .i64 x] 3)) fun r w' => r = .returned (.pointer (some ⟨g, 0, none⟩)) ∧ IsOut B w' g (oNum (bs, e) [x]).1 (oNum (bs, e) [x]).2 ∧ Fr B g w w' := by
  subst hp
  refine (num_calls B g bs e (some ⟨w.heap.size, 0, none⟩) 1 [x] _ (hO.alloc _) (by simp; omega) (RowAt.lit w 3 [.int .i64 x] (by simp [maxLen])) (by simp; omega) (by simpa using hx)).mono ?_
  rintro r w' ⟨rfl, h1, h2⟩
  exact ⟨rfl, h1, (Fr.alloc _ _ _ _).trans h2⟩
theorem num2 (B g p : Nat) (bs : List Int) (e x y : Int) (w : World) (hp : p = w.heap.size) (hO : IsOut B w g bs e) (hB : B ≤ w.heap.size) (hlen : bs.length ≤ 900000000000) (hx : x ≤ 9223372036854775807) (hy : y ≤ 9223372036854775807) :
    Calls Try.prog 19 #[.pointer (some ⟨g, 0, none⟩), .slice (some ⟨p, 0, none⟩) 2 2] (w.alloc (.cells #[.int .i64 x, .int .i64 y] 3)) fun r w' => r = .returned (.pointer (some ⟨g, 0, none⟩)) ∧ IsOut B w' g (oNum (bs, e) [x, y]).1 (oNum (bs, e) [x, y]).2 ∧ Fr B g w w' := by
  subst hp
  refine (num_calls B g bs e (some ⟨w.heap.size, 0, none⟩) 2 [x, y] _ (hO.alloc _) (by simp; omega) (RowAt.lit w 3 [.int .i64 x, .int .i64 y] (by simp [maxLen])) (by simp; omega) (by simpa using ⟨hx, hy⟩)).mono ?_
  rintro r w' ⟨rfl, h1, h2⟩
  exact ⟨rfl, h1, (Fr.alloc _ _ _ _).trans h2⟩
theorem num3 (B g p : Nat) (bs : List Int) (e x y z : Int) (w : World) (hp : p = w.heap.size) (hO : IsOut B w g bs e) (hB : B ≤ w.heap.size) (hlen : bs.length ≤ 900000000000) (hx : x ≤ 9223372036854775807) (hy : y ≤ 9223372036854775807) (hz : z ≤ 9223372036854775807) :
    Calls Try.prog 19 #[.pointer (some ⟨g, 0, none⟩), .slice (some ⟨p, 0, none⟩) 3 3] (w.alloc (.cells #[.int .i64 x, .int .i64 y, .int .i64 z] 3)) fun r w' => r = .returned (.pointer (some ⟨g, 0, none⟩)) ∧ IsOut B w' g (oNum (bs, e) [x, y, z]).1 (oNum (bs, e) [x, y, z]).2 ∧ Fr B g w w' := by
  subst hp
  refine (num_calls B g bs e (some ⟨w.heap.size, 0, none⟩) 3 [x, y, z] _ (hO.alloc _) (by simp; omega) (RowAt.lit w 3 [.int .i64 x, .int .i64 y, .int .i64 z] (by simp [maxLen])) (by simp; omega) (by simpa using ⟨hx, hy, hz⟩)).mono ?_
  rintro r w' ⟨rfl, h1, h2⟩
  exact ⟨rfl, h1, (Fr.alloc _ _ _ _).trans h2⟩
theorem byte1 (B g p : Nat) (bs : List Int) (e x : Int) (w : World) (hp : p = w.heap.size) (hO : IsOut B w g bs e) (hB : B ≤ w.heap.size) (hlen : bs.length ≤ 900000000000) :
    Calls Try.prog 46 #[.pointer (some ⟨g, 0, none⟩), .slice (some ⟨p, 0, none⟩) 1 1] (w.alloc (.cells #[.int .i64 x] 3)) fun r w' => r = .returned (.pointer (some ⟨g, 0, none⟩)) ∧ IsOut B w' g (oByte (bs, e) [x]).1 (oByte (bs, e) [x]).2 ∧ Fr B g w w' := by
  subst hp
  refine (byte_calls B g bs e (some ⟨w.heap.size, 0, none⟩) 1 [x] _ (hO.alloc _) (by simp; omega) (RowAt.lit w 3 [.int .i64 x] (by simp [maxLen])) (by simp) (by simp; omega)).mono ?_
  rintro r w' ⟨rfl, h1, h2⟩
  exact ⟨rfl, h1, (Fr.alloc _ _ _ _).trans h2⟩
theorem byte3 (B g p : Nat) (bs : List Int) (e x y z : Int) (w : World) (hp : p = w.heap.size) (hO : IsOut B w g bs e) (hB : B ≤ w.heap.size) (hlen : bs.length ≤ 900000000000) :
    Calls Try.prog 46 #[.pointer (some ⟨g, 0, none⟩), .slice (some ⟨p, 0, none⟩) 3 3] (w.alloc (.cells #[.int .i64 x, .int .i64 y, .int .i64 z] 3)) fun r w' => r = .returned (.pointer (some ⟨g, 0, none⟩)) ∧ IsOut B w' g (oByte (bs, e) [x, y, z]).1 (oByte (bs, e) [x, y, z]).2 ∧ Fr B g w w' := by
  subst hp
  refine (byte_calls B g bs e (some ⟨w.heap.size, 0, none⟩) 3 [x, y, z] _ (hO.alloc _) (by simp; omega) (RowAt.lit w 3 [.int .i64 x, .int .i64 y, .int .i64 z] (by simp [maxLen])) (by simp) (by simp; omega)).mono ?_
  rintro r w' ⟨rfl, h1, h2⟩
  exact ⟨rfl, h1, (Fr.alloc _ _ _ _).trans h2⟩
theorem raw1 (B g p : Nat) (bs : List Int) (e : Int) (x : ByteArray) (w : World) (hp : p = w.heap.size) (hO : IsOut B w g bs e) (hB : B ≤ w.heap.size) (hlen : bs.length + x.size ≤ 1000000000000) :
    Calls Try.prog 48 #[.pointer (some ⟨g, 0, none⟩), .slice (some ⟨p, 0, none⟩) 1 1] (w.alloc (.cells #[.string x] 9)) fun r w' => r = .returned (.pointer (some ⟨g, 0, none⟩)) ∧ IsOut B w' g (oRaw (bs, e) [x]).1 (oRaw (bs, e) [x]).2 ∧ Fr B g w w' := by
  subst hp
  refine (raw_calls B g bs e (some ⟨w.heap.size, 0, none⟩) 1 [x] _ (hO.alloc _) (by simp; omega) (RowAt.lit w 9 [.string x] (by simp [maxLen])) (by simpa [sumS] using hlen)).mono ?_
  rintro r w' ⟨rfl, h1, h2⟩
  exact ⟨rfl, h1, (Fr.alloc _ _ _ _).trans h2⟩

/-- Text, from a state on. -/
def oText : List Int × Int → List ByteArray → List Int × Int
  | s, [] => s
  | s, x :: xs => oText (oRaw (oNum s [(x.size : Int)]) [x]) xs
theorem oNum_len1 (bs : List Int) (e : Int) (x : Int) (hx : x ≤ 9223372036854775807) : (oNum (bs, e) [x]).1.length ≤ bs.length + 9 := by
  simp only [oNum]
  by_cases he : e ≠ 0
  · rw [if_pos he]; simp
  · rw [if_neg he]
    by_cases h0 : x < 0
    · rw [if_pos h0]; simp
    · rw [if_neg h0]
      have := numB_len9 (v := x.toNat) (by omega)
      simp; omega
theorem oRaw_len1 (bs : List Int) (e : Int) (x : ByteArray) : (oRaw (bs, e) [x]).1.length ≤ bs.length + x.size := by
  simp only [oRaw]
  by_cases he : e ≠ 0
  · rw [if_pos he]; simp
  · rw [if_neg he]; simp [bytesOf_length]
set_option maxHeartbeats 4000000 in
set_option maxRecDepth 100000 in
theorem text_calls' (B g b off : Nat) (bs : List Int) (e : Int) (cap : Nat) (xs : List ByteArray) (w : World) (hO : IsOut B w g bs e) (hB : B ≤ w.heap.size) (hx : RowAt w (some ⟨b, off, none⟩) 9 (pw_strs xs))
    (hlen : bs.length + sumS xs + 9 * xs.length ≤ 900000000000) :
    Calls Try.prog 20 #[.pointer (some ⟨g, 0, none⟩), .slice (some ⟨b, off, none⟩) xs.length cap] w fun r w' => r = .returned (.pointer (some ⟨g, 0, none⟩)) ∧ IsOut B w' g (oText (bs, e) xs).1 (oText (bs, e) xs).2 ∧ Fr B g w w' := by
  have HO := Aside0.mk hO
  have HX := Aside0.mk hx
  have hxl : xs.length ≤ 9223372036854775807 := by have := hx.1; simpa [pw_strs, maxLen] using this
  clear hO hx
  go_enter Try.func20, Try.ntmps20
  go_wp2
  go_loopg [9] xs.length (fun kq v9 wr => ∃ (k : Nat) (bk : List Int) (ek : Int), v9 = .int .i64 k ∧ Aside0 (k ≤ xs.length ∧ kq = xs.length - k) ∧ Aside0 (IsOut B wr g bk ek ∧ Fr B g w wr ∧ oText (bk, ek) (xs.drop k) = oText (bs, e) xs ∧ bk.length + sumS (xs.drop k) + 9 * (xs.length - k) ≤ 900000000000))
  case atStart => exact ⟨0, bs, e, rfl, ⟨Nat.zero_le _, rfl⟩, ⟨HO.out, Fr.refl _ _ _, by simp, by simpa using hlen⟩⟩
  case round =>
    obtain ⟨k, bk, ek, rfl, ⟨hk, hkq⟩, ⟨hO, hF, hS, hL⟩⟩ := hrel
    obtain ⟨ko, rfl⟩ : ∃ ko : Nat, ko = gk := ⟨_, rfl⟩
    have HS := Aside0.mk hS
    have HQ := Aside0.mk hkq
    clear hS hkq
    by_cases hlt : k < xs.length
    · obtain ⟨x, hxk⟩ : ∃ x, xs[k]? = some x := ⟨xs[k], by simp [hlt]⟩
      obtain ⟨b', off', hA, hc⟩ := (HX.out.frame hF (by decide) (fun cs fr => HO.out.ne (by decide) cs fr)).at_ k (.string x) (by simp [pw_strs, hxk])
      obtain ⟨rfl, rfl⟩ : b = b' ∧ off = off' := by simpa using hA
      clear hA
      have hL2 : bk.length + (x.size + sumS (xs.drop (k + 1))) + 9 * (xs.length - k) ≤ 900000000000 := by rw [drop_at hxk] at hL; simpa [sumS] using hL
      have HK := Aside0.mk hxk
      clear hxk hL
      have hsz := hF.size
      have HO1 := Aside0.mk hO
      have HF := Aside0.mk hF
      clear hO hF
      have hn1 := oNum_len1 bk ek (x.size : Int) (by omega)
      go_wp2_with fail
      refine (num1 B g _ bk ek _ wr rfl HO1.out (by omega) (by omega) (by omega)).mono ?_
      rintro e1 w1 ⟨rfl, hO1, hF1⟩
      have hsz1 := hF1.size
      have hr1 := oRaw_len1 (oNum (bk, ek) [(x.size : Int)]).1 (oNum (bk, ek) [(x.size : Int)]).2 x
      have HO2 := Aside0.mk hO1
      have HF2 := Aside0.mk hF1
      clear hO1 hF1
      go_wp2_with fail
      refine (raw1 B g _ _ _ x w1 rfl HO2.out (by omega) (by omega)).mono ?_
      rintro e2 w2 ⟨rfl, hO2, hF2⟩
      have HO3 := Aside0.mk hO2
      have HF3 := Aside0.mk hF2
      clear hO2 hF2
      go_wp2
      go_roundg (ko - 1)
      case measure => have := HQ.out; omega
      case rel =>
        have hs := HS.out
        rw [drop_at HK.out, oText] at hs
        exact ⟨k + 1, _, _, by go_num, ⟨by omega, by have := HQ.out; omega⟩, ⟨HO3.out, (HF.out.trans HF2.out).trans HF3.out, hs, by have hr2 : (oRaw (oNum (bk, ek) [(x.size : Int)]) [x]).1.length ≤ (oNum (bk, ek) [(x.size : Int)]).1.length + x.size := hr1; omega⟩⟩
    · go_wp2
      go_ret
      have hs := HS.out
      rw [List.drop_of_length_le (by omega)] at hs
      simp only [oText] at hs
      rw [← hs]
      exact ⟨rfl, hO, hF⟩
theorem text1 (B g p : Nat) (bs : List Int) (e : Int) (x : ByteArray) (w : World) (hp : p = w.heap.size) (hO : IsOut B w g bs e) (hB : B ≤ w.heap.size) (hlen : bs.length + x.size ≤ 800000000000) :
    Calls Try.prog 20 #[.pointer (some ⟨g, 0, none⟩), .slice (some ⟨p, 0, none⟩) 1 1] (w.alloc (.cells #[.string x] 9)) fun r w' => r = .returned (.pointer (some ⟨g, 0, none⟩)) ∧ IsOut B w' g (oText (bs, e) [x]).1 (oText (bs, e) [x]).2 ∧ Fr B g w w' := by
  subst hp
  refine (text_calls' B g w.heap.size 0 bs e 1 [x] _ (hO.alloc _) (by simp; omega) (RowAt.lit w 9 [.string x] (by simp [maxLen])) (by simp [sumS]; omega)).mono ?_
  rintro r w' ⟨rfl, h1, h2⟩
  exact ⟨rfl, h1, (Fr.alloc _ _ _ _).trans h2⟩
theorem text2 (B g p : Nat) (bs : List Int) (e : Int) (x y : ByteArray) (w : World) (hp : p = w.heap.size) (hO : IsOut B w g bs e) (hB : B ≤ w.heap.size) (hlen : bs.length + x.size + y.size ≤ 800000000000) :
    Calls Try.prog 20 #[.pointer (some ⟨g, 0, none⟩), .slice (some ⟨p, 0, none⟩) 2 2] (w.alloc (.cells #[.string x, .string y] 9)) fun r w' => r = .returned (.pointer (some ⟨g, 0, none⟩)) ∧ IsOut B w' g (oText (bs, e) [x, y]).1 (oText (bs, e) [x, y]).2 ∧ Fr B g w w' := by
  subst hp
  refine (text_calls' B g w.heap.size 0 bs e 2 [x, y] _ (hO.alloc _) (by simp; omega) (RowAt.lit w 9 [.string x, .string y] (by simp [maxLen])) (by simp [sumS]; omega)).mono ?_
  rintro r w' ⟨rfl, h1, h2⟩
  exact ⟨rfl, h1, (Fr.alloc _ _ _ _).trans h2⟩
end Go.Proofs.Ytheieigeipppnaa.Obj
