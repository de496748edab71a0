/- The document's reader, beside codec's: the same values, the same errors, the same rest. Conditions: those in each theorem. -/
import Derived.Test.YtheieigeipppnaaRefIn
import Derived.Test.YtheieigeipppnaaInByte
import Derived.Test.YtheieigeipppnaaPCodecReadsx3
namespace Go.Proofs.Ytheieigeipppnaa.Obj
open Go.RowKit Go.Proofs.YtheieigeipppnaaW.PrintWords Go.Proofs.YtheieigeipppnaaW.PrintMore Go.Proofs.Ytheieigeipppnaa.PCodecReads
set_option linter.unusedVariables false

/-- The document's reader at block g, where codec's has bc left and the error e. -/
def RS (w0 W : World) (g : Nat) (bc : ByteArray) (e : Int) : Prop := ∃ b, IsS60 w0 W g b e ∧ (e = 0 → b = bc) ∧ b.size ≤ 2000
theorem RS.below {w0 W W1 : World} {g : Nat} {bc : ByteArray} {e : Int} (h : RS w0 W g bc e) (hb : Below W.heap.size W W1) : RS w0 W1 g bc e := by
  obtain ⟨b, h1, h2, h3⟩ := h
  exact ⟨b, h1.below hb, h2, h3⟩
theorem RS.same {w0 W W1 : World} {g : Nat} {bc : ByteArray} {e : Int} (h : RS w0 W g bc e) (hb : W1.heap[g]? = W.heap[g]?) : RS w0 W1 g bc e := by
  obtain ⟨b, h1, h2, h3⟩ := h
  exact ⟨b, ⟨hb.trans h1.1, h1.2⟩, h2, h3⟩
theorem toList_empty (p : ByteArray) : (p.toList = ([] : List UInt8)) ↔ p.size = 0 := by
  rw [ByteArray.toList_eq]
  have : p.data.toList.length = p.size := by rw [Array.length_toList]; rfl
  rw [← List.length_eq_zero_iff, this]
theorem raw_f (b bc : ByteArray) (e n : Int) (hb : e = 0 → b = bc) (hs : b.size ≤ 2000) :
    ∃ b', pontoonref1_In_Raw.f b e n = some ((iRaw bc e n).1, b', (iRaw bc e n).2.2) ∧ ((iRaw bc e n).2.2 = 0 → b' = (iRaw bc e n).2.1) ∧ b'.size ≤ 2000 := by
  by_cases he : e = 0
  · subst he
    obtain rfl := hb rfl
    by_cases hn : n < 0
    · have hr : iRaw b 0 n = (ByteArray.empty, b, 1) := by simp [iRaw, hn]
      rw [hr]
      refine ⟨b, ?_, fun _ => rfl, hs⟩
      unfold pontoonref1_In_Raw.f
      rw [if_pos rfl, if_pos hn]
      rfl
    · by_cases hg : (b.size : Int) < n
      · have hr : iRaw b 0 n = (ByteArray.empty, b, 2) := by simp [iRaw, hn, hg]
        rw [hr]
        refine ⟨b, ?_, fun _ => rfl, hs⟩
        unfold pontoonref1_In_Raw.f
        rw [if_pos rfl, if_neg hn, if_pos (show n > (b.size : Int) from hg)]
        rfl
      · have hr : iRaw b 0 n = (b.extract 0 n.toNat, b.extract n.toNat b.size, 0) := by simp [iRaw, hn, hg]
        rw [hr]
        refine ⟨_, ?_, fun _ => rfl, by simp; omega⟩
        unfold pontoonref1_In_Raw.f
        rw [if_pos rfl, if_neg hn, if_neg (show ¬ n > (b.size : Int) from hg), if_pos (by omega), if_pos (by omega)]
  · have hr : iRaw bc e n = (ByteArray.empty, bc, e) := by simp [iRaw, he]
    rw [hr]
    refine ⟨b, ?_, fun h => absurd h he, hs⟩
    unfold pontoonref1_In_Raw.f
    rw [if_neg he]
    rfl
theorem byte_f (b bc : ByteArray) (e : Int) (hb : e = 0 → b = bc) (hs : b.size ≤ 2000) :
    ∃ b', pontoonref1_In_Byte.f b e = some ((iByte bc e).1, b', (iByte bc e).2.2) ∧ ((iByte bc e).2.2 = 0 → b' = (iByte bc e).2.1) ∧ b'.size ≤ 2000 := by
  obtain ⟨b', h1, h2, h3⟩ := raw_f b bc e 1 hb hs
  unfold pontoonref1_In_Byte.f
  rw [h1]
  simp only [Option.bind_some, toList_empty]
  unfold iByte
  by_cases he : e = 0
  · subst he
    obtain rfl := hb rfl
    rw [if_neg (show ¬ (0 : Int) ≠ 0 by simp)]
    by_cases hz : b.size = 0
    · rw [iRaw1_none hz] at h2 ⊢
      rw [if_pos hz, if_pos (show ByteArray.empty.size = 0 from rfl)]
      exact ⟨b', rfl, (fun h => by cases h), h3⟩
    · rw [iRaw1_some hz] at h2 ⊢
      have hx : (b.extract 0 1).size = 1 := by simp; omega
      rw [if_neg hz, if_neg (by rw [hx]; decide), if_pos (by simp only [hx]; decide)]
      have hbt : bt (b.extract 0 1) 0 = bt b 0 := by
        have h0 : (0 : Int).toNat < b.size := by simp; omega
        have h0' : (0 : Int).toNat < (b.extract 0 1).size := by rw [hx]; decide
        rw [← bt_at _ 0 h0', ← bt_at _ 0 h0]
        simp [ByteArray.getElem_extract]
      have hlt : 0 ≤ bt b 0 ∧ bt b 0 < 256 := by
        have h0 : (0 : Int).toNat < b.size := by simp; omega
        rw [← bt_at _ 0 h0]
        have := (b[(0 : Int).toNat]'h0).toNat_lt
        omega
      rw [hbt, show wrap64 (bt b 0) = bt b 0 by unfold wrap64; omega]
      exact ⟨b', rfl, h2, h3⟩
  · rw [if_pos he]
    have hr : iRaw bc e 1 = (ByteArray.empty, bc, e) := by simp [iRaw, he]
    rw [hr] at h2 ⊢
    rw [if_pos (show ByteArray.empty.size = 0 from rfl)]
    exact ⟨b', rfl, h2, h3⟩
section
variable (w0 w : World) (g : Nat) (bc : ByteArray) (e : Int) (h : RS w0 w g bc e) (hB : Below w0.heap.size w0 w)
include h hB
theorem rraw_calls (n : Int) : Calls Try.prog 41 #[.pointer (some ⟨g, 0, none⟩), .int .i64 n] w fun r w' => r = .returned (.string (iRaw bc e n).1) ∧ RS w0 w' g (iRaw bc e n).2.1 (iRaw bc e n).2.2 ∧ Below w0.heap.size w0 w' ∧ KeepBut w w' g none := by
  obtain ⟨b, h1, h2, h3⟩ := h
  obtain ⟨b', hf, hq, hs⟩ := raw_f b bc e n h2 h3
  refine (pontoonref1_In_Raw.calls g b e n _ _ _ w0 w h1 hB hf).mono ?_
  rintro r w' ⟨rfl, r1, r2, r3⟩
  exact ⟨rfl, ⟨b', r1, hq, hs⟩, r2, r3⟩
theorem rbyte_calls : Calls Try.prog 38 #[.pointer (some ⟨g, 0, none⟩)] w fun r w' => r = .returned (.int .i64 (iByte bc e).1) ∧ RS w0 w' g (iByte bc e).2.1 (iByte bc e).2.2 ∧ Below w0.heap.size w0 w' ∧ KeepBut w w' g none := by
  obtain ⟨b, h1, h2, h3⟩ := h
  obtain ⟨b', hf, hq, hs⟩ := byte_f b bc e h2 h3
  refine (pontoonref1_In_Byte.calls g b e _ _ _ w0 w h1 hB hf).mono ?_
  rintro r w' ⟨rfl, r1, r2, r3⟩
  exact ⟨rfl, ⟨b', r1, hq, hs⟩, r2, r3⟩
theorem rleft_calls : Calls Try.prog 42 #[.pointer (some ⟨g, 0, none⟩)] w fun r w' => r = .returned (.int .i64 (if e = 0 then (bc.size : Int) else 0)) ∧ RS w0 w' g bc e ∧ Below w0.heap.size w0 w' ∧ KeepBut w w' g none := by
  obtain ⟨b, h1, h2, h3⟩ := h
  by_cases he : e = 0
  · obtain rfl := h2 he
    refine (pontoonref1_In_Left.calls g b e _ _ _ w0 w h1 hB (show pontoonref1_In_Left.f b e = some ((b.size : Int), b, e) by unfold pontoonref1_In_Left.f; rw [if_pos he])).mono ?_
    rintro r w' ⟨rfl, r1, r2, r3⟩
    exact ⟨by rw [if_pos he], ⟨b, r1, fun _ => rfl, h3⟩, r2, r3⟩
  · refine (pontoonref1_In_Left.calls g b e _ _ _ w0 w h1 hB (show pontoonref1_In_Left.f b e = some (0, b, e) by unfold pontoonref1_In_Left.f; rw [if_neg he])).mono ?_
    rintro r w' ⟨rfl, r1, r2, r3⟩
    exact ⟨by rw [if_neg he], ⟨b, r1, fun h => absurd h he, h3⟩, r2, r3⟩
theorem rend_calls : Calls Try.prog 43 #[.pointer (some ⟨g, 0, none⟩)] w fun r w' => r = .returned (.int .i64 (if e = 0 then (if bc.size = 0 then 0 else 3) else e)) ∧ Below w0.heap.size w0 w' := by
  obtain ⟨b, h1, h2, h3⟩ := h
  by_cases he : e = 0
  · obtain rfl := h2 he
    by_cases hz : b.size = 0
    · refine (pontoonref1_In_End.calls g b e _ _ _ w0 w h1 hB (show pontoonref1_In_End.f b e = some (e, b, e) by unfold pontoonref1_In_End.f; rw [if_pos he, if_neg (by omega)])).mono ?_
      rintro r w' ⟨rfl, r1, r2, r3⟩
      exact ⟨by rw [if_pos he, if_pos hz, he], r2⟩
    · refine (pontoonref1_In_End.calls g b e _ _ _ w0 w h1 hB (show pontoonref1_In_End.f b e = some (3, b, 3) by unfold pontoonref1_In_End.f; rw [if_pos he, if_pos (by omega)])).mono ?_
      rintro r w' ⟨rfl, r1, r2, r3⟩
      exact ⟨by rw [if_pos he, if_neg hz], r2⟩
  · refine (pontoonref1_In_End.calls g b e _ _ _ w0 w h1 hB (show pontoonref1_In_End.f b e = some (e, b, e) by unfold pontoonref1_In_End.f; rw [if_neg he])).mono ?_
    rintro r w' ⟨rfl, r1, r2, r3⟩
    exact ⟨by rw [if_neg he], r2⟩
theorem rnum2_calls : Calls Try.prog 36 #[.pointer (some ⟨g, 0, none⟩)] w fun r w' => r = .returned (.int .i64 ((iNum bc e).1 : Nat)) ∧ RS w0 w' g (iNum bc e).2.1 (iNum bc e).2.2 ∧ Below w0.heap.size w0 w' ∧ KeepBut w w' g none := by
  obtain ⟨b, ⟨h1, h1g⟩, h2, h3⟩ := h
  by_cases he : e = 0
  · subst he
    obtain rfl := h2 rfl
    refine (rnum_ok g b w h1 (by omega)).mono ?_
    rintro r w' ⟨rfl, r1, r2⟩
    obtain ⟨q1, q2, q3⟩ := rNum_iNum b
    rw [q1]
    rw [q2] at r1
    refine ⟨rfl, ⟨_, ⟨r1, h1g⟩, q3, ?_⟩, r2.belowOf hB hB.size h1g, ⟨r2.size, fun i hi hg _ => r2.block i hi hg⟩⟩
    unfold rNum
    split
    · exact h3
    · split
      · exact h3
      · split
        · exact h3
        · simp; omega
  · refine (rnum_err g b e he w h1).mono ?_
    rintro r w' ⟨rfl, rfl⟩
    rw [iNum_err he]
    exact ⟨rfl, ⟨b, ⟨h1, h1g⟩, fun h => absurd h he, h3⟩, hB, KeepBut.refl _ _ _⟩
end
theorem rtext_calls (w0 w : World) (g : Nat) (bc : ByteArray) (e : Int) (h : RS w0 w g bc e) (hB : Below w0.heap.size w0 w) :
    Calls Try.prog 39 #[.pointer (some ⟨g, 0, none⟩)] w fun r w' => r = .returned (.string (iText bc e).1) ∧ RS w0 w' g (iText bc e).2.1 (iText bc e).2.2 ∧ Below w0.heap.size w0 w' ∧ KeepBut w w' g none := by
  have HR := Aside0.mk h
  have HB := Aside0.mk hB
  clear h hB
  go_enter Try.func39, Try.ntmps39
  go_wp2_with fail
  refine (rnum2_calls w0 w g bc e HR.out HB.out).mono ?_
  rintro r w1 ⟨rfl, h1, h2, h3⟩
  have HR := Aside0.mk h1
  have HB := Aside0.mk h2
  have HK := Aside0.mk h3
  clear h1 h2 h3
  go_wp2_with fail
  refine (rraw_calls w0 w1 g _ _ HR.out HB.out _).mono ?_
  rintro r w2 ⟨rfl, h1, h2, h3⟩
  have HR := Aside0.mk h1
  have HB := Aside0.mk h2
  have HK2 := Aside0.mk (show KeepBut w w2 g none from ⟨Nat.le_trans HK.out.1 h3.1, fun i hi hg hn => (h3.2 i (Nat.lt_of_lt_of_le hi HK.out.1) hg hn).trans (HK.out.2 i hi hg hn)⟩)
  clear h1 h2 h3
  go_wp2
  go_ret
  exact ⟨rfl, HR.out, HB.out, HK2.out⟩
end Go.Proofs.Ytheieigeipppnaa.Obj
