/- What a codec.In's Byte comes to. Conditions: those in each theorem. -/
import Derived.Test.YtcmmdllnbijipaaCodP
namespace Go.Proofs.Ytcmmdllnbijipaa.Obj
open Go.RowKit Go.Proofs.YtcmmdllnbijipaaW.PrintWords Go.Proofs.YtcmmdllnbijipaaW.PrintMore
/-- Byte, read. -/
def iByte (b : ByteArray) (e : Int) : Int × ByteArray × Int :=
  if e ≠ 0 then (0, b, e) else if b.size = 0 then (0, b, 2) else (bt b 0, b.extract 1 b.size, 0)
theorem iByte_put (x : Int) (l : List Int) (h : 0 ≤ x) (h' : x < 256) : iByte (strOfNums (x :: l)) 0 = (x, strOfNums l, 0) := by
  unfold iByte
  rw [if_neg (by simp), if_neg (by rw [strOfNums_size]; simp), bt_str x l h h', str_tail]
theorem iByte_size (b : ByteArray) (e : Int) : (iByte b e).2.1.size ≤ b.size := by
  unfold iByte
  split
  · simp
  · split <;> simp
set_option maxHeartbeats 1000000 in
theorem ibyte_calls (g : Nat) (b : ByteArray) (e : Int) (w : World) (h : IsIn w g b e) (hs : b.size ≤ 140737488355328) :
    Calls Try.prog 114 #[.pointer (some ⟨g, 0, none⟩)] w fun r w' => r = .returned (.int .i64 (iByte b e).1) ∧ IsIn w' g (iByte b e).2.1 (iByte b e).2.2 ∧ Fg g w w' := by
  have HI := Aside0.mk h
  clear h
  by_cases he : e = 0
  · subst he
    by_cases hz : b.size = 0
    · have HR := Aside0.mk (iRaw1_none hz)
      have hv : iByte b 0 = (0, b, 2) := by simp [iByte, hz]
      rw [hv]
      clear hz hv
      go_enter Try.func114, Try.ntmps114
      go_wp2_with fail
      refine (iraw_calls g b 0 1 _ HI.out hs).mono ?_
      rw [HR.out]
      rintro e1 w1 ⟨rfl, hI, hF⟩
      have HI2 := Aside0.mk hI
      have HF := Aside0.mk hF
      clear hI hF
      go_wp2
      go_ret
      exact ⟨rfl, HI2.out, HF.out⟩
    · have HR := Aside0.mk (iRaw1_some hz)
      obtain ⟨c, hcb, hc256⟩ : ∃ c : Nat, bt b 0 = (c : Int) ∧ c < 256 := by
        have := bt_range b 0
        exact ⟨(bt b 0).toNat, by omega, by omega⟩
      have hx : (b.extract 0 1).size = 1 := by simp; omega
      have hxe : (b.extract 0 1).toList.isEmpty = false := extract1_ne hz
      have hxc : ∀ h : 0 < (b.extract 0 1).size, ((b.extract 0 1)[0]'h).toNat = c := fun h => extract1_at hz h hcb
      obtain ⟨x, hxx⟩ : ∃ x, x = b.extract 0 1 := ⟨_, rfl⟩
      rw [← hxx] at HR hx hxe hxc
      have hv : iByte b 0 = ((c : Int), b.extract 1 b.size, 0) := by simp [iByte, hz, hcb]
      rw [hv]
      clear hxx hz hv hcb
      go_enter Try.func114, Try.ntmps114
      go_wp2_with fail
      refine (iraw_calls g b 0 1 _ HI.out hs).mono ?_
      rw [HR.out]
      rintro e1 w1 ⟨rfl, hI, hF⟩
      have HI2 := Aside0.mk hI
      have HF := Aside0.mk hF
      clear hI hF
      go_wp2
      go_ret
      exact ⟨rfl, HI2.out, HF.out⟩
  · have hv : iByte b e = (0, b, e) := by simp [iByte, he]
    have hr : iRaw b e 1 = (ByteArray.empty, b, e) := by simp [iRaw, he]
    rw [hv]
    have HR := Aside0.mk hr
    clear he hv hr
    go_enter Try.func114, Try.ntmps114
    go_wp2_with fail
    refine (iraw_calls g b e 1 _ HI.out hs).mono ?_
    rw [HR.out]
    rintro e1 w1 ⟨rfl, hI, hF⟩
    have HI2 := Aside0.mk hI
    have HF := Aside0.mk hF
    clear hI hF
    go_wp2
    go_ret
    exact ⟨rfl, HI2.out, HF.out⟩
end Go.Proofs.Ytcmmdllnbijipaa.Obj
