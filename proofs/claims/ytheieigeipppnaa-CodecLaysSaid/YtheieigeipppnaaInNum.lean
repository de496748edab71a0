/- What a codec.In's Num, Byte and Text come to. Conditions: those in each theorem. -/
import Derived.Test.YtheieigeipppnaaIn
namespace Go.Proofs.Ytheieigeipppnaa.Obj
open Go.RowKit Go.Proofs.YtheieigeipppnaaW.PrintWords Go.Proofs.YtheieigeipppnaaW.PrintMore

/-- A number, m rounds left, k done, v read. -/
def numGo : Nat → Nat → Nat → ByteArray → Nat × ByteArray × Int
  | 0, _, _, b => if b.size = 0 then (0, b, 2) else (0, b.extract 1 b.size, 3)
  | m + 1, k, v, b => if b.size = 0 then (0, b, 2) else if 128 ≤ bt b 0 then numGo m (k + 1) (v + (bt b 0).toNat % 128 * 128 ^ k) (b.extract 1 b.size) else
      if bt b 0 = 0 ∧ 0 < k then (0, b.extract 1 b.size, 3) else (v + (bt b 0).toNat * 128 ^ k, b.extract 1 b.size, 0)
def iNum (b : ByteArray) (e : Int) : Nat × ByteArray × Int := if e ≠ 0 then (0, b, e) else numGo 9 0 0 b

theorem iRaw1_none {b : ByteArray} (h : b.size = 0) : iRaw b 0 1 = (ByteArray.empty, b, 2) := by simp [iRaw, h]
theorem iRaw1_some {b : ByteArray} (h : b.size ≠ 0) : iRaw b 0 1 = (b.extract 0 1, b.extract 1 b.size, 0) := by
  have : ¬ (b.size : Int) < 1 := by omega
  simp [iRaw, this]
theorem extract1_ne {b : ByteArray} (h : b.size ≠ 0) : (b.extract 0 1).toList.isEmpty = false := by
  have hx : (b.extract 0 1).size = 1 := by simp; omega
  generalize b.extract 0 1 = x at hx
  rw [List.isEmpty_eq_false_iff, ← List.length_pos_iff, ByteArray.toList_eq, Array.length_toList]
  have : x.data.size = x.size := rfl
  omega
theorem extract1_at {b : ByteArray} {c : Nat} (h : b.size ≠ 0) (h' : 0 < (b.extract 0 1).size) (hcb : bt b 0 = (c : Int)) : ((b.extract 0 1)[0]'h').toNat = c := by
  have h0 : (0 : Int).toNat < b.size := by simp; omega
  have h1 : bt b 0 = ((b[0]'(by omega)).toNat : Int) := by rw [← bt_at b 0 h0]; rfl
  have h2 : (b.extract 0 1)[0]'h' = b[0]'(by omega) := by simp [ByteArray.getElem_extract]
  rw [h2]
  omega
theorem and127 (c : Nat) (h : c < 256) : Go.bits .and .u8 (c : Int) 127 = ((c % 128 : Nat) : Int) := by
  have hh : ∀ m, m < 256 → Go.bits .and .u8 ((m : Nat) : Int) 127 = ((m % 128 : Nat) : Int) := by decide +kernel
  exact hh c h
theorem pow7 (k : Nat) : (2 : Nat) ^ (7 * k) = 128 ^ k := by rw [Nat.pow_mul]
theorem pow128_le {k : Nat} (h : k < 9) : 128 ^ k ≤ 72057594037927936 := by
  have := Nat.pow_le_pow_right (show 0 < 128 by decide) (show k ≤ 8 by omega)
  have e : 128 ^ 8 = 72057594037927936 := by decide
  omega
theorem ret_i64 {a b : Int} (h : a = b) : Ending.returned (.int .i64 a) = Ending.returned (.int .i64 b) := by rw [h]
theorem mul_in (k c : Nat) (hk : k < 9) : wrap64 (wrap64 ((c % 128 : Nat) : Int) * 2 ^ (7 * k)) = ((c % 128 * 128 ^ k : Nat) : Int) := by
  have h1 : wrap64 ((c % 128 : Nat) : Int) = ((c % 128 : Nat) : Int) := by unfold wrap64; omega
  have h2 : (2 : Int) ^ (7 * k) = ((128 ^ k : Nat) : Int) := by rw [← pow7]; simp
  have h3 : c % 128 * 128 ^ k ≤ 127 * 128 ^ k := Nat.mul_le_mul_right _ (by omega)
  have h4 := pow128_le hk
  rw [h1, h2, ← Int.natCast_mul]
  generalize c % 128 * 128 ^ k = z at h3
  unfold wrap64
  omega
theorem i64_in (x : Int) (h : 0 ≤ x) (h' : x < 2 ^ 63) : IntKind.i64.wrap x = x := by
  rw [IntKind.wrap_i64]
  have : (2 : Int) ^ 63 = 9223372036854775808 := by decide
  omega
theorem next_lt (k v c : Nat) (hv : v < 128 ^ k) : v + c % 128 * 128 ^ k < 128 ^ (k + 1) := by
  have h3 : c % 128 * 128 ^ k ≤ 127 * 128 ^ k := Nat.mul_le_mul_right _ (by omega)
  rw [Nat.pow_succ]
  omega
theorem or_in (k v c : Nat) (hk : k < 9) (hv : v < 128 ^ k) (_hc : c < 256) : Go.bits .or .i64 (v : Int) ((c % 128 * 128 ^ k : Nat) : Int) = ((v + c % 128 * 128 ^ k : Nat) : Int) := by
  have hn := next_lt k v c hv
  have h9 : 128 ^ (k + 1) ≤ 2 ^ 63 := by
    have := Nat.pow_le_pow_right (show 0 < 128 by decide) (show k + 1 ≤ 9 by omega)
    have e : (128 : Nat) ^ 9 = 2 ^ 63 := by decide
    omega
  rw [(bits_nat .i64 63 (by decide) i64_in v (c % 128 * 128 ^ k) (by omega) (by omega)).2]
  congr 1
  rw [← pow7] at hv ⊢
  rw [Nat.or_comm, Nat.mul_comm, ← Nat.two_pow_add_eq_or_of_lt hv, Nat.add_comm]
theorem val_in (k v c : Nat) (hk : k < 9) (hv : v < 128 ^ k) (hc : c < 256) : Go.bits .or .i64 (v : Int) (wrap64 ((c : Int) % 128 * 2 ^ (7 * k))) = ((v + c % 128 * 128 ^ k : Nat) : Int) := by
  have h1 := mul_in k c hk
  have h2 : wrap64 ((c % 128 : Nat) : Int) = (c : Int) % 128 := by unfold wrap64; omega
  rw [h2] at h1
  rw [h1, or_in k v c hk hv hc]
set_option maxHeartbeats 4000000 in
set_option maxRecDepth 100000 in
theorem inum_ok (g : Nat) (b : ByteArray) (w : World) (h : IsIn w g b 0) (hs : b.size ≤ 140737488355328) :
    Calls Try.prog 23 #[.pointer (some ⟨g, 0, none⟩)] w fun r w' => r = .returned (.int .i64 (numGo 9 0 0 b).1) ∧ IsIn w' g (numGo 9 0 0 b).2.1 (numGo 9 0 0 b).2.2 ∧ Fg g w w' := by
  have HI := Aside0.mk h
  clear h
  go_enter Try.func23, Try.ntmps23
  go_wp2
  go_loopg [3, 6] 9 (fun kq v3 v6 wr => ∃ (k v : Nat) (bk : ByteArray), v3 = .int .i64 v ∧ v6 = .int .i64 k ∧ Aside0 (k ≤ 9 ∧ kq = 9 - k ∧ v < 128 ^ k) ∧ Aside0 (IsIn wr g bk 0 ∧ Fg g w wr ∧ numGo (9 - k) k v bk = numGo 9 0 0 b ∧ bk.size ≤ 140737488355328))
  case atStart => exact ⟨0, 0, b, rfl, rfl, ⟨by omega, rfl, by decide⟩, ⟨HI.out, Fg.refl _ _, rfl, hs⟩⟩
  case round =>
    obtain ⟨k, v, bk, rfl, rfl, ⟨hk, hkq, hv⟩, ⟨hI, hF, hS, hL⟩⟩ := hrel
    obtain ⟨ko, rfl⟩ : ∃ ko : Nat, ko = gk := ⟨_, rfl⟩
    have HS := Aside0.mk hS
    have HQ := Aside0.mk hkq
    have HV := Aside0.mk hv
    have HI1 := Aside0.mk hI
    have HF := Aside0.mk hF
    clear hS hkq hv hI hF
    by_cases hlt : k < 9
    · by_cases hz : bk.size = 0
      · have HR := Aside0.mk (iRaw1_none hz)
        have hz' := Aside0.mk hz
        clear hz
        go_wp2_with fail
        refine (iraw_calls g bk 0 1 _ HI1.out hL).mono ?_
        rw [HR.out]
        rintro e1 w1 ⟨rfl, hI2, hF2⟩
        have HI2 := Aside0.mk hI2
        have HF2 := Aside0.mk hF2
        clear hI2 hF2
        go_wp2
        go_ret
        have hs1 := HS.out
        rw [show 9 - k = (8 - k) + 1 by omega, numGo, if_pos hz'.out] at hs1
        rw [← hs1]
        exact ⟨rfl, HI2.out, HF.out.trans HF2.out⟩
      · have HR := Aside0.mk (iRaw1_some hz)
        obtain ⟨c, hcb, hc256⟩ : ∃ c : Nat, bt bk 0 = (c : Int) ∧ c < 256 := by
          have := bt_range bk 0
          exact ⟨(bt bk 0).toNat, by omega, by omega⟩
        have hx : (bk.extract 0 1).size = 1 := by simp; omega
        have hxe : (bk.extract 0 1).toList.isEmpty = false := extract1_ne hz
        have hxc : ∀ h : 0 < (bk.extract 0 1).size, ((bk.extract 0 1)[0]'h).toNat = c := fun h => extract1_at hz h hcb
        obtain ⟨x, hxx⟩ : ∃ x, x = bk.extract 0 1 := ⟨_, rfl⟩
        rw [← hxx] at HR hx hxe hxc
        clear hxx
        have HZ := Aside0.mk hz
        have HC := Aside0.mk hcb
        have hand := and127 c hc256
        have HVAL := Aside0.mk (val_in k v c hlt HV.out hc256)
        clear hz hcb
        have hs1 := HS.out
        rw [show 9 - k = (8 - k) + 1 by omega, numGo, if_neg HZ.out, HC.out] at hs1
        have HS1 := Aside0.mk hs1
        clear hs1
        go_wp2_with fail
        refine (iraw_calls g bk 0 1 _ HI1.out hL).mono ?_
        rw [HR.out]
        rintro e1 w1 ⟨rfl, hI2, hF2⟩
        have hl2 : (bk.extract 1 bk.size).size ≤ 140737488355328 := by simp; omega
        have HL2 := Aside0.mk hl2
        have HI2 := Aside0.mk hI2
        have HF2 := Aside0.mk hF2
        clear hI2 hF2 hl2
        by_cases h128 : 128 ≤ c
        · go_wp2
          go_roundg (ko - 1)
          case measure => have := HQ.out; omega
          case rel =>
            have hs1 := HS1.out
            rw [if_pos (by omega), Int.toNat_natCast] at hs1
            refine ⟨k + 1, v + c % 128 * 128 ^ k, _, by rw [HVAL.out], by go_num, ⟨by omega, by have := HQ.out; omega, next_lt k v c HV.out⟩, ⟨HI2.out, HF.out.trans HF2.out, ?_, HL2.out⟩⟩
            rw [show 9 - (k + 1) = 8 - k by omega]
            exact hs1
        · by_cases h0 : c = 0
          · subst h0
            by_cases hk0 : 0 < k
            · go_wp2_with fail
              refine (ifail_calls g _ 0 3 _ HI2.out).mono ?_
              rw [if_pos rfl]
              rintro e2 w2 ⟨rfl, hI3, hF3⟩
              have HI3 := Aside0.mk hI3
              have HF3 := Aside0.mk hF3
              clear hI3 hF3
              go_wp2
              go_ret
              have hs1 := HS1.out
              rw [if_neg (by omega), if_pos ⟨rfl, hk0⟩] at hs1
              rw [← hs1]
              exact ⟨rfl, HI3.out, (HF.out.trans HF2.out).trans HF3.out⟩
            · go_wp2
              go_ret
              have hs1 := HS1.out
              rw [if_neg (by omega), if_neg (by omega)] at hs1
              rw [← hs1]
              refine ⟨ret_i64 ?_, HI2.out, HF.out.trans HF2.out⟩
              have e1 : Go.bits .and .u8 0 127 = 0 := by decide +kernel
              have e2 : wrap64 0 = ((0 : Nat) : Int) % 128 := by unfold wrap64; omega
              rw [e1, e2, HVAL.out]
              simp
          · go_wp2
            go_ret
            have hs1 := HS1.out
            rw [if_neg (by omega), if_neg (by omega), Int.toNat_natCast] at hs1
            rw [← hs1]
            refine ⟨ret_i64 ?_, HI2.out, HF.out.trans HF2.out⟩
            have hv := HVAL.out
            rw [Nat.mod_eq_of_lt (show c < 128 by omega)] at hv
            exact hv
    · obtain rfl : k = 9 := by omega
      have hs1 := HS.out
      rw [show 9 - 9 = 0 from rfl, numGo] at hs1
      have HS1 := Aside0.mk hs1
      clear hs1
      by_cases hz : bk.size = 0
      · have HR := Aside0.mk (iRaw1_none hz)
        have HZ := Aside0.mk hz
        clear hz
        go_wp2_with fail
        refine (iraw_calls g bk 0 1 _ HI1.out hL).mono ?_
        rw [HR.out]
        rintro e1 w1 ⟨rfl, hI2, hF2⟩
        have HI2 := Aside0.mk hI2
        have HF2 := Aside0.mk hF2
        clear hI2 hF2
        go_wp2
        go_ret
        have hs1 := HS1.out
        rw [if_pos HZ.out] at hs1
        rw [← hs1]
        exact ⟨rfl, HI2.out, HF.out.trans HF2.out⟩
      · have HR := Aside0.mk (iRaw1_some hz)
        have hxe : (bk.extract 0 1).toList.isEmpty = false := extract1_ne hz
        obtain ⟨x, hxx⟩ : ∃ x, x = bk.extract 0 1 := ⟨_, rfl⟩
        rw [← hxx] at HR hxe
        clear hxx
        have HZ := Aside0.mk hz
        clear hz
        go_wp2_with fail
        refine (iraw_calls g bk 0 1 _ HI1.out hL).mono ?_
        rw [HR.out]
        rintro e1 w1 ⟨rfl, hI2, hF2⟩
        have HI2 := Aside0.mk hI2
        have HF2 := Aside0.mk hF2
        clear hI2 hF2
        go_wp2_with fail
        refine (ifail_calls g _ 0 3 _ HI2.out).mono ?_
        rw [if_pos rfl]
        rintro e2 w2 ⟨rfl, hI3, hF3⟩
        have HI3 := Aside0.mk hI3
        have HF3 := Aside0.mk hF3
        clear hI3 hF3
        go_wp2
        go_ret
        have hs1 := HS1.out
        rw [if_neg HZ.out] at hs1
        rw [← hs1]
        exact ⟨rfl, HI3.out, (HF.out.trans HF2.out).trans HF3.out⟩
theorem inum_calls (g : Nat) (b : ByteArray) (e : Int) (w : World) (h : IsIn w g b e) (hs : b.size ≤ 140737488355328) :
    Calls Try.prog 23 #[.pointer (some ⟨g, 0, none⟩)] w fun r w' => r = .returned (.int .i64 (iNum b e).1) ∧ IsIn w' g (iNum b e).2.1 (iNum b e).2.2 ∧ Fg g w w' := by
  by_cases he : e = 0
  · subst he
    have : iNum b 0 = numGo 9 0 0 b := by simp [iNum]
    rw [this]
    exact inum_ok g b w h hs
  · have hn : iNum b e = (0, b, e) := by simp [iNum, he]
    have hr : iRaw b e 1 = (ByteArray.empty, b, e) := by simp [iRaw, he]
    rw [hn]
    have HI := Aside0.mk h
    have HR := Aside0.mk hr
    clear h he hn hr
    go_enter Try.func23, Try.ntmps23
    go_wp2
    refine wp_loop_rounds 1 ?_
    rw [rounds_succ]
    go_wp2_with fail
    refine (iraw_calls g b e 1 _ HI.out hs).mono ?_
    rw [HR.out]
    rintro e1 w1 ⟨rfl, hI2, hF2⟩
    have HI2 := Aside0.mk hI2
    have HF2 := Aside0.mk hF2
    clear hI2 hF2
    go_wp2
    go_ret
    exact ⟨rfl, HI2.out, HF2.out⟩
theorem numGo_size : ∀ (m k v : Nat) (b : ByteArray), (numGo m k v b).2.1.size ≤ b.size
  | 0, k, v, b => by simp only [numGo]; split <;> simp
  | m + 1, k, v, b => by
    simp only [numGo]
    split
    · simp
    · split
      · have := numGo_size m (k + 1) (v + (bt b 0).toNat % 128 * 128 ^ k) (b.extract 1 b.size)
        simp at this ⊢
        omega
      · split <;> simp
theorem iNum_size (b : ByteArray) (e : Int) : (iNum b e).2.1.size ≤ b.size := by
  unfold iNum
  split
  · simp
  · exact numGo_size _ _ _ _
theorem itext_calls (g : Nat) (b : ByteArray) (e : Int) (w : World) (h : IsIn w g b e) (hs : b.size ≤ 140737488355328) :
    Calls Try.prog 24 #[.pointer (some ⟨g, 0, none⟩)] w fun r w' => r = .returned (.string (iRaw (iNum b e).2.1 (iNum b e).2.2 (iNum b e).1).1) ∧ IsIn w' g (iRaw (iNum b e).2.1 (iNum b e).2.2 (iNum b e).1).2.1 (iRaw (iNum b e).2.1 (iNum b e).2.2 (iNum b e).1).2.2 ∧ Fg g w w' := by
  have hsz := iNum_size b e
  have HI := Aside0.mk h
  clear h
  go_enter Try.func24, Try.ntmps24
  go_wp2_with fail
  refine (inum_calls g b e _ HI.out hs).mono ?_
  rintro e1 w1 ⟨rfl, hI2, hF2⟩
  have HI2 := Aside0.mk hI2
  have HF2 := Aside0.mk hF2
  clear hI2 hF2
  go_wp2_with fail
  refine (iraw_calls g _ _ _ _ HI2.out (by omega)).mono ?_
  rintro e2 w2 ⟨rfl, hI3, hF3⟩
  have HI3 := Aside0.mk hI3
  have HF3 := Aside0.mk hF3
  clear hI3 hF3
  go_wp2
  go_ret
  exact ⟨rfl, HI3.out, HF2.out.trans HF3.out⟩
end Go.Proofs.Ytheieigeipppnaa.Obj
