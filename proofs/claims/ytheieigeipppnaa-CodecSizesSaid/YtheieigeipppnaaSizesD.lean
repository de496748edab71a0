/- Plain laws for CodecSizes: how many bytes a number takes; one that was laid in more bytes than it needs. Conditions: those in each theorem. -/
import Derived.Test.YtheieigeipppnaaCodPure
namespace Go.Proofs.Ytheieigeipppnaa.Obj
open Go.RowKit Go.Proofs.YtheieigeipppnaaW.PrintWords Go.Proofs.YtheieigeipppnaaW.PrintMore

/-- How many bytes are still to come. -/
def wl (v : Nat) : Nat := if v = 0 then 0 else (numB v).length
theorem wl_step {v : Nat} (h : v ≠ 0) : wl v = 1 + wl (v / 128) := by
  unfold wl
  rw [if_neg h]
  by_cases h1 : v < 128
  · rw [numB_small h1, if_pos (by omega)]; rfl
  · rw [numB_great h1, if_neg (by omega), List.length_cons]; omega
theorem numB_wl (n : Nat) : (numB n).length = 1 + wl (n / 128) := by
  by_cases h : n = 0
  · subst h; rw [numB_small (by decide)]; rfl
  · have := wl_step h
    unfold wl at this
    rw [if_neg h] at this
    exact this
theorem numB_ne (n : Nat) : (numB n) ≠ [] := by
  intro h
  have := numB_wl n
  rw [h] at this
  simp at this
  omega
theorem numB_mem : ∀ (n v : Nat), v < 128 ^ n → ∀ x ∈ numB v, 0 ≤ x ∧ x ≤ 255
  | 0, v, h, x, hx => by
    simp at h
    subst h
    rw [numB_small (by decide)] at hx
    simp at hx
    omega
  | n + 1, v, h, x, hx => by
    by_cases hv : v < 128
    · rw [numB_small hv] at hx
      simp at hx
      omega
    · rw [numB_great hv] at hx
      rcases List.mem_cons.1 hx with rfl | hx
      · omega
      · exact numB_mem n (v / 128) (by rw [Nat.pow_succ] at h; omega) x hx
/-- The bytes but the last say that there is more; the last does not. -/
theorem numB_split : ∀ (n v : Nat), v < 128 ^ n → ∃ (H : List Int) (z : Nat), numB v = H ++ [(z : Int)] ∧ z < 128 ∧ ∀ x ∈ H, 128 ≤ x ∧ x ≤ 255
  | 0, v, h => by
    simp at h
    subst h
    exact ⟨[], 0, by rw [numB_small (by decide)]; rfl, by omega, by simp⟩
  | n + 1, v, h => by
    by_cases hv : v < 128
    · exact ⟨[], v, by rw [numB_small hv]; rfl, hv, by simp⟩
    · obtain ⟨H, z, h1, h2, h3⟩ := numB_split n (v / 128) (by rw [Nat.pow_succ] at h; omega)
      refine ⟨((v % 128 + 128 : Nat) : Int) :: H, z, by rw [numB_great hv, h1]; rfl, h2, ?_⟩
      intro x hx
      rcases List.mem_cons.1 hx with rfl | hx
      · omega
      · exact h3 x hx
/-- More bytes than it needs: no number. -/
theorem numGo_long : ∀ (m k v : Nat) (H : List Int), (∀ x ∈ H, 128 ≤ x ∧ x ≤ 255) → (k = 0 → H ≠ []) → (numGo m k v (strOfNums (H ++ [0]))).1 = 0 ∧ (numGo m k v (strOfNums (H ++ [0]))).2.2 = 3
  | 0, k, v, H, _, _ => by
    unfold numGo
    rw [if_neg (by rw [strOfNums_size]; simp)]
    exact ⟨rfl, rfl⟩
  | m + 1, k, v, [], _, hk => by
    rw [List.nil_append]
    have hk' : 0 < k := Nat.pos_of_ne_zero (fun e => hk e rfl)
    rw [numGo_step m k v 0 [] (by decide) (by decide), if_neg (by decide), if_pos ⟨rfl, hk'⟩]
    exact ⟨rfl, rfl⟩
  | m + 1, k, v, x :: H, hx, _ => by
    have h0 := hx x (List.mem_cons_self ..)
    rw [List.cons_append]
    rw [numGo_step m k v x (H ++ [0]) (by omega) (by omega), if_pos (by omega)]
    exact numGo_long m (k + 1) _ H (fun y hy => hx y (List.mem_cons_of_mem _ hy)) (by omega)
theorem or128_at (z : Nat) (h : z < 128) : Go.bits .or .u8 (z : Int) 128 = ((z + 128 : Nat) : Int) := by
  have hh : ∀ m, m < 128 → Go.bits .or .u8 ((m : Nat) : Int) 128 = ((m + 128 : Nat) : Int) := by decide +kernel
  exact hh z h
theorem iNum_long (H : List Int) (hx : ∀ x ∈ H, 128 ≤ x ∧ x ≤ 255) (hn : H ≠ []) : ∃ b, iNum (strOfNums (H ++ [0])) 0 = (0, b, 3) := by
  have := numGo_long 9 0 0 H hx (fun _ => hn)
  refine ⟨(numGo 9 0 0 (strOfNums (H ++ [0]))).2.1, ?_⟩
  unfold iNum
  rw [if_neg (by decide)]
  exact Prod.ext this.1 (Prod.ext rfl this.2)
theorem bytes_str : ∀ l : List Int, (∀ x ∈ l, 0 ≤ x ∧ x ≤ 255) → bytesOf (strOfNums l) = l := by
  intro l h
  apply List.ext_getElem
  · rw [bytesOf_length, strOfNums_size]
  · intro i h1 h2
    have := h l[i] (List.getElem_mem h2)
    simp [bytesOf, strOfNums]
    omega
theorem numB_all {n : Nat} (h : n < 9223372036854775808) : ∀ x ∈ numB n, 0 ≤ x ∧ x ≤ 255 := numB_mem 9 n (Nat.lt_of_lt_of_le h (by decide))
theorem numB_last {n : Nat} (h : n < 9223372036854775808) : ∃ (H : List Int) (z : Nat), numB n = H ++ [(z : Int)] ∧ z < 128 ∧ ∀ x ∈ H, 128 ≤ x ∧ x ≤ 255 := numB_split 9 n (Nat.lt_of_lt_of_le h (by decide))
end Go.Proofs.Ytheieigeipppnaa.Obj
