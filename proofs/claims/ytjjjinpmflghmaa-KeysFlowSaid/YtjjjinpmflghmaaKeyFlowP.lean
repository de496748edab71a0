/- What Take takes of events that all may be, in plain Lean: those behind the last one that came, as far as there is room. Conditions: those in each theorem. -/
import Derived.Test.YtjjjinpmflghmaaKeyTake
namespace Go.Proofs.Ytjjjinpmflghmaa.Keys
theorem addE_valid : ∀ (es : List E4) (m : Nat), (∀ e ∈ es, okE e = true) → addE m es = es.take (40 - m)
  | [], m, _ => by simp [addE]
  | e :: es, m, h => by
    rw [addE]
    by_cases hm : m < 40
    · rw [if_pos ⟨h e (by simp), hm⟩, addE_valid es (m + 1) (fun x hx => h x (by simp [hx])), show 40 - m = (40 - (m + 1)) + 1 by omega, List.take_succ_cons]
    · rw [if_neg (by omega), show 40 - m = 0 by omega]
      rfl
theorem takeE_valid : ∀ (es : List E4) (first k d : Int) (m s : Nat), (∀ e ∈ es, okE e = true) → 0 ≤ k → (s : Int) = d + 1 - first - k → takeE first k m d es = (es.drop s).take (40 - m)
  | [], first, k, d, m, s, _, _, _ => by simp [takeE]
  | e :: es, first, k, d, m, s, h, hk, hs => by
    rw [takeE, if_neg (by omega)]
    by_cases h1 : first + k ≤ d
    · rw [if_pos h1, takeE_valid es first (k + 1) d m (s - 1) (fun x hx => h x (by simp [hx])) (by omega) (by omega)]
      rw [show s = (s - 1) + 1 by omega, List.drop_succ_cons]
      rfl
    · obtain rfl : s = 0 := by omega
      rw [if_neg h1]
      by_cases hm : m < 40
      · rw [if_pos ⟨h e (by simp), hm⟩, takeE_valid es first (k + 1) (d + 1) (m + 1) 0 (fun x hx => h x (by simp [hx])) (by omega) (by omega), List.drop_zero, List.drop_zero, show 40 - m = (40 - (m + 1)) + 1 by omega, List.take_succ_cons]
      · rw [if_neg (by omega), show 40 - m = 0 by omega]
        rfl
/-- The receiver's events stay a piece of all that were sent: all.drop a up to number b; behind Take up to number b + t. -/
theorem flow_take (all : List E4) (hv : ∀ e ∈ all, okE e = true) (a b c n : Nat) (hab : a ≤ b) (hb : b ≤ all.length) (hcb : c ≤ b) (hn : n ≤ all.length - c) (hl : b - a ≤ 40) :
    ∃ t, b + t ≤ all.length ∧ b + t - a ≤ 40 ∧ takeE ((c : Int) + 1) 0 ((all.take b).drop a).length (b : Int) ((all.drop c).take n) = (all.drop b).take t ∧ (all.take b).drop a ++ (all.drop b).take t = (all.take (b + t)).drop a ∧ ((all.drop b).take t).length = t := by
  have hlen : ((all.take b).drop a).length = b - a := by simp; omega
  refine ⟨min (c + n - b) (40 - (b - a)), by omega, by omega, ?_, ?_, by simp; omega⟩
  · rw [hlen, takeE_valid _ _ _ _ _ (b - c) (fun e he => hv e (List.mem_of_mem_drop (List.mem_of_mem_take he))) (by omega) (by omega)]
    rw [List.drop_take, List.drop_drop, List.take_take, show c + (b - c) = b by omega]
    congr 1
    omega
  · rw [List.take_add, List.drop_append_of_le_length (by simp; omega)]
end Go.Proofs.Ytjjjinpmflghmaa.Keys
