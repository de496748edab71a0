/- Plain laws for WindowPlays: the window's bits and the document's numbers. Conditions: those in each theorem. -/
import Derived.Test.YtgilccdajlpeaaaWinRef
namespace Go.Proofs.Ytgilccdajlpeaaa.Win
open Go.RowKit Go.Proofs.Ytgilccdajlpeaaa.PWindowFar Go.Proofs.Ytgilccdajlpeaaa.Pure Go.Proofs.YtgilccdajlpeaaaW.PrintWords Go.Proofs.YtgilccdajlpeaaaW.PrintLast Go.Proofs.YtgilccdajlpeaaaW.PrintMore
set_option linter.unusedVariables false

/-- The bits at t are the numbers of G. -/
structure RS (t : Int) (s : Nat) (G : List Int) : Prop where
  t0 : 0 ≤ t
  t1 : t ≤ 4611686018427387904
  s64 : s < 2 ^ 64
  inn : ∀ x ∈ G, t - 64 < x ∧ x ≤ t
  bit : ∀ d : Nat, d < 64 → s.testBit d = decide (t - d ∈ G)
theorem rs_zero : RS 0 0 [] := ⟨by decide, by decide, by decide, by simp, by simp⟩
theorem fold_bit (f : Int → Nat) (d : Nat) : ∀ (G : List Int) (b : Nat), (G.foldl (fun b x => b ||| (1 <<< f x)) b).testBit d = (b.testBit d || G.any (fun x => decide (f x = d)))
  | [], b => by simp
  | x :: G, b => by
    rw [List.foldl_cons, fold_bit f d G, Nat.testBit_or, Nat.one_shiftLeft, Nat.testBit_two_pow, List.any_cons, Bool.or_assoc]
theorem rs_bits {t : Int} {s : Nat} {G : List Int} (h : RS t s G) : rbits t G = s := by
  apply Nat.eq_of_testBit_eq
  intro d
  unfold rbits
  rw [fold_bit (fun x => (t - x).toNat)]
  simp only [Nat.zero_testBit, Bool.false_or]
  by_cases hd : d < 64
  · rw [h.bit d hd]
    rw [Bool.eq_iff_iff]
    simp only [List.any_eq_true, decide_eq_true_eq]
    constructor
    · rintro ⟨x, hx, he⟩
      have := h.inn x hx
      have e : t - (d : Int) = x := by omega
      rw [e]; exact hx
    · intro hm
      exact ⟨_, hm, by omega⟩
  · rw [Nat.testBit_lt_two_pow (Nat.lt_of_lt_of_le h.s64 (Nat.pow_le_pow_right (by decide) (by omega)))]
    rw [Bool.eq_false_iff]
    intro hh
    simp only [List.any_eq_true, decide_eq_true_eq] at hh
    obtain ⟨x, hx, he⟩ := hh
    have := h.inn x hx
    omega
theorem rs_fr {t : Int} {s : Nat} {G : List Int} (h : RS t s G) (n : Int) : fr t s n = rfr t G n := by
  unfold fr rfr
  by_cases h1 : n < 1
  · rw [if_pos h1, decide_eq_false (show ¬ 1 ≤ n by omega)]; simp
  by_cases h2 : n > 4611686018427387904
  · rw [if_neg h1, if_pos h2, decide_eq_false (show ¬ n ≤ 4611686018427387904 by omega)]; simp
  rw [if_neg h1, if_neg h2, decide_eq_true (show 1 ≤ n by omega), decide_eq_true (show n ≤ 4611686018427387904 by omega)]
  by_cases h3 : n > t
  · rw [if_pos h3, decide_eq_true (show t - 64 < n by omega), decide_eq_true (show n ∉ G from fun hm => by have := h.inn n hm; omega)]; rfl
  rw [if_neg h3]
  by_cases h4 : t - n < 64
  · rw [if_pos h4, decide_eq_true (show t - 64 < n by omega), h.bit _ (by omega)]
    have e : t - (((t - n).toNat : Nat) : Int) = n := by omega
    rw [e]
    by_cases hm : n ∈ G <;> simp [hm]
  · rw [if_neg h4, decide_eq_false (show ¬ t - 64 < n by omega)]; simp
theorem mem_left {t : Int} {G : List Int} {x : Int} : x ∈ rleft t G ↔ x ∈ G ∧ t - 64 < x := by simp [rleft]
theorem rs_mark {t : Int} {s : Nat} {G : List Int} (h : RS t s G) {n : Int} (hf : fr t s n = true) : ∃ s', mk t s n = (max t n, s', true) ∧ RS (max t n) s' (rleft (max t n) G ++ [n]) := by
  have hl := fr_le hf
  obtain ⟨h0, h1, hs, hin, hbit⟩ := h
  by_cases hn : n ≤ t
  · have h6 := fr_near hf hn
    have hm : max t n = t := by omega
    obtain ⟨j, hj⟩ : ∃ j : Nat, t - n = (j : Int) := ⟨(t - n).toNat, by omega⟩
    refine ⟨s ||| ((1 <<< (t - n).toNat) % 2 ^ 64), ?_, ?_⟩
    · unfold mk
      rw [if_pos hf, if_pos hn, hm]
    · rw [hm, hj, Int.toNat_natCast]
      refine ⟨h0, h1, Nat.or_lt_two_pow hs (Nat.mod_lt _ (by decide)), ?_, ?_⟩
      · intro x hx
        rw [List.mem_append, List.mem_singleton, mem_left] at hx
        rcases hx with ⟨hx, _⟩ | rfl
        · exact hin x hx
        · omega
      · intro d hd
        rw [Nat.testBit_or, hbit d hd, Nat.testBit_mod_two_pow, Nat.one_shiftLeft, Nat.testBit_two_pow, decide_eq_true hd, Bool.true_and, Bool.eq_iff_iff]
        simp only [Bool.or_eq_true, decide_eq_true_eq, List.mem_append, List.mem_singleton, mem_left]
        constructor
        · rintro (hm | hm)
          · exact .inl ⟨hm, by omega⟩
          · exact .inr (by omega)
        · rintro (⟨hm, _⟩ | hm)
          · exact .inl hm
          · exact .inr (by omega)
  · have hm : max t n = n := by omega
    rw [hm]
    by_cases h6 : n - t < 64
    · obtain ⟨j, hj⟩ : ∃ j : Nat, n - t = (j : Int) := ⟨(n - t).toNat, by omega⟩
      refine ⟨((s <<< (n - t).toNat) % 2 ^ 64) ||| 1, ?_, ?_⟩
      · unfold mk
        rw [if_pos hf, if_neg hn, if_pos h6]
      · rw [hj, Int.toNat_natCast]
        refine ⟨by omega, hl.2, Nat.or_lt_two_pow (Nat.mod_lt _ (by decide)) (by decide), ?_, ?_⟩
        · intro x hx
          rw [List.mem_append, List.mem_singleton, mem_left] at hx
          rcases hx with ⟨hx, _⟩ | rfl
          · have := hin x hx; omega
          · omega
        · intro d hd
          rw [Nat.testBit_or, Nat.testBit_mod_two_pow, Nat.testBit_shiftLeft, decide_eq_true hd, Bool.true_and, Bool.eq_iff_iff]
          simp only [Bool.or_eq_true, Bool.and_eq_true, decide_eq_true_eq, List.mem_append, List.mem_singleton, mem_left, Nat.testBit_one_eq_true_iff_self_eq_zero]
          constructor
          · rintro (⟨h1, h2⟩ | hm)
            · rw [hbit _ (by omega)] at h2
              have h2 := of_decide_eq_true h2
              have e : t - ((d - j : Nat) : Int) = n - (d : Int) := by omega
              rw [e] at h2
              exact .inl ⟨h2, by omega⟩
            · exact .inr (by omega)
          · rintro (⟨hm, _⟩ | hm)
            · have := hin _ hm
              have hjd : j ≤ d := by omega
              refine .inl ⟨hjd, ?_⟩
              rw [hbit _ (by omega)]
              have e : t - ((d - j : Nat) : Int) = n - (d : Int) := by omega
              rw [e]
              exact decide_eq_true hm
            · exact .inr (by omega)
    · refine ⟨1, ?_, ?_⟩
      · unfold mk
        rw [if_pos hf, if_neg hn, if_neg h6]
      · refine ⟨by omega, hl.2, by decide, ?_, ?_⟩
        · intro x hx
          rw [List.mem_append, List.mem_singleton, mem_left] at hx
          rcases hx with ⟨hx, _⟩ | rfl
          · have := hin x hx; omega
          · omega
        · intro d hd
          rw [Bool.eq_iff_iff]
          simp only [decide_eq_true_eq, List.mem_append, List.mem_singleton, mem_left, Nat.testBit_one_eq_true_iff_self_eq_zero]
          constructor
          · intro hm
            exact .inr (by omega)
          · rintro (⟨hm, _⟩ | hm)
            · have := hin _ hm; omega
            · omega
theorem mk_not {t : Int} {s : Nat} {n : Int} (hf : fr t s n = false) : mk t s n = (t, s, false) := by
  unfold mk
  rw [hf, if_neg (by simp)]
theorem rs_seen {t : Int} {G : List Int} (n : Int) : rfr (max t n) (rleft (max t n) G ++ [n]) n = false := by
  unfold rfr
  rw [decide_eq_false (show ¬ n ∉ rleft (max t n) G ++ [n] by simp)]
  simp
theorem old_ok (t s : Int) (h0 : 0 ≤ t) (h1 : t ≤ 4611686018427387904) : window_Window_Old.f t s = some (max (t - 64) 0) := by
  unfold window_Window_Old.f
  by_cases h : t < 64
  · rw [if_pos h]; congr 1; omega
  · rw [if_neg h, k_wrap (by omega) (by omega)]; congr 1; omega
/-- What a step comes to. -/
theorem rs_step {t : Int} {s : Nat} {G : List Int} (h : RS t s G) (n : Int) : ∃ (t' : Int) (s' : Nat) (G' : List Int) (b : Bool), mk t s n = (t', s', b) ∧ b = rfr t G n ∧ (t' = (if b = true then max t n else t) ∧ G' = (if b = true then rleft (max t n) G ++ [n] else G)) ∧ RS t' s' G' ∧ G'.length ≤ G.length + 1 ∧ rfr t' G' n = false ∧ (b = false → t' = t ∧ s' = s) := by
  rcases hf : rfr t G n with _ | _
  · exact ⟨t, s, G, false, mk_not ((rs_fr h n).trans hf), rfl, ⟨rfl, rfl⟩, h, by omega, hf, fun _ => ⟨rfl, rfl⟩⟩
  · obtain ⟨s', h1, h2⟩ := rs_mark h ((rs_fr h n).trans hf)
    refine ⟨_, s', _, true, h1, rfl, ⟨rfl, rfl⟩, h2, ?_, rs_seen n, by simp⟩
    have := rleft_le (max t n) G
    rw [if_pos rfl, List.length_append, List.length_singleton]
    omega
end Go.Proofs.Ytgilccdajlpeaaa.Win
