/- Behind a great leap all that is older than the window is old; what is within it and did not come is fresh. Conditions: none. -/
import Derived.Test.YtgilccdajlpeaaaPWindowFarx2
namespace Go.Proofs.Ytgilccdajlpeaaa.Pure
open Go.RowKit Go.Proofs.Ytgilccdajlpeaaa.PWindowFar Go.Proofs.YtgilccdajlpeaaaW.PrintWords Go.Proofs.YtgilccdajlpeaaaW.PrintLast Go.Proofs.YtgilccdajlpeaaaW.PrintMore

theorem k_wrap {x : Int} (h : -9223372036854775808 ≤ x) (h' : x ≤ 9223372036854775807) : wrap64 x = x := by unfold wrap64; omega
theorem k_u64 (x : Int) : IntKind.u64.wrap x = x % 18446744073709551616 := by simp [IntKind.wrap, IntKind.bits, IntKind.signed]
theorem k_u64_in (x : Int) (h : 0 ≤ x) (h' : x < 2 ^ 64) : IntKind.u64.wrap x = x := by
  rw [k_u64]
  have : (2 : Int) ^ 64 = 18446744073709551616 := by decide
  omega
theorem k_and (a b : Nat) (ha : a < 2 ^ 64) (hb : b < 2 ^ 64) : Go.bits .and .u64 (a : Int) (b : Int) = ((a &&& b : Nat) : Int) :=
  (bits_nat .u64 64 (by decide) k_u64_in a b ha hb).1
theorem k_or (a b : Nat) (ha : a < 2 ^ 64) (hb : b < 2 ^ 64) : Go.bits .or .u64 (a : Int) (b : Int) = ((a ||| b : Nat) : Int) :=
  (bits_nat .u64 64 (by decide) k_u64_in a b ha hb).2
theorem k_shr (a j : Nat) (hj : j < 64) : shr .u64 (a : Int) (j : Int) = ((a >>> j : Nat) : Int) := by
  unfold shr
  have e : min ((j : Int)).toNat (IntKind.u64).bits = j := by simp [IntKind.bits]; omega
  rw [e, Nat.shiftRight_eq_div_pow]
  simp
theorem k_shl (a j : Nat) (hj : j < 64) : shl .u64 (a : Int) (j : Int) = (((a <<< j) % 2 ^ 64 : Nat) : Int) := by
  unfold shl
  have e : min ((j : Int)).toNat (IntKind.u64).bits = j := by simp [IntKind.bits]; omega
  rw [e, Nat.shiftLeft_eq, k_u64]
  simp

/-- May n come? t: the top, s: the bits. -/
def fr (t : Int) (s : Nat) (n : Int) : Bool :=
  if n < 1 then false else if n > 4611686018427387904 then false else if n > t then true else if t - n < 64 then !(s.testBit (t - n).toNat) else false
/-- What is known behind n. -/
def mk (t : Int) (s : Nat) (n : Int) : Int × Nat × Bool :=
  if fr t s n = true then (if n ≤ t then (t, s ||| ((1 <<< (t - n).toNat) % 2 ^ 64), true) else if n - t < 64 then (n, ((s <<< (n - t).toNat) % 2 ^ 64) ||| 1, true) else (n, 1, true)) else (t, s, false)

theorem fresh_j0 (t : Int) (s : Nat) (n : Int) (h0 : 0 ≤ t) (h1 : t ≤ 4611686018427387904) (hs : s < 2 ^ 64) (hn : 1 ≤ n) (hn2 : n ≤ 4611686018427387904) (k : Nat) (hk : 1 ≤ k) :
    window_Window_Fresh.j0 k n false t s = some (fr t s n) := by
  obtain ⟨k, rfl⟩ : ∃ m, k = m + 1 := ⟨k - 1, by omega⟩
  simp only [window_Window_Fresh.j0, fr]
  rw [if_neg (show ¬ (false = true) by simp), if_neg (show ¬ n < 1 by omega), if_neg (show ¬ n > 4611686018427387904 by omega)]
  by_cases h : n > t
  · rw [if_pos h, if_pos h]
  · rw [if_neg h, if_neg h, k_wrap (by omega) (by omega), k_u64]
    have e : (t - n) % 18446744073709551616 = t - n := by omega
    rw [e]
    by_cases h6 : t - n < 64
    · rw [if_pos h6, if_pos h6, if_pos (by omega)]
      obtain ⟨j, hj⟩ : ∃ j : Nat, t - n = (j : Int) := ⟨(t - n).toNat, by omega⟩
      rw [hj]
      have hj6 : j < 64 := by omega
      have hlt : s >>> j < 2 ^ 64 := Nat.lt_of_le_of_lt (Nat.shiftRight_le s j) hs
      rw [k_shr s j hj6]
      have := k_and (s >>> j) 1 hlt (by decide)
      rw [show ((1 : Nat) : Int) = 1 from rfl] at this
      rw [this, Int.toNat_natCast, Nat.testBit]
      congr 1
      rw [Nat.and_comm 1]
      rcases Nat.eq_zero_or_pos ((s >>> j) &&& 1) with h | h
      · rw [h]; rfl
      · have : ((s >>> j) &&& 1) = 1 := by have := Nat.and_le_right (n := s >>> j) (m := 1); omega
        rw [this]; rfl
    · rw [if_neg h6, if_neg h6]

theorem fresh_j0' (t s n : Int) (k : Nat) (hk : 1 ≤ k) : window_Window_Fresh.j0 k n true t s = some false := by
  obtain ⟨k, rfl⟩ : ∃ m, k = m + 1 := ⟨k - 1, by omega⟩
  simp only [window_Window_Fresh.j0]
  rw [if_pos trivial]

theorem fresh_ok (t : Int) (s : Nat) (n : Int) (h0 : 0 ≤ t) (h1 : t ≤ 4611686018427387904) (hs : s < 2 ^ 64) (k : Nat) (hk : 1 ≤ k) :
    window_Window_Fresh.f k t s n = some (fr t s n) := by
  unfold window_Window_Fresh.f
  by_cases hn : n < 1
  · rw [if_pos hn, fresh_j0' _ _ _ _ hk]; simp [fr, hn]
  · rw [if_neg hn]
    by_cases hm : n > 4611686018427387904
    · rw [decide_eq_true hm, fresh_j0' _ _ _ _ hk]; simp [fr, hn, hm]
    · rw [decide_eq_false hm, fresh_j0 t s n h0 h1 hs (by omega) (by omega) k hk]

theorem fr_le {t : Int} {s : Nat} {n : Int} (h : fr t s n = true) : 1 ≤ n ∧ n ≤ 4611686018427387904 := by
  unfold fr at h
  by_cases hn : n < 1
  · rw [if_pos hn] at h; cases h
  · by_cases hm : n > 4611686018427387904
    · rw [if_neg hn, if_pos hm] at h; cases h
    · omega
theorem fr_near {t : Int} {s : Nat} {n : Int} (h : fr t s n = true) (hn : n ≤ t) : t - n < 64 := by
  have hl := fr_le h
  unfold fr at h
  rw [if_neg (by omega), if_neg (by omega), if_neg (by omega)] at h
  by_cases h6 : t - n < 64
  · exact h6
  · rw [if_neg h6] at h; cases h

theorem mark_ok (t : Int) (s : Nat) (n : Int) (h0 : 0 ≤ t) (h1 : t ≤ 4611686018427387904) (hs : s < 2 ^ 64) (k : Nat) (hk : 1 ≤ k) :
    window_Window_Mark.f k t s n = some ((mk t s n).1, ((mk t s n).2.1 : Int), (mk t s n).2.2) := by
  unfold window_Window_Mark.f
  rw [fresh_ok t s n h0 h1 hs k hk]
  simp only [Option.bind_some, mk]
  by_cases hf : fr t s n = true
  · rw [if_pos hf, if_pos hf]
    have hl := fr_le hf
    by_cases hn : n ≤ t
    · have h6 := fr_near hf hn
      rw [if_pos hn, if_pos hn, k_wrap (by omega) (by omega), k_u64]
      have e : (t - n) % 18446744073709551616 = t - n := by omega
      obtain ⟨j, hj⟩ : ∃ j : Nat, t - n = (j : Int) := ⟨(t - n).toNat, by omega⟩
      rw [e, if_pos (by omega), hj]
      have hlt : (1 <<< j) % 2 ^ 64 < 2 ^ 64 := Nat.mod_lt _ (by decide)
      have e1 := k_shl 1 j (by omega)
      rw [show ((1 : Nat) : Int) = 1 from rfl] at e1
      rw [e1, k_or s _ hs hlt, Int.toNat_natCast]
    · rw [if_neg hn, if_neg hn, k_u64, k_u64, k_u64]
      have e : (n % 18446744073709551616 - t % 18446744073709551616) % 18446744073709551616 = n - t := by omega
      rw [e]
      by_cases h6 : n - t < 64
      · rw [if_pos h6, if_pos h6, if_pos (by omega)]
        obtain ⟨j, hj⟩ : ∃ j : Nat, n - t = (j : Int) := ⟨(n - t).toNat, by omega⟩
        have hlt : (s <<< j) % 2 ^ 64 < 2 ^ 64 := Nat.mod_lt _ (by decide)
        rw [hj, k_shl s j (by omega)]
        have e2 := k_or ((s <<< j) % 2 ^ 64) 1 hlt (by decide)
        rw [show ((1 : Nat) : Int) = 1 from rfl] at e2
        rw [e2, Int.toNat_natCast]
      · rw [if_neg h6, if_neg h6]; rfl
  · rw [if_neg hf, if_neg hf]

theorem mk_range (t : Int) (s : Nat) (n : Int) (h0 : 0 ≤ t) (h1 : t ≤ 4611686018427387904) (hs : s < 2 ^ 64) :
    0 ≤ (mk t s n).1 ∧ (mk t s n).1 ≤ 4611686018427387904 ∧ (mk t s n).2.1 < 2 ^ 64 := by
  unfold mk
  by_cases hf : fr t s n = true
  · have hl := fr_le hf
    rw [if_pos hf]
    by_cases hn : n ≤ t
    · rw [if_pos hn]
      exact ⟨h0, h1, Nat.or_lt_two_pow hs (Nat.mod_lt _ (by decide))⟩
    · rw [if_neg hn]
      by_cases h6 : n - t < 64
      · rw [if_pos h6]
        exact ⟨by show 0 ≤ n; omega, by show n ≤ _; omega, Nat.or_lt_two_pow (Nat.mod_lt _ (by decide)) (by decide)⟩
      · rw [if_neg h6]
        exact ⟨by show 0 ≤ n; omega, by show n ≤ _; omega, by show (1 : Nat) < 2 ^ 64; decide⟩
  · rw [if_neg hf]; exact ⟨h0, h1, hs⟩

theorem alive_ok (k : Nat) (hk : 10 ≤ k) : pontoonlaw6_alive.f k = some true :=
  at_rounds pontoonlaw6_alive.mono hk (show pontoonlaw6_alive.f 10 = some true by decide +kernel)

theorem far_bits (a b : Int) (j : Nat) (hj : j < 64) (h : a < b) : (mk a 1 b).2.1 < 2 ^ 64 ∧ (1 ≤ b → b ≤ 4611686018427387904 → ((mk a 1 b).2.1.testBit j = (decide (j = 0) || decide ((j : Int) = b - a))) ∧ (mk a 1 b).1 = b ∧ (mk a 1 b).2.2 = true) := by
  refine ⟨?_, ?_⟩
  · unfold mk
    by_cases hf : fr a 1 b = true
    · rw [if_pos hf, if_neg (by omega)]
      by_cases h6 : b - a < 64
      · rw [if_pos h6]; exact Nat.or_lt_two_pow (Nat.mod_lt _ (by decide)) (by decide)
      · rw [if_neg h6]; show (1 : Nat) < 2 ^ 64; decide
    · rw [if_neg hf]; show (1 : Nat) < 2 ^ 64; decide
  · intro h1 h2
    have hf : fr a 1 b = true := by
      unfold fr
      rw [if_neg (by omega), if_neg (by omega), if_pos (by omega)]
    unfold mk
    rw [if_pos hf, if_neg (by omega)]
    by_cases h6 : b - a < 64
    · rw [if_pos h6]
      refine ⟨?_, rfl, rfl⟩
      obtain ⟨g, hg⟩ : ∃ g : Nat, b - a = (g : Int) := ⟨(b - a).toNat, by omega⟩
      rw [hg, Int.toNat_natCast]
      show Nat.testBit (1 <<< g % 2 ^ 64 ||| 1) j = _
      rw [Nat.testBit_or, Nat.testBit_mod_two_pow, Nat.testBit_shiftLeft]
      have e1 : Nat.testBit 1 j = decide (j = 0) := by
        cases j with
        | zero => rfl
        | succ j => simp [Nat.testBit_succ]
      have e2 : Nat.testBit 1 (j - g) = decide (j - g = 0) := by
        generalize j - g = i
        cases i with
        | zero => rfl
        | succ i => simp [Nat.testBit_succ]
      rw [e1, e2]
      rw [Bool.eq_iff_iff]
      simp
      omega
    · rw [if_neg h6]
      refine ⟨?_, rfl, rfl⟩
      show Nat.testBit 1 j = _
      cases j with
      | zero => rfl
      | succ j => simp [Nat.testBit_succ]; omega

theorem WindowFar : pontoonlaw6_WindowFar.Pure := by
  intro a b q _ _ _
  refine ⟨200, ?_⟩
  unfold pontoonlaw6_WindowFar.f
  have dead : pontoonlaw6_WindowFar.j0 200 a b q true = some true := by
    simp only [pontoonlaw6_WindowFar.j0]
    rw [if_pos trivial, alive_ok _ (by omega)]; rfl
  by_cases h1 : a < 1
  · rw [if_pos h1]; exact dead
  by_cases h2 : a > 2305843009213693952
  · rw [if_neg h1, if_pos h2]; exact dead
  by_cases h3 : b ≤ a
  · rw [if_neg h1, if_neg h2, if_pos h3]; exact dead
  by_cases h4 : b > 4611686018427387904
  · rw [if_neg h1, if_neg h2, if_neg h3, if_pos h4]; exact dead
  by_cases h5 : q < 0
  · rw [if_neg h1, if_neg h2, if_neg h3, if_neg h4, if_pos h5]; exact dead
  by_cases h6 : q > 200
  · rw [if_neg h1, if_neg h2, if_neg h3, if_neg h4, if_neg h5, if_pos h6]; exact dead
  rw [if_neg h1, if_neg h2, if_neg h3, if_neg h4, if_neg h5, if_neg h6, alive_ok _ (by omega)]
  simp only [Option.bind_some, Bool.not_true]
  simp only [pontoonlaw6_WindowFar.j0]
  have m0 : mk 0 0 a = (a, 1, true) := by
    have hf : fr 0 0 a = true := by
      unfold fr
      rw [if_neg (show ¬ a < 1 by omega), if_neg (show ¬ a > 4611686018427387904 by omega), if_pos (show a > 0 by omega)]
    unfold mk
    rw [if_pos hf, if_neg (show ¬ a ≤ 0 by omega)]
    by_cases h : a - 0 < 64
    · rw [if_pos h]; simp
    · rw [if_neg h]
  have a0 := mark_ok 0 0 a (by omega) (by omega) (by decide) 199 (by omega)
  rw [show ((0 : Nat) : Int) = 0 from rfl] at a0
  have a1 := mark_ok a 1 b (by omega) (by omega) (by decide) 199 (by omega)
  rw [show ((1 : Nat) : Int) = 1 from rfl] at a1
  rw [if_neg (by simp), a0, m0]
  simp only [Option.bind_some]
  rw [show ((1 : Nat) : Int) = 1 from rfl, a1]
  have F := fun j hj => far_bits a b j hj (by omega)
  obtain ⟨hs, hF⟩ := F 0 (by omega)
  obtain ⟨-, et, eo⟩ := hF (by omega) (by omega)
  have T : ∀ j : Nat, j < 64 → (mk a 1 b).2.1.testBit j = (decide (j = 0) || decide ((j : Int) = b - a)) := fun j hj => ((F j hj).2 (by omega) (by omega)).1
  rw [et, eo]
  generalize (mk a 1 b).2.1 = s at *
  simp only [Option.bind_some]
  rw [if_pos trivial, if_pos trivial, if_pos trivial]
  have fr_of : ∀ n : Int, 1 ≤ n → n ≤ b → fr b s n = (decide (b - n < 64) && !(decide (b - n = 0) || decide (n = a))) := by
    intro n hn hnb
    unfold fr
    rw [if_neg (by omega), if_neg (by omega), if_neg (by omega)]
    by_cases hh : b - n < 64
    · rw [if_pos hh, T _ (by omega), decide_eq_true hh]
      simp only [Bool.true_and]
      congr 2
      · rw [Bool.eq_iff_iff]; simp; omega
      · rw [Bool.eq_iff_iff]; simp; omega
    · rw [if_neg hh, decide_eq_false hh]; rfl
  rw [fresh_ok b s b (by omega) (by omega) hs 199 (by omega)]
  have fb : fr b s b = false := by rw [fr_of b (by omega) (by omega)]; simp
  rw [fb]
  simp only [Option.bind_some]
  rw [if_neg (by simp), fresh_ok b s a (by omega) (by omega) hs 199 (by omega)]
  have fa : fr b s a = false := by rw [fr_of a (by omega) (by omega)]; simp
  rw [fa]
  simp only [Option.bind_some]
  simp only [pontoonlaw6_WindowFar.j1]
  rw [if_neg (by simp), k_wrap (x := b - q) (by omega) (by omega), fresh_ok b s (b - q) (by omega) (by omega) hs 198 (by omega)]
  simp only [Option.bind_some]
  -- the last part, alike on all ways
  have last : (window_Window_Fresh.f 198 b s (wrap64 ((mn b 4611686018427387903) + 1))).bind (fun t => (if (t == (decide (b < 4611686018427387904))) = true then ((window_Window_Old.f b s).bind fun t' => (some (t' == (mx (wrap64 (b - 64)) 0)))) else (some false))) = some true := by
    have hm : mn b 4611686018427387903 = b ∧ b < 4611686018427387904 ∨ mn b 4611686018427387903 = 4611686018427387903 ∧ b = 4611686018427387904 := by unfold mn; omega
    have hfr : fr b s (mn b 4611686018427387903 + 1) = decide (b < 4611686018427387904) := by
      rcases hm with ⟨e, hb⟩ | ⟨e, hb⟩
      · rw [e, decide_eq_true hb]
        unfold fr
        rw [if_neg (by omega), if_neg (by omega), if_pos (by omega)]
      · rw [e, show (4611686018427387903 : Int) + 1 = b by omega, fb, decide_eq_false (by omega)]
    rw [k_wrap (x := mn b 4611686018427387903 + 1) (by omega) (by omega), fresh_ok b s _ (by omega) (by omega) hs 198 (by omega), hfr]
    simp only [Option.bind_some]
    rw [if_pos (by simp)]
    unfold window_Window_Old.f
    by_cases hb : b < 64
    · rw [if_pos hb]
      simp only [Option.bind_some]
      have : mx (wrap64 (b - 64)) 0 = 0 := by rw [k_wrap (by omega) (by omega)]; unfold mx; omega
      rw [this]; rfl
    · rw [if_neg hb]
      simp only [Option.bind_some]
      have : mx (wrap64 (b - 64)) 0 = wrap64 (b - 64) := by rw [k_wrap (by omega) (by omega)]; unfold mx; omega
      rw [this]; simp
  by_cases q1 : q ≥ 1
  · rw [if_pos q1]
    by_cases q6 : q < 64
    · rw [if_pos q6]
      by_cases qn : b - q ≥ 1
      · rw [if_pos qn, fr_of (b - q) (by omega) (by omega), if_pos ?_]
        · exact last
        · have e3 : b - (b - q) = q := by omega
          rw [e3, decide_eq_true q6, decide_eq_false (show ¬ q = 0 by omega)]
          by_cases e : b - q = a
          · simp [e]
          · simp [e]
      · rw [if_neg qn, if_pos ?_]
        · exact last
        · unfold fr
          rw [if_pos (by omega)]; rfl
    · rw [if_neg q6, if_pos ?_]
      · exact last
      · unfold fr
        by_cases hh : b - q < 1
        · rw [if_pos hh]; rfl
        · rw [if_neg hh, if_neg (by omega), if_neg (by omega), if_neg (by omega)]; rfl
  · rw [if_neg q1, if_pos ?_]
    · exact last
    · have : b - q = b := by omega
      rw [this, fb]; rfl

end Go.Proofs.Ytgilccdajlpeaaa.Pure
