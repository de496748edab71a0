/- The same numbers, all of them so many more, are taken and refused just alike by a Window. Conditions: none. -/
import Derived.Test.YtgilccdajlpeaaaPWindowShiftx1
import Derived.Test.YtgilccdajlpeaaaWSized
namespace Go.Proofs.Ytgilccdajlpeaaa.PrintWords
open Go.ChangeShapes Go.WideShapes
/-- The printed row names this word by a shorter name than it bears. -/
theorem sized_ints {H : Type} {enc : TypeId × Value → H} {P : Program} {W : World} {base : Nat} {spare : Nat → Bool} {held : Bool} {t e : TypeId} {k : IntKind} {a : Option Addr} {len cap : Nat} {d : DataW H} {ps : List MemPlace} {ts : List TypeId} {ds : List (DataW H)} {j : Nat}
    (hsz : (DataW.weightsEach P ts ds).all (· ≤ reachBytes) = true) (ht : ts[j]? = some t) (hd : ds[j]? = some d) (hu : P.underlying t = some (.slice e)) (he : P.underlying e = some (.int k)) (hc : P.cellsOf e = 1) {B : Nat} (hB : P.bytesOf e = B)
    (h : DataW.Trod enc P W base spare held t (.slice a len cap) d ps) : len * B ≤ 140737488351232 :=
  Go.Proofs.YtgilccdajlpeaaaW.PrintWords.sized_ints hsz ht hd hu he hc hB h
end Go.Proofs.Ytgilccdajlpeaaa.PrintWords
namespace Go.Proofs.Ytgilccdajlpeaaa.Pure
open Go.RowKit Go.Proofs.Ytgilccdajlpeaaa.PWindowShift Go.Proofs.YtgilccdajlpeaaaW.PrintWords Go.Proofs.YtgilccdajlpeaaaW.PrintLast Go.Proofs.YtgilccdajlpeaaaW.PrintMore

theorem k_wrap {x : Int} (h : -9223372036854775808 ≤ x) (h' : x ≤ 9223372036854775807) : wrap64 x = x := by unfold wrap64; omega
theorem k_u64 (x : Int) : IntKind.u64.wrap x = x % 18446744073709551616 := by simp [IntKind.wrap, IntKind.bits, IntKind.signed]
theorem k_u64_in (x : Int) (h : 0 ≤ x) (h' : x < 2 ^ 64) : IntKind.u64.wrap x = x := by
  rw [k_u64]
  have : (2 : Int) ^ 64 = 18446744073709551616 := by decide
  omega
theorem k_and (a b : Nat) (ha : a < 2 ^ 64) (hb : b < 2 ^ 64) : Go.bits .and .u64 (a : Int) (b : Int) = ((a &&& b : Nat) : Int) :=
  (bits_nat .u64 64 (by decide) k_u64_in a b ha hb).1
theorem k_or (a b : Nat) (ha : a < 2 ^ 64) (hb : b < 2 ^ 64) : Go.bits .or .u64 (a : Int) (b : Int) = ((a ||| b : Nat) : Int) :=
  (bits_nat .u64 64 (by decide) k_u64_in a b ha hb).2
theorem k_shr (a j : Nat) (hj : j < 64) : shr .u64 (a : Int) (j : Int) = ((a >>> j : Nat) : Int) := by
  unfold shr
  have e : min ((j : Int)).toNat (IntKind.u64).bits = j := by simp [IntKind.bits]; omega
  rw [e, Nat.shiftRight_eq_div_pow]
  simp
theorem k_shl (a j : Nat) (hj : j < 64) : shl .u64 (a : Int) (j : Int) = (((a <<< j) % 2 ^ 64 : Nat) : Int) := by
  unfold shl
  have e : min ((j : Int)).toNat (IntKind.u64).bits = j := by simp [IntKind.bits]; omega
  rw [e, Nat.shiftLeft_eq, k_u64]
  simp

/-- May n come? t: the top, s: the bits. -/
def fr (t : Int) (s : Nat) (n : Int) : Bool :=
  if n < 1 then false else if n > 4611686018427387904 then false else if n > t then true else if t - n < 64 then !(s.testBit (t - n).toNat) else false
/-- What is known behind n. -/
def mk (t : Int) (s : Nat) (n : Int) : Int × Nat × Bool :=
  if fr t s n = true then (if n ≤ t then (t, s ||| ((1 <<< (t - n).toNat) % 2 ^ 64), true) else if n - t < 64 then (n, ((s <<< (n - t).toNat) % 2 ^ 64) ||| 1, true) else (n, 1, true)) else (t, s, false)

theorem fresh_j0 (t : Int) (s : Nat) (n : Int) (h0 : 0 ≤ t) (h1 : t ≤ 4611686018427387904) (hs : s < 2 ^ 64) (hn : 1 ≤ n) (hn2 : n ≤ 4611686018427387904) (k : Nat) (hk : 1 ≤ k) :
    window_Window_Fresh.j0 k n false t s = some (fr t s n) := by
  obtain ⟨k, rfl⟩ : ∃ m, k = m + 1 := ⟨k - 1, by omega⟩
  simp only [window_Window_Fresh.j0, fr]
  rw [if_neg (show ¬ (false = true) by simp), if_neg (show ¬ n < 1 by omega), if_neg (show ¬ n > 4611686018427387904 by omega)]
  by_cases h : n > t
  · rw [if_pos h, if_pos h]
  · rw [if_neg h, if_neg h, k_wrap (by omega) (by omega), k_u64]
    have e : (t - n) % 18446744073709551616 = t - n := by omega
    rw [e]
    by_cases h6 : t - n < 64
    · rw [if_pos h6, if_pos h6, if_pos (by omega)]
      obtain ⟨j, hj⟩ : ∃ j : Nat, t - n = (j : Int) := ⟨(t - n).toNat, by omega⟩
      rw [hj]
      have hj6 : j < 64 := by omega
      have hlt : s >>> j < 2 ^ 64 := Nat.lt_of_le_of_lt (Nat.shiftRight_le s j) hs
      rw [k_shr s j hj6]
      have := k_and (s >>> j) 1 hlt (by decide)
      rw [show ((1 : Nat) : Int) = 1 from rfl] at this
      rw [this, Int.toNat_natCast, Nat.testBit]
      congr 1
      rw [Nat.and_comm 1]
      rcases Nat.eq_zero_or_pos ((s >>> j) &&& 1) with h | h
      · rw [h]; rfl
      · have : ((s >>> j) &&& 1) = 1 := by have := Nat.and_le_right (n := s >>> j) (m := 1); omega
        rw [this]; rfl
    · rw [if_neg h6, if_neg h6]

theorem fresh_j0' (t s n : Int) (k : Nat) (hk : 1 ≤ k) : window_Window_Fresh.j0 k n true t s = some false := by
  obtain ⟨k, rfl⟩ : ∃ m, k = m + 1 := ⟨k - 1, by omega⟩
  simp only [window_Window_Fresh.j0]
  rw [if_pos trivial]

theorem fresh_ok (t : Int) (s : Nat) (n : Int) (h0 : 0 ≤ t) (h1 : t ≤ 4611686018427387904) (hs : s < 2 ^ 64) (k : Nat) (hk : 1 ≤ k) :
    window_Window_Fresh.f k t s n = some (fr t s n) := by
  unfold window_Window_Fresh.f
  by_cases hn : n < 1
  · rw [if_pos hn, fresh_j0' _ _ _ _ hk]; simp [fr, hn]
  · rw [if_neg hn]
    by_cases hm : n > 4611686018427387904
    · rw [decide_eq_true hm, fresh_j0' _ _ _ _ hk]; simp [fr, hn, hm]
    · rw [decide_eq_false hm, fresh_j0 t s n h0 h1 hs (by omega) (by omega) k hk]

theorem fr_le {t : Int} {s : Nat} {n : Int} (h : fr t s n = true) : 1 ≤ n ∧ n ≤ 4611686018427387904 := by
  unfold fr at h
  by_cases hn : n < 1
  · rw [if_pos hn] at h; cases h
  · by_cases hm : n > 4611686018427387904
    · rw [if_neg hn, if_pos hm] at h; cases h
    · omega
theorem fr_near {t : Int} {s : Nat} {n : Int} (h : fr t s n = true) (hn : n ≤ t) : t - n < 64 := by
  have hl := fr_le h
  unfold fr at h
  rw [if_neg (by omega), if_neg (by omega), if_neg (by omega)] at h
  by_cases h6 : t - n < 64
  · exact h6
  · rw [if_neg h6] at h; cases h

theorem mark_ok (t : Int) (s : Nat) (n : Int) (h0 : 0 ≤ t) (h1 : t ≤ 4611686018427387904) (hs : s < 2 ^ 64) (k : Nat) (hk : 1 ≤ k) :
    window_Window_Mark.f k t s n = some ((mk t s n).1, ((mk t s n).2.1 : Int), (mk t s n).2.2) := by
  unfold window_Window_Mark.f
  rw [fresh_ok t s n h0 h1 hs k hk]
  simp only [Option.bind_some, mk]
  by_cases hf : fr t s n = true
  · rw [if_pos hf, if_pos hf]
    have hl := fr_le hf
    by_cases hn : n ≤ t
    · have h6 := fr_near hf hn
      rw [if_pos hn, if_pos hn, k_wrap (by omega) (by omega), k_u64]
      have e : (t - n) % 18446744073709551616 = t - n := by omega
      obtain ⟨j, hj⟩ : ∃ j : Nat, t - n = (j : Int) := ⟨(t - n).toNat, by omega⟩
      rw [e, if_pos (by omega), hj]
      have hlt : (1 <<< j) % 2 ^ 64 < 2 ^ 64 := Nat.mod_lt _ (by decide)
      have e1 := k_shl 1 j (by omega)
      rw [show ((1 : Nat) : Int) = 1 from rfl] at e1
      rw [e1, k_or s _ hs hlt, Int.toNat_natCast]
    · rw [if_neg hn, if_neg hn, k_u64, k_u64, k_u64]
      have e : (n % 18446744073709551616 - t % 18446744073709551616) % 18446744073709551616 = n - t := by omega
      rw [e]
      by_cases h6 : n - t < 64
      · rw [if_pos h6, if_pos h6, if_pos (by omega)]
        obtain ⟨j, hj⟩ : ∃ j : Nat, n - t = (j : Int) := ⟨(n - t).toNat, by omega⟩
        have hlt : (s <<< j) % 2 ^ 64 < 2 ^ 64 := Nat.mod_lt _ (by decide)
        rw [hj, k_shl s j (by omega)]
        have e2 := k_or ((s <<< j) % 2 ^ 64) 1 hlt (by decide)
        rw [show ((1 : Nat) : Int) = 1 from rfl] at e2
        rw [e2, Int.toNat_natCast]
      · rw [if_neg h6, if_neg h6]; rfl
  · rw [if_neg hf, if_neg hf]

theorem mk_range (t : Int) (s : Nat) (n : Int) (h0 : 0 ≤ t) (h1 : t ≤ 4611686018427387904) (hs : s < 2 ^ 64) :
    0 ≤ (mk t s n).1 ∧ (mk t s n).1 ≤ 4611686018427387904 ∧ (mk t s n).2.1 < 2 ^ 64 := by
  unfold mk
  by_cases hf : fr t s n = true
  · have hl := fr_le hf
    rw [if_pos hf]
    by_cases hn : n ≤ t
    · rw [if_pos hn]
      exact ⟨h0, h1, Nat.or_lt_two_pow hs (Nat.mod_lt _ (by decide))⟩
    · rw [if_neg hn]
      by_cases h6 : n - t < 64
      · rw [if_pos h6]
        exact ⟨by show 0 ≤ n; omega, by show n ≤ _; omega, Nat.or_lt_two_pow (Nat.mod_lt _ (by decide)) (by decide)⟩
      · rw [if_neg h6]
        exact ⟨by show 0 ≤ n; omega, by show n ≤ _; omega, by show (1 : Nat) < 2 ^ 64; decide⟩
  · rw [if_neg hf]; exact ⟨h0, h1, hs⟩

theorem alive_ok (k : Nat) (hk : 10 ≤ k) : pontoonlaw6_alive.f k = some true :=
  at_rounds pontoonlaw6_alive.mono hk (show pontoonlaw6_alive.f 10 = some true by decide +kernel)

theorem fr_shift (t by_ : Int) (s : Nat) (n : Int) (hn : 1 ≤ n) (hb : 0 ≤ by_) (hm : n + by_ ≤ 4611686018427387904) : fr (t + by_) s (n + by_) = fr t s n := by
  unfold fr
  rw [if_neg (by omega), if_neg (by omega), if_neg (c := n < 1) (by omega), if_neg (c := n > 4611686018427387904) (by omega)]
  have e : t + by_ - (n + by_) = t - n := by omega
  rw [e]
  by_cases h : n > t
  · rw [if_pos h, if_pos (by omega)]
  · rw [if_neg h, if_neg (by omega)]
theorem mk_shift (t by_ : Int) (s : Nat) (n : Int) (hn : 1 ≤ n) (hb : 0 ≤ by_) (hm : n + by_ ≤ 4611686018427387904) :
    mk (t + by_) s (n + by_) = ((mk t s n).1 + by_, (mk t s n).2.1, (mk t s n).2.2) := by
  unfold mk
  rw [fr_shift t by_ s n hn hb hm]
  have e : t + by_ - (n + by_) = t - n := by omega
  have e' : n + by_ - (t + by_) = n - t := by omega
  rw [e, e']
  by_cases hf : fr t s n = true
  · rw [if_pos hf, if_pos hf]
    by_cases h : n ≤ t
    · rw [if_pos h, if_pos (by omega)]
    · rw [if_neg h, if_neg (by omega)]
      by_cases h6 : n - t < 64
      · rw [if_pos h6, if_pos h6]
      · rw [if_neg h6, if_neg h6]
  · rw [if_neg hf, if_neg hf]
theorem mk_top (t : Int) (s : Nat) (n : Int) (h0 : 0 ≤ t) (h1 : t ≤ 500) (hn : 0 ≤ n) (hn5 : n ≤ 500) : 0 ≤ (mk t s n).1 ∧ (mk t s n).1 ≤ 500 := by
  unfold mk
  by_cases hf : fr t s n = true
  · rw [if_pos hf]
    by_cases h : n ≤ t
    · rw [if_pos h]; exact ⟨h0, h1⟩
    · rw [if_neg h]
      by_cases h6 : n - t < 64
      · rw [if_pos h6]; exact ⟨hn, hn5⟩
      · rw [if_neg h6]; exact ⟨hn, hn5⟩
  · rw [if_neg hf]; exact ⟨h0, h1⟩

theorem shift_l0 (l : List Int) (hl : l.length ≤ 60) (by_ : Int) (hb : 0 ≤ by_) (hb2 : by_ ≤ 1099511627776) (d : Nat) : ∀ (k : Nat) (i t : Int) (s : Nat), 0 ≤ i → i + d = l.length → 0 ≤ t → t ≤ 500 → s < 2 ^ 64 → d + 5 < k →
    pontoonlaw6_WindowShift.l0 k l by_ i t s (t + by_) s = some true := by
  induction d with
  | zero =>
    intro k i t s h0 h1 ht ht5 hs hk
    obtain ⟨k, rfl⟩ : ∃ m, k = m + 1 := ⟨k - 1, by omega⟩
    simp only [pontoonlaw6_WindowShift.l0]
    rw [if_neg (by omega)]
  | succ d ih =>
    intro k i t s h0 h1 ht ht5 hs hk
    obtain ⟨k, rfl⟩ : ∃ m, k = m + 1 := ⟨k - 1, by omega⟩
    simp only [pontoonlaw6_WindowShift.l0]
    rw [if_pos (by omega), if_pos h0]
    generalize hx : wrap64 (100 + Int.tmod (wrap64 (Int.tmod (rd l i) 400 + 400)) 400) = n
    have hn : 100 ≤ n ∧ n ≤ 499 := by
      have a1 := Int.tmod_lt_of_pos (rd l i) (b := 400) (by omega)
      have a2 := Int.lt_tmod_of_pos (rd l i) (b := 400) (by omega)
      rw [k_wrap (x := Int.tmod (rd l i) 400 + 400) (by omega) (by omega)] at hx
      have b1 := Int.tmod_lt_of_pos (Int.tmod (rd l i) 400 + 400) (b := 400) (by omega)
      have b2 := Int.tmod_nonneg (a := Int.tmod (rd l i) 400 + 400) 400 (by omega)
      rw [k_wrap (by omega) (by omega)] at hx
      omega
    clear hx
    rw [mark_ok t s n ht (by omega) hs k (by omega)]
    simp only [Option.bind_some]
    rw [k_wrap (x := n + by_) (by omega) (by omega), mark_ok (t + by_) s (n + by_) (by omega) (by omega) hs k (by omega)]
    have hm := mk_shift t by_ s n (by omega) hb (by omega)
    have hr := mk_range t s n ht (by omega) hs
    have ht' := mk_top t s n ht ht5 (by omega) (by omega)
    rw [hm]
    simp only [Option.bind_some]
    rw [if_neg (by simp), if_pos trivial, k_wrap (x := (mk t s n).1 + by_ - (mk t s n).1) (by omega) (by omega), if_pos (by omega), k_wrap (x := i + 1) (by omega) (by omega)]
    exact ih k (i + 1) _ _ (by omega) (by omega) ht'.1 ht'.2 hr.2.2 (by omega)

theorem WindowShift : pontoonlaw6_WindowShift.Pure := by
  intro l by_ _ _ _ _
  refine ⟨200, ?_⟩
  unfold pontoonlaw6_WindowShift.f
  have dead : pontoonlaw6_WindowShift.j0 200 l by_ true = some true := by
    simp only [pontoonlaw6_WindowShift.j0]
    rw [if_pos trivial, alive_ok _ (by omega)]; rfl
  by_cases h1 : (l.length : Int) > 60
  · rw [if_pos h1]; exact dead
  by_cases h2 : by_ < 0
  · rw [if_neg h1, if_pos h2]; exact dead
  by_cases h3 : by_ > 1099511627776
  · rw [if_neg h1, if_neg h2, if_pos h3]; exact dead
  rw [if_neg h1, if_neg h2, if_neg h3, alive_ok _ (by omega)]
  simp only [Option.bind_some, Bool.not_true]
  simp only [pontoonlaw6_WindowShift.j0]
  have hm0 : mk 0 0 200 = (200, 1, true) := by decide
  have hm1 : mk 0 0 (200 + by_) = (200 + by_, 1, true) := by
    have hf : fr 0 0 (200 + by_) = true := by
      unfold fr
      rw [if_neg (show ¬ 200 + by_ < 1 by omega), if_neg (show ¬ 200 + by_ > 4611686018427387904 by omega), if_pos (show 200 + by_ > 0 by omega)]
    unfold mk
    rw [if_pos hf, if_neg (show ¬ 200 + by_ ≤ 0 by omega), if_neg (show ¬ 200 + by_ - 0 < 64 by omega)]
  have a0 := mark_ok 0 0 200 (by omega) (by omega) (by decide) 199 (by omega)
  have a1 := mark_ok 0 0 (200 + by_) (by omega) (by omega) (by decide) 199 (by omega)
  rw [show ((0 : Nat) : Int) = 0 from rfl] at a0 a1
  rw [if_neg (by simp), a0, k_wrap (x := 200 + by_) (by omega) (by omega), a1, hm0, hm1]
  simp only [Option.bind_some]
  exact shift_l0 l (by omega) by_ (by omega) (by omega) l.length 199 0 200 1 (by omega) (by omega) (by omega) (by omega) (by decide) (by omega)

end Go.Proofs.Ytgilccdajlpeaaa.Pure
