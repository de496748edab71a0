/- The plain law of WaitDoubles. Conditions: those in each theorem. -/
import Derived.Test.YtgilccdajlpeaaaQWaitDoublesx2
namespace Go.Proofs.Ytgilccdajlpeaaa.Pure
open Go.RowKit Go.Proofs.Ytgilccdajlpeaaa.PWaitDoubles Go.Proofs.YtgilccdajlpeaaaW.PrintWords Go.Proofs.YtgilccdajlpeaaaW.PrintLast Go.Proofs.YtgilccdajlpeaaaW.PrintMore

theorem k_wrap {x : Int} (h : -9223372036854775808 ≤ x) (h' : x ≤ 9223372036854775807) : wrap64 x = x := by unfold wrap64; omega
theorem k_mn_l {a b : Int} (h : a ≤ b) : mn a b = a := by unfold mn; omega
theorem k_mn_r {a b : Int} (h : b ≤ a) : mn a b = b := by unfold mn; omega
theorem k_mx_l {a b : Int} (h : b ≤ a) : mx a b = a := by unfold mx; omega
theorem k_mx_r {a b : Int} (h : a ≤ b) : mx a b = b := by unfold mx; omega
theorem k_mn_le (a b : Int) : mn a b ≤ a ∧ mn a b ≤ b ∧ (mn a b = a ∨ mn a b = b) := by unfold mn; omega
theorem k_mx_le (a b : Int) : a ≤ mx a b ∧ b ≤ mx a b ∧ (mx a b = a ∨ mx a b = b) := by unfold mx; omega

/-- The distance behind n more doublings. -/
def gp (c : Int) : Nat → Int → Int
  | 0, x => x
  | n + 1, x => gp c n (mn (2 * x) c)
theorem gp_bounds (c : Int) : ∀ (n : Nat) (x : Int), 1 ≤ x → x ≤ c → x ≤ gp c n x ∧ gp c n x ≤ c
  | 0, x, _, h => ⟨Int.le_refl _, h⟩
  | n + 1, x, h1, h => by
    have hm := k_mn_le (2 * x) c
    have := gp_bounds c n (mn (2 * x) c) (by omega) (by omega)
    simp only [gp]
    omega
theorem gp_succ (c : Int) : ∀ (n : Nat) (x : Int), gp c (n + 1) x = mn (2 * gp c n x) c
  | 0, x => rfl
  | n + 1, x => by
    have := gp_succ c n (mn (2 * x) c)
    simp only [gp] at this ⊢
    exact this

/-- A wait within its ends. -/
def Ok (b c m : Int) : Prop := 1 ≤ b ∧ b ≤ c ∧ c ≤ 1000000 ∧ 0 ≤ m ∧ m ≤ 40

theorem ends_ok {b c m : Int} (h : Ok b c m) (t : Int) : wait_Wait_ends.f b c m t = some (b, c, m, t) := by
  obtain ⟨h1, h2, h3, h4, h5⟩ := h
  have e1 : mx b 1 = b := k_mx_l h1
  have e2 : mn b 1000000 = b := k_mn_l (by omega)
  have e3 : mx c b = c := k_mx_l h2
  have e4 : mn c 1000000 = c := k_mn_l h3
  have e5 : mx m 0 = m := k_mx_l h4
  have e6 : mn m 40 = m := k_mn_l h5
  simp only [wait_Wait_ends.f, e1, e2, e3, e4, e5, e6]

theorem gap_l0 (d : Nat) : ∀ (k : Nat) (x n i y0 c y2 y3 : Int), 1 ≤ x → x ≤ c → c ≤ 1000000 → 0 ≤ i → n ≤ 40 → i + d = n → d < k →
    wait_Wait_Gap.l0 k x n i y0 c y2 y3 = some (gp c d x) := by
  induction d with
  | zero =>
    intro k x n i y0 c y2 y3 h1 h2 h3 h4 h5 h6 hk
    obtain ⟨k, rfl⟩ : ∃ m, k = m + 1 := ⟨k - 1, by omega⟩
    simp only [wait_Wait_Gap.l0]
    rw [if_neg (by omega)]
    rfl
  | succ d ih =>
    intro k x n i y0 c y2 y3 h1 h2 h3 h4 h5 h6 hk
    obtain ⟨k, rfl⟩ : ∃ m, k = m + 1 := ⟨k - 1, by omega⟩
    have hm := k_mn_le (2 * x) c
    simp only [wait_Wait_Gap.l0]
    rw [if_pos (by omega), k_wrap (by omega) (by omega), k_wrap (by omega) (by omega)]
    exact ih k _ n _ y0 c y2 y3 (by omega) (by omega) h3 (by omega) h5 (by omega) (by omega)

theorem gap_ok {b c m : Int} (h : Ok b c m) (t : Int) (k : Nat) (hk : 41 < k) : wait_Wait_Gap.f k b c m t = some (gp c m.toNat b) := by
  unfold wait_Wait_Gap.f
  rw [ends_ok h]
  simp only [Option.bind_some]
  obtain ⟨h1, h2, h3, h4, h5⟩ := h
  exact gap_l0 m.toNat k b m 0 b c m t h1 h2 h3 (by omega) h5 (by omega) (by omega)

theorem gp_ok {b c m : Int} (h : Ok b c m) : b ≤ gp c m.toNat b ∧ gp c m.toNat b ≤ c := gp_bounds c _ b h.1 h.2.1

theorem fail_ok {b c m : Int} (h : Ok b c m) (t now : Int) (k : Nat) (hk : 41 < k) (hn : now < 1152921504606846976 - gp c m.toNat b) (h0 : 0 ≤ now) :
    wait_Wait_Fail.f k b c m t now = some (b, c, mn (m + 1) 40, now + gp c m.toNat b) := by
  have hg := gp_ok h
  have ⟨h1, h2, h3, h4, h5⟩ := h
  unfold wait_Wait_Fail.f
  rw [gap_ok h t k hk]
  simp only [Option.bind_some]
  rw [k_wrap (x := 1152921504606846976 - gp c m.toNat b) (by omega) (by omega), if_pos hn, ends_ok h]
  simp only [Option.bind_some]
  rw [k_wrap (x := m + 1) (by omega) (by omega), k_wrap (x := now + gp c m.toNat b) (by omega) (by omega)]

theorem fail_far {b c m : Int} (h : Ok b c m) (t now : Int) (k : Nat) (hk : 41 < k) (hn : ¬ now < 1152921504606846976 - gp c m.toNat b) :
    wait_Wait_Fail.f k b c m t now = some (b, c, mn (m + 1) 40, 1152921504606846976) := by
  have hg := gp_ok h
  have ⟨h1, h2, h3, h4, h5⟩ := h
  unfold wait_Wait_Fail.f
  rw [gap_ok h t k hk]
  simp only [Option.bind_some]
  rw [k_wrap (x := 1152921504606846976 - gp c m.toNat b) (by omega) (by omega), if_neg hn, ends_ok h]
  simp only [Option.bind_some]
  rw [k_wrap (x := m + 1) (by omega) (by omega)]

theorem ok_step {b c m : Int} (h : Ok b c m) : Ok b c (mn (m + 1) 40) := by
  have := k_mn_le (m + 1) 40
  obtain ⟨h1, h2, h3, h4, h5⟩ := h
  exact ⟨h1, h2, h3, by omega, by omega⟩

theorem new_ok (base top now : Int) : ∃ b c, wait_New.f base top now = some (b, c, 0, now) ∧ Ok b c 0 ∧ b = mn (mx base 1) 1000000 ∧ c = mn (mx top (mn (mx base 1) 1000000)) 1000000 := by
  refine ⟨mn (mx base 1) 1000000, mn (mx top (mn (mx base 1) 1000000)) 1000000, rfl, ⟨?_, ?_, ?_, by omega, by omega⟩, rfl, rfl⟩
  · unfold mn mx; omega
  · unfold mn mx; omega
  · unfold mn mx; omega

theorem alive_ok (k : Nat) (hk : 60 ≤ k) : pontoonlaw21_alive.f k = some true :=
  at_rounds pontoonlaw21_alive.mono hk (show pontoonlaw21_alive.f 60 = some true by decide +kernel)

theorem gp_big (c x : Int) (hx : 1 ≤ x) (hc : x ≤ c) : ∀ n : Nat, gp c n x = c ∨ (2 : Int) ^ n ≤ gp c n x
  | 0 => Or.inr (by simp only [gp]; simpa using hx)
  | n + 1 => by
    have hb := gp_bounds c n x hx hc
    have hp : (2 : Int) ^ (n + 1) = 2 ^ n * 2 := Int.pow_succ ..
    rw [gp_succ]
    rcases gp_big c x hx hc n with h | h
    · rw [h]; exact Or.inl (k_mn_r (by omega))
    · have hm := k_mn_le (2 * gp c n x) c
      rcases hm.2.2 with e | e
      · right; rw [e, hp]; omega
      · left; exact e

theorem gp_next {b c m : Int} (h : Ok b c m) : gp c (mn (m + 1) 40).toNat b = mn (2 * gp c m.toNat b) c := by
  have ⟨h1, h2, h3, h4, h5⟩ := h
  by_cases h40 : m = 40
  · subst h40
    have hb := gp_bounds c 40 b h1 h2
    have e : mn (40 + 1) 40 = 40 := k_mn_r (by omega)
    have e2 : (40 : Int).toNat = 40 := rfl
    rw [e, e2]
    rcases gp_big c b h1 h2 40 with h | h
    · rw [h]; exact (k_mn_r (by omega)).symm
    · exfalso
      have : (2 : Int) ^ 40 = 1099511627776 := by decide
      omega
  · have e : (mn (m + 1) 40).toNat = m.toNat + 1 := by rw [k_mn_l (by omega)]; omega
    rw [e, gp_succ]

theorem doubles_j3 (d : Nat)
    (ih : ∀ (k : Nat) (n good i now b c m : Int), Ok b c m → c ≤ 100000 → 0 ≤ i → i + d = n → n ≤ 100 → 0 ≤ now → now ≤ i * 1000000 → 3 * d + 60 < k →
      pontoonlaw21_WaitDoubles.l0 k b c n good now (gp c m.toNat b) i b c m now = some true)
    (k : Nat) (n good i now b c m : Int) (t : Int) (h : Ok b c m) (hc : c ≤ 100000) (h0 : 0 ≤ i) (h1 : i + (d + 1) = n) (h2 : n ≤ 100) (h3 : 0 ≤ now) (h4 : now ≤ i * 1000000) (hk : 3 * d + 61 < k) :
    pontoonlaw21_WaitDoubles.j3 k b c n good now (gp c m.toNat b) i b c m t = some true := by
  obtain ⟨k, rfl⟩ : ∃ m, k = m + 1 := ⟨k - 1, by omega⟩
  have hg := gp_ok h
  have ⟨g1, g2, g3, g4, g5⟩ := h
  simp only [pontoonlaw21_WaitDoubles.j3]
  rw [fail_ok h t now k (by omega) (by omega) h3]
  simp only [Option.bind_some, wait_Wait_Due.f]
  rw [k_wrap (x := now + gp c m.toNat b) (by omega) (by omega), if_pos rfl, if_neg (by simp; omega), k_wrap (x := i + 1) (by omega) (by omega), k_wrap (x := 2 * gp c m.toNat b) (by omega) (by omega), ← gp_next h]
  exact ih k n good (i + 1) _ b c _ (ok_step h) hc (by omega) (by omega) h2 (by omega) (by omega) (by omega)

theorem doubles_l0 (d : Nat) : ∀ (k : Nat) (n good i now b c m : Int), Ok b c m → c ≤ 100000 → 0 ≤ i → i + d = n → n ≤ 100 → 0 ≤ now → now ≤ i * 1000000 → 3 * d + 60 < k →
      pontoonlaw21_WaitDoubles.l0 k b c n good now (gp c m.toNat b) i b c m now = some true := by
  induction d with
  | zero =>
    intro k n good i now b c m h hc h0 h1 h2 h3 h4 hk
    obtain ⟨k, rfl⟩ : ∃ m, k = m + 1 := ⟨k - 1, by omega⟩
    simp only [pontoonlaw21_WaitDoubles.l0]
    rw [if_neg (by omega)]
  | succ d ih =>
    intro k n good i now b c m h hc h0 h1 h2 h3 h4 hk
    obtain ⟨k, rfl⟩ : ∃ m, k = m + 2 := ⟨k - 2, by omega⟩
    have ⟨g1, g2, g3, g4, g5⟩ := h
    have hj : pontoonlaw21_WaitDoubles.j2 (k + 1) b c n good now (gp c m.toNat b) i false b c m now = some true := by
      simp only [pontoonlaw21_WaitDoubles.j2]
      rw [if_neg (by simp)]
      by_cases e : i = good
      · rw [if_pos e]
        simp only [wait_Wait_Good.f, Option.bind_some]
        exact doubles_j3 d ih k n good i now b c 0 now ⟨g1, g2, g3, by omega, by omega⟩ hc h0 (by omega) h2 h3 h4 (by omega)
      · rw [if_neg e]
        exact doubles_j3 d ih k n good i now b c m now h hc h0 (by omega) h2 h3 h4 (by omega)
    simp only [pontoonlaw21_WaitDoubles.l0, wait_Wait_Due.f, Option.bind_some]
    rw [if_pos (by omega), if_pos (by simp)]
    by_cases hp : now > 0
    · rw [if_pos hp, k_wrap (x := now - 1) (by omega) (by omega), if_neg (by simp; omega)]; exact hj
    · rw [if_neg hp]; exact hj

theorem WaitDoubles : pontoonlaw21_WaitDoubles.Pure := by
  intro base top n good _ _ _ _
  refine ⟨1000, ?_⟩
  unfold pontoonlaw21_WaitDoubles.f
  have dead : pontoonlaw21_WaitDoubles.j0 1000 base top n good true = some true := by
    simp only [pontoonlaw21_WaitDoubles.j0]
    rw [if_pos trivial, alive_ok _ (by omega)]; rfl
  by_cases h1 : base < 1
  · rw [if_pos h1]; exact dead
  by_cases h2 : base > 1000
  · rw [if_neg h1, if_pos h2]; exact dead
  by_cases h3 : top < base
  · rw [if_neg h1, if_neg h2, if_pos h3]; exact dead
  by_cases h4 : top > 100000
  · rw [if_neg h1, if_neg h2, if_neg h3, if_pos h4]; exact dead
  by_cases h5 : n < 0
  · rw [if_neg h1, if_neg h2, if_neg h3, if_neg h4, if_pos h5]; exact dead
  by_cases h6 : n > 100
  · rw [if_neg h1, if_neg h2, if_neg h3, if_neg h4, if_neg h5, if_pos h6]; exact dead
  rw [if_neg h1, if_neg h2, if_neg h3, if_neg h4, if_neg h5, if_neg h6, alive_ok _ (by omega)]
  simp only [Option.bind_some, Bool.not_true]
  simp only [pontoonlaw21_WaitDoubles.j0]
  rw [if_neg (by simp)]
  obtain ⟨b, c, hn, hok, hb, hc⟩ := new_ok base top 0
  have e1 : mx base 1 = base := k_mx_l (by omega)
  have e2 : mn base 1000000 = base := k_mn_l (by omega)
  have e3 : mx top base = top := k_mx_l (by omega)
  have e4 : mn top 1000000 = top := k_mn_l (by omega)
  rw [e1, e2] at hb hc
  rw [e3, e4] at hc
  subst hb hc
  rw [hn]
  simp only [Option.bind_some]
  exact doubles_l0 n.toNat 999 n good 0 0 b c 0 hok (by omega) (by omega) (by omega) (by omega) (by omega) (by omega) (by omega)

end Go.Proofs.Ytgilccdajlpeaaa.Pure
