/- The plain law of WaitApart. Conditions: those in each theorem. -/
import Derived.Test.YtgilccdajlpeaaaQWaitApartx2
namespace Go.Proofs.Ytgilccdajlpeaaa.Pure
open Go.RowKit Go.Proofs.Ytgilccdajlpeaaa.PWaitApart Go.Proofs.YtgilccdajlpeaaaW.PrintWords Go.Proofs.YtgilccdajlpeaaaW.PrintLast Go.Proofs.YtgilccdajlpeaaaW.PrintMore

theorem k_wrap {x : Int} (h : -9223372036854775808 ≤ x) (h' : x ≤ 9223372036854775807) : wrap64 x = x := by unfold wrap64; omega
theorem k_mn_l {a b : Int} (h : a ≤ b) : mn a b = a := by unfold mn; omega
theorem k_mn_r {a b : Int} (h : b ≤ a) : mn a b = b := by unfold mn; omega
theorem k_mx_l {a b : Int} (h : b ≤ a) : mx a b = a := by unfold mx; omega
theorem k_mx_r {a b : Int} (h : a ≤ b) : mx a b = b := by unfold mx; omega
theorem k_mn_le (a b : Int) : mn a b ≤ a ∧ mn a b ≤ b ∧ (mn a b = a ∨ mn a b = b) := by unfold mn; omega
theorem k_mx_le (a b : Int) : a ≤ mx a b ∧ b ≤ mx a b ∧ (mx a b = a ∨ mx a b = b) := by unfold mx; omega

/-- The distance behind n more doublings. -/
def gp (c : Int) : Nat → Int → Int
  | 0, x => x
  | n + 1, x => gp c n (mn (2 * x) c)
theorem gp_bounds (c : Int) : ∀ (n : Nat) (x : Int), 1 ≤ x → x ≤ c → x ≤ gp c n x ∧ gp c n x ≤ c
  | 0, x, _, h => ⟨Int.le_refl _, h⟩
  | n + 1, x, h1, h => by
    have hm := k_mn_le (2 * x) c
    have := gp_bounds c n (mn (2 * x) c) (by omega) (by omega)
    simp only [gp]
    omega
theorem gp_succ (c : Int) : ∀ (n : Nat) (x : Int), gp c (n + 1) x = mn (2 * gp c n x) c
  | 0, x => rfl
  | n + 1, x => by
    have := gp_succ c n (mn (2 * x) c)
    simp only [gp] at this ⊢
    exact this

/-- A wait within its ends. -/
def Ok (b c m : Int) : Prop := 1 ≤ b ∧ b ≤ c ∧ c ≤ 1000000 ∧ 0 ≤ m ∧ m ≤ 40

theorem ends_ok {b c m : Int} (h : Ok b c m) (t : Int) : wait_Wait_ends.f b c m t = some (b, c, m, t) := by
  obtain ⟨h1, h2, h3, h4, h5⟩ := h
  have e1 : mx b 1 = b := k_mx_l h1
  have e2 : mn b 1000000 = b := k_mn_l (by omega)
  have e3 : mx c b = c := k_mx_l h2
  have e4 : mn c 1000000 = c := k_mn_l h3
  have e5 : mx m 0 = m := k_mx_l h4
  have e6 : mn m 40 = m := k_mn_l h5
  simp only [wait_Wait_ends.f, e1, e2, e3, e4, e5, e6]

theorem gap_l0 (d : Nat) : ∀ (k : Nat) (x n i y0 c y2 y3 : Int), 1 ≤ x → x ≤ c → c ≤ 1000000 → 0 ≤ i → n ≤ 40 → i + d = n → d < k →
    wait_Wait_Gap.l0 k x n i y0 c y2 y3 = some (gp c d x) := by
  induction d with
  | zero =>
    intro k x n i y0 c y2 y3 h1 h2 h3 h4 h5 h6 hk
    obtain ⟨k, rfl⟩ : ∃ m, k = m + 1 := ⟨k - 1, by omega⟩
    simp only [wait_Wait_Gap.l0]
    rw [if_neg (by omega)]
    rfl
  | succ d ih =>
    intro k x n i y0 c y2 y3 h1 h2 h3 h4 h5 h6 hk
    obtain ⟨k, rfl⟩ : ∃ m, k = m + 1 := ⟨k - 1, by omega⟩
    have hm := k_mn_le (2 * x) c
    simp only [wait_Wait_Gap.l0]
    rw [if_pos (by omega), k_wrap (by omega) (by omega), k_wrap (by omega) (by omega)]
    exact ih k _ n _ y0 c y2 y3 (by omega) (by omega) h3 (by omega) h5 (by omega) (by omega)

theorem gap_ok {b c m : Int} (h : Ok b c m) (t : Int) (k : Nat) (hk : 41 < k) : wait_Wait_Gap.f k b c m t = some (gp c m.toNat b) := by
  unfold wait_Wait_Gap.f
  rw [ends_ok h]
  simp only [Option.bind_some]
  obtain ⟨h1, h2, h3, h4, h5⟩ := h
  exact gap_l0 m.toNat k b m 0 b c m t h1 h2 h3 (by omega) h5 (by omega) (by omega)

theorem gp_ok {b c m : Int} (h : Ok b c m) : b ≤ gp c m.toNat b ∧ gp c m.toNat b ≤ c := gp_bounds c _ b h.1 h.2.1

theorem fail_ok {b c m : Int} (h : Ok b c m) (t now : Int) (k : Nat) (hk : 41 < k) (hn : now < 1152921504606846976 - gp c m.toNat b) (h0 : 0 ≤ now) :
    wait_Wait_Fail.f k b c m t now = some (b, c, mn (m + 1) 40, now + gp c m.toNat b) := by
  have hg := gp_ok h
  have ⟨h1, h2, h3, h4, h5⟩ := h
  unfold wait_Wait_Fail.f
  rw [gap_ok h t k hk]
  simp only [Option.bind_some]
  rw [k_wrap (x := 1152921504606846976 - gp c m.toNat b) (by omega) (by omega), if_pos hn, ends_ok h]
  simp only [Option.bind_some]
  rw [k_wrap (x := m + 1) (by omega) (by omega), k_wrap (x := now + gp c m.toNat b) (by omega) (by omega)]

theorem fail_far {b c m : Int} (h : Ok b c m) (t now : Int) (k : Nat) (hk : 41 < k) (hn : ¬ now < 1152921504606846976 - gp c m.toNat b) :
    wait_Wait_Fail.f k b c m t now = some (b, c, mn (m + 1) 40, 1152921504606846976) := by
  have hg := gp_ok h
  have ⟨h1, h2, h3, h4, h5⟩ := h
  unfold wait_Wait_Fail.f
  rw [gap_ok h t k hk]
  simp only [Option.bind_some]
  rw [k_wrap (x := 1152921504606846976 - gp c m.toNat b) (by omega) (by omega), if_neg hn, ends_ok h]
  simp only [Option.bind_some]
  rw [k_wrap (x := m + 1) (by omega) (by omega)]

theorem ok_step {b c m : Int} (h : Ok b c m) : Ok b c (mn (m + 1) 40) := by
  have := k_mn_le (m + 1) 40
  obtain ⟨h1, h2, h3, h4, h5⟩ := h
  exact ⟨h1, h2, h3, by omega, by omega⟩

theorem new_ok (base top now : Int) : ∃ b c, wait_New.f base top now = some (b, c, 0, now) ∧ Ok b c 0 ∧ b = mn (mx base 1) 1000000 ∧ c = mn (mx top (mn (mx base 1) 1000000)) 1000000 := by
  refine ⟨mn (mx base 1) 1000000, mn (mx top (mn (mx base 1) 1000000)) 1000000, rfl, ⟨?_, ?_, ?_, by omega, by omega⟩, rfl, rfl⟩
  · unfold mn mx; omega
  · unfold mn mx; omega
  · unfold mn mx; omega

theorem alive_ok (k : Nat) (hk : 60 ≤ k) : pontoonlaw21_alive.f k = some true :=
  at_rounds pontoonlaw21_alive.mono hk (show pontoonlaw21_alive.f 60 = some true by decide +kernel)

theorem apart_l0 (d : Nat) : ∀ (k : Nat) (n i now b c m : Int), Ok b c m → 0 ≤ i → i + d = n → n ≤ 60 → 0 ≤ now → now ≤ i * 1000000 → d + 60 < k →
    pontoonlaw21_WaitApart.l0 k n b c now i b c m now = some true := by
  induction d with
  | zero =>
    intro k n i now b c m h h0 h1 h2 h3 h4 hk
    obtain ⟨k, rfl⟩ : ∃ m, k = m + 1 := ⟨k - 1, by omega⟩
    simp only [pontoonlaw21_WaitApart.l0]
    rw [if_neg (by omega)]
    simp
  | succ d ih =>
    intro k n i now b c m h h0 h1 h2 h3 h4 hk
    obtain ⟨k, rfl⟩ : ∃ m, k = m + 1 := ⟨k - 1, by omega⟩
    have hg := gp_ok h
    have ⟨g1, g2, g3, g4, g5⟩ := h
    simp only [pontoonlaw21_WaitApart.l0]
    rw [if_pos (by omega), fail_ok h now now k (by omega) (by omega) h3]
    simp only [Option.bind_some, wait_Wait_Due.f]
    rw [k_wrap (x := now + gp c m.toNat b - now) (by omega) (by omega), if_neg (by omega), if_neg (by omega), if_pos (by simp), k_wrap (x := now + gp c m.toNat b - 1) (by omega) (by omega), if_neg (by simp; omega), k_wrap (x := i + 1) (by omega) (by omega)]
    exact ih k n (i + 1) _ b c _ (ok_step h) (by omega) (by omega) h2 (by omega) (by omega) (by omega)

theorem WaitApart : pontoonlaw21_WaitApart.Pure := by
  intro base top n _ _ _
  refine ⟨200, ?_⟩
  unfold pontoonlaw21_WaitApart.f
  have dead : pontoonlaw21_WaitApart.j0 200 base top n true = some true := by
    simp only [pontoonlaw21_WaitApart.j0]
    rw [if_pos trivial, alive_ok _ (by omega)]; rfl
  by_cases h1 : n < 0
  · rw [if_pos h1]; exact dead
  · rw [if_neg h1]
    by_cases h2 : n > 60
    · rw [if_pos h2]; exact dead
    · rw [if_neg h2, alive_ok _ (by omega)]
      simp only [Option.bind_some, Bool.not_true]
      simp only [pontoonlaw21_WaitApart.j0]
      rw [if_neg (by simp)]
      obtain ⟨b, c, hn, hok, hb, hc⟩ := new_ok base top 0
      rw [hn, ← hc, ← hb]
      simp only [Option.bind_some]
      exact apart_l0 n.toNat 199 n 0 0 b c 0 hok (by omega) (by omega) (by omega) (by omega) (by omega) (by omega)

end Go.Proofs.Ytgilccdajlpeaaa.Pure
