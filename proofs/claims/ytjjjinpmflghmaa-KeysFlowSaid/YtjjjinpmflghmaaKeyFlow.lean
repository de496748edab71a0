/- What a flow of events holds, and what each call makes of it. Conditions: those in each theorem. -/
import Derived.Test.YtjjjinpmflghmaaKeyWait
import Derived.Test.YtjjjinpmflghmaaKeyFlowP
import Derived.Test.YtjjjinpmflghmaaLawKB
namespace Go.Proofs.Ytjjjinpmflghmaa.Keys
open Go.RowKit Go.Proofs.Ytjjjinpmflghmaa.Mem Go.Proofs.YtjjjinpmflghmaaW.PrintWords Go.Proofs.YtjjjinpmflghmaaW.PrintMore Go.Proofs.YtjjjinpmflghmaaW.PrintLast Go.Proofs.Ytjjjinpmflghmaa.PKeysBounds
set_option linter.unusedVariables false
set_option linter.unusedSimpArgs false
/-- All events that were added; a are done, b have come, c are known to have come. -/
structure FL (WB : World) (go gi : Nat) (vo vi : Value) (all : List E4) (a b c : Nat) (w : World) : Prop where
  q : QQ WB go gi vo (all.drop c) (all.length : Int) (c : Int) vi ((all.take b).drop a) (a : Int) (b : Int) w
  ok : ∀ e ∈ all, okE e = true
  n : a ≤ b ∧ b ≤ all.length ∧ c ≤ b ∧ all.length - c ≤ 40 ∧ b - a ≤ 40
section
variable {WB w w' : World} {go gi : Nat} {vo vi : Value} {all : List E4} {a b c : Nat}
theorem FL.below (h : FL WB go gi vo vi all a b c w) (hb : Below w.heap.size w w') : FL WB go gi vo vi all a b c w' := ⟨h.q.below hb, h.ok, h.n⟩
theorem FL.add (h : FL WB go gi vo vi all a b c w) (e : E4) (hok : okE e = true) (hlen : all.length ≤ 100000) :
    Calls Try.prog 11 #[.pointer (some ⟨go, 0, none⟩), .slice (some ⟨w.heap.size, 0, none⟩) 1 1] (w.alloc (.cells (fe [e]).toArray 38)) fun r w' => (r = .returned (.int .i64 1) ∧ ∃ vo', FL WB go gi vo' vi (all ++ [e]) a b c w') ∨ (r = .returned (.int .i64 0) ∧ ∃ vo', FL WB go gi vo' vi all a b c w') := by
  obtain ⟨h1, h2, h3, h4, h5⟩ := h.n
  have hdl : (all.drop c).length = all.length - c := by simp
  refine ((h.q.below (below_alloc (Below.refl _ _) (.cells (fe [e]).toArray 38))).add [e] w.heap.size 1 1 rfl (lit_src w [e]) (far_new h.q.o).1 (far_new h.q.o).2 (by omega) (by omega) (by omega) (by omega)).mono ?_
  rintro r w1 ⟨rfl, A', c', hq, _⟩
  rw [hdl] at hq ⊢
  by_cases hr : all.length - c < 40
  · have ha : addE (all.length - c) [e] = [e] := by simp [addE, hok, hr]
    rw [ha] at hq ⊢
    have e1 : (all.length : Int) + (([e] : List E4).length : Int) = ((all ++ [e]).length : Int) := by simp
    rw [← List.drop_append_of_le_length (by omega), ← List.take_append_of_le_length (l₂ := [e]) h2, e1] at hq
    have hk : ∀ x ∈ all ++ [e], okE x = true := by
      intro x hx
      rcases List.mem_append.1 hx with hx | hx
      · exact h.ok x hx
      · rw [List.mem_singleton.1 hx]; exact hok
    exact .inl ⟨rfl, _, hq, hk, by simp; omega⟩
  · have ha : addE (all.length - c) [e] = [] := by simp [addE, hr]
    rw [ha] at hq ⊢
    rw [List.append_nil, show (all.length : Int) + (([] : List E4).length : Int) = (all.length : Int) by simp] at hq
    exact .inr ⟨rfl, _, hq, h.ok, h.n⟩
theorem FL.ack (h : FL WB go gi vo vi all a b c w) (hlen : all.length ≤ 100000) :
    Calls Try.prog 15 #[.pointer (some ⟨go, 0, none⟩), .int .i64 (b : Int)] w fun r w' => ∃ k vo', r = .returned (.int .i64 k) ∧ FL WB go gi vo' vi all a b b w' := by
  obtain ⟨h1, h2, h3, h4, h5⟩ := h.n
  by_cases hbc : b = c
  · subst hbc
    refine (ack_none go vo _ _ _ w h.q.o).mono ?_
    rintro r w1 ⟨rfl, rfl⟩
    exact ⟨0, vo, rfl, h⟩
  · refine (ack_calls go vo _ _ _ (b : Int) w h.q.o (by simp; omega) (by omega) (by omega) (by simp; omega) (by omega) (by omega)).mono ?_
    rintro r w1 ⟨rfl, v', hq, ht⟩
    have hq' := h.q.setO hq ht
    rw [show ((b : Int) - (c : Int)).toNat = b - c by omega, List.drop_drop, show c + (b - c) = b by omega] at hq'
    exact ⟨_, v', rfl, hq', h.ok, h1, h2, Nat.le_refl _, by omega, h5⟩
theorem FL.next_some (h : FL WB go gi vo vi all a b c w) (hlen : all.length ≤ 100000) (hab : a < b) :
    ∃ e, all[a]? = some e ∧ Calls Try.prog 14 #[.pointer (some ⟨gi, 0, none⟩)] w fun r w' => r = .returned (.tuple #[e.val, .bool true]) ∧ ∃ vi', FL WB go gi vo vi' all (a + 1) b c w' := by
  obtain ⟨h1, h2, h3, h4, h5⟩ := h.n
  obtain ⟨e, he⟩ : ∃ e, all[a]? = some e := ⟨all[a]'(by omega), by simp⟩
  have hl : (all.take b).drop a = e :: (all.take b).drop (a + 1) := drop_at (by rw [List.getElem?_take, if_pos hab]; exact he)
  have hq0 := h.q
  rw [hl] at hq0
  refine ⟨e, he, (Keys.next_some gi vi e _ _ _ w hq0.i (by omega) (by omega) (by simp; omega)).mono ?_⟩
  rintro r w1 ⟨rfl, v', hq, ht⟩
  exact ⟨rfl, v', hq0.setI hq ht, h.ok, hab, h2, h3, h4, by omega⟩
theorem FL.next_none (h : FL WB go gi vo vi all a b c w) (hab : ¬ a < b) :
    Calls Try.prog 14 #[.pointer (some ⟨gi, 0, none⟩)] w fun r w' => r = .returned (.tuple #[.agg #[.int .i64 0, .string ⟨#[]⟩, .int .i64 0, .int .i64 0], .bool false]) ∧ FL WB go gi vo vi all a b c w' := by
  obtain ⟨h1, h2, h3, h4, h5⟩ := h.n
  have hl : (all.take b).drop a = [] := List.drop_of_length_le (by simp; omega)
  have hq0 := h.q
  rw [hl] at hq0
  refine (Keys.next_none gi vi _ _ w hq0.i).mono ?_
  rintro r w1 ⟨rfl, hb⟩
  exact ⟨rfl, h.below hb⟩
theorem FL.wait_none (h : FL WB go gi vo vi all a b c w) (most : Int) (hc : all.length ≤ c) :
    Calls Try.prog 28 #[.pointer (some ⟨go, 0, none⟩), .int .i64 most] w fun r w' => r = .returned (.tuple #[.int .i64 0, .slice none 0 0]) ∧ w = w' := by
  have hq0 := h.q
  rw [List.drop_of_length_le hc] at hq0
  exact Keys.wait_none go vo _ _ most w hq0.o
theorem FL.wait_some (h : FL WB go gi vo vi all a b c w) (most : Int) (hc : c < all.length) (hlen : all.length ≤ 100000) :
    Calls Try.prog 28 #[.pointer (some ⟨go, 0, none⟩), .int .i64 most] w fun r w' => ∃ (m : Nat) (v' : Value), r = .returned (.tuple #[.int .i64 ((c : Int) + 1), v']) ∧ m ≤ all.length - c ∧ w'.ownsRow 0 38 4 v' m (fe ((all.drop c).take m)) ∧ some gi ≠ v'.ownBlock ∧ (∀ k, v'.ownBlock = some k → vi.ownBlock ≠ some k) ∧ Below w.heap.size w w' := by
  have hdl : (all.drop c).length = all.length - c := by simp
  have hq0 := h.q
  rcases own_form hq0.o.row with ⟨_, h2⟩ | ⟨gb, cc, h1, h2, _⟩
  · omega
  · have hq1 := hq0.o
    rw [h1] at hq1
    refine (Keys.wait_some go gb cc (min (max most 0) ((all.drop c).length : Int)).toNat (all.drop c) _ _ most w hq1 (by omega) (by omega) (by omega) (by omega) (by omega) (by omega) (by omega)).mono ?_
    rintro r w1 ⟨⟨v', rfl, hr⟩, hb⟩
    exact ⟨_, v', rfl, by omega, row_new hr, fun e => by have := own_base hr _ e.symm; have := hq0.i.blk.lt; omega, fun k hk hk2 => by have := own_base hr _ hk; have := own_lt hq0.i.row _ hk2; omega, hb⟩
theorem FL.take (h : FL WB go gi vo vi all a b c w) (hlen : all.length ≤ 100000) (m : Nat) (v' : Value) (hm : m ≤ all.length - c) (hr : w.ownsRow 0 38 4 v' m (fe ((all.drop c).take m))) (hgi : some gi ≠ v'.ownBlock) (hvi : ∀ k, v'.ownBlock = some k → vi.ownBlock ≠ some k) :
    Calls Try.prog 12 #[.pointer (some ⟨gi, 0, none⟩), .int .i64 ((c : Int) + 1), v'] w fun r w' => ∃ (k : Int) (t : Nat) (vi' : Value), r = .returned (.int .i64 k) ∧ FL WB go gi vo vi' all a (b + t) c w' := by
  obtain ⟨h1, h2, h3, h4, h5⟩ := h.n
  have hml : ((all.drop c).take m).length = m := by simp; omega
  rcases own_form hr with ⟨rfl, h6⟩ | ⟨gb, cc, rfl, h6, h7⟩
  · refine (take_nil gi vi _ _ _ ((c : Int) + 1) 0 w h.q.i).mono ?_
    rintro r w1 ⟨rfl, rfl⟩
    exact ⟨_, 0, vi, rfl, h⟩
  · obtain ⟨t, ht1, ht2, ht3, ht4, ht5⟩ := flow_take all h.ok a b c m h1 h2 h3 hm h5
    refine (h.q.take ((all.drop c).take m) ((c : Int) + 1) gb cc m hml h7 (fun e => hgi (by rw [← e]; rfl)) (fun e => hvi gb rfl e.symm) (by omega) (by omega) (by simp; omega) (by omega) (by omega) (by omega)).mono ?_
    rintro r w1 ⟨rfl, A', c', hq, _⟩
    rw [ht3, ht4, ht5] at hq
    exact ⟨_, t, _, rfl, by exact_mod_cast hq, h.ok, by omega, ht1, by omega, h4, ht2⟩
/-- What Wait told: events from the first that is not known to have come. -/
def Told (vi : Value) (gi : Nat) (all : List E4) (c : Nat) (n : Int) (v' : Value) (w : World) : Prop :=
  0 < n → n = (c : Int) + 1 ∧ ∃ m : Nat, m ≤ all.length - c ∧ w.ownsRow 0 38 4 v' m (fe ((all.drop c).take m)) ∧ some gi ≠ v'.ownBlock ∧ (∀ k, v'.ownBlock = some k → vi.ownBlock ≠ some k)
theorem FL.wait (h : FL WB go gi vo vi all a b c w) (most : Int) (hlen : all.length ≤ 100000) :
    Calls Try.prog 28 #[.pointer (some ⟨go, 0, none⟩), .int .i64 most] w fun r w' => ∃ (n : Int) (v' : Value), r = .returned (.tuple #[.int .i64 n, v']) ∧ Told vi gi all c n v' w' ∧ FL WB go gi vo vi all a b c w' := by
  by_cases hc : c < all.length
  · refine (h.wait_some most hc hlen).mono ?_
    rintro r w1 ⟨m, v', rfl, h1, h2, h3, h4, h5⟩
    exact ⟨_, v', rfl, fun _ => ⟨rfl, m, h1, h2, h3, h4⟩, h.below h5⟩
  · refine (h.wait_none most (by omega)).mono ?_
    rintro r w1 ⟨rfl, rfl⟩
    exact ⟨0, _, rfl, fun h0 => absurd h0 (by decide), h⟩
theorem FL.take_told (h : FL WB go gi vo vi all a b c w) (hlen : all.length ≤ 100000) {n : Int} {v' : Value} (ht : Told vi gi all c n v' w) (hn : 0 < n) :
    Calls Try.prog 12 #[.pointer (some ⟨gi, 0, none⟩), .int .i64 n, v'] w fun r w' => ∃ (k : Int) (b' : Nat) (vi' : Value), r = .returned (.int .i64 k) ∧ FL WB go gi vo vi' all a b' c w' := by
  obtain ⟨rfl, m, h1, h2, h3, h4⟩ := ht hn
  refine (h.take hlen m v' h1 h2 h3 h4).mono ?_
  rintro r w1 ⟨k, t, vi', rfl, hf⟩
  exact ⟨k, _, vi', rfl, hf⟩
end
end Go.Proofs.Ytjjjinpmflghmaa.Keys
