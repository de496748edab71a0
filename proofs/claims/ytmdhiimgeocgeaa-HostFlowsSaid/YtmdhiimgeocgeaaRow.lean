/- Rows of a call's own, of elements of any type and size: their form, what keeps them, and what a call on an object with one such row turns. Conditions: those in each theorem. -/
import Derived.Test.YtmdhiimgeocgeaaMem
import Derived.Test.YtmdhiimgeocgeaaWWords
namespace Go.Proofs.Ytmdhiimgeocgeaa.Row
open Go.RowKit Go.Proofs.Ytmdhiimgeocgeaa.Mem Go.Proofs.YtmdhiimgeocgeaaW.PrintWords
set_option linter.unusedVariables false
set_option linter.unusedSimpArgs false
section
variable {w w' : World} {B s n : Nat} {e : TypeId} {v : Value} {xs : List Value}
theorem row_form (h : w.ownsRow B e s v n xs) : (v = .slice none 0 0 ∧ n = 0 ∧ xs = []) ∨ ∃ b c, v = .slice (some ⟨b, 0, none⟩) n c ∧ n ≤ c ∧ c ≤ maxLen ∧ B ≤ b ∧ b < w.heap.size ∧ (∀ j u, xs[j]? = some u → w.cell? ⟨b, j, none⟩ = some u) ∧ ∀ j, w.frozen? ⟨b, j, none⟩ = false := by
  have hlt := own_lt h
  obtain ⟨hl, h⟩ := h
  rcases h with ⟨h1, h2⟩ | ⟨g, cap, cur, rfl, h3, h4, h5, h6, h7, h8⟩
  · exact .inl ⟨h1, h2, List.length_eq_zero_iff.1 (by rw [hl, h2, Nat.zero_mul])⟩
  · refine .inr ⟨g, cap, rfl, h5, h6, h3, hlt g rfl, fun j u hj => ?_, fun j => by simp [World.frozen?, h4]⟩
    rw [cell_of_row w g j cur e (0, 0) h4]
    rw [← h8, List.getElem?_take] at hj
    split at hj
    · simpa using hj
    · cases hj
theorem row_sl (h : w.ownsRow B e s v n xs) : ∃ A c, v = .slice A n c := by
  rcases row_form h with ⟨h1, h2, _⟩ | ⟨b, c, h1, _⟩
  · exact ⟨none, 0, by rw [h1, h2]⟩
  · exact ⟨_, _, h1⟩
theorem row_only {gs : List Nat} (h : w.ownsRow B e s v n xs) (ho : Only gs w w') (hv : ∀ k, v.ownBlock = some k → k ∉ gs) : w'.ownsRow B e s v n xs := by
  have hlt := own_lt h
  refine ⟨h.1, h.2.imp id ?_⟩
  rintro ⟨g', cap, cur, rfl, h2, h3, h4⟩
  exact ⟨g', cap, cur, rfl, h2, (ho.block g' (hlt g' rfl) (hv g' rfl)).trans h3, h4⟩
theorem row_zero (h : w.ownsRow B e s v n xs) : w.ownsRow 0 e s v n xs := ⟨h.1, h.2.imp id (fun ⟨g, cap, cur, h1, h2, h3⟩ => ⟨g, cap, cur, h1, Nat.zero_le _, h3⟩)⟩
end
/-- What a call on an object turns: its block, its row; that row is the same block, or a new one. -/
structure Turn (g : Nat) (v : Value) (w w' : World) (v' : Value) : Prop where
  o : Only (g :: v.ownBlock.toList) w w'
  n : ∀ k, v'.ownBlock = some k → v.ownBlock = some k ∨ w.heap.size ≤ k
theorem Turn.refl (g : Nat) (v : Value) (w : World) : Turn g v w w v := ⟨Only.refl _ _, fun k hk => .inl hk⟩
theorem Turn.trans {g : Nat} {v v' v'' : Value} {a b c : World} (h : Turn g v a b v') (k : Turn g v' b c v'') : Turn g v a c v'' :=
  ⟨⟨k.o.os.trans h.o.os, k.o.tape.trans h.o.tape, k.o.output.trans h.o.output, Nat.le_trans h.o.size k.o.size, fun i hi hn => (k.o.block i (Nat.lt_of_lt_of_le hi h.o.size) (fun he => by
      rcases List.mem_cons.1 he with rfl | he
      · exact hn (by simp)
      · have he' : v'.ownBlock = some i := by simpa using he
        rcases h.n i he' with h1 | h1
        · exact hn (by simp [h1])
        · omega)).trans (h.o.block i hi hn)⟩,
   fun i hi => by
    rcases k.n i hi with h1 | h1
    · exact h.n i h1
    · exact .inr (Nat.le_trans h.o.size h1)⟩
theorem Turn.below {g : Nat} {v v' : Value} {a b c : World} (h : Turn g v a b v') (hb : Below b.heap.size b c) : Turn g v a c v' := ⟨h.o.below hb, h.n⟩
theorem Turn.of_below {g : Nat} {v : Value} {a b : World} (hb : Below a.heap.size a b) : Turn g v a b v := (Turn.refl g v a).below hb
theorem Turn.set_ {g : Nat} {v v' : Value} {a b : World} (h : Turn g v a b v') (i : Nat) (u : Value) : Turn g v a (b.setCell ⟨g, i, none⟩ u) v' := ⟨h.o.setCell _ _ (.inl (by simp)), h.n⟩
theorem Turn.drewN {g : Nat} {v v' : Value} {a b : World} (h : Turn g v a b v') (k : Nat) : Turn g v a (b.drewN k) v' := ⟨h.o.drewN k, h.n⟩
theorem Turn.drew {g : Nat} {v v' : Value} {a b : World} (h : Turn g v a b v') : Turn g v a b.drew v' := ⟨h.o.drew, h.n⟩
/-- The row grew. -/
theorem Turn.grown {g : Nat} {v v1 : Value} {w w1 : World} (hg : w.grownBy w1 v.ownBlock) (hb : v1.ownBlock = v.ownBlock ∨ ∃ b, v1.ownBlock = some b ∧ w.heap.size ≤ b) : Turn g v w w1 v1 :=
  ⟨⟨hg.os, hg.tape, hg.output, hg.size, fun k hk hn => hg.block k hk (fun he => hn (by simp [← he]))⟩, fun k hk => by
    rcases hb with h1 | ⟨b, h1, h2⟩
    · exact .inl (by rw [← h1]; exact hk)
    · rw [h1] at hk
      injection hk with hk
      subst hk
      exact .inr h2⟩
theorem Turn.toBelow {B g : Nat} {v v' : Value} {a b : World} (h : Turn g v a b v') (hB : B ≤ a.heap.size) (hg : B ≤ g) (hv : ∀ k, v.ownBlock = some k → B ≤ k) : Below B a b :=
  h.o.toBelow hB (fun k hk => by
    rcases List.mem_cons.1 hk with rfl | hk
    · exact hg
    · exact hv k (by simpa using hk))
end Go.Proofs.Ytmdhiimgeocgeaa.Row
