/- What the document's senders and takers of events come to. Conditions: those in each theorem. -/
import Derived.Test.YtjjjinpmflghmaaGreatBk1Ev
import Derived.DataElems
import Derived.Test.YtjjjinpmflghmaaGreatKeyWait
namespace Go.Proofs.YtjjjinpmflghmaaGreat.Keys
open Go.RowKit Go.Proofs.YtjjjinpmflghmaaGreat.Mem Go.Proofs.YtjjjinpmflghmaaGreat.Row Go.Proofs.YtjjjinpmflghmaaGreatW.PrintWords Go.Proofs.YtjjjinpmflghmaaGreatW.PrintMore Go.Proofs.YtjjjinpmflghmaaGreatW.PrintLast
attribute [local go_sem] min2_w max2_w min_two max_two
set_option linter.unusedVariables false
set_option linter.unusedSimpArgs false
/-- A list and a number, in a block. -/
structure IsR (w : World) (g : Nat) (T : TypeId) (A : Option Addr) (c : Nat) (l : List E4) (a : Int) : Prop where
  blk : Blk w g T #[.slice A l.length c, .int .i64 a]
  src : BookEv.Src w A l.length l
  lc : l.length ≤ c
  ne : ∀ x, A = some x → x.block ≠ g
/-- Where a list lies now: where it lay, and unchanged; or in a block that is new. -/
def Whence (w : World) (A A' : Option Addr) (l l' : List E4) : Prop := (A' = A ∧ l' = l) ∨ (l' ≠ [] ∧ ∀ x, A' = some x → w.heap.size ≤ x.block)
section
variable {w w' : World} {g T c : Nat} {A : Option Addr} {l : List E4} {a : Int}
theorem IsR.below (h : IsR w g T A c l a) (hb : Below w.heap.size w w') : IsR w' g T A c l a := ⟨h.blk.below' hb, h.src.below hb, h.lc, h.ne⟩
theorem IsR.set_1 (h : IsR w g T A c l a) (b : Int) : IsR (w.setCell ⟨g, 1, none⟩ (.int .i64 b)) g T A c l b :=
  ⟨(h.blk.set_ 1 _), h.src.only ((Only.refl [g] w).setCell _ _ (.inl (by simp))) (fun x hx => by have := h.ne x hx; simpa using this), h.lc, h.ne⟩
theorem IsR.both (h : IsR w g T A c l a) {A' : Option Addr} {c' : Nat} {l' : List E4} {a' : Int} (hs : BookEv.Src w A' l'.length l') (hc : l'.length ≤ c') (hne : ∀ x, A' = some x → x.block ≠ g) :
    IsR ((w.setCell ⟨g, 0, none⟩ (.slice A' l'.length c')).setCell ⟨g, 1, none⟩ (.int .i64 a')) g T A' c' l' a' :=
  ⟨((h.blk.set_ 0 _).set_ 1 _), hs.only (((Only.refl [g] w).setCell _ _ (.inl (by simp))).setCell _ _ (.inl (by simp))) (fun x hx => by have := hne x hx; simpa using this), hc, hne⟩
theorem add_block (ad : Addr) (n : Nat) : (ad.add n).block = ad.block := by unfold Addr.add; split <;> rfl
theorem fl_drop : ∀ (k : Nat) (l : List E4), (BookEv.fl l).drop (k * 4) = BookEv.fl (l.drop k)
  | 0, l => by simp
  | k + 1, [] => by simp [BookEv.fl]
  | k + 1, e :: l => by
    rw [List.drop_succ_cons, ← fl_drop k l, show (k + 1) * 4 = 4 + k * 4 by omega, ← List.drop_drop]
    rfl
theorem src_drop {ad : Addr} (h : BookEv.Src w (some ad) l.length l) {k : Nat} (hk : k ≤ l.length) : BookEv.Src w (some (ad.add (k * 4))) (l.drop k).length (l.drop k) := by
  refine ⟨rfl, .inr ⟨_, rfl, fun j v hj => ?_⟩⟩
  rw [← fl_drop, List.getElem?_drop] at hj
  rw [Addr.add_add]
  rcases h.2 with h0 | ⟨ad', h1, h2⟩
  · rw [List.eq_nil_of_length_eq_zero h0] at hj
    simp [BookEv.fl] at hj
  · injection h1 with h1
    subst h1
    exact h2 _ _ hj
end
end Go.Proofs.YtjjjinpmflghmaaGreat.Keys
