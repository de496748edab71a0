/- A slice of strings that came in, as a list. Conditions: those in each theorem. -/
import Derived.Test.YtjjjinpmflghmaaMA
import Derived.SliceStrings
namespace Go.Proofs.Ytjjjinpmflghmaa.Obj
open Go.RowKit Go.Proofs.YtjjjinpmflghmaaW.PrintWords Go.Proofs.YtjjjinpmflghmaaW.PrintMore
/-- A slice of n strings that came in reads as ss. -/
def ArgStr (w : World) (A : Option Addr) (n : Nat) (ss : List ByteArray) : Prop :=
  ss.length = n ∧ n ≤ maxLen ∧ (n = 0 ∨ ∃ ad, A = some ad ∧ ∀ i s, ss[i]? = some s → w.cell? (ad.add i) = some (.string s))
theorem ArgStr.of {w : World} {a : Addr} {len cap : Nat} {ss : List ByteArray} (hl : len ≤ cap) (hm : cap ≤ maxLen) (hz : ss.length = cap) (hc : ∀ i, i < ss.length → w.cell? (a.add i) = some (.string (ss.getD i ByteArray.empty))) : ArgStr w (some a) len (ss.take len) := by
  refine ⟨by simp; omega, by omega, .inr ⟨a, rfl, fun i s h => ?_⟩⟩
  rw [List.getElem?_take] at h
  split at h
  · have hi := (List.getElem?_eq_some_iff.1 h).1
    rw [hc i hi, List.getD_eq_getElem?_getD, h]
    rfl
  · cases h
theorem ArgStr.nil (w : World) : ArgStr w none 0 [] := ⟨rfl, by simp, .inl rfl⟩
theorem ArgStr.below {w w' : World} {A : Option Addr} {n : Nat} {ss : List ByteArray} (h : ArgStr w A n ss) (hb : Below w.heap.size w w') : ArgStr w' A n ss :=
  ⟨h.1, h.2.1, h.2.2.imp id (fun ⟨ad, hA, hc⟩ => ⟨ad, hA, fun i s hi => pw_cell_below hb (hc i s hi)⟩)⟩
theorem ArgStr.at_ {w : World} {A : Option Addr} {n : Nat} {ss : List ByteArray} (h : ArgStr w A n ss) (i : Nat) (s : ByteArray) (hi : ss[i]? = some s) : ∃ ad, A = some ad ∧ w.cell? (ad.add i) = some (.string s) := by
  rcases h.2.2 with h0 | ⟨ad, hA, hc⟩
  · have := (List.getElem?_eq_some_iff.1 hi).1
    have := h.1
    omega
  · exact ⟨ad, hA, hc i s hi⟩
end Go.Proofs.Ytjjjinpmflghmaa.Obj
