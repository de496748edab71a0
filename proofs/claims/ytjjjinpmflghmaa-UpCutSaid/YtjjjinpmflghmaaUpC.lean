/- A message of the client that is cut off, or has something behind it, is none. Conditions: those in each theorem. -/
import Derived.Test.YtjjjinpmflghmaaMF
namespace Go.Proofs.Ytjjjinpmflghmaa.Keys
open Go.RowKit Go.Proofs.Ytjjjinpmflghmaa.Mem Go.Proofs.Ytjjjinpmflghmaa.Row Go.Proofs.Ytjjjinpmflghmaa.Obj Go.Proofs.YtjjjinpmflghmaaW.PrintWords Go.Proofs.YtjjjinpmflghmaaW.PrintMore
set_option linter.unusedVariables false
set_option linter.unusedSimpArgs false
theorem numB_pos (v : Nat) : 1 ≤ (numB v).length := by
  by_cases h : v < 128
  · rw [numB_small h]; simp
  · rw [numB_great h]; simp
set_option maxHeartbeats 8000000 in
set_option maxRecDepth 100000 in
theorem up_prefix {t f t' f' : Int} {l l' : List E4} {r : List Int} (h : upV t f l = true) (h' : upV t' f' l' = true) (hr : Bys r) (e : upB t f l ++ r = upB t' f' l') : r = [] := by
  obtain ⟨⟨h2, h3⟩, h4, h5, h6⟩ := upV_iff.1 h
  obtain ⟨h7, h8⟩ := fits_bound h5
  obtain ⟨⟨k2, k3⟩, k4, k5, k6⟩ := upV_iff.1 h'
  obtain ⟨k7, k8⟩ := fits_bound k5
  have e1 : strOfNums (numB t.toNat ++ (numB f.toNat ++ (numB l.length ++ (evsB l ++ r)))) = strOfNums (numB t'.toNat ++ (numB f'.toNat ++ (numB l'.length ++ evsB l'))) := by
    congr 1
    simpa [upB, layB, List.append_assoc] using e
  have a1 : iNum (strOfNums (numB t.toNat ++ (numB f.toNat ++ (numB l.length ++ (evsB l ++ r))))) 0 = iNum (strOfNums (numB t'.toNat ++ (numB f'.toNat ++ (numB l'.length ++ evsB l')))) 0 := by rw [e1]
  rw [iNum_put _ (by omega), iNum_put _ (by omega)] at a1
  injection a1 with _ a1
  injection a1 with a1 _
  have a2 : iNum (strOfNums (numB f.toNat ++ (numB l.length ++ (evsB l ++ r)))) 0 = iNum (strOfNums (numB f'.toNat ++ (numB l'.length ++ evsB l'))) 0 := by rw [a1]
  rw [iNum_put _ (by omega), iNum_put _ (by omega)] at a2
  injection a2 with _ a2
  injection a2 with a2 _
  have a3 : iNum (strOfNums (numB l.length ++ (evsB l ++ r))) 0 = iNum (strOfNums (numB l'.length ++ evsB l')) 0 := by rw [a2]
  rw [iNum_put _ (by omega), iNum_put _ (by omega)] at a3
  injection a3 with a4 a3
  injection a3 with a5 _
  have a6 := evsRead_put h6 hr
  have a7 := evsRead_put k6 Bys.nil
  rw [List.append_nil] at a7
  rw [a5, a4, a7] at a6
  injection a6 with _ a6
  injection a6 with a6 _
  have a8 := congrArg bytesOf a6
  rw [bytesOf_str hr, bytesOf_str Bys.nil] at a8
  exact a8.symm
theorem IsUp.bytes {b : ByteArray} {t f : Int} {l : List E4} (h : IsUp b t f l) : bytesOf b = upB t f l := by
  obtain ⟨h1, rfl⟩ := h
  rw [bytesOf_str]
  exact (numB_by _).app ((numB_by _).app (layB_by (upV_iff.1 h1).2.2.2))
theorem bytesOf_take (b : ByteArray) (k : Nat) : bytesOf (b.extract 0 k) = (bytesOf b).take k := by
  unfold bytesOf
  simp [List.map_take]
theorem up_cut {b : ByteArray} {t f t' f' : Int} {l l' : List E4} {k : Nat} (h : IsUp b t f l) (hk : k < b.size) : ¬ IsUp (b.extract 0 k) t' f' l' := fun h' => by
  have e1 := h.bytes
  have e2 := h'.bytes
  rw [bytesOf_take] at e2
  have e3 := up_prefix (r := (bytesOf b).drop k) h'.1 h.1 (fun x hx => bys_of b x (List.mem_of_mem_drop hx)) (by rw [← e2, List.take_append_drop, e1])
  have e4 := congrArg List.length e3
  have e5 := bytesOf_length b
  rw [List.length_drop, List.length_nil] at e4
  omega
theorem up_more {b m : ByteArray} {t f t' f' : Int} {l l' : List E4} (h : IsUp b t f l) (hm : 1 ≤ m.size) : ¬ IsUp (b ++ m) t' f' l' := fun h' => by
  have e1 := h.bytes
  have e2 := h'.bytes
  rw [show bytesOf (b ++ m) = bytesOf b ++ bytesOf m by unfold bytesOf; simp, e1] at e2
  have e3 := up_prefix h.1 h'.1 (bys_of m) e2
  have e4 := congrArg List.length e3
  have e5 := bytesOf_length m
  rw [List.length_nil] at e4
  omega
end Go.Proofs.Ytjjjinpmflghmaa.Keys
