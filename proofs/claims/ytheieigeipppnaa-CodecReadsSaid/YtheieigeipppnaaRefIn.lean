/- What the calls of the document's reader come to. Conditions: those in each theorem. -/
import Derived.Test.YtheieigeipppnaaRefP
import Derived.OpenShut
namespace Go.Proofs.Ytheieigeipppnaa.Obj
open Go.RowKit Go.Proofs.YtheieigeipppnaaW.PrintWords Go.Proofs.YtheieigeipppnaaW.PrintMore
set_option linter.unusedVariables false
set_option linter.unusedSimpArgs false

/-- The document's reader at block g: what is left, and the error. -/
def IsRIn (w : World) (g : Nat) (b : ByteArray) (e : Int) : Prop := w.heap[g]? = some (.cells #[.string b, .int .i64 e] 60 (0, 0))
theorem IsRIn.below {g : Nat} {w w' : World} {b : ByteArray} {e : Int} (h : IsRIn w g b e) (hb : Below w.heap.size w w') : IsRIn w' g b e := (hb.block g (blk_lt h)).trans h
theorem IsRIn.set0 {g : Nat} {w : World} {b : ByteArray} {e : Int} (h : IsRIn w g b e) (b' : ByteArray) : IsRIn (w.setCell ⟨g, 0, none⟩ (.string b')) g b' e := (blk_set h 0 _).trans rfl
theorem IsRIn.set1 {g : Nat} {w : World} {b : ByteArray} {e : Int} (h : IsRIn w g b e) (e' : Int) : IsRIn (w.setCell ⟨g, 1, none⟩ (.int .i64 e')) g b e' := (blk_set h 1 _).trans rfl
theorem rnum_err (g : Nat) (b : ByteArray) (e : Int) (he : e ≠ 0) (w : World) (h : IsRIn w g b e) :
    Calls Try.prog 36 #[.pointer (some ⟨g, 0, none⟩)] w fun r w' => r = .returned (.int .i64 0) ∧ w = w' := by
  have c1 : w.cell? ⟨g, 1, none⟩ = some (.int .i64 e) := (blk_cell h 1).trans rfl
  have he' : (e != 0) = true := by simpa using he
  clear h he
  go_enter Try.func36, Try.ntmps36
  go_wp2
  go_ret
  exact ⟨rfl, rfl⟩
set_option maxHeartbeats 4000000 in
set_option maxRecDepth 100000 in
theorem rnum_ok (g : Nat) (b : ByteArray) (w : World) (h : IsRIn w g b 0) (hs : b.size ≤ 140737488355328) :
    Calls Try.prog 36 #[.pointer (some ⟨g, 0, none⟩)] w fun r w' => r = .returned (.int .i64 (rNum b).1) ∧ IsRIn w' g (rNum b).2.1 (rNum b).2.2 ∧ Fg g w w' := by
  have c0 : w.cell? ⟨g, 0, none⟩ = some (.string b) := (blk_cell h 0).trans rfl
  have c1 : w.cell? ⟨g, 1, none⟩ = some (.int .i64 0) := (blk_cell h 1).trans rfl
  have f0 := blk_frozen h 0
  have f1 := blk_frozen h 1
  have HI := Aside0.mk h
  clear h
  go_enter Try.func36, Try.ntmps36
  go_wp2_with fail
  go_loopg [3] b.size (fun kq v3 wr => ∃ (n : Nat), v3 = .int .i64 (n : Int) ∧ Aside0 (n ≤ b.size ∧ kq = b.size - n) ∧ Aside0 (∀ i, i < n → ∃ x, (bytesOf b)[i]? = some x ∧ 128 ≤ x) ∧ wr = w)
  case atStart => exact ⟨0, rfl, ⟨Nat.zero_le _, rfl⟩, ⟨fun i hi => absurd hi (Nat.not_lt_zero i)⟩, rfl⟩
  case round =>
    obtain ⟨n, rfl, ⟨hn, hkq⟩, HN, rfl⟩ := hrel
    have HQ := Aside0.mk hkq
    clear hkq
    have hn0 : (0 : Int) ≤ (n : Int) := Int.natCast_nonneg _
    by_cases hlt : n < b.size
    · have hlt1 : (n : Int) < (b.size : Int) := by omega
      obtain ⟨c, hc⟩ : ∃ c : Nat, (b[n]'hlt).toNat = c := ⟨_, rfl⟩
      have hcn : (bytesOf b)[n]? = some (c : Int) := by
        rw [List.getElem?_eq_getElem (by rw [bytesOf_length]; exact hlt)]
        simp [bytesOf, ← hc]
        rfl
      have HC := Aside0.mk hcn
      clear hcn
      by_cases h128 : 128 ≤ (c : Int)
      · go_wp2
        go_roundg (b.size - (n + 1))
        case measure => have := HQ.out; omega
        case rel => exact ⟨n + 1, by go_num, ⟨by omega, rfl⟩, ⟨fun i hi => by
          rcases Nat.lt_succ_iff_lt_or_eq.1 hi with hi | rfl
          · exact HN.out i hi
          · exact ⟨_, HC.out, h128⟩⟩, rfl⟩
      · have HCN := Aside0.mk (cnt_eq (bytesOf b) n HN.out (.inr ⟨_, HC.out, by omega⟩))
        have hr : rd (bytesOf b) (n : Nat) = c := by have := HC.out; simp [rd, this]
        by_cases hlong : 8 < n ∧ 9 < b.size
        · have hl1 : (8 : Int) < (n : Int) := by omega
          have hl2 : (9 : Int) < (b.size : Int) := by omega
          have HR := Aside0.mk (show rNum b = (0, b, 3) by unfold rNum; rw [HCN.out, if_pos hlong])
          go_wp2
          go_ret
          exact ⟨by rw [HR.out]; rfl, by rw [HR.out]; exact HI.out.set1 3, Fg.set _ _ _ _⟩
        · have hn8 : n ≤ 8 := by omega
          have hn8I : (n : Int) ≤ 8 := by omega
          by_cases hz : 0 < n ∧ c = 0
          · have hz1 : (0 : Int) < (n : Int) := by omega
            obtain rfl := hz.2
            have HR := Aside0.mk (show rNum b = (0, b, 3) by unfold rNum; rw [HCN.out, if_neg hlong, if_neg (by omega), hr, if_pos ⟨hz.1, rfl⟩])
            go_wp2
            go_ret
            exact ⟨by rw [HR.out]; rfl, by rw [HR.out]; exact HI.out.set1 3, Fg.set _ _ _ _⟩
          · have HR := Aside0.mk (show rNum b = (hv ((bytesOf b).take (n + 1)), b.extract (n + 1) b.size, 0) by unfold rNum; rw [HCN.out, if_neg hlong, if_neg (by omega), hr, if_neg (by omega)])
            have hcase : ((decide ((0 : Int) < (n : Int))) && ((c : Int) == 0)) = false := by
              rw [Bool.and_eq_false_iff]
              by_cases h0 : 0 < n
              · right
                rw [beq_eq_false_iff_ne]
                omega
              · left
                rw [decide_eq_false_iff_not]
                omega
            have HN8 := Aside0.mk hz
            have hc128 : (c : Int) < 128 := by omega
            have hbl := bytesOf_length b
            obtain ⟨T, hT⟩ : ∃ T, T = (bytesOf b).take (n + 1) := ⟨_, rfl⟩
            have hTl : T.length = n + 1 := by rw [hT, List.length_take]; omega
            have HT := Aside0.mk hT
            have HTl := Aside0.mk hTl
            clear hT hTl hz hr hlong hbl hn
            go_wp2_with fail
            all_goals try (exfalso; have hc0 : ((c : Int) == 0) = true := by assumption
                           simp only [beq_iff_eq] at hc0
                           refine HN8.out ?_; constructor <;> omega)
            all_goals
              clear hcase
              go_loopg [4, 5] (n + 1) (fun kq v4 v5 wq => ∃ (m : Nat), v4 = .int .i64 (hv (T.drop m) : Nat) ∧ v5 = .int .i64 ((m : Int) - 1) ∧ Aside0 (m ≤ n + 1 ∧ kq = m) ∧ wq = wr)
              case atStart => exact ⟨n + 1, by rw [List.drop_of_length_le (by rw [HTl.out]; exact Nat.le_refl _)]; rfl, by congr 1; omega, ⟨Nat.le_refl _, rfl⟩, rfl⟩
              case round =>
                obtain ⟨m, rfl, rfl, ⟨hm, hmq⟩, rfl⟩ := hrel
                have HM := Aside0.mk hmq
                clear hmq
                cases m with
                | zero =>
                  have hl1 : (n : Int) + 1 ≤ (b.size : Int) := by omega
                  go_wp2
                  go_ret
                  exact ⟨by rw [HR.out, HT.out]; rfl, by rw [HR.out]; exact HI.out.set0 _, Fg.set _ _ _ _⟩
                | succ q =>
                  rw [show (((q + 1 : Nat) : Int) - 1) = (q : Int) by omega]
                  have hq0 : (0 : Int) ≤ (q : Int) := Int.natCast_nonneg _
                  have hqb : q < b.size := by omega
                  have hqb1 : (q : Int) < (b.size : Int) := by omega
                  obtain ⟨x, hx⟩ : ∃ x : Nat, (b[q]'hqb).toNat = x := ⟨_, rfl⟩
                  have hTq : T[q]? = some (x : Int) := by
                    rw [HT.out, List.getElem?_take, if_pos (by omega), List.getElem?_eq_getElem (by rw [bytesOf_length]; exact hqb)]
                    simp [bytesOf, ← hx]
                    rfl
                  have hd : T.drop q = (x : Int) :: T.drop (q + 1) := drop_at hTq
                  have hV : hv (T.drop q) = x % 128 + 128 * hv (T.drop (q + 1)) := by rw [hd]; rfl
                  have hVl := hv_lt (T.drop (q + 1))
                  rw [List.length_drop, HTl.out] at hVl
                  have hV8 : hv (T.drop (q + 1)) < 72057594037927936 := Nat.lt_of_lt_of_le hVl (Nat.le_trans (Nat.pow_le_pow_right (by decide) (show n + 1 - (q + 1) ≤ 8 by omega)) (by decide))
                  have HV := Aside0.mk hV
                  obtain ⟨V, hVV⟩ : ∃ V, V = hv (T.drop (q + 1)) := ⟨_, rfl⟩
                  rw [← hVV] at hV8 HV ⊢
                  have hV8I : (V : Int) < 72057594037927936 := by omega
                  have hV0 : (0 : Int) ≤ (V : Int) := by omega
                  clear hTq hd hV hVl hVV hc
                  go_wp2
                  go_roundg q
                  case measure => have := HM.out; omega
                  case rel => exact ⟨q, by rw [HV.out]; congr 1; omega, by go_num, ⟨by omega, rfl⟩, rfl⟩
    · have HCN := Aside0.mk (cnt_eq (bytesOf b) n HN.out (.inl (by rw [bytesOf_length]; omega)))
      obtain rfl : n = b.size := by omega
      by_cases hlong : 8 < b.size ∧ 9 < b.size
      · have hl1 : (8 : Int) < (b.size : Int) := by omega
        have hl2 : (9 : Int) < (b.size : Int) := by omega
        have HR := Aside0.mk (show rNum b = (0, b, 3) by unfold rNum; rw [HCN.out, if_pos hlong])
        go_wp2
        go_ret
        exact ⟨by rw [HR.out]; rfl, by rw [HR.out]; exact HI.out.set1 3, Fg.set _ _ _ _⟩
      · have hl2 : (b.size : Int) ≤ 9 := by omega
        have HR := Aside0.mk (show rNum b = (0, b, 2) by unfold rNum; rw [HCN.out, if_neg hlong, if_pos rfl])
        go_wp2
        all_goals go_ret
        all_goals exact ⟨by rw [HR.out]; rfl, by rw [HR.out]; exact HI.out.set1 2, Fg.set _ _ _ _⟩
end Go.Proofs.Ytheieigeipppnaa.Obj
