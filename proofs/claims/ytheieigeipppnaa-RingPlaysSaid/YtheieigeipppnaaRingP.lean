/- Plain laws for RingPlays: calls with texts in them, short ones, one text out of many; calls of a nil ring. Conditions: those in each theorem. -/
import Derived.Test.YtheieigeipppnaaLent
import Derived.Test.YtheieigeipppnaaOpens
import Derived.Test.YtheieigeipppnaaRingA
namespace Go.Proofs.Ytheieigeipppnaa.RingP
open Go.RowKit Go.ChangeShapes Go.WideShapes Go.Deep Go.Proofs.YtheieigeipppnaaW.PrintWords Go.Proofs.YtheieigeipppnaaW.PrintMore Go.Proofs.Ytheieigeipppnaa.PRingPlays Go.Proofs.Ytheieigeipppnaa.Opens Go.Proofs.Ytheieigeipppnaa.Obj
attribute [local go_sem] max2_int min2_int max_two min_two max_three min_three max_four min_four
set_option linter.unusedVariables false
set_option linter.unusedSimpArgs false

/-- A call: what, how many, the texts. -/
structure ROp where
  f0 : Int
  f1 : Int
  f2 : (List ByteArray)
def zOp : ROp := ⟨(0 : Int), (0 : Int), ([] : List ByteArray)⟩
def kOp : Kd ROp := Kd.iso (Kd.pair (Kd.int .i64) (Kd.pair (Kd.int .i64) (Kd.slice 9 Kd.string))) (fun x : ROp => (x.f0, x.f1, x.f2))
theorem kOp_open {w : World} {x : ROp} {cs : List Value} (h : kOp.K w x cs) : ∃ A2 c2, cs = [.int .i64 x.f0, .int .i64 x.f1, .slice A2 x.f2.length c2] ∧ x.f2.length ≤ c2 ∧ Kd.string.C w A2 x.f2.length x.f2 := by
  obtain ⟨_, _, rfl, rfl, ⟨_, _, rfl, rfl, ⟨A2, c2, rfl, l2, g2⟩⟩⟩ := h
  exact ⟨A2, c2, rfl, l2, g2⟩
theorem kOp_mk (w : World) (x : ROp) {A2 : Option Addr} {c2 : Nat} (l2 : x.f2.length ≤ c2) (g2 : Kd.string.C w A2 x.f2.length x.f2) : kOp.K w x [.int .i64 x.f0, .int .i64 x.f1, .slice A2 x.f2.length c2] := ⟨[.int .i64 x.f0], [.int .i64 x.f1, .slice A2 x.f2.length c2], rfl, rfl, ⟨[.int .i64 x.f1], [.slice A2 x.f2.length c2], rfl, rfl, ⟨A2, c2, rfl, l2, g2⟩⟩⟩
def rd_Op (xs : List ROp) (i : Int) : ROp := xs.getD i.toNat zOp
theorem at_Op {w : World} {A : Option Addr} {n : Nat} {xs : List ROp} (h : Kd.C kOp w A n xs) (i : Int) (h0 : 0 ≤ i) (h1 : i < n) : ∃ ad A2 c2, A = some ad ∧ w.cell? (ad.add (i.toNat * 3)) = some (.int .i64 (rd_Op xs i).f0) ∧ w.cell? ⟨(ad.add (i.toNat * 3)).block, (ad.add (i.toNat * 3)).off + 1, none⟩ = some (.int .i64 (rd_Op xs i).f1) ∧ w.cell? ⟨(ad.add (i.toNat * 3)).block, (ad.add (i.toNat * 3)).off + 2, none⟩ = some (.slice A2 (rd_Op xs i).f2.length c2) ∧ (rd_Op xs i).f2.length ≤ c2 ∧ Kd.string.C w A2 (rd_Op xs i).f2.length (rd_Op xs i).f2 := by
  obtain ⟨ad, c, e, _, hK, hc0⟩ := Kd.C_get h zOp i h0 h1
  have hc : ∀ j u, c[j]? = some u → w.cell? (ad.add (i.toNat * 3 + j)) = some u := hc0
  obtain ⟨A2, c2, rfl, l2, g2⟩ := kOp_open hK
  exact ⟨ad, A2, c2, e, hc 0 _ rfl, by rw [← add_field _ _ 1 (by omega)]; exact hc 1 _ rfl, by rw [← add_field _ _ 2 (by omega)]; exact hc 2 _ rfl, l2, g2⟩
theorem opens_rop : Opens Try.prog 51 kOp := fun H enc w base spare held fuel cs x h => by
  obtain ⟨xs, n, _, _, hcl, hlen, hg⟩ := DataW.trod_struct Try.underlying51 h
  have hC : Try.prog.cellsOf 51 = 3 := by kernel_rfl
  have hI : Try.prog.cellsOf 3 = 1 := by kernel_rfl
  have hS : Try.prog.cellsOf 9 = 1 := by kernel_rfl
  have hSs : Try.prog.cellsOf 44 = 1 := by kernel_rfl
  rw [hC] at hcl
  match cs, hcl with
  | [c0, c1, c2], _ =>
    match xs, hlen with
    | [y0, y1, y2], _ =>
      have g0 := hg 0 _ rfl
      have g1 := hg 1 _ rfl
      have g2 := hg 2 _ rfl
      simp [hI, hSs] at g0 g1 g2
      obtain ⟨a0, r0⟩ := opens_int Try.underlying3 _ _ _ _ _ _ _ _ _ g0
      obtain ⟨a1, r1⟩ := opens_int Try.underlying3 _ _ _ _ _ _ _ _ _ g1
      obtain ⟨a2, A2, p2, r2, l2, q2⟩ := opens_slice Try.underlying44 hS (opens_string Try.underlying9) _ _ _ _ _ _ _ _ _ g2
      have r0' : [c0] = [Value.int .i64 a0] := r0
      have r1' : [c1] = [Value.int .i64 a1] := r1
      simp only [List.cons.injEq, and_true] at r0' r1' r2
      subst r0' r1' r2
      exact ⟨⟨a0, a1, a2⟩, kOp_mk w ⟨a0, a1, a2⟩ l2 q2⟩
theorem w_id {x : Int} (h : -9223372036854775808 ≤ x) (h' : x ≤ 9223372036854775807) : wrap64 x = x := by unfold wrap64; omega
/-- One text: what room is left. -/
theorem room_one (k : Nat) (r : Int) (n : Nat) (h0 : 0 ≤ r) (h1 : r ≤ 1000000) : pontoonbook_Room.f (k + 2) r [(n : Int)] = some (if (n : Int) > r then -1 else r - n) := by
  unfold pontoonbook_Room.f
  simp only [pontoonbook_Room.l0]
  have e : rd [(n : Int)] 0 = (n : Int) := by simp [rd]
  rw [if_pos (by simp), if_neg (by omega), if_pos (by omega), e]
  by_cases h : (n : Int) > r
  · rw [if_pos h, if_pos h]
  · rw [if_neg h, if_neg h, w_id (x := r - n) (by omega) (by omega), w_id (x := 0 + 1) (by omega) (by omega), if_neg (by simp)]
theorem short_at (l : List ByteArray) (hl : l.length ≤ 1000) : ∀ (m i : Nat) (r : Int), l.length - i ≤ m → i ≤ l.length → -1 ≤ r → r ≤ 1000000 →
    ∃ b, pontoonbook_Short.l0 (m + 3) r l (i : Int) = some b ∧ (b = true → (((l.drop i).map ByteArray.size).sum : Int) ≤ r) := by
  intro m
  induction m with
  | zero =>
    intro i r h1 h2 h3 h4
    obtain rfl : i = l.length := by omega
    simp only [pontoonbook_Short.l0]
    rw [if_neg (by omega)]
    exact ⟨_, rfl, fun h => by rw [List.drop_length]; simpa using of_decide_eq_true h⟩
  | succ m ih =>
    intro i r h1 h2 h3 h4
    by_cases hlt : i < l.length
    · by_cases hr : r ≥ 0
      · obtain ⟨x, hx⟩ : ∃ x, x = rdOf ByteArray.empty l (i : Int) := ⟨_, rfl⟩
        have hxi : l[i] = x := by rw [hx]; simp [rdOf, hlt]
        have hw : wrap64 ((i : Int) + 1) = ((i + 1 : Nat) : Int) := by rw [w_id (by omega) (by omega)]; rfl
        obtain ⟨b, hb, hb2⟩ := ih (i + 1) (if (x.size : Int) > r then -1 else r - x.size) (by omega) (by omega) (by split <;> omega) (by split <;> omega)
        refine ⟨b, ?_, fun h => ?_⟩
        · show pontoonbook_Short.l0 ((m + 3) + 1) r l (i : Int) = some b
          simp only [pontoonbook_Short.l0]
          rw [if_pos (by omega), if_pos hr, if_pos (by omega), ← hx, show m + 3 = (m + 1) + 2 from rfl, room_one (m + 1) r x.size hr h4, Option.bind_some, hw]
          exact hb
        · have := hb2 h
          rw [List.drop_eq_getElem_cons hlt, hxi, List.map_cons, List.sum_cons]
          have hs : (0 : Int) ≤ (((l.drop (i + 1)).map ByteArray.size).sum : Nat) := Int.natCast_nonneg _
          split at this <;> omega
      · refine ⟨false, ?_, fun h => by cases h⟩
        show pontoonbook_Short.l0 ((m + 3) + 1) r l (i : Int) = some false
        simp only [pontoonbook_Short.l0]
        rw [if_pos (by omega), if_neg hr, decide_eq_false hr]
    · obtain rfl : i = l.length := by omega
      show ∃ b, pontoonbook_Short.l0 ((m + 3) + 1) r l (l.length : Int) = some b ∧ _
      simp only [pontoonbook_Short.l0]
      rw [if_neg (by omega)]
      exact ⟨_, rfl, fun h => by rw [List.drop_length]; simpa using of_decide_eq_true h⟩
theorem short_ok (few room : Nat) (l : List ByteArray) (h1 : few ≤ 1000) (h2 : room ≤ 1000000) : ∃ b, pontoonbook_Short.f (l.length + 3) few room l = some b ∧ (b = true → l.length ≤ few ∧ (l.map ByteArray.size).sum ≤ room) := by
  unfold pontoonbook_Short.f
  by_cases h : (l.length : Int) > few
  · rw [if_pos h]; exact ⟨false, rfl, fun h => by cases h⟩
  · rw [if_neg h]
    obtain ⟨b, hb, hb2⟩ := short_at l (by omega) l.length 0 (room : Int) (by omega) (by omega) (by omega) (by omega)
    refine ⟨b, hb, fun h => ⟨by omega, ?_⟩⟩
    have := hb2 h
    rw [List.drop_zero] at this
    omega
theorem dl_join (l : List ByteArray) : dl (joinS l) = (l.map dl).flatten := by
  show (Lib.join (l.map (·.data.toList)) []) = _
  cases l with
  | nil => rfl
  | cons x l =>
    rw [List.map_cons, Lib.join_cons]
    simp [Lib.joinTail, dl]
    rfl
theorem sum_drop (l : List ByteArray) : ∀ i, ((l.drop i).map ByteArray.size).sum ≤ (l.map ByteArray.size).sum := by
  induction l with
  | nil => intro i; simp
  | cons x l ih =>
    intro i
    cases i with
    | zero => simp
    | succ i => have := ih i; rw [List.drop_succ_cons, List.map_cons, List.sum_cons]; omega
theorem join_at (l : List ByteArray) (hl : l.length ≤ 1000) : ∀ (m i : Nat) (s : ByteArray), l.length - i ≤ m → i ≤ l.length → s.size + ((l.drop i).map ByteArray.size).sum ≤ 9223372036854775807 →
    ∃ r, pontoonbook_Join.l0 (m + 1) l s (i : Int) = some r ∧ dl r = dl s ++ ((l.drop i).map dl).flatten := by
  intro m
  induction m with
  | zero =>
    intro i s h1 h2 h3
    obtain rfl : i = l.length := by omega
    simp only [pontoonbook_Join.l0]
    rw [if_neg (by omega)]
    exact ⟨_, rfl, by simp⟩
  | succ m ih =>
    intro i s h1 h2 h3
    show ∃ r, pontoonbook_Join.l0 ((m + 1) + 1) l s (i : Int) = some r ∧ _
    simp only [pontoonbook_Join.l0]
    by_cases hlt : i < l.length
    · obtain ⟨x, hx⟩ : ∃ x, x = rdOf ByteArray.empty l (i : Int) := ⟨_, rfl⟩
      have hxi : l[i] = x := by rw [hx]; simp [rdOf, hlt]
      have hw : wrap64 ((i : Int) + 1) = ((i + 1 : Nat) : Int) := by rw [w_id (by omega) (by omega)]; rfl
      rw [List.drop_eq_getElem_cons hlt, hxi, List.map_cons, List.sum_cons] at h3
      obtain ⟨r, hr, hr2⟩ := ih (i + 1) (s ++ x) (by omega) (by omega) (by rw [ByteArray.size_append, Nat.add_assoc]; omega)
      refine ⟨r, ?_, ?_⟩
      · rw [if_pos (by omega), if_pos (by omega), ← hx, if_pos (by omega), hw]
        exact hr
      · rw [hr2, List.drop_eq_getElem_cons hlt, hxi, List.map_cons, List.flatten_cons, dl_app, List.append_assoc]
    · obtain rfl : i = l.length := by omega
      rw [if_neg (by omega)]
      exact ⟨_, rfl, by simp⟩
theorem join_ok (l : List ByteArray) (h1 : l.length ≤ 1000) (h2 : (l.map ByteArray.size).sum ≤ 1000000) : pontoonbook_Join.f (l.length + 1) l = some (joinS l) := by
  unfold pontoonbook_Join.f
  obtain ⟨r, hr, hr2⟩ := join_at l h1 l.length 0 ⟨#[]⟩ (by omega) (by omega) (by have : (⟨#[]⟩ : ByteArray).size = 0 := rfl; rw [this, List.drop_zero]; omega)
  rw [show ((0 : Nat) : Int) = 0 from rfl] at hr
  rw [hr]
  congr 1
  apply dl_ext
  rw [hr2, dl_join]
  simp [dl]

/-! ### A nil ring -/
theorem eql_ring0 (w : World) : Sem.run Try.prog (binOp .eql 23 (.pointer none) (.pointer none)) w = .ok (.bool true) w := by kernel_rfl
theorem all0 (w : World) : Calls Try.prog 52 #[.pointer none] w fun r w' => r = .returned (.string ⟨#[]⟩) ∧ w = w' := by
  have hn := eql_ring0
  go_enter Try.func52, Try.ntmps52
  go_wp2
  go_ret
  exact ⟨rfl, rfl⟩
theorem len0 (w : World) : Calls Try.prog 17 #[.pointer none] w fun r w' => r = .returned (.int .i64 0) ∧ w = w' := by
  go_enter Try.func17, Try.ntmps17
  go_wp2_with fail
  refine (all0 _).mono ?_
  rintro e w1 ⟨rfl, rfl⟩
  go_wp2
  go_ret
  exact ⟨rfl, rfl⟩
theorem room0 (w : World) : Calls Try.prog 28 #[.pointer none] w fun r w' => r = .returned (.int .i64 0) ∧ w = w' := by
  have hn := eql_ring0
  go_enter Try.func28, Try.ntmps28
  go_wp2
  go_ret
  exact ⟨rfl, rfl⟩
theorem put0 (v : Value) (w : World) : Calls Try.prog 15 #[.pointer none, v] w fun r w' => r = .returned (.int .i64 0) ∧ w = w' := by
  have hn := eql_ring0
  go_enter Try.func15, Try.ntmps15
  go_wp2
  go_ret
  exact ⟨rfl, rfl⟩
theorem peek0 (n : Int) (hn0 : 0 ≤ n) (w : World) : Calls Try.prog 27 #[.pointer none, .int .i64 n] w fun r w' => r = .returned (.string ⟨#[]⟩) ∧ Below w.heap.size w w' := by
  have he : (⟨#[]⟩ : ByteArray).extract 0 0 = ⟨#[]⟩ := rfl
  by_cases hz : n = 0
  · subst hz
    go_enter Try.func27, Try.ntmps27
    go_wp2_with (first | (go_at_call 52; refine (all0 _).mono ?_; rintro e1 w1 ⟨rfl, rfl⟩) | (go_at_call 17; refine (len0 _).mono ?_; rintro e1 w1 ⟨rfl, rfl⟩) | (go_at_call 51; refine (clone_calls _ _ (by decide)).mono ?_; rintro e1 w1 ⟨rfl, hb⟩))
    go_ret
    exact ⟨rfl, hb⟩
  · have h1 : (0 : Int) < n := by omega
    go_enter Try.func27, Try.ntmps27
    go_wp2_with (first | (go_at_call 52; refine (all0 _).mono ?_; rintro e1 w1 ⟨rfl, rfl⟩) | (go_at_call 17; refine (len0 _).mono ?_; rintro e1 w1 ⟨rfl, rfl⟩) | (go_at_call 51; refine (clone_calls _ _ (by decide)).mono ?_; rintro e1 w1 ⟨rfl, hb⟩))
    go_ret
    exact ⟨rfl, hb⟩
theorem take0 (n : Int) (hn0 : 0 ≤ n) (w : World) : Calls Try.prog 16 #[.pointer none, .int .i64 n] w fun r w' => r = .returned (.string ⟨#[]⟩) ∧ Below w.heap.size w w' := by
  have hpe : (⟨#[]⟩ : ByteArray).toList.isEmpty = true := empty_isEmpty rfl
  go_enter Try.func16, Try.ntmps16
  go_wp2_with fail
  refine (peek0 n hn0 _).mono ?_
  rintro e1 w1 ⟨rfl, hb⟩
  have HB := Aside0.mk hb
  clear hb
  go_wp2
  go_ret
  exact ⟨rfl, HB.out⟩
theorem clear0 (w : World) : Calls Try.prog 33 #[.pointer none] w fun r w' => r = .returned (.int .i64 0) ∧ Below w.heap.size w w' := by
  go_enter Try.func33, Try.ntmps33
  go_wp2_with fail
  refine (len0 _).mono ?_
  rintro e1 w1 ⟨rfl, rfl⟩
  go_wp2_with fail
  refine (take0 0 (by omega) _).mono ?_
  rintro e1 w1 ⟨rfl, hb⟩
  have HB := Aside0.mk hb
  clear hb
  go_wp2
  go_ret
  exact ⟨rfl, HB.out⟩
theorem all20 (p : Nat) (x : ByteArray) (w : World) (hc : w.cell? ⟨p, 0, none⟩ = some (.string x)) : Calls Try.prog 29 #[.pointer none, .slice (some ⟨p, 0, none⟩) 1 1] w fun r w' => r = .returned (.bool false) ∧ w = w' := by
  have hn := eql_ring0
  go_enter Try.func29, Try.ntmps29
  go_wp2
  go_loopg [5, 10] 1 (fun kq v5 v10 wr => ∃ (k : Nat) (z : Int), v10 = .int .i64 k ∧ v5 = .int .i64 z ∧ Aside0 (k ≤ 1 ∧ kq = 1 - k) ∧ Aside0 (w = wr))
  case atStart => exact ⟨0, 0, rfl, rfl, ⟨Nat.zero_le _, rfl⟩, ⟨rfl⟩⟩
  case round =>
    obtain ⟨k, z, rfl, rfl, ⟨hk, hkq⟩, ⟨rfl⟩⟩ := hrel
    have HQ := Aside0.mk hkq
    clear hkq
    by_cases hlt : k < 1
    · obtain rfl : k = 0 := by omega
      go_wp2
      go_roundg 0
      case measure => have := HQ.out; omega
      case rel => exact ⟨1, _, rfl, rfl, ⟨by omega, rfl⟩, ⟨rfl⟩⟩
    · obtain rfl : k = 1 := by omega
      go_wp2
      go_ret
      exact ⟨rfl, rfl⟩
end Go.Proofs.Ytheieigeipppnaa.RingP
