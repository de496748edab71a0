/- Light: it ends, whatever comes; all that it lets by is short. Conditions: those in each theorem. -/
import Derived.Test.YtheieigeipppnaaPCodecLaysm
import Derived.Test.YtheieigeipppnaaOpens
namespace Go.Proofs.Ytheieigeipppnaa.Opens
open Go.RowKit Go.ChangeShapes Go.WideShapes Go.Deep Go.Proofs.YtheieigeipppnaaW.PrintWords Go.Proofs.Ytheieigeipppnaa.PCodecLays

theorem opens_op : Opens Try.prog 63 k63 := fun H enc w base spare held fuel cs x h => by
  obtain ⟨xs, n, _, _, hcl, hlen, hg⟩ := DataW.trod_struct Try.underlying63 h
  have hC : Try.prog.cellsOf 63 = 4 := by kernel_rfl
  have hI : Try.prog.cellsOf 3 = 1 := by kernel_rfl
  have hIs : Try.prog.cellsOf 61 = 1 := by kernel_rfl
  have hS : Try.prog.cellsOf 9 = 1 := by kernel_rfl
  have hSs : Try.prog.cellsOf 44 = 1 := by kernel_rfl
  rw [hC] at hcl
  match cs, hcl with
  | [c0, c1, c2, c3], _ =>
    match xs, hlen with
    | [y0, y1, y2, y3], _ =>
      have g0 := hg 0 _ rfl
      have g1 := hg 1 _ rfl
      have g2 := hg 2 _ rfl
      have g3 := hg 3 _ rfl
      simp [hI, hIs, hSs] at g0 g1 g2 g3
      obtain ⟨a0, r0⟩ := opens_int Try.underlying3 _ _ _ _ _ _ _ _ _ g0
      obtain ⟨a1, r1⟩ := opens_int Try.underlying3 _ _ _ _ _ _ _ _ _ g1
      obtain ⟨a2, A2, p2, r2, l2, q2⟩ := opens_slice Try.underlying61 hI (opens_int Try.underlying3) _ _ _ _ _ _ _ _ _ g2
      obtain ⟨a3, A3, p3, r3, l3, q3⟩ := opens_slice Try.underlying44 hS (opens_string Try.underlying9) _ _ _ _ _ _ _ _ _ g3
      have r0' : [c0] = [Value.int .i64 a0] := r0
      have r1' : [c1] = [Value.int .i64 a1] := r1
      simp only [List.cons.injEq, and_true] at r0' r1' r2 r3
      subst r0' r1' r2 r3
      exact ⟨⟨a0, a1, a2, a3⟩, k63_mk w ⟨a0, a1, a2, a3⟩ l2 q2 l3 q3⟩

theorem w_id {x : Int} (h : -9223372036854775808 ≤ x) (h' : x ≤ 9223372036854775807) : wrap64 x = x := by unfold wrap64; omega
theorem room_l0 (l : List Int) (hl : ∀ x ∈ l, 0 ≤ x) (hs : l.length ≤ 100) : ∀ (n i : Nat) (left : Int), i + n = l.length → -1 ≤ left → left ≤ 20000 → ∃ r, (∀ k, n + 1 ≤ k → pontoonbook_Room.l0 k left l (i : Int) = some r) ∧ -1 ≤ r ∧ r ≤ 20000 ∧ (0 ≤ r → r + (l.drop i).sum = left)
  | 0, i, left, hi, h0, h1 => by
    refine ⟨left, fun k hk => ?_, h0, h1, fun _ => by rw [List.drop_of_length_le (by omega)]; simp⟩
    obtain ⟨k, rfl⟩ : ∃ m, k = m + 1 := ⟨k - 1, by omega⟩
    unfold pontoonbook_Room.l0
    rw [if_neg (by omega)]
  | n + 1, i, left, hi, h0, h1 => by
    have hil : i < l.length := by omega
    have hx := hl l[i] (List.getElem_mem hil)
    have hrd : rd l (i : Int) = l[i] := by simp [rd, hil]
    by_cases hneg : left < 0
    · refine ⟨-1, fun k hk => ?_, by omega, by omega, fun h => by omega⟩
      obtain ⟨k, rfl⟩ : ∃ m, k = m + 1 := ⟨k - 1, by omega⟩
      unfold pontoonbook_Room.l0
      rw [if_pos (by omega), if_pos hneg]
    · by_cases hgt : l[i] > left
      · refine ⟨-1, fun k hk => ?_, by omega, by omega, fun h => by omega⟩
        obtain ⟨k, rfl⟩ : ∃ m, k = m + 1 := ⟨k - 1, by omega⟩
        unfold pontoonbook_Room.l0
        rw [if_pos (by omega), if_neg hneg, if_pos (by omega), hrd, if_pos hgt]
      · obtain ⟨r, hr, hr0, hr1, hr2⟩ := room_l0 l hl hs n (i + 1) (left - l[i]) (by omega) (by omega) (by omega)
        refine ⟨r, fun k hk => ?_, hr0, hr1, fun h => ?_⟩
        · obtain ⟨k, rfl⟩ : ∃ m, k = m + 1 := ⟨k - 1, by omega⟩
          unfold pontoonbook_Room.l0
          rw [if_pos (by omega), if_neg hneg, if_pos (by omega), hrd, if_neg hgt, w_id (by omega) (by omega), w_id (x := (i : Int) + 1) (by omega) (by omega)]
          exact hr k (by omega)
        · have := hr2 h
          rw [List.drop_eq_getElem_cons hil, List.sum_cons]
          omega
theorem room_f (l : List Int) (hl : ∀ x ∈ l, 0 ≤ x) (hs : l.length ≤ 100) (left : Int) (h0 : -1 ≤ left) (h1 : left ≤ 20000) : ∃ r, (∀ k, l.length + 1 ≤ k → pontoonbook_Room.f k left l = some r) ∧ -1 ≤ r ∧ r ≤ 20000 ∧ (0 ≤ r → r + l.sum = left) := by
  obtain ⟨r, hr, h⟩ := room_l0 l hl hs l.length 0 left (by omega) h0 h1
  exact ⟨r, fun k hk => hr k hk, h⟩
/-- A short act. -/
def Short (x : S63) : Prop := x.f2.length ≤ 20000 ∧ x.f3.length ≤ 20000 ∧ (x.f3.map ByteArray.size).sum ≤ 20000
/-- What Light's rounds come to from act i on. -/
def LightAt (ops : List S63) (i : Nat) : Prop := ∀ x : Int, -1 ≤ x → x ≤ 20000 → ∃ K r, ∀ k, K ≤ k → pontoonlaw1_Light.l0 k ops x (i : Int) = some r ∧ (r = true → ops.length ≤ 40 ∧ 0 ≤ x ∧ ∀ j : Nat, i ≤ j → j < ops.length → Short (rd_T63 ops (j : Int)))
theorem light_out (ops : List S63) (i : Nat) (x : Int) (_hx : -1 ≤ x) : ∃ K r, ∀ k, K ≤ k → pontoonlaw1_Light.j1 k ops x (i : Int) false = some r ∧ (r = true → ops.length ≤ 40 ∧ 0 ≤ x) := by
  by_cases hl : (ops.length : Int) ≤ 40
  · refine ⟨1, decide (x ≥ 0), fun k hk => ?_⟩
    obtain ⟨k, rfl⟩ : ∃ m, k = m + 1 := ⟨k - 1, by omega⟩
    unfold pontoonlaw1_Light.j1
    rw [if_neg (by simp), if_pos hl]
    exact ⟨rfl, fun h => ⟨by omega, of_decide_eq_true h⟩⟩
  · refine ⟨1, false, fun k hk => ?_⟩
    obtain ⟨k, rfl⟩ : ∃ m, k = m + 1 := ⟨k - 1, by omega⟩
    unfold pontoonlaw1_Light.j1
    rw [if_neg (by simp), if_neg hl]
    exact ⟨rfl, fun h => by cases h⟩
theorem light_in (ops : List S63) (i : Nat) (hi : i < ops.length) (hi2 : i < 100) (hT : (rd_T63 ops (i : Int)).f3.length ≤ 9223372036854775807) (hnext : LightAt ops (i + 1)) :
    ∀ (n j : Nat), j + n = (rd_T63 ops (i : Int)).f3.length → ∀ x : Int, -1 ≤ x → x ≤ 20000 → ∃ K r, ∀ k, K ≤ k → pontoonlaw1_Light.l1 k ops x (i : Int) (j : Int) = some r ∧ (r = true → ops.length ≤ 40 ∧ 0 ≤ x ∧ (((((rd_T63 ops (i : Int)).f3.drop j).map ByteArray.size).sum : Nat) : Int) ≤ x ∧ ∀ j : Nat, i + 1 ≤ j → j < ops.length → Short (rd_T63 ops (j : Int)))
  | 0, j, hj, x, h0, h1 => by
    obtain ⟨K, r, hr⟩ := hnext x h0 h1
    refine ⟨K + 1, r, fun k hk => ?_⟩
    obtain ⟨k, rfl⟩ : ∃ m, k = m + 1 := ⟨k - 1, by omega⟩
    unfold pontoonlaw1_Light.l1
    rw [if_pos (by omega), if_pos (by omega), if_neg (by omega), w_id (by omega) (by omega)]
    refine ⟨(hr k (by omega)).1, fun h => ?_⟩
    obtain ⟨q1, q2, q3⟩ := (hr k (by omega)).2 h
    exact ⟨q1, q2, by rw [List.drop_of_length_le (by omega)]; simpa using q2, q3⟩
  | n + 1, j, hj, x, h0, h1 => by
    by_cases hx : x ≥ 0
    · obtain ⟨r1, hr1, q0, q1, q2⟩ := room_f [((rdOf ByteArray.empty ((rd_T63 ops (i : Int)).f3) (j : Int)).size : Int)] (by simp) (by simp) x h0 h1
      obtain ⟨K, r, hr⟩ := light_in ops i hi hi2 hT hnext n (j + 1) (by omega) r1 q0 q1
      refine ⟨K + 3, r, fun k hk => ?_⟩
      obtain ⟨k, rfl⟩ : ∃ m, k = m + 1 := ⟨k - 1, by omega⟩
      unfold pontoonlaw1_Light.l1
      rw [if_pos (by omega), if_pos (by omega), if_pos (by omega), if_pos hx, if_pos (by omega), hr1 k (by simp; omega)]
      simp only [Option.bind_some]
      rw [w_id (by omega) (by omega)]
      refine ⟨(hr k (by omega)).1, fun h => ?_⟩
      obtain ⟨p1, p2, p3, p4⟩ := (hr k (by omega)).2 h
      refine ⟨p1, hx, ?_, p4⟩
      have hjl : j < (rd_T63 ops (i : Int)).f3.length := by omega
      have hq := q2 p2
      rw [List.drop_eq_getElem_cons hjl, List.map_cons, List.sum_cons]
      have hrd : rdOf ByteArray.empty ((rd_T63 ops (i : Int)).f3) (j : Int) = ((rd_T63 ops (i : Int)).f3)[j] := by simp [rdOf, hjl]
      rw [hrd] at hq
      simp only [List.sum_cons, List.sum_nil] at hq
      omega
    · obtain ⟨K, r, hr⟩ := hnext x h0 h1
      refine ⟨K + 1, r, fun k hk => ?_⟩
      obtain ⟨k, rfl⟩ : ∃ m, k = m + 1 := ⟨k - 1, by omega⟩
      unfold pontoonlaw1_Light.l1
      rw [if_pos (by omega), if_pos (by omega), if_pos (by omega), if_neg hx, w_id (by omega) (by omega)]
      refine ⟨(hr k (by omega)).1, fun h => ?_⟩
      obtain ⟨p1, p2, p3⟩ := (hr k (by omega)).2 h
      omega
theorem light_at (ops : List S63) (hT : ∀ i : Nat, i < ops.length → (rd_T63 ops (i : Int)).f3.length ≤ 9223372036854775807) : ∀ (n i : Nat), i + n = min ops.length 100 → LightAt ops i
  | 0, i, hi, x, h0, h1 => by
    obtain ⟨K, r, hr⟩ := light_out ops i x h0
    refine ⟨K + 1, r, fun k hk => ?_⟩
    obtain ⟨k, rfl⟩ : ∃ m, k = m + 1 := ⟨k - 1, by omega⟩
    have hres : r = true → ops.length ≤ 40 ∧ 0 ≤ x ∧ ∀ j : Nat, i ≤ j → j < ops.length → Short (rd_T63 ops (j : Int)) := fun h => by
      obtain ⟨p1, p2⟩ := (hr k (by omega)).2 h
      exact ⟨p1, p2, fun j hj hj2 => by omega⟩
    unfold pontoonlaw1_Light.l0
    by_cases hl : (i : Int) < (ops.length : Int)
    · rw [if_pos hl, if_neg (by omega)]
      exact ⟨(hr k (by omega)).1, hres⟩
    · rw [if_neg hl]
      exact ⟨(hr k (by omega)).1, hres⟩
  | n + 1, i, hi, x, h0, h1 => by
    have hnext := light_at ops hT n (i + 1) (by omega)
    by_cases hx : x ≥ 0
    · obtain ⟨r1, hr1, q0, q1, q2⟩ := room_f [(((rd_T63 ops (i : Int)).f2).length : Int), (((rd_T63 ops (i : Int)).f3).length : Int)] (by simp) (by simp) x h0 h1
      obtain ⟨K, r, hr⟩ := light_in ops i (by omega) (by omega) (hT i (by omega)) hnext _ 0 (Nat.zero_add _) r1 q0 q1
      refine ⟨K + 5, r, fun k hk => ?_⟩
      obtain ⟨k, rfl⟩ : ∃ m, k = m + 2 := ⟨k - 2, by omega⟩
      unfold pontoonlaw1_Light.l0
      rw [if_pos (by omega), if_pos (by omega), decide_eq_true hx]
      unfold pontoonlaw1_Light.j1
      rw [if_pos rfl, if_pos (by omega), if_pos (by omega), hr1 k (by simp; omega)]
      simp only [Option.bind_some]
      refine ⟨(hr k (by omega)).1, fun h => ?_⟩
      obtain ⟨p1, p2, p3, p4⟩ := (hr k (by omega)).2 h
      refine ⟨p1, hx, fun j hj hj2 => ?_⟩
      by_cases hji : j = i
      · subst hji
        have := q2 p2
        simp only [List.sum_cons, List.sum_nil] at this
        rw [List.drop_zero] at p3
        exact ⟨by omega, by omega, by omega⟩
      · exact p4 j (by omega) hj2
    · obtain ⟨K, r, hr⟩ := light_out ops i x h0
      refine ⟨K + 1, r, fun k hk => ?_⟩
      obtain ⟨k, rfl⟩ : ∃ m, k = m + 1 := ⟨k - 1, by omega⟩
      unfold pontoonlaw1_Light.l0
      rw [if_pos (by omega), if_pos (by omega), decide_eq_false hx]
      refine ⟨(hr k (by omega)).1, fun h => ?_⟩
      obtain ⟨p1, p2⟩ := (hr k (by omega)).2 h
      omega
theorem light_calls (A : Option Addr) (c : Nat) (ops : List S63) (w : World) (h : Kd.C k63 w A ops.length ops) (hc : ops.length ≤ c) :
    ∃ r, (r = true → ops.length ≤ 40 ∧ ∀ j : Nat, j < ops.length → Short (rd_T63 ops (j : Int))) ∧ Calls Try.prog 35 #[.slice A ops.length c] w fun e w' => e = .returned (.bool r) ∧ Below w.heap.size w w' := by
  have hT : ∀ i : Nat, i < ops.length → (rd_T63 ops (i : Int)).f3.length ≤ 9223372036854775807 := fun i hi => by
    obtain ⟨ad, A2, c2, A3, c3, _, _, _, _, _, _, _, _, hC⟩ := at_T63 h (i : Int) (by omega) (by omega)
    exact hC.2.1
  obtain ⟨K, r, hr⟩ := light_at ops hT (min ops.length 100) 0 (by omega) 20000 (by omega) (by omega)
  obtain ⟨h1, h2⟩ := hr K (Nat.le_refl _)
  exact ⟨r, fun h => ⟨(h2 h).1, fun j hj => (h2 h).2.2 j (by omega) hj⟩, pontoonlaw1_Light.calls K A c ops r w h hc h1⟩
end Go.Proofs.Ytheieigeipppnaa.Opens
