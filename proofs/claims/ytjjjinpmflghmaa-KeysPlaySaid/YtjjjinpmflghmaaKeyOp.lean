/- Acts of KeysPlay that come in; which ones are few and short enough. Conditions: those in each theorem. -/
import Derived.Test.YtjjjinpmflghmaaKeyP2
import Derived.Test.YtjjjinpmflghmaaPKeysPlayx4
import Derived.Test.YtjjjinpmflghmaaOpens2
namespace Go.Proofs.Ytjjjinpmflghmaa.Keys
open Go.RowKit Go.ChangeShapes Go.WideShapes Go.Deep Go.Proofs.Ytjjjinpmflghmaa.Mem Go.Proofs.Ytjjjinpmflghmaa.Row Go.Proofs.Ytjjjinpmflghmaa.Opens Go.Proofs.YtjjjinpmflghmaaW.PrintWords Go.Proofs.YtjjjinpmflghmaaW.PrintMore Go.Proofs.YtjjjinpmflghmaaW.PrintLast Go.Proofs.Ytjjjinpmflghmaa.PKeysPlay
open Go.Proofs.Ytjjjinpmflghmaa.BookEv (BK LS foot mem_foot Own Src Lent)
set_option linter.unusedVariables false
set_option linter.unusedSimpArgs false
theorem w_id {x : Int} (h : -9223372036854775808 ≤ x) (h' : x ≤ 9223372036854775807) : wrap64 x = x := by unfold wrap64; omega
theorem room_one (k : Nat) (r : Int) (n : Nat) (h0 : 0 ≤ r) (h1 : r ≤ 1000000) : pontoonbook_Room.f (k + 2) r [(n : Int)] = some (if (n : Int) > r then -1 else r - n) := by
  unfold pontoonbook_Room.f
  simp only [pontoonbook_Room.l0]
  have e : rd [(n : Int)] 0 = (n : Int) := by simp [rd]
  rw [if_pos (by simp), if_neg (by omega), if_pos (by omega), e]
  by_cases h : (n : Int) > r
  · rw [if_pos h, if_pos h]
  · rw [if_neg h, if_neg h, w_id (x := r - n) (by omega) (by omega), w_id (x := 0 + 1) (by omega) (by omega), if_neg (by simp)]
theorem rd_at {xs : List S82} {i : Nat} {x : S82} (h : xs[i]? = some x) : rd_T82 xs (i : Int) = x := by simp [rd_T82, h]
theorem light_in (xs : List S82) (hL : xs.length ≤ 9223372036854775807) (i : Nat) (x : S82) (hx : xs[i]? = some x) (r : Int) (hr : r ≥ 0 → x.f2.length ≤ 400) : ∀ (m j : Nat), x.f2.length - j ≤ m → j ≤ x.f2.length → ∀ k, ∃ k', pontoonlaw20_Light.l1 k' xs r (i : Int) (j : Int) = some false ∨ pontoonlaw20_Light.l1 k' xs r (i : Int) (j : Int) = pontoonlaw20_Light.l0 k xs r ((i + 1 : Nat) : Int) := by
  have hi := (List.getElem?_eq_some_iff.1 hx).1
  have hw : wrap64 ((i : Int) + 1) = ((i + 1 : Nat) : Int) := by rw [w_id (by omega) (by omega)]; rfl
  intro m
  induction m with
  | zero =>
    intro j h1 h2 k
    obtain rfl : j = x.f2.length := by omega
    refine ⟨k + 2, .inr ?_⟩
    simp only [pontoonlaw20_Light.l1, pontoonlaw20_Light.j3, rd_at hx]
    rw [if_pos (by omega), if_pos (by omega), if_neg (by omega), if_neg (by simp), hw]
  | succ m ih =>
    intro j h1 h2 k
    by_cases hj : j < x.f2.length
    · by_cases h0 : r ≥ 0
      · have h4 := hr h0
        by_cases ht : ((rd_T38 x.f2 (j : Int)).f1.size : Int) > 100
        · refine ⟨2, .inl ?_⟩
          simp only [pontoonlaw20_Light.l1, pontoonlaw20_Light.j3, rd_at hx]
          rw [if_pos (by omega), if_pos (by omega), if_pos (by omega), if_pos (by simpa using h0), if_pos (by omega), if_pos (by omega), if_pos (by omega), if_pos (by omega), if_pos ht]
        · obtain ⟨k', hk'⟩ := ih (j + 1) (by omega) (by omega) k
          refine ⟨k' + 2, ?_⟩
          have e : wrap64 ((j : Int) + 1) = ((j + 1 : Nat) : Int) := by rw [w_id (by omega) (by omega)]; rfl
          have e2 : pontoonlaw20_Light.l1 (k' + 2) xs r (i : Int) (j : Int) = pontoonlaw20_Light.l1 k' xs r (i : Int) ((j + 1 : Nat) : Int) := by
            show pontoonlaw20_Light.l1 ((k' + 1) + 1) xs r (i : Int) (j : Int) = _
            rw [pontoonlaw20_Light.l1, rd_at hx, if_pos (by omega), if_pos (by omega), if_pos (by omega), pontoonlaw20_Light.j3, rd_at hx, if_pos (by simpa using h0), if_pos (by omega), if_pos (by omega), if_pos (by omega), if_pos (by omega), if_neg ht, e]
          rw [e2]
          exact hk'
      · refine ⟨k + 2, .inr ?_⟩
        show pontoonlaw20_Light.l1 ((k + 1) + 1) xs r (i : Int) (j : Int) = _
        rw [pontoonlaw20_Light.l1, rd_at hx, if_pos (by omega), if_pos (by omega), if_pos (by omega), pontoonlaw20_Light.j3, if_neg (by simpa using h0), hw]
    · obtain rfl : j = x.f2.length := by omega
      exact ih x.f2.length (by omega) (by omega) k
theorem light_at (xs : List S82) (hL : xs.length ≤ 9223372036854775807) : ∀ (m i : Nat) (r : Int), xs.length - i ≤ m → i ≤ xs.length → -1 ≤ r → r ≤ 400 →
    ∃ k b, pontoonlaw20_Light.l0 k xs r (i : Int) = some b ∧ (b = true → xs.length ≤ 60 ∧ 0 ≤ r ∧ ∀ x ∈ xs.drop i, x.f2.length ≤ 400) := by
  have fin : ∀ (i : Nat) (r : Int) (k : Nat), (∀ x ∈ xs.drop i, x.f2.length ≤ 400) ∨ r < 0 ∨ ¬ xs.length ≤ 60 → ∃ b, pontoonlaw20_Light.j1 (k + 1) xs r (i : Int) false = some b ∧ (b = true → xs.length ≤ 60 ∧ 0 ≤ r ∧ ∀ x ∈ xs.drop i, x.f2.length ≤ 400) := by
    intro i r k h
    rw [pontoonlaw20_Light.j1, if_neg (by simp)]
    by_cases h6 : xs.length ≤ 60
    · rw [if_pos (by omega)]
      refine ⟨_, rfl, fun hb => ?_⟩
      have hb := of_decide_eq_true hb
      refine ⟨h6, hb, ?_⟩
      rcases h with h | h | h
      · exact h
      · omega
      · exact absurd h6 h
    · rw [if_neg (by omega)]
      exact ⟨_, rfl, fun hb => by cases hb⟩
  intro m
  induction m with
  | zero =>
    intro i r h1 h2 h3 h4
    obtain rfl : i = xs.length := by omega
    obtain ⟨b, hb, hb2⟩ := fin xs.length r 0 (.inl (by simp))
    refine ⟨2, b, ?_, hb2⟩
    rw [pontoonlaw20_Light.l0, if_neg (by omega)]
    exact hb
  | succ m ih =>
    intro i r h1 h2 h3 h4
    by_cases hlt : i < xs.length
    · by_cases h100 : i < 100
      · by_cases hr : r ≥ 0
        · obtain ⟨x, hx⟩ : ∃ x, xs[i]? = some x := ⟨xs[i], by simp⟩
          obtain ⟨r', hr'⟩ : ∃ r', r' = (if (x.f2.length : Int) > r then -1 else r - x.f2.length) := ⟨_, rfl⟩
          obtain ⟨k, b, hb, hb2⟩ := ih (i + 1) r' (by omega) (by omega) (by rw [hr']; split <;> omega) (by rw [hr']; split <;> omega)
          obtain ⟨k', hk'⟩ := light_in xs hL i x hx r' (fun h => by rw [hr'] at h; split at h <;> omega) x.f2.length 0 (by omega) (by omega) k
          obtain ⟨b', hb', hbb⟩ : ∃ b', pontoonlaw20_Light.l1 k' xs r' (i : Int) 0 = some b' ∧ (b' = true → b = true) := by
            rcases hk' with h | h
            · exact ⟨false, h, fun h => by cases h⟩
            · exact ⟨b, h.trans hb, id⟩
          have m1 := (pontoonlaw20_Light.mono_l k').2.2.1 xs r' (i : Int) 0 b' hb'
          have m2 := (pontoonlaw20_Light.mono_l (k' + 1)).2.2.1 xs r' (i : Int) 0 b' m1
          refine ⟨(k' + 1 + 1) + 1 + 1, b', ?_, fun h => ?_⟩
          · rw [pontoonlaw20_Light.l0, if_pos (by omega), if_pos (by omega), pontoonlaw20_Light.j1, if_pos (by simpa using hr), if_pos (by omega), if_pos (by omega), rd_at hx, room_one k' r x.f2.length hr (by omega), Option.bind_some, ← hr']
            exact m2
          · obtain ⟨h5, h6, h7⟩ := hb2 (hbb h)
            rw [hr'] at h6
            refine ⟨h5, hr, fun y hy => ?_⟩
            have hxi : xs[i] = x := by simpa [hlt] using hx
            rw [List.drop_eq_getElem_cons hlt, hxi] at hy
            rcases List.mem_cons.1 hy with rfl | hy
            · split at h6 <;> omega
            · exact h7 y hy
        · obtain ⟨b, hb, hb2⟩ := fin i r 0 (.inr (.inl (by omega)))
          refine ⟨2, b, ?_, hb2⟩
          rw [pontoonlaw20_Light.l0, if_pos (by omega), if_pos (by omega), show decide (r ≥ 0) = false by simpa using hr]
          exact hb
      · obtain ⟨b, hb, hb2⟩ := fin i r 0 (.inr (.inr (by omega)))
        refine ⟨2, b, ?_, hb2⟩
        rw [pontoonlaw20_Light.l0, if_pos (by omega), if_neg (by omega)]
        exact hb
    · obtain rfl : i = xs.length := by omega
      exact ih xs.length r (by omega) (by omega) h3 h4
theorem light_ok (xs : List S82) (hL : xs.length ≤ 9223372036854775807) : ∃ k b, pontoonlaw20_Light.f k xs = some b ∧ (b = true → xs.length ≤ 60 ∧ ∀ x ∈ xs, x.f2.length ≤ 400) := by
  obtain ⟨k, b, h, h2⟩ := light_at xs hL xs.length 0 400 (by omega) (by omega) (by omega) (by omega)
  exact ⟨k, b, h, fun hb => ⟨(h2 hb).1, by simpa using (h2 hb).2.2⟩⟩
/-! ### Acts in memory -/
def evs (l : List S38) : List E4 := l.map BookEv.ofS
theorem evs_len (l : List S38) : (evs l).length = l.length := by simp [evs]
theorem C_src {w : World} {A : Option Addr} {l : List S38} (h : Kd.C k38 w A l.length l) : Src w A (evs l).length (evs l) := by
  obtain ⟨_, _, h2⟩ := h
  refine ⟨rfl, ?_⟩
  by_cases h0 : l.length = 0
  · exact .inl (by rw [evs_len]; exact h0)
  · obtain ⟨ad, hA, hc⟩ := h2 (by omega)
    refine .inr ⟨ad, hA, fun j v hv => ?_⟩
    have hj : j < l.length * 4 := by
      have := (List.getElem?_eq_some_iff.1 hv).1
      rw [BookEv.fl_len, evs_len] at this
      omega
    have hq : j / 4 < l.length := by omega
    obtain ⟨cs, hcl, hK, hcell⟩ := hc (j / 4) _ (List.getElem?_eq_getElem hq)
    have hk := k38_open hK
    have h4 := fl_at BookEv.vals_len (l := evs l) (i := j / 4) (x := BookEv.ofS l[j / 4]) (by simp [evs, hq]) (j := j % 4) (by omega)
    rw [show j / 4 * 4 + j % 4 = j by omega] at h4
    have h5 : cs[j % 4]? = some v := by
      have h6 : (BookEv.fl (evs l))[j]? = (BookEv.vals (BookEv.ofS l[j / 4]))[j % 4]? := h4
      rw [hv] at h6
      rw [hk, h6]
      rfl
    have h7 := hcell (j % 4) v h5
    have h8 : j / 4 * k38.sz + j % 4 = j := by show j / 4 * 4 + j % 4 = j; omega
    rw [h8] at h7
    exact h7
/-- One act of the row. -/
theorem op_at {w : World} {A : Option Addr} {n : Nat} {l : List S82} (h : Kd.C k82 w A n l) {i : Nat} {x : S82} (hi : l[i]? = some x) : ∃ ad At ct, A = some ad ∧ w.cell? (ad.add (i * 3)) = some (.int .i64 x.f0) ∧ w.cell? ⟨(ad.add (i * 3)).block, (ad.add (i * 3)).off + 1, none⟩ = some (.int .i64 x.f1) ∧ w.cell? ⟨(ad.add (i * 3)).block, (ad.add (i * 3)).off + 2, none⟩ = some (.slice At (evs x.f2).length ct) ∧ (evs x.f2).length ≤ ct ∧ Src w At (evs x.f2).length (evs x.f2) := by
  obtain ⟨h1, _, h2⟩ := h
  have hlt := (List.getElem?_eq_some_iff.1 hi).1
  obtain ⟨ad, hA, hc⟩ := h2 (by omega)
  obtain ⟨cs, _, hK, hcell⟩ := hc i x hi
  obtain ⟨At, ct, rfl, l2, g2⟩ := k82_open hK
  have hc : ∀ j u, _ → w.cell? (ad.add (i * 3 + j)) = some u := hcell
  exact ⟨ad, At, ct, hA, hc 0 _ rfl, by rw [← add_at _ _ 1 (by omega)]; exact hc 1 _ rfl, by rw [← add_at _ _ 2 (by omega), evs_len]; exact hc 2 _ rfl, (by rw [evs_len]; exact l2), C_src g2⟩
def WfOp (x : S82) : Prop := (Lit.int .i64 x.f1).wf = true
set_option maxRecDepth 100000 in
theorem opens_ev : Opens Try.prog 38 k38 := fun H enc w base spare held fuel cs x h => by
  obtain ⟨xs, n, _, _, hcl, hlen, hg⟩ := DataW.trod_struct Try.underlying38 h
  have hC : Try.prog.cellsOf 38 = 4 := by kernel_rfl
  have hI : Try.prog.cellsOf 3 = 1 := by kernel_rfl
  have hS : Try.prog.cellsOf 9 = 1 := by kernel_rfl
  rw [hC] at hcl
  match cs, hcl with
  | [c0, c1, c2, c3], _ =>
    match xs, hlen with
    | [y0, y1, y2, y3], _ =>
      have g0 := hg 0 _ rfl
      have g1 := hg 1 _ rfl
      have g2 := hg 2 _ rfl
      have g3 := hg 3 _ rfl
      simp [hI, hS] at g0 g1 g2 g3
      obtain ⟨a0, r0⟩ := opens_int Try.underlying3 _ _ _ _ _ _ _ _ _ g0
      obtain ⟨a1, r1⟩ := opens_string Try.underlying9 _ _ _ _ _ _ _ _ _ g1
      obtain ⟨a2, r2⟩ := opens_int Try.underlying3 _ _ _ _ _ _ _ _ _ g2
      obtain ⟨a3, r3⟩ := opens_int Try.underlying3 _ _ _ _ _ _ _ _ _ g3
      have r0' : [c0] = [Value.int .i64 a0] := r0
      have r1' : [c1] = [Value.string a1] := r1
      have r2' : [c2] = [Value.int .i64 a2] := r2
      have r3' : [c3] = [Value.int .i64 a3] := r3
      simp only [List.cons.injEq, and_true] at r0' r1' r2' r3'
      subst r0' r1' r2' r3'
      exact ⟨⟨a0, a1, a2, a3⟩, k38_mk w ⟨a0, a1, a2, a3⟩⟩
set_option maxRecDepth 100000 in
theorem opens_kop : Opens2 Try.prog 82 k82 WfOp := fun H enc w base spare held fuel cs x h => by
  obtain ⟨xs, n, _, _, hcl, hlen, hg⟩ := DataW.trod_struct Try.underlying82 h
  have hC : Try.prog.cellsOf 82 = 3 := by kernel_rfl
  have hI : Try.prog.cellsOf 3 = 1 := by kernel_rfl
  have hE : Try.prog.cellsOf 38 = 4 := by kernel_rfl
  have hEs : Try.prog.cellsOf 24 = 1 := by kernel_rfl
  rw [hC] at hcl
  match cs, hcl with
  | [c0, c1, c2], _ =>
    match xs, hlen with
    | [y0, y1, y2], _ =>
      have g0 := hg 0 _ rfl
      have g1 := hg 1 _ rfl
      have g2 := hg 2 _ rfl
      simp [hI, hEs] at g0 g1 g2
      obtain ⟨a0, r0⟩ := opens_int Try.underlying3 _ _ _ _ _ _ _ _ _ g0
      obtain ⟨a1, r1, w1⟩ := opens2_int Try.underlying3 _ _ _ _ _ _ _ _ _ g1
      obtain ⟨a2, A2, p2, r2, l2, q2⟩ := opens_slice Try.underlying24 hE opens_ev _ _ _ _ _ _ _ _ _ g2
      have r0' : [c0] = [Value.int .i64 a0] := r0
      have r1' : [c1] = [Value.int .i64 a1] := r1
      simp only [List.cons.injEq, and_true] at r0' r1' r2
      subst r0' r1' r2
      exact ⟨⟨a0, a1, a2⟩, k82_mk w ⟨a0, a1, a2⟩ l2 q2, w1⟩
end Go.Proofs.Ytjjjinpmflghmaa.Keys
