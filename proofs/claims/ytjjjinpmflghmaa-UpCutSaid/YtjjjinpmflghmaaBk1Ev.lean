/- Lists of one kind: their rows, copies, lists that are lent, marks. Conditions: those in each theorem. (Printed by gen_book.py.) -/
import Derived.Test.YtjjjinpmflghmaaMA
import Derived.Test.YtjjjinpmflghmaaMC
import Derived.Test.YtjjjinpmflghmaaPBookEv
import Derived.StillTailTactics
namespace Go.Proofs.Ytjjjinpmflghmaa.BookEv
open Go.RowKit Go.Proofs.Ytjjjinpmflghmaa.Mem Go.Proofs.Ytjjjinpmflghmaa.Row Go.Proofs.Ytjjjinpmflghmaa.Keys Go.Proofs.YtjjjinpmflghmaaW.PrintWords Go.Proofs.YtjjjinpmflghmaaW.PrintMore Go.Proofs.YtjjjinpmflghmaaW.PrintLast Go.Proofs.Ytjjjinpmflghmaa.PKeysPlay
set_option linter.unusedVariables false
set_option linter.unusedSimpArgs false

abbrev Al := E4
def vals : Al → List Value := E4.cells
theorem vals_len (x : Al) : (vals x).length = 4 := rfl
theorem vals_one (x : Al) : ∀ u ∈ vals x, u.oneCell' = true := by
  intro u hu
  simp only [vals, E4.cells, List.mem_cons, List.not_mem_nil, or_false] at hu
  rcases hu with rfl | rfl | rfl | rfl <;> rfl
def fl (l : List Al) : List Value := l.flatMap vals
theorem fl_len (l : List Al) : (fl l).length = l.length * 4 := fl_length vals_len l
theorem fl_app (a b : List Al) : fl (a ++ b) = fl a ++ fl b := by simp [fl, List.flatMap_append]
theorem fl_one (l : List Al) : ∀ u ∈ fl l, u.oneCell' = true := by
  intro u hu
  obtain ⟨x, _, hx⟩ := List.mem_flatMap.1 hu
  exact vals_one x u hx
theorem infoE : (Try.prog.info? 38).map (fun i => (i.zero, i.size, i.bytes)) = some (some (.agg #[.int .i64 0, .string ⟨#[]⟩, .int .i64 0, .int .i64 0]), 4, 40) := by kernel_rfl
/-- A row that is read. -/
def Src (w : World) (A : Option Addr) (n : Nat) (l : List Al) : Prop := l.length = n ∧ (n = 0 ∨ ∃ ad, A = some ad ∧ ∀ j v, (fl l)[j]? = some v → w.cell? (ad.add j) = some v)
/-- A row of the call's own. -/
def Own (w : World) (B : Nat) (v : Value) (l : List Al) : Prop := w.ownsRow B 38 4 v l.length (fl l)
theorem Src.below {w w' : World} {A : Option Addr} {n : Nat} {l : List Al} (h : Src w A n l) (hb : Below w.heap.size w w') : Src w' A n l := ⟨h.1, h.2.imp id (fun ⟨a, h1, h2⟩ => ⟨a, h1, fun j u hj => pw_cell_below hb (h2 j u hj)⟩)⟩
theorem Src.only {gs : List Nat} {w w' : World} {A : Option Addr} {n : Nat} {l : List Al} (h : Src w A n l) (ho : Only gs w w') (hA : ∀ a, A = some a → a.block ∉ gs) : Src w' A n l :=
  ⟨h.1, h.2.imp id (fun ⟨a, h1, h2⟩ => ⟨a, h1, fun j u hj => ho.cell (h2 j u hj) (by
    have e : (a.add j).block = a.block := by unfold Addr.add; split <;> rfl
    rw [e]
    exact hA a h1)⟩)⟩
theorem add0 (b j : Nat) : (⟨b, 0, none⟩ : Addr).add j = ⟨b, j, none⟩ := by unfold Addr.add; split <;> simp_all
theorem Own.src {w : World} {B : Nat} {v : Value} {l : List Al} (h : Own w B v l) : ∃ A c, v = .slice A l.length c ∧ l.length ≤ c ∧ Src w A l.length l ∧ ∀ a, A = some a → v.ownBlock = some a.block := by
  rcases row_form h with ⟨rfl, h2, _⟩ | ⟨b, c, rfl, h3, _, _, _, h7, _⟩
  · exact ⟨none, 0, by rw [h2], by omega, ⟨rfl, .inl h2⟩, fun a e => by cases e⟩
  · exact ⟨_, c, rfl, h3, ⟨rfl, .inr ⟨_, rfl, fun j u hj => by rw [add0]; exact h7 j u hj⟩⟩, fun a e => by injection e with e; subst e; rfl⟩
theorem Own.below {w w' : World} {B : Nat} {v : Value} {l : List Al} (h : Own w B v l) (hb : Below w.heap.size w w') : Own w' B v l := pw_own_below h hb
theorem Own.only {gs : List Nat} {w w' : World} {B : Nat} {v : Value} {l : List Al} (h : Own w B v l) (ho : Only gs w w') (hv : ∀ k, v.ownBlock = some k → k ∉ gs) : Own w' B v l := row_only h ho hv
theorem Own.zero {w : World} {B : Nat} {v : Value} {l : List Al} (h : Own w B v l) : Own w 0 v l := row_zero h
theorem Own.nil (w : World) (B : Nat) : Own w B (.slice none 0 0) [] := own_nil _ _ _ _
/-- As the printed texts have it. -/
def toS (x : Al) : S38 := ⟨x.k, x.s, x.x, x.y⟩
def ofS (x : S38) : Al := ⟨x.f0, x.f1, x.f2, x.f3⟩
theorem ofTo (x : Al) : ofS (toS x) = x := rfl
theorem toOf (x : S38) : toS (ofS x) = x := rfl
theorem C_of {w : World} {A : Option Addr} {n : Nat} {l : List Al} (h : Src w A n l) (hl : n ≤ 1000000) : Kd.C k38 w A (l.map toS).length (l.map toS) := by
  obtain ⟨h1, h2⟩ := h
  refine ⟨rfl, by simp; omega, fun h0 => ?_⟩
  rw [List.length_map, h1] at h0
  rcases h2 with h2 | ⟨ad, hA, hc⟩
  · omega
  · refine ⟨ad, hA, fun i y hy => ?_⟩
    rw [List.getElem?_map] at hy
    cases hq : l[i]? with
    | none => rw [hq] at hy; cases hy
    | some x =>
      rw [hq] at hy
      injection hy with hy
      subst hy
      refine ⟨vals x, rfl, k38_mk w (toS x), fun j u hu => ?_⟩
      have hj : j < 4 := (List.getElem?_eq_some_iff.1 hu).1
      exact hc _ u ((fl_at vals_len hq hj).trans hu)
theorem R_own {w : World} {base : Nat} {ok : Nat → Prop} {v : Value} {r : List (S38)} (h : Kd.R k38 38 w base ok v r) : Own w base v (r.map ofS) := by
  obtain ⟨_, inner, ho, hr1, hr2⟩ := h
  have e : inner = fl (r.map ofS) := by
    apply List.ext_getElem?
    intro j
    have hlen : (fl (r.map ofS)).length = inner.length := by rw [fl_len, hr1, List.length_map]; rfl
    by_cases hj : j < inner.length
    · have hq : j / 4 < r.length := by
        have : inner.length = r.length * 4 := hr1
        omega
      have h1 := hr2 (j / 4) _ (List.getElem?_eq_getElem hq)
      have h2 := k38_openM h1
      have h3 : (r.map ofS)[j / 4]? = some (ofS r[j / 4]) := by rw [List.getElem?_map, List.getElem?_eq_getElem hq]; rfl
      have h4 := fl_at vals_len h3 (j := j % 4) (by omega)
      rw [show j / 4 * 4 + j % 4 = j by omega] at h4
      show inner[j]? = (fl (r.map ofS))[j]?
      rw [show (fl (r.map ofS))[j]? = (vals (ofS r[j / 4]))[j % 4]? from h4]
      have h5 : inner[j]? = ((inner.drop (j / 4 * 4)).take 4)[j % 4]? := by
        rw [List.getElem?_take, if_pos (by omega), List.getElem?_drop, show j / 4 * 4 + j % 4 = j by omega]
      rw [h5]
      exact congrArg (fun z : List Value => z[j % 4]?) h2
    · rw [List.getElem?_eq_none (by omega), List.getElem?_eq_none (by omega)]
  unfold Own
  rw [List.length_map, ← e]
  exact ho
theorem same_ok (l : List (S38)) (hl : l.length ≤ 1000000) : ∀ k i, l.length + 1 ≤ k + i → i ≤ l.length → pontoonbook_SameEvents.l0 k l l (i : Int) = some true := by
  intro k
  induction k with
  | zero => intro i h1 h2; omega
  | succ k ih =>
    intro i h1 h2
    simp only [pontoonbook_SameEvents.l0]
    by_cases hlt : i < l.length
    · have hw : wrap64 ((i : Int) + 1) = ((i + 1 : Nat) : Int) := by unfold wrap64; omega
      rw [if_pos (by omega), if_pos (by omega), if_pos (by omega), if_pos (by simp), hw]
      exact ih (i + 1) (by omega) (by omega)
    · rw [if_neg (by omega)]
theorem same_f (l : List (S38)) (hl : l.length ≤ 1000000) (k : Nat) (hk : l.length + 1 ≤ k) : pontoonbook_SameEvents.f k l l = some true := by
  unfold pontoonbook_SameEvents.f
  rw [if_pos rfl]
  exact same_ok l hl k 0 (by omega) (by omega)
theorem same_calls (A0 : Option Addr) (n0 c0 : Nat) (A1 : Option Addr) (n1 c1 : Nat) (l : List Al) (w : World) (h0 : Src w A0 n0 l) (hc0 : n0 ≤ c0) (h1 : Src w A1 n1 l) (hc1 : n1 ≤ c1) (hl : l.length ≤ 1000000) :
    Calls Try.prog 31 #[.slice A0 n0 c0, .slice A1 n1 c1] w fun r w' => r = .returned (.bool true) ∧ ∃ n, w.drewN n = w' := by
  have e0 := h0.1
  have e1 := h1.1
  have h := pontoonbook_SameEvents.calls (l.length + 1) A0 c0 (l.map toS) A1 c1 (l.map toS) true w (C_of h0 (by omega)) (by simp; omega) (C_of h1 (by omega)) (by simp; omega) (same_f _ (by simpa using hl) _ (by simp))
  rw [List.length_map] at h
  rw [← e0]
  rw [show n1 = l.length by omega]
  refine h.mono ?_
  rintro r w' ⟨rfl, ⟨n, rfl⟩⟩
  exact ⟨rfl, n, rfl⟩
def nm (i k : Int) : ByteArray := (pontoonbook_name.f i k).getD ⟨#[]⟩
theorem nm_some (i k : Int) : pontoonbook_name.f i k = some (nm i k) := rfl
/-- The mark of list i, place k. -/
def mkS (i k : Int) : S38 := ⟨0, nm i k, 0, 0⟩
def mk (i k : Nat) : Al := ofS (mkS i k)
def MK (i a n : Nat) : List Al := (List.range n).map fun j => mk i (a + j)
theorem MK_len (i a n : Nat) : (MK i a n).length = n := by simp [MK]
theorem MK_app (i a n m : Nat) : MK i a n ++ MK i (a + n) m = MK i a (n + m) := by
  unfold MK
  rw [List.range_add, List.map_append, List.map_map]
  congr 1
  apply List.map_congr_left
  intro j _
  simp only [Function.comp]
  rw [Nat.add_assoc]
theorem MK_succ (i a n : Nat) : MK i a (n + 1) = MK i a n ++ [mk i (a + n)] := by
  rw [← MK_app]
  rfl
theorem mark_ok (i a n : Nat) (hn : a + n ≤ 1000000) : ∀ k j (acc : List (S38)), n + 1 ≤ k + j → j ≤ n → acc = (MK i a j).map toS → pontoonbook_markEvents.l0 k i a n acc ((a + j : Nat) : Int) = some ((MK i a n).map toS) := by
  intro k
  induction k with
  | zero => intro j acc h1 h2; omega
  | succ k ih =>
    intro j acc h1 h2 h3
    have hw0 : wrap64 ((a : Int) + (n : Int)) = ((a + n : Nat) : Int) := by unfold wrap64; omega
    have hlen : acc.length = j := by rw [h3, List.length_map, MK_len]
    simp only [pontoonbook_markEvents.l0]
    by_cases hlt : j < n
    · have hw : wrap64 (((a + j : Nat) : Int) + 1) = ((a + (j + 1) : Nat) : Int) := by unfold wrap64; omega
      rw [hw0, if_pos (by omega), nm_some, Option.bind_some, if_pos (by omega), hw]
      exact ih (j + 1) _ (by omega) (by omega) (by rw [h3, MK_succ, List.map_append]; rfl)
    · have : j = n := by omega
      subst this
      rw [hw0, if_neg (by omega), h3]
theorem mark_f (i a n : Nat) (hn : a + n ≤ 1000000) (k : Nat) (hk : n + 1 ≤ k) : pontoonbook_markEvents.f k i a n = some ((MK i a n).map toS) := mark_ok i a n hn k 0 [] (by omega) (by omega) rfl
theorem map_of_to (l : List Al) : (l.map toS).map ofS = l := by
  rw [List.map_map]
  conv => rhs; rw [← List.map_id l]
  rfl
theorem mark_calls (i a n : Nat) (w : World) (hn : a + n ≤ 1000000) :
    Calls Try.prog 124 #[.int .i64 (i : Int), .int .i64 (a : Int), .int .i64 (n : Int)] w fun r w' => ∃ v, r = .returned v ∧ Own w' w.heap.size v (MK i a n) ∧ Below w.heap.size w w' := by
  refine (pontoonbook_markEvents.calls (n + 1) i a n ((MK i a n).map toS) w (mark_f i a n hn _ (by omega))).mono ?_
  rintro r w1 ⟨v, rfl, hR, hb⟩
  have h := R_own hR
  rw [map_of_to] at h
  exact ⟨v, rfl, h, hb⟩
/-! ### Copies -/
theorem copy_run (A : Option Addr) (n c : Nat) (l : List Al) (w : World) (h : Src w A n l) (hc : n ≤ c) (hl : n ≤ 100000) :
    ∃ v w1, (Builtin.append_ #[24, 24] 24 #[.slice none 0 0, .slice A n c]).run Try.prog w = .ok v w1 ∧ w1.ownsRow w.heap.size 38 4 v n (fl l) ∧ Below w.heap.size w w1 := by
  obtain ⟨iC, hiC, hz0, hz1, hz2⟩ := info_parts infoE
  obtain ⟨h1, h2⟩ := h
  rcases h2 with h2 | ⟨ad, rfl, hcc⟩
  · subst h2
    have hl0 : l = [] := List.eq_nil_of_length_eq_zero h1
    subst hl0
    cases A with
    | none =>
      refine ⟨.slice none 0 0, w, ?_, World.ownsRow_nil _ _ _ _, Below.refl _ _⟩
      simp [Builtin.append_, run_underlying Try.underlying24, sizeOf, typeInfo, hiC, Builtin.lenOf, Builtin.firstCells, loadCells, loadCellsFrom]
    | some ad =>
      obtain ⟨v, w1, hr, ho, hg, _, _⟩ := run_append_own_at (P := Try.prog) w w.heap.size 24 24 38 iC _ 4 40 Try.underlying24 hiC hz0 hz1 hz2 rfl (by decide) _ 0 [] (World.ownsRow_nil _ _ _ _) ad 0 c [] (by simp) (by simp) (by simp) (by simp [maxLen]) (by omega) (Nat.le_refl _)
      exact ⟨v, w1, hr, ho, ⟨hg.os, hg.tape, hg.output, hg.size, fun k hk => hg.block k hk (by simp [Value.ownBlock])⟩⟩
  · obtain ⟨v, w1, hr, ho, hg, _, _⟩ := run_append_own_at (P := Try.prog) w w.heap.size 24 24 38 iC _ 4 40 Try.underlying24 hiC hz0 hz1 hz2 rfl (by decide) _ 0 [] (World.ownsRow_nil _ _ _ _) ad n c (fl l) (by rw [fl_len, h1]) hcc (fl_one l) (by unfold maxLen; omega) (by omega) (Nat.le_refl _)
    rw [Nat.zero_add, List.nil_append] at ho
    exact ⟨v, w1, hr, ho, ⟨hg.os, hg.tape, hg.output, hg.size, fun k hk => hg.block k hk (by simp [Value.ownBlock])⟩⟩
theorem append_of {P : Program} {w w' : World} {v : Value} {ops : Array Oper} {rest : List Oper} {o : Oper} {a : Act} {Q : Exit → Act → World → Prop} (hgd : o.guard = none) (d s : Operand) (dT sT : TypeId) (x y : Value)
    (ho : o.op = .call { callee := .builtin .append, args := #[d, s], argTypes := #[dT, sT] }) (hd : a.eval d = x) (hs : a.eval s = y)
    (hr : (Builtin.append_ #[dT, sT] o.type #[x, y]).run P w = .ok v w')
    (h : wpList P ops Q rest (a.put o.dst v) w') : wpList P ops Q (o :: rest) a w :=
  wpList_plain hgd fun _ hK => by
    unfold Oper.wp execOp
    simp only [ho, resolve, invoke, builtin, Sem.run_bind, Sem.run_pure, Result.andThen_ok, List.map_toArray, List.map_cons, List.map_nil, hd, hs, hr]
    exact hK _ _ h
theorem copy_calls (A : Option Addr) (n c : Nat) (l : List Al) (w : World) (h : Src w A n l) (hc : n ≤ c) (hl : n ≤ 100000) :
    Calls Try.prog 65 #[.slice A n c] w fun r w' => ∃ v, r = .returned v ∧ Own w' w.heap.size v l ∧ Below w.heap.size w w' := by
  obtain ⟨v, w1, hr, ho, hb⟩ := copy_run A n c l w h hc hl
  have HR := Aside0.mk hr
  have HO := Aside0.mk (show Own w1 w.heap.size v l by unfold Own; rw [h.1]; exact ho)
  have HB := Aside0.mk hb
  clear hr ho hb h
  go_enter Try.func65, Try.ntmps65
  go_wp2_with (with_reducible refine append_of rfl (.const (.slice none 0 0)) (.tmp 3) 24 24 (.slice none 0 0) (.slice A n c) rfl ?_ ?_ HR.out ?_)
  all_goals first | rfl | skip
  go_ret
  exact ⟨_, rfl, HO.out, HB.out⟩
/-! ### Lists that are lent -/
def mM : Al := ⟨0, ⟨#[109, 97, 114, 107]⟩, 0, 0⟩
/-- A list's elements, and the mark behind them, in a row of the call's own. -/
def Lent (w : World) (B g c : Nat) (l : List Al) : Prop := B ≤ g ∧ l.length + 1 ≤ c ∧ c ≤ maxLen ∧ ∃ rest, Blk w g 38 (fl (l ++ [mM]) ++ rest).toArray
theorem Lent.only {w w' : World} {B g c : Nat} {l : List Al} (h : Lent w B g c l) {gs : List Nat} (ho : Only gs w w') (hg : g ∉ gs) : Lent w' B g c l := by
  obtain ⟨h1, h2, h3, rest, h4⟩ := h
  exact ⟨h1, h2, h3, rest, h4.only ho hg⟩
theorem Lent.below {w w' : World} {B g c : Nat} {l : List Al} (h : Lent w B g c l) (hb : Below w.heap.size w w') : Lent w' B g c l := h.only (Only.of_below [] hb) (by simp)
theorem Lent.lt {w : World} {B g c : Nat} {l : List Al} (h : Lent w B g c l) : g < w.heap.size := by
  obtain ⟨_, _, _, rest, h4⟩ := h
  exact h4.lt
theorem Lent.src {w : World} {B g c : Nat} {l : List Al} (h : Lent w B g c l) : Src w (some ⟨g, 0, none⟩) l.length l := by
  obtain ⟨h1, h2, h3, rest, h4⟩ := h
  refine ⟨rfl, .inr ⟨_, rfl, fun j v hv => ?_⟩⟩
  have hj : j < (fl l).length := (List.getElem?_eq_some_iff.1 hv).1
  rw [add0, h4.cell, List.getElem?_toArray, List.getElem?_append_left (by rw [fl_app, List.length_append]; omega), fl_app, List.getElem?_append_left hj]
  exact hv
theorem own_blk {w : World} {B : Nat} {v : Value} {n : Nat} {xs : List Value} (h : w.ownsRow B 38 4 v n xs) (hn : 0 < n) : ∃ g c rest, v = .slice (some ⟨g, 0, none⟩) n c ∧ B ≤ g ∧ n ≤ c ∧ c ≤ maxLen ∧ Blk w g 38 (xs ++ rest).toArray := by
  rcases h.2 with ⟨_, h2⟩ | ⟨g, c, cur, h2, h3, h4, h5, h6, h7, h8⟩
  · omega
  · refine ⟨g, c, cur.toList.drop (n * 4), h2, h3, h5, h6, ?_⟩
    unfold Blk
    rw [h4, ← h8, List.take_append_drop, Array.toArray_toList]
set_option maxHeartbeats 4000000 in
set_option maxRecDepth 100000 in
theorem lent_calls (A : Option Addr) (n c : Nat) (l : List Al) (w : World) (h : Src w A n l) (hc : n ≤ c) (hl : n ≤ 100000) :
    Calls Try.prog 25 #[.slice A n c] w fun r w' => ∃ g c', r = .returned (.slice (some ⟨g, 0, none⟩) n c') ∧ Lent w' w.heap.size g c' l ∧ Below w.heap.size w w' := by
  obtain ⟨iC, hiC, hz0, hz1, hz2⟩ := info_parts infoE
  have hcp := copy_calls A n c l w h hc hl
  have HL := Aside0.mk h.1
  clear h
  go_enter Try.func25, Try.ntmps25
  go_wp2_with fail
  refine hcp.mono ?_
  clear hcp
  rintro e1 w1 ⟨v, rfl, ho, hb⟩
  have ho2 : (w1.alloc (.cells #[.int .i64 0, .string ⟨#[109, 97, 114, 107]⟩, .int .i64 0, .int .i64 0] 38)).ownsRow w.heap.size 38 4 v n (fl l) := by
    have := ho
    unfold Own at this
    rw [HL.out] at this
    exact this.alloc _
  obtain ⟨v3, w3, hr3, ho3, hg3, _, _⟩ := run_append_own_at (P := Try.prog) _ w.heap.size 24 24 38 iC _ 4 40 Try.underlying24 hiC hz0 hz1 hz2 rfl (by decide) v n (fl l) ho2 ⟨w1.heap.size, 0, none⟩ 1 1 (fl [mM]) (by simp [fl, vals_len])
    (fun j u hu => by
      rw [add0, (Blk.new w1 38 _).cell j]
      have hu' : #[.int .i64 0, .string ⟨#[109, 97, 114, 107]⟩, .int .i64 0, .int .i64 0][j]? = some u := by rw [← hu]; simp [fl, mM, vals, E4.cells]
      exact hu') (fl_one _) (by unfold maxLen; omega) (by omega) (by have := hb.size; simp; omega)
  have HR3 := Aside0.mk hr3
  have hfl : fl l ++ fl [mM] = fl (l ++ [mM]) := (fl_app _ _).symm
  rw [hfl] at ho3
  obtain ⟨g, c', rest, rfl, hg1, hg2, hg4, hg5⟩ := own_blk ho3 (by omega)
  have HB3 := Aside0.mk (show Below w.heap.size w w3 from (below_alloc hb (.cells #[.int .i64 0, .string ⟨#[109, 97, 114, 107]⟩, .int .i64 0, .int .i64 0] 38)).trans ⟨hg3.os, hg3.tape, hg3.output, hg3.size, fun k hk => hg3.block k (by have := hb.size; simp; omega) (fun e => by
    have := own_base ho2 k e.symm
    omega)⟩)
  have HLC := Aside0.mk (show Lent w3 w.heap.size g c' l from ⟨hg1, by rw [HL.out]; exact hg2, hg4, rest, hg5⟩)
  have hn1 : (n : Int) ≤ (c' : Int) := by omega
  clear ho hb ho2 hr3 ho3 hg3 hg5 hg1 hiC hz0 hz1 hz2 hfl
  go_wp2_with (with_reducible refine append_of rfl (.tmp 4) (.tmp 6) 24 24 v (.slice (some ⟨w1.heap.size, 0, none⟩) 1 1) rfl ?_ ?_ HR3.out ?_)
  all_goals first | rfl | skip
  go_ret
  exact ⟨_, _, rfl, HLC.out, HB3.out⟩
set_option maxHeartbeats 4000000 in
set_option maxRecDepth 100000 in
theorem stays_calls (B g c' : Nat) (A : Option Addr) (n c : Nat) (l : List Al) (w : World) (h : Lent w B g c' l) (h2 : Src w A n l) (hc : n ≤ c) (hl : n ≤ 100000) :
    Calls Try.prog 40 #[.slice (some ⟨g, 0, none⟩) n c', .slice A n c] w fun r w' => r = .returned (.bool true) ∧ ∃ n, w.drewN n = w' := by
  have h0 := h2.1
  have hS := same_calls (some ⟨g, 0, none⟩) n c' A n c l w (by rw [← h0]; exact h.src) (by have := h.2.1; omega) h2 hc (by omega)
  have HS := Aside0.mk hS
  have hcap := h.2.1
  obtain ⟨_, _, hm, rest, hb⟩ := h
  have hq : (l ++ [mM])[n]? = some mM := by rw [List.getElem?_append_right (by omega)]; simp [h0]
  have x0 : w.cell? ⟨g, n * 4 + 1, none⟩ = some (.string ⟨#[109, 97, 114, 107]⟩) := (hb.cell _).trans (by
    have h4 := fl_at vals_len hq (j := 1) (by decide)
    have hj : n * 4 + 1 < (fl (l ++ [mM])).length := (List.getElem?_eq_some_iff.1 (h4.trans (show _ = some (.string ⟨#[109, 97, 114, 107]⟩) from rfl))).1
    rw [List.getElem?_toArray, List.getElem?_append_left hj]
    exact h4.trans rfl)
  have hw : IntKind.i64.wrap ((n : Int) + 1) = ((n + 1 : Nat) : Int) := IntWalk.i64_in _ (by omega)
  obtain ⟨n1, hn1⟩ : ∃ n1, n1 = n + 1 := ⟨_, rfl⟩
  rw [← hn1] at hw
  have hnn : (n : Int) < (n1 : Int) := by omega
  have hn0 : (0 : Int) ≤ (n : Int) := Int.natCast_nonneg _
  have hnc : n1 ≤ c' := by omega
  unfold maxLen at hm
  clear hb hq hS h2 hcap h0 hn1
  go_enter Try.func40, Try.ntmps40
  go_wp2_with fail
  refine HS.out.mono ?_
  rintro e1 w1 ⟨rfl, k, rfl⟩
  go_wp2
  go_ret
  exact ⟨rfl, _, rfl⟩
end Go.Proofs.Ytjjjinpmflghmaa.BookEv
