/- The document's Add and Take of events. Conditions: those in each theorem. -/
import Derived.Test.YtjjjinpmflghmaaGreatRefK
import Derived.Test.YtjjjinpmflghmaaGreatMC
import Derived.Test.YtjjjinpmflghmaaGreatPRefEv
namespace Go.Proofs.YtjjjinpmflghmaaGreat.Keys
open Go.RowKit Go.Proofs.YtjjjinpmflghmaaGreat.Mem Go.Proofs.YtjjjinpmflghmaaGreat.Row Go.Proofs.YtjjjinpmflghmaaGreatW.PrintWords Go.Proofs.YtjjjinpmflghmaaGreatW.PrintMore Go.Proofs.YtjjjinpmflghmaaGreatW.PrintLast Go.Proofs.YtjjjinpmflghmaaGreat.PKeysTell
set_option linter.unusedVariables false
set_option linter.unusedSimpArgs false
theorem ref_some (e : E4) : pontoonref19_Event.f e.k e.s e.x e.y = some (okE e) := by
  unfold okE PKeysTell.keys_Valid.f pontoonref19_Event.f pontoonref12_Ends.f mn mx
  simp only [Option.bind_some]
  repeat' split
  all_goals first
    | rfl
    | omega
    | (simp; omega)
    | (simp only [Option.getD_some]; congr 1; rw [Bool.eq_iff_iff]; simp; omega)
theorem refEv_calls (e : E4) (w : World) : Calls Tryz.prog 5 #[e.val] w fun r w' => r = .returned (.bool (okE e)) ∧ Below w.heap.size w w' :=
  pontoonref19_Event.calls e.k e.s e.x e.y (okE e) w (ref_some e)
/-- An append whose run is known, as one step of a region that draws: for go_region_law. -/
theorem step_append_of {P : Program} {ops : Array Oper} {o : Oper} {a : Act} {w w' : World} {v' : Value} {K : Act → World → Prop} {Q : Exit → Act → World → Prop} {E : Prop} (hw : Region.wanted o (yielded ops a.tmps) = true) (s x : Operand) (t : TypeId) (y z : Value)
    (ho : o.op = .call { callee := .builtin .append, args := #[s, x], argTypes := #[t, t] }) (hs : a.eval s = y) (hx : a.eval x = z)
    (hr : (Builtin.append_ #[t, t] o.type #[y, z]).run P w = .ok v' w') (h : K (a.put o.dst v') w') :
    if Region.wanted o (yielded ops a.tmps) = true then Oper.wp P o a w K Q else E := by
  rw [if_pos hw]
  unfold Oper.wp execOp
  simp only [ho, resolve, invoke, builtin, Sem.run_bind, Sem.run_pure, Result.andThen_ok, List.map_toArray, List.map_cons, List.map_nil, hs, hx, hr]
  exact h
theorem add_at (ad : Addr) (m j : Nat) (hj : 0 < j) : ad.add (m + j) = ⟨(ad.add m).block, (ad.add m).off + j, none⟩ := by
  unfold Addr.add
  rw [if_neg (by omega)]
  split
  · rename_i h; subst h; simp
  · simp [Nat.add_assoc]
theorem src_four {w : World} {ad : Addr} {es : List E4} (h : BookEv.Src w (some ad) es.length es) {i : Nat} {e : E4} (he : es[i]? = some e) :
    w.cell? (ad.add (i * 4)) = some (.int .i64 e.k) ∧ w.cell? ⟨(ad.add (i * 4)).block, (ad.add (i * 4)).off + 1, none⟩ = some (.string e.s) ∧ w.cell? ⟨(ad.add (i * 4)).block, (ad.add (i * 4)).off + 2, none⟩ = some (.int .i64 e.x) ∧ w.cell? ⟨(ad.add (i * 4)).block, (ad.add (i * 4)).off + 3, none⟩ = some (.int .i64 e.y) := by
  have hi := (List.getElem?_eq_some_iff.1 he).1
  rcases h.2 with h0 | ⟨ad', h1, h2⟩
  · omega
  · injection h1 with h1
    subst h1
    have key : ∀ j, j < 4 → (BookEv.fl es)[i * 4 + j]? = (BookEv.vals e)[j]? := fun j hj => fl_at BookEv.vals_len he (by omega)
    rw [← add_at _ _ 1 (by omega), ← add_at _ _ 2 (by omega), ← add_at _ _ 3 (by omega)]
    exact ⟨h2 (i * 4 + 0) _ (key 0 (by omega)), h2 _ _ (key 1 (by omega)), h2 _ _ (key 2 (by omega)), h2 _ _ (key 3 (by omega))⟩
/-- The literal that holds one event. -/
abbrev litE (e : E4) : Obj := .cells #[.int .i64 e.k, .string e.s, .int .i64 e.x, .int .i64 e.y] 25
theorem app_lit (W W1 : World) (B g n : Nat) (v : Value) (l : List E4) (e : E4) (hB : Below B W W1) (hBs : B ≤ W1.heap.size) (ho : W1.ownsRow B 25 4 v n (BookEv.fl l)) (hb : Blk W1 g 25 #[.int .i64 e.k, .string e.s, .int .i64 e.x, .int .i64 e.y]) (hn : n ≤ 100000) :
    ∃ v' w', (Builtin.append_ #[22, 22] 22 #[v, .slice (some ⟨g, 0, none⟩) 1 1]).run Tryz.prog W1 = .ok v' w' ∧ w'.ownsRow B 25 4 v' (n + 1) (BookEv.fl (l ++ [e])) ∧ Below B W w' := by
  obtain ⟨iC, hiC, hz0, hz1, hz2⟩ := info_parts BookEv.infoE
  obtain ⟨v', w2, hr, ho2, hg, _, _⟩ := run_append_two (P := Tryz.prog) W1 B 22 22 25 iC _ 4 40 Tryz.underlying22 hiC hz0 hz1 hz2 rfl (by decide) v n _ ho ⟨g, 0, none⟩ 1 1 (BookEv.vals e) rfl (fun j u hj => by
    rw [BookEv.add0]
    exact (hb.cell j).trans (by simpa [BookEv.vals, E4.cells] using hj)) (BookEv.vals_one e) (by decide) (by unfold maxLen; omega) (by omega) hBs
  refine ⟨v', w2, hr, ?_, hB.grown hg hBs (own_base ho)⟩
  rw [BookEv.fl_app]
  simpa [BookEv.fl] using ho2
theorem app_a (W : World) (A : Option Addr) (n c : Nat) (l : List E4) (e : E4) (hs : BookEv.Src W A n l) (hc : n ≤ c) (hn : n ≤ 100000) :
    ∃ v4 w4, (Builtin.append_ #[22, 22] 22 #[.slice none 0 0, .slice A n c]).run Tryz.prog W = .ok v4 w4 ∧ Below W.heap.size W w4 ∧
      ∃ v7 w7, (Builtin.append_ #[22, 22] 22 #[v4, .slice (some ⟨w4.heap.size, 0, none⟩) 1 1]).run Tryz.prog (w4.alloc (litE e)) = .ok v7 w7 ∧ w7.ownsRow W.heap.size 25 4 v7 (n + 1) (BookEv.fl (l ++ [e])) ∧ Below W.heap.size W w7 := by
  obtain ⟨v4, w4, hr4, ho4, hb4⟩ := BookEv.copy_run A n c l W hs hc hn
  obtain ⟨v7, w7, hr7, ho7, hb7⟩ := app_lit W (w4.alloc (litE e)) W.heap.size w4.heap.size n v4 l e (hb4.alloc hb4.size _) (by have := hb4.size; simp; omega) (ho4.alloc _) (Blk.new _ _ _) hn
  exact ⟨v4, w4, hr4, hb4, v7, w7, hr7, ho7, hb7⟩
theorem app_b (W : World) (A : Option Addr) (n c : Nat) (l : List E4) (e : E4) (hs : BookEv.Src W A n l) (hc : n ≤ c) (hn : n ≤ 100000) :
    ∃ v5 w5, (Builtin.append_ #[22, 22] 22 #[.slice none 0 0, .slice A n c]).run Tryz.prog (W.alloc (litE e)) = .ok v5 w5 ∧ Below W.heap.size W w5 ∧
      ∃ v6 w6, (Builtin.append_ #[22, 22] 22 #[v5, .slice (some ⟨W.heap.size, 0, none⟩) 1 1]).run Tryz.prog w5 = .ok v6 w6 ∧ w6.ownsRow W.heap.size 25 4 v6 (n + 1) (BookEv.fl (l ++ [e])) ∧ Below W.heap.size W w6 := by
  have hbl : Below W.heap.size W (W.alloc (litE e)) := below_alloc (Below.refl _ _) _
  obtain ⟨v5, w5, hr5, ho5, hb5⟩ := BookEv.copy_run A n c l (W.alloc (litE e)) (hs.below hbl) hc hn
  have hB5 : Below W.heap.size W w5 := hbl.trans (hb5.mono (by simp))
  obtain ⟨v6, w6, hr6, ho6, hb6⟩ := app_lit W w5 W.heap.size W.heap.size n v5 l e hB5 hB5.size (own_weaken ho5 (by simp)) ((Blk.new W 25 _).below' hb5) hn
  exact ⟨v5, w5, hr5, hB5, v6, w6, hr6, ho6, hb6⟩
theorem IsR.grown {w w1 : World} {g T c A1c : Nat} {A A1 : Option Addr} {l l2 : List E4} {a : Int} (h : IsR w g T A c l a) (hb : Below w.heap.size w w1) (ho : w1.ownsRow w.heap.size 25 4 (.slice A1 l2.length A1c) l2.length (BookEv.fl l2)) :
    IsR (w1.setCell ⟨g, 0, none⟩ (.slice A1 l2.length A1c)) g T A1 A1c l2 a ∧ Only [g] w (w1.setCell ⟨g, 0, none⟩ (.slice A1 l2.length A1c)) ∧ ∀ x, A1 = some x → w.heap.size ≤ x.block := by
  have ho' : BookEv.Own w1 w.heap.size (.slice A1 l2.length A1c) l2 := ho
  obtain ⟨A2, c2, he, hlc, hsrc, hbk⟩ := ho'.src
  obtain ⟨rfl, rfl⟩ : A1 = A2 ∧ A1c = c2 := by injection he with h1 _ h2; exact ⟨h1, h2⟩
  have hx : ∀ x, A1 = some x → w.heap.size ≤ x.block := fun x hx => own_base ho _ (hbk x hx)
  have hne : ∀ x, A1 = some x → x.block ≠ g := fun x h1 h2 => by
    have h3 := hx x h1
    have h4 := h.blk.lt
    omega
  exact ⟨⟨(h.blk.below' hb).set_ 0 _, hsrc.only ((Only.refl [g] w1).setCell _ _ (.inl (by simp))) (fun x h1 => by simpa using hne x h1), hlc, hne⟩, (Only.of_below [g] hb).setCell _ _ (.inl (by simp)), hx⟩
end Go.Proofs.YtjjjinpmflghmaaGreat.Keys
