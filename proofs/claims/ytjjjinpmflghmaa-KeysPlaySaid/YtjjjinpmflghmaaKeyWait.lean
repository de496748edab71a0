/- keys.Out's Wait: the first events that wait, copied. Conditions: those in each theorem. -/
import Derived.Test.YtjjjinpmflghmaaKeyAl
namespace Go.Proofs.Ytjjjinpmflghmaa.Keys
open Go.RowKit Go.Proofs.Ytjjjinpmflghmaa.Mem Go.Proofs.YtjjjinpmflghmaaW.PrintWords Go.Proofs.YtjjjinpmflghmaaW.PrintMore Go.Proofs.YtjjjinpmflghmaaW.PrintLast Go.Proofs.Ytjjjinpmflghmaa.PKeysBounds
set_option linter.unusedVariables false
set_option linter.unusedSimpArgs false
theorem takeH {P : Program} {md : Region.Mode} {ops : Array Oper} {Q : Exit → Act → World → Prop} {S : World → Prop} {i d : Nat} {oi : Oper} {v : Value} {fuel : Nat} {listed : Array Bool} {a : Act} {w : World} (hi : ops[i]? = some oi) (hd : oi.dst = some d)
    (hs : Region.noSelect ops = true) (hf : Region.free md ops listed i = true) (hr : (Region.ready md ops listed).contains i = true)
    (hQ : ∀ c a w, Q (.panic c) (a.put oi.dst v) w → Q (.panic c) a w) (hy : YieldsIf P ops S oi v a) (hS : S w)
    (h : wpAnyH P md ops Q S fuel (listed.setIfInBounds i true) { a with tmps := a.tmps.setIfInBounds d v } w) : wpAnyH P md ops Q S (fuel + 1) listed a w :=
  wpAnyH_take hi hs hf hr hQ hy hS (by rw [hd]; exact h)
theorem min2_w (k k' : IntKind) (x y : Int) : Builtin.min2 (.int k x) (.int k' y) = pure (.int k (min x y)) := by
  rw [min2_int]; congr 2; split <;> omega
theorem max2_w (k k' : IntKind) (x y : Int) : Builtin.max2 (.int k x) (.int k' y) = pure (.int k (max x y)) := by
  rw [max2_int]; congr 2; split <;> omega
attribute [local go_sem] min2_w max2_w min_two max_two
set_option maxHeartbeats 1000000 in
theorem wait_none (g : Nat) (v : Value) (a b most : Int) (w : World) (h : IsQ w g 33 v [] a b) :
    Calls Try.prog 28 #[.pointer (some ⟨g, 0, none⟩), .int .i64 most] w fun r w' => r = .returned (.tuple #[.int .i64 0, .slice none 0 0]) ∧ w = w' := by
  have hn := eql_pout ⟨g, 0, none⟩
  obtain ⟨A, c, rfl⟩ := own_sl h.row
  have hc := (h.blk.cell 0).trans (show _ = some (Value.slice A ([] : List E4).length c) from rfl)
  clear h
  go_enter Try.func28, Try.ntmps28
  go_wp2
  go_ret2
  exact ⟨rfl, rfl⟩
theorem take_src {w : World} {g gb c : Nat} {T : TypeId} {l : List E4} {a b : Int} (h : IsQ w g T (.slice (some ⟨gb, 0, none⟩) l.length c) l a b) (m : Nat) : SrcE w (some ⟨gb, 0, none⟩) (l.take m) := by
  rcases own_form h.row with ⟨h1, _⟩ | ⟨gb', c', h1, _, h3⟩
  · cases h1
  · injection h1 with h1
    injection h1 with h1
    injection h1 with h1
    subst h1
    refine .inr ⟨_, rfl, fun j u hj => ?_⟩
    have e : (⟨gb, 0, none⟩ : Addr).add j = ⟨gb, j, none⟩ := by unfold Addr.add; split <;> simp_all
    rw [e]
    rw [← fe_take, List.getElem?_take] at hj
    split at hj
    · exact h3 j u hj
    · cases hj
set_option maxHeartbeats 4000000 in
set_option maxRecDepth 100000 in
theorem wait_some (g gb c m : Nat) (l : List E4) (a b most : Int) (w : World) (h : IsQ w g 33 (.slice (some ⟨gb, 0, none⟩) l.length c) l a b) (hl : 0 < l.length) (hlc : l.length ≤ c) (hl2 : l.length ≤ 100000) (hb : 0 ≤ b) (hb2 : b ≤ 1000000000000) (hm : min (max most 0) (l.length : Int) = (m : Int)) (hml : m ≤ l.length) :
    Calls Try.prog 28 #[.pointer (some ⟨g, 0, none⟩), .int .i64 most] w fun r w' => (∃ v', r = .returned (.tuple #[.int .i64 (b + 1), v']) ∧ w'.ownsRow w.heap.size 38 4 v' m (fe (l.take m))) ∧ Below w.heap.size w w' := by
  have hn := eql_pout ⟨g, 0, none⟩
  have hc := (h.blk.cell 0).trans (show _ = some (Value.slice (some ⟨gb, 0, none⟩) l.length c) from rfl)
  have HQ := Aside0.mk h
  have hlI : (0 : Int) < (l.length : Int) := by omega
  have hw : IntKind.i64.wrap (b + 1) = b + 1 := IntWalk.i64_in _ (by omega)
  clear h
  go_enter Try.func28, Try.ntmps28
  go_upto_region 3 with (fail)
  have hmc : m ≤ c := by omega
  have hmc2 : ¬ c < m := by omega
  have XQ0 := Aside0.mk (show IsQ w.drew g 33 (.slice (some ⟨gb, 0, none⟩) l.length c) l a b ∧ Below w.heap.size w w.drew from ⟨HQ.out.below (below_drew (Below.refl _ _)), below_drew (Below.refl _ _)⟩)
  clear hc
  refine wp_region_held_drew (S := fun w' => IsQ w' g 33 (.slice (some ⟨gb, 0, none⟩) l.length c) l a b ∧ Below w.heap.size w w') (by kernel_rfl) (by exact XQ0.out) (fun hHeld => ?_)
  refine takeH (i := 0) (d := 16) (v := (.pointer (some ⟨g, 0, none⟩))) rfl rfl (by kernel_rfl) (by kernel_rfl) (by kernel_rfl) (fun _ _ _ h => h) (Or.inl ⟨by kernel_rfl, by intro w hSw; (try dsimp only at hSw); go_simp; done⟩) (by assumption) ?_
  try simp only [List.setIfInBounds_toArray, List.set_cons_zero, List.set_cons_succ]
  refine takeH (i := 3) (d := 19) (v := (.pointer (some ⟨g, 0, none⟩))) rfl rfl (by kernel_rfl) (by kernel_rfl) (by kernel_rfl) (fun _ _ _ h => h) (Or.inl ⟨by kernel_rfl, by intro w hSw; (try dsimp only at hSw); go_simp; done⟩) (by assumption) ?_
  try simp only [List.setIfInBounds_toArray, List.set_cons_zero, List.set_cons_succ]
  refine takeH (i := 4) (d := 20) (v := (.pointer (some ⟨g, 0, none⟩))) rfl rfl (by kernel_rfl) (by kernel_rfl) (by kernel_rfl) (fun _ _ _ h => h) (Or.inl ⟨by kernel_rfl, by intro w hSw; (try dsimp only at hSw); go_simp; done⟩) (by assumption) ?_
  try simp only [List.setIfInBounds_toArray, List.set_cons_zero, List.set_cons_succ]
  refine takeH (i := 5) (d := 21) (v := (.pointer (some ⟨g, 0, none⟩))) rfl rfl (by kernel_rfl) (by kernel_rfl) (by kernel_rfl) (fun _ _ _ h => h) (Or.inl ⟨by kernel_rfl, by intro w hSw; (try dsimp only at hSw); go_simp; done⟩) (by assumption) ?_
  try simp only [List.setIfInBounds_toArray, List.set_cons_zero, List.set_cons_succ]
  refine takeH (i := 6) (d := 22) (v := (.slice (some ⟨gb, 0, none⟩) l.length c)) rfl rfl (by kernel_rfl) (by kernel_rfl) (by kernel_rfl) (fun _ _ _ h => h) (Or.inl ⟨by kernel_rfl, by intro w hSw; (try dsimp only at hSw); have c0 := (hSw.1.blk.cell 0).trans (show _ = some (Value.slice (some ⟨gb, 0, none⟩) l.length c) from rfl); go_simp; done⟩) (by assumption) ?_
  try simp only [List.setIfInBounds_toArray, List.set_cons_zero, List.set_cons_succ]
  refine takeH (i := 7) (d := 23) (v := (.int .i64 most)) rfl rfl (by kernel_rfl) (by kernel_rfl) (by kernel_rfl) (fun _ _ _ h => h) (Or.inl ⟨by kernel_rfl, by intro w hSw; (try dsimp only at hSw); go_simp; done⟩) (by assumption) ?_
  try simp only [List.setIfInBounds_toArray, List.set_cons_zero, List.set_cons_succ]
  refine takeH (i := 8) (d := 24) (v := (.int .i64 (max most 0))) rfl rfl (by kernel_rfl) (by kernel_rfl) (by kernel_rfl) (fun _ _ _ h => h) (Or.inl ⟨by kernel_rfl, by intro w hSw; (try dsimp only at hSw); go_simp; done⟩) (by assumption) ?_
  try simp only [List.setIfInBounds_toArray, List.set_cons_zero, List.set_cons_succ]
  refine takeH (i := 9) (d := 25) (v := (.pointer (some ⟨g, 0, none⟩))) rfl rfl (by kernel_rfl) (by kernel_rfl) (by kernel_rfl) (fun _ _ _ h => h) (Or.inl ⟨by kernel_rfl, by intro w hSw; (try dsimp only at hSw); go_simp; done⟩) (by assumption) ?_
  try simp only [List.setIfInBounds_toArray, List.set_cons_zero, List.set_cons_succ]
  refine takeH (i := 10) (d := 26) (v := (.pointer (some ⟨g, 0, none⟩))) rfl rfl (by kernel_rfl) (by kernel_rfl) (by kernel_rfl) (fun _ _ _ h => h) (Or.inl ⟨by kernel_rfl, by intro w hSw; (try dsimp only at hSw); go_simp; done⟩) (by assumption) ?_
  try simp only [List.setIfInBounds_toArray, List.set_cons_zero, List.set_cons_succ]
  refine takeH (i := 11) (d := 27) (v := (.pointer (some ⟨g, 0, none⟩))) rfl rfl (by kernel_rfl) (by kernel_rfl) (by kernel_rfl) (fun _ _ _ h => h) (Or.inl ⟨by kernel_rfl, by intro w hSw; (try dsimp only at hSw); go_simp; done⟩) (by assumption) ?_
  try simp only [List.setIfInBounds_toArray, List.set_cons_zero, List.set_cons_succ]
  refine takeH (i := 12) (d := 28) (v := (.slice (some ⟨gb, 0, none⟩) l.length c)) rfl rfl (by kernel_rfl) (by kernel_rfl) (by kernel_rfl) (fun _ _ _ h => h) (Or.inl ⟨by kernel_rfl, by intro w hSw; (try dsimp only at hSw); have c0 := (hSw.1.blk.cell 0).trans (show _ = some (Value.slice (some ⟨gb, 0, none⟩) l.length c) from rfl); go_simp; done⟩) (by assumption) ?_
  try simp only [List.setIfInBounds_toArray, List.set_cons_zero, List.set_cons_succ]
  refine takeH (i := 13) (d := 29) (v := (.int .i64 (l.length : Int))) rfl rfl (by kernel_rfl) (by kernel_rfl) (by kernel_rfl) (fun _ _ _ h => h) (Or.inl ⟨by kernel_rfl, by intro w hSw; (try dsimp only at hSw); go_simp; done⟩) (by assumption) ?_
  try simp only [List.setIfInBounds_toArray, List.set_cons_zero, List.set_cons_succ]
  refine takeH (i := 14) (d := 30) (v := (.int .i64 (m : Int))) rfl rfl (by kernel_rfl) (by kernel_rfl) (by kernel_rfl) (fun _ _ _ h => h) (Or.inl ⟨by kernel_rfl, by intro w hSw; (try dsimp only at hSw); go_simp; done⟩) (by assumption) ?_
  try simp only [List.setIfInBounds_toArray, List.set_cons_zero, List.set_cons_succ]
  refine takeH (i := 15) (d := 31) (v := (.slice (some ⟨gb, 0, none⟩) m c)) rfl rfl (by kernel_rfl) (by kernel_rfl) (by kernel_rfl) (fun _ _ _ h => h) (Or.inl ⟨by kernel_rfl, by intro w hSw; (try dsimp only at hSw); go_simp; done⟩) (by assumption) ?_
  try simp only [List.setIfInBounds_toArray, List.set_cons_zero, List.set_cons_succ]
  refine wpAnyH_ready (rs := [1]) (by kernel_rfl) (by simp) ?_
  refine AllReadyH.cons (o := { dst := some 17, op := Op.call { callee := Callee.value (Operand.func 36), args := #[Operand.tmp 16], argTypes := #[23] }, type := 3, pos := "keys.go:110", after := #[{ on := 0, ground := Ground.data }], guard := none }) rfl (fun K hK => ?_) AllReadyH.nil
  rw [if_pos (by kernel_rfl)]
  go_simp
  refine (acked_calls g _ l a b _ XQ0.out.1).mono ?_
  rintro e1 w1 ⟨rfl, rfl⟩
  have XQ1 := Aside0.mk (XQ0.out)
  clear hHeld
  refine hK.out _ _ (XQ1.out) (fun hHeld => ?_)
  clear hK K
  try simp only [Act.put, List.setIfInBounds_toArray, List.set_cons_zero, List.set_cons_succ]
  refine takeH (i := 2) (d := 18) (v := (.int .i64 (b + 1))) rfl rfl (by kernel_rfl) (by kernel_rfl) (by kernel_rfl) (fun _ _ _ h => h) (Or.inl ⟨by kernel_rfl, by intro w hSw; (try dsimp only at hSw); go_simp; done⟩) (by assumption) ?_
  try simp only [List.setIfInBounds_toArray, List.set_cons_zero, List.set_cons_succ]
  refine wpAnyH_ready (rs := [16]) (by kernel_rfl) (by simp) ?_
  refine AllReadyH.cons (o := { dst := some 32, op := Op.call { callee := Callee.value (Operand.func 53), args := #[Operand.tmp 31], argTypes := #[24] }, type := 24, pos := "keys.go:110", after := #[{ on := 15, ground := Ground.data }, { on := 1, ground := Ground.chain }], guard := none }) rfl (fun K hK => ?_) AllReadyH.nil
  rw [if_pos (by kernel_rfl)]
  go_simp
  refine (clone_some ⟨gb, 0, none⟩ m c (l.take m) _ (take_src XQ1.out.1 m) (by simp; omega) (by omega)).mono ?_
  rintro e2 w2 ⟨⟨v3, rfl, ho3⟩, hb2⟩
  have XQ2 := Aside0.mk (show _ ∧ _ from ⟨XQ1.out.1.below hb2, XQ1.out.2.trans (hb2.mono XQ1.out.2.size)⟩)
  have HO3 := Aside0.mk (own_weaken ho3 XQ1.out.2.size)
  clear ho3 hb2
  clear hHeld
  refine hK.out _ _ (XQ2.out) (fun hHeld => ?_)
  clear hK K
  try simp only [Act.put, List.setIfInBounds_toArray, List.set_cons_zero, List.set_cons_succ]
  refine takeH (i := 17) (d := 4) (v := (.int .i64 (b + 1))) rfl rfl (by kernel_rfl) (by kernel_rfl) (by kernel_rfl) (fun _ _ _ h => h) (Or.inl ⟨by kernel_rfl, by intro w hSw; (try dsimp only at hSw); go_simp; done⟩) (by assumption) ?_
  try simp only [List.setIfInBounds_toArray, List.set_cons_zero, List.set_cons_succ]
  refine takeH (i := 18) (d := 5) (v := v3) rfl rfl (by kernel_rfl) (by kernel_rfl) (by kernel_rfl) (fun _ _ _ h => h) (Or.inl ⟨by kernel_rfl, by intro w hSw; (try dsimp only at hSw); go_simp; done⟩) (by assumption) ?_
  try simp only [List.setIfInBounds_toArray, List.set_cons_zero, List.set_cons_succ]
  refine wpAnyH_done (by kernel_rfl) ?_ _
  have XF := XQ2
  clear hHeld
  go_wp2
  go_ret2
  exact ⟨⟨v3, rfl, HO3.out⟩, XF.out.2⟩
end Go.Proofs.Ytjjjinpmflghmaa.Keys
