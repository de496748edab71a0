/- What the calls of package cell that lay and read come to. Conditions: those in each theorem. -/
import Derived.Test.YtcmmdllnbijipaaInByte
import Derived.Test.YtcmmdllnbijipaaPCellBackx3
import Derived.OpenShut
namespace Go.Proofs.Ytcmmdllnbijipaa.Obj
open Go.RowKit Go.Proofs.YtcmmdllnbijipaaW.PrintWords Go.Proofs.YtcmmdllnbijipaaW.PrintMore Go.Proofs.YtcmmdllnbijipaaW.PrintLast Go.Proofs.Ytcmmdllnbijipaa.PCellBack
set_option linter.unusedVariables false
set_option linter.unusedSimpArgs false

/-- What a truth counts. -/
def bitv (x : Bool) (n : Nat) : Nat := if x then n else 0
theorem bit_calls (x : Bool) (n : Nat) (w : World) : Calls Try.prog 108 #[.bool x, .int .i64 (n : Int)] w fun e w' => e = .returned (.int .i64 (bitv x n : Nat)) ∧ Drawn0 w w' :=
  cell_bit.calls x n _ w (by unfold cell_bit.f bitv; cases x <;> rfl)
/-- May a cell look so? -/
def aVal (f g : Int) : Bool := decide (0 ≤ f) && decide (f ≤ 16) && decide (0 ≤ g) && decide (g ≤ 16)
theorem cvalid_calls (f g : Int) (x y z : Bool) (w : World) :
    Calls Try.prog 23 #[.agg #[.int .i64 f, .int .i64 g, .bool x, .bool y, .bool z]] w fun e w' => e = .returned (.bool (aVal f g)) ∧ Below w.heap.size w w' := by
  refine cell_Valid.calls f g x y z _ w ?_
  unfold cell_Valid.f aVal
  by_cases h1 : 0 ≤ f
  · by_cases h2 : f ≤ 16
    · by_cases h3 : 0 ≤ g
      · simp [h1, h2, h3]
      · simp [h1, h2, h3]
    · simp [h1, h2]
  · simp [h1]
theorem takeH {P : Program} {md : Region.Mode} {ops : Array Oper} {Q : Exit → Act → World → Prop} {S : World → Prop} {i d : Nat} {oi : Oper} {v : Value} {fuel : Nat} {listed : Array Bool} {a : Act} {w : World} (hi : ops[i]? = some oi) (hd : oi.dst = some d)
    (hs : Region.noSelect ops = true) (hf : Region.free md ops listed i = true) (hr : (Region.ready md ops listed).contains i = true)
    (hQ : ∀ c a w, Q (.panic c) (a.put oi.dst v) w → Q (.panic c) a w) (hy : YieldsIf P ops S oi v a) (hS : S w)
    (h : wpAnyH P md ops Q S fuel (listed.setIfInBounds i true) { a with tmps := a.tmps.setIfInBounds d v } w) : wpAnyH P md ops Q S (fuel + 1) listed a w :=
  wpAnyH_take hi hs hf hr hQ hy hS (by rw [hd]; exact h)
theorem IsOut.newAt {B : Nat} (w : World) (g : Nat) (hg : g = w.heap.size) : IsOut B (w.alloc (.cells #[.slice none 0 0, .int .i64 0] 131)) g [] 0 := by subst hg; exact IsOut.new w
theorem RowAt.litAt (w : World) (t : TypeId) (vs : List Value) (p : Nat) (hp : p = w.heap.size) (hm : vs.length ≤ maxLen) : RowAt (w.alloc (.cells vs.toArray t)) (some ⟨p, 0, none⟩) t vs := by subst hp; exact RowAt.lit w t vs hm
theorem num1g (B g p : Nat) (x : Int) (w : World) (hO : IsOut B w g [] 0) (hB : B ≤ w.heap.size) (hr : RowAt w (some ⟨p, 0, none⟩) 3 [.int .i64 x]) (h0 : 0 ≤ x) (hx : x ≤ 9223372036854775807) :
    Calls Try.prog 109 #[.pointer (some ⟨g, 0, none⟩), .slice (some ⟨p, 0, none⟩) 1 1] w fun r w' => r = .returned (.pointer (some ⟨g, 0, none⟩)) ∧ IsOut B w' g (numB x.toNat) 0 ∧ Fr B g w w' := by
  have := num_calls B g [] 0 (some ⟨p, 0, none⟩) 1 [x] w hO hB hr (by simp) (by simpa using hx)
  rw [oNum_ok _ _ (by simpa using h0)] at this
  simpa using this
theorem byte3g (B g p : Nat) (bs : List Int) (x y z : Int) (w : World) (hO : IsOut B w g bs 0) (hB : B ≤ w.heap.size) (hr : RowAt w (some ⟨p, 0, none⟩) 3 [.int .i64 x, .int .i64 y, .int .i64 z]) (hl : bs.length ≤ 900000000000) (hx : 0 ≤ x ∧ x ≤ 255) (hy : 0 ≤ y ∧ y ≤ 255) (hz : 0 ≤ z ∧ z ≤ 255) :
    Calls Try.prog 110 #[.pointer (some ⟨g, 0, none⟩), .slice (some ⟨p, 0, none⟩) 3 3] w fun r w' => r = .returned (.pointer (some ⟨g, 0, none⟩)) ∧ IsOut B w' g (bs ++ [x, y, z]) 0 ∧ Fr B g w w' := by
  have := byte_calls B g bs 0 (some ⟨p, 0, none⟩) 3 [x, y, z] w hO hB hr (by simp) (by simp; omega)
  rw [oByte_ok _ _ (by simpa using ⟨hx, hy, hz⟩)] at this
  exact this
theorem bits_or (x y z : Bool) : Go.bits .or .i64 (bitv x 1 : Nat) (bitv y 2 : Nat) = ((bitv x 1 + bitv y 2 : Nat) : Int) ∧ Go.bits .or .i64 (((bitv x 1 : Nat) : Int) + ((bitv y 2 : Nat) : Int)) (bitv z 4 : Nat) = ((bitv x 1 : Nat) : Int) + ((bitv y 2 : Nat) : Int) + ((bitv z 4 : Nat) : Int) := by
  cases x <;> cases y <;> cases z <;> decide +kernel
theorem bitv_le (x y z : Bool) : bitv x 1 + bitv y 2 + bitv z 4 ≤ 7 := by cases x <;> cases y <;> cases z <;> decide
set_option maxHeartbeats 4000000 in
set_option maxRecDepth 100000 in
theorem clay_ok (r f g : Int) (x y z : Bool) (w : World) (hr : 0 ≤ r) (hr2 : r ≤ 1114111) (hv : aVal f g = true) :
    Calls Try.prog 52 #[.agg #[.int .i32 r, .int .i64 f, .int .i64 g, .bool x, .bool y, .bool z]] w fun e w' => e = .returned (.string (strOfNums (numB r.toNat ++ [f, g, ((bitv x 1 + bitv y 2 + bitv z 4 : Nat) : Int)]))) ∧ Below w.heap.size w w' := by
  have hu := Try.underlying25
  have hua := Try.underlying23
  have hv' := hv
  simp only [aVal, Bool.and_eq_true, decide_eq_true_eq] at hv'
  obtain ⟨⟨⟨h1, h2⟩, h3⟩, h4⟩ := hv'
  go_enter Try.func52, Try.ntmps52
  go_wp2_with fail
  refine (cvalid_calls f g x y z _).mono ?_
  rw [hv]
  rintro e0 w0 ⟨rfl, hb0⟩
  have HM := Aside0.mk (blk_below (blk_new w (.cells #[.int .i32 r, .int .i64 f, .int .i64 g, .bool x, .bool y, .bool z] 25)) hb0)
  have HB := Aside0.mk (below_step (below_alloc (Below.refl _ w) (.cells #[.int .i32 r, .int .i64 f, .int .i64 g, .bool x, .bool y, .bool z] 25)) hb0)
  clear hb0
  have c0 : w0.cell? ⟨w.heap.size, 0, none⟩ = some (.int .i32 r) := (blk_cell HM.out 0).trans rfl
  have c1 : w0.cell? ⟨w.heap.size, 1, none⟩ = some (.int .i64 f) := (blk_cell HM.out 1).trans rfl
  have c2 : w0.cell? ⟨w.heap.size, 2, none⟩ = some (.int .i64 g) := (blk_cell HM.out 2).trans rfl
  have c3 : w0.cell? ⟨w.heap.size, 3, none⟩ = some (.bool x) := (blk_cell HM.out 3).trans rfl
  have c4 : w0.cell? ⟨w.heap.size, 4, none⟩ = some (.bool y) := (blk_cell HM.out 4).trans rfl
  have c5 : w0.cell? ⟨w.heap.size, 5, none⟩ = some (.bool z) := (blk_cell HM.out 5).trans rfl
  go_wp2_with fail
  obtain ⟨ga, hga⟩ : ∃ q, q = w0.heap.size := ⟨_, rfl⟩
  have hg1 : w.heap.size < ga := by rw [hga]; exact blk_lt HM.out
  have XB := Aside0.mk (below_drew (below_alloc HB.out (.cells #[.int .i64 f, .int .i64 g, .bool x, .bool y, .bool z] 23)))
  have XM := Aside0.mk (show (w0.alloc (.cells #[.int .i64 f, .int .i64 g, .bool x, .bool y, .bool z] 23)).drew.heap[ga]? = some (.cells #[.int .i64 f, .int .i64 g, .bool x, .bool y, .bool z] 23 (0, 0)) by rw [hga]; exact blk_new w0 _)
  rw [← hga]
  obtain ⟨hor1, hor2⟩ := bits_or x y z
  have hfl7 := bitv_le x y z
  obtain ⟨wa, hwa⟩ : ∃ q, q = w0.alloc (.cells #[.int .i64 f, .int .i64 g, .bool x, .bool y, .bool z] 23) := ⟨_, rfl⟩
  rw [← hwa] at XB XM ⊢
  clear hga c0 c1 c2 c3 c4 c5 hwa
  refine wp_region_held_drew (S := fun w' => w'.heap[ga]? = some (.cells #[.int .i64 f, .int .i64 g, .bool x, .bool y, .bool z] 23 (0, 0))) (by kernel_rfl) (by exact XM.out) (fun hHeld => ?_)
  refine takeH (i := 0) (d := 19) (v := (.pointer (some ⟨ga, 2, none⟩))) rfl rfl (by kernel_rfl) (by kernel_rfl) (by kernel_rfl) (fun _ _ _ h => h) (Or.inl ⟨by kernel_rfl, by intro w hSw; (try dsimp only at hSw); go_simp; done⟩) (by assumption) ?_
  try simp only [List.setIfInBounds_toArray, List.set_cons_zero, List.set_cons_succ]
  refine takeH (i := 1) (d := 20) (v := (.bool x)) rfl rfl (by kernel_rfl) (by kernel_rfl) (by kernel_rfl) (fun _ _ _ h => h) (Or.inl ⟨by kernel_rfl, by intro w hSw; (try dsimp only at hSw); have hq := hSw; have c0 := blk_cell hq 0; have c1 := blk_cell hq 1; have c2 := blk_cell hq 2; have c3 := blk_cell hq 3; have c4 := blk_cell hq 4; simp only [List.getElem?_toArray, List.getElem?_cons_zero, List.getElem?_cons_succ] at c0 c1 c2 c3 c4; clear hq; go_simp; done⟩) (by assumption) ?_
  try simp only [List.setIfInBounds_toArray, List.set_cons_zero, List.set_cons_succ]
  refine takeH (i := 3) (d := 22) (v := (.pointer (some ⟨ga, 3, none⟩))) rfl rfl (by kernel_rfl) (by kernel_rfl) (by kernel_rfl) (fun _ _ _ h => h) (Or.inl ⟨by kernel_rfl, by intro w hSw; (try dsimp only at hSw); go_simp; done⟩) (by assumption) ?_
  try simp only [List.setIfInBounds_toArray, List.set_cons_zero, List.set_cons_succ]
  refine takeH (i := 4) (d := 23) (v := (.bool y)) rfl rfl (by kernel_rfl) (by kernel_rfl) (by kernel_rfl) (fun _ _ _ h => h) (Or.inl ⟨by kernel_rfl, by intro w hSw; (try dsimp only at hSw); have hq := hSw; have c0 := blk_cell hq 0; have c1 := blk_cell hq 1; have c2 := blk_cell hq 2; have c3 := blk_cell hq 3; have c4 := blk_cell hq 4; simp only [List.getElem?_toArray, List.getElem?_cons_zero, List.getElem?_cons_succ] at c0 c1 c2 c3 c4; clear hq; go_simp; done⟩) (by assumption) ?_
  try simp only [List.setIfInBounds_toArray, List.set_cons_zero, List.set_cons_succ]
  refine takeH (i := 7) (d := 26) (v := (.pointer (some ⟨ga, 4, none⟩))) rfl rfl (by kernel_rfl) (by kernel_rfl) (by kernel_rfl) (fun _ _ _ h => h) (Or.inl ⟨by kernel_rfl, by intro w hSw; (try dsimp only at hSw); go_simp; done⟩) (by assumption) ?_
  try simp only [List.setIfInBounds_toArray, List.set_cons_zero, List.set_cons_succ]
  refine takeH (i := 8) (d := 27) (v := (.bool z)) rfl rfl (by kernel_rfl) (by kernel_rfl) (by kernel_rfl) (fun _ _ _ h => h) (Or.inl ⟨by kernel_rfl, by intro w hSw; (try dsimp only at hSw); have hq := hSw; have c0 := blk_cell hq 0; have c1 := blk_cell hq 1; have c2 := blk_cell hq 2; have c3 := blk_cell hq 3; have c4 := blk_cell hq 4; simp only [List.getElem?_toArray, List.getElem?_cons_zero, List.getElem?_cons_succ] at c0 c1 c2 c3 c4; clear hq; go_simp; done⟩) (by assumption) ?_
  try simp only [List.setIfInBounds_toArray, List.set_cons_zero, List.set_cons_succ]
  refine wpAnyH_ready (rs := [2]) (by kernel_rfl) (by simp) ?_
  refine AllReadyH.cons (o := { dst := some 21, op := Op.call { callee := Callee.value (Operand.func 108), args := #[Operand.tmp 20, Operand.const (Value.int IntKind.i64 1)], argTypes := #[4, 3] }, type := 3, pos := "cell.go:131", after := #[{ on := 1, ground := Ground.data }], guard := none }) rfl (fun K hK => ?_) AllReadyH.nil
  rw [if_pos (by kernel_rfl)]
  go_simp
  refine (bit_calls x 1 _).mono ?_
  rintro e1 w1 ⟨rfl, hd1⟩
  have hb1 := hd1.below
  clear hHeld
  have X2 := Aside0.mk (below_step XB.out hb1)
  have X3 := Aside0.mk (blk_below XM.out hb1)
  clear hb1 hd1
  refine hK.out _ _ (X3.out) (fun hHeld => ?_)
  clear hK K
  try simp only [Act.put, List.setIfInBounds_toArray, List.set_cons_zero, List.set_cons_succ]
  refine wpAnyH_ready (rs := [5]) (by kernel_rfl) (by simp) ?_
  refine AllReadyH.cons (o := { dst := some 24, op := Op.call { callee := Callee.value (Operand.func 108), args := #[Operand.tmp 23, Operand.const (Value.int IntKind.i64 2)], argTypes := #[4, 3] }, type := 3, pos := "cell.go:131", after := #[{ on := 4, ground := Ground.data }, { on := 2, ground := Ground.chain }], guard := none }) rfl (fun K hK => ?_) AllReadyH.nil
  rw [if_pos (by kernel_rfl)]
  go_simp
  refine (bit_calls y 2 _).mono ?_
  rintro e4 w4 ⟨rfl, hd4⟩
  have hb4 := hd4.below
  clear hHeld
  have X5 := Aside0.mk (below_step X2.out hb4)
  have X6 := Aside0.mk (blk_below X3.out hb4)
  clear hb4 hd4
  refine hK.out _ _ (X6.out) (fun hHeld => ?_)
  clear hK K
  try simp only [Act.put, List.setIfInBounds_toArray, List.set_cons_zero, List.set_cons_succ]
  refine takeH (i := 6) (d := 25) (v := (.int .i64 ((bitv x 1 + bitv y 2 : Nat) : Int))) rfl rfl (by kernel_rfl) (by kernel_rfl) (by kernel_rfl) (fun _ _ _ h => h) (Or.inl ⟨by kernel_rfl, by intro w hSw; (try dsimp only at hSw); go_simp; done⟩) (by assumption) ?_
  try simp only [List.setIfInBounds_toArray, List.set_cons_zero, List.set_cons_succ]
  refine wpAnyH_ready (rs := [9]) (by kernel_rfl) (by simp) ?_
  refine AllReadyH.cons (o := { dst := some 28, op := Op.call { callee := Callee.value (Operand.func 108), args := #[Operand.tmp 27, Operand.const (Value.int IntKind.i64 4)], argTypes := #[4, 3] }, type := 3, pos := "cell.go:131", after := #[{ on := 8, ground := Ground.data }, { on := 5, ground := Ground.chain }], guard := none }) rfl (fun K hK => ?_) AllReadyH.nil
  rw [if_pos (by kernel_rfl)]
  go_simp
  refine (bit_calls z 4 _).mono ?_
  rintro e7 w7 ⟨rfl, hd7⟩
  have hb7 := hd7.below
  clear hHeld
  have X8 := Aside0.mk (below_step X5.out hb7)
  have X9 := Aside0.mk (blk_below X6.out hb7)
  clear hb7 hd7
  refine hK.out _ _ (X9.out) (fun hHeld => ?_)
  clear hK K
  try simp only [Act.put, List.setIfInBounds_toArray, List.set_cons_zero, List.set_cons_succ]
  refine takeH (i := 10) (d := 29) (v := (.int .i64 ((bitv x 1 + bitv y 2 + bitv z 4 : Nat) : Int))) rfl rfl (by kernel_rfl) (by kernel_rfl) (by kernel_rfl) (fun _ _ _ h => h) (Or.inl ⟨by kernel_rfl, by intro w hSw; (try dsimp only at hSw); go_simp; done⟩) (by assumption) ?_
  try simp only [List.setIfInBounds_toArray, List.set_cons_zero, List.set_cons_succ]
  refine takeH (i := 11) (d := 5) (v := (.int .i64 ((bitv x 1 + bitv y 2 + bitv z 4 : Nat) : Int))) rfl rfl (by kernel_rfl) (by kernel_rfl) (by kernel_rfl) (fun _ _ _ h => h) (Or.inl ⟨by kernel_rfl, by intro w hSw; (try dsimp only at hSw); go_simp; done⟩) (by assumption) ?_
  try simp only [List.setIfInBounds_toArray, List.set_cons_zero, List.set_cons_succ]
  refine wpAnyH_done (by kernel_rfl) ?_ _
  clear hHeld
  have XB0 := X8
  have XM0 := X9
  obtain ⟨w1, hw1⟩ : ∃ q, q = w7 := ⟨_, rfl⟩
  rw [← hw1] at XB0 XM0 ⊢
  clear hw1
  obtain ⟨fl, hfl⟩ : ∃ q, q = bitv x 1 + bitv y 2 + bitv z 4 := ⟨_, rfl⟩
  rw [← hfl]
  obtain ⟨sx, hsx⟩ : ∃ q, q = strOfNums (numB r.toNat ++ [f, g, (fl : Int)]) := ⟨_, rfl⟩
  have hsx := Aside0.mk hsx
  have HFL := Aside0.mk hfl
  have hfl7 : fl ≤ 7 := by rw [hfl]; exact hfl7
  have hnl := numB_len9 (v := r.toNat) (by omega)
  have hws : ga + 1 ≤ w1.heap.size := blk_lt XM0.out
  have hgw : ga < w1.heap.size := blk_lt XM0.out
  have YB := Aside0.mk (below_drew XB0.out)
  have YM := Aside0.mk (show w1.drew.heap[ga]? = some (.cells #[.int .i64 f, .int .i64 g, .bool x, .bool y, .bool z] 23 (0, 0)) from XM0.out)
  clear hfl hor1 hor2
  go_wp2_with fail
  refine wp_region_held_drew (S := fun w' => w'.heap[ga]? = some (.cells #[.int .i64 f, .int .i64 g, .bool x, .bool y, .bool z] 23 (0, 0))) (by kernel_rfl) (by exact YM.out) (fun hHeld => ?_)
  refine takeH (i := 0) (d := 31) (v := (.agg #[.slice none 0 0, .int .i64 0])) rfl rfl (by kernel_rfl) (by kernel_rfl) (by kernel_rfl) (fun _ _ _ h => h) (Or.inl ⟨by kernel_rfl, by intro w hSw; (try dsimp only at hSw); go_simp; done⟩) (by assumption) ?_
  try simp only [List.setIfInBounds_toArray, List.set_cons_zero, List.set_cons_succ]
  refine takeH (i := 2) (d := 33) (v := (.int .i64 r)) rfl rfl (by kernel_rfl) (by kernel_rfl) (by kernel_rfl) (fun _ _ _ h => h) (Or.inl ⟨by kernel_rfl, by intro w hSw; (try dsimp only at hSw); go_simp; done⟩) (by assumption) ?_
  try simp only [List.setIfInBounds_toArray, List.set_cons_zero, List.set_cons_succ]
  refine takeH (i := 5) (d := 36) (v := (.pointer (some ⟨ga, 0, none⟩))) rfl rfl (by kernel_rfl) (by kernel_rfl) (by kernel_rfl) (fun _ _ _ h => h) (Or.inl ⟨by kernel_rfl, by intro w hSw; (try dsimp only at hSw); go_simp; done⟩) (by assumption) ?_
  try simp only [List.setIfInBounds_toArray, List.set_cons_zero, List.set_cons_succ]
  refine takeH (i := 6) (d := 37) (v := (.int .i64 f)) rfl rfl (by kernel_rfl) (by kernel_rfl) (by kernel_rfl) (fun _ _ _ h => h) (Or.inl ⟨by kernel_rfl, by intro w hSw; (try dsimp only at hSw); have hq := hSw; have c0 := blk_cell hq 0; have c1 := blk_cell hq 1; have c2 := blk_cell hq 2; have c3 := blk_cell hq 3; have c4 := blk_cell hq 4; simp only [List.getElem?_toArray, List.getElem?_cons_zero, List.getElem?_cons_succ] at c0 c1 c2 c3 c4; clear hq; go_simp; done⟩) (by assumption) ?_
  try simp only [List.setIfInBounds_toArray, List.set_cons_zero, List.set_cons_succ]
  refine takeH (i := 7) (d := 38) (v := (.pointer (some ⟨ga, 1, none⟩))) rfl rfl (by kernel_rfl) (by kernel_rfl) (by kernel_rfl) (fun _ _ _ h => h) (Or.inl ⟨by kernel_rfl, by intro w hSw; (try dsimp only at hSw); go_simp; done⟩) (by assumption) ?_
  try simp only [List.setIfInBounds_toArray, List.set_cons_zero, List.set_cons_succ]
  refine takeH (i := 8) (d := 39) (v := (.int .i64 g)) rfl rfl (by kernel_rfl) (by kernel_rfl) (by kernel_rfl) (fun _ _ _ h => h) (Or.inl ⟨by kernel_rfl, by intro w hSw; (try dsimp only at hSw); have hq := hSw; have c0 := blk_cell hq 0; have c1 := blk_cell hq 1; have c2 := blk_cell hq 2; have c3 := blk_cell hq 3; have c4 := blk_cell hq 4; simp only [List.getElem?_toArray, List.getElem?_cons_zero, List.getElem?_cons_succ] at c0 c1 c2 c3 c4; clear hq; go_simp; done⟩) (by assumption) ?_
  try simp only [List.setIfInBounds_toArray, List.set_cons_zero, List.set_cons_succ]
  refine takeH (i := 9) (d := 40) (v := (.int .i64 (fl : Int))) rfl rfl (by kernel_rfl) (by kernel_rfl) (by kernel_rfl) (fun _ _ _ h => h) (Or.inl ⟨by kernel_rfl, by intro w hSw; (try dsimp only at hSw); go_simp; done⟩) (by assumption) ?_
  try simp only [List.setIfInBounds_toArray, List.set_cons_zero, List.set_cons_succ]
  refine wpAnyH_ready (rs := [1, 3, 10]) (by kernel_rfl) (by simp) ?_
  refine AllReadyH.cons (o := { dst := some 32, op := Op.box 131 (Operand.tmp 31), type := 128, pos := "cell.go:132", after := #[{ on := 0, ground := Ground.data }], guard := none }) rfl (fun K hK => ?_) (AllReadyH.cons (o := { dst := some 34, op := Op.buildSlice 34 1 #[(0, Operand.tmp 33)], type := 34, pos := "cell.go:132", after := #[{ on := 2, ground := Ground.data }], guard := none }) rfl (fun K hK => ?_) (AllReadyH.cons (o := { dst := some 41, op := Op.buildSlice 34 3 #[(0, Operand.tmp 37), (1, Operand.tmp 39), (2, Operand.tmp 40)], type := 34, pos := "cell.go:132", after := #[{ on := 6, ground := Ground.data }, { on := 8, ground := Ground.data }, { on := 9, ground := Ground.data }], guard := none }) rfl (fun K hK => ?_) AllReadyH.nil))
  · rw [if_pos (by kernel_rfl)]
    go_simp
    clear hHeld
    have X1 := Aside0.mk (below_alloc YB.out (.cells #[.slice none 0 0, .int .i64 0] 131))
    have X2 := Aside0.mk (blk_alloc YM.out (.cells #[.slice none 0 0, .int .i64 0] 131))
    have X3 := Aside0.mk (IsOut.newAt (B := (ga + 1)) w1.drew (w1.heap.size) (by simp))
    refine hK.out _ _ (X2.out) (fun hHeld => ?_)
    clear hK K
    try simp only [Act.put, List.setIfInBounds_toArray, List.set_cons_zero, List.set_cons_succ]
    refine wpAnyH_ready (rs := [3, 10]) (by kernel_rfl) (by simp) ?_
    refine AllReadyH.cons (o := { dst := some 34, op := Op.buildSlice 34 1 #[(0, Operand.tmp 33)], type := 34, pos := "cell.go:132", after := #[{ on := 2, ground := Ground.data }], guard := none }) rfl (fun K hK => ?_) (AllReadyH.cons (o := { dst := some 41, op := Op.buildSlice 34 3 #[(0, Operand.tmp 37), (1, Operand.tmp 39), (2, Operand.tmp 40)], type := 34, pos := "cell.go:132", after := #[{ on := 6, ground := Ground.data }, { on := 8, ground := Ground.data }, { on := 9, ground := Ground.data }], guard := none }) rfl (fun K hK => ?_) AllReadyH.nil)
    · rw [if_pos (by kernel_rfl)]
      go_simp
      clear hHeld
      have X4 := Aside0.mk (below_alloc X1.out (.cells #[.int .i64 r] 3))
      have X5 := Aside0.mk (blk_alloc X2.out (.cells #[.int .i64 r] 3))
      have X6 := Aside0.mk (X3.out.alloc (.cells #[.int .i64 r] 3))
      have X7 := Aside0.mk (RowAt.litAt (w1.drew.alloc (.cells #[.slice none 0 0, .int .i64 0] 131)) 3 [.int .i64 r] (w1.heap.size + 1) (by simp) (by simp [maxLen]))
      refine hK.out _ _ (X5.out) (fun hHeld => ?_)
      clear hK K
      try simp only [Act.put, List.setIfInBounds_toArray, List.set_cons_zero, List.set_cons_succ]
      refine wpAnyH_ready (rs := [4, 10]) (by kernel_rfl) (by simp) ?_
      refine AllReadyH.cons (o := { dst := some 35, op := Op.call { callee := Callee.value (Operand.func 109), args := #[Operand.tmp 32, Operand.tmp 34], argTypes := #[128, 34] }, type := 128, pos := "cell.go:132", after := #[{ on := 1, ground := Ground.data }, { on := 3, ground := Ground.data }], guard := none }) rfl (fun K hK => ?_) (AllReadyH.cons (o := { dst := some 41, op := Op.buildSlice 34 3 #[(0, Operand.tmp 37), (1, Operand.tmp 39), (2, Operand.tmp 40)], type := 34, pos := "cell.go:132", after := #[{ on := 6, ground := Ground.data }, { on := 8, ground := Ground.data }, { on := 9, ground := Ground.data }], guard := none }) rfl (fun K hK => ?_) AllReadyH.nil)
      · rw [if_pos (by kernel_rfl)]
        go_simp
        refine (num1g (ga + 1) (w1.heap.size) (w1.heap.size + 1) r _ X6.out (by first | omega | (simp; omega)) X7.out hr (by omega)).mono ?_
        rintro e8 w8 ⟨rfl, hO8, hF8⟩
        have X9 := Aside0.mk (X4.out.trans ((hF8.toBelow (by first | omega | (simp; omega)) (by first | omega | (simp; omega))).mono (by omega)))
        have X10 := Aside0.mk ((hF8.low _ (by first | omega | (simp; omega)) (by first | omega | (simp; omega)) (by first | omega | (simp; omega))).trans X5.out)
        have hs8 := hF8.size
        (try simp at hs8)
        have X12 := Aside0.mk (hO8)
        clear hF8 hO8
        clear hHeld
        refine hK.out _ _ (X10.out) (fun hHeld => ?_)
        clear hK K
        try simp only [Act.put, List.setIfInBounds_toArray, List.set_cons_zero, List.set_cons_succ]
        refine wpAnyH_ready (rs := [10]) (by kernel_rfl) (by simp) ?_
        refine AllReadyH.cons (o := { dst := some 41, op := Op.buildSlice 34 3 #[(0, Operand.tmp 37), (1, Operand.tmp 39), (2, Operand.tmp 40)], type := 34, pos := "cell.go:132", after := #[{ on := 6, ground := Ground.data }, { on := 8, ground := Ground.data }, { on := 9, ground := Ground.data }], guard := none }) rfl (fun K hK => ?_) AllReadyH.nil
        rw [if_pos (by kernel_rfl)]
        go_simp
        clear hHeld
        have X13 := Aside0.mk (below_alloc X9.out (.cells #[.int .i64 f, .int .i64 g, .int .i64 (fl : Int)] 3))
        have X14 := Aside0.mk (blk_alloc X10.out (.cells #[.int .i64 f, .int .i64 g, .int .i64 (fl : Int)] 3))
        have X15 := Aside0.mk (X12.out.alloc (.cells #[.int .i64 f, .int .i64 g, .int .i64 (fl : Int)] 3))
        have X16 := Aside0.mk (RowAt.litAt w8 3 [.int .i64 f, .int .i64 g, .int .i64 (fl : Int)] (w8.heap.size) (by simp) (by simp [maxLen]))
        refine hK.out _ _ (X14.out) (fun hHeld => ?_)
        clear hK K
        try simp only [Act.put, List.setIfInBounds_toArray, List.set_cons_zero, List.set_cons_succ]
        refine wpAnyH_ready (rs := [11]) (by kernel_rfl) (by simp) ?_
        refine AllReadyH.cons (o := { dst := some 42, op := Op.call { callee := Callee.value (Operand.func 110), args := #[Operand.tmp 35, Operand.tmp 41], argTypes := #[128, 34] }, type := 128, pos := "cell.go:132", after := #[{ on := 4, ground := Ground.data }, { on := 10, ground := Ground.data }, { on := 4, ground := Ground.chain }], guard := none }) rfl (fun K hK => ?_) AllReadyH.nil
        rw [if_pos (by kernel_rfl)]
        go_simp
        refine (byte3g (ga + 1) (w1.heap.size) (w8.heap.size) _ f g (fl : Int) _ X15.out (by first | omega | (simp; omega)) X16.out (by omega) ⟨h1, by omega⟩ ⟨h3, by omega⟩ ⟨by omega, by omega⟩).mono ?_
        rintro e17 w17 ⟨rfl, hO17, hF17⟩
        have X18 := Aside0.mk (X13.out.trans ((hF17.toBelow (by first | omega | (simp; omega)) (by first | omega | (simp; omega))).mono (by omega)))
        have X19 := Aside0.mk ((hF17.low _ (by first | omega | (simp; omega)) (by first | omega | (simp; omega)) (by first | omega | (simp; omega))).trans X14.out)
        have hs17 := hF17.size
        (try simp at hs17)
        have X21 := Aside0.mk (hO17)
        clear hF17 hO17
        clear hHeld
        refine hK.out _ _ (X19.out) (fun hHeld => ?_)
        clear hK K
        try simp only [Act.put, List.setIfInBounds_toArray, List.set_cons_zero, List.set_cons_succ]
        refine wpAnyH_ready (rs := [12]) (by kernel_rfl) (by simp) ?_
        refine AllReadyH.cons (o := { dst := some 43, op := Op.call { callee := Callee.value (Operand.func 111), args := #[Operand.tmp 42], argTypes := #[128] }, type := 127, pos := "cell.go:132", after := #[{ on := 11, ground := Ground.data }, { on := 11, ground := Ground.chain }], guard := none }) rfl (fun K hK => ?_) AllReadyH.nil
        rw [if_pos (by kernel_rfl)]
        go_simp
        refine (end_ok (ga + 1) (w1.heap.size) _ _ X21.out).mono ?_
        rw [← hsx.out]
        rintro e9 w9 ⟨rfl, rfl⟩
        clear hHeld
        refine hK.out _ _ (X19.out) (fun hHeld => ?_)
        clear hK K
        try simp only [Act.put, List.setIfInBounds_toArray, List.set_cons_zero, List.set_cons_succ]
        refine takeH (i := 13) (d := 30) (v := (.tuple #[(.string sx), (.int .i64 0)])) rfl rfl (by kernel_rfl) (by kernel_rfl) (by kernel_rfl) (fun _ _ _ h => h) (Or.inl ⟨by kernel_rfl, by intro w hSw; (try dsimp only at hSw); go_simp; done⟩) (by assumption) ?_
        try simp only [List.setIfInBounds_toArray, List.set_cons_zero, List.set_cons_succ]
        refine takeH (i := 14) (d := 44) (v := (.string sx)) rfl rfl (by kernel_rfl) (by kernel_rfl) (by kernel_rfl) (fun _ _ _ h => h) (Or.inl ⟨by kernel_rfl, by intro w hSw; (try dsimp only at hSw); go_simp; done⟩) (by assumption) ?_
        try simp only [List.setIfInBounds_toArray, List.set_cons_zero, List.set_cons_succ]
        refine takeH (i := 15) (d := 45) (v := (.int .i64 0)) rfl rfl (by kernel_rfl) (by kernel_rfl) (by kernel_rfl) (fun _ _ _ h => h) (Or.inl ⟨by kernel_rfl, by intro w hSw; (try dsimp only at hSw); go_simp; done⟩) (by assumption) ?_
        try simp only [List.setIfInBounds_toArray, List.set_cons_zero, List.set_cons_succ]
        refine takeH (i := 16) (d := 6) (v := (.string sx)) rfl rfl (by kernel_rfl) (by kernel_rfl) (by kernel_rfl) (fun _ _ _ h => h) (Or.inl ⟨by kernel_rfl, by intro w hSw; (try dsimp only at hSw); go_simp; done⟩) (by assumption) ?_
        try simp only [List.setIfInBounds_toArray, List.set_cons_zero, List.set_cons_succ]
        refine takeH (i := 17) (d := 7) (v := (.int .i64 0)) rfl rfl (by kernel_rfl) (by kernel_rfl) (by kernel_rfl) (fun _ _ _ h => h) (Or.inl ⟨by kernel_rfl, by intro w hSw; (try dsimp only at hSw); go_simp; done⟩) (by assumption) ?_
        try simp only [List.setIfInBounds_toArray, List.set_cons_zero, List.set_cons_succ]
        refine wpAnyH_done (by kernel_rfl) ?_ _
        clear hHeld
        go_wp2
        go_ret
        exact ⟨by rw [hsx.out, HFL.out]; rfl, X18.out⟩
      · rw [if_pos (by kernel_rfl)]
        go_simp
        clear hHeld
        have X22 := Aside0.mk (below_alloc X4.out (.cells #[.int .i64 f, .int .i64 g, .int .i64 (fl : Int)] 3))
        have X23 := Aside0.mk (blk_alloc X5.out (.cells #[.int .i64 f, .int .i64 g, .int .i64 (fl : Int)] 3))
        have X24 := Aside0.mk (X6.out.alloc (.cells #[.int .i64 f, .int .i64 g, .int .i64 (fl : Int)] 3))
        have X25 := Aside0.mk (X7.out.alloc (.cells #[.int .i64 f, .int .i64 g, .int .i64 (fl : Int)] 3))
        have X26 := Aside0.mk (RowAt.litAt ((w1.drew.alloc (.cells #[.slice none 0 0, .int .i64 0] 131)).alloc (.cells #[.int .i64 r] 3)) 3 [.int .i64 f, .int .i64 g, .int .i64 (fl : Int)] (w1.heap.size + 1 + 1) (by simp) (by simp [maxLen]))
        refine hK.out _ _ (X23.out) (fun hHeld => ?_)
        clear hK K
        try simp only [Act.put, List.setIfInBounds_toArray, List.set_cons_zero, List.set_cons_succ]
        refine wpAnyH_ready (rs := [4]) (by kernel_rfl) (by simp) ?_
        refine AllReadyH.cons (o := { dst := some 35, op := Op.call { callee := Callee.value (Operand.func 109), args := #[Operand.tmp 32, Operand.tmp 34], argTypes := #[128, 34] }, type := 128, pos := "cell.go:132", after := #[{ on := 1, ground := Ground.data }, { on := 3, ground := Ground.data }], guard := none }) rfl (fun K hK => ?_) AllReadyH.nil
        rw [if_pos (by kernel_rfl)]
        go_simp
        refine (num1g (ga + 1) (w1.heap.size) (w1.heap.size + 1) r _ X24.out (by first | omega | (simp; omega)) X25.out hr (by omega)).mono ?_
        rintro e27 w27 ⟨rfl, hO27, hF27⟩
        have X28 := Aside0.mk (X22.out.trans ((hF27.toBelow (by first | omega | (simp; omega)) (by first | omega | (simp; omega))).mono (by omega)))
        have X29 := Aside0.mk ((hF27.low _ (by first | omega | (simp; omega)) (by first | omega | (simp; omega)) (by first | omega | (simp; omega))).trans X23.out)
        have X31 := Aside0.mk (RowAt.frame X26.out hF27 (by decide) (X24.out.ne (by decide)))
        have hs27 := hF27.size
        (try simp at hs27)
        have X32 := Aside0.mk (hO27)
        clear hF27 hO27
        clear hHeld
        refine hK.out _ _ (X29.out) (fun hHeld => ?_)
        clear hK K
        try simp only [Act.put, List.setIfInBounds_toArray, List.set_cons_zero, List.set_cons_succ]
        refine wpAnyH_ready (rs := [11]) (by kernel_rfl) (by simp) ?_
        refine AllReadyH.cons (o := { dst := some 42, op := Op.call { callee := Callee.value (Operand.func 110), args := #[Operand.tmp 35, Operand.tmp 41], argTypes := #[128, 34] }, type := 128, pos := "cell.go:132", after := #[{ on := 4, ground := Ground.data }, { on := 10, ground := Ground.data }, { on := 4, ground := Ground.chain }], guard := none }) rfl (fun K hK => ?_) AllReadyH.nil
        rw [if_pos (by kernel_rfl)]
        go_simp
        refine (byte3g (ga + 1) (w1.heap.size) (w1.heap.size + 1 + 1) _ f g (fl : Int) _ X32.out (by first | omega | (simp; omega)) X31.out (by omega) ⟨h1, by omega⟩ ⟨h3, by omega⟩ ⟨by omega, by omega⟩).mono ?_
        rintro e33 w33 ⟨rfl, hO33, hF33⟩
        have X34 := Aside0.mk (X28.out.trans ((hF33.toBelow (by first | omega | (simp; omega)) (by first | omega | (simp; omega))).mono (by omega)))
        have X35 := Aside0.mk ((hF33.low _ (by first | omega | (simp; omega)) (by first | omega | (simp; omega)) (by first | omega | (simp; omega))).trans X29.out)
        have hs33 := hF33.size
        (try simp at hs33)
        have X37 := Aside0.mk (hO33)
        clear hF33 hO33
        clear hHeld
        refine hK.out _ _ (X35.out) (fun hHeld => ?_)
        clear hK K
        try simp only [Act.put, List.setIfInBounds_toArray, List.set_cons_zero, List.set_cons_succ]
        refine wpAnyH_ready (rs := [12]) (by kernel_rfl) (by simp) ?_
        refine AllReadyH.cons (o := { dst := some 43, op := Op.call { callee := Callee.value (Operand.func 111), args := #[Operand.tmp 42], argTypes := #[128] }, type := 127, pos := "cell.go:132", after := #[{ on := 11, ground := Ground.data }, { on := 11, ground := Ground.chain }], guard := none }) rfl (fun K hK => ?_) AllReadyH.nil
        rw [if_pos (by kernel_rfl)]
        go_simp
        refine (end_ok (ga + 1) (w1.heap.size) _ _ X37.out).mono ?_
        rw [← hsx.out]
        rintro e9 w9 ⟨rfl, rfl⟩
        clear hHeld
        refine hK.out _ _ (X35.out) (fun hHeld => ?_)
        clear hK K
        try simp only [Act.put, List.setIfInBounds_toArray, List.set_cons_zero, List.set_cons_succ]
        refine takeH (i := 13) (d := 30) (v := (.tuple #[(.string sx), (.int .i64 0)])) rfl rfl (by kernel_rfl) (by kernel_rfl) (by kernel_rfl) (fun _ _ _ h => h) (Or.inl ⟨by kernel_rfl, by intro w hSw; (try dsimp only at hSw); go_simp; done⟩) (by assumption) ?_
        try simp only [List.setIfInBounds_toArray, List.set_cons_zero, List.set_cons_succ]
        refine takeH (i := 14) (d := 44) (v := (.string sx)) rfl rfl (by kernel_rfl) (by kernel_rfl) (by kernel_rfl) (fun _ _ _ h => h) (Or.inl ⟨by kernel_rfl, by intro w hSw; (try dsimp only at hSw); go_simp; done⟩) (by assumption) ?_
        try simp only [List.setIfInBounds_toArray, List.set_cons_zero, List.set_cons_succ]
        refine takeH (i := 15) (d := 45) (v := (.int .i64 0)) rfl rfl (by kernel_rfl) (by kernel_rfl) (by kernel_rfl) (fun _ _ _ h => h) (Or.inl ⟨by kernel_rfl, by intro w hSw; (try dsimp only at hSw); go_simp; done⟩) (by assumption) ?_
        try simp only [List.setIfInBounds_toArray, List.set_cons_zero, List.set_cons_succ]
        refine takeH (i := 16) (d := 6) (v := (.string sx)) rfl rfl (by kernel_rfl) (by kernel_rfl) (by kernel_rfl) (fun _ _ _ h => h) (Or.inl ⟨by kernel_rfl, by intro w hSw; (try dsimp only at hSw); go_simp; done⟩) (by assumption) ?_
        try simp only [List.setIfInBounds_toArray, List.set_cons_zero, List.set_cons_succ]
        refine takeH (i := 17) (d := 7) (v := (.int .i64 0)) rfl rfl (by kernel_rfl) (by kernel_rfl) (by kernel_rfl) (fun _ _ _ h => h) (Or.inl ⟨by kernel_rfl, by intro w hSw; (try dsimp only at hSw); go_simp; done⟩) (by assumption) ?_
        try simp only [List.setIfInBounds_toArray, List.set_cons_zero, List.set_cons_succ]
        refine wpAnyH_done (by kernel_rfl) ?_ _
        clear hHeld
        go_wp2
        go_ret
        exact ⟨by rw [hsx.out, HFL.out]; rfl, X34.out⟩
    · rw [if_pos (by kernel_rfl)]
      go_simp
      clear hHeld
      have X38 := Aside0.mk (below_alloc X1.out (.cells #[.int .i64 f, .int .i64 g, .int .i64 (fl : Int)] 3))
      have X39 := Aside0.mk (blk_alloc X2.out (.cells #[.int .i64 f, .int .i64 g, .int .i64 (fl : Int)] 3))
      have X40 := Aside0.mk (X3.out.alloc (.cells #[.int .i64 f, .int .i64 g, .int .i64 (fl : Int)] 3))
      have X41 := Aside0.mk (RowAt.litAt (w1.drew.alloc (.cells #[.slice none 0 0, .int .i64 0] 131)) 3 [.int .i64 f, .int .i64 g, .int .i64 (fl : Int)] (w1.heap.size + 1) (by simp) (by simp [maxLen]))
      refine hK.out _ _ (X39.out) (fun hHeld => ?_)
      clear hK K
      try simp only [Act.put, List.setIfInBounds_toArray, List.set_cons_zero, List.set_cons_succ]
      refine wpAnyH_ready (rs := [3]) (by kernel_rfl) (by simp) ?_
      refine AllReadyH.cons (o := { dst := some 34, op := Op.buildSlice 34 1 #[(0, Operand.tmp 33)], type := 34, pos := "cell.go:132", after := #[{ on := 2, ground := Ground.data }], guard := none }) rfl (fun K hK => ?_) AllReadyH.nil
      rw [if_pos (by kernel_rfl)]
      go_simp
      clear hHeld
      have X42 := Aside0.mk (below_alloc X38.out (.cells #[.int .i64 r] 3))
      have X43 := Aside0.mk (blk_alloc X39.out (.cells #[.int .i64 r] 3))
      have X44 := Aside0.mk (X40.out.alloc (.cells #[.int .i64 r] 3))
      have X45 := Aside0.mk (X41.out.alloc (.cells #[.int .i64 r] 3))
      have X46 := Aside0.mk (RowAt.litAt ((w1.drew.alloc (.cells #[.slice none 0 0, .int .i64 0] 131)).alloc (.cells #[.int .i64 f, .int .i64 g, .int .i64 (fl : Int)] 3)) 3 [.int .i64 r] (w1.heap.size + 1 + 1) (by simp) (by simp [maxLen]))
      refine hK.out _ _ (X43.out) (fun hHeld => ?_)
      clear hK K
      try simp only [Act.put, List.setIfInBounds_toArray, List.set_cons_zero, List.set_cons_succ]
      refine wpAnyH_ready (rs := [4]) (by kernel_rfl) (by simp) ?_
      refine AllReadyH.cons (o := { dst := some 35, op := Op.call { callee := Callee.value (Operand.func 109), args := #[Operand.tmp 32, Operand.tmp 34], argTypes := #[128, 34] }, type := 128, pos := "cell.go:132", after := #[{ on := 1, ground := Ground.data }, { on := 3, ground := Ground.data }], guard := none }) rfl (fun K hK => ?_) AllReadyH.nil
      rw [if_pos (by kernel_rfl)]
      go_simp
      refine (num1g (ga + 1) (w1.heap.size) (w1.heap.size + 1 + 1) r _ X44.out (by first | omega | (simp; omega)) X46.out hr (by omega)).mono ?_
      rintro e47 w47 ⟨rfl, hO47, hF47⟩
      have X48 := Aside0.mk (X42.out.trans ((hF47.toBelow (by first | omega | (simp; omega)) (by first | omega | (simp; omega))).mono (by omega)))
      have X49 := Aside0.mk ((hF47.low _ (by first | omega | (simp; omega)) (by first | omega | (simp; omega)) (by first | omega | (simp; omega))).trans X43.out)
      have X51 := Aside0.mk (RowAt.frame X45.out hF47 (by decide) (X44.out.ne (by decide)))
      have hs47 := hF47.size
      (try simp at hs47)
      have X52 := Aside0.mk (hO47)
      clear hF47 hO47
      clear hHeld
      refine hK.out _ _ (X49.out) (fun hHeld => ?_)
      clear hK K
      try simp only [Act.put, List.setIfInBounds_toArray, List.set_cons_zero, List.set_cons_succ]
      refine wpAnyH_ready (rs := [11]) (by kernel_rfl) (by simp) ?_
      refine AllReadyH.cons (o := { dst := some 42, op := Op.call { callee := Callee.value (Operand.func 110), args := #[Operand.tmp 35, Operand.tmp 41], argTypes := #[128, 34] }, type := 128, pos := "cell.go:132", after := #[{ on := 4, ground := Ground.data }, { on := 10, ground := Ground.data }, { on := 4, ground := Ground.chain }], guard := none }) rfl (fun K hK => ?_) AllReadyH.nil
      rw [if_pos (by kernel_rfl)]
      go_simp
      refine (byte3g (ga + 1) (w1.heap.size) (w1.heap.size + 1) _ f g (fl : Int) _ X52.out (by first | omega | (simp; omega)) X51.out (by omega) ⟨h1, by omega⟩ ⟨h3, by omega⟩ ⟨by omega, by omega⟩).mono ?_
      rintro e53 w53 ⟨rfl, hO53, hF53⟩
      have X54 := Aside0.mk (X48.out.trans ((hF53.toBelow (by first | omega | (simp; omega)) (by first | omega | (simp; omega))).mono (by omega)))
      have X55 := Aside0.mk ((hF53.low _ (by first | omega | (simp; omega)) (by first | omega | (simp; omega)) (by first | omega | (simp; omega))).trans X49.out)
      have hs53 := hF53.size
      (try simp at hs53)
      have X57 := Aside0.mk (hO53)
      clear hF53 hO53
      clear hHeld
      refine hK.out _ _ (X55.out) (fun hHeld => ?_)
      clear hK K
      try simp only [Act.put, List.setIfInBounds_toArray, List.set_cons_zero, List.set_cons_succ]
      refine wpAnyH_ready (rs := [12]) (by kernel_rfl) (by simp) ?_
      refine AllReadyH.cons (o := { dst := some 43, op := Op.call { callee := Callee.value (Operand.func 111), args := #[Operand.tmp 42], argTypes := #[128] }, type := 127, pos := "cell.go:132", after := #[{ on := 11, ground := Ground.data }, { on := 11, ground := Ground.chain }], guard := none }) rfl (fun K hK => ?_) AllReadyH.nil
      rw [if_pos (by kernel_rfl)]
      go_simp
      refine (end_ok (ga + 1) (w1.heap.size) _ _ X57.out).mono ?_
      rw [← hsx.out]
      rintro e9 w9 ⟨rfl, rfl⟩
      clear hHeld
      refine hK.out _ _ (X55.out) (fun hHeld => ?_)
      clear hK K
      try simp only [Act.put, List.setIfInBounds_toArray, List.set_cons_zero, List.set_cons_succ]
      refine takeH (i := 13) (d := 30) (v := (.tuple #[(.string sx), (.int .i64 0)])) rfl rfl (by kernel_rfl) (by kernel_rfl) (by kernel_rfl) (fun _ _ _ h => h) (Or.inl ⟨by kernel_rfl, by intro w hSw; (try dsimp only at hSw); go_simp; done⟩) (by assumption) ?_
      try simp only [List.setIfInBounds_toArray, List.set_cons_zero, List.set_cons_succ]
      refine takeH (i := 14) (d := 44) (v := (.string sx)) rfl rfl (by kernel_rfl) (by kernel_rfl) (by kernel_rfl) (fun _ _ _ h => h) (Or.inl ⟨by kernel_rfl, by intro w hSw; (try dsimp only at hSw); go_simp; done⟩) (by assumption) ?_
      try simp only [List.setIfInBounds_toArray, List.set_cons_zero, List.set_cons_succ]
      refine takeH (i := 15) (d := 45) (v := (.int .i64 0)) rfl rfl (by kernel_rfl) (by kernel_rfl) (by kernel_rfl) (fun _ _ _ h => h) (Or.inl ⟨by kernel_rfl, by intro w hSw; (try dsimp only at hSw); go_simp; done⟩) (by assumption) ?_
      try simp only [List.setIfInBounds_toArray, List.set_cons_zero, List.set_cons_succ]
      refine takeH (i := 16) (d := 6) (v := (.string sx)) rfl rfl (by kernel_rfl) (by kernel_rfl) (by kernel_rfl) (fun _ _ _ h => h) (Or.inl ⟨by kernel_rfl, by intro w hSw; (try dsimp only at hSw); go_simp; done⟩) (by assumption) ?_
      try simp only [List.setIfInBounds_toArray, List.set_cons_zero, List.set_cons_succ]
      refine takeH (i := 17) (d := 7) (v := (.int .i64 0)) rfl rfl (by kernel_rfl) (by kernel_rfl) (by kernel_rfl) (fun _ _ _ h => h) (Or.inl ⟨by kernel_rfl, by intro w hSw; (try dsimp only at hSw); go_simp; done⟩) (by assumption) ?_
      try simp only [List.setIfInBounds_toArray, List.set_cons_zero, List.set_cons_succ]
      refine wpAnyH_done (by kernel_rfl) ?_ _
      clear hHeld
      go_wp2
      go_ret
      exact ⟨by rw [hsx.out, HFL.out]; rfl, X54.out⟩
  · rw [if_pos (by kernel_rfl)]
    go_simp
    clear hHeld
    have X58 := Aside0.mk (below_alloc YB.out (.cells #[.int .i64 r] 3))
    have X59 := Aside0.mk (blk_alloc YM.out (.cells #[.int .i64 r] 3))
    have X60 := Aside0.mk (RowAt.litAt w1.drew 3 [.int .i64 r] (w1.heap.size) (by simp) (by simp [maxLen]))
    refine hK.out _ _ (X59.out) (fun hHeld => ?_)
    clear hK K
    try simp only [Act.put, List.setIfInBounds_toArray, List.set_cons_zero, List.set_cons_succ]
    refine wpAnyH_ready (rs := [1, 10]) (by kernel_rfl) (by simp) ?_
    refine AllReadyH.cons (o := { dst := some 32, op := Op.box 131 (Operand.tmp 31), type := 128, pos := "cell.go:132", after := #[{ on := 0, ground := Ground.data }], guard := none }) rfl (fun K hK => ?_) (AllReadyH.cons (o := { dst := some 41, op := Op.buildSlice 34 3 #[(0, Operand.tmp 37), (1, Operand.tmp 39), (2, Operand.tmp 40)], type := 34, pos := "cell.go:132", after := #[{ on := 6, ground := Ground.data }, { on := 8, ground := Ground.data }, { on := 9, ground := Ground.data }], guard := none }) rfl (fun K hK => ?_) AllReadyH.nil)
    · rw [if_pos (by kernel_rfl)]
      go_simp
      clear hHeld
      have X61 := Aside0.mk (below_alloc X58.out (.cells #[.slice none 0 0, .int .i64 0] 131))
      have X62 := Aside0.mk (blk_alloc X59.out (.cells #[.slice none 0 0, .int .i64 0] 131))
      have X63 := Aside0.mk (X60.out.alloc (.cells #[.slice none 0 0, .int .i64 0] 131))
      have X64 := Aside0.mk (IsOut.newAt (B := (ga + 1)) (w1.drew.alloc (.cells #[.int .i64 r] 3)) (w1.heap.size + 1) (by simp))
      refine hK.out _ _ (X62.out) (fun hHeld => ?_)
      clear hK K
      try simp only [Act.put, List.setIfInBounds_toArray, List.set_cons_zero, List.set_cons_succ]
      refine wpAnyH_ready (rs := [4, 10]) (by kernel_rfl) (by simp) ?_
      refine AllReadyH.cons (o := { dst := some 35, op := Op.call { callee := Callee.value (Operand.func 109), args := #[Operand.tmp 32, Operand.tmp 34], argTypes := #[128, 34] }, type := 128, pos := "cell.go:132", after := #[{ on := 1, ground := Ground.data }, { on := 3, ground := Ground.data }], guard := none }) rfl (fun K hK => ?_) (AllReadyH.cons (o := { dst := some 41, op := Op.buildSlice 34 3 #[(0, Operand.tmp 37), (1, Operand.tmp 39), (2, Operand.tmp 40)], type := 34, pos := "cell.go:132", after := #[{ on := 6, ground := Ground.data }, { on := 8, ground := Ground.data }, { on := 9, ground := Ground.data }], guard := none }) rfl (fun K hK => ?_) AllReadyH.nil)
      · rw [if_pos (by kernel_rfl)]
        go_simp
        refine (num1g (ga + 1) (w1.heap.size + 1) (w1.heap.size) r _ X64.out (by first | omega | (simp; omega)) X63.out hr (by omega)).mono ?_
        rintro e65 w65 ⟨rfl, hO65, hF65⟩
        have X66 := Aside0.mk (X61.out.trans ((hF65.toBelow (by first | omega | (simp; omega)) (by first | omega | (simp; omega))).mono (by omega)))
        have X67 := Aside0.mk ((hF65.low _ (by first | omega | (simp; omega)) (by first | omega | (simp; omega)) (by first | omega | (simp; omega))).trans X62.out)
        have hs65 := hF65.size
        (try simp at hs65)
        have X69 := Aside0.mk (hO65)
        clear hF65 hO65
        clear hHeld
        refine hK.out _ _ (X67.out) (fun hHeld => ?_)
        clear hK K
        try simp only [Act.put, List.setIfInBounds_toArray, List.set_cons_zero, List.set_cons_succ]
        refine wpAnyH_ready (rs := [10]) (by kernel_rfl) (by simp) ?_
        refine AllReadyH.cons (o := { dst := some 41, op := Op.buildSlice 34 3 #[(0, Operand.tmp 37), (1, Operand.tmp 39), (2, Operand.tmp 40)], type := 34, pos := "cell.go:132", after := #[{ on := 6, ground := Ground.data }, { on := 8, ground := Ground.data }, { on := 9, ground := Ground.data }], guard := none }) rfl (fun K hK => ?_) AllReadyH.nil
        rw [if_pos (by kernel_rfl)]
        go_simp
        clear hHeld
        have X70 := Aside0.mk (below_alloc X66.out (.cells #[.int .i64 f, .int .i64 g, .int .i64 (fl : Int)] 3))
        have X71 := Aside0.mk (blk_alloc X67.out (.cells #[.int .i64 f, .int .i64 g, .int .i64 (fl : Int)] 3))
        have X72 := Aside0.mk (X69.out.alloc (.cells #[.int .i64 f, .int .i64 g, .int .i64 (fl : Int)] 3))
        have X73 := Aside0.mk (RowAt.litAt w65 3 [.int .i64 f, .int .i64 g, .int .i64 (fl : Int)] (w65.heap.size) (by simp) (by simp [maxLen]))
        refine hK.out _ _ (X71.out) (fun hHeld => ?_)
        clear hK K
        try simp only [Act.put, List.setIfInBounds_toArray, List.set_cons_zero, List.set_cons_succ]
        refine wpAnyH_ready (rs := [11]) (by kernel_rfl) (by simp) ?_
        refine AllReadyH.cons (o := { dst := some 42, op := Op.call { callee := Callee.value (Operand.func 110), args := #[Operand.tmp 35, Operand.tmp 41], argTypes := #[128, 34] }, type := 128, pos := "cell.go:132", after := #[{ on := 4, ground := Ground.data }, { on := 10, ground := Ground.data }, { on := 4, ground := Ground.chain }], guard := none }) rfl (fun K hK => ?_) AllReadyH.nil
        rw [if_pos (by kernel_rfl)]
        go_simp
        refine (byte3g (ga + 1) (w1.heap.size + 1) (w65.heap.size) _ f g (fl : Int) _ X72.out (by first | omega | (simp; omega)) X73.out (by omega) ⟨h1, by omega⟩ ⟨h3, by omega⟩ ⟨by omega, by omega⟩).mono ?_
        rintro e74 w74 ⟨rfl, hO74, hF74⟩
        have X75 := Aside0.mk (X70.out.trans ((hF74.toBelow (by first | omega | (simp; omega)) (by first | omega | (simp; omega))).mono (by omega)))
        have X76 := Aside0.mk ((hF74.low _ (by first | omega | (simp; omega)) (by first | omega | (simp; omega)) (by first | omega | (simp; omega))).trans X71.out)
        have hs74 := hF74.size
        (try simp at hs74)
        have X78 := Aside0.mk (hO74)
        clear hF74 hO74
        clear hHeld
        refine hK.out _ _ (X76.out) (fun hHeld => ?_)
        clear hK K
        try simp only [Act.put, List.setIfInBounds_toArray, List.set_cons_zero, List.set_cons_succ]
        refine wpAnyH_ready (rs := [12]) (by kernel_rfl) (by simp) ?_
        refine AllReadyH.cons (o := { dst := some 43, op := Op.call { callee := Callee.value (Operand.func 111), args := #[Operand.tmp 42], argTypes := #[128] }, type := 127, pos := "cell.go:132", after := #[{ on := 11, ground := Ground.data }, { on := 11, ground := Ground.chain }], guard := none }) rfl (fun K hK => ?_) AllReadyH.nil
        rw [if_pos (by kernel_rfl)]
        go_simp
        refine (end_ok (ga + 1) (w1.heap.size + 1) _ _ X78.out).mono ?_
        rw [← hsx.out]
        rintro e9 w9 ⟨rfl, rfl⟩
        clear hHeld
        refine hK.out _ _ (X76.out) (fun hHeld => ?_)
        clear hK K
        try simp only [Act.put, List.setIfInBounds_toArray, List.set_cons_zero, List.set_cons_succ]
        refine takeH (i := 13) (d := 30) (v := (.tuple #[(.string sx), (.int .i64 0)])) rfl rfl (by kernel_rfl) (by kernel_rfl) (by kernel_rfl) (fun _ _ _ h => h) (Or.inl ⟨by kernel_rfl, by intro w hSw; (try dsimp only at hSw); go_simp; done⟩) (by assumption) ?_
        try simp only [List.setIfInBounds_toArray, List.set_cons_zero, List.set_cons_succ]
        refine takeH (i := 14) (d := 44) (v := (.string sx)) rfl rfl (by kernel_rfl) (by kernel_rfl) (by kernel_rfl) (fun _ _ _ h => h) (Or.inl ⟨by kernel_rfl, by intro w hSw; (try dsimp only at hSw); go_simp; done⟩) (by assumption) ?_
        try simp only [List.setIfInBounds_toArray, List.set_cons_zero, List.set_cons_succ]
        refine takeH (i := 15) (d := 45) (v := (.int .i64 0)) rfl rfl (by kernel_rfl) (by kernel_rfl) (by kernel_rfl) (fun _ _ _ h => h) (Or.inl ⟨by kernel_rfl, by intro w hSw; (try dsimp only at hSw); go_simp; done⟩) (by assumption) ?_
        try simp only [List.setIfInBounds_toArray, List.set_cons_zero, List.set_cons_succ]
        refine takeH (i := 16) (d := 6) (v := (.string sx)) rfl rfl (by kernel_rfl) (by kernel_rfl) (by kernel_rfl) (fun _ _ _ h => h) (Or.inl ⟨by kernel_rfl, by intro w hSw; (try dsimp only at hSw); go_simp; done⟩) (by assumption) ?_
        try simp only [List.setIfInBounds_toArray, List.set_cons_zero, List.set_cons_succ]
        refine takeH (i := 17) (d := 7) (v := (.int .i64 0)) rfl rfl (by kernel_rfl) (by kernel_rfl) (by kernel_rfl) (fun _ _ _ h => h) (Or.inl ⟨by kernel_rfl, by intro w hSw; (try dsimp only at hSw); go_simp; done⟩) (by assumption) ?_
        try simp only [List.setIfInBounds_toArray, List.set_cons_zero, List.set_cons_succ]
        refine wpAnyH_done (by kernel_rfl) ?_ _
        clear hHeld
        go_wp2
        go_ret
        exact ⟨by rw [hsx.out, HFL.out]; rfl, X75.out⟩
      · rw [if_pos (by kernel_rfl)]
        go_simp
        clear hHeld
        have X79 := Aside0.mk (below_alloc X61.out (.cells #[.int .i64 f, .int .i64 g, .int .i64 (fl : Int)] 3))
        have X80 := Aside0.mk (blk_alloc X62.out (.cells #[.int .i64 f, .int .i64 g, .int .i64 (fl : Int)] 3))
        have X81 := Aside0.mk (X63.out.alloc (.cells #[.int .i64 f, .int .i64 g, .int .i64 (fl : Int)] 3))
        have X82 := Aside0.mk (X64.out.alloc (.cells #[.int .i64 f, .int .i64 g, .int .i64 (fl : Int)] 3))
        have X83 := Aside0.mk (RowAt.litAt ((w1.drew.alloc (.cells #[.int .i64 r] 3)).alloc (.cells #[.slice none 0 0, .int .i64 0] 131)) 3 [.int .i64 f, .int .i64 g, .int .i64 (fl : Int)] (w1.heap.size + 1 + 1) (by simp) (by simp [maxLen]))
        refine hK.out _ _ (X80.out) (fun hHeld => ?_)
        clear hK K
        try simp only [Act.put, List.setIfInBounds_toArray, List.set_cons_zero, List.set_cons_succ]
        refine wpAnyH_ready (rs := [4]) (by kernel_rfl) (by simp) ?_
        refine AllReadyH.cons (o := { dst := some 35, op := Op.call { callee := Callee.value (Operand.func 109), args := #[Operand.tmp 32, Operand.tmp 34], argTypes := #[128, 34] }, type := 128, pos := "cell.go:132", after := #[{ on := 1, ground := Ground.data }, { on := 3, ground := Ground.data }], guard := none }) rfl (fun K hK => ?_) AllReadyH.nil
        rw [if_pos (by kernel_rfl)]
        go_simp
        refine (num1g (ga + 1) (w1.heap.size + 1) (w1.heap.size) r _ X82.out (by first | omega | (simp; omega)) X81.out hr (by omega)).mono ?_
        rintro e84 w84 ⟨rfl, hO84, hF84⟩
        have X85 := Aside0.mk (X79.out.trans ((hF84.toBelow (by first | omega | (simp; omega)) (by first | omega | (simp; omega))).mono (by omega)))
        have X86 := Aside0.mk ((hF84.low _ (by first | omega | (simp; omega)) (by first | omega | (simp; omega)) (by first | omega | (simp; omega))).trans X80.out)
        have X88 := Aside0.mk (RowAt.frame X83.out hF84 (by decide) (X82.out.ne (by decide)))
        have hs84 := hF84.size
        (try simp at hs84)
        have X89 := Aside0.mk (hO84)
        clear hF84 hO84
        clear hHeld
        refine hK.out _ _ (X86.out) (fun hHeld => ?_)
        clear hK K
        try simp only [Act.put, List.setIfInBounds_toArray, List.set_cons_zero, List.set_cons_succ]
        refine wpAnyH_ready (rs := [11]) (by kernel_rfl) (by simp) ?_
        refine AllReadyH.cons (o := { dst := some 42, op := Op.call { callee := Callee.value (Operand.func 110), args := #[Operand.tmp 35, Operand.tmp 41], argTypes := #[128, 34] }, type := 128, pos := "cell.go:132", after := #[{ on := 4, ground := Ground.data }, { on := 10, ground := Ground.data }, { on := 4, ground := Ground.chain }], guard := none }) rfl (fun K hK => ?_) AllReadyH.nil
        rw [if_pos (by kernel_rfl)]
        go_simp
        refine (byte3g (ga + 1) (w1.heap.size + 1) (w1.heap.size + 1 + 1) _ f g (fl : Int) _ X89.out (by first | omega | (simp; omega)) X88.out (by omega) ⟨h1, by omega⟩ ⟨h3, by omega⟩ ⟨by omega, by omega⟩).mono ?_
        rintro e90 w90 ⟨rfl, hO90, hF90⟩
        have X91 := Aside0.mk (X85.out.trans ((hF90.toBelow (by first | omega | (simp; omega)) (by first | omega | (simp; omega))).mono (by omega)))
        have X92 := Aside0.mk ((hF90.low _ (by first | omega | (simp; omega)) (by first | omega | (simp; omega)) (by first | omega | (simp; omega))).trans X86.out)
        have hs90 := hF90.size
        (try simp at hs90)
        have X94 := Aside0.mk (hO90)
        clear hF90 hO90
        clear hHeld
        refine hK.out _ _ (X92.out) (fun hHeld => ?_)
        clear hK K
        try simp only [Act.put, List.setIfInBounds_toArray, List.set_cons_zero, List.set_cons_succ]
        refine wpAnyH_ready (rs := [12]) (by kernel_rfl) (by simp) ?_
        refine AllReadyH.cons (o := { dst := some 43, op := Op.call { callee := Callee.value (Operand.func 111), args := #[Operand.tmp 42], argTypes := #[128] }, type := 127, pos := "cell.go:132", after := #[{ on := 11, ground := Ground.data }, { on := 11, ground := Ground.chain }], guard := none }) rfl (fun K hK => ?_) AllReadyH.nil
        rw [if_pos (by kernel_rfl)]
        go_simp
        refine (end_ok (ga + 1) (w1.heap.size + 1) _ _ X94.out).mono ?_
        rw [← hsx.out]
        rintro e9 w9 ⟨rfl, rfl⟩
        clear hHeld
        refine hK.out _ _ (X92.out) (fun hHeld => ?_)
        clear hK K
        try simp only [Act.put, List.setIfInBounds_toArray, List.set_cons_zero, List.set_cons_succ]
        refine takeH (i := 13) (d := 30) (v := (.tuple #[(.string sx), (.int .i64 0)])) rfl rfl (by kernel_rfl) (by kernel_rfl) (by kernel_rfl) (fun _ _ _ h => h) (Or.inl ⟨by kernel_rfl, by intro w hSw; (try dsimp only at hSw); go_simp; done⟩) (by assumption) ?_
        try simp only [List.setIfInBounds_toArray, List.set_cons_zero, List.set_cons_succ]
        refine takeH (i := 14) (d := 44) (v := (.string sx)) rfl rfl (by kernel_rfl) (by kernel_rfl) (by kernel_rfl) (fun _ _ _ h => h) (Or.inl ⟨by kernel_rfl, by intro w hSw; (try dsimp only at hSw); go_simp; done⟩) (by assumption) ?_
        try simp only [List.setIfInBounds_toArray, List.set_cons_zero, List.set_cons_succ]
        refine takeH (i := 15) (d := 45) (v := (.int .i64 0)) rfl rfl (by kernel_rfl) (by kernel_rfl) (by kernel_rfl) (fun _ _ _ h => h) (Or.inl ⟨by kernel_rfl, by intro w hSw; (try dsimp only at hSw); go_simp; done⟩) (by assumption) ?_
        try simp only [List.setIfInBounds_toArray, List.set_cons_zero, List.set_cons_succ]
        refine takeH (i := 16) (d := 6) (v := (.string sx)) rfl rfl (by kernel_rfl) (by kernel_rfl) (by kernel_rfl) (fun _ _ _ h => h) (Or.inl ⟨by kernel_rfl, by intro w hSw; (try dsimp only at hSw); go_simp; done⟩) (by assumption) ?_
        try simp only [List.setIfInBounds_toArray, List.set_cons_zero, List.set_cons_succ]
        refine takeH (i := 17) (d := 7) (v := (.int .i64 0)) rfl rfl (by kernel_rfl) (by kernel_rfl) (by kernel_rfl) (fun _ _ _ h => h) (Or.inl ⟨by kernel_rfl, by intro w hSw; (try dsimp only at hSw); go_simp; done⟩) (by assumption) ?_
        try simp only [List.setIfInBounds_toArray, List.set_cons_zero, List.set_cons_succ]
        refine wpAnyH_done (by kernel_rfl) ?_ _
        clear hHeld
        go_wp2
        go_ret
        exact ⟨by rw [hsx.out, HFL.out]; rfl, X91.out⟩
    · rw [if_pos (by kernel_rfl)]
      go_simp
      clear hHeld
      have X95 := Aside0.mk (below_alloc X58.out (.cells #[.int .i64 f, .int .i64 g, .int .i64 (fl : Int)] 3))
      have X96 := Aside0.mk (blk_alloc X59.out (.cells #[.int .i64 f, .int .i64 g, .int .i64 (fl : Int)] 3))
      have X97 := Aside0.mk (X60.out.alloc (.cells #[.int .i64 f, .int .i64 g, .int .i64 (fl : Int)] 3))
      have X98 := Aside0.mk (RowAt.litAt (w1.drew.alloc (.cells #[.int .i64 r] 3)) 3 [.int .i64 f, .int .i64 g, .int .i64 (fl : Int)] (w1.heap.size + 1) (by simp) (by simp [maxLen]))
      refine hK.out _ _ (X96.out) (fun hHeld => ?_)
      clear hK K
      try simp only [Act.put, List.setIfInBounds_toArray, List.set_cons_zero, List.set_cons_succ]
      refine wpAnyH_ready (rs := [1]) (by kernel_rfl) (by simp) ?_
      refine AllReadyH.cons (o := { dst := some 32, op := Op.box 131 (Operand.tmp 31), type := 128, pos := "cell.go:132", after := #[{ on := 0, ground := Ground.data }], guard := none }) rfl (fun K hK => ?_) AllReadyH.nil
      rw [if_pos (by kernel_rfl)]
      go_simp
      clear hHeld
      have X99 := Aside0.mk (below_alloc X95.out (.cells #[.slice none 0 0, .int .i64 0] 131))
      have X100 := Aside0.mk (blk_alloc X96.out (.cells #[.slice none 0 0, .int .i64 0] 131))
      have X101 := Aside0.mk (X97.out.alloc (.cells #[.slice none 0 0, .int .i64 0] 131))
      have X102 := Aside0.mk (X98.out.alloc (.cells #[.slice none 0 0, .int .i64 0] 131))
      have X103 := Aside0.mk (IsOut.newAt (B := (ga + 1)) ((w1.drew.alloc (.cells #[.int .i64 r] 3)).alloc (.cells #[.int .i64 f, .int .i64 g, .int .i64 (fl : Int)] 3)) (w1.heap.size + 1 + 1) (by simp))
      refine hK.out _ _ (X100.out) (fun hHeld => ?_)
      clear hK K
      try simp only [Act.put, List.setIfInBounds_toArray, List.set_cons_zero, List.set_cons_succ]
      refine wpAnyH_ready (rs := [4]) (by kernel_rfl) (by simp) ?_
      refine AllReadyH.cons (o := { dst := some 35, op := Op.call { callee := Callee.value (Operand.func 109), args := #[Operand.tmp 32, Operand.tmp 34], argTypes := #[128, 34] }, type := 128, pos := "cell.go:132", after := #[{ on := 1, ground := Ground.data }, { on := 3, ground := Ground.data }], guard := none }) rfl (fun K hK => ?_) AllReadyH.nil
      rw [if_pos (by kernel_rfl)]
      go_simp
      refine (num1g (ga + 1) (w1.heap.size + 1 + 1) (w1.heap.size) r _ X103.out (by first | omega | (simp; omega)) X101.out hr (by omega)).mono ?_
      rintro e104 w104 ⟨rfl, hO104, hF104⟩
      have X105 := Aside0.mk (X99.out.trans ((hF104.toBelow (by first | omega | (simp; omega)) (by first | omega | (simp; omega))).mono (by omega)))
      have X106 := Aside0.mk ((hF104.low _ (by first | omega | (simp; omega)) (by first | omega | (simp; omega)) (by first | omega | (simp; omega))).trans X100.out)
      have X107 := Aside0.mk (RowAt.frame X102.out hF104 (by decide) (X103.out.ne (by decide)))
      have hs104 := hF104.size
      (try simp at hs104)
      have X109 := Aside0.mk (hO104)
      clear hF104 hO104
      clear hHeld
      refine hK.out _ _ (X106.out) (fun hHeld => ?_)
      clear hK K
      try simp only [Act.put, List.setIfInBounds_toArray, List.set_cons_zero, List.set_cons_succ]
      refine wpAnyH_ready (rs := [11]) (by kernel_rfl) (by simp) ?_
      refine AllReadyH.cons (o := { dst := some 42, op := Op.call { callee := Callee.value (Operand.func 110), args := #[Operand.tmp 35, Operand.tmp 41], argTypes := #[128, 34] }, type := 128, pos := "cell.go:132", after := #[{ on := 4, ground := Ground.data }, { on := 10, ground := Ground.data }, { on := 4, ground := Ground.chain }], guard := none }) rfl (fun K hK => ?_) AllReadyH.nil
      rw [if_pos (by kernel_rfl)]
      go_simp
      refine (byte3g (ga + 1) (w1.heap.size + 1 + 1) (w1.heap.size + 1) _ f g (fl : Int) _ X109.out (by first | omega | (simp; omega)) X107.out (by omega) ⟨h1, by omega⟩ ⟨h3, by omega⟩ ⟨by omega, by omega⟩).mono ?_
      rintro e110 w110 ⟨rfl, hO110, hF110⟩
      have X111 := Aside0.mk (X105.out.trans ((hF110.toBelow (by first | omega | (simp; omega)) (by first | omega | (simp; omega))).mono (by omega)))
      have X112 := Aside0.mk ((hF110.low _ (by first | omega | (simp; omega)) (by first | omega | (simp; omega)) (by first | omega | (simp; omega))).trans X106.out)
      have hs110 := hF110.size
      (try simp at hs110)
      have X114 := Aside0.mk (hO110)
      clear hF110 hO110
      clear hHeld
      refine hK.out _ _ (X112.out) (fun hHeld => ?_)
      clear hK K
      try simp only [Act.put, List.setIfInBounds_toArray, List.set_cons_zero, List.set_cons_succ]
      refine wpAnyH_ready (rs := [12]) (by kernel_rfl) (by simp) ?_
      refine AllReadyH.cons (o := { dst := some 43, op := Op.call { callee := Callee.value (Operand.func 111), args := #[Operand.tmp 42], argTypes := #[128] }, type := 127, pos := "cell.go:132", after := #[{ on := 11, ground := Ground.data }, { on := 11, ground := Ground.chain }], guard := none }) rfl (fun K hK => ?_) AllReadyH.nil
      rw [if_pos (by kernel_rfl)]
      go_simp
      refine (end_ok (ga + 1) (w1.heap.size + 1 + 1) _ _ X114.out).mono ?_
      rw [← hsx.out]
      rintro e9 w9 ⟨rfl, rfl⟩
      clear hHeld
      refine hK.out _ _ (X112.out) (fun hHeld => ?_)
      clear hK K
      try simp only [Act.put, List.setIfInBounds_toArray, List.set_cons_zero, List.set_cons_succ]
      refine takeH (i := 13) (d := 30) (v := (.tuple #[(.string sx), (.int .i64 0)])) rfl rfl (by kernel_rfl) (by kernel_rfl) (by kernel_rfl) (fun _ _ _ h => h) (Or.inl ⟨by kernel_rfl, by intro w hSw; (try dsimp only at hSw); go_simp; done⟩) (by assumption) ?_
      try simp only [List.setIfInBounds_toArray, List.set_cons_zero, List.set_cons_succ]
      refine takeH (i := 14) (d := 44) (v := (.string sx)) rfl rfl (by kernel_rfl) (by kernel_rfl) (by kernel_rfl) (fun _ _ _ h => h) (Or.inl ⟨by kernel_rfl, by intro w hSw; (try dsimp only at hSw); go_simp; done⟩) (by assumption) ?_
      try simp only [List.setIfInBounds_toArray, List.set_cons_zero, List.set_cons_succ]
      refine takeH (i := 15) (d := 45) (v := (.int .i64 0)) rfl rfl (by kernel_rfl) (by kernel_rfl) (by kernel_rfl) (fun _ _ _ h => h) (Or.inl ⟨by kernel_rfl, by intro w hSw; (try dsimp only at hSw); go_simp; done⟩) (by assumption) ?_
      try simp only [List.setIfInBounds_toArray, List.set_cons_zero, List.set_cons_succ]
      refine takeH (i := 16) (d := 6) (v := (.string sx)) rfl rfl (by kernel_rfl) (by kernel_rfl) (by kernel_rfl) (fun _ _ _ h => h) (Or.inl ⟨by kernel_rfl, by intro w hSw; (try dsimp only at hSw); go_simp; done⟩) (by assumption) ?_
      try simp only [List.setIfInBounds_toArray, List.set_cons_zero, List.set_cons_succ]
      refine takeH (i := 17) (d := 7) (v := (.int .i64 0)) rfl rfl (by kernel_rfl) (by kernel_rfl) (by kernel_rfl) (fun _ _ _ h => h) (Or.inl ⟨by kernel_rfl, by intro w hSw; (try dsimp only at hSw); go_simp; done⟩) (by assumption) ?_
      try simp only [List.setIfInBounds_toArray, List.set_cons_zero, List.set_cons_succ]
      refine wpAnyH_done (by kernel_rfl) ?_ _
      clear hHeld
      go_wp2
      go_ret
      exact ⟨by rw [hsx.out, HFL.out]; rfl, X111.out⟩
  · rw [if_pos (by kernel_rfl)]
    go_simp
    clear hHeld
    have X115 := Aside0.mk (below_alloc YB.out (.cells #[.int .i64 f, .int .i64 g, .int .i64 (fl : Int)] 3))
    have X116 := Aside0.mk (blk_alloc YM.out (.cells #[.int .i64 f, .int .i64 g, .int .i64 (fl : Int)] 3))
    have X117 := Aside0.mk (RowAt.litAt w1.drew 3 [.int .i64 f, .int .i64 g, .int .i64 (fl : Int)] (w1.heap.size) (by simp) (by simp [maxLen]))
    refine hK.out _ _ (X116.out) (fun hHeld => ?_)
    clear hK K
    try simp only [Act.put, List.setIfInBounds_toArray, List.set_cons_zero, List.set_cons_succ]
    refine wpAnyH_ready (rs := [1, 3]) (by kernel_rfl) (by simp) ?_
    refine AllReadyH.cons (o := { dst := some 32, op := Op.box 131 (Operand.tmp 31), type := 128, pos := "cell.go:132", after := #[{ on := 0, ground := Ground.data }], guard := none }) rfl (fun K hK => ?_) (AllReadyH.cons (o := { dst := some 34, op := Op.buildSlice 34 1 #[(0, Operand.tmp 33)], type := 34, pos := "cell.go:132", after := #[{ on := 2, ground := Ground.data }], guard := none }) rfl (fun K hK => ?_) AllReadyH.nil)
    · rw [if_pos (by kernel_rfl)]
      go_simp
      clear hHeld
      have X118 := Aside0.mk (below_alloc X115.out (.cells #[.slice none 0 0, .int .i64 0] 131))
      have X119 := Aside0.mk (blk_alloc X116.out (.cells #[.slice none 0 0, .int .i64 0] 131))
      have X120 := Aside0.mk (X117.out.alloc (.cells #[.slice none 0 0, .int .i64 0] 131))
      have X121 := Aside0.mk (IsOut.newAt (B := (ga + 1)) (w1.drew.alloc (.cells #[.int .i64 f, .int .i64 g, .int .i64 (fl : Int)] 3)) (w1.heap.size + 1) (by simp))
      refine hK.out _ _ (X119.out) (fun hHeld => ?_)
      clear hK K
      try simp only [Act.put, List.setIfInBounds_toArray, List.set_cons_zero, List.set_cons_succ]
      refine wpAnyH_ready (rs := [3]) (by kernel_rfl) (by simp) ?_
      refine AllReadyH.cons (o := { dst := some 34, op := Op.buildSlice 34 1 #[(0, Operand.tmp 33)], type := 34, pos := "cell.go:132", after := #[{ on := 2, ground := Ground.data }], guard := none }) rfl (fun K hK => ?_) AllReadyH.nil
      rw [if_pos (by kernel_rfl)]
      go_simp
      clear hHeld
      have X122 := Aside0.mk (below_alloc X118.out (.cells #[.int .i64 r] 3))
      have X123 := Aside0.mk (blk_alloc X119.out (.cells #[.int .i64 r] 3))
      have X124 := Aside0.mk (X120.out.alloc (.cells #[.int .i64 r] 3))
      have X125 := Aside0.mk (X121.out.alloc (.cells #[.int .i64 r] 3))
      have X126 := Aside0.mk (RowAt.litAt ((w1.drew.alloc (.cells #[.int .i64 f, .int .i64 g, .int .i64 (fl : Int)] 3)).alloc (.cells #[.slice none 0 0, .int .i64 0] 131)) 3 [.int .i64 r] (w1.heap.size + 1 + 1) (by simp) (by simp [maxLen]))
      refine hK.out _ _ (X123.out) (fun hHeld => ?_)
      clear hK K
      try simp only [Act.put, List.setIfInBounds_toArray, List.set_cons_zero, List.set_cons_succ]
      refine wpAnyH_ready (rs := [4]) (by kernel_rfl) (by simp) ?_
      refine AllReadyH.cons (o := { dst := some 35, op := Op.call { callee := Callee.value (Operand.func 109), args := #[Operand.tmp 32, Operand.tmp 34], argTypes := #[128, 34] }, type := 128, pos := "cell.go:132", after := #[{ on := 1, ground := Ground.data }, { on := 3, ground := Ground.data }], guard := none }) rfl (fun K hK => ?_) AllReadyH.nil
      rw [if_pos (by kernel_rfl)]
      go_simp
      refine (num1g (ga + 1) (w1.heap.size + 1) (w1.heap.size + 1 + 1) r _ X125.out (by first | omega | (simp; omega)) X126.out hr (by omega)).mono ?_
      rintro e127 w127 ⟨rfl, hO127, hF127⟩
      have X128 := Aside0.mk (X122.out.trans ((hF127.toBelow (by first | omega | (simp; omega)) (by first | omega | (simp; omega))).mono (by omega)))
      have X129 := Aside0.mk ((hF127.low _ (by first | omega | (simp; omega)) (by first | omega | (simp; omega)) (by first | omega | (simp; omega))).trans X123.out)
      have X130 := Aside0.mk (RowAt.frame X124.out hF127 (by decide) (X125.out.ne (by decide)))
      have hs127 := hF127.size
      (try simp at hs127)
      have X132 := Aside0.mk (hO127)
      clear hF127 hO127
      clear hHeld
      refine hK.out _ _ (X129.out) (fun hHeld => ?_)
      clear hK K
      try simp only [Act.put, List.setIfInBounds_toArray, List.set_cons_zero, List.set_cons_succ]
      refine wpAnyH_ready (rs := [11]) (by kernel_rfl) (by simp) ?_
      refine AllReadyH.cons (o := { dst := some 42, op := Op.call { callee := Callee.value (Operand.func 110), args := #[Operand.tmp 35, Operand.tmp 41], argTypes := #[128, 34] }, type := 128, pos := "cell.go:132", after := #[{ on := 4, ground := Ground.data }, { on := 10, ground := Ground.data }, { on := 4, ground := Ground.chain }], guard := none }) rfl (fun K hK => ?_) AllReadyH.nil
      rw [if_pos (by kernel_rfl)]
      go_simp
      refine (byte3g (ga + 1) (w1.heap.size + 1) (w1.heap.size) _ f g (fl : Int) _ X132.out (by first | omega | (simp; omega)) X130.out (by omega) ⟨h1, by omega⟩ ⟨h3, by omega⟩ ⟨by omega, by omega⟩).mono ?_
      rintro e133 w133 ⟨rfl, hO133, hF133⟩
      have X134 := Aside0.mk (X128.out.trans ((hF133.toBelow (by first | omega | (simp; omega)) (by first | omega | (simp; omega))).mono (by omega)))
      have X135 := Aside0.mk ((hF133.low _ (by first | omega | (simp; omega)) (by first | omega | (simp; omega)) (by first | omega | (simp; omega))).trans X129.out)
      have hs133 := hF133.size
      (try simp at hs133)
      have X137 := Aside0.mk (hO133)
      clear hF133 hO133
      clear hHeld
      refine hK.out _ _ (X135.out) (fun hHeld => ?_)
      clear hK K
      try simp only [Act.put, List.setIfInBounds_toArray, List.set_cons_zero, List.set_cons_succ]
      refine wpAnyH_ready (rs := [12]) (by kernel_rfl) (by simp) ?_
      refine AllReadyH.cons (o := { dst := some 43, op := Op.call { callee := Callee.value (Operand.func 111), args := #[Operand.tmp 42], argTypes := #[128] }, type := 127, pos := "cell.go:132", after := #[{ on := 11, ground := Ground.data }, { on := 11, ground := Ground.chain }], guard := none }) rfl (fun K hK => ?_) AllReadyH.nil
      rw [if_pos (by kernel_rfl)]
      go_simp
      refine (end_ok (ga + 1) (w1.heap.size + 1) _ _ X137.out).mono ?_
      rw [← hsx.out]
      rintro e9 w9 ⟨rfl, rfl⟩
      clear hHeld
      refine hK.out _ _ (X135.out) (fun hHeld => ?_)
      clear hK K
      try simp only [Act.put, List.setIfInBounds_toArray, List.set_cons_zero, List.set_cons_succ]
      refine takeH (i := 13) (d := 30) (v := (.tuple #[(.string sx), (.int .i64 0)])) rfl rfl (by kernel_rfl) (by kernel_rfl) (by kernel_rfl) (fun _ _ _ h => h) (Or.inl ⟨by kernel_rfl, by intro w hSw; (try dsimp only at hSw); go_simp; done⟩) (by assumption) ?_
      try simp only [List.setIfInBounds_toArray, List.set_cons_zero, List.set_cons_succ]
      refine takeH (i := 14) (d := 44) (v := (.string sx)) rfl rfl (by kernel_rfl) (by kernel_rfl) (by kernel_rfl) (fun _ _ _ h => h) (Or.inl ⟨by kernel_rfl, by intro w hSw; (try dsimp only at hSw); go_simp; done⟩) (by assumption) ?_
      try simp only [List.setIfInBounds_toArray, List.set_cons_zero, List.set_cons_succ]
      refine takeH (i := 15) (d := 45) (v := (.int .i64 0)) rfl rfl (by kernel_rfl) (by kernel_rfl) (by kernel_rfl) (fun _ _ _ h => h) (Or.inl ⟨by kernel_rfl, by intro w hSw; (try dsimp only at hSw); go_simp; done⟩) (by assumption) ?_
      try simp only [List.setIfInBounds_toArray, List.set_cons_zero, List.set_cons_succ]
      refine takeH (i := 16) (d := 6) (v := (.string sx)) rfl rfl (by kernel_rfl) (by kernel_rfl) (by kernel_rfl) (fun _ _ _ h => h) (Or.inl ⟨by kernel_rfl, by intro w hSw; (try dsimp only at hSw); go_simp; done⟩) (by assumption) ?_
      try simp only [List.setIfInBounds_toArray, List.set_cons_zero, List.set_cons_succ]
      refine takeH (i := 17) (d := 7) (v := (.int .i64 0)) rfl rfl (by kernel_rfl) (by kernel_rfl) (by kernel_rfl) (fun _ _ _ h => h) (Or.inl ⟨by kernel_rfl, by intro w hSw; (try dsimp only at hSw); go_simp; done⟩) (by assumption) ?_
      try simp only [List.setIfInBounds_toArray, List.set_cons_zero, List.set_cons_succ]
      refine wpAnyH_done (by kernel_rfl) ?_ _
      clear hHeld
      go_wp2
      go_ret
      exact ⟨by rw [hsx.out, HFL.out]; rfl, X134.out⟩
    · rw [if_pos (by kernel_rfl)]
      go_simp
      clear hHeld
      have X138 := Aside0.mk (below_alloc X115.out (.cells #[.int .i64 r] 3))
      have X139 := Aside0.mk (blk_alloc X116.out (.cells #[.int .i64 r] 3))
      have X140 := Aside0.mk (X117.out.alloc (.cells #[.int .i64 r] 3))
      have X141 := Aside0.mk (RowAt.litAt (w1.drew.alloc (.cells #[.int .i64 f, .int .i64 g, .int .i64 (fl : Int)] 3)) 3 [.int .i64 r] (w1.heap.size + 1) (by simp) (by simp [maxLen]))
      refine hK.out _ _ (X139.out) (fun hHeld => ?_)
      clear hK K
      try simp only [Act.put, List.setIfInBounds_toArray, List.set_cons_zero, List.set_cons_succ]
      refine wpAnyH_ready (rs := [1]) (by kernel_rfl) (by simp) ?_
      refine AllReadyH.cons (o := { dst := some 32, op := Op.box 131 (Operand.tmp 31), type := 128, pos := "cell.go:132", after := #[{ on := 0, ground := Ground.data }], guard := none }) rfl (fun K hK => ?_) AllReadyH.nil
      rw [if_pos (by kernel_rfl)]
      go_simp
      clear hHeld
      have X142 := Aside0.mk (below_alloc X138.out (.cells #[.slice none 0 0, .int .i64 0] 131))
      have X143 := Aside0.mk (blk_alloc X139.out (.cells #[.slice none 0 0, .int .i64 0] 131))
      have X144 := Aside0.mk (X140.out.alloc (.cells #[.slice none 0 0, .int .i64 0] 131))
      have X145 := Aside0.mk (X141.out.alloc (.cells #[.slice none 0 0, .int .i64 0] 131))
      have X146 := Aside0.mk (IsOut.newAt (B := (ga + 1)) ((w1.drew.alloc (.cells #[.int .i64 f, .int .i64 g, .int .i64 (fl : Int)] 3)).alloc (.cells #[.int .i64 r] 3)) (w1.heap.size + 1 + 1) (by simp))
      refine hK.out _ _ (X143.out) (fun hHeld => ?_)
      clear hK K
      try simp only [Act.put, List.setIfInBounds_toArray, List.set_cons_zero, List.set_cons_succ]
      refine wpAnyH_ready (rs := [4]) (by kernel_rfl) (by simp) ?_
      refine AllReadyH.cons (o := { dst := some 35, op := Op.call { callee := Callee.value (Operand.func 109), args := #[Operand.tmp 32, Operand.tmp 34], argTypes := #[128, 34] }, type := 128, pos := "cell.go:132", after := #[{ on := 1, ground := Ground.data }, { on := 3, ground := Ground.data }], guard := none }) rfl (fun K hK => ?_) AllReadyH.nil
      rw [if_pos (by kernel_rfl)]
      go_simp
      refine (num1g (ga + 1) (w1.heap.size + 1 + 1) (w1.heap.size + 1) r _ X146.out (by first | omega | (simp; omega)) X145.out hr (by omega)).mono ?_
      rintro e147 w147 ⟨rfl, hO147, hF147⟩
      have X148 := Aside0.mk (X142.out.trans ((hF147.toBelow (by first | omega | (simp; omega)) (by first | omega | (simp; omega))).mono (by omega)))
      have X149 := Aside0.mk ((hF147.low _ (by first | omega | (simp; omega)) (by first | omega | (simp; omega)) (by first | omega | (simp; omega))).trans X143.out)
      have X150 := Aside0.mk (RowAt.frame X144.out hF147 (by decide) (X146.out.ne (by decide)))
      have hs147 := hF147.size
      (try simp at hs147)
      have X152 := Aside0.mk (hO147)
      clear hF147 hO147
      clear hHeld
      refine hK.out _ _ (X149.out) (fun hHeld => ?_)
      clear hK K
      try simp only [Act.put, List.setIfInBounds_toArray, List.set_cons_zero, List.set_cons_succ]
      refine wpAnyH_ready (rs := [11]) (by kernel_rfl) (by simp) ?_
      refine AllReadyH.cons (o := { dst := some 42, op := Op.call { callee := Callee.value (Operand.func 110), args := #[Operand.tmp 35, Operand.tmp 41], argTypes := #[128, 34] }, type := 128, pos := "cell.go:132", after := #[{ on := 4, ground := Ground.data }, { on := 10, ground := Ground.data }, { on := 4, ground := Ground.chain }], guard := none }) rfl (fun K hK => ?_) AllReadyH.nil
      rw [if_pos (by kernel_rfl)]
      go_simp
      refine (byte3g (ga + 1) (w1.heap.size + 1 + 1) (w1.heap.size) _ f g (fl : Int) _ X152.out (by first | omega | (simp; omega)) X150.out (by omega) ⟨h1, by omega⟩ ⟨h3, by omega⟩ ⟨by omega, by omega⟩).mono ?_
      rintro e153 w153 ⟨rfl, hO153, hF153⟩
      have X154 := Aside0.mk (X148.out.trans ((hF153.toBelow (by first | omega | (simp; omega)) (by first | omega | (simp; omega))).mono (by omega)))
      have X155 := Aside0.mk ((hF153.low _ (by first | omega | (simp; omega)) (by first | omega | (simp; omega)) (by first | omega | (simp; omega))).trans X149.out)
      have hs153 := hF153.size
      (try simp at hs153)
      have X157 := Aside0.mk (hO153)
      clear hF153 hO153
      clear hHeld
      refine hK.out _ _ (X155.out) (fun hHeld => ?_)
      clear hK K
      try simp only [Act.put, List.setIfInBounds_toArray, List.set_cons_zero, List.set_cons_succ]
      refine wpAnyH_ready (rs := [12]) (by kernel_rfl) (by simp) ?_
      refine AllReadyH.cons (o := { dst := some 43, op := Op.call { callee := Callee.value (Operand.func 111), args := #[Operand.tmp 42], argTypes := #[128] }, type := 127, pos := "cell.go:132", after := #[{ on := 11, ground := Ground.data }, { on := 11, ground := Ground.chain }], guard := none }) rfl (fun K hK => ?_) AllReadyH.nil
      rw [if_pos (by kernel_rfl)]
      go_simp
      refine (end_ok (ga + 1) (w1.heap.size + 1 + 1) _ _ X157.out).mono ?_
      rw [← hsx.out]
      rintro e9 w9 ⟨rfl, rfl⟩
      clear hHeld
      refine hK.out _ _ (X155.out) (fun hHeld => ?_)
      clear hK K
      try simp only [Act.put, List.setIfInBounds_toArray, List.set_cons_zero, List.set_cons_succ]
      refine takeH (i := 13) (d := 30) (v := (.tuple #[(.string sx), (.int .i64 0)])) rfl rfl (by kernel_rfl) (by kernel_rfl) (by kernel_rfl) (fun _ _ _ h => h) (Or.inl ⟨by kernel_rfl, by intro w hSw; (try dsimp only at hSw); go_simp; done⟩) (by assumption) ?_
      try simp only [List.setIfInBounds_toArray, List.set_cons_zero, List.set_cons_succ]
      refine takeH (i := 14) (d := 44) (v := (.string sx)) rfl rfl (by kernel_rfl) (by kernel_rfl) (by kernel_rfl) (fun _ _ _ h => h) (Or.inl ⟨by kernel_rfl, by intro w hSw; (try dsimp only at hSw); go_simp; done⟩) (by assumption) ?_
      try simp only [List.setIfInBounds_toArray, List.set_cons_zero, List.set_cons_succ]
      refine takeH (i := 15) (d := 45) (v := (.int .i64 0)) rfl rfl (by kernel_rfl) (by kernel_rfl) (by kernel_rfl) (fun _ _ _ h => h) (Or.inl ⟨by kernel_rfl, by intro w hSw; (try dsimp only at hSw); go_simp; done⟩) (by assumption) ?_
      try simp only [List.setIfInBounds_toArray, List.set_cons_zero, List.set_cons_succ]
      refine takeH (i := 16) (d := 6) (v := (.string sx)) rfl rfl (by kernel_rfl) (by kernel_rfl) (by kernel_rfl) (fun _ _ _ h => h) (Or.inl ⟨by kernel_rfl, by intro w hSw; (try dsimp only at hSw); go_simp; done⟩) (by assumption) ?_
      try simp only [List.setIfInBounds_toArray, List.set_cons_zero, List.set_cons_succ]
      refine takeH (i := 17) (d := 7) (v := (.int .i64 0)) rfl rfl (by kernel_rfl) (by kernel_rfl) (by kernel_rfl) (fun _ _ _ h => h) (Or.inl ⟨by kernel_rfl, by intro w hSw; (try dsimp only at hSw); go_simp; done⟩) (by assumption) ?_
      try simp only [List.setIfInBounds_toArray, List.set_cons_zero, List.set_cons_succ]
      refine wpAnyH_done (by kernel_rfl) ?_ _
      clear hHeld
      go_wp2
      go_ret
      exact ⟨by rw [hsx.out, HFL.out]; rfl, X154.out⟩
end Go.Proofs.Ytcmmdllnbijipaa.Obj
