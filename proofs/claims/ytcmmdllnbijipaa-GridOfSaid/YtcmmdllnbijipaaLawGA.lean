/- The grid's first calls, and when cells are alike. Conditions: those in each theorem. -/
import Derived.Test.YtcmmdllnbijipaaGrid4
import Derived.Test.YtcmmdllnbijipaaWEqStruct
namespace Go.Proofs.Ytcmmdllnbijipaa.Grd
open Go.RowKit Go.Proofs.Ytcmmdllnbijipaa.Mem Go.Proofs.YtcmmdllnbijipaaW.PrintWords Go.Proofs.YtcmmdllnbijipaaW.PrintMore
attribute [local go_sem] max2_i min2_i max_two min_two
set_option linter.unusedVariables false
set_option linter.unusedSimpArgs false
theorem takeH {P : Program} {md : Region.Mode} {ops : Array Oper} {Q : Exit → Act → World → Prop} {S : World → Prop} {i d : Nat} {oi : Oper} {v : Value} {fuel : Nat} {listed : Array Bool} {a : Act} {w : World} (hi : ops[i]? = some oi) (hd : oi.dst = some d)
    (hs : Region.noSelect ops = true) (hf : Region.free md ops listed i = true) (hr : (Region.ready md ops listed).contains i = true)
    (hQ : ∀ c a w, Q (.panic c) (a.put oi.dst v) w → Q (.panic c) a w) (hy : YieldsIf P ops S oi v a) (hS : S w)
    (h : wpAnyH P md ops Q S fuel (listed.setIfInBounds i true) { a with tmps := a.tmps.setIfInBounds d v } w) : wpAnyH P md ops Q S (fuel + 1) listed a w :=
  wpAnyH_take hi hs hf hr hQ hy hS (by rw [hd]; exact h)
theorem eqA_attr (d : Nat) (w : World) (x0 y0 : Int) (x1 y1 : Int) (x2 y2 : Bool) (x3 y3 : Bool) (x4 y4 : Bool) :
    (Op.equalIn (d + 2) 23 (.agg #[.int .i64 x0, .int .i64 x1, .bool x2, .bool x3, .bool x4]) (.agg #[.int .i64 y0, .int .i64 y1, .bool y2, .bool y3, .bool y4])).run Try.prog w = .ok (x0 == y0 && (x1 == y1 && (x2 == y2 && (x3 == y3 && (x4 == y4))))) w := by
  refine eqA_of Try.underlying23 (by kernel_rfl) ?_
  refine eqf_cons (by rfl) (by go_simp; rfl) (by go_simp; rfl) (by go_simp) ?_
  refine eqf_cons (by rfl) (by go_simp; rfl) (by go_simp; rfl) (by go_simp) ?_
  refine eqf_cons (by rfl) (by go_simp; rfl) (by go_simp; rfl) (by go_simp) ?_
  refine eqf_cons (by rfl) (by go_simp; rfl) (by go_simp; rfl) (by go_simp) ?_
  exact eqf_last (by rfl) (by go_simp; rfl) (by go_simp; rfl) (by go_simp)
theorem eqA_cell (d : Nat) (w : World) (r : Int) (x0 : Int) (x1 : Int) (x2 : Bool) (x3 : Bool) (x4 : Bool) :
    (Op.equalIn (d + 3) 25 (.agg #[.int .i32 r, .int .i64 x0, .int .i64 x1, .bool x2, .bool x3, .bool x4]) (.agg #[.int .i32 r, .int .i64 x0, .int .i64 x1, .bool x2, .bool x3, .bool x4])).run Try.prog w = .ok true w := by
  have hua := Try.underlying23
  refine eqA_of Try.underlying25 (by kernel_rfl) ?_
  have h1 := eqf_last (P := Try.prog) (d := d + 2) (xs := #[.int .i32 r, .int .i64 x0, .int .i64 x1, .bool x2, .bool x3, .bool x4]) (ys := #[.int .i32 r, .int .i64 x0, .int .i64 x1, .bool x2, .bool x3, .bool x4]) (f := { name := "Attr", type := 23, offset := 1, embedded := false, tag := "", pkgPath := "", byteOffset := 8 }) (a := .agg #[.int .i64 x0, .int .i64 x1, .bool x2, .bool x3, .bool x4]) (b := .agg #[.int .i64 x0, .int .i64 x1, .bool x2, .bool x3, .bool x4]) (r := true) (w := w) (by rfl) (by go_simp) (by go_simp) (by rw [eqA_attr]; simp)
  have h2 := eqf_cons (P := Try.prog) (d := d + 2) (f := { name := "Rune", type := 21, offset := 0, embedded := false, tag := "", pkgPath := "", byteOffset := 0 }) (a := .int .i32 r) (b := .int .i32 r) (r := true) (by rfl) (by go_simp) (by go_simp) (by go_simp) h1
  exact h2
theorem eq_cell (r : Int) (x0 : Int) (x1 : Int) (x2 : Bool) (x3 : Bool) (x4 : Bool) (w : World) : (binOp .eql 25 (.agg #[.int .i32 r, .int .i64 x0, .int .i64 x1, .bool x2, .bool x3, .bool x4]) (.agg #[.int .i32 r, .int .i64 x0, .int .i64 x1, .bool x2, .bool x3, .bool x4])).run Try.prog w = .ok (.bool true) w := by
  rw [run_eql_struct, show (10000 : Nat) = 9997 + 3 from rfl, eqA_cell]
  simp [Result.andThen]
theorem ne_cell (r : Int) (x0 : Int) (x1 : Int) (x2 : Bool) (x3 : Bool) (x4 : Bool) (w : World) : (binOp .neq 25 (.agg #[.int .i32 r, .int .i64 x0, .int .i64 x1, .bool x2, .bool x3, .bool x4]) (.agg #[.int .i32 r, .int .i64 x0, .int .i64 x1, .bool x2, .bool x3, .bool x4])).run Try.prog w = .ok (.bool false) w := by
  have h := eqA_cell 9997 w r x0 x1 x2 x3 x4
  simp only [binOp]
  simp [Op.equal, Op.maxDepth, h]
theorem eq_c (c : C6) (w : World) : (binOp .eql 25 c.val c.val).run Try.prog w = .ok (.bool true) w := eq_cell c.r c.f c.g c.bo c.un c.iv w
theorem ne_c (c : C6) (w : World) : (binOp .neq 25 c.val c.val).run Try.prog w = .ok (.bool false) w := ne_cell c.r c.f c.g c.bo c.un c.iv w
def cA : C6 := ⟨97, 0, 0, false, false, false⟩
def cX : C6 := ⟨120, 0, 0, false, false, false⟩
def cs1 : List C6 := List.replicate 4 bC
def cs2 : List C6 := gSet 2 2 cs1 0 1 [cA, cX, cA]
def cs3 : List C6 := gRows 2 2 cs2 0 2 1 (fun k => less k cX)
/-- What the last line reads. -/
structure Al (w0 : World) (g b ga gx : Nat) (w : World) : Prop where
  i : IsGrid w g b 2 2 cs3
  a : w.heap[ga]? = some (.cells #[.int .i32 97, .int .i64 0, .int .i64 0, .bool false, .bool false, .bool false] 25 (0, 0))
  x : w.heap[gx]? = some (.cells #[.int .i32 120, .int .i64 0, .int .i64 0, .bool false, .bool false, .bool false] 25 (0, 0))
  b : Below w0.heap.size w0 w
theorem Al.below {w0 w w' : World} {g b ga gx : Nat} (h : Al w0 g b ga gx w) (hb : Below w.heap.size w w') : Al w0 g b ga gx w' := ⟨h.i.below hb, (hb.block _ (blk_lt h.a)).trans h.a, (hb.block _ (blk_lt h.x)).trans h.x, below_step h.b hb⟩
set_option maxHeartbeats 4000000 in
set_option maxRecDepth 100000 in
theorem alive15 (w : World) : Calls Try.prog 13 #[] w fun r w' => r = .returned (.bool true) ∧ Below w.heap.size w w' := by
  have hu := Try.underlying25
  have hua := Try.underlying23
  go_enter Try.func13, Try.ntmps13
  go_wp2_with fail
  refine (new_calls 2 2 _).mono ?_
  rintro e1 w1 ⟨g, b, rfl, hg, hb, hI, hB⟩
  have HI := Aside0.mk (show IsGrid w1 g b 2 2 cs1 from hI)
  have HB := Aside0.mk hB
  have hn := eql_grid ⟨g, 0, none⟩
  have hbl := hI.lt
  clear hI hB
  go_wp2_with fail
  have XA := Aside0.mk (Blk.new w1 25 #[.int .i32 97, .int .i64 0, .int .i64 0, .bool false, .bool false, .bool false])
  have XX_ := Aside0.mk (Blk.new (w1.alloc (.cells #[.int .i32 97, .int .i64 0, .int .i64 0, .bool false, .bool false, .bool false] 25)) 25 #[.int .i32 120, .int .i64 0, .int .i64 0, .bool false, .bool false, .bool false])
  have XR := Aside0.mk (Src.new ((w1.alloc (.cells #[.int .i32 97, .int .i64 0, .int .i64 0, .bool false, .bool false, .bool false] 25)).alloc (.cells #[.int .i32 120, .int .i64 0, .int .i64 0, .bool false, .bool false, .bool false] 25)) [cA, cX, cA] #[.int .i32 97, .int .i64 0, .int .i64 0, .bool false, .bool false, .bool false, .int .i32 120, .int .i64 0, .int .i64 0, .bool false, .bool false, .bool false, .int .i32 97, .int .i64 0, .int .i64 0, .bool false, .bool false, .bool false] rfl)
  have XA := Aside0.mk ((XA.out.alloc (.cells #[.int .i32 120, .int .i64 0, .int .i64 0, .bool false, .bool false, .bool false] 25)).alloc (.cells #[.int .i32 97, .int .i64 0, .int .i64 0, .bool false, .bool false, .bool false, .int .i32 120, .int .i64 0, .int .i64 0, .bool false, .bool false, .bool false, .int .i32 97, .int .i64 0, .int .i64 0, .bool false, .bool false, .bool false] 25))
  have XX_ := Aside0.mk (XX_.out.alloc (.cells #[.int .i32 97, .int .i64 0, .int .i64 0, .bool false, .bool false, .bool false, .int .i32 120, .int .i64 0, .int .i64 0, .bool false, .bool false, .bool false, .int .i32 97, .int .i64 0, .int .i64 0, .bool false, .bool false, .bool false] 25))
  have XB := Aside0.mk (below_alloc (below_alloc (below_alloc (Below.refl w1.heap.size w1) (.cells #[.int .i32 97, .int .i64 0, .int .i64 0, .bool false, .bool false, .bool false] 25)) (.cells #[.int .i32 120, .int .i64 0, .int .i64 0, .bool false, .bool false, .bool false] 25)) (.cells #[.int .i32 97, .int .i64 0, .int .i64 0, .bool false, .bool false, .bool false, .int .i32 120, .int .i64 0, .int .i64 0, .bool false, .bool false, .bool false, .int .i32 97, .int .i64 0, .int .i64 0, .bool false, .bool false, .bool false] 25))
  rw [World.size_alloc] at XX_
  rw [World.size_alloc, World.size_alloc] at XR
  refine (set_calls g b 2 2 0 1 _ 3 3 [cA, cX, cA] cs1 _ (HI.out.below XB.out) XR.out).mono ?_
  rintro e2 w2 ⟨rfl, hI2, hO2⟩
  have HI2 := Aside0.mk (show IsGrid w2 g b 2 2 cs2 from hI2)
  have XA := Aside0.mk (XA.out.only hO2 (by simp; omega))
  have XX_ := Aside0.mk (XX_.out.only hO2 (by simp; omega))
  have HB2 := Aside0.mk (hO2.belowOf (below_step HB.out XB.out) (by have := HB.out.size; simp; omega) (by simpa using hb))
  have hse : ((gSetN 2 2 0 1 3 : Nat) : Int) = 2 := by decide
  rw [hse]
  clear hI2 hO2 hse
  have x0 : w2.cell? ⟨w1.heap.size + 1, 0, none⟩ = some (.int .i32 120) := (XX_.out.cell 0).trans rfl
  have x1 : w2.cell? ⟨w1.heap.size + 1, 1, none⟩ = some (.int .i64 0) := (XX_.out.cell 1).trans rfl
  have x2 : w2.cell? ⟨w1.heap.size + 1, 2, none⟩ = some (.int .i64 0) := (XX_.out.cell 2).trans rfl
  have x3 : w2.cell? ⟨w1.heap.size + 1, 3, none⟩ = some (.bool false) := (XX_.out.cell 3).trans rfl
  have x4 : w2.cell? ⟨w1.heap.size + 1, 4, none⟩ = some (.bool false) := (XX_.out.cell 4).trans rfl
  have x5 : w2.cell? ⟨w1.heap.size + 1, 5, none⟩ = some (.bool false) := (XX_.out.cell 5).trans rfl
  go_wp2_with fail
  clear x0 x1 x2 x3 x4 x5
  refine (up_calls g b 2 2 0 2 1 cX cs2 _ HI2.out).mono ?_
  rintro e3 w3 ⟨rfl, hI3, hO3⟩
  have XS := Aside0.mk (show Al w g b w1.heap.size (w1.heap.size + 1) w3 from ⟨hI3, XA.out.only hO3 (by simp; omega), XX_.out.only hO3 (by simp; omega), hO3.belowOf HB2.out HB2.out.size (by simpa using hb)⟩)
  clear hI3 hO3
  obtain ⟨ga, hga⟩ : ∃ q, q = w1.heap.size := ⟨_, rfl⟩
  obtain ⟨gx, hgx⟩ : ∃ q, q = w1.heap.size + 1 := ⟨_, rfl⟩
  rw [← hgx, ← hga] at XS ⊢
  clear hga hgx hbl
  have q1 := eq_cell 97 0 0 false false false
  have q2 := eq_cell 120 0 0 false false false
  have A1 := Aside0.mk (show ∀ W, IsGrid W g b 2 2 cs3 → Calls Try.prog 18 #[.pointer (some ⟨g, 0, none⟩), .int .i64 0, .int .i64 0] W (fun r w' => r = .returned (.agg #[.int .i32 97, .int .i64 0, .int .i64 0, .bool false, .bool false, .bool false]) ∧ Below W.heap.size W w') from fun W h => at_in g b 2 2 0 0 cs3 cA W h (by rfl) (by rfl))
  have A2 := Aside0.mk (show ∀ W, IsGrid W g b 2 2 cs3 → Calls Try.prog 18 #[.pointer (some ⟨g, 0, none⟩), .int .i64 1, .int .i64 0] W (fun r w' => r = .returned (.agg #[.int .i32 120, .int .i64 0, .int .i64 0, .bool false, .bool false, .bool false]) ∧ Below W.heap.size W w') from fun W h => at_in g b 2 2 1 0 cs3 cX W h (by rfl) (by rfl))
  have A3 := Aside0.mk (show ∀ W, IsGrid W g b 2 2 cs3 → Calls Try.prog 18 #[.pointer (some ⟨g, 0, none⟩), .int .i64 0, .int .i64 1] W (fun r w' => r = .returned (.agg #[.int .i32 120, .int .i64 0, .int .i64 0, .bool false, .bool false, .bool false]) ∧ Below W.heap.size W w') from fun W h => at_in g b 2 2 0 1 cs3 cX W h (by rfl) (by rfl))
  go_wp2_with fail
  have XP0 := Aside0.mk (show Al w g b ga gx w3.drew from ⟨XS.out.i, XS.out.a, XS.out.x, below_drew XS.out.b⟩)
  refine wp_region_held_drew (S := Al w g b ga gx) (by kernel_rfl) (by exact XP0.out) (fun hHeld => ?_)
  refine takeH (i := 0) (d := 19) (v := (.int .i64 2)) rfl rfl (by kernel_rfl) (by kernel_rfl) (by kernel_rfl) (fun _ _ _ h => h) (Or.inl ⟨by kernel_rfl, by intro w hSw; (try dsimp only at hSw); go_simp; done⟩) (by assumption) ?_
  try simp only [List.setIfInBounds_toArray, List.set_cons_zero, List.set_cons_succ]
  refine takeH (i := 1) (d := 20) (v := (.bool true)) rfl rfl (by kernel_rfl) (by kernel_rfl) (by kernel_rfl) (fun _ _ _ h => h) (Or.inl ⟨by kernel_rfl, by intro w hSw; (try dsimp only at hSw); go_simp; done⟩) (by assumption) ?_
  try simp only [List.setIfInBounds_toArray, List.set_cons_zero, List.set_cons_succ]
  refine takeH (i := 2) (d := 21) (v := (.bool true)) rfl rfl (by kernel_rfl) (by kernel_rfl) (by kernel_rfl) (fun _ _ _ h => h) (Or.inl ⟨by kernel_rfl, by intro w hSw; (try dsimp only at hSw); go_simp; done⟩) (by assumption) ?_
  try simp only [List.setIfInBounds_toArray, List.set_cons_zero, List.set_cons_succ]
  refine takeH (i := 3) (d := 22) (v := (.pointer (some ⟨g, 0, none⟩))) rfl rfl (by kernel_rfl) (by kernel_rfl) (by kernel_rfl) (fun _ _ _ h => h) (Or.inl ⟨by kernel_rfl, by intro w hSw; (try dsimp only at hSw); go_simp; done⟩) (by assumption) ?_
  try simp only [List.setIfInBounds_toArray, List.set_cons_zero, List.set_cons_succ]
  refine takeH (i := 5) (d := 24) (v := (.agg #[.int .i32 97, .int .i64 0, .int .i64 0, .bool false, .bool false, .bool false])) rfl rfl (by kernel_rfl) (by kernel_rfl) (by kernel_rfl) (fun _ _ _ h => h) (Or.inl ⟨by kernel_rfl, by intro w hSw; (try dsimp only at hSw); have hq := hSw.a; have c0 := blk_cell hq 0; have c1 := blk_cell hq 1; have c2 := blk_cell hq 2; have c3 := blk_cell hq 3; have c4 := blk_cell hq 4; have c5 := blk_cell hq 5; simp only [List.getElem?_toArray, List.getElem?_cons_zero, List.getElem?_cons_succ] at c0 c1 c2 c3 c4 c5; clear hq; go_simp; done⟩) (by assumption) ?_
  try simp only [List.setIfInBounds_toArray, List.set_cons_zero, List.set_cons_succ]
  refine wpAnyH_ready (rs := [4]) (by kernel_rfl) (by simp) ?_
  refine AllReadyH.cons (o := { dst := some 23, op := Op.call { callee := Callee.value (Operand.func 18), args := #[Operand.tmp 22, Operand.const (Value.int IntKind.i64 0), Operand.const (Value.int IntKind.i64 0)], argTypes := #[27, 3, 3] }, type := 25, pos := "law.go:28", after := #[{ on := 3, ground := Ground.data }, { on := 2, ground := Ground.chain }, { on := 2, ground := Ground.guard }], guard := some (2, true) }) rfl (fun K hK => ?_) AllReadyH.nil
  rw [if_pos (by kernel_rfl)]
  go_simp
  refine (A1.out _ XP0.out.i).mono ?_
  rintro e4 w4 ⟨rfl, hbk⟩
  have XP1 := Aside0.mk (XP0.out.below hbk)
  clear hbk hHeld
  refine hK.out _ _ (XP1.out) (fun hHeld => ?_)
  clear hK K
  try simp only [Act.put, List.setIfInBounds_toArray, List.set_cons_zero, List.set_cons_succ]
  refine takeH (i := 6) (d := 25) (v := (.bool true)) rfl rfl (by kernel_rfl) (by kernel_rfl) (by kernel_rfl) (fun _ _ _ h => h) (Or.inl ⟨by kernel_rfl, by intro w hSw; (try dsimp only at hSw); go_simp; done⟩) (by assumption) ?_
  try simp only [List.setIfInBounds_toArray, List.set_cons_zero, List.set_cons_succ]
  refine takeH (i := 7) (d := 26) (v := (.bool true)) rfl rfl (by kernel_rfl) (by kernel_rfl) (by kernel_rfl) (fun _ _ _ h => h) (Or.inl ⟨by kernel_rfl, by intro w hSw; (try dsimp only at hSw); go_simp; done⟩) (by assumption) ?_
  try simp only [List.setIfInBounds_toArray, List.set_cons_zero, List.set_cons_succ]
  refine takeH (i := 8) (d := 27) (v := (.bool true)) rfl rfl (by kernel_rfl) (by kernel_rfl) (by kernel_rfl) (fun _ _ _ h => h) (Or.inl ⟨by kernel_rfl, by intro w hSw; (try dsimp only at hSw); go_simp; done⟩) (by assumption) ?_
  try simp only [List.setIfInBounds_toArray, List.set_cons_zero, List.set_cons_succ]
  refine takeH (i := 9) (d := 28) (v := (.pointer (some ⟨g, 0, none⟩))) rfl rfl (by kernel_rfl) (by kernel_rfl) (by kernel_rfl) (fun _ _ _ h => h) (Or.inl ⟨by kernel_rfl, by intro w hSw; (try dsimp only at hSw); go_simp; done⟩) (by assumption) ?_
  try simp only [List.setIfInBounds_toArray, List.set_cons_zero, List.set_cons_succ]
  refine takeH (i := 11) (d := 30) (v := (.agg #[.int .i32 120, .int .i64 0, .int .i64 0, .bool false, .bool false, .bool false])) rfl rfl (by kernel_rfl) (by kernel_rfl) (by kernel_rfl) (fun _ _ _ h => h) (Or.inl ⟨by kernel_rfl, by intro w hSw; (try dsimp only at hSw); have hq := hSw.x; have c0 := blk_cell hq 0; have c1 := blk_cell hq 1; have c2 := blk_cell hq 2; have c3 := blk_cell hq 3; have c4 := blk_cell hq 4; have c5 := blk_cell hq 5; simp only [List.getElem?_toArray, List.getElem?_cons_zero, List.getElem?_cons_succ] at c0 c1 c2 c3 c4 c5; clear hq; go_simp; done⟩) (by assumption) ?_
  try simp only [List.setIfInBounds_toArray, List.set_cons_zero, List.set_cons_succ]
  refine wpAnyH_ready (rs := [10]) (by kernel_rfl) (by simp) ?_
  refine AllReadyH.cons (o := { dst := some 29, op := Op.call { callee := Callee.value (Operand.func 18), args := #[Operand.tmp 28, Operand.const (Value.int IntKind.i64 1), Operand.const (Value.int IntKind.i64 0)], argTypes := #[27, 3, 3] }, type := 25, pos := "law.go:28", after := #[{ on := 9, ground := Ground.data }, { on := 8, ground := Ground.chain }, { on := 8, ground := Ground.guard }], guard := some (8, true) }) rfl (fun K hK => ?_) AllReadyH.nil
  rw [if_pos (by kernel_rfl)]
  go_simp
  refine (A2.out _ XP1.out.i).mono ?_
  rintro e5 w5 ⟨rfl, hbk⟩
  have XP2 := Aside0.mk (XP1.out.below hbk)
  clear hbk hHeld
  refine hK.out _ _ (XP2.out) (fun hHeld => ?_)
  clear hK K
  try simp only [Act.put, List.setIfInBounds_toArray, List.set_cons_zero, List.set_cons_succ]
  refine takeH (i := 12) (d := 31) (v := (.bool true)) rfl rfl (by kernel_rfl) (by kernel_rfl) (by kernel_rfl) (fun _ _ _ h => h) (Or.inl ⟨by kernel_rfl, by intro w hSw; (try dsimp only at hSw); go_simp; done⟩) (by assumption) ?_
  try simp only [List.setIfInBounds_toArray, List.set_cons_zero, List.set_cons_succ]
  refine takeH (i := 13) (d := 32) (v := (.bool true)) rfl rfl (by kernel_rfl) (by kernel_rfl) (by kernel_rfl) (fun _ _ _ h => h) (Or.inl ⟨by kernel_rfl, by intro w hSw; (try dsimp only at hSw); go_simp; done⟩) (by assumption) ?_
  try simp only [List.setIfInBounds_toArray, List.set_cons_zero, List.set_cons_succ]
  refine takeH (i := 14) (d := 33) (v := (.bool true)) rfl rfl (by kernel_rfl) (by kernel_rfl) (by kernel_rfl) (fun _ _ _ h => h) (Or.inl ⟨by kernel_rfl, by intro w hSw; (try dsimp only at hSw); go_simp; done⟩) (by assumption) ?_
  try simp only [List.setIfInBounds_toArray, List.set_cons_zero, List.set_cons_succ]
  refine takeH (i := 15) (d := 34) (v := (.pointer (some ⟨g, 0, none⟩))) rfl rfl (by kernel_rfl) (by kernel_rfl) (by kernel_rfl) (fun _ _ _ h => h) (Or.inl ⟨by kernel_rfl, by intro w hSw; (try dsimp only at hSw); go_simp; done⟩) (by assumption) ?_
  try simp only [List.setIfInBounds_toArray, List.set_cons_zero, List.set_cons_succ]
  refine takeH (i := 17) (d := 36) (v := (.agg #[.int .i32 120, .int .i64 0, .int .i64 0, .bool false, .bool false, .bool false])) rfl rfl (by kernel_rfl) (by kernel_rfl) (by kernel_rfl) (fun _ _ _ h => h) (Or.inl ⟨by kernel_rfl, by intro w hSw; (try dsimp only at hSw); have hq := hSw.x; have c0 := blk_cell hq 0; have c1 := blk_cell hq 1; have c2 := blk_cell hq 2; have c3 := blk_cell hq 3; have c4 := blk_cell hq 4; have c5 := blk_cell hq 5; simp only [List.getElem?_toArray, List.getElem?_cons_zero, List.getElem?_cons_succ] at c0 c1 c2 c3 c4 c5; clear hq; go_simp; done⟩) (by assumption) ?_
  try simp only [List.setIfInBounds_toArray, List.set_cons_zero, List.set_cons_succ]
  refine wpAnyH_ready (rs := [16]) (by kernel_rfl) (by simp) ?_
  refine AllReadyH.cons (o := { dst := some 35, op := Op.call { callee := Callee.value (Operand.func 18), args := #[Operand.tmp 34, Operand.const (Value.int IntKind.i64 0), Operand.const (Value.int IntKind.i64 1)], argTypes := #[27, 3, 3] }, type := 25, pos := "law.go:28", after := #[{ on := 15, ground := Ground.data }, { on := 14, ground := Ground.chain }, { on := 14, ground := Ground.guard }], guard := some (14, true) }) rfl (fun K hK => ?_) AllReadyH.nil
  rw [if_pos (by kernel_rfl)]
  go_simp
  refine (A3.out _ XP2.out.i).mono ?_
  rintro e6 w6 ⟨rfl, hbk⟩
  have XP3 := Aside0.mk (XP2.out.below hbk)
  clear hbk hHeld
  refine hK.out _ _ (XP3.out) (fun hHeld => ?_)
  clear hK K
  try simp only [Act.put, List.setIfInBounds_toArray, List.set_cons_zero, List.set_cons_succ]
  refine takeH (i := 18) (d := 37) (v := (.bool true)) rfl rfl (by kernel_rfl) (by kernel_rfl) (by kernel_rfl) (fun _ _ _ h => h) (Or.inl ⟨by kernel_rfl, by intro w hSw; (try dsimp only at hSw); go_simp; done⟩) (by assumption) ?_
  try simp only [List.setIfInBounds_toArray, List.set_cons_zero, List.set_cons_succ]
  refine takeH (i := 19) (d := 38) (v := (.bool true)) rfl rfl (by kernel_rfl) (by kernel_rfl) (by kernel_rfl) (fun _ _ _ h => h) (Or.inl ⟨by kernel_rfl, by intro w hSw; (try dsimp only at hSw); go_simp; done⟩) (by assumption) ?_
  try simp only [List.setIfInBounds_toArray, List.set_cons_zero, List.set_cons_succ]
  refine takeH (i := 20) (d := 39) (v := (.bool true)) rfl rfl (by kernel_rfl) (by kernel_rfl) (by kernel_rfl) (fun _ _ _ h => h) (Or.inl ⟨by kernel_rfl, by intro w hSw; (try dsimp only at hSw); go_simp; done⟩) (by assumption) ?_
  try simp only [List.setIfInBounds_toArray, List.set_cons_zero, List.set_cons_succ]
  refine takeH (i := 21) (d := 40) (v := (.pointer (some ⟨g, 0, none⟩))) rfl rfl (by kernel_rfl) (by kernel_rfl) (by kernel_rfl) (fun _ _ _ h => h) (Or.inl ⟨by kernel_rfl, by intro w hSw; (try dsimp only at hSw); go_simp; done⟩) (by assumption) ?_
  try simp only [List.setIfInBounds_toArray, List.set_cons_zero, List.set_cons_succ]
  refine wpAnyH_ready (rs := [22]) (by kernel_rfl) (by simp) ?_
  refine AllReadyH.cons (o := { dst := some 41, op := Op.call { callee := Callee.value (Operand.func 15), args := #[Operand.tmp 40], argTypes := #[27] }, type := 3, pos := "law.go:28", after := #[{ on := 21, ground := Ground.data }, { on := 20, ground := Ground.chain }, { on := 20, ground := Ground.guard }], guard := some (20, true) }) rfl (fun K hK => ?_) AllReadyH.nil
  rw [if_pos (by kernel_rfl)]
  go_simp
  refine (w_calls g b 2 2 cs3 _ XP3.out.i).mono ?_
  rintro e wq ⟨rfl, rfl⟩
  clear hHeld
  refine hK.out _ _ (XP3.out) (fun hHeld => ?_)
  clear hK K
  try simp only [Act.put, List.setIfInBounds_toArray, List.set_cons_zero, List.set_cons_succ]
  refine takeH (i := 23) (d := 42) (v := (.bool true)) rfl rfl (by kernel_rfl) (by kernel_rfl) (by kernel_rfl) (fun _ _ _ h => h) (Or.inl ⟨by kernel_rfl, by intro w hSw; (try dsimp only at hSw); go_simp; done⟩) (by assumption) ?_
  try simp only [List.setIfInBounds_toArray, List.set_cons_zero, List.set_cons_succ]
  refine takeH (i := 24) (d := 43) (v := (.bool true)) rfl rfl (by kernel_rfl) (by kernel_rfl) (by kernel_rfl) (fun _ _ _ h => h) (Or.inl ⟨by kernel_rfl, by intro w hSw; (try dsimp only at hSw); go_simp; done⟩) (by assumption) ?_
  try simp only [List.setIfInBounds_toArray, List.set_cons_zero, List.set_cons_succ]
  refine takeH (i := 25) (d := 44) (v := (.bool true)) rfl rfl (by kernel_rfl) (by kernel_rfl) (by kernel_rfl) (fun _ _ _ h => h) (Or.inl ⟨by kernel_rfl, by intro w hSw; (try dsimp only at hSw); go_simp; done⟩) (by assumption) ?_
  try simp only [List.setIfInBounds_toArray, List.set_cons_zero, List.set_cons_succ]
  refine takeH (i := 26) (d := 45) (v := (.pointer (some ⟨g, 0, none⟩))) rfl rfl (by kernel_rfl) (by kernel_rfl) (by kernel_rfl) (fun _ _ _ h => h) (Or.inl ⟨by kernel_rfl, by intro w hSw; (try dsimp only at hSw); go_simp; done⟩) (by assumption) ?_
  try simp only [List.setIfInBounds_toArray, List.set_cons_zero, List.set_cons_succ]
  refine wpAnyH_ready (rs := [27]) (by kernel_rfl) (by simp) ?_
  refine AllReadyH.cons (o := { dst := some 46, op := Op.call { callee := Callee.value (Operand.func 16), args := #[Operand.tmp 45], argTypes := #[27] }, type := 3, pos := "law.go:28", after := #[{ on := 26, ground := Ground.data }, { on := 25, ground := Ground.chain }, { on := 25, ground := Ground.guard }], guard := some (25, true) }) rfl (fun K hK => ?_) AllReadyH.nil
  rw [if_pos (by kernel_rfl)]
  go_simp
  refine (h_calls g b 2 2 cs3 _ XP3.out.i).mono ?_
  rintro e wq ⟨rfl, rfl⟩
  clear hHeld
  refine hK.out _ _ (XP3.out) (fun hHeld => ?_)
  clear hK K
  try simp only [Act.put, List.setIfInBounds_toArray, List.set_cons_zero, List.set_cons_succ]
  refine takeH (i := 28) (d := 47) (v := (.bool true)) rfl rfl (by kernel_rfl) (by kernel_rfl) (by kernel_rfl) (fun _ _ _ h => h) (Or.inl ⟨by kernel_rfl, by intro w hSw; (try dsimp only at hSw); go_simp; done⟩) (by assumption) ?_
  try simp only [List.setIfInBounds_toArray, List.set_cons_zero, List.set_cons_succ]
  refine takeH (i := 29) (d := 48) (v := (.bool true)) rfl rfl (by kernel_rfl) (by kernel_rfl) (by kernel_rfl) (fun _ _ _ h => h) (Or.inl ⟨by kernel_rfl, by intro w hSw; (try dsimp only at hSw); go_simp; done⟩) (by assumption) ?_
  try simp only [List.setIfInBounds_toArray, List.set_cons_zero, List.set_cons_succ]
  refine takeH (i := 30) (d := 0) (v := (.bool true)) rfl rfl (by kernel_rfl) (by kernel_rfl) (by kernel_rfl) (fun _ _ _ h => h) (Or.inl ⟨by kernel_rfl, by intro w hSw; (try dsimp only at hSw); go_simp; done⟩) (by assumption) ?_
  try simp only [List.setIfInBounds_toArray, List.set_cons_zero, List.set_cons_succ]
  refine wpAnyH_done (by kernel_rfl) ?_ _
  have HBf := Aside0.mk XP3.out.b
  clear hHeld q1 q2
  go_wp2
  go_ret
  exact ⟨rfl, HBf.out⟩
end Go.Proofs.Ytcmmdllnbijipaa.Grd
