/- What the calls of package down come to. Conditions: those in each theorem. -/
import Derived.Test.YtjjjinpmflghmaaCodP
import Derived.Test.YtjjjinpmflghmaaPDownCutx1
import Derived.OpenShut
namespace Go.Proofs.Ytjjjinpmflghmaa.Obj
open Go.RowKit Go.Proofs.YtjjjinpmflghmaaW.PrintWords Go.Proofs.YtjjjinpmflghmaaW.PrintMore Go.Proofs.Ytjjjinpmflghmaa.PDownCut
set_option linter.unusedVariables false
set_option linter.unusedSimpArgs false

/-- May the message be? -/
def dVal (b t g : Int) (p : ByteArray) : Bool := decide (0 ≤ b) && decide (b ≤ t) && decide (t ≤ 4611686018427387904) && decide (0 ≤ g) && decide (g ≤ 4611686018427387904) && (decide (b < t) || decide (p.size = 0)) && decide (p.size ≤ 18000)
theorem toList_nil (p : ByteArray) : (p.toList = ([] : List UInt8)) ↔ p.size = 0 := by
  rw [ByteArray.toList_eq]
  have : p.data.toList.length = p.size := by rw [Array.length_toList]; rfl
  rw [← List.length_eq_zero_iff, this]
theorem valid_f (b t g : Int) (p : ByteArray) : down_Valid.f b t g p = some (dVal b t g p) := by
  unfold down_Valid.f dVal
  have h6 : ((p.size : Int) ≤ 18000) ↔ p.size ≤ 18000 := by omega
  simp only [toList_nil, h6, ge_iff_le]
  by_cases h1 : 0 ≤ b
  · by_cases h2 : b ≤ t
    · by_cases h3 : t ≤ 4611686018427387904
      · by_cases h4 : 0 ≤ g
        · by_cases h5 : g ≤ 4611686018427387904
          · by_cases h7 : b < t
            · simp [h1, h2, h3, h4, h5, h7]
            · by_cases h8 : p.size = 0
              · simp [h1, h2, h3, h4, h5, h7, h8]
              · simp [h1, h2, h3, h4, h5, h7, h8]
          · simp [h1, h2, h3, h4, h5]
        · simp [h1, h2, h3, h4]
      · simp [h1, h2, h3]
    · simp [h1, h2]
  · simp [h1]
theorem valid_calls (b t g : Int) (p : ByteArray) (w : World) :
    Calls Try.prog 19 #[.agg #[.int .i64 b, .int .i64 t, .int .i64 g, .string p]] w fun e w' => e = .returned (.bool (dVal b t g p)) ∧ Below w.heap.size w w' :=
  down_Valid.calls b t g p _ w (valid_f b t g p)
/-- The bytes of a message. -/
def dLay (b t g : Int) (p : ByteArray) : List Int := numB b.toNat ++ numB t.toNat ++ numB g.toNat ++ bytesOf p
theorem takeH {P : Program} {md : Region.Mode} {ops : Array Oper} {Q : Exit → Act → World → Prop} {S : World → Prop} {i d : Nat} {oi : Oper} {v : Value} {fuel : Nat} {listed : Array Bool} {a : Act} {w : World} (hi : ops[i]? = some oi) (hd : oi.dst = some d)
    (hs : Region.noSelect ops = true) (hf : Region.free md ops listed i = true) (hr : (Region.ready md ops listed).contains i = true)
    (hQ : ∀ c a w, Q (.panic c) (a.put oi.dst v) w → Q (.panic c) a w) (hy : YieldsIf P ops S oi v a) (hS : S w)
    (h : wpAnyH P md ops Q S fuel (listed.setIfInBounds i true) { a with tmps := a.tmps.setIfInBounds d v } w) : wpAnyH P md ops Q S (fuel + 1) listed a w :=
  wpAnyH_take hi hs hf hr hQ hy hS (by rw [hd]; exact h)
theorem IsOut.newAt {B : Nat} (w : World) (g : Nat) (hg : g = w.heap.size) : IsOut B (w.alloc (.cells #[.slice none 0 0, .int .i64 0] 112)) g [] 0 := by subst hg; exact IsOut.new w
theorem RowAt.litAt (w : World) (t : TypeId) (vs : List Value) (p : Nat) (hp : p = w.heap.size) (hm : vs.length ≤ maxLen) : RowAt (w.alloc (.cells vs.toArray t)) (some ⟨p, 0, none⟩) t vs := by subst hp; exact RowAt.lit w t vs hm
theorem num3g (B g p : Nat) (x y z : Int) (w : World) (hO : IsOut B w g [] 0) (hB : B ≤ w.heap.size) (hr : RowAt w (some ⟨p, 0, none⟩) 3 [.int .i64 x, .int .i64 y, .int .i64 z]) (h0 : 0 ≤ x ∧ 0 ≤ y ∧ 0 ≤ z) (hx : x ≤ 9223372036854775807) (hy : y ≤ 9223372036854775807) (hz : z ≤ 9223372036854775807) :
    Calls Try.prog 55 #[.pointer (some ⟨g, 0, none⟩), .slice (some ⟨p, 0, none⟩) 3 3] w fun r w' => r = .returned (.pointer (some ⟨g, 0, none⟩)) ∧ IsOut B w' g (numB x.toNat ++ numB y.toNat ++ numB z.toNat) 0 ∧ Fr B g w w' := by
  have := num_calls B g [] 0 (some ⟨p, 0, none⟩) 3 [x, y, z] w hO hB hr (by simp) (by simpa using ⟨hx, hy, hz⟩)
  rw [oNum_ok _ _ (by simpa using h0)] at this
  simpa using this
theorem raw1g (B g p : Nat) (bs : List Int) (x : ByteArray) (w : World) (hO : IsOut B w g bs 0) (hB : B ≤ w.heap.size) (hr : RowAt w (some ⟨p, 0, none⟩) 9 [.string x]) (hl : bs.length + x.size ≤ 1000000000000) :
    Calls Try.prog 56 #[.pointer (some ⟨g, 0, none⟩), .slice (some ⟨p, 0, none⟩) 1 1] w fun r w' => r = .returned (.pointer (some ⟨g, 0, none⟩)) ∧ IsOut B w' g (bs ++ bytesOf x) 0 ∧ Fr B g w w' := by
  have := raw_calls B g bs 0 (some ⟨p, 0, none⟩) 1 [x] w hO hB hr (by simpa [sumS] using hl)
  rw [oRaw_ok] at this
  simpa using this
set_option maxHeartbeats 4000000 in
set_option maxRecDepth 100000 in
theorem lay_ok (b t g : Int) (p : ByteArray) (w : World) (hv : dVal b t g p = true) :
    Calls Try.prog 17 #[.agg #[.int .i64 b, .int .i64 t, .int .i64 g, .string p]] w fun e w' => e = .returned (.tuple #[.string (strOfNums (dLay b t g p)), .int .i64 0]) ∧ Below w.heap.size w w' := by
  have hu := Try.underlying47
  have hv' := hv
  simp only [dVal, Bool.and_eq_true, decide_eq_true_eq] at hv'
  obtain ⟨⟨⟨⟨⟨⟨h1, h2⟩, h3⟩, h4⟩, h5⟩, _⟩, h6⟩ := hv'
  go_enter Try.func17, Try.ntmps17
  go_wp2_with fail
  refine (valid_calls b t g p _).mono ?_
  rw [hv]
  rintro e0 w0 ⟨rfl, hb0⟩
  have hm := blk_below (blk_new w (.cells #[.int .i64 b, .int .i64 t, .int .i64 g, .string p] 47)) hb0
  have hs0 : w.heap.size + 1 ≤ w0.heap.size := by have := hb0.size; simpa using this
  have HB0 := Aside0.mk (below_step (below_alloc (Below.refl _ w) (.cells #[.int .i64 b, .int .i64 t, .int .i64 g, .string p] 47)) hb0)
  have HM0 := Aside0.mk hm
  clear hb0 hm
  have hl1 := numB_len9 (v := b.toNat) (by omega)
  have hl2 := numB_len9 (v := t.toNat) (by omega)
  have hl3 := numB_len9 (v := g.toNat) (by omega)
  have XB0 := Aside0.mk (below_drew HB0.out)
  have XM0 := Aside0.mk (show w0.drew.heap[w.heap.size]? = some (.cells #[.int .i64 b, .int .i64 t, .int .i64 g, .string p] 47 (0, 0)) from HM0.out)
  go_wp2_with fail
  refine wp_region_held_drew (S := fun w' => w'.heap[w.heap.size]? = some (.cells #[.int .i64 b, .int .i64 t, .int .i64 g, .string p] 47 (0, 0))) (by kernel_rfl) (by exact XM0.out) (fun hHeld => ?_)
  refine takeH (i := 0) (d := 7) (v := (.agg #[.slice none 0 0, .int .i64 0])) rfl rfl (by kernel_rfl) (by kernel_rfl) (by kernel_rfl) (fun _ _ _ h => h) (Or.inl ⟨by kernel_rfl, by intro w hSw; (try dsimp only at hSw); go_simp; done⟩) (by assumption) ?_
  try simp only [List.setIfInBounds_toArray, List.set_cons_zero, List.set_cons_succ]
  refine takeH (i := 2) (d := 9) (v := (.pointer (some ⟨w.heap.size, 0, none⟩))) rfl rfl (by kernel_rfl) (by kernel_rfl) (by kernel_rfl) (fun _ _ _ h => h) (Or.inl ⟨by kernel_rfl, by intro w hSw; (try dsimp only at hSw); go_simp; done⟩) (by assumption) ?_
  try simp only [List.setIfInBounds_toArray, List.set_cons_zero, List.set_cons_succ]
  refine takeH (i := 3) (d := 10) (v := (.int .i64 b)) rfl rfl (by kernel_rfl) (by kernel_rfl) (by kernel_rfl) (fun _ _ _ h => h) (Or.inl ⟨by kernel_rfl, by intro w hSw; (try dsimp only at hSw); have hq := hSw; have c0 := blk_cell hq 0; have c1 := blk_cell hq 1; have c2 := blk_cell hq 2; have c3 := blk_cell hq 3; simp only [List.getElem?_toArray, List.getElem?_cons_zero, List.getElem?_cons_succ] at c0 c1 c2 c3; clear hq; go_simp; done⟩) (by assumption) ?_
  try simp only [List.setIfInBounds_toArray, List.set_cons_zero, List.set_cons_succ]
  refine takeH (i := 4) (d := 11) (v := (.pointer (some ⟨w.heap.size, 1, none⟩))) rfl rfl (by kernel_rfl) (by kernel_rfl) (by kernel_rfl) (fun _ _ _ h => h) (Or.inl ⟨by kernel_rfl, by intro w hSw; (try dsimp only at hSw); go_simp; done⟩) (by assumption) ?_
  try simp only [List.setIfInBounds_toArray, List.set_cons_zero, List.set_cons_succ]
  refine takeH (i := 5) (d := 12) (v := (.int .i64 t)) rfl rfl (by kernel_rfl) (by kernel_rfl) (by kernel_rfl) (fun _ _ _ h => h) (Or.inl ⟨by kernel_rfl, by intro w hSw; (try dsimp only at hSw); have hq := hSw; have c0 := blk_cell hq 0; have c1 := blk_cell hq 1; have c2 := blk_cell hq 2; have c3 := blk_cell hq 3; simp only [List.getElem?_toArray, List.getElem?_cons_zero, List.getElem?_cons_succ] at c0 c1 c2 c3; clear hq; go_simp; done⟩) (by assumption) ?_
  try simp only [List.setIfInBounds_toArray, List.set_cons_zero, List.set_cons_succ]
  refine takeH (i := 6) (d := 13) (v := (.pointer (some ⟨w.heap.size, 2, none⟩))) rfl rfl (by kernel_rfl) (by kernel_rfl) (by kernel_rfl) (fun _ _ _ h => h) (Or.inl ⟨by kernel_rfl, by intro w hSw; (try dsimp only at hSw); go_simp; done⟩) (by assumption) ?_
  try simp only [List.setIfInBounds_toArray, List.set_cons_zero, List.set_cons_succ]
  refine takeH (i := 7) (d := 14) (v := (.int .i64 g)) rfl rfl (by kernel_rfl) (by kernel_rfl) (by kernel_rfl) (fun _ _ _ h => h) (Or.inl ⟨by kernel_rfl, by intro w hSw; (try dsimp only at hSw); have hq := hSw; have c0 := blk_cell hq 0; have c1 := blk_cell hq 1; have c2 := blk_cell hq 2; have c3 := blk_cell hq 3; simp only [List.getElem?_toArray, List.getElem?_cons_zero, List.getElem?_cons_succ] at c0 c1 c2 c3; clear hq; go_simp; done⟩) (by assumption) ?_
  try simp only [List.setIfInBounds_toArray, List.set_cons_zero, List.set_cons_succ]
  refine takeH (i := 10) (d := 17) (v := (.pointer (some ⟨w.heap.size, 3, none⟩))) rfl rfl (by kernel_rfl) (by kernel_rfl) (by kernel_rfl) (fun _ _ _ h => h) (Or.inl ⟨by kernel_rfl, by intro w hSw; (try dsimp only at hSw); go_simp; done⟩) (by assumption) ?_
  try simp only [List.setIfInBounds_toArray, List.set_cons_zero, List.set_cons_succ]
  refine takeH (i := 11) (d := 18) (v := (.string p)) rfl rfl (by kernel_rfl) (by kernel_rfl) (by kernel_rfl) (fun _ _ _ h => h) (Or.inl ⟨by kernel_rfl, by intro w hSw; (try dsimp only at hSw); have hq := hSw; have c0 := blk_cell hq 0; have c1 := blk_cell hq 1; have c2 := blk_cell hq 2; have c3 := blk_cell hq 3; simp only [List.getElem?_toArray, List.getElem?_cons_zero, List.getElem?_cons_succ] at c0 c1 c2 c3; clear hq; go_simp; done⟩) (by assumption) ?_
  try simp only [List.setIfInBounds_toArray, List.set_cons_zero, List.set_cons_succ]
  refine wpAnyH_ready (rs := [1, 8, 12]) (by kernel_rfl) (by simp) ?_
  refine AllReadyH.cons (o := { dst := some 8, op := Op.box 112 (Operand.tmp 7), type := 109, pos := "down.go:31", after := #[{ on := 0, ground := Ground.data }], guard := none }) rfl (fun K hK => ?_) (AllReadyH.cons (o := { dst := some 15, op := Op.buildSlice 91 3 #[(0, Operand.tmp 10), (1, Operand.tmp 12), (2, Operand.tmp 14)], type := 91, pos := "down.go:31", after := #[{ on := 3, ground := Ground.data }, { on := 5, ground := Ground.data }, { on := 7, ground := Ground.data }], guard := none }) rfl (fun K hK => ?_) (AllReadyH.cons (o := { dst := some 19, op := Op.buildSlice 90 1 #[(0, Operand.tmp 18)], type := 90, pos := "down.go:31", after := #[{ on := 11, ground := Ground.data }], guard := none }) rfl (fun K hK => ?_) AllReadyH.nil))
  · rw [if_pos (by kernel_rfl)]
    go_simp
    clear hHeld
    have X1 := Aside0.mk (below_alloc XB0.out (.cells #[.slice none 0 0, .int .i64 0] 112))
    have X2 := Aside0.mk (blk_alloc XM0.out (.cells #[.slice none 0 0, .int .i64 0] 112))
    have X3 := Aside0.mk (IsOut.newAt (B := w.heap.size + 1) w0.drew (w0.heap.size) (by simp))
    refine hK.out _ _ (X2.out) (fun hHeld => ?_)
    clear hK K
    try simp only [Act.put, List.setIfInBounds_toArray, List.set_cons_zero, List.set_cons_succ]
    refine wpAnyH_ready (rs := [8, 12]) (by kernel_rfl) (by simp) ?_
    refine AllReadyH.cons (o := { dst := some 15, op := Op.buildSlice 91 3 #[(0, Operand.tmp 10), (1, Operand.tmp 12), (2, Operand.tmp 14)], type := 91, pos := "down.go:31", after := #[{ on := 3, ground := Ground.data }, { on := 5, ground := Ground.data }, { on := 7, ground := Ground.data }], guard := none }) rfl (fun K hK => ?_) (AllReadyH.cons (o := { dst := some 19, op := Op.buildSlice 90 1 #[(0, Operand.tmp 18)], type := 90, pos := "down.go:31", after := #[{ on := 11, ground := Ground.data }], guard := none }) rfl (fun K hK => ?_) AllReadyH.nil)
    · rw [if_pos (by kernel_rfl)]
      go_simp
      clear hHeld
      have X4 := Aside0.mk (below_alloc X1.out (.cells #[.int .i64 b, .int .i64 t, .int .i64 g] 3))
      have X5 := Aside0.mk (blk_alloc X2.out (.cells #[.int .i64 b, .int .i64 t, .int .i64 g] 3))
      have X6 := Aside0.mk (X3.out.alloc (.cells #[.int .i64 b, .int .i64 t, .int .i64 g] 3))
      have X7 := Aside0.mk (RowAt.litAt (w0.drew.alloc (.cells #[.slice none 0 0, .int .i64 0] 112)) 3 [.int .i64 b, .int .i64 t, .int .i64 g] (w0.heap.size + 1) (by simp) (by simp [maxLen]))
      refine hK.out _ _ (X5.out) (fun hHeld => ?_)
      clear hK K
      try simp only [Act.put, List.setIfInBounds_toArray, List.set_cons_zero, List.set_cons_succ]
      refine wpAnyH_ready (rs := [9, 12]) (by kernel_rfl) (by simp) ?_
      refine AllReadyH.cons (o := { dst := some 16, op := Op.call { callee := Callee.value (Operand.func 55), args := #[Operand.tmp 8, Operand.tmp 15], argTypes := #[109, 91] }, type := 109, pos := "down.go:31", after := #[{ on := 1, ground := Ground.data }, { on := 8, ground := Ground.data }], guard := none }) rfl (fun K hK => ?_) (AllReadyH.cons (o := { dst := some 19, op := Op.buildSlice 90 1 #[(0, Operand.tmp 18)], type := 90, pos := "down.go:31", after := #[{ on := 11, ground := Ground.data }], guard := none }) rfl (fun K hK => ?_) AllReadyH.nil)
      · rw [if_pos (by kernel_rfl)]
        go_simp
        refine (num3g (w.heap.size + 1) (w0.heap.size) (w0.heap.size + 1) b t g _ X6.out (by first | omega | (simp; omega)) X7.out ⟨h1, by omega, h4⟩ (by omega) (by omega) (by omega)).mono ?_
        rintro e8 w8 ⟨rfl, hO8, hF8⟩
        have X9 := Aside0.mk (X4.out.trans ((hF8.toBelow (by first | omega | (simp; omega)) (by first | omega | (simp; omega))).mono (by omega)))
        have X10 := Aside0.mk ((hF8.low _ (by first | omega | (simp; omega)) (by first | omega | (simp; omega)) (by first | omega | (simp; omega))).trans X5.out)
        have hs8 := hF8.size
        (try simp at hs8)
        have X12 := Aside0.mk (hO8)
        clear hF8 hO8
        clear hHeld
        refine hK.out _ _ (X10.out) (fun hHeld => ?_)
        clear hK K
        try simp only [Act.put, List.setIfInBounds_toArray, List.set_cons_zero, List.set_cons_succ]
        refine wpAnyH_ready (rs := [12]) (by kernel_rfl) (by simp) ?_
        refine AllReadyH.cons (o := { dst := some 19, op := Op.buildSlice 90 1 #[(0, Operand.tmp 18)], type := 90, pos := "down.go:31", after := #[{ on := 11, ground := Ground.data }], guard := none }) rfl (fun K hK => ?_) AllReadyH.nil
        rw [if_pos (by kernel_rfl)]
        go_simp
        clear hHeld
        have X13 := Aside0.mk (below_alloc X9.out (.cells #[.string p] 9))
        have X14 := Aside0.mk (blk_alloc X10.out (.cells #[.string p] 9))
        have X15 := Aside0.mk (X12.out.alloc (.cells #[.string p] 9))
        have X16 := Aside0.mk (RowAt.litAt w8 9 [.string p] (w8.heap.size) (by simp) (by simp [maxLen]))
        refine hK.out _ _ (X14.out) (fun hHeld => ?_)
        clear hK K
        try simp only [Act.put, List.setIfInBounds_toArray, List.set_cons_zero, List.set_cons_succ]
        refine wpAnyH_ready (rs := [13]) (by kernel_rfl) (by simp) ?_
        refine AllReadyH.cons (o := { dst := some 20, op := Op.call { callee := Callee.value (Operand.func 56), args := #[Operand.tmp 16, Operand.tmp 19], argTypes := #[109, 90] }, type := 109, pos := "down.go:31", after := #[{ on := 9, ground := Ground.data }, { on := 12, ground := Ground.data }, { on := 9, ground := Ground.chain }], guard := none }) rfl (fun K hK => ?_) AllReadyH.nil
        rw [if_pos (by kernel_rfl)]
        go_simp
        refine (raw1g (w.heap.size + 1) (w0.heap.size) (w8.heap.size) _ p _ X15.out (by first | omega | (simp; omega)) X16.out (by simp; omega)).mono ?_
        rintro e17 w17 ⟨rfl, hO17, hF17⟩
        have X18 := Aside0.mk (X13.out.trans ((hF17.toBelow (by first | omega | (simp; omega)) (by first | omega | (simp; omega))).mono (by omega)))
        have X19 := Aside0.mk ((hF17.low _ (by first | omega | (simp; omega)) (by first | omega | (simp; omega)) (by first | omega | (simp; omega))).trans X14.out)
        have hs17 := hF17.size
        (try simp at hs17)
        have X21 := Aside0.mk (hO17)
        clear hF17 hO17
        clear hHeld
        refine hK.out _ _ (X19.out) (fun hHeld => ?_)
        clear hK K
        try simp only [Act.put, List.setIfInBounds_toArray, List.set_cons_zero, List.set_cons_succ]
        refine wpAnyH_ready (rs := [14]) (by kernel_rfl) (by simp) ?_
        refine AllReadyH.cons (o := { dst := some 21, op := Op.call { callee := Callee.value (Operand.func 57), args := #[Operand.tmp 20], argTypes := #[109] }, type := 50, pos := "down.go:31", after := #[{ on := 13, ground := Ground.data }, { on := 13, ground := Ground.chain }], guard := none }) rfl (fun K hK => ?_) AllReadyH.nil
        rw [if_pos (by kernel_rfl)]
        go_simp
        refine (end_ok (w.heap.size + 1) (w0.heap.size) _ _ X21.out).mono ?_
        rw [show numB b.toNat ++ numB t.toNat ++ numB g.toNat ++ bytesOf p = dLay b t g p from rfl]
        rintro e9 w9 ⟨rfl, rfl⟩
        clear hHeld
        refine hK.out _ _ (X19.out) (fun hHeld => ?_)
        clear hK K
        try simp only [Act.put, List.setIfInBounds_toArray, List.set_cons_zero, List.set_cons_succ]
        refine takeH (i := 15) (d := 22) (v := (.string (strOfNums (dLay b t g p)))) rfl rfl (by kernel_rfl) (by kernel_rfl) (by kernel_rfl) (fun _ _ _ h => h) (Or.inl ⟨by kernel_rfl, by intro w hSw; (try dsimp only at hSw); go_simp; done⟩) (by assumption) ?_
        try simp only [List.setIfInBounds_toArray, List.set_cons_zero, List.set_cons_succ]
        refine takeH (i := 16) (d := 23) (v := (.int .i64 0)) rfl rfl (by kernel_rfl) (by kernel_rfl) (by kernel_rfl) (fun _ _ _ h => h) (Or.inl ⟨by kernel_rfl, by intro w hSw; (try dsimp only at hSw); go_simp; done⟩) (by assumption) ?_
        try simp only [List.setIfInBounds_toArray, List.set_cons_zero, List.set_cons_succ]
        refine takeH (i := 17) (d := 2) (v := (.string (strOfNums (dLay b t g p)))) rfl rfl (by kernel_rfl) (by kernel_rfl) (by kernel_rfl) (fun _ _ _ h => h) (Or.inl ⟨by kernel_rfl, by intro w hSw; (try dsimp only at hSw); go_simp; done⟩) (by assumption) ?_
        try simp only [List.setIfInBounds_toArray, List.set_cons_zero, List.set_cons_succ]
        refine takeH (i := 18) (d := 3) (v := (.int .i64 0)) rfl rfl (by kernel_rfl) (by kernel_rfl) (by kernel_rfl) (fun _ _ _ h => h) (Or.inl ⟨by kernel_rfl, by intro w hSw; (try dsimp only at hSw); go_simp; done⟩) (by assumption) ?_
        try simp only [List.setIfInBounds_toArray, List.set_cons_zero, List.set_cons_succ]
        refine wpAnyH_done (by kernel_rfl) ?_ _
        go_wp2
        go_ret2
        exact ⟨rfl, X18.out⟩
      · rw [if_pos (by kernel_rfl)]
        go_simp
        clear hHeld
        have X22 := Aside0.mk (below_alloc X4.out (.cells #[.string p] 9))
        have X23 := Aside0.mk (blk_alloc X5.out (.cells #[.string p] 9))
        have X24 := Aside0.mk (X6.out.alloc (.cells #[.string p] 9))
        have X25 := Aside0.mk (X7.out.alloc (.cells #[.string p] 9))
        have X26 := Aside0.mk (RowAt.litAt ((w0.drew.alloc (.cells #[.slice none 0 0, .int .i64 0] 112)).alloc (.cells #[.int .i64 b, .int .i64 t, .int .i64 g] 3)) 9 [.string p] (w0.heap.size + 1 + 1) (by simp) (by simp [maxLen]))
        refine hK.out _ _ (X23.out) (fun hHeld => ?_)
        clear hK K
        try simp only [Act.put, List.setIfInBounds_toArray, List.set_cons_zero, List.set_cons_succ]
        refine wpAnyH_ready (rs := [9]) (by kernel_rfl) (by simp) ?_
        refine AllReadyH.cons (o := { dst := some 16, op := Op.call { callee := Callee.value (Operand.func 55), args := #[Operand.tmp 8, Operand.tmp 15], argTypes := #[109, 91] }, type := 109, pos := "down.go:31", after := #[{ on := 1, ground := Ground.data }, { on := 8, ground := Ground.data }], guard := none }) rfl (fun K hK => ?_) AllReadyH.nil
        rw [if_pos (by kernel_rfl)]
        go_simp
        refine (num3g (w.heap.size + 1) (w0.heap.size) (w0.heap.size + 1) b t g _ X24.out (by first | omega | (simp; omega)) X25.out ⟨h1, by omega, h4⟩ (by omega) (by omega) (by omega)).mono ?_
        rintro e27 w27 ⟨rfl, hO27, hF27⟩
        have X28 := Aside0.mk (X22.out.trans ((hF27.toBelow (by first | omega | (simp; omega)) (by first | omega | (simp; omega))).mono (by omega)))
        have X29 := Aside0.mk ((hF27.low _ (by first | omega | (simp; omega)) (by first | omega | (simp; omega)) (by first | omega | (simp; omega))).trans X23.out)
        have X31 := Aside0.mk (RowAt.frame X26.out hF27 (by decide) (X24.out.ne (by decide)))
        have hs27 := hF27.size
        (try simp at hs27)
        have X32 := Aside0.mk (hO27)
        clear hF27 hO27
        clear hHeld
        refine hK.out _ _ (X29.out) (fun hHeld => ?_)
        clear hK K
        try simp only [Act.put, List.setIfInBounds_toArray, List.set_cons_zero, List.set_cons_succ]
        refine wpAnyH_ready (rs := [13]) (by kernel_rfl) (by simp) ?_
        refine AllReadyH.cons (o := { dst := some 20, op := Op.call { callee := Callee.value (Operand.func 56), args := #[Operand.tmp 16, Operand.tmp 19], argTypes := #[109, 90] }, type := 109, pos := "down.go:31", after := #[{ on := 9, ground := Ground.data }, { on := 12, ground := Ground.data }, { on := 9, ground := Ground.chain }], guard := none }) rfl (fun K hK => ?_) AllReadyH.nil
        rw [if_pos (by kernel_rfl)]
        go_simp
        refine (raw1g (w.heap.size + 1) (w0.heap.size) (w0.heap.size + 1 + 1) _ p _ X32.out (by first | omega | (simp; omega)) X31.out (by simp; omega)).mono ?_
        rintro e33 w33 ⟨rfl, hO33, hF33⟩
        have X34 := Aside0.mk (X28.out.trans ((hF33.toBelow (by first | omega | (simp; omega)) (by first | omega | (simp; omega))).mono (by omega)))
        have X35 := Aside0.mk ((hF33.low _ (by first | omega | (simp; omega)) (by first | omega | (simp; omega)) (by first | omega | (simp; omega))).trans X29.out)
        have hs33 := hF33.size
        (try simp at hs33)
        have X37 := Aside0.mk (hO33)
        clear hF33 hO33
        clear hHeld
        refine hK.out _ _ (X35.out) (fun hHeld => ?_)
        clear hK K
        try simp only [Act.put, List.setIfInBounds_toArray, List.set_cons_zero, List.set_cons_succ]
        refine wpAnyH_ready (rs := [14]) (by kernel_rfl) (by simp) ?_
        refine AllReadyH.cons (o := { dst := some 21, op := Op.call { callee := Callee.value (Operand.func 57), args := #[Operand.tmp 20], argTypes := #[109] }, type := 50, pos := "down.go:31", after := #[{ on := 13, ground := Ground.data }, { on := 13, ground := Ground.chain }], guard := none }) rfl (fun K hK => ?_) AllReadyH.nil
        rw [if_pos (by kernel_rfl)]
        go_simp
        refine (end_ok (w.heap.size + 1) (w0.heap.size) _ _ X37.out).mono ?_
        rw [show numB b.toNat ++ numB t.toNat ++ numB g.toNat ++ bytesOf p = dLay b t g p from rfl]
        rintro e9 w9 ⟨rfl, rfl⟩
        clear hHeld
        refine hK.out _ _ (X35.out) (fun hHeld => ?_)
        clear hK K
        try simp only [Act.put, List.setIfInBounds_toArray, List.set_cons_zero, List.set_cons_succ]
        refine takeH (i := 15) (d := 22) (v := (.string (strOfNums (dLay b t g p)))) rfl rfl (by kernel_rfl) (by kernel_rfl) (by kernel_rfl) (fun _ _ _ h => h) (Or.inl ⟨by kernel_rfl, by intro w hSw; (try dsimp only at hSw); go_simp; done⟩) (by assumption) ?_
        try simp only [List.setIfInBounds_toArray, List.set_cons_zero, List.set_cons_succ]
        refine takeH (i := 16) (d := 23) (v := (.int .i64 0)) rfl rfl (by kernel_rfl) (by kernel_rfl) (by kernel_rfl) (fun _ _ _ h => h) (Or.inl ⟨by kernel_rfl, by intro w hSw; (try dsimp only at hSw); go_simp; done⟩) (by assumption) ?_
        try simp only [List.setIfInBounds_toArray, List.set_cons_zero, List.set_cons_succ]
        refine takeH (i := 17) (d := 2) (v := (.string (strOfNums (dLay b t g p)))) rfl rfl (by kernel_rfl) (by kernel_rfl) (by kernel_rfl) (fun _ _ _ h => h) (Or.inl ⟨by kernel_rfl, by intro w hSw; (try dsimp only at hSw); go_simp; done⟩) (by assumption) ?_
        try simp only [List.setIfInBounds_toArray, List.set_cons_zero, List.set_cons_succ]
        refine takeH (i := 18) (d := 3) (v := (.int .i64 0)) rfl rfl (by kernel_rfl) (by kernel_rfl) (by kernel_rfl) (fun _ _ _ h => h) (Or.inl ⟨by kernel_rfl, by intro w hSw; (try dsimp only at hSw); go_simp; done⟩) (by assumption) ?_
        try simp only [List.setIfInBounds_toArray, List.set_cons_zero, List.set_cons_succ]
        refine wpAnyH_done (by kernel_rfl) ?_ _
        go_wp2
        go_ret2
        exact ⟨rfl, X34.out⟩
    · rw [if_pos (by kernel_rfl)]
      go_simp
      clear hHeld
      have X38 := Aside0.mk (below_alloc X1.out (.cells #[.string p] 9))
      have X39 := Aside0.mk (blk_alloc X2.out (.cells #[.string p] 9))
      have X40 := Aside0.mk (X3.out.alloc (.cells #[.string p] 9))
      have X41 := Aside0.mk (RowAt.litAt (w0.drew.alloc (.cells #[.slice none 0 0, .int .i64 0] 112)) 9 [.string p] (w0.heap.size + 1) (by simp) (by simp [maxLen]))
      refine hK.out _ _ (X39.out) (fun hHeld => ?_)
      clear hK K
      try simp only [Act.put, List.setIfInBounds_toArray, List.set_cons_zero, List.set_cons_succ]
      refine wpAnyH_ready (rs := [8]) (by kernel_rfl) (by simp) ?_
      refine AllReadyH.cons (o := { dst := some 15, op := Op.buildSlice 91 3 #[(0, Operand.tmp 10), (1, Operand.tmp 12), (2, Operand.tmp 14)], type := 91, pos := "down.go:31", after := #[{ on := 3, ground := Ground.data }, { on := 5, ground := Ground.data }, { on := 7, ground := Ground.data }], guard := none }) rfl (fun K hK => ?_) AllReadyH.nil
      rw [if_pos (by kernel_rfl)]
      go_simp
      clear hHeld
      have X42 := Aside0.mk (below_alloc X38.out (.cells #[.int .i64 b, .int .i64 t, .int .i64 g] 3))
      have X43 := Aside0.mk (blk_alloc X39.out (.cells #[.int .i64 b, .int .i64 t, .int .i64 g] 3))
      have X44 := Aside0.mk (X40.out.alloc (.cells #[.int .i64 b, .int .i64 t, .int .i64 g] 3))
      have X45 := Aside0.mk (X41.out.alloc (.cells #[.int .i64 b, .int .i64 t, .int .i64 g] 3))
      have X46 := Aside0.mk (RowAt.litAt ((w0.drew.alloc (.cells #[.slice none 0 0, .int .i64 0] 112)).alloc (.cells #[.string p] 9)) 3 [.int .i64 b, .int .i64 t, .int .i64 g] (w0.heap.size + 1 + 1) (by simp) (by simp [maxLen]))
      refine hK.out _ _ (X43.out) (fun hHeld => ?_)
      clear hK K
      try simp only [Act.put, List.setIfInBounds_toArray, List.set_cons_zero, List.set_cons_succ]
      refine wpAnyH_ready (rs := [9]) (by kernel_rfl) (by simp) ?_
      refine AllReadyH.cons (o := { dst := some 16, op := Op.call { callee := Callee.value (Operand.func 55), args := #[Operand.tmp 8, Operand.tmp 15], argTypes := #[109, 91] }, type := 109, pos := "down.go:31", after := #[{ on := 1, ground := Ground.data }, { on := 8, ground := Ground.data }], guard := none }) rfl (fun K hK => ?_) AllReadyH.nil
      rw [if_pos (by kernel_rfl)]
      go_simp
      refine (num3g (w.heap.size + 1) (w0.heap.size) (w0.heap.size + 1 + 1) b t g _ X44.out (by first | omega | (simp; omega)) X46.out ⟨h1, by omega, h4⟩ (by omega) (by omega) (by omega)).mono ?_
      rintro e47 w47 ⟨rfl, hO47, hF47⟩
      have X48 := Aside0.mk (X42.out.trans ((hF47.toBelow (by first | omega | (simp; omega)) (by first | omega | (simp; omega))).mono (by omega)))
      have X49 := Aside0.mk ((hF47.low _ (by first | omega | (simp; omega)) (by first | omega | (simp; omega)) (by first | omega | (simp; omega))).trans X43.out)
      have X51 := Aside0.mk (RowAt.frame X45.out hF47 (by decide) (X44.out.ne (by decide)))
      have hs47 := hF47.size
      (try simp at hs47)
      have X52 := Aside0.mk (hO47)
      clear hF47 hO47
      clear hHeld
      refine hK.out _ _ (X49.out) (fun hHeld => ?_)
      clear hK K
      try simp only [Act.put, List.setIfInBounds_toArray, List.set_cons_zero, List.set_cons_succ]
      refine wpAnyH_ready (rs := [13]) (by kernel_rfl) (by simp) ?_
      refine AllReadyH.cons (o := { dst := some 20, op := Op.call { callee := Callee.value (Operand.func 56), args := #[Operand.tmp 16, Operand.tmp 19], argTypes := #[109, 90] }, type := 109, pos := "down.go:31", after := #[{ on := 9, ground := Ground.data }, { on := 12, ground := Ground.data }, { on := 9, ground := Ground.chain }], guard := none }) rfl (fun K hK => ?_) AllReadyH.nil
      rw [if_pos (by kernel_rfl)]
      go_simp
      refine (raw1g (w.heap.size + 1) (w0.heap.size) (w0.heap.size + 1) _ p _ X52.out (by first | omega | (simp; omega)) X51.out (by simp; omega)).mono ?_
      rintro e53 w53 ⟨rfl, hO53, hF53⟩
      have X54 := Aside0.mk (X48.out.trans ((hF53.toBelow (by first | omega | (simp; omega)) (by first | omega | (simp; omega))).mono (by omega)))
      have X55 := Aside0.mk ((hF53.low _ (by first | omega | (simp; omega)) (by first | omega | (simp; omega)) (by first | omega | (simp; omega))).trans X49.out)
      have hs53 := hF53.size
      (try simp at hs53)
      have X57 := Aside0.mk (hO53)
      clear hF53 hO53
      clear hHeld
      refine hK.out _ _ (X55.out) (fun hHeld => ?_)
      clear hK K
      try simp only [Act.put, List.setIfInBounds_toArray, List.set_cons_zero, List.set_cons_succ]
      refine wpAnyH_ready (rs := [14]) (by kernel_rfl) (by simp) ?_
      refine AllReadyH.cons (o := { dst := some 21, op := Op.call { callee := Callee.value (Operand.func 57), args := #[Operand.tmp 20], argTypes := #[109] }, type := 50, pos := "down.go:31", after := #[{ on := 13, ground := Ground.data }, { on := 13, ground := Ground.chain }], guard := none }) rfl (fun K hK => ?_) AllReadyH.nil
      rw [if_pos (by kernel_rfl)]
      go_simp
      refine (end_ok (w.heap.size + 1) (w0.heap.size) _ _ X57.out).mono ?_
      rw [show numB b.toNat ++ numB t.toNat ++ numB g.toNat ++ bytesOf p = dLay b t g p from rfl]
      rintro e9 w9 ⟨rfl, rfl⟩
      clear hHeld
      refine hK.out _ _ (X55.out) (fun hHeld => ?_)
      clear hK K
      try simp only [Act.put, List.setIfInBounds_toArray, List.set_cons_zero, List.set_cons_succ]
      refine takeH (i := 15) (d := 22) (v := (.string (strOfNums (dLay b t g p)))) rfl rfl (by kernel_rfl) (by kernel_rfl) (by kernel_rfl) (fun _ _ _ h => h) (Or.inl ⟨by kernel_rfl, by intro w hSw; (try dsimp only at hSw); go_simp; done⟩) (by assumption) ?_
      try simp only [List.setIfInBounds_toArray, List.set_cons_zero, List.set_cons_succ]
      refine takeH (i := 16) (d := 23) (v := (.int .i64 0)) rfl rfl (by kernel_rfl) (by kernel_rfl) (by kernel_rfl) (fun _ _ _ h => h) (Or.inl ⟨by kernel_rfl, by intro w hSw; (try dsimp only at hSw); go_simp; done⟩) (by assumption) ?_
      try simp only [List.setIfInBounds_toArray, List.set_cons_zero, List.set_cons_succ]
      refine takeH (i := 17) (d := 2) (v := (.string (strOfNums (dLay b t g p)))) rfl rfl (by kernel_rfl) (by kernel_rfl) (by kernel_rfl) (fun _ _ _ h => h) (Or.inl ⟨by kernel_rfl, by intro w hSw; (try dsimp only at hSw); go_simp; done⟩) (by assumption) ?_
      try simp only [List.setIfInBounds_toArray, List.set_cons_zero, List.set_cons_succ]
      refine takeH (i := 18) (d := 3) (v := (.int .i64 0)) rfl rfl (by kernel_rfl) (by kernel_rfl) (by kernel_rfl) (fun _ _ _ h => h) (Or.inl ⟨by kernel_rfl, by intro w hSw; (try dsimp only at hSw); go_simp; done⟩) (by assumption) ?_
      try simp only [List.setIfInBounds_toArray, List.set_cons_zero, List.set_cons_succ]
      refine wpAnyH_done (by kernel_rfl) ?_ _
      go_wp2
      go_ret2
      exact ⟨rfl, X54.out⟩
  · rw [if_pos (by kernel_rfl)]
    go_simp
    clear hHeld
    have X58 := Aside0.mk (below_alloc XB0.out (.cells #[.int .i64 b, .int .i64 t, .int .i64 g] 3))
    have X59 := Aside0.mk (blk_alloc XM0.out (.cells #[.int .i64 b, .int .i64 t, .int .i64 g] 3))
    have X60 := Aside0.mk (RowAt.litAt w0.drew 3 [.int .i64 b, .int .i64 t, .int .i64 g] (w0.heap.size) (by simp) (by simp [maxLen]))
    refine hK.out _ _ (X59.out) (fun hHeld => ?_)
    clear hK K
    try simp only [Act.put, List.setIfInBounds_toArray, List.set_cons_zero, List.set_cons_succ]
    refine wpAnyH_ready (rs := [1, 12]) (by kernel_rfl) (by simp) ?_
    refine AllReadyH.cons (o := { dst := some 8, op := Op.box 112 (Operand.tmp 7), type := 109, pos := "down.go:31", after := #[{ on := 0, ground := Ground.data }], guard := none }) rfl (fun K hK => ?_) (AllReadyH.cons (o := { dst := some 19, op := Op.buildSlice 90 1 #[(0, Operand.tmp 18)], type := 90, pos := "down.go:31", after := #[{ on := 11, ground := Ground.data }], guard := none }) rfl (fun K hK => ?_) AllReadyH.nil)
    · rw [if_pos (by kernel_rfl)]
      go_simp
      clear hHeld
      have X61 := Aside0.mk (below_alloc X58.out (.cells #[.slice none 0 0, .int .i64 0] 112))
      have X62 := Aside0.mk (blk_alloc X59.out (.cells #[.slice none 0 0, .int .i64 0] 112))
      have X63 := Aside0.mk (X60.out.alloc (.cells #[.slice none 0 0, .int .i64 0] 112))
      have X64 := Aside0.mk (IsOut.newAt (B := w.heap.size + 1) (w0.drew.alloc (.cells #[.int .i64 b, .int .i64 t, .int .i64 g] 3)) (w0.heap.size + 1) (by simp))
      refine hK.out _ _ (X62.out) (fun hHeld => ?_)
      clear hK K
      try simp only [Act.put, List.setIfInBounds_toArray, List.set_cons_zero, List.set_cons_succ]
      refine wpAnyH_ready (rs := [9, 12]) (by kernel_rfl) (by simp) ?_
      refine AllReadyH.cons (o := { dst := some 16, op := Op.call { callee := Callee.value (Operand.func 55), args := #[Operand.tmp 8, Operand.tmp 15], argTypes := #[109, 91] }, type := 109, pos := "down.go:31", after := #[{ on := 1, ground := Ground.data }, { on := 8, ground := Ground.data }], guard := none }) rfl (fun K hK => ?_) (AllReadyH.cons (o := { dst := some 19, op := Op.buildSlice 90 1 #[(0, Operand.tmp 18)], type := 90, pos := "down.go:31", after := #[{ on := 11, ground := Ground.data }], guard := none }) rfl (fun K hK => ?_) AllReadyH.nil)
      · rw [if_pos (by kernel_rfl)]
        go_simp
        refine (num3g (w.heap.size + 1) (w0.heap.size + 1) (w0.heap.size) b t g _ X64.out (by first | omega | (simp; omega)) X63.out ⟨h1, by omega, h4⟩ (by omega) (by omega) (by omega)).mono ?_
        rintro e65 w65 ⟨rfl, hO65, hF65⟩
        have X66 := Aside0.mk (X61.out.trans ((hF65.toBelow (by first | omega | (simp; omega)) (by first | omega | (simp; omega))).mono (by omega)))
        have X67 := Aside0.mk ((hF65.low _ (by first | omega | (simp; omega)) (by first | omega | (simp; omega)) (by first | omega | (simp; omega))).trans X62.out)
        have hs65 := hF65.size
        (try simp at hs65)
        have X69 := Aside0.mk (hO65)
        clear hF65 hO65
        clear hHeld
        refine hK.out _ _ (X67.out) (fun hHeld => ?_)
        clear hK K
        try simp only [Act.put, List.setIfInBounds_toArray, List.set_cons_zero, List.set_cons_succ]
        refine wpAnyH_ready (rs := [12]) (by kernel_rfl) (by simp) ?_
        refine AllReadyH.cons (o := { dst := some 19, op := Op.buildSlice 90 1 #[(0, Operand.tmp 18)], type := 90, pos := "down.go:31", after := #[{ on := 11, ground := Ground.data }], guard := none }) rfl (fun K hK => ?_) AllReadyH.nil
        rw [if_pos (by kernel_rfl)]
        go_simp
        clear hHeld
        have X70 := Aside0.mk (below_alloc X66.out (.cells #[.string p] 9))
        have X71 := Aside0.mk (blk_alloc X67.out (.cells #[.string p] 9))
        have X72 := Aside0.mk (X69.out.alloc (.cells #[.string p] 9))
        have X73 := Aside0.mk (RowAt.litAt w65 9 [.string p] (w65.heap.size) (by simp) (by simp [maxLen]))
        refine hK.out _ _ (X71.out) (fun hHeld => ?_)
        clear hK K
        try simp only [Act.put, List.setIfInBounds_toArray, List.set_cons_zero, List.set_cons_succ]
        refine wpAnyH_ready (rs := [13]) (by kernel_rfl) (by simp) ?_
        refine AllReadyH.cons (o := { dst := some 20, op := Op.call { callee := Callee.value (Operand.func 56), args := #[Operand.tmp 16, Operand.tmp 19], argTypes := #[109, 90] }, type := 109, pos := "down.go:31", after := #[{ on := 9, ground := Ground.data }, { on := 12, ground := Ground.data }, { on := 9, ground := Ground.chain }], guard := none }) rfl (fun K hK => ?_) AllReadyH.nil
        rw [if_pos (by kernel_rfl)]
        go_simp
        refine (raw1g (w.heap.size + 1) (w0.heap.size + 1) (w65.heap.size) _ p _ X72.out (by first | omega | (simp; omega)) X73.out (by simp; omega)).mono ?_
        rintro e74 w74 ⟨rfl, hO74, hF74⟩
        have X75 := Aside0.mk (X70.out.trans ((hF74.toBelow (by first | omega | (simp; omega)) (by first | omega | (simp; omega))).mono (by omega)))
        have X76 := Aside0.mk ((hF74.low _ (by first | omega | (simp; omega)) (by first | omega | (simp; omega)) (by first | omega | (simp; omega))).trans X71.out)
        have hs74 := hF74.size
        (try simp at hs74)
        have X78 := Aside0.mk (hO74)
        clear hF74 hO74
        clear hHeld
        refine hK.out _ _ (X76.out) (fun hHeld => ?_)
        clear hK K
        try simp only [Act.put, List.setIfInBounds_toArray, List.set_cons_zero, List.set_cons_succ]
        refine wpAnyH_ready (rs := [14]) (by kernel_rfl) (by simp) ?_
        refine AllReadyH.cons (o := { dst := some 21, op := Op.call { callee := Callee.value (Operand.func 57), args := #[Operand.tmp 20], argTypes := #[109] }, type := 50, pos := "down.go:31", after := #[{ on := 13, ground := Ground.data }, { on := 13, ground := Ground.chain }], guard := none }) rfl (fun K hK => ?_) AllReadyH.nil
        rw [if_pos (by kernel_rfl)]
        go_simp
        refine (end_ok (w.heap.size + 1) (w0.heap.size + 1) _ _ X78.out).mono ?_
        rw [show numB b.toNat ++ numB t.toNat ++ numB g.toNat ++ bytesOf p = dLay b t g p from rfl]
        rintro e9 w9 ⟨rfl, rfl⟩
        clear hHeld
        refine hK.out _ _ (X76.out) (fun hHeld => ?_)
        clear hK K
        try simp only [Act.put, List.setIfInBounds_toArray, List.set_cons_zero, List.set_cons_succ]
        refine takeH (i := 15) (d := 22) (v := (.string (strOfNums (dLay b t g p)))) rfl rfl (by kernel_rfl) (by kernel_rfl) (by kernel_rfl) (fun _ _ _ h => h) (Or.inl ⟨by kernel_rfl, by intro w hSw; (try dsimp only at hSw); go_simp; done⟩) (by assumption) ?_
        try simp only [List.setIfInBounds_toArray, List.set_cons_zero, List.set_cons_succ]
        refine takeH (i := 16) (d := 23) (v := (.int .i64 0)) rfl rfl (by kernel_rfl) (by kernel_rfl) (by kernel_rfl) (fun _ _ _ h => h) (Or.inl ⟨by kernel_rfl, by intro w hSw; (try dsimp only at hSw); go_simp; done⟩) (by assumption) ?_
        try simp only [List.setIfInBounds_toArray, List.set_cons_zero, List.set_cons_succ]
        refine takeH (i := 17) (d := 2) (v := (.string (strOfNums (dLay b t g p)))) rfl rfl (by kernel_rfl) (by kernel_rfl) (by kernel_rfl) (fun _ _ _ h => h) (Or.inl ⟨by kernel_rfl, by intro w hSw; (try dsimp only at hSw); go_simp; done⟩) (by assumption) ?_
        try simp only [List.setIfInBounds_toArray, List.set_cons_zero, List.set_cons_succ]
        refine takeH (i := 18) (d := 3) (v := (.int .i64 0)) rfl rfl (by kernel_rfl) (by kernel_rfl) (by kernel_rfl) (fun _ _ _ h => h) (Or.inl ⟨by kernel_rfl, by intro w hSw; (try dsimp only at hSw); go_simp; done⟩) (by assumption) ?_
        try simp only [List.setIfInBounds_toArray, List.set_cons_zero, List.set_cons_succ]
        refine wpAnyH_done (by kernel_rfl) ?_ _
        go_wp2
        go_ret2
        exact ⟨rfl, X75.out⟩
      · rw [if_pos (by kernel_rfl)]
        go_simp
        clear hHeld
        have X79 := Aside0.mk (below_alloc X61.out (.cells #[.string p] 9))
        have X80 := Aside0.mk (blk_alloc X62.out (.cells #[.string p] 9))
        have X81 := Aside0.mk (X63.out.alloc (.cells #[.string p] 9))
        have X82 := Aside0.mk (X64.out.alloc (.cells #[.string p] 9))
        have X83 := Aside0.mk (RowAt.litAt ((w0.drew.alloc (.cells #[.int .i64 b, .int .i64 t, .int .i64 g] 3)).alloc (.cells #[.slice none 0 0, .int .i64 0] 112)) 9 [.string p] (w0.heap.size + 1 + 1) (by simp) (by simp [maxLen]))
        refine hK.out _ _ (X80.out) (fun hHeld => ?_)
        clear hK K
        try simp only [Act.put, List.setIfInBounds_toArray, List.set_cons_zero, List.set_cons_succ]
        refine wpAnyH_ready (rs := [9]) (by kernel_rfl) (by simp) ?_
        refine AllReadyH.cons (o := { dst := some 16, op := Op.call { callee := Callee.value (Operand.func 55), args := #[Operand.tmp 8, Operand.tmp 15], argTypes := #[109, 91] }, type := 109, pos := "down.go:31", after := #[{ on := 1, ground := Ground.data }, { on := 8, ground := Ground.data }], guard := none }) rfl (fun K hK => ?_) AllReadyH.nil
        rw [if_pos (by kernel_rfl)]
        go_simp
        refine (num3g (w.heap.size + 1) (w0.heap.size + 1) (w0.heap.size) b t g _ X82.out (by first | omega | (simp; omega)) X81.out ⟨h1, by omega, h4⟩ (by omega) (by omega) (by omega)).mono ?_
        rintro e84 w84 ⟨rfl, hO84, hF84⟩
        have X85 := Aside0.mk (X79.out.trans ((hF84.toBelow (by first | omega | (simp; omega)) (by first | omega | (simp; omega))).mono (by omega)))
        have X86 := Aside0.mk ((hF84.low _ (by first | omega | (simp; omega)) (by first | omega | (simp; omega)) (by first | omega | (simp; omega))).trans X80.out)
        have X88 := Aside0.mk (RowAt.frame X83.out hF84 (by decide) (X82.out.ne (by decide)))
        have hs84 := hF84.size
        (try simp at hs84)
        have X89 := Aside0.mk (hO84)
        clear hF84 hO84
        clear hHeld
        refine hK.out _ _ (X86.out) (fun hHeld => ?_)
        clear hK K
        try simp only [Act.put, List.setIfInBounds_toArray, List.set_cons_zero, List.set_cons_succ]
        refine wpAnyH_ready (rs := [13]) (by kernel_rfl) (by simp) ?_
        refine AllReadyH.cons (o := { dst := some 20, op := Op.call { callee := Callee.value (Operand.func 56), args := #[Operand.tmp 16, Operand.tmp 19], argTypes := #[109, 90] }, type := 109, pos := "down.go:31", after := #[{ on := 9, ground := Ground.data }, { on := 12, ground := Ground.data }, { on := 9, ground := Ground.chain }], guard := none }) rfl (fun K hK => ?_) AllReadyH.nil
        rw [if_pos (by kernel_rfl)]
        go_simp
        refine (raw1g (w.heap.size + 1) (w0.heap.size + 1) (w0.heap.size + 1 + 1) _ p _ X89.out (by first | omega | (simp; omega)) X88.out (by simp; omega)).mono ?_
        rintro e90 w90 ⟨rfl, hO90, hF90⟩
        have X91 := Aside0.mk (X85.out.trans ((hF90.toBelow (by first | omega | (simp; omega)) (by first | omega | (simp; omega))).mono (by omega)))
        have X92 := Aside0.mk ((hF90.low _ (by first | omega | (simp; omega)) (by first | omega | (simp; omega)) (by first | omega | (simp; omega))).trans X86.out)
        have hs90 := hF90.size
        (try simp at hs90)
        have X94 := Aside0.mk (hO90)
        clear hF90 hO90
        clear hHeld
        refine hK.out _ _ (X92.out) (fun hHeld => ?_)
        clear hK K
        try simp only [Act.put, List.setIfInBounds_toArray, List.set_cons_zero, List.set_cons_succ]
        refine wpAnyH_ready (rs := [14]) (by kernel_rfl) (by simp) ?_
        refine AllReadyH.cons (o := { dst := some 21, op := Op.call { callee := Callee.value (Operand.func 57), args := #[Operand.tmp 20], argTypes := #[109] }, type := 50, pos := "down.go:31", after := #[{ on := 13, ground := Ground.data }, { on := 13, ground := Ground.chain }], guard := none }) rfl (fun K hK => ?_) AllReadyH.nil
        rw [if_pos (by kernel_rfl)]
        go_simp
        refine (end_ok (w.heap.size + 1) (w0.heap.size + 1) _ _ X94.out).mono ?_
        rw [show numB b.toNat ++ numB t.toNat ++ numB g.toNat ++ bytesOf p = dLay b t g p from rfl]
        rintro e9 w9 ⟨rfl, rfl⟩
        clear hHeld
        refine hK.out _ _ (X92.out) (fun hHeld => ?_)
        clear hK K
        try simp only [Act.put, List.setIfInBounds_toArray, List.set_cons_zero, List.set_cons_succ]
        refine takeH (i := 15) (d := 22) (v := (.string (strOfNums (dLay b t g p)))) rfl rfl (by kernel_rfl) (by kernel_rfl) (by kernel_rfl) (fun _ _ _ h => h) (Or.inl ⟨by kernel_rfl, by intro w hSw; (try dsimp only at hSw); go_simp; done⟩) (by assumption) ?_
        try simp only [List.setIfInBounds_toArray, List.set_cons_zero, List.set_cons_succ]
        refine takeH (i := 16) (d := 23) (v := (.int .i64 0)) rfl rfl (by kernel_rfl) (by kernel_rfl) (by kernel_rfl) (fun _ _ _ h => h) (Or.inl ⟨by kernel_rfl, by intro w hSw; (try dsimp only at hSw); go_simp; done⟩) (by assumption) ?_
        try simp only [List.setIfInBounds_toArray, List.set_cons_zero, List.set_cons_succ]
        refine takeH (i := 17) (d := 2) (v := (.string (strOfNums (dLay b t g p)))) rfl rfl (by kernel_rfl) (by kernel_rfl) (by kernel_rfl) (fun _ _ _ h => h) (Or.inl ⟨by kernel_rfl, by intro w hSw; (try dsimp only at hSw); go_simp; done⟩) (by assumption) ?_
        try simp only [List.setIfInBounds_toArray, List.set_cons_zero, List.set_cons_succ]
        refine takeH (i := 18) (d := 3) (v := (.int .i64 0)) rfl rfl (by kernel_rfl) (by kernel_rfl) (by kernel_rfl) (fun _ _ _ h => h) (Or.inl ⟨by kernel_rfl, by intro w hSw; (try dsimp only at hSw); go_simp; done⟩) (by assumption) ?_
        try simp only [List.setIfInBounds_toArray, List.set_cons_zero, List.set_cons_succ]
        refine wpAnyH_done (by kernel_rfl) ?_ _
        go_wp2
        go_ret2
        exact ⟨rfl, X91.out⟩
    · rw [if_pos (by kernel_rfl)]
      go_simp
      clear hHeld
      have X95 := Aside0.mk (below_alloc X58.out (.cells #[.string p] 9))
      have X96 := Aside0.mk (blk_alloc X59.out (.cells #[.string p] 9))
      have X97 := Aside0.mk (X60.out.alloc (.cells #[.string p] 9))
      have X98 := Aside0.mk (RowAt.litAt (w0.drew.alloc (.cells #[.int .i64 b, .int .i64 t, .int .i64 g] 3)) 9 [.string p] (w0.heap.size + 1) (by simp) (by simp [maxLen]))
      refine hK.out _ _ (X96.out) (fun hHeld => ?_)
      clear hK K
      try simp only [Act.put, List.setIfInBounds_toArray, List.set_cons_zero, List.set_cons_succ]
      refine wpAnyH_ready (rs := [1]) (by kernel_rfl) (by simp) ?_
      refine AllReadyH.cons (o := { dst := some 8, op := Op.box 112 (Operand.tmp 7), type := 109, pos := "down.go:31", after := #[{ on := 0, ground := Ground.data }], guard := none }) rfl (fun K hK => ?_) AllReadyH.nil
      rw [if_pos (by kernel_rfl)]
      go_simp
      clear hHeld
      have X99 := Aside0.mk (below_alloc X95.out (.cells #[.slice none 0 0, .int .i64 0] 112))
      have X100 := Aside0.mk (blk_alloc X96.out (.cells #[.slice none 0 0, .int .i64 0] 112))
      have X101 := Aside0.mk (X97.out.alloc (.cells #[.slice none 0 0, .int .i64 0] 112))
      have X102 := Aside0.mk (X98.out.alloc (.cells #[.slice none 0 0, .int .i64 0] 112))
      have X103 := Aside0.mk (IsOut.newAt (B := w.heap.size + 1) ((w0.drew.alloc (.cells #[.int .i64 b, .int .i64 t, .int .i64 g] 3)).alloc (.cells #[.string p] 9)) (w0.heap.size + 1 + 1) (by simp))
      refine hK.out _ _ (X100.out) (fun hHeld => ?_)
      clear hK K
      try simp only [Act.put, List.setIfInBounds_toArray, List.set_cons_zero, List.set_cons_succ]
      refine wpAnyH_ready (rs := [9]) (by kernel_rfl) (by simp) ?_
      refine AllReadyH.cons (o := { dst := some 16, op := Op.call { callee := Callee.value (Operand.func 55), args := #[Operand.tmp 8, Operand.tmp 15], argTypes := #[109, 91] }, type := 109, pos := "down.go:31", after := #[{ on := 1, ground := Ground.data }, { on := 8, ground := Ground.data }], guard := none }) rfl (fun K hK => ?_) AllReadyH.nil
      rw [if_pos (by kernel_rfl)]
      go_simp
      refine (num3g (w.heap.size + 1) (w0.heap.size + 1 + 1) (w0.heap.size) b t g _ X103.out (by first | omega | (simp; omega)) X101.out ⟨h1, by omega, h4⟩ (by omega) (by omega) (by omega)).mono ?_
      rintro e104 w104 ⟨rfl, hO104, hF104⟩
      have X105 := Aside0.mk (X99.out.trans ((hF104.toBelow (by first | omega | (simp; omega)) (by first | omega | (simp; omega))).mono (by omega)))
      have X106 := Aside0.mk ((hF104.low _ (by first | omega | (simp; omega)) (by first | omega | (simp; omega)) (by first | omega | (simp; omega))).trans X100.out)
      have X107 := Aside0.mk (RowAt.frame X102.out hF104 (by decide) (X103.out.ne (by decide)))
      have hs104 := hF104.size
      (try simp at hs104)
      have X109 := Aside0.mk (hO104)
      clear hF104 hO104
      clear hHeld
      refine hK.out _ _ (X106.out) (fun hHeld => ?_)
      clear hK K
      try simp only [Act.put, List.setIfInBounds_toArray, List.set_cons_zero, List.set_cons_succ]
      refine wpAnyH_ready (rs := [13]) (by kernel_rfl) (by simp) ?_
      refine AllReadyH.cons (o := { dst := some 20, op := Op.call { callee := Callee.value (Operand.func 56), args := #[Operand.tmp 16, Operand.tmp 19], argTypes := #[109, 90] }, type := 109, pos := "down.go:31", after := #[{ on := 9, ground := Ground.data }, { on := 12, ground := Ground.data }, { on := 9, ground := Ground.chain }], guard := none }) rfl (fun K hK => ?_) AllReadyH.nil
      rw [if_pos (by kernel_rfl)]
      go_simp
      refine (raw1g (w.heap.size + 1) (w0.heap.size + 1 + 1) (w0.heap.size + 1) _ p _ X109.out (by first | omega | (simp; omega)) X107.out (by simp; omega)).mono ?_
      rintro e110 w110 ⟨rfl, hO110, hF110⟩
      have X111 := Aside0.mk (X105.out.trans ((hF110.toBelow (by first | omega | (simp; omega)) (by first | omega | (simp; omega))).mono (by omega)))
      have X112 := Aside0.mk ((hF110.low _ (by first | omega | (simp; omega)) (by first | omega | (simp; omega)) (by first | omega | (simp; omega))).trans X106.out)
      have hs110 := hF110.size
      (try simp at hs110)
      have X114 := Aside0.mk (hO110)
      clear hF110 hO110
      clear hHeld
      refine hK.out _ _ (X112.out) (fun hHeld => ?_)
      clear hK K
      try simp only [Act.put, List.setIfInBounds_toArray, List.set_cons_zero, List.set_cons_succ]
      refine wpAnyH_ready (rs := [14]) (by kernel_rfl) (by simp) ?_
      refine AllReadyH.cons (o := { dst := some 21, op := Op.call { callee := Callee.value (Operand.func 57), args := #[Operand.tmp 20], argTypes := #[109] }, type := 50, pos := "down.go:31", after := #[{ on := 13, ground := Ground.data }, { on := 13, ground := Ground.chain }], guard := none }) rfl (fun K hK => ?_) AllReadyH.nil
      rw [if_pos (by kernel_rfl)]
      go_simp
      refine (end_ok (w.heap.size + 1) (w0.heap.size + 1 + 1) _ _ X114.out).mono ?_
      rw [show numB b.toNat ++ numB t.toNat ++ numB g.toNat ++ bytesOf p = dLay b t g p from rfl]
      rintro e9 w9 ⟨rfl, rfl⟩
      clear hHeld
      refine hK.out _ _ (X112.out) (fun hHeld => ?_)
      clear hK K
      try simp only [Act.put, List.setIfInBounds_toArray, List.set_cons_zero, List.set_cons_succ]
      refine takeH (i := 15) (d := 22) (v := (.string (strOfNums (dLay b t g p)))) rfl rfl (by kernel_rfl) (by kernel_rfl) (by kernel_rfl) (fun _ _ _ h => h) (Or.inl ⟨by kernel_rfl, by intro w hSw; (try dsimp only at hSw); go_simp; done⟩) (by assumption) ?_
      try simp only [List.setIfInBounds_toArray, List.set_cons_zero, List.set_cons_succ]
      refine takeH (i := 16) (d := 23) (v := (.int .i64 0)) rfl rfl (by kernel_rfl) (by kernel_rfl) (by kernel_rfl) (fun _ _ _ h => h) (Or.inl ⟨by kernel_rfl, by intro w hSw; (try dsimp only at hSw); go_simp; done⟩) (by assumption) ?_
      try simp only [List.setIfInBounds_toArray, List.set_cons_zero, List.set_cons_succ]
      refine takeH (i := 17) (d := 2) (v := (.string (strOfNums (dLay b t g p)))) rfl rfl (by kernel_rfl) (by kernel_rfl) (by kernel_rfl) (fun _ _ _ h => h) (Or.inl ⟨by kernel_rfl, by intro w hSw; (try dsimp only at hSw); go_simp; done⟩) (by assumption) ?_
      try simp only [List.setIfInBounds_toArray, List.set_cons_zero, List.set_cons_succ]
      refine takeH (i := 18) (d := 3) (v := (.int .i64 0)) rfl rfl (by kernel_rfl) (by kernel_rfl) (by kernel_rfl) (fun _ _ _ h => h) (Or.inl ⟨by kernel_rfl, by intro w hSw; (try dsimp only at hSw); go_simp; done⟩) (by assumption) ?_
      try simp only [List.setIfInBounds_toArray, List.set_cons_zero, List.set_cons_succ]
      refine wpAnyH_done (by kernel_rfl) ?_ _
      go_wp2
      go_ret2
      exact ⟨rfl, X111.out⟩
  · rw [if_pos (by kernel_rfl)]
    go_simp
    clear hHeld
    have X115 := Aside0.mk (below_alloc XB0.out (.cells #[.string p] 9))
    have X116 := Aside0.mk (blk_alloc XM0.out (.cells #[.string p] 9))
    have X117 := Aside0.mk (RowAt.litAt w0.drew 9 [.string p] (w0.heap.size) (by simp) (by simp [maxLen]))
    refine hK.out _ _ (X116.out) (fun hHeld => ?_)
    clear hK K
    try simp only [Act.put, List.setIfInBounds_toArray, List.set_cons_zero, List.set_cons_succ]
    refine wpAnyH_ready (rs := [1, 8]) (by kernel_rfl) (by simp) ?_
    refine AllReadyH.cons (o := { dst := some 8, op := Op.box 112 (Operand.tmp 7), type := 109, pos := "down.go:31", after := #[{ on := 0, ground := Ground.data }], guard := none }) rfl (fun K hK => ?_) (AllReadyH.cons (o := { dst := some 15, op := Op.buildSlice 91 3 #[(0, Operand.tmp 10), (1, Operand.tmp 12), (2, Operand.tmp 14)], type := 91, pos := "down.go:31", after := #[{ on := 3, ground := Ground.data }, { on := 5, ground := Ground.data }, { on := 7, ground := Ground.data }], guard := none }) rfl (fun K hK => ?_) AllReadyH.nil)
    · rw [if_pos (by kernel_rfl)]
      go_simp
      clear hHeld
      have X118 := Aside0.mk (below_alloc X115.out (.cells #[.slice none 0 0, .int .i64 0] 112))
      have X119 := Aside0.mk (blk_alloc X116.out (.cells #[.slice none 0 0, .int .i64 0] 112))
      have X120 := Aside0.mk (X117.out.alloc (.cells #[.slice none 0 0, .int .i64 0] 112))
      have X121 := Aside0.mk (IsOut.newAt (B := w.heap.size + 1) (w0.drew.alloc (.cells #[.string p] 9)) (w0.heap.size + 1) (by simp))
      refine hK.out _ _ (X119.out) (fun hHeld => ?_)
      clear hK K
      try simp only [Act.put, List.setIfInBounds_toArray, List.set_cons_zero, List.set_cons_succ]
      refine wpAnyH_ready (rs := [8]) (by kernel_rfl) (by simp) ?_
      refine AllReadyH.cons (o := { dst := some 15, op := Op.buildSlice 91 3 #[(0, Operand.tmp 10), (1, Operand.tmp 12), (2, Operand.tmp 14)], type := 91, pos := "down.go:31", after := #[{ on := 3, ground := Ground.data }, { on := 5, ground := Ground.data }, { on := 7, ground := Ground.data }], guard := none }) rfl (fun K hK => ?_) AllReadyH.nil
      rw [if_pos (by kernel_rfl)]
      go_simp
      clear hHeld
      have X122 := Aside0.mk (below_alloc X118.out (.cells #[.int .i64 b, .int .i64 t, .int .i64 g] 3))
      have X123 := Aside0.mk (blk_alloc X119.out (.cells #[.int .i64 b, .int .i64 t, .int .i64 g] 3))
      have X124 := Aside0.mk (X120.out.alloc (.cells #[.int .i64 b, .int .i64 t, .int .i64 g] 3))
      have X125 := Aside0.mk (X121.out.alloc (.cells #[.int .i64 b, .int .i64 t, .int .i64 g] 3))
      have X126 := Aside0.mk (RowAt.litAt ((w0.drew.alloc (.cells #[.string p] 9)).alloc (.cells #[.slice none 0 0, .int .i64 0] 112)) 3 [.int .i64 b, .int .i64 t, .int .i64 g] (w0.heap.size + 1 + 1) (by simp) (by simp [maxLen]))
      refine hK.out _ _ (X123.out) (fun hHeld => ?_)
      clear hK K
      try simp only [Act.put, List.setIfInBounds_toArray, List.set_cons_zero, List.set_cons_succ]
      refine wpAnyH_ready (rs := [9]) (by kernel_rfl) (by simp) ?_
      refine AllReadyH.cons (o := { dst := some 16, op := Op.call { callee := Callee.value (Operand.func 55), args := #[Operand.tmp 8, Operand.tmp 15], argTypes := #[109, 91] }, type := 109, pos := "down.go:31", after := #[{ on := 1, ground := Ground.data }, { on := 8, ground := Ground.data }], guard := none }) rfl (fun K hK => ?_) AllReadyH.nil
      rw [if_pos (by kernel_rfl)]
      go_simp
      refine (num3g (w.heap.size + 1) (w0.heap.size + 1) (w0.heap.size + 1 + 1) b t g _ X125.out (by first | omega | (simp; omega)) X126.out ⟨h1, by omega, h4⟩ (by omega) (by omega) (by omega)).mono ?_
      rintro e127 w127 ⟨rfl, hO127, hF127⟩
      have X128 := Aside0.mk (X122.out.trans ((hF127.toBelow (by first | omega | (simp; omega)) (by first | omega | (simp; omega))).mono (by omega)))
      have X129 := Aside0.mk ((hF127.low _ (by first | omega | (simp; omega)) (by first | omega | (simp; omega)) (by first | omega | (simp; omega))).trans X123.out)
      have X130 := Aside0.mk (RowAt.frame X124.out hF127 (by decide) (X125.out.ne (by decide)))
      have hs127 := hF127.size
      (try simp at hs127)
      have X132 := Aside0.mk (hO127)
      clear hF127 hO127
      clear hHeld
      refine hK.out _ _ (X129.out) (fun hHeld => ?_)
      clear hK K
      try simp only [Act.put, List.setIfInBounds_toArray, List.set_cons_zero, List.set_cons_succ]
      refine wpAnyH_ready (rs := [13]) (by kernel_rfl) (by simp) ?_
      refine AllReadyH.cons (o := { dst := some 20, op := Op.call { callee := Callee.value (Operand.func 56), args := #[Operand.tmp 16, Operand.tmp 19], argTypes := #[109, 90] }, type := 109, pos := "down.go:31", after := #[{ on := 9, ground := Ground.data }, { on := 12, ground := Ground.data }, { on := 9, ground := Ground.chain }], guard := none }) rfl (fun K hK => ?_) AllReadyH.nil
      rw [if_pos (by kernel_rfl)]
      go_simp
      refine (raw1g (w.heap.size + 1) (w0.heap.size + 1) (w0.heap.size) _ p _ X132.out (by first | omega | (simp; omega)) X130.out (by simp; omega)).mono ?_
      rintro e133 w133 ⟨rfl, hO133, hF133⟩
      have X134 := Aside0.mk (X128.out.trans ((hF133.toBelow (by first | omega | (simp; omega)) (by first | omega | (simp; omega))).mono (by omega)))
      have X135 := Aside0.mk ((hF133.low _ (by first | omega | (simp; omega)) (by first | omega | (simp; omega)) (by first | omega | (simp; omega))).trans X129.out)
      have hs133 := hF133.size
      (try simp at hs133)
      have X137 := Aside0.mk (hO133)
      clear hF133 hO133
      clear hHeld
      refine hK.out _ _ (X135.out) (fun hHeld => ?_)
      clear hK K
      try simp only [Act.put, List.setIfInBounds_toArray, List.set_cons_zero, List.set_cons_succ]
      refine wpAnyH_ready (rs := [14]) (by kernel_rfl) (by simp) ?_
      refine AllReadyH.cons (o := { dst := some 21, op := Op.call { callee := Callee.value (Operand.func 57), args := #[Operand.tmp 20], argTypes := #[109] }, type := 50, pos := "down.go:31", after := #[{ on := 13, ground := Ground.data }, { on := 13, ground := Ground.chain }], guard := none }) rfl (fun K hK => ?_) AllReadyH.nil
      rw [if_pos (by kernel_rfl)]
      go_simp
      refine (end_ok (w.heap.size + 1) (w0.heap.size + 1) _ _ X137.out).mono ?_
      rw [show numB b.toNat ++ numB t.toNat ++ numB g.toNat ++ bytesOf p = dLay b t g p from rfl]
      rintro e9 w9 ⟨rfl, rfl⟩
      clear hHeld
      refine hK.out _ _ (X135.out) (fun hHeld => ?_)
      clear hK K
      try simp only [Act.put, List.setIfInBounds_toArray, List.set_cons_zero, List.set_cons_succ]
      refine takeH (i := 15) (d := 22) (v := (.string (strOfNums (dLay b t g p)))) rfl rfl (by kernel_rfl) (by kernel_rfl) (by kernel_rfl) (fun _ _ _ h => h) (Or.inl ⟨by kernel_rfl, by intro w hSw; (try dsimp only at hSw); go_simp; done⟩) (by assumption) ?_
      try simp only [List.setIfInBounds_toArray, List.set_cons_zero, List.set_cons_succ]
      refine takeH (i := 16) (d := 23) (v := (.int .i64 0)) rfl rfl (by kernel_rfl) (by kernel_rfl) (by kernel_rfl) (fun _ _ _ h => h) (Or.inl ⟨by kernel_rfl, by intro w hSw; (try dsimp only at hSw); go_simp; done⟩) (by assumption) ?_
      try simp only [List.setIfInBounds_toArray, List.set_cons_zero, List.set_cons_succ]
      refine takeH (i := 17) (d := 2) (v := (.string (strOfNums (dLay b t g p)))) rfl rfl (by kernel_rfl) (by kernel_rfl) (by kernel_rfl) (fun _ _ _ h => h) (Or.inl ⟨by kernel_rfl, by intro w hSw; (try dsimp only at hSw); go_simp; done⟩) (by assumption) ?_
      try simp only [List.setIfInBounds_toArray, List.set_cons_zero, List.set_cons_succ]
      refine takeH (i := 18) (d := 3) (v := (.int .i64 0)) rfl rfl (by kernel_rfl) (by kernel_rfl) (by kernel_rfl) (fun _ _ _ h => h) (Or.inl ⟨by kernel_rfl, by intro w hSw; (try dsimp only at hSw); go_simp; done⟩) (by assumption) ?_
      try simp only [List.setIfInBounds_toArray, List.set_cons_zero, List.set_cons_succ]
      refine wpAnyH_done (by kernel_rfl) ?_ _
      go_wp2
      go_ret2
      exact ⟨rfl, X134.out⟩
    · rw [if_pos (by kernel_rfl)]
      go_simp
      clear hHeld
      have X138 := Aside0.mk (below_alloc X115.out (.cells #[.int .i64 b, .int .i64 t, .int .i64 g] 3))
      have X139 := Aside0.mk (blk_alloc X116.out (.cells #[.int .i64 b, .int .i64 t, .int .i64 g] 3))
      have X140 := Aside0.mk (X117.out.alloc (.cells #[.int .i64 b, .int .i64 t, .int .i64 g] 3))
      have X141 := Aside0.mk (RowAt.litAt (w0.drew.alloc (.cells #[.string p] 9)) 3 [.int .i64 b, .int .i64 t, .int .i64 g] (w0.heap.size + 1) (by simp) (by simp [maxLen]))
      refine hK.out _ _ (X139.out) (fun hHeld => ?_)
      clear hK K
      try simp only [Act.put, List.setIfInBounds_toArray, List.set_cons_zero, List.set_cons_succ]
      refine wpAnyH_ready (rs := [1]) (by kernel_rfl) (by simp) ?_
      refine AllReadyH.cons (o := { dst := some 8, op := Op.box 112 (Operand.tmp 7), type := 109, pos := "down.go:31", after := #[{ on := 0, ground := Ground.data }], guard := none }) rfl (fun K hK => ?_) AllReadyH.nil
      rw [if_pos (by kernel_rfl)]
      go_simp
      clear hHeld
      have X142 := Aside0.mk (below_alloc X138.out (.cells #[.slice none 0 0, .int .i64 0] 112))
      have X143 := Aside0.mk (blk_alloc X139.out (.cells #[.slice none 0 0, .int .i64 0] 112))
      have X144 := Aside0.mk (X140.out.alloc (.cells #[.slice none 0 0, .int .i64 0] 112))
      have X145 := Aside0.mk (X141.out.alloc (.cells #[.slice none 0 0, .int .i64 0] 112))
      have X146 := Aside0.mk (IsOut.newAt (B := w.heap.size + 1) ((w0.drew.alloc (.cells #[.string p] 9)).alloc (.cells #[.int .i64 b, .int .i64 t, .int .i64 g] 3)) (w0.heap.size + 1 + 1) (by simp))
      refine hK.out _ _ (X143.out) (fun hHeld => ?_)
      clear hK K
      try simp only [Act.put, List.setIfInBounds_toArray, List.set_cons_zero, List.set_cons_succ]
      refine wpAnyH_ready (rs := [9]) (by kernel_rfl) (by simp) ?_
      refine AllReadyH.cons (o := { dst := some 16, op := Op.call { callee := Callee.value (Operand.func 55), args := #[Operand.tmp 8, Operand.tmp 15], argTypes := #[109, 91] }, type := 109, pos := "down.go:31", after := #[{ on := 1, ground := Ground.data }, { on := 8, ground := Ground.data }], guard := none }) rfl (fun K hK => ?_) AllReadyH.nil
      rw [if_pos (by kernel_rfl)]
      go_simp
      refine (num3g (w.heap.size + 1) (w0.heap.size + 1 + 1) (w0.heap.size + 1) b t g _ X146.out (by first | omega | (simp; omega)) X145.out ⟨h1, by omega, h4⟩ (by omega) (by omega) (by omega)).mono ?_
      rintro e147 w147 ⟨rfl, hO147, hF147⟩
      have X148 := Aside0.mk (X142.out.trans ((hF147.toBelow (by first | omega | (simp; omega)) (by first | omega | (simp; omega))).mono (by omega)))
      have X149 := Aside0.mk ((hF147.low _ (by first | omega | (simp; omega)) (by first | omega | (simp; omega)) (by first | omega | (simp; omega))).trans X143.out)
      have X150 := Aside0.mk (RowAt.frame X144.out hF147 (by decide) (X146.out.ne (by decide)))
      have hs147 := hF147.size
      (try simp at hs147)
      have X152 := Aside0.mk (hO147)
      clear hF147 hO147
      clear hHeld
      refine hK.out _ _ (X149.out) (fun hHeld => ?_)
      clear hK K
      try simp only [Act.put, List.setIfInBounds_toArray, List.set_cons_zero, List.set_cons_succ]
      refine wpAnyH_ready (rs := [13]) (by kernel_rfl) (by simp) ?_
      refine AllReadyH.cons (o := { dst := some 20, op := Op.call { callee := Callee.value (Operand.func 56), args := #[Operand.tmp 16, Operand.tmp 19], argTypes := #[109, 90] }, type := 109, pos := "down.go:31", after := #[{ on := 9, ground := Ground.data }, { on := 12, ground := Ground.data }, { on := 9, ground := Ground.chain }], guard := none }) rfl (fun K hK => ?_) AllReadyH.nil
      rw [if_pos (by kernel_rfl)]
      go_simp
      refine (raw1g (w.heap.size + 1) (w0.heap.size + 1 + 1) (w0.heap.size) _ p _ X152.out (by first | omega | (simp; omega)) X150.out (by simp; omega)).mono ?_
      rintro e153 w153 ⟨rfl, hO153, hF153⟩
      have X154 := Aside0.mk (X148.out.trans ((hF153.toBelow (by first | omega | (simp; omega)) (by first | omega | (simp; omega))).mono (by omega)))
      have X155 := Aside0.mk ((hF153.low _ (by first | omega | (simp; omega)) (by first | omega | (simp; omega)) (by first | omega | (simp; omega))).trans X149.out)
      have hs153 := hF153.size
      (try simp at hs153)
      have X157 := Aside0.mk (hO153)
      clear hF153 hO153
      clear hHeld
      refine hK.out _ _ (X155.out) (fun hHeld => ?_)
      clear hK K
      try simp only [Act.put, List.setIfInBounds_toArray, List.set_cons_zero, List.set_cons_succ]
      refine wpAnyH_ready (rs := [14]) (by kernel_rfl) (by simp) ?_
      refine AllReadyH.cons (o := { dst := some 21, op := Op.call { callee := Callee.value (Operand.func 57), args := #[Operand.tmp 20], argTypes := #[109] }, type := 50, pos := "down.go:31", after := #[{ on := 13, ground := Ground.data }, { on := 13, ground := Ground.chain }], guard := none }) rfl (fun K hK => ?_) AllReadyH.nil
      rw [if_pos (by kernel_rfl)]
      go_simp
      refine (end_ok (w.heap.size + 1) (w0.heap.size + 1 + 1) _ _ X157.out).mono ?_
      rw [show numB b.toNat ++ numB t.toNat ++ numB g.toNat ++ bytesOf p = dLay b t g p from rfl]
      rintro e9 w9 ⟨rfl, rfl⟩
      clear hHeld
      refine hK.out _ _ (X155.out) (fun hHeld => ?_)
      clear hK K
      try simp only [Act.put, List.setIfInBounds_toArray, List.set_cons_zero, List.set_cons_succ]
      refine takeH (i := 15) (d := 22) (v := (.string (strOfNums (dLay b t g p)))) rfl rfl (by kernel_rfl) (by kernel_rfl) (by kernel_rfl) (fun _ _ _ h => h) (Or.inl ⟨by kernel_rfl, by intro w hSw; (try dsimp only at hSw); go_simp; done⟩) (by assumption) ?_
      try simp only [List.setIfInBounds_toArray, List.set_cons_zero, List.set_cons_succ]
      refine takeH (i := 16) (d := 23) (v := (.int .i64 0)) rfl rfl (by kernel_rfl) (by kernel_rfl) (by kernel_rfl) (fun _ _ _ h => h) (Or.inl ⟨by kernel_rfl, by intro w hSw; (try dsimp only at hSw); go_simp; done⟩) (by assumption) ?_
      try simp only [List.setIfInBounds_toArray, List.set_cons_zero, List.set_cons_succ]
      refine takeH (i := 17) (d := 2) (v := (.string (strOfNums (dLay b t g p)))) rfl rfl (by kernel_rfl) (by kernel_rfl) (by kernel_rfl) (fun _ _ _ h => h) (Or.inl ⟨by kernel_rfl, by intro w hSw; (try dsimp only at hSw); go_simp; done⟩) (by assumption) ?_
      try simp only [List.setIfInBounds_toArray, List.set_cons_zero, List.set_cons_succ]
      refine takeH (i := 18) (d := 3) (v := (.int .i64 0)) rfl rfl (by kernel_rfl) (by kernel_rfl) (by kernel_rfl) (fun _ _ _ h => h) (Or.inl ⟨by kernel_rfl, by intro w hSw; (try dsimp only at hSw); go_simp; done⟩) (by assumption) ?_
      try simp only [List.setIfInBounds_toArray, List.set_cons_zero, List.set_cons_succ]
      refine wpAnyH_done (by kernel_rfl) ?_ _
      go_wp2
      go_ret2
      exact ⟨rfl, X154.out⟩
theorem iRaw_all (b : ByteArray) : ∃ b', iRaw b 0 (b.size : Int) = (b, b', 0) ∧ b'.size = 0 := by
  refine ⟨b.extract b.size b.size, ?_, by simp⟩
  unfold iRaw
  rw [if_neg (by simp), if_neg (by omega), if_neg (by omega), Int.toNat_natCast]
  have : b.extract 0 b.size = b := by
    apply str_ext
    simp
  rw [this]
set_option maxHeartbeats 4000000 in
set_option maxRecDepth 100000 in
theorem read_calls (y : ByteArray) (n1 n2 n3 : Nat) (b1 b2 b3 : ByteArray) (e1 e2 e3 : Int) (h1 : iNum y 0 = (n1, b1, e1)) (h2 : iNum b1 e1 = (n2, b2, e2)) (h3 : iNum b2 e2 = (n3, b3, e3)) (hy : y.size ≤ 1000000) (w : World) :
    Calls Try.prog 21 #[.string y] w fun e w' => e = .returned (if e3 ≠ 0 then .tuple #[.agg #[.int .i64 0, .int .i64 0, .int .i64 0, .string ⟨#[]⟩], .int .i64 e3] else if dVal n1 n2 n3 b3 = true then .tuple #[.agg #[.int .i64 n1, .int .i64 n2, .int .i64 n3, .string b3], .int .i64 0] else .tuple #[.agg #[.int .i64 0, .int .i64 0, .int .i64 0, .string ⟨#[]⟩], .int .i64 3]) ∧ Below w.heap.size w w' := by
  have hu := Try.underlying47
  have H1 := Aside0.mk h1
  have H2 := Aside0.mk h2
  have H3 := Aside0.mk h3
  clear h1 h2 h3
  go_enter Try.func21, Try.ntmps21
  go_wp2_with fail
  have HM0 := Aside0.mk (blk_new w (.cells #[.int .i64 0, .int .i64 0, .int .i64 0, .string ⟨#[]⟩] 47))
  have HB0 := Aside0.mk (below_alloc (Below.refl _ w) (.cells #[.int .i64 0, .int .i64 0, .int .i64 0, .string ⟨#[]⟩] 47))
  obtain ⟨wa, hwa⟩ : ∃ x, x = w.alloc (.cells #[.int .i64 0, .int .i64 0, .int .i64 0, .string ⟨#[]⟩] 47) := ⟨_, rfl⟩
  have hsa : wa.heap.size = w.heap.size + 1 := by rw [hwa]; simp
  rw [← hwa] at HM0 HB0 ⊢
  clear hwa
  refine (on_calls y wa).mono ?_
  rintro e4 w4 ⟨rfl, rfl⟩
  have hn := eql_in ⟨w.heap.size + 1, 0, none⟩
  have HI := Aside0.mk (show IsIn (wa.alloc (.cells #[.string y, .int .i64 0] 151)) (w.heap.size + 1) y 0 by rw [← hsa]; exact heap_alloc_new wa _)
  have HM := Aside0.mk (blk_alloc HM0.out (.cells #[.string y, .int .i64 0] 151))
  have HB := Aside0.mk (below_alloc HB0.out (.cells #[.string y, .int .i64 0] 151))
  have hys1 : b1.size ≤ 1000000 := by have := iNum_size y 0; rw [H1.out] at this; exact Nat.le_trans this hy
  have hys2 : b2.size ≤ 1000000 := by have := iNum_size b1 e1; rw [H2.out] at this; exact Nat.le_trans this hys1
  have hys3 : b3.size ≤ 1000000 := by have := iNum_size b2 e2; rw [H3.out] at this; exact Nat.le_trans this hys2
  go_wp2_with fail
  refine (inum_calls (w.heap.size + 1) y 0 _ HI.out (by omega)).mono ?_
  rw [H1.out]
  rintro r0 v0 ⟨rfl, hI, hF⟩
  have HM := Aside0.mk (hF.keep HM.out (by omega))
  have HB := Aside0.mk (hF.belowOf HB.out (by have := blk_lt HI.out; omega) (by omega))
  have HI := Aside0.mk hI
  clear hI hF
  clear hsa
  go_wp2_with fail
  obtain ⟨gm, hgm⟩ : ∃ x, x = v0.heap.size := ⟨_, rfl⟩
  have hg1 : w.heap.size + 1 < gm := by rw [hgm]; exact blk_lt HI.out
  have HN := Aside0.mk (blk_new v0 (.cells #[.int .i64 (n1 : Int), .int .i64 0, .int .i64 0, .string ⟨#[]⟩] 47))
  rw [← hgm] at HN ⊢
  have HI := Aside0.mk (HI.out.alloc (.cells #[.int .i64 (n1 : Int), .int .i64 0, .int .i64 0, .string ⟨#[]⟩] 47))
  have HB := Aside0.mk (below_alloc HB.out (.cells #[.int .i64 (n1 : Int), .int .i64 0, .int .i64 0, .string ⟨#[]⟩] 47))
  have HM := Aside0.mk (blk_alloc HM.out (.cells #[.int .i64 (n1 : Int), .int .i64 0, .int .i64 0, .string ⟨#[]⟩] 47))
  clear hgm
  refine (inum_calls (w.heap.size + 1) b1 e1 _ HI.out (by omega)).mono ?_
  rw [H2.out]
  rintro r1 v1 ⟨rfl, hI, hF⟩
  have HM := Aside0.mk (hF.keep HM.out (by omega))
  have HN := Aside0.mk (hF.keep HN.out (by omega))
  have HB := Aside0.mk (hF.belowOf HB.out (by have := blk_lt HI.out; omega) (by omega))
  have HI := Aside0.mk hI
  clear hI hF
  have c0 : v1.cell? ⟨gm, 0, none⟩ = some (.int .i64 (n1 : Int)) := (blk_cell HN.out 0).trans rfl
  have f0 := blk_frozen HN.out 0
  have c1 : v1.cell? ⟨gm, 1, none⟩ = some (.int .i64 0) := (blk_cell HN.out 1).trans rfl
  have f1 := blk_frozen HN.out 1
  have c2 : v1.cell? ⟨gm, 2, none⟩ = some (.int .i64 0) := (blk_cell HN.out 2).trans rfl
  have f2 := blk_frozen HN.out 2
  have c3 : v1.cell? ⟨gm, 3, none⟩ = some (.string ⟨#[]⟩) := (blk_cell HN.out 3).trans rfl
  have f3 := blk_frozen HN.out 3
  go_wp2_with fail
  clear c0 c1 c2 c3 f0 f1 f2 f3
  have HN := Aside0.mk (blk_put (cs := #[.int .i64 (n1 : Int), .int .i64 0, .int .i64 0, .string ⟨#[]⟩]) (cs' := #[.int .i64 (n1 : Int), .int .i64 (n2 : Int), .int .i64 0, .string ⟨#[]⟩]) HN.out 1 (.int .i64 (n2 : Int)) rfl)
  have HI := Aside0.mk (show IsIn _ (w.heap.size + 1) _ _ from blk_far HI.out (p := ⟨gm, 1, none⟩) (by show w.heap.size + 1 ≠ gm; omega) (.int .i64 (n2 : Int)))
  have HM := Aside0.mk (blk_far HM.out (p := ⟨gm, 1, none⟩) (by show w.heap.size ≠ gm; omega) (.int .i64 (n2 : Int)))
  have HB := Aside0.mk (below_set (j := 1) (v := .int .i64 (n2 : Int)) HB.out (show w.heap.size ≤ gm by omega))
  refine (inum_calls (w.heap.size + 1) b2 e2 _ HI.out (by omega)).mono ?_
  rw [H3.out]
  rintro r2 v2 ⟨rfl, hI, hF⟩
  have HM := Aside0.mk (hF.keep HM.out (by omega))
  have HN := Aside0.mk (hF.keep HN.out (by omega))
  have HB := Aside0.mk (hF.belowOf HB.out (by have := blk_lt HI.out; omega) (by omega))
  have HI := Aside0.mk hI
  clear hI hF
  have c0 : v2.cell? ⟨gm, 0, none⟩ = some (.int .i64 (n1 : Int)) := (blk_cell HN.out 0).trans rfl
  have f0 := blk_frozen HN.out 0
  have c1 : v2.cell? ⟨gm, 1, none⟩ = some (.int .i64 (n2 : Int)) := (blk_cell HN.out 1).trans rfl
  have f1 := blk_frozen HN.out 1
  have c2 : v2.cell? ⟨gm, 2, none⟩ = some (.int .i64 0) := (blk_cell HN.out 2).trans rfl
  have f2 := blk_frozen HN.out 2
  have c3 : v2.cell? ⟨gm, 3, none⟩ = some (.string ⟨#[]⟩) := (blk_cell HN.out 3).trans rfl
  have f3 := blk_frozen HN.out 3
  go_wp2_with fail
  clear c0 c1 c2 c3 f0 f1 f2 f3
  have HN := Aside0.mk (blk_put (cs := #[.int .i64 (n1 : Int), .int .i64 (n2 : Int), .int .i64 0, .string ⟨#[]⟩]) (cs' := #[.int .i64 (n1 : Int), .int .i64 (n2 : Int), .int .i64 (n3 : Int), .string ⟨#[]⟩]) HN.out 2 (.int .i64 (n3 : Int)) rfl)
  have HI := Aside0.mk (show IsIn _ (w.heap.size + 1) _ _ from blk_far HI.out (p := ⟨gm, 2, none⟩) (by show w.heap.size + 1 ≠ gm; omega) (.int .i64 (n3 : Int)))
  have HM := Aside0.mk (blk_far HM.out (p := ⟨gm, 2, none⟩) (by show w.heap.size ≠ gm; omega) (.int .i64 (n3 : Int)))
  have HB := Aside0.mk (below_set (j := 2) (v := .int .i64 (n3 : Int)) HB.out (show w.heap.size ≤ gm by omega))
  refine (ileft_calls (w.heap.size + 1) b3 e3 _ HI.out).mono ?_
  rintro r3 v3 ⟨rfl, rfl⟩
  by_cases he : e3 = 0
  · subst he
    rw [if_pos rfl]
    obtain ⟨b4, hR, hb4⟩ := iRaw_all b3
    go_wp2_with fail
    refine (iraw_calls (w.heap.size + 1) b3 0 (b3.size : Int) _ HI.out (by omega)).mono ?_
    rw [hR]
    rintro r4 v4 ⟨rfl, hI, hF⟩
    have HM := Aside0.mk (hF.keep HM.out (by omega))
    have HN := Aside0.mk (hF.keep HN.out (by omega))
    have HB := Aside0.mk (hF.belowOf HB.out (by have := blk_lt HI.out; omega) (by omega))
    have HI := Aside0.mk hI
    clear hI hF
    have c0 : v4.cell? ⟨gm, 0, none⟩ = some (.int .i64 (n1 : Int)) := (blk_cell HN.out 0).trans rfl
    have f0 := blk_frozen HN.out 0
    have c1 : v4.cell? ⟨gm, 1, none⟩ = some (.int .i64 (n2 : Int)) := (blk_cell HN.out 1).trans rfl
    have f1 := blk_frozen HN.out 1
    have c2 : v4.cell? ⟨gm, 2, none⟩ = some (.int .i64 (n3 : Int)) := (blk_cell HN.out 2).trans rfl
    have f2 := blk_frozen HN.out 2
    have c3 : v4.cell? ⟨gm, 3, none⟩ = some (.string ⟨#[]⟩) := (blk_cell HN.out 3).trans rfl
    have f3 := blk_frozen HN.out 3
    go_wp2_with fail
    clear c0 c1 c2 c3 f0 f1 f2 f3
    have HN := Aside0.mk (blk_put (cs := #[.int .i64 (n1 : Int), .int .i64 (n2 : Int), .int .i64 (n3 : Int), .string ⟨#[]⟩]) (cs' := #[.int .i64 (n1 : Int), .int .i64 (n2 : Int), .int .i64 (n3 : Int), .string b3]) HN.out 3 (.string b3) rfl)
    have HI := Aside0.mk (show IsIn _ (w.heap.size + 1) _ _ from blk_far HI.out (p := ⟨gm, 3, none⟩) (by show w.heap.size + 1 ≠ gm; omega) (.string b3))
    have HM := Aside0.mk (blk_far HM.out (p := ⟨gm, 3, none⟩) (by show w.heap.size ≠ gm; omega) (.string b3))
    have HB := Aside0.mk (below_set (j := 3) (v := .string b3) HB.out (show w.heap.size ≤ gm by omega))
    refine (iend_calls (w.heap.size + 1) b4 0 _ HI.out).mono ?_
    rw [if_pos rfl, if_pos hb4]
    rintro r5 v5 ⟨rfl, hI, hF⟩
    have HM := Aside0.mk (hF.keep HM.out (by omega))
    have HN := Aside0.mk (hF.keep HN.out (by omega))
    have HB := Aside0.mk (hF.belowOf HB.out (by have := blk_lt HI.out; omega) (by omega))
    have HI := Aside0.mk hI
    clear hI hF
    have c0 : v5.cell? ⟨gm, 0, none⟩ = some (.int .i64 (n1 : Int)) := (blk_cell HN.out 0).trans rfl
    have f0 := blk_frozen HN.out 0
    have c1 : v5.cell? ⟨gm, 1, none⟩ = some (.int .i64 (n2 : Int)) := (blk_cell HN.out 1).trans rfl
    have f1 := blk_frozen HN.out 1
    have c2 : v5.cell? ⟨gm, 2, none⟩ = some (.int .i64 (n3 : Int)) := (blk_cell HN.out 2).trans rfl
    have f2 := blk_frozen HN.out 2
    have c3 : v5.cell? ⟨gm, 3, none⟩ = some (.string b3) := (blk_cell HN.out 3).trans rfl
    have f3 := blk_frozen HN.out 3
    go_wp2_with fail
    clear c0 c1 c2 c3 f0 f1 f2 f3
    refine (valid_calls n1 n2 n3 b3 _).mono ?_
    rintro r6 v6 ⟨rfl, hb⟩
    have HM := Aside0.mk (blk_below HM.out hb)
    have HN := Aside0.mk (blk_below HN.out hb)
    have HB := Aside0.mk (below_step HB.out hb)
    clear hb
    have c0 : v6.cell? ⟨gm, 0, none⟩ = some (.int .i64 (n1 : Int)) := (blk_cell HN.out 0).trans rfl
    have f0 := blk_frozen HN.out 0
    have c1 : v6.cell? ⟨gm, 1, none⟩ = some (.int .i64 (n2 : Int)) := (blk_cell HN.out 1).trans rfl
    have f1 := blk_frozen HN.out 1
    have c2 : v6.cell? ⟨gm, 2, none⟩ = some (.int .i64 (n3 : Int)) := (blk_cell HN.out 2).trans rfl
    have f2 := blk_frozen HN.out 2
    have c3 : v6.cell? ⟨gm, 3, none⟩ = some (.string b3) := (blk_cell HN.out 3).trans rfl
    have f3 := blk_frozen HN.out 3
    have d0 : v6.cell? ⟨w.heap.size, 0, none⟩ = some (.int .i64 0) := (blk_cell HM.out 0).trans rfl
    have g0 := blk_frozen HM.out 0
    have d1 : v6.cell? ⟨w.heap.size, 1, none⟩ = some (.int .i64 0) := (blk_cell HM.out 1).trans rfl
    have g1 := blk_frozen HM.out 1
    have d2 : v6.cell? ⟨w.heap.size, 2, none⟩ = some (.int .i64 0) := (blk_cell HM.out 2).trans rfl
    have g2 := blk_frozen HM.out 2
    have d3 : v6.cell? ⟨w.heap.size, 3, none⟩ = some (.string ⟨#[]⟩) := (blk_cell HM.out 3).trans rfl
    have g3 := blk_frozen HM.out 3
    by_cases hv : dVal n1 n2 n3 b3 = true
    · rw [hv]
      go_wp2
      refine bodyPost_ret (results_ct rfl _ _ w.heap.size 47 #[.int .i64 (n1 : Int), .int .i64 (n2 : Int), .int .i64 (n3 : Int), .string b3] (0, 0) _ rfl (by refine blk_put (cs := #[.int .i64 (n1 : Int), .int .i64 (n2 : Int), .int .i64 (n3 : Int), .string ⟨#[]⟩]) ?_ 3 _ rfl; refine blk_put (cs := #[.int .i64 (n1 : Int), .int .i64 (n2 : Int), .int .i64 0, .string ⟨#[]⟩]) ?_ 2 _ rfl; refine blk_put (cs := #[.int .i64 (n1 : Int), .int .i64 0, .int .i64 0, .string ⟨#[]⟩]) ?_ 1 _ rfl; refine blk_put (cs := #[.int .i64 0, .int .i64 0, .int .i64 0, .string ⟨#[]⟩]) ?_ 0 _ rfl; exact HM.out) Try.underlying47 rfl (by kernel_rfl)) rfl ?_
      exact ⟨rfl, below_set (below_set (below_set (below_set HB.out (Nat.le_refl _)) (Nat.le_refl _)) (Nat.le_refl _)) (Nat.le_refl _)⟩
    · rw [show dVal n1 n2 n3 b3 = false by simpa using hv]
      go_wp2
      refine bodyPost_ret (results_ct rfl _ _ w.heap.size 47 #[.int .i64 0, .int .i64 0, .int .i64 0, .string ⟨#[]⟩] (0, 0) _ rfl (by refine blk_put (cs := #[.int .i64 0, .int .i64 0, .int .i64 0, .string ⟨#[]⟩]) ?_ 3 _ rfl; refine blk_put (cs := #[.int .i64 0, .int .i64 0, .int .i64 0, .string ⟨#[]⟩]) ?_ 2 _ rfl; refine blk_put (cs := #[.int .i64 0, .int .i64 0, .int .i64 0, .string ⟨#[]⟩]) ?_ 1 _ rfl; refine blk_put (cs := #[.int .i64 0, .int .i64 0, .int .i64 0, .string ⟨#[]⟩]) ?_ 0 _ rfl; exact HM.out) Try.underlying47 rfl (by kernel_rfl)) rfl ?_
      exact ⟨rfl, below_set (below_set (below_set (below_set HB.out (Nat.le_refl _)) (Nat.le_refl _)) (Nat.le_refl _)) (Nat.le_refl _)⟩
  · rw [if_neg he]
    have he' : (e3 != 0) = true := by simpa using he
    have hR : iRaw b3 e3 0 = (ByteArray.empty, b3, e3) := iRaw_err he
    go_wp2_with fail
    refine (iraw_calls (w.heap.size + 1) b3 e3 0 _ HI.out (by omega)).mono ?_
    rw [hR]
    rintro r4 v4 ⟨rfl, hI, hF⟩
    have HM := Aside0.mk (hF.keep HM.out (by omega))
    have HN := Aside0.mk (hF.keep HN.out (by omega))
    have HB := Aside0.mk (hF.belowOf HB.out (by have := blk_lt HI.out; omega) (by omega))
    have HI := Aside0.mk hI
    clear hI hF
    have c0 : v4.cell? ⟨gm, 0, none⟩ = some (.int .i64 (n1 : Int)) := (blk_cell HN.out 0).trans rfl
    have f0 := blk_frozen HN.out 0
    have c1 : v4.cell? ⟨gm, 1, none⟩ = some (.int .i64 (n2 : Int)) := (blk_cell HN.out 1).trans rfl
    have f1 := blk_frozen HN.out 1
    have c2 : v4.cell? ⟨gm, 2, none⟩ = some (.int .i64 (n3 : Int)) := (blk_cell HN.out 2).trans rfl
    have f2 := blk_frozen HN.out 2
    have c3 : v4.cell? ⟨gm, 3, none⟩ = some (.string ⟨#[]⟩) := (blk_cell HN.out 3).trans rfl
    have f3 := blk_frozen HN.out 3
    go_wp2_with fail
    clear c0 c1 c2 c3 f0 f1 f2 f3
    have HN := Aside0.mk (blk_put (cs := #[.int .i64 (n1 : Int), .int .i64 (n2 : Int), .int .i64 (n3 : Int), .string ⟨#[]⟩]) (cs' := #[.int .i64 (n1 : Int), .int .i64 (n2 : Int), .int .i64 (n3 : Int), .string ByteArray.empty]) HN.out 3 (.string ByteArray.empty) rfl)
    have HI := Aside0.mk (show IsIn _ (w.heap.size + 1) _ _ from blk_far HI.out (p := ⟨gm, 3, none⟩) (by show w.heap.size + 1 ≠ gm; omega) (.string ByteArray.empty))
    have HM := Aside0.mk (blk_far HM.out (p := ⟨gm, 3, none⟩) (by show w.heap.size ≠ gm; omega) (.string ByteArray.empty))
    have HB := Aside0.mk (below_set (j := 3) (v := .string ByteArray.empty) HB.out (show w.heap.size ≤ gm by omega))
    refine (iend_calls (w.heap.size + 1) b3 e3 _ HI.out).mono ?_
    rw [if_neg he]
    rintro r5 v5 ⟨rfl, hI, hF⟩
    have HM := Aside0.mk (hF.keep HM.out (by omega))
    have HB := Aside0.mk (hF.belowOf HB.out (by have := blk_lt HI.out; omega) (by omega))
    clear hI hF
    have d0 : v5.cell? ⟨w.heap.size, 0, none⟩ = some (.int .i64 0) := (blk_cell HM.out 0).trans rfl
    have g0 := blk_frozen HM.out 0
    have d1 : v5.cell? ⟨w.heap.size, 1, none⟩ = some (.int .i64 0) := (blk_cell HM.out 1).trans rfl
    have g1 := blk_frozen HM.out 1
    have d2 : v5.cell? ⟨w.heap.size, 2, none⟩ = some (.int .i64 0) := (blk_cell HM.out 2).trans rfl
    have g2 := blk_frozen HM.out 2
    have d3 : v5.cell? ⟨w.heap.size, 3, none⟩ = some (.string ⟨#[]⟩) := (blk_cell HM.out 3).trans rfl
    have g3 := blk_frozen HM.out 3
    go_wp2
    refine bodyPost_ret (results_ct rfl _ _ w.heap.size 47 #[.int .i64 0, .int .i64 0, .int .i64 0, .string ⟨#[]⟩] (0, 0) _ rfl (by refine blk_put (cs := #[.int .i64 0, .int .i64 0, .int .i64 0, .string ⟨#[]⟩]) ?_ 3 _ rfl; refine blk_put (cs := #[.int .i64 0, .int .i64 0, .int .i64 0, .string ⟨#[]⟩]) ?_ 2 _ rfl; refine blk_put (cs := #[.int .i64 0, .int .i64 0, .int .i64 0, .string ⟨#[]⟩]) ?_ 1 _ rfl; refine blk_put (cs := #[.int .i64 0, .int .i64 0, .int .i64 0, .string ⟨#[]⟩]) ?_ 0 _ rfl; exact HM.out) Try.underlying47 rfl (by kernel_rfl)) rfl ?_
    exact ⟨rfl, below_set (below_set (below_set (below_set HB.out (Nat.le_refl _)) (Nat.le_refl _)) (Nat.le_refl _)) (Nat.le_refl _)⟩
end Go.Proofs.Ytjjjinpmflghmaa.Obj
