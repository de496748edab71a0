/- What the document's answers to chapter 22 come to. Conditions: those in each theorem. -/
import Derived.Test.YtjjjinpmflghmaaDownA
import Derived.Test.YtjjjinpmflghmaaRefIn
import Derived.Test.YtjjjinpmflghmaaQDownTells
import Derived.OpenShut
namespace Go.Proofs.Ytjjjinpmflghmaa.Obj
open Go.RowKit Go.Proofs.YtjjjinpmflghmaaW.PrintWords Go.Proofs.YtjjjinpmflghmaaW.PrintMore
set_option linter.unusedVariables false
set_option linter.unusedSimpArgs false

theorem refnum_l0 : ∀ (k u : Nat) (bs : List Int), u < 9223372036854775808 → bs.length + (numB u).length ≤ 1000 → (numB u).length ≤ k → PDownTells.pontoonref1_Num.l0 k (u : Int) bs = some (strOfNums (bs ++ numB u))
  | 0, u, bs, _, _, hk => by
    have : (numB u).length ≠ 0 := by
      by_cases h : u < 128
      · rw [numB_small h]; simp
      · rw [numB_great h]; simp
    omega
  | k + 1, u, bs, hu, hl, hk => by
    unfold PDownTells.pontoonref1_Num.l0
    by_cases h : u < 128
    · rw [if_neg (by omega), if_pos (by omega), numB_small h]
      have : (u : Int) % 256 = (u : Int) := by omega
      rw [this]
    · rw [numB_great h, List.length_cons] at hl hk
      have h1 : Int.tdiv (u : Int) 128 = ((u / 128 : Nat) : Int) := by rw [Int.tdiv_eq_ediv_of_nonneg (by omega)]; omega
      have h2 : Int.tmod (u : Int) 128 = ((u % 128 : Nat) : Int) := by rw [Int.tmod_eq_emod_of_nonneg (by omega)]; omega
      have h3 : wrap64 ((u / 128 : Nat) : Int) = ((u / 128 : Nat) : Int) := by unfold wrap64; omega
      have h4 : wrap64 (((u % 128 : Nat) : Int) + 128) % 256 = ((u % 128 + 128 : Nat) : Int) := by unfold wrap64; omega
      rw [if_pos (by omega), if_pos (by omega), h1, h2, h3, h4, refnum_l0 k (u / 128) _ (by omega) (by simp; omega) (by omega), numB_great h]
      simp
theorem refnum_f (u : Nat) (hu : u < 9223372036854775808) : PDownTells.pontoonref1_Num.f 20 (u : Int) = some (strOfNums (numB u)) := by
  have := numB_len9 hu
  have := refnum_l0 20 u [] hu (by simp; omega) (by omega)
  simpa [PDownTells.pontoonref1_Num.f] using this
theorem refnum_calls (u : Nat) (hu : u < 9223372036854775808) (w : World) :
    Calls Try.prog 23 #[.int .i64 (u : Int)] w fun e w' => e = .returned (.string (strOfNums (numB u))) ∧ Below w.heap.size w w' :=
  PDownTells.pontoonref1_Num.calls 20 u _ w (refnum_f u hu)
theorem validref_calls (b t g : Int) (p : ByteArray) (w : World) :
    Calls Try.prog 18 #[.agg #[.int .i64 b, .int .i64 t, .int .i64 g, .string p]] w fun e w' => e = .returned (.bool (dVal b t g p)) ∧ Below w.heap.size w w' :=
  PDownTells.pontoonref19_ValidDown.calls b t g p _ w (valid_f b t g p)
theorem str_app (a b : List Int) : strOfNums a ++ strOfNums b = strOfNums (a ++ b) := by
  apply str_ext
  simp [strOfNums]
theorem layref_calls (b t g : Int) (p : ByteArray) (w : World) (hv : dVal b t g p = true) :
    Calls Try.prog 20 #[.agg #[.int .i64 b, .int .i64 t, .int .i64 g, .string p]] w fun e w' => e = .returned (.string (strOfNums (dLay b t g p))) ∧ Below w.heap.size w w' := by
  refine PDownTells.pontoonref19_LayDown.calls 20 b t g p _ w ?_
  simp only [dVal, Bool.and_eq_true, decide_eq_true_eq] at hv
  obtain ⟨⟨⟨⟨⟨⟨h1, h2⟩, h3⟩, h4⟩, h5⟩, _⟩, h6⟩ := hv
  have hl1 := numB_len9 (v := b.toNat) (by omega)
  have hl2 := numB_len9 (v := t.toNat) (by omega)
  have hl3 := numB_len9 (v := g.toNat) (by omega)
  have e1 := refnum_f b.toNat (by omega)
  have e2 := refnum_f t.toNat (by omega)
  have e3 := refnum_f g.toNat (by omega)
  rw [Int.toNat_of_nonneg (by omega)] at e1 e2 e3
  unfold PDownTells.pontoonref19_LayDown.f
  rw [e1, e2, e3]
  simp only [Option.bind_some]
  rw [if_pos (by rw [strOfNums_size, strOfNums_size]; omega), str_app, if_pos (by rw [strOfNums_size, strOfNums_size]; simp; omega), str_app, if_pos (by rw [strOfNums_size]; simp; omega)]
  congr 1
  conv => lhs; rw [← str_bytes p]
  rw [str_app]
  rfl
/-- A number of the document's reader, in the words of codec's. -/
theorem rnum_calls (g : Nat) (b bc b1 : ByteArray) (e e1 : Int) (n : Nat) (w : World) (h : IsRIn w g b e) (hb : e = 0 → b = bc) (hs : b.size ≤ 140737488355328) (hi : iNum bc e = (n, b1, e1)) :
    Calls Try.prog 63 #[.pointer (some ⟨g, 0, none⟩)] w fun r w' => r = .returned (.int .i64 (n : Int)) ∧ (∃ b', IsRIn w' g b' e1 ∧ (e1 = 0 → b' = b1) ∧ b'.size ≤ b.size) ∧ Fg g w w' := by
  by_cases he : e = 0
  · subst he
    obtain rfl := hb rfl
    refine (rnum_ok g b w h hs).mono ?_
    rintro r w' ⟨rfl, h1, h2⟩
    obtain ⟨q1, q2, q3⟩ := rNum_iNum b
    rw [hi] at q1 q2 q3
    replace q2 : (rNum b).2.2 = e1 := q2
    rw [q1]
    refine ⟨rfl, ⟨_, by rw [q2] at h1; exact h1, q3, ?_⟩, h2⟩
    unfold rNum
    split
    · exact Nat.le_refl _
    · split
      · exact Nat.le_refl _
      · split
        · exact Nat.le_refl _
        · simp
  · refine (rnum_err g b e he w h).mono ?_
    rintro r w' ⟨rfl, rfl⟩
    rw [iNum_err he] at hi
    simp only [Prod.mk.injEq] at hi
    obtain ⟨rfl, rfl, rfl⟩ := hi
    exact ⟨rfl, ⟨b, h, fun h => absurd h he, Nat.le_refl _⟩, Fg.refl _ _⟩
theorem isRIn_far4 {W : World} {g t : Nat} {b : ByteArray} {e : Int} (h : IsRIn W g b e) (hne : g ≠ t) (v0 v1 v2 v3 : Value) : IsRIn ((((W.setCell ⟨t, 0, none⟩ v0).setCell ⟨t, 1, none⟩ v1).setCell ⟨t, 2, none⟩ v2).setCell ⟨t, 3, none⟩ v3) g b e :=
  blk_far (blk_far (blk_far (blk_far h (p := ⟨t, 0, none⟩) hne v0) (p := ⟨t, 1, none⟩) hne v1) (p := ⟨t, 2, none⟩) hne v2) (p := ⟨t, 3, none⟩) hne v3
set_option maxHeartbeats 4000000 in
set_option maxRecDepth 100000 in
theorem readref_calls (y : ByteArray) (n1 n2 n3 : Nat) (b1 b2 b3 : ByteArray) (e1 e2 e3 : Int) (h1 : iNum y 0 = (n1, b1, e1)) (h2 : iNum b1 e1 = (n2, b2, e2)) (h3 : iNum b2 e2 = (n3, b3, e3)) (hy : y.size ≤ 1000000) (w : World) :
    Calls Try.prog 22 #[.string y] w fun e w' => e = .returned (if e3 ≠ 0 then .tuple #[.agg #[.int .i64 0, .int .i64 0, .int .i64 0, .string ⟨#[]⟩], .int .i64 e3] else if dVal n1 n2 n3 b3 = true then .tuple #[.agg #[.int .i64 n1, .int .i64 n2, .int .i64 n3, .string b3], .int .i64 0] else .tuple #[.agg #[.int .i64 0, .int .i64 0, .int .i64 0, .string ⟨#[]⟩], .int .i64 3]) ∧ Below w.heap.size w w' := by
  have hu := Try.underlying48
  have H1 := Aside0.mk h1
  have H2 := Aside0.mk h2
  have H3 := Aside0.mk h3
  clear h1 h2 h3
  go_enter Try.func22, Try.ntmps22
  go_wp2_with fail
  have HM := Aside0.mk (blk_alloc (blk_new w (.cells #[.int .i64 0, .int .i64 0, .int .i64 0, .string ⟨#[]⟩] 48)) (.cells #[.string y, .int .i64 0] 121))
  have HI := Aside0.mk (show IsRIn ((w.alloc (.cells #[.int .i64 0, .int .i64 0, .int .i64 0, .string ⟨#[]⟩] 48)).alloc (.cells #[.string y, .int .i64 0] 121)) (w.heap.size + 1) y 0 by
    have := heap_alloc_new (w.alloc (.cells #[.int .i64 0, .int .i64 0, .int .i64 0, .string ⟨#[]⟩] 48)) (.cells #[.string y, .int .i64 0] 121)
    rwa [World.size_alloc] at this)
  have HB := Aside0.mk (below_alloc (below_alloc (Below.refl _ w) (.cells #[.int .i64 0, .int .i64 0, .int .i64 0, .string ⟨#[]⟩] 48)) (.cells #[.string y, .int .i64 0] 121))
  refine (rnum_calls (w.heap.size + 1) y y b1 0 e1 n1 _ HI.out (fun _ => rfl) (by omega) H1.out).mono ?_
  rintro r1 v1 ⟨rfl, ⟨y1, hI, hq1, hs1⟩, hF⟩
  have HM := Aside0.mk (hF.keep HM.out (by omega))
  have HB := Aside0.mk (hF.belowOf HB.out (by have := blk_lt HI.out; omega) (by omega))
  have HI := Aside0.mk hI
  have HY1 := Aside0.mk hq1
  clear hI hF hq1
  go_wp2_with fail
  refine (rnum_calls (w.heap.size + 1) y1 b1 b2 e1 e2 n2 _ HI.out HY1.out (by omega) H2.out).mono ?_
  rintro r2 v2 ⟨rfl, ⟨y2, hI, hq2, hs2⟩, hF⟩
  have HM := Aside0.mk (hF.keep HM.out (by omega))
  have HB := Aside0.mk (hF.belowOf HB.out (by have := blk_lt HI.out; omega) (by omega))
  have HI := Aside0.mk hI
  have HY2 := Aside0.mk hq2
  clear hI hF hq2
  go_wp2_with fail
  refine (rnum_calls (w.heap.size + 1) y2 b2 b3 e2 e3 n3 _ HI.out HY2.out (by omega) H3.out).mono ?_
  rintro r3 v3 ⟨rfl, ⟨y3, hI, hq3, hs3⟩, hF⟩
  have HM := Aside0.mk (hF.keep HM.out (by omega))
  have HB := Aside0.mk (hF.belowOf HB.out (by have := blk_lt HI.out; omega) (by omega))
  have HI := Aside0.mk hI
  have HY3 := Aside0.mk hq3
  clear hI hF hq3
  have i0 : v3.cell? ⟨w.heap.size + 1, 0, none⟩ = some (.string y3) := (blk_cell HI.out 0).trans rfl
  have i1 : v3.cell? ⟨w.heap.size + 1, 1, none⟩ = some (.int .i64 e3) := (blk_cell HI.out 1).trans rfl
  have d0 : v3.cell? ⟨w.heap.size, 0, none⟩ = some (.int .i64 0) := (blk_cell HM.out 0).trans rfl
  have g0 := blk_frozen HM.out 0
  have d1 : v3.cell? ⟨w.heap.size, 1, none⟩ = some (.int .i64 0) := (blk_cell HM.out 1).trans rfl
  have g1 := blk_frozen HM.out 1
  have d2 : v3.cell? ⟨w.heap.size, 2, none⟩ = some (.int .i64 0) := (blk_cell HM.out 2).trans rfl
  have g2 := blk_frozen HM.out 2
  have d3 : v3.cell? ⟨w.heap.size, 3, none⟩ = some (.string ⟨#[]⟩) := (blk_cell HM.out 3).trans rfl
  have g3 := blk_frozen HM.out 3
  have hlt3 : w.heap.size + 1 < v3.heap.size := blk_lt HI.out
  have hlt4 : w.heap.size < v3.heap.size := by omega
  by_cases he : e3 = 0
  · subst he
    obtain rfl := HY3.out rfl
    go_wp2_with fail
    obtain ⟨gm, hgm⟩ : ∃ x, x = v3.heap.size := ⟨_, rfl⟩
    have HN := Aside0.mk (blk_new v3 (.cells #[.int .i64 (n1 : Int), .int .i64 (n2 : Int), .int .i64 (n3 : Int), .string y3] 48))
    have HM := Aside0.mk (blk_alloc HM.out (.cells #[.int .i64 (n1 : Int), .int .i64 (n2 : Int), .int .i64 (n3 : Int), .string y3] 48))
    have HB := Aside0.mk (below_alloc HB.out (.cells #[.int .i64 (n1 : Int), .int .i64 (n2 : Int), .int .i64 (n3 : Int), .string y3] 48))
    rw [← hgm] at HN ⊢
    have hg1 : w.heap.size + 1 < gm := by omega
    clear d0 d1 d2 d3 g0 g1 g2 g3 i0 i1 hgm
    refine (validref_calls n1 n2 n3 y3 _).mono ?_
    rintro r6 v6 ⟨rfl, hb⟩
    have HM := Aside0.mk (blk_below HM.out hb)
    have HN := Aside0.mk (blk_below HN.out hb)
    have HB := Aside0.mk (below_step HB.out hb)
    clear hb
    have c0 : v6.cell? ⟨gm, 0, none⟩ = some (.int .i64 (n1 : Int)) := (blk_cell HN.out 0).trans rfl
    have f0 := blk_frozen HN.out 0
    have c1 : v6.cell? ⟨gm, 1, none⟩ = some (.int .i64 (n2 : Int)) := (blk_cell HN.out 1).trans rfl
    have f1 := blk_frozen HN.out 1
    have c2 : v6.cell? ⟨gm, 2, none⟩ = some (.int .i64 (n3 : Int)) := (blk_cell HN.out 2).trans rfl
    have f2 := blk_frozen HN.out 2
    have c3 : v6.cell? ⟨gm, 3, none⟩ = some (.string y3) := (blk_cell HN.out 3).trans rfl
    have f3 := blk_frozen HN.out 3
    have d0 : v6.cell? ⟨w.heap.size, 0, none⟩ = some (.int .i64 0) := (blk_cell HM.out 0).trans rfl
    have g0 := blk_frozen HM.out 0
    have d1 : v6.cell? ⟨w.heap.size, 1, none⟩ = some (.int .i64 0) := (blk_cell HM.out 1).trans rfl
    have g1 := blk_frozen HM.out 1
    have d2 : v6.cell? ⟨w.heap.size, 2, none⟩ = some (.int .i64 0) := (blk_cell HM.out 2).trans rfl
    have g2 := blk_frozen HM.out 2
    have d3 : v6.cell? ⟨w.heap.size, 3, none⟩ = some (.string ⟨#[]⟩) := (blk_cell HM.out 3).trans rfl
    have g3 := blk_frozen HM.out 3
    by_cases hv : dVal n1 n2 n3 y3 = true
    · rw [hv]
      go_wp2
      refine bodyPost_ret (results_ct rfl _ _ w.heap.size 48 #[.int .i64 (n1 : Int), .int .i64 (n2 : Int), .int .i64 (n3 : Int), .string y3] (0, 0) _ rfl (by refine blk_put (cs := #[.int .i64 (n1 : Int), .int .i64 (n2 : Int), .int .i64 (n3 : Int), .string ⟨#[]⟩]) ?_ 3 _ rfl; refine blk_put (cs := #[.int .i64 (n1 : Int), .int .i64 (n2 : Int), .int .i64 0, .string ⟨#[]⟩]) ?_ 2 _ rfl; refine blk_put (cs := #[.int .i64 (n1 : Int), .int .i64 0, .int .i64 0, .string ⟨#[]⟩]) ?_ 1 _ rfl; refine blk_put (cs := #[.int .i64 0, .int .i64 0, .int .i64 0, .string ⟨#[]⟩]) ?_ 0 _ rfl; exact HM.out) Try.underlying48 rfl (by kernel_rfl)) rfl ?_
      exact ⟨rfl, below_set (below_set (below_set (below_set HB.out (Nat.le_refl _)) (Nat.le_refl _)) (Nat.le_refl _)) (Nat.le_refl _)⟩
    · rw [show dVal n1 n2 n3 y3 = false by simpa using hv]
      go_wp2
      refine bodyPost_ret (results_ct rfl _ _ w.heap.size 48 #[.int .i64 0, .int .i64 0, .int .i64 0, .string ⟨#[]⟩] (0, 0) _ rfl (by refine blk_put (cs := #[.int .i64 0, .int .i64 0, .int .i64 0, .string ⟨#[]⟩]) ?_ 3 _ rfl; refine blk_put (cs := #[.int .i64 0, .int .i64 0, .int .i64 0, .string ⟨#[]⟩]) ?_ 2 _ rfl; refine blk_put (cs := #[.int .i64 0, .int .i64 0, .int .i64 0, .string ⟨#[]⟩]) ?_ 1 _ rfl; refine blk_put (cs := #[.int .i64 0, .int .i64 0, .int .i64 0, .string ⟨#[]⟩]) ?_ 0 _ rfl; exact HM.out) Try.underlying48 rfl (by kernel_rfl)) rfl ?_
      exact ⟨rfl, below_set (below_set (below_set (below_set HB.out (Nat.le_refl _)) (Nat.le_refl _)) (Nat.le_refl _)) (Nat.le_refl _)⟩
  · have he' : (e3 != 0) = true := by simpa using he
    go_wp2
    have XI := Aside0.mk (show IsRIn (v3.alloc (.cells #[.int .i64 (n1 : Int), .int .i64 (n2 : Int), .int .i64 (n3 : Int), .string ⟨#[]⟩] 48)).drew (w.heap.size + 1) y3 e3 from blk_alloc HI.out (.cells #[.int .i64 (n1 : Int), .int .i64 (n2 : Int), .int .i64 (n3 : Int), .string ⟨#[]⟩] 48))
    have XM := Aside0.mk (blk_alloc HM.out (.cells #[.int .i64 (n1 : Int), .int .i64 (n2 : Int), .int .i64 (n3 : Int), .string ⟨#[]⟩] 48))
    have XB := Aside0.mk (below_alloc HB.out (.cells #[.int .i64 (n1 : Int), .int .i64 (n2 : Int), .int .i64 (n3 : Int), .string ⟨#[]⟩] 48))
    clear i0 i1
    refine wp_region_held_drew (S := fun w' => IsRIn w' (w.heap.size + 1) y3 e3) (by kernel_rfl) (by exact XI.out) (fun hHeld => ?_)
    refine takeH (i := 0) (d := 21) (v := (.agg #[.int .i64 0, .int .i64 0, .int .i64 0, .string ⟨#[]⟩])) rfl rfl (by kernel_rfl) (by kernel_rfl) (by kernel_rfl) (fun _ _ _ h => h) (Or.inl ⟨by kernel_rfl, by intro w hSw; (try dsimp only at hSw); go_simp; done⟩) (by assumption) ?_
    try simp only [List.setIfInBounds_toArray, List.set_cons_zero, List.set_cons_succ]
    refine takeH (i := 1) (d := 22) (v := (.pointer (some ⟨w.heap.size + 1, 0, none⟩))) rfl rfl (by kernel_rfl) (by kernel_rfl) (by kernel_rfl) (fun _ _ _ h => h) (Or.inl ⟨by kernel_rfl, by intro w hSw; (try dsimp only at hSw); go_simp; done⟩) (by assumption) ?_
    try simp only [List.setIfInBounds_toArray, List.set_cons_zero, List.set_cons_succ]
    refine takeH (i := 2) (d := 23) (v := (.pointer (some ⟨w.heap.size + 1, 0, none⟩))) rfl rfl (by kernel_rfl) (by kernel_rfl) (by kernel_rfl) (fun _ _ _ h => h) (Or.inl ⟨by kernel_rfl, by intro w hSw; (try dsimp only at hSw); go_simp; done⟩) (by assumption) ?_
    try simp only [List.setIfInBounds_toArray, List.set_cons_zero, List.set_cons_succ]
    refine takeH (i := 3) (d := 24) (v := (.pointer (some ⟨w.heap.size + 1, 1, none⟩))) rfl rfl (by kernel_rfl) (by kernel_rfl) (by kernel_rfl) (fun _ _ _ h => h) (Or.inl ⟨by kernel_rfl, by intro w hSw; (try dsimp only at hSw); go_simp; done⟩) (by assumption) ?_
    try simp only [List.setIfInBounds_toArray, List.set_cons_zero, List.set_cons_succ]
    refine takeH (i := 4) (d := 25) (v := (.int .i64 e3)) rfl rfl (by kernel_rfl) (by kernel_rfl) (by kernel_rfl) (fun _ _ _ h => h) (Or.inl ⟨by kernel_rfl, by intro w hSw; (try dsimp only at hSw); have c1 := blk_cell hSw 1; simp only [List.getElem?_toArray, List.getElem?_cons_zero, List.getElem?_cons_succ] at c1; clear hSw; go_simp; done⟩) (by assumption) ?_
    try simp only [List.setIfInBounds_toArray, List.set_cons_zero, List.set_cons_succ]
    refine wpAnyH_ready (rs := [5]) (by kernel_rfl) (by simp) ?_
    refine AllReadyH.cons (o := { dst := none, op := Op.store 48 (Operand.tmp 2) (Operand.tmp 21), type := 0, pos := "sync.go:417", after := #[{ on := 0, ground := Ground.data }, { on := 0, ground := Ground.phase }, { on := 1, ground := Ground.textOnly Departure.lateStores }, { on := 2, ground := Ground.textOnly Departure.lateStores }, { on := 3, ground := Ground.textOnly Departure.lateStores }, { on := 4, ground := Ground.textOnly Departure.lateStores }], guard := none }) rfl (fun K hK => ?_) AllReadyH.nil
    rw [if_pos (by kernel_rfl)]
    go_simp
    clear hHeld d0 d1 d2 d3 g0 g1 g2 g3
    refine hK.out _ _ (show IsRIn _ (w.heap.size + 1) y3 e3 from blk_alloc (isRIn_far4 (t := w.heap.size) HI.out (by omega) _ _ _ _) _) (fun hHeld => ?_)
    clear hK K
    try simp only [Act.put, List.setIfInBounds_toArray, List.set_cons_zero, List.set_cons_succ]
    refine takeH (i := 6) (d := 3) (v := (.int .i64 e3)) rfl rfl (by kernel_rfl) (by kernel_rfl) (by kernel_rfl) (fun _ _ _ h => h) (Or.inl ⟨by kernel_rfl, by intro w hSw; (try dsimp only at hSw); go_simp; done⟩) (by assumption) ?_
    try simp only [List.setIfInBounds_toArray, List.set_cons_zero, List.set_cons_succ]
    refine wpAnyH_done (by kernel_rfl) ?_ _
    go_wp2
    refine bodyPost_ret (results_ct rfl _ _ w.heap.size 48 #[.int .i64 0, .int .i64 0, .int .i64 0, .string ⟨#[]⟩] (0, 0) _ rfl (by refine blk_alloc ?_ _; refine blk_put (cs := #[.int .i64 0, .int .i64 0, .int .i64 0, .string ⟨#[]⟩]) ?_ 3 _ rfl; refine blk_put (cs := #[.int .i64 0, .int .i64 0, .int .i64 0, .string ⟨#[]⟩]) ?_ 2 _ rfl; refine blk_put (cs := #[.int .i64 0, .int .i64 0, .int .i64 0, .string ⟨#[]⟩]) ?_ 1 _ rfl; refine blk_put (cs := #[.int .i64 0, .int .i64 0, .int .i64 0, .string ⟨#[]⟩]) ?_ 0 _ rfl; exact HM.out) Try.underlying48 rfl (by kernel_rfl)) rfl ?_
    exact ⟨by simp [he], below_drew (below_alloc (below_set (below_set (below_set (below_set HB.out (Nat.le_refl _)) (Nat.le_refl _)) (Nat.le_refl _)) (Nat.le_refl _)) _)⟩
end Go.Proofs.Ytjjjinpmflghmaa.Obj
