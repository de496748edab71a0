/- What the calls of the document's window come to. Conditions: those in each theorem. -/
import Derived.Test.YtgilccdajlpeaaaPureWindowFar
import Derived.OpenShut
import Derived.WalkArith
import Derived.Deep.AppendLies
namespace Go.Proofs.Ytgilccdajlpeaaa.Win
open Go.RowKit Go.Proofs.Ytgilccdajlpeaaa.PWindowFar Go.Proofs.Ytgilccdajlpeaaa.Pure Go.Proofs.YtgilccdajlpeaaaW.PrintWords Go.Proofs.YtgilccdajlpeaaaW.PrintLast Go.Proofs.YtgilccdajlpeaaaW.PrintMore
attribute [local go_sem] max2_int min2_int max_two min_two max_three min_three max_four min_four
set_option linter.unusedVariables false
set_option linter.unusedSimpArgs false

/-- The document's window at block g: its top, and the numbers that came. -/
def IsW (B : Nat) (w : World) (g : Nat) (t : Int) (G : List Int) : Prop :=
  ∃ v, w.heap[g]? = some (.cells #[.int .i64 t, v] 42 (0, 0)) ∧ w.ownsRow B 3 1 v G.length (nums .i64 G)
theorem IsW.below {B g : Nat} {w w' : World} {t : Int} {G : List Int} (h : IsW B w g t G) (hb : Below w.heap.size w w') : IsW B w' g t G := by
  obtain ⟨v, h1, h2⟩ := h
  exact ⟨v, blk_below h1 hb, pw_own_below h2 hb⟩
theorem IsW.lt {B g : Nat} {w : World} {t : Int} {G : List Int} (h : IsW B w g t G) : g < w.heap.size := by
  obtain ⟨v, h1, h2⟩ := h
  exact blk_lt h1
/-- May n come? -/
def rfr (t : Int) (G : List Int) (n : Int) : Bool := decide (1 ≤ n) && decide (n ≤ 4611686018427387904) && decide (t - 64 < n) && decide (n ∉ G)
set_option maxHeartbeats 4000000 in
set_option maxRecDepth 100000 in
theorem rfresh_calls (B g : Nat) (t : Int) (G : List Int) (n : Int) (w : World) (h : IsW B w g t G) (h0 : 0 ≤ t) (h1 : t ≤ 4611686018427387904) (hG : G.length ≤ 1000) :
    Calls Try.prog 19 #[.pointer (some ⟨g, 0, none⟩), .int .i64 n] w fun r w' => r = .returned (.bool (rfr t G n)) ∧ w = w' := by
  obtain ⟨v, hb, ho⟩ := h
  obtain ⟨A, c, rfl⟩ := own_slice ho
  have c0 : w.cell? ⟨g, 0, none⟩ = some (.int .i64 t) := (blk_cell hb 0).trans rfl
  have c1 : w.cell? ⟨g, 1, none⟩ = some (.slice A G.length c) := (blk_cell hb 1).trans rfl
  have HO := Aside0.mk ho
  have hw : wrap64 (t - 64) = t - 64 := by unfold wrap64; omega
  clear hb ho
  by_cases q1 : n < 1
  · have hr : rfr t G n = false := by simp [rfr]; omega
    rw [hr]
    go_enter Try.func19, Try.ntmps19
    go_wp2
    go_ret
    exact ⟨rfl, rfl⟩
  by_cases q2 : 4611686018427387904 < n
  · have hr : rfr t G n = false := by simp [rfr]; omega
    rw [hr]
    go_enter Try.func19, Try.ntmps19
    go_wp2
    go_ret
    exact ⟨rfl, rfl⟩
  by_cases q3 : n ≤ t - 64
  · have hr : rfr t G n = false := by simp [rfr]; omega
    rw [hr]
    go_enter Try.func19, Try.ntmps19
    go_wp2
    go_ret
    exact ⟨rfl, rfl⟩
  have hrr : rfr t G n = decide (n ∉ G) := by
    simp only [rfr]
    rw [decide_eq_true (show 1 ≤ n by omega), decide_eq_true (show n ≤ 4611686018427387904 by omega), decide_eq_true (show t - 64 < n by omega)]
    simp
  have HRR := Aside0.mk hrr
  clear hrr
  go_enter Try.func19, Try.ntmps19
  go_wp2_with fail
  go_loopg [5] G.length (fun kq v5 wr => ∃ (i : Nat), v5 = .int .i64 (i : Int) ∧ Aside0 (i ≤ G.length ∧ kq = G.length - i) ∧ Aside0 (∀ j, j < i → G[j]? ≠ some n) ∧ wr = w)
  case atStart => exact ⟨0, rfl, ⟨Nat.zero_le _, rfl⟩, ⟨fun j hj => absurd hj (Nat.not_lt_zero j)⟩, rfl⟩
  case round =>
    obtain ⟨i, rfl, ⟨hi, hkq⟩, HN, rfl⟩ := hrel
    have HQ := Aside0.mk hkq
    clear hkq
    by_cases hlt : i < G.length
    · have hi0 : (0 : Int) ≤ (i : Int) := Int.natCast_nonneg _
      have hi1 : (i : Int) < (G.length : Int) := by omega
      obtain ⟨gl, cc, he, _, _⟩ := HO.out.form (by omega)
      injection he with hA _ hc
      subst hA
      subst hc
      have hx := (own_at HO.out (i : Int) hi0 hi1).1
      rw [Int.toNat_natCast] at hx
      have hGi : G[i]? = some (rd G (i : Int)) := by simp [rd, hlt]
      obtain ⟨x, hxx⟩ : ∃ x, x = rd G (i : Int) := ⟨_, rfl⟩
      rw [← hxx] at hx hGi
      have HGi := Aside0.mk hGi
      clear hxx hGi
      by_cases hxn : x = n
      · subst hxn
        have HM := Aside0.mk (show rfr t G x = false by rw [HRR.out]; simpa using List.mem_of_getElem? HGi.out)
        go_wp2
        go_ret
        exact ⟨by rw [HM.out]; rfl, rfl⟩
      · have hne : (x == n) = false := by simpa using hxn
        go_wp2
        go_roundg (G.length - (i + 1))
        case measure => have := HQ.out; omega
        case rel => exact ⟨i + 1, by go_num, ⟨by omega, rfl⟩, ⟨fun j hj => by
          rcases Nat.lt_succ_iff_lt_or_eq.1 hj with hj | rfl
          · exact HN.out j hj
          · rw [HGi.out]; simpa using hxn⟩, rfl⟩
    · have HM := Aside0.mk (show rfr t G n = true by
        rw [HRR.out]
        simp only [decide_eq_true_eq]
        intro hmem
        obtain ⟨j, hj, hje⟩ := List.getElem_of_mem hmem
        exact HN.out j (by omega) (by rw [List.getElem?_eq_getElem hj, hje]))
      go_wp2
      go_ret
      exact ⟨by rw [HM.out]; rfl, rfl⟩
/-- The numbers that came, as bits. -/
def rbits (t : Int) (G : List Int) : Nat := G.foldl (fun b x => b ||| (1 <<< (t - x).toNat)) 0
theorem rbits_lt (t : Int) : ∀ (G : List Int) (b : Nat), b < 2 ^ 64 → (∀ x ∈ G, t - 64 < x ∧ x ≤ t) → G.foldl (fun b x => b ||| (1 <<< (t - x).toNat)) b < 2 ^ 64
  | [], b, hb, _ => hb
  | x :: G, b, hb, h => by
    have hx := h x (List.mem_cons_self ..)
    refine rbits_lt t G _ (Nat.or_lt_two_pow hb ?_) (fun y hy => h y (List.mem_cons_of_mem _ hy))
    rw [Nat.one_shiftLeft]
    exact Nat.pow_lt_pow_right (by decide) (by omega)
theorem sh_val (j : Nat) (h : j < 64) : IntKind.u64.wrap (2 ^ min j 64) = ((1 <<< j : Nat) : Int) := by
  rw [Nat.min_eq_left (by omega), Nat.one_shiftLeft]
  have h2 : (2 : Nat) ^ j < 2 ^ 64 := Nat.pow_lt_pow_right (by decide) h
  have h3 : ((2 : Int) ^ j) = ((2 ^ j : Nat) : Int) := by simp
  rw [h3]
  generalize (2 : Nat) ^ j = q at h2
  rw [k_u64]
  omega
set_option maxHeartbeats 4000000 in
set_option maxRecDepth 100000 in
theorem rbits_calls (B g : Nat) (t : Int) (G : List Int) (w : World) (h : IsW B w g t G) (h0 : 0 ≤ t) (h1 : t ≤ 4611686018427387904) (hG : G.length ≤ 1000) (hin : ∀ x ∈ G, t - 64 < x ∧ x ≤ t) :
    Calls Try.prog 21 #[.pointer (some ⟨g, 0, none⟩)] w fun r w' => r = .returned (.int .u64 (rbits t G : Nat)) ∧ ∃ m, w' = w.drewN m := by
  obtain ⟨v, hb, ho⟩ := h
  obtain ⟨A, c, rfl⟩ := own_slice ho
  have c0 : w.cell? ⟨g, 0, none⟩ = some (.int .i64 t) := (blk_cell hb 0).trans rfl
  have c1 : w.cell? ⟨g, 1, none⟩ = some (.slice A G.length c) := (blk_cell hb 1).trans rfl
  have HO := Aside0.mk ho
  have HIN := Aside0.mk hin
  clear hb ho hin
  go_enter Try.func21, Try.ntmps21
  go_wp2_with fail
  go_loopg [3, 4] G.length (fun kq v3 v4 wr => ∃ (i b : Nat), v3 = .int .u64 (b : Int) ∧ v4 = .int .i64 (i : Int) ∧ Aside0 (i ≤ G.length ∧ kq = G.length - i) ∧ Aside0 (b < 2 ^ 64 ∧ (G.drop i).foldl (fun b x => b ||| (1 <<< (t - x).toNat)) b = rbits t G) ∧ ∃ m, wr = w.drewN m)
  case atStart => exact ⟨0, 0, rfl, rfl, ⟨Nat.zero_le _, rfl⟩, ⟨by decide, rfl⟩, ⟨0, rfl⟩⟩
  case round =>
    obtain ⟨i, b, rfl, rfl, ⟨hi, hkq⟩, ⟨hb64, hfold⟩, ⟨m, rfl⟩⟩ := hrel
    have HQ := Aside0.mk hkq
    have HF := Aside0.mk hfold
    have HB := Aside0.mk hb64
    clear hkq hfold hb64
    by_cases hlt : i < G.length
    · have hi0 : (0 : Int) ≤ (i : Int) := Int.natCast_nonneg _
      have hi1 : (i : Int) < (G.length : Int) := by omega
      obtain ⟨gl, cc, he, _, _⟩ := HO.out.form (by omega)
      injection he with hA _ hc
      subst hA
      subst hc
      have hx := (own_at HO.out (i : Int) hi0 hi1).1
      rw [Int.toNat_natCast] at hx
      obtain ⟨x, hxx⟩ : ∃ x, x = rd G (i : Int) := ⟨_, rfl⟩
      have hGi : G[i]? = some x := by rw [hxx]; simp [rd, hlt]
      rw [← hxx] at hx
      have hin := HIN.out x (List.mem_of_getElem? hGi)
      obtain ⟨j, hj⟩ : ∃ j : Nat, t - x = (j : Int) := ⟨(t - x).toNat, by omega⟩
      have hj6 : j < 64 := by omega
      have hw : wrap64 (t - x) = (j : Int) := by rw [hj]; unfold wrap64; omega
      have hj0 : (0 : Int) ≤ (j : Int) := Int.natCast_nonneg _
      have hsh := k_shl 1 j hj6
      have h1j : (1 <<< j) % 2 ^ 64 = 1 <<< j := Nat.mod_eq_of_lt (by rw [Nat.one_shiftLeft]; exact Nat.pow_lt_pow_right (by decide) hj6)
      have hlt64 : (1 <<< j : Nat) < 2 ^ 64 := by rw [Nat.one_shiftLeft]; exact Nat.pow_lt_pow_right (by decide) hj6
      rw [h1j, show ((1 : Nat) : Int) = 1 from rfl] at hsh
      obtain ⟨sj, hsj⟩ : ∃ q, q = (1 <<< j : Nat) := ⟨_, rfl⟩
      rw [← hsj] at hsh hlt64
      have hor := k_or b sj HB.out hlt64
      have hsv := sh_val j hj6
      rw [← hsj] at hsv
      have HF2 := Aside0.mk (show (G.drop (i + 1)).foldl (fun b x => b ||| (1 <<< (t - x).toNat)) (b ||| sj) = rbits t G by
        have := HF.out
        rw [List.drop_eq_getElem_cons hlt] at this
        have hg : G[i] = x := by have := List.getElem?_eq_getElem hlt; rw [hGi] at this; injection this with this; exact this.symm
        rw [hg, List.foldl_cons, hj, Int.toNat_natCast, ← hsj] at this
        exact this)
      have HB2 := Aside0.mk (Nat.or_lt_two_pow HB.out hlt64)
      clear hxx hGi hin hj hsj h1j hlt64 hj6
      go_wp2
      go_quiet (fail)
      go_wp2
      go_roundg (G.length - (i + 1))
      case measure => have := HQ.out; omega
      case rel => exact ⟨i + 1, b ||| sj, by first | rfl | rw [hsv, hor], by go_num, ⟨hlt, rfl⟩, ⟨HB2.out, HF2.out⟩, ⟨m + nq, rfl⟩⟩
    · obtain rfl : i = G.length := by omega
      have HE := Aside0.mk (show b = rbits t G by have := HF.out; rwa [List.drop_length] at this)
      go_wp2
      go_ret
      exact ⟨by rw [← HE.out]; rfl, ⟨_, rfl⟩⟩
/-- What is left of the numbers that came. -/
def rleft (t : Int) (G : List Int) : List Int := G.filter (fun x => decide (t - 64 < x))
theorem rleft_le (t : Int) (G : List Int) : (rleft t G).length ≤ G.length := List.length_filter_le ..
theorem rleft_step (t : Int) {G : List Int} {i : Nat} (hi : i < G.length) : rleft t (G.take (i + 1)) = if t - 64 < G[i] then rleft t (G.take i) ++ [G[i]] else rleft t (G.take i) := by
  rw [List.take_succ_eq_append_getElem hi]
  unfold rleft
  rw [List.filter_append]
  by_cases h : t - 64 < G[i]
  · rw [if_pos h, List.filter_cons_of_pos (by simpa using h)]; rfl
  · rw [if_neg h, List.filter_cons_of_neg (by simpa using h)]; simp
/-- All but block g stays. -/
structure Fg (g : Nat) (w w' : World) : Prop where
  os : w'.os = w.os
  tape : w'.tape = w.tape
  output : w'.output = w.output
  size : w.heap.size ≤ w'.heap.size
  low : ∀ i, i < w.heap.size → i ≠ g → w'.heap[i]? = w.heap[i]?
theorem infoI : (Try.prog.info? 3).map (fun i => (i.zero, i.size, i.bytes)) = some (some (.int .i64 0), 1, 8) := by kernel_rfl
set_option maxHeartbeats 4000000 in
set_option maxRecDepth 100000 in
theorem rmark_aux (B g : Nat) (t t' : Int) (G : List Int) (n : Int) (w : World) (h : IsW B w g t G) (h0 : 0 ≤ t) (h1 : t ≤ 4611686018427387904) (hn : n ≤ 4611686018427387904) (hG : G.length ≤ 900) (hgB : g < B) (hBs : B ≤ w.heap.size) (hf : rfr t G n = true) (hq : t' = n ∧ t < n ∨ t' = t ∧ n ≤ t) :
    Calls Try.prog 20 #[.pointer (some ⟨g, 0, none⟩), .int .i64 n] w fun r w' => r = .returned (.bool true) ∧ IsW B w' g t' (rleft t' G ++ [n]) ∧ Fg g w w' := by
  have hfc := fun (W : World) (hI : IsW B W g t G) => rfresh_calls B g t G n W hI h0 h1 (by omega)
  have ht0 : 0 ≤ t' := by omega
  have ht1 : t' ≤ 4611686018427387904 := by omega
  obtain ⟨v, hb, ho⟩ := id h
  obtain ⟨A, c, rfl⟩ := own_slice ho
  have c0 : w.cell? ⟨g, 0, none⟩ = some (.int .i64 t) := (blk_cell hb 0).trans rfl
  have c1 : w.cell? ⟨g, 1, none⟩ = some (.slice A G.length c) := (blk_cell hb 1).trans rfl
  have fz := blk_frozen hb 0
  have HI := Aside0.mk h
  have HO := Aside0.mk ho
  have HK := Aside0.mk hb
  have HF := Aside0.mk hf
  have hw : wrap64 (t' - 64) = t' - 64 := by unfold wrap64; omega
  obtain ⟨n', hn'⟩ : ∃ m, m = n := ⟨_, rfl⟩
  obtain ⟨t2, ht2⟩ : ∃ m, m = t := ⟨_, rfl⟩
  have HN := Aside0.mk hn'
  clear hb ho h hn hf ht2
  rcases hq with ⟨he, hq⟩ | ⟨he, hq⟩ <;> subst he <;> (
    go_enter Try.func20, Try.ntmps20
    go_wp2_with fail
    refine (hfc _ HI.out).mono ?_
    rintro e w1 ⟨rfl, rfl⟩
    rw [HF.out]
    go_wp2_with fail
    obtain ⟨W0, hW0⟩ : ∃ W, W = w.setCell ⟨g, 0, none⟩ (.int .i64 t') := ⟨_, rfl⟩
    have hF0 := Aside0.mk (show W0.heap.size = w.heap.size ∧ W0.heap[g]? = some (.cells #[.int .i64 t', .slice A G.length c] 42 (0, 0)) ∧ W0.ownsRow B 3 1 (.slice A G.length c) G.length (nums .i64 G) ∧ Fg g w W0 by
      subst hW0
      refine ⟨by simp, blk_put HK.out 0 _ rfl, own_setCell HO.out ?_ _, ⟨rfl, rfl, rfl, by simp, fun i _ hg => heap_setCell_other w _ i _ hg⟩⟩
      intro hh
      have := own_base HO.out g hh.symm
      omega)
    rw [← hW0]
    clear hW0
    go_loopg [5, 6] G.length (fun kq v5 v6 wr => ∃ (i : Nat), v6 = .int .i64 (i : Int) ∧ Aside0 (i ≤ G.length ∧ kq = G.length - i) ∧ Aside0 (wr.ownsRow w.heap.size 3 1 v5 (rleft t' (G.take i)).length (nums .i64 (rleft t' (G.take i)))) ∧ Aside0 (Below w.heap.size W0 wr))
    case atStart => exact ⟨0, rfl, ⟨Nat.zero_le _, rfl⟩, ⟨own_nil _ _ _ _⟩, ⟨Below.refl _ _⟩⟩
    case round =>
      obtain ⟨i, rfl, ⟨hi, hkq⟩, HL, HB⟩ := hrel
      have HQ := Aside0.mk hkq
      clear hkq
      have HBs := Aside0.mk (by have := HB.out; rw [← hF0.out.1] at this; exact this)
      have c0 : wr.cell? ⟨g, 0, none⟩ = some (.int .i64 t') := (blk_cell (blk_below hF0.out.2.1 HBs.out) 0).trans rfl
      have c1 : wr.cell? ⟨g, 1, none⟩ = some (.slice A G.length c) := (blk_cell (blk_below hF0.out.2.1 HBs.out) 1).trans rfl
      have HOw := Aside0.mk (pw_own_below hF0.out.2.2.1 HBs.out)
      obtain ⟨A5, c5, rfl⟩ := own_slice HL.out
      by_cases hlt : i < G.length
      · have hi0 : (0 : Int) ≤ (i : Int) := Int.natCast_nonneg _
        have hi1 : (i : Int) < (G.length : Int) := by omega
        obtain ⟨gl, cc, he, _, _⟩ := HOw.out.form (by omega)
        injection he with hA _ hc
        subst hA
        subst hc
        have hx := (own_at HOw.out (i : Int) hi0 hi1).1
        rw [Int.toNat_natCast] at hx
        have hGi : G[i] = rd G (i : Int) := by simp [rd, hlt]
        obtain ⟨x, hxx⟩ : ∃ x, x = rd G (i : Int) := ⟨_, rfl⟩
        rw [← hxx] at hx hGi
        have hst := rleft_step t' hlt
        rw [hGi] at hst
        have HGi := Aside0.mk hst
        clear hxx hGi hst
        by_cases hxn : t' - 64 < x
        · go_wp2_with fail
          go_quiet (fail)
          have HL := Aside0.mk (pw_own_drewN HL.out nq)
          have HB := Aside0.mk (pw_below_drewN HB.out nq)
          go_wp2_with (first | (at_builtin; refine Aside0.out ?_))
          refine ⟨?_⟩
          refine print_append_num (w0 := W0) w.heap.size rfl (.tmp 42) (.tmp 50) 22 3 .i64 8 rfl Try.underlying22 infoI (by decide) _ (rleft t' (G.take i)) _ rfl (by simp [Act.eval]) (by exact HL.out) HB.out (by have := HB.out.size; have := hF0.out.1; omega) (by have := rleft_le t' (G.take i); simp only [List.length_take] at this; omega) ?_
          intro v1 w1 ho1 hB1 _ _
          have HL1 := Aside0.mk (show w1.ownsRow w.heap.size 3 1 v1 (rleft t' (G.take (i + 1))).length (nums .i64 (rleft t' (G.take (i + 1)))) by rw [HGi.out, if_pos hxn]; exact ho1)
          have HB1 := Aside0.mk hB1
          clear ho1 hB1
          go_wp2
          go_roundg (G.length - (i + 1))
          case measure => have := HQ.out; omega
          case rel => exact ⟨i + 1, by go_num, ⟨by omega, rfl⟩, HL1, HB1⟩
        · have HL1 := Aside0.mk (show wr.ownsRow w.heap.size 3 1 (.slice A5 (rleft t' (G.take i)).length c5) (rleft t' (G.take (i + 1))).length (nums .i64 (rleft t' (G.take (i + 1)))) by rw [HGi.out, if_neg hxn]; exact HL.out)
          go_wp2_with fail
          go_quiet (fail)
          have HL1 := Aside0.mk (pw_own_drewN HL1.out nq)
          have HB := Aside0.mk (pw_below_drewN HB.out nq)
          go_wp2
          go_roundg (G.length - (i + 1))
          case measure => have := HQ.out; omega
          case rel => exact ⟨i + 1, by go_num, ⟨by omega, rfl⟩, HL1, HB⟩
      · obtain rfl : i = G.length := by omega
        rw [List.take_length] at HL ⊢
        go_wp2_with (first | (at_builtin; refine Aside0.out ?_))
        refine ⟨?_⟩
        refine print_append_num (w0 := W0) w.heap.size rfl (.tmp 53) (.tmp 55) 22 3 .i64 8 rfl Try.underlying22 infoI (by decide) _ (rleft t' G) _ rfl (by simp [Act.eval]) (by exact HL.out) HB.out (by have := HB.out.size; have := hF0.out.1; omega) (by have := rleft_le t' G; omega) ?_
        intro v1 w1 ho1 hB1 _ _
        obtain ⟨A8, c8, rfl⟩ := own_slice ho1
        have hb1 := blk_below hF0.out.2.1 (show Below W0.heap.size W0 w1 by rw [hF0.out.1]; exact hB1)
        have c2 : w1.cell? ⟨g, 1, none⟩ = some (.slice A G.length c) := (blk_cell hb1 1).trans rfl
        have fz1 := blk_frozen hb1 1
        have hI1 := Aside0.mk (show IsW B (w1.setCell ⟨g, 1, none⟩ (.slice A8 (rleft t' G ++ [_]).length c8)) g t' (rleft t' G ++ [_]) from ⟨_, blk_put hb1 1 _ rfl, own_weaken (own_setCell ho1 (by
          intro hh
          have := own_base ho1 g hh.symm
          omega) _) hBs⟩)
        have hF1 := Aside0.mk (show ∀ u : Value, Fg g w (w1.setCell ⟨g, 1, none⟩ u) from fun u => ⟨hB1.os.trans hF0.out.2.2.2.os, hB1.tape.trans hF0.out.2.2.2.tape, hB1.output.trans hF0.out.2.2.2.output, by have := hB1.size; have := hF0.out.1; simp; omega, fun i hi hg => (heap_setCell_other w1 _ i _ hg).trans ((hB1.block i hi).trans (hF0.out.2.2.2.low i hi hg))⟩)
        clear ho1 hB1 hb1
        go_wp2
        go_ret
        have HI9 := hI1.out
        rw [List.length_append, List.length_singleton] at HI9
        exact ⟨rfl, HI9, hF1.out _⟩)
theorem rmark_calls (B g : Nat) (t : Int) (G : List Int) (n : Int) (w : World) (h : IsW B w g t G) (h0 : 0 ≤ t) (h1 : t ≤ 4611686018427387904) (hG : G.length ≤ 900) (hgB : g < B) (hBs : B ≤ w.heap.size) (hf : rfr t G n = true) :
    Calls Try.prog 20 #[.pointer (some ⟨g, 0, none⟩), .int .i64 n] w fun r w' => r = .returned (.bool true) ∧ IsW B w' g (max t n) (rleft (max t n) G ++ [n]) ∧ Fg g w w' := by
  have hn : n ≤ 4611686018427387904 := by
    simp only [rfr, Bool.and_eq_true, decide_eq_true_eq] at hf
    omega
  exact rmark_aux B g t (max t n) G n w h h0 h1 hn hG hgB hBs hf (by omega)
set_option maxHeartbeats 4000000 in
set_option maxRecDepth 100000 in
theorem rmark_not (B g : Nat) (t : Int) (G : List Int) (n : Int) (w : World) (h : IsW B w g t G) (h0 : 0 ≤ t) (h1 : t ≤ 4611686018427387904) (hG : G.length ≤ 900) (hf : rfr t G n = false) :
    Calls Try.prog 20 #[.pointer (some ⟨g, 0, none⟩), .int .i64 n] w fun r w' => r = .returned (.bool false) ∧ w = w' := by
  have hfc := fun (W : World) (hI : IsW B W g t G) => rfresh_calls B g t G n W hI h0 h1 (by omega)
  have HI := Aside0.mk h
  have HF := Aside0.mk hf
  clear h hf
  go_enter Try.func20, Try.ntmps20
  go_wp2_with fail
  refine (hfc _ HI.out).mono ?_
  rintro e w1 ⟨rfl, rfl⟩
  rw [HF.out]
  go_wp2
  go_ret
  exact ⟨rfl, rfl⟩
/-- Mark, both ways. -/
theorem rmark_all (B g : Nat) (t t' : Int) (G G' : List Int) (b : Bool) (n : Int) (w : World) (h : IsW B w g t G) (h0 : 0 ≤ t) (h1 : t ≤ 4611686018427387904) (hG : G.length ≤ 900) (hgB : g < B) (hBs : B ≤ w.heap.size)
    (hb : b = rfr t G n) (hr : t' = (if b = true then max t n else t) ∧ G' = (if b = true then rleft (max t n) G ++ [n] else G)) :
    Calls Try.prog 20 #[.pointer (some ⟨g, 0, none⟩), .int .i64 n] w fun r w' => r = .returned (.bool b) ∧ IsW B w' g t' G' ∧ Fg g w w' := by
  obtain ⟨rfl, rfl⟩ := hr
  cases b with
  | true =>
    rw [if_pos rfl, if_pos rfl]
    exact rmark_calls B g t G n w h h0 h1 hG hgB hBs hb.symm
  | false =>
    rw [if_neg (by simp), if_neg (by simp)]
    refine (rmark_not B g t G n w h h0 h1 hG hb.symm).mono ?_
    rintro r w' ⟨rfl, rfl⟩
    exact ⟨rfl, h, ⟨rfl, rfl, rfl, Nat.le_refl _, fun _ _ _ => rfl⟩⟩
end Go.Proofs.Ytgilccdajlpeaaa.Win
