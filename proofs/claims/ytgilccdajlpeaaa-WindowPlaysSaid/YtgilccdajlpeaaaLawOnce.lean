/- The walk of WindowOnce. Conditions: those in each theorem. -/
import Derived.Test.YtgilccdajlpeaaaOnceD
import Derived.OpenShut
import Derived.WalkArith
import Derived.Deep.AppendLies
import Derived.Maps.Own
import Derived.Maps.OwnOps
import Derived.Maps.OwnSet
namespace Go.Proofs.Ytgilccdajlpeaaa.Once
open Go.RowKit Go.Maps Go.Proofs.Ytgilccdajlpeaaa.PWindowFar Go.Proofs.Ytgilccdajlpeaaa.Pure Go.Proofs.YtgilccdajlpeaaaW.PrintWords Go.Proofs.YtgilccdajlpeaaaW.PrintLast Go.Proofs.YtgilccdajlpeaaaW.PrintMore
attribute [local go_sem] max2_int min2_int max_two min_two max_three min_three max_four min_four
set_option linter.unusedVariables false
set_option linter.unusedSimpArgs false

theorem alive (w : World) : Calls Try.prog 10 #[] w fun e w' => e = .returned (.bool true) ∧ Below w.heap.size w w' :=
  pontoonlaw6_alive.calls 10 true w (alive_ok 10 (Nat.le_refl _))
theorem lawI : Keyed Try.prog 3 := int_keyed Try.underlying3
theorem zeroI (w : World) : (zeroValue 3).run Try.prog w = .ok (.int .i64 0) w := by kernel_rfl
theorem om_same {w w' : World} {k : TypeId} {R : Value → Option (DataW Unit × List MemPlace)} {b n : Nat} {D : DataW Unit} (h : w.ownsMap Try.prog k R b n D) (e : w'.heap[b]? = w.heap[b]?) : w'.ownsMap Try.prog k R b n D := by
  obtain ⟨es, clock, hb, F, hs, hD⟩ := h
  exact ⟨es, clock, e.trans hb, F, hs, hD⟩
theorem om_below {w w' : World} {k : TypeId} {R : Value → Option (DataW Unit × List MemPlace)} {b n : Nat} {D : DataW Unit} (h : w.ownsMap Try.prog k R b n D) (hb : Below w.heap.size w w') : w'.ownsMap Try.prog k R b n D :=
  om_same h (hb.block b (h.lt))
theorem infoI : (Try.prog.info? 3).map (fun i => (i.zero, i.size, i.bytes)) = some (some (.int .i64 0), 1, 8) := by kernel_rfl
/-- What the inner loop holds: the window at t, the numbers, the map. -/
def OS (w : World) (gw gm gl c8 : Nat) (L : List Int) (t s : Nat) (w' : World) : Prop :=
  Below w.heap.size w w' ∧ w'.heap[gw]? = some (.cells #[.int .i64 t, .int .u64 s] 26 (0, 0)) ∧ w'.ownsRow (gm + 1) 3 1 (.slice (some ⟨gl, 0, none⟩) L.length c8) L.length (nums .i64 L) ∧ w'.ownsMap Try.prog 3 (plainElem Try.prog 3) gm t (D t)
section
variable {w w' w2 : World} {gw gm gl c8 t s : Nat} {L : List Int}
theorem os_below (h : OS w gw gm gl c8 L t s w') (hb : Below w'.heap.size w' w2) : OS w gw gm gl c8 L t s w2 :=
  ⟨below_step h.1 hb, blk_below h.2.1 hb, pw_own_below h.2.2.1 hb, om_below h.2.2.2 hb⟩
theorem os_alloc (h : OS w gw gm gl c8 L t s w') (o : Obj) : OS w gw gm gl c8 L t s (w'.alloc o) := os_below h (below_alloc (Below.refl _ _) o)
theorem os_drew (h : OS w gw gm gl c8 L t s w') : OS w gw gm gl c8 L t s w'.drew := ⟨below_drew h.1, h.2.1, h.2.2.1, h.2.2.2⟩
theorem os_set (h : OS w gw gm gl c8 L t s w') {g j : Nat} {v : Value} (hg : w.heap.size ≤ g) (h1 : gw ≠ g) (h2 : gm ≠ g) (h3 : gl ≠ g) : OS w gw gm gl c8 L t s (w'.setCell ⟨g, j, none⟩ v) :=
  ⟨below_set h.1 hg, blk_far h.2.1 h1 _, own_setCell h.2.2.1 (by simp [Value.ownBlock]; omega) _, om_same h.2.2.2 (heap_setCell_other w' _ gm v h2)⟩
theorem os_all (h : OS w gw gm gl c8 L t s w') {k : Nat} (hk : k < L.length) : w'.cell? ⟨gw, 0, none⟩ = some (.int .i64 t) ∧ w'.cell? ⟨gw, 1, none⟩ = some (.int .u64 s) ∧ w'.cell? ⟨gl, k, none⟩ = some (.int .i64 (rd L k)) ∧ OS w gw gm gl c8 L t s w' := by
  refine ⟨(blk_cell h.2.1 0).trans rfl, (blk_cell h.2.1 1).trans rfl, ?_, h⟩
  have := (own_at h.2.2.1 (k : Int) (by omega) (by omega)).1
  rwa [Int.toNat_natCast] at this
end
theorem os_store {w w1 : World} {gw gm gl c8 t s i s' : Nat} {L : List Int} (hB : Below w.heap.size w w1) (hW : w1.heap[gw]? = some (.cells #[.int .i64 t, .int .u64 s] 26 (0, 0))) (hL : w1.ownsRow (gm + 1) 3 1 (.slice (some ⟨gl, 0, none⟩) L.length c8) L.length (nums .i64 L))
    (hM : w1.ownsMap Try.prog 3 (plainElem Try.prog 3) gm (i + 1) (D (i + 1))) (hg : w.heap.size ≤ gw) (h1 : gl ≠ gw) (h2 : gm ≠ gw) :
    OS w gw gm gl c8 L (i + 1) s' ((w1.setCell ⟨gw, 0, none⟩ (.int .i64 ((i : Int) + 1))).setCell ⟨gw, 1, none⟩ (.int .u64 s')) :=
  ⟨below_set (below_set hB hg) hg, blk_put (cs := #[.int .i64 ((i : Int) + 1), .int .u64 s]) (blk_put (cs := #[.int .i64 t, .int .u64 s]) hW 0 _ rfl) 1 _ rfl, own_setCell (own_setCell hL (by simp [Value.ownBlock]; omega) _) (by simp [Value.ownBlock]; omega) _, om_same (om_same hM (heap_setCell_other w1 _ gm _ h2)) (heap_setCell_other _ _ gm _ h2)⟩
theorem takeH {P : Program} {md : Region.Mode} {ops : Array Oper} {Q : Exit → Act → World → Prop} {S : World → Prop} {i d : Nat} {oi : Oper} {v : Value} {fuel : Nat} {listed : Array Bool} {a : Act} {w : World} (hi : ops[i]? = some oi) (hd : oi.dst = some d)
    (hs : Region.noSelect ops = true) (hf : Region.free md ops listed i = true) (hr : (Region.ready md ops listed).contains i = true)
    (hQ : ∀ c a w, Q (.panic c) (a.put oi.dst v) w → Q (.panic c) a w) (hy : YieldsIf P ops S oi v a) (hS : S w)
    (h : wpAnyH P md ops Q S fuel (listed.setIfInBounds i true) { a with tmps := a.tmps.setIfInBounds d v } w) : wpAnyH P md ops Q S (fuel + 1) listed a w :=
  wpAnyH_take hi hs hf hr hQ hy hS (by rw [hd]; exact h)
set_option maxHeartbeats 8000000 in
set_option maxRecDepth 100000 in
theorem once_live (n : Nat) (A : Option Addr) (cap : Nat) (zs : List Int) (w : World) (hc : ∀ i x, zs[i]? = some x → ∃ ad, A = some ad ∧ w.cell? (ad.add i) = some (.int .i64 x)) (h0 : 1 ≤ n) (h1 : n ≤ 300) (h2 : zs.length ≤ 100) :
    Calls Try.prog 3 #[.int .i64 (n : Int), .slice A zs.length cap] w fun r w' => r = .returned (.bool true) ∧ Below w.heap.size w w' := by
  have hn0 : (1 : Int) ≤ (n : Int) := by omega
  have hn1 : (n : Int) ≤ 300 := by omega
  have HA := Aside0.mk hc
  clear hc
  have hmm := @run_makeMap Try.prog
  have hu26 := Try.underlying26
  go_enter Try.func3, Try.ntmps3
  go_wp2_with fail
  refine (alive _).mono ?_
  rintro e0 w0 ⟨rfl, hb0⟩
  have HB0 := Aside0.mk hb0
  clear hb0
  go_wp2_with fail
  obtain ⟨gw, hgw⟩ : ∃ g, g = w0.heap.size := ⟨_, rfl⟩
  obtain ⟨gm, hgm⟩ : ∃ g, g = w0.heap.size + 1 := ⟨_, rfl⟩
  have GE : w.heap.size ≤ gw := by rw [hgw]; exact HB0.out.size
  have GM : gm = gw + 1 := by omega
  have BK0 := Aside0.mk (blk_new w0 (.cells #[.int .i64 0, .int .u64 0] 26))
  have BK1 := Aside0.mk (blk_alloc BK0.out (.map #[] 0))
  have OM0 := Aside0.mk (World.ownsMap_made (H := Unit) (w0.alloc (.cells #[.int .i64 0, .int .u64 0] 26)) Try.prog 3 (plainElem Try.prog 3))
  have HB2 := Aside0.mk (below_alloc (below_alloc HB0.out (.cells #[.int .i64 0, .int .u64 0] 26)) (.map #[] 0))
  have hgw2 : gm = (w0.alloc (.cells #[.int .i64 0, .int .u64 0] 26)).heap.size := by rw [hgm]; simp
  rw [← hgw2] at OM0
  rw [← hgw] at BK1
  rw [← hgm, ← hgw]
  have GMA := Aside0.mk GM
  clear GM
  clear BK0 hgw2 hgw hgm
  go_loopg [7] 301 (fun kq v7 wr => ∃ (i s : Nat), v7 = .int .i64 ((i : Int) + 1) ∧ Aside0 (i ≤ n ∧ kq = 301 - i) ∧ Aside0 (WS i s) ∧ Aside0 (wr.heap[gw]? = some (.cells #[.int .i64 i, .int .u64 s] 26 (0, 0))) ∧ Aside0 (wr.ownsMap Try.prog 3 (plainElem Try.prog 3) gm i (D i)) ∧ Aside0 (Below w.heap.size w wr))
  case atStart => exact ⟨0, 0, rfl, ⟨by omega, rfl⟩, ⟨ws_zero⟩, BK1, OM0, HB2⟩
  case round =>
    obtain ⟨i, s, rfl, ⟨hi, hkq⟩, HS, BK, OM, HB⟩ := hrel
    have HQ := Aside0.mk hkq
    clear hkq
    by_cases hlt : i < n
    · have hl0 : (i : Int) + 1 ≤ (n : Int) := by omega
      go_upto_if 42 with (fail)
      have OL := Aside0.mk (own_lit wr (gm + 1) 3 .i64 [(i : Int) + 1, (i : Int) + 1] OM.out.lt (by simp))
      go_cut [8] (fun v8 wc => ∃ (gl c8 : Nat) (L : List Int), v8 = .slice (some ⟨gl, 0, none⟩) L.length c8 ∧ Aside0 (gl ≠ gw ∧ gl ≠ gm) ∧ Aside0 (∃ M : List Int, M.length ≤ 1 ∧ L = ((i : Int) + 1) :: ((i : Int) + 1) :: M ∧ ∀ x ∈ M, x ≤ (i : Int) + 1 ∧ ((i : Int) + 1) - x < 64) ∧ Aside0 (wc.ownsRow (gm + 1) 3 1 (.slice (some ⟨gl, 0, none⟩) L.length c8) L.length (nums .i64 L)) ∧ Aside0 (wc.heap[gw]? = some (.cells #[.int .i64 i, .int .u64 s] 26 (0, 0))) ∧ Aside0 (wc.ownsMap Try.prog 3 (plainElem Try.prog 3) gm i (D i)) ∧ Aside0 (Below w.heap.size w wc))
      case first =>
        by_cases hz : i < zs.length
        · obtain ⟨ad, hAd, hcz0⟩ := HA.out i zs[i] (by simp [hz])
          subst hAd
          have hcz := pw_cell_below (below_alloc HB.out (.cells #[.int .i64 ((i : Int) + 1), .int .i64 ((i : Int) + 1)] 3)) hcz0
          clear hcz0
          have hzi : (i : Int) < (zs.length : Int) := by omega
          have hi0 : (0 : Int) ≤ (i : Int) := Int.natCast_nonneg _
          have hi3 : i ≤ 300 := by omega
          go_wp2_with (first | (at_builtin; refine Aside0.out ?_))
          refine ⟨?_⟩
          have hsz : gm + 1 ≤ (wr.alloc (.cells #[.int .i64 ((i : Int) + 1), .int .i64 ((i : Int) + 1)] 3)).heap.size := by have := OM.out.lt; simp; omega
          refine print_append_num (w0 := wr.alloc (.cells #[.int .i64 ((i : Int) + 1), .int .i64 ((i : Int) + 1)] 3)) (gm + 1) rfl (.tmp 43) (.tmp 54) 22 3 .i64 8 rfl Try.underlying22 infoI (by decide) (.slice (some ⟨wr.heap.size, 0, none⟩) 2 2) [(i : Int) + 1, (i : Int) + 1] _ rfl (by simp [Act.eval]) (by exact OL.out) (Below.refl _ _) hsz (by simp) ?_
          intro v1 w1 ho1 hB1 hg1 hb1
          obtain ⟨gl, c8, rfl, hgl, hgs⟩ := ho1.form (by simp)
          have HO1 := Aside0.mk ho1
          have HB1 := Aside0.mk hB1
          clear ho1 hB1 hg1 hb1
          go_wp2
          go_meet
          have GM := GMA.out
          case rel => exact ⟨gl, c8, [(i : Int) + 1, (i : Int) + 1] ++ [_], rfl, ⟨by omega, by omega⟩, ⟨[_], by simp, rfl, by intro x hx; rw [List.mem_singleton] at hx; subst hx; exact late_ok i zs[i] hi3⟩, HO1, ⟨(HB1.out.block gw (by omega)).trans (blk_alloc BK.out _)⟩, ⟨om_same (OM.out.alloc _) (HB1.out.block gm (by omega))⟩, ⟨(below_alloc HB.out _).trans (HB1.out.mono (by omega))⟩⟩
        · have hgs : gm < wr.heap.size := OM.out.lt
          go_wp2
          go_meet
          have GM := GMA.out
          case rel => exact ⟨wr.heap.size, 2, [(i : Int) + 1, (i : Int) + 1], rfl, ⟨by omega, by omega⟩, ⟨[], by simp, rfl, by simp⟩, OL, ⟨blk_alloc BK.out _⟩, ⟨OM.out.alloc _⟩, ⟨below_alloc HB.out _⟩⟩
      case rest =>
        obtain ⟨gl, c8, L, rfl, ⟨hg1, hg2⟩, HL, HR, BK, OM, HB⟩ := hcut
        have hL3 : L.length ≤ 3 ∧ 2 ≤ L.length := by obtain ⟨M, hM, hL, _⟩ := HL.out; rw [hL]; simp; omega
        have HX := Aside0.mk (show ∀ k : Nat, k < L.length → rd L k ≤ (i : Int) + 1 ∧ (i : Int) + 1 - rd L k < 64 ∧ (k = 0 → rd L k = (i : Int) + 1) by
          obtain ⟨M, hM, hL, hx⟩ := HL.out
          intro k hk
          subst hL
          match k, hk with
          | 0, _ => simp [rd]
          | 1, _ => simp [rd]
          | k + 2, hk =>
            have hk' : k < M.length := by simp at hk; omega
            have e : rd (((i : Int) + 1) :: ((i : Int) + 1) :: M) ((k + 2 : Nat) : Int) = M[k] := by
              show List.getD (((i : Int) + 1) :: ((i : Int) + 1) :: M) (k + 2) 0 = M[k]
              simp [hk']
            rw [e]
            have := hx M[k] (by simp)
            exact ⟨this.1, this.2, by omega⟩)
        have OS0 := Aside0.mk (show OS w gw gm gl c8 L i s _ from ⟨HB.out, BK.out, HR.out, OM.out⟩)
        clear HL HR BK OM HB
        go_wp2_with fail
        go_loopg [9] 3 (fun kq v9 wq => ∃ (k t sq : Nat), v9 = .int .i64 k ∧ Aside0 (k ≤ L.length ∧ kq = 3 - k ∧ t = if k = 0 then i else i + 1) ∧ Aside0 (WS t sq) ∧ Aside0 (OS w gw gm gl c8 L t sq wq))
        case atStart => exact ⟨0, i, s, rfl, ⟨by omega, rfl, rfl⟩, HS, OS0⟩
        case round =>
          obtain ⟨k, t, sq, rfl, ⟨hk, hkq, ht⟩, HSq, OSq⟩ := hrel
          have HQ2 := Aside0.mk hkq
          have HT := Aside0.mk ht
          clear hkq ht
          by_cases hkl : k < L.length
          · have hk0 : (0 : Int) ≤ (k : Int) := Int.natCast_nonneg _
            have hk1 : (k : Int) < (L.length : Int) := by omega
            have HXk := HX.out k hkl
            obtain ⟨s', hmk, hS'⟩ := once_step HSq.out (by omega) HT.out HXk.1 HXk.2.1 HXk.2.2
            have HSn := Aside0.mk hS'
            have hT3 : t ≤ 301 := by have := HT.out; split at this <;> omega
            have HMk := Aside0.mk (show window_Window_Mark.f 1 (t : Int) (sq : Int) (rd L k) = some ((i : Int) + 1, (s' : Int), decide (k = 0)) by
              rw [mark_ok (t : Int) sq (rd L k) (by omega) (by omega) HSq.out.1 1 (by omega), hmk])
            clear hmk hS' HXk
            have OSa := Aside0.mk (os_drew OSq.out)
            have hlt1 : gw < wr.heap.size := blk_lt OSq.out.2.1
            have hlt2 : gm < wr.heap.size := OSq.out.2.2.2.lt
            have hlt3 : gl < wr.heap.size := own_lt OSq.out.2.2.1 gl rfl
            have hlt4 : w.heap.size ≤ wr.heap.size := OSq.out.1.size
            go_upto_region 14 with (fail)
            go_cut [10, 11] (fun v10 v11 wc => ∃ g2, v10 = .pointer (some ⟨g2, 0, none⟩) ∧ v11 = .bool (decide (k = 0)) ∧ Aside0 (g2 ≠ gw ∧ g2 ≠ gm ∧ g2 ≠ gl) ∧ Aside0 (wc.heap[g2]? = some (.cells #[.int .i64 ((i : Int) + 1), .int .u64 s'] 26 (0, 0))) ∧ Aside0 (OS w gw gm gl c8 L t sq wc))
            case first =>
              refine wp_region_held_drew (S := fun w' => w'.cell? ⟨gw, 0, none⟩ = some (.int .i64 t) ∧ w'.cell? ⟨gw, 1, none⟩ = some (.int .u64 sq) ∧ w'.cell? ⟨gl, k, none⟩ = some (.int .i64 (rd L k)) ∧ OS w gw gm gl c8 L t sq w') (by kernel_rfl) (by exact os_all OSa.out hkl) (fun hHeld => ?_)
              refine takeH (i := 1) (d := 64) (v := (.slice (some ⟨gl, 0, none⟩) L.length c8)) rfl rfl (by kernel_rfl) (by kernel_rfl) (by kernel_rfl) (fun _ _ _ h => h) (Or.inl ⟨by kernel_rfl, by intro w hSw; (try dsimp only at hSw); go_simp; done⟩) (by assumption) ?_
              try simp only [List.setIfInBounds_toArray, List.set_cons_zero, List.set_cons_succ]
              refine takeH (i := 2) (d := 65) (v := (.int .i64 (k : Int))) rfl rfl (by kernel_rfl) (by kernel_rfl) (by kernel_rfl) (fun _ _ _ h => h) (Or.inl ⟨by kernel_rfl, by intro w hSw; (try dsimp only at hSw); go_simp; done⟩) (by assumption) ?_
              try simp only [List.setIfInBounds_toArray, List.set_cons_zero, List.set_cons_succ]
              refine takeH (i := 3) (d := 66) (v := (.pointer (some ⟨gl, k, none⟩))) rfl rfl (by kernel_rfl) (by kernel_rfl) (by kernel_rfl) (fun _ _ _ h => h) (Or.inl ⟨by kernel_rfl, by intro w hSw; (try dsimp only at hSw); go_simp; done⟩) (by assumption) ?_
              try simp only [List.setIfInBounds_toArray, List.set_cons_zero, List.set_cons_succ]
              refine takeH (i := 0) (d := 63) (v := (.agg #[.int .i64 (t : Int), .int .u64 (sq : Int)])) rfl rfl (by kernel_rfl) (by kernel_rfl) (by kernel_rfl) (fun _ _ _ h => h) (Or.inl ⟨by kernel_rfl, by intro w hSw; (try dsimp only at hSw); obtain ⟨s0, s1, s2, s3⟩ := hSw; clear s3; go_simp; done⟩) (by assumption) ?_
              try simp only [List.setIfInBounds_toArray, List.set_cons_zero, List.set_cons_succ]
              refine takeH (i := 4) (d := 67) (v := (.int .i64 (rd L k))) rfl rfl (by kernel_rfl) (by kernel_rfl) (by kernel_rfl) (fun _ _ _ h => h) (Or.inl ⟨by kernel_rfl, by intro w hSw; (try dsimp only at hSw); obtain ⟨s0, s1, s2, s3⟩ := hSw; clear s3; go_simp; done⟩) (by assumption) ?_
              try simp only [List.setIfInBounds_toArray, List.set_cons_zero, List.set_cons_succ]
              refine wpAnyH_ready (rs := [5, 9]) (by kernel_rfl) (by simp) ?_
              refine AllReadyH.cons (o := { dst := some 68, op := Op.call { callee := Callee.value (Operand.func 11), args := #[Operand.tmp 63, Operand.tmp 67], argTypes := #[26, 3] }, type := 28, pos := "law.go:52", after := #[{ on := 0, ground := .data }, { on := 4, ground := .data }], guard := none }) rfl (fun K hK => ?_) (AllReadyH.cons (o := { dst := some 10, op := Op.alloc 26, type := 0, pos := "law.go:52", after := #[], guard := none }) rfl (fun K hK => ?_) AllReadyH.nil)
              · rw [if_pos (by kernel_rfl)]
                go_simp
                refine (window_Window_Mark.calls 1 (t : Int) (sq : Int) (rd L k) _ _ _ _ HMk.out).mono ?_
                rintro e3 w3 ⟨rfl, hb3⟩
                have OS3 := Aside0.mk (os_below OSa.out hb3)
                have hs3 := hb3.size
                have hs3' : wr.heap.size ≤ w3.heap.size := hs3
                clear hb3 hHeld
                refine hK.out _ _ (os_all OS3.out hkl) (fun hHeld => ?_)
                clear hK K
                try simp only [Act.put, List.setIfInBounds_toArray, List.set_cons_zero, List.set_cons_succ]
                refine takeH (i := 6) (d := 62) (v := (.tuple #[.agg #[.int .i64 ((i : Int) + 1), .int .u64 (s' : Int)], .bool (decide (k = 0))])) rfl rfl (by kernel_rfl) (by kernel_rfl) (by kernel_rfl) (fun _ _ _ h => h) (Or.inl ⟨by kernel_rfl, by intro w hSw; (try dsimp only at hSw); go_simp; done⟩) (by assumption) ?_
                try simp only [List.setIfInBounds_toArray, List.set_cons_zero, List.set_cons_succ]
                refine takeH (i := 7) (d := 69) (v := (.agg #[.int .i64 ((i : Int) + 1), .int .u64 (s' : Int)])) rfl rfl (by kernel_rfl) (by kernel_rfl) (by kernel_rfl) (fun _ _ _ h => h) (Or.inl ⟨by kernel_rfl, by intro w hSw; (try dsimp only at hSw); go_simp; done⟩) (by assumption) ?_
                try simp only [List.setIfInBounds_toArray, List.set_cons_zero, List.set_cons_succ]
                refine takeH (i := 8) (d := 70) (v := (.bool (decide (k = 0)))) rfl rfl (by kernel_rfl) (by kernel_rfl) (by kernel_rfl) (fun _ _ _ h => h) (Or.inl ⟨by kernel_rfl, by intro w hSw; (try dsimp only at hSw); go_simp; done⟩) (by assumption) ?_
                try simp only [List.setIfInBounds_toArray, List.set_cons_zero, List.set_cons_succ]
                refine wpAnyH_ready (rs := [9]) (by kernel_rfl) (by simp) ?_
                refine AllReadyH.cons (o := { dst := some 10, op := Op.alloc 26, type := 0, pos := "law.go:52", after := #[], guard := none }) rfl (fun K hK => ?_) AllReadyH.nil
                rw [if_pos (by kernel_rfl)]
                go_simp
                clear hHeld
                refine hK.out _ _ (os_all (os_alloc OS3.out _) hkl) (fun hHeld => ?_)
                clear hK K
                try simp only [Act.put, List.setIfInBounds_toArray, List.set_cons_zero, List.set_cons_succ]
                refine wpAnyH_ready (rs := [10]) (by kernel_rfl) (by simp) ?_
                refine AllReadyH.cons (o := { dst := none, op := Op.store 26 (Operand.tmp 10) (Operand.tmp 69), type := 0, pos := "law.go:52", after := #[{ on := 9, ground := .data }, { on := 7, ground := .data }, { on := 5, ground := .chain }, { on := 0, ground := .phase }, { on := 1, ground := .phase }, { on := 2, ground := .phase }, { on := 3, ground := .phase }, { on := 4, ground := .phase }, { on := 5, ground := .phase }, { on := 6, ground := .phase }, { on := 7, ground := .phase }, { on := 8, ground := .textOnly Departure.lateStores }, { on := 9, ground := .phase }], guard := none }) rfl (fun K hK => ?_) AllReadyH.nil
                rw [if_pos (by kernel_rfl)]
                go_simp
                clear hHeld
                refine hK.out _ _ (os_all (os_alloc OS3.out _) hkl) (fun hHeld => ?_)
                clear hK K
                try simp only [Act.put, List.setIfInBounds_toArray, List.set_cons_zero, List.set_cons_succ]
                refine takeH (i := 11) (d := 11) (v := (.bool (decide (k = 0)))) rfl rfl (by kernel_rfl) (by kernel_rfl) (by kernel_rfl) (fun _ _ _ h => h) (Or.inl ⟨by kernel_rfl, by intro w hSw; (try dsimp only at hSw); go_simp; done⟩) (by assumption) ?_
                try simp only [List.setIfInBounds_toArray, List.set_cons_zero, List.set_cons_succ]
                refine wpAnyH_done (by kernel_rfl) ?_ _
                go_wp2
                go_meet
                case rel => exact ⟨_, rfl, rfl, ⟨by omega, by omega, by omega⟩, ⟨blk_new _ _⟩, ⟨os_alloc OS3.out _⟩⟩
              · rw [if_pos (by kernel_rfl)]
                go_simp
                clear hHeld
                refine hK.out _ _ (os_all (os_alloc OSa.out _) hkl) (fun hHeld => ?_)
                clear hK K
                try simp only [Act.put, List.setIfInBounds_toArray, List.set_cons_zero, List.set_cons_succ]
                refine wpAnyH_ready (rs := [5]) (by kernel_rfl) (by simp) ?_
                refine AllReadyH.cons (o := { dst := some 68, op := Op.call { callee := Callee.value (Operand.func 11), args := #[Operand.tmp 63, Operand.tmp 67], argTypes := #[26, 3] }, type := 28, pos := "law.go:52", after := #[{ on := 0, ground := .data }, { on := 4, ground := .data }], guard := none }) rfl (fun K hK => ?_) AllReadyH.nil
                rw [if_pos (by kernel_rfl)]
                go_simp
                refine (window_Window_Mark.calls 1 (t : Int) (sq : Int) (rd L k) _ _ _ _ HMk.out).mono ?_
                rintro e3 w3 ⟨rfl, hb3⟩
                have OS3 := Aside0.mk (os_below (os_alloc OSa.out (.cells #[.int .i64 0, .int .u64 0] 26)) hb3)
                have NB := blk_below (blk_new wr.drew (.cells #[.int .i64 0, .int .u64 0] 26)) hb3
                have n0 : w3.cell? ⟨wr.heap.size, 0, none⟩ = some (.int .i64 0) := (blk_cell NB 0).trans rfl
                have n1 : w3.cell? ⟨wr.heap.size, 1, none⟩ = some (.int .u64 0) := (blk_cell NB 1).trans rfl
                have nf0 : w3.frozen? ⟨wr.heap.size, 0, none⟩ = false := blk_frozen NB 0
                have nf1 : w3.frozen? ⟨wr.heap.size, 1, none⟩ = false := blk_frozen NB 1
                have NBh := Aside0.mk (show w3.heap[wr.heap.size]? = some (.cells #[.int .i64 0, .int .u64 0] 26 (0, 0)) from NB)
                clear hb3 hHeld NB
                refine hK.out _ _ (os_all OS3.out hkl) (fun hHeld => ?_)
                clear hK K
                try simp only [Act.put, List.setIfInBounds_toArray, List.set_cons_zero, List.set_cons_succ]
                refine takeH (i := 6) (d := 62) (v := (.tuple #[.agg #[.int .i64 ((i : Int) + 1), .int .u64 (s' : Int)], .bool (decide (k = 0))])) rfl rfl (by kernel_rfl) (by kernel_rfl) (by kernel_rfl) (fun _ _ _ h => h) (Or.inl ⟨by kernel_rfl, by intro w hSw; (try dsimp only at hSw); go_simp; done⟩) (by assumption) ?_
                try simp only [List.setIfInBounds_toArray, List.set_cons_zero, List.set_cons_succ]
                refine takeH (i := 7) (d := 69) (v := (.agg #[.int .i64 ((i : Int) + 1), .int .u64 (s' : Int)])) rfl rfl (by kernel_rfl) (by kernel_rfl) (by kernel_rfl) (fun _ _ _ h => h) (Or.inl ⟨by kernel_rfl, by intro w hSw; (try dsimp only at hSw); go_simp; done⟩) (by assumption) ?_
                try simp only [List.setIfInBounds_toArray, List.set_cons_zero, List.set_cons_succ]
                refine takeH (i := 8) (d := 70) (v := (.bool (decide (k = 0)))) rfl rfl (by kernel_rfl) (by kernel_rfl) (by kernel_rfl) (fun _ _ _ h => h) (Or.inl ⟨by kernel_rfl, by intro w hSw; (try dsimp only at hSw); go_simp; done⟩) (by assumption) ?_
                try simp only [List.setIfInBounds_toArray, List.set_cons_zero, List.set_cons_succ]
                refine wpAnyH_ready (rs := [10]) (by kernel_rfl) (by simp) ?_
                refine AllReadyH.cons (o := { dst := none, op := Op.store 26 (Operand.tmp 10) (Operand.tmp 69), type := 0, pos := "law.go:52", after := #[{ on := 9, ground := .data }, { on := 7, ground := .data }, { on := 5, ground := .chain }, { on := 0, ground := .phase }, { on := 1, ground := .phase }, { on := 2, ground := .phase }, { on := 3, ground := .phase }, { on := 4, ground := .phase }, { on := 5, ground := .phase }, { on := 6, ground := .phase }, { on := 7, ground := .phase }, { on := 8, ground := .textOnly Departure.lateStores }, { on := 9, ground := .phase }], guard := none }) rfl (fun K hK => ?_) AllReadyH.nil
                rw [if_pos (by kernel_rfl)]
                go_simp
                clear hHeld n0 n1 nf0 nf1
                refine hK.out _ _ (os_all (os_set (os_set OS3.out (by omega) (by omega) (by omega) (by omega)) (by omega) (by omega) (by omega) (by omega)) hkl) (fun hHeld => ?_)
                clear hK K
                try simp only [Act.put, List.setIfInBounds_toArray, List.set_cons_zero, List.set_cons_succ]
                refine takeH (i := 11) (d := 11) (v := (.bool (decide (k = 0)))) rfl rfl (by kernel_rfl) (by kernel_rfl) (by kernel_rfl) (fun _ _ _ h => h) (Or.inl ⟨by kernel_rfl, by intro w hSw; (try dsimp only at hSw); go_simp; done⟩) (by assumption) ?_
                try simp only [List.setIfInBounds_toArray, List.set_cons_zero, List.set_cons_succ]
                refine wpAnyH_done (by kernel_rfl) ?_ _
                go_wp2
                go_meet
                case rel => exact ⟨_, rfl, rfl, ⟨by omega, by omega, by omega⟩, ⟨by refine blk_put (cs := #[.int .i64 ((i : Int) + 1), .int .u64 0]) ?_ 1 _ rfl; exact blk_put (cs := #[.int .i64 0, .int .u64 0]) NBh.out 0 _ rfl⟩, ⟨os_set (os_set OS3.out (by omega) (by omega) (by omega) (by omega)) (by omega) (by omega) (by omega) (by omega)⟩⟩
            case rest =>
              obtain ⟨g2, rfl, rfl, ⟨hd1, hd2, hd3⟩, HG2, HOS⟩ := hcut
              have GM := GMA.out
              have hcx := (os_all HOS.out hkl).2.2.1
              have g20 : wc.cell? ⟨g2, 0, none⟩ = some (.int .i64 ((i : Int) + 1)) := (blk_cell HG2.out 0).trans rfl
              have g21 : wc.cell? ⟨g2, 1, none⟩ = some (.int .u64 s') := (blk_cell HG2.out 1).trans rfl
              have w0c : wc.cell? ⟨gw, 0, none⟩ = some (.int .i64 t) := (blk_cell HOS.out.2.1 0).trans rfl
              have w1c : wc.cell? ⟨gw, 1, none⟩ = some (.int .u64 sq) := (blk_cell HOS.out.2.1 1).trans rfl
              have f0 := blk_frozen HOS.out.2.1 0
              have f1 := blk_frozen HOS.out.2.1 1
              have GEm : w.heap.size ≤ gm := by omega
              clear GM
              by_cases hz0 : k = 0
              · have hti : t = i := by have := HT.out; rw [if_pos hz0] at this; exact this
                have hx0 := (HX.out k hkl).2.2 hz0
                rw [hx0] at hcx
                subst hti
                rw [show decide (k = 0) = true from decide_eq_true hz0]
                clear hz0 hx0
                have hwf : (Lit.int .i64 ((t : Int) + 1)).wf = true := Go.WalkArith.wf_i64 ⟨by omega, by omega⟩
                go_wp2_with (first | (at_lookup; refine wpList_lookup_own_int _ rfl (.tmp 72) (.tmp 76) 27 rfl 3 3 .i64 lawI Try.underlying27 Try.underlying3 (zeroI _) gm t (D t) rfl (by exact HOS.out.2.2.2) (.int .i64 ((t : Int) + 1)) _ rfl (keyOf_int_mk Try.underlying3 hwf) ?_; intro c hat hwc; obtain rfl : c = 0 := at_new hat; clear hat hwc) | (at_mapUpdate; refine Aside0.out ?_))
                refine ⟨?_⟩
                refine wpList_mapUpdate_own _ rfl (.tmp 72) (.tmp 76) (.tmp 78) 27 rfl 3 3 lawI Try.underlying27 (plainElem Try.prog 3) gm t (D t) rfl (by exact HOS.out.2.2.2) (by simp only [maxLen]; omega) _ _ (.int .i64 ((t : Int) + 1)) rfl rfl (keyOf_int_mk Try.underlying3 hwf) (.lit (.int .i64 1)) [] (plainElem_int Try.underlying3 (by decide)) ?_
                intro w1 hown1 hgrow1
                have GM := GMA.out
                have BW1 := blk_grown HOS.out.2.1 hgrow1 (by simp; omega)
                have BL1 := Aside0.mk (own_other HOS.out.2.2.1 hgrow1 (.inr (by simp [Value.ownBlock]; omega)))
                have BB1 := Aside0.mk (pw_below_grown HOS.out.1 (some gm) HOS.out.1.size hgrow1 (by intro k hk; injection hk with hk; omega))
                have BG1 := blk_grown HG2.out hgrow1 (by simp; omega)
                have OM1 := Aside0.mk (show w1.ownsMap Try.prog 3 (plainElem Try.prog 3) gm (t + 1) (D (t + 1)) from hown1)
                clear g20 g21 w0c w1c f0 f1 hcx hown1 hgrow1 GM
                have g20 : w1.cell? ⟨g2, 0, none⟩ = some (.int .i64 ((t : Int) + 1)) := (blk_cell BG1 0).trans rfl
                have g21 : w1.cell? ⟨g2, 1, none⟩ = some (.int .u64 s') := (blk_cell BG1 1).trans rfl
                have w0c : w1.cell? ⟨gw, 0, none⟩ = some (.int .i64 t) := (blk_cell BW1 0).trans rfl
                have w1c : w1.cell? ⟨gw, 1, none⟩ = some (.int .u64 sq) := (blk_cell BW1 1).trans rfl
                have f0 := blk_frozen BW1 0
                have f1 := blk_frozen BW1 1
                have BWh := Aside0.mk BW1
                clear BW1 BG1
                go_wp2
                go_roundg (2 - k)
                case measure => have := HQ2.out; omega
                case rel => exact ⟨k + 1, t + 1, s', by go_num, ⟨by omega, by omega, by rw [if_neg (by omega)]⟩, HSn, ⟨os_store BB1.out BWh.out BL1.out OM1.out (by omega) hg1 (by have := GMA.out; omega)⟩⟩
              · have hti : t = i + 1 := by have := HT.out; rw [if_neg hz0] at this; exact this
                subst hti
                rw [show decide (k = 0) = false from decide_eq_false hz0]
                clear hz0
                go_wp2
                go_roundg (2 - k)
                case measure => have := HQ2.out; omega
                case rel => exact ⟨k + 1, i + 1, s', by go_num, ⟨by omega, by omega, by rw [if_neg (by omega)]⟩, HSn, ⟨os_store HOS.out.1 HOS.out.2.1 HOS.out.2.2.1 HOS.out.2.2.2 (by omega) hg1 (by have := GMA.out; omega)⟩⟩
          · have hti : t = i + 1 := by have := HT.out; rw [if_neg (by omega)] at this; exact this
            subst hti
            go_wp2
            go_roundg (300 - i)
            case measure => have := HQ.out; omega
            case rel => exact ⟨i + 1, sq, by go_num, ⟨by omega, by omega⟩, HSq, ⟨OSq.out.2.1⟩, ⟨OSq.out.2.2.2⟩, ⟨OSq.out.1⟩⟩
    · obtain rfl : i = n := by omega
      have hlen : ∀ ty, (Builtin.len_ #[27] ty #[.map (some gm)]).run Try.prog wr = .ok (.int .i64 (i : Int)) wr := fun ty => by
        have := OM.out.len Try.underlying27 ty
        rwa [D_size] at this
      have BKF := BK
      have OMF := OM
      have HBF := HB
      obtain ⟨wF, hwF⟩ : ∃ x, x = wr := ⟨_, rfl⟩
      rw [← hwF] at BKF OMF HBF hlen
      go_wp2_with fail
      go_loopg [12] 300 (fun kq v12 wq => ∃ (j : Nat), v12 = .int .i64 ((j : Int) + 1) ∧ Aside0 (j ≤ i ∧ kq = 300 - j) ∧ wq = wF)
      case atStart => exact ⟨0, rfl, ⟨by omega, rfl⟩, hwF.symm⟩
      case round =>
        obtain ⟨j, rfl, ⟨hj, hjq⟩, rfl⟩ := hrel
        have HJ := Aside0.mk hjq
        clear hjq hwF
        by_cases hjl : j < i
        · have hwf : (Lit.int .i64 ((j : Int) + 1)).wf = true := Go.WalkArith.wf_i64 ⟨by omega, by omega⟩
          have hjl1 : (j : Int) + 1 ≤ (i : Int) := by omega
          go_wp2_with (first | (at_lookup; refine wpList_lookup_own_int _ rfl (.tmp 85) (.tmp 86) 27 rfl 3 3 .i64 lawI Try.underlying27 Try.underlying3 (zeroI _) gm i (D i) rfl (by exact OMF.out) (.int .i64 ((j : Int) + 1)) _ rfl (keyOf_int_mk Try.underlying3 hwf) ?_; intro c hat hwc; obtain rfl : c = 1 := at_old hjl hat; clear hat hwc))
          go_roundg (299 - j)
          case measure => have := HJ.out; omega
          case rel => exact ⟨j + 1, by go_num, ⟨by omega, by omega⟩, rfl⟩
        · obtain rfl : j = i := by omega
          have w0c : wr.cell? ⟨gw, 0, none⟩ = some (.int .i64 j) := (blk_cell BKF.out 0).trans rfl
          go_wp2
          go_ret
          exact ⟨rfl, HBF.out⟩
set_option maxHeartbeats 4000000 in
set_option maxRecDepth 100000 in
theorem once_dead (n : Int) (A : Option Addr) (len cap : Nat) (w : World) (h : n < 1 ∨ 300 < n ∨ 100 < (len : Int)) :
    Calls Try.prog 3 #[.int .i64 n, .slice A len cap] w fun r w' => r = .returned (.bool true) ∧ Below w.heap.size w w' := by
  by_cases g0 : n < 1
  · clear h
    go_enter Try.func3, Try.ntmps3
    go_wp2_with (go_at_call 10; refine (alive _).mono ?_; rintro e1 w1 ⟨rfl, hb⟩)
    go_ret
    exact ⟨rfl, hb⟩
  · skip
    by_cases g1 : 300 < n
    · clear h
      go_enter Try.func3, Try.ntmps3
      go_wp2_with (go_at_call 10; refine (alive _).mono ?_; rintro e1 w1 ⟨rfl, hb⟩)
      go_ret
      exact ⟨rfl, hb⟩
    · skip
      have g2 : 100 < (len : Int) := by omega
      clear h
      go_enter Try.func3, Try.ntmps3
      go_wp2_with (go_at_call 10; refine (alive _).mono ?_; rintro e1 w1 ⟨rfl, hb⟩)
      go_ret
      exact ⟨rfl, hb⟩
theorem once_walk (n : Int) (A : Option Addr) (len cap : Nat) (zs : List Int) (w : World) (_w0 : (Lit.int .i64 n).wf = true)
    (h : (A = none ∧ len = 0 ∧ cap = 0 ∧ zs = []) ∨ ∃ x, A = some x ∧ len ≤ cap ∧ cap ≤ maxLen ∧ zs.length = cap ∧ (∀ i, i < zs.length → w.cell? (x.add i) = some (.int .i64 (zs.getD i 0))) ∧ ∀ n ∈ zs, (Lit.int .i64 n).wf = true)
    (_y : len * 8 ≤ 140737488351232) :
    Calls Try.prog 3 #[.int .i64 n, .slice A len cap] w fun r w' => r = .returned (.bool true) ∧ Below w.heap.size w w' := by
  by_cases h30 : n < 1 ∨ 300 < n ∨ 100 < (len : Int)
  · exact once_dead n A len cap w h30
  · obtain ⟨m, rfl⟩ := Int.eq_ofNat_of_zero_le (show 0 ≤ n by omega)
    rcases h with ⟨rfl, rfl, rfl, rfl⟩ | ⟨x, rfl, h1, h2, h3, h4, h5⟩
    · exact once_live m none 0 [] w (by simp) (by omega) (by omega) (by simp)
    · have hl : (zs.take len).length = len := by rw [List.length_take]; omega
      have := once_live m (some x) cap (zs.take len) w (fun i y hy => ⟨x, rfl, by
        have hi : i < (zs.take len).length := (List.getElem?_eq_some_iff.1 hy).1
        have hi2 : i < zs.length := by omega
        rw [h4 i hi2]
        rw [List.getElem?_take] at hy
        rw [if_pos (by omega)] at hy
        simp [List.getD_eq_getElem?_getD, hy]⟩) (by omega) (by omega) (by omega)
      rwa [hl] at this
end Go.Proofs.Ytgilccdajlpeaaa.Once
