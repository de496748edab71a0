/- The walk of RingPlays: every ring, and every call, in every order. Conditions: those in each theorem. -/
import Derived.Test.YtheieigeipppnaaRingP
namespace Go.Proofs.Ytheieigeipppnaa.RingP
open Go.RowKit Go.Proofs.YtheieigeipppnaaW.PrintWords Go.Proofs.YtheieigeipppnaaW.PrintMore Go.Proofs.Ytheieigeipppnaa.PRingPlays Go.Proofs.Ytheieigeipppnaa.Opens Go.Proofs.Ytheieigeipppnaa.Obj Go.Proofs.Ytheieigeipppnaa.Lent
attribute [local go_sem] max2_int min2_int max_two min_two max_three min_three max_four min_four
set_option linter.unusedVariables false
set_option linter.unusedSimpArgs false
theorem takeH {P : Program} {md : Region.Mode} {ops : Array Oper} {Q : Exit → Act → World → Prop} {S : World → Prop} {i d : Nat} {oi : Oper} {v : Value} {fuel : Nat} {listed : Array Bool} {a : Act} {w : World} (hi : ops[i]? = some oi) (hd : oi.dst = some d)
    (hs : Region.noSelect ops = true) (hf : Region.free md ops listed i = true) (hr : (Region.ready md ops listed).contains i = true)
    (hQ : ∀ c a w, Q (.panic c) (a.put oi.dst v) w → Q (.panic c) a w) (hy : YieldsIf P ops S oi v a) (hS : S w)
    (h : wpAnyH P md ops Q S fuel (listed.setIfInBounds i true) { a with tmps := a.tmps.setIfInBounds d v } w) : wpAnyH P md ops Q S (fuel + 1) listed a w :=
  wpAnyH_take hi hs hf hr hQ hy hS (by rw [hd]; exact h)
theorem peek_ext (b : ByteArray) (N : Int) : rPeek b N = b.extract 0 (min N.toNat b.size) := by
  apply dl_ext
  rw [dl_peek, dl_take]
  have := dl_len b
  rw [← this, ← List.take_eq_take_min]
theorem drop_ext (b : ByteArray) (N : Int) : rDrop b N = b.extract (min N.toNat b.size) b.size := by
  apply dl_ext
  rw [dl_rdrop, dl_drop]
  have := dl_len b
  rw [← this]
  by_cases h : N.toNat ≤ (dl b).length
  · rw [Nat.min_eq_left h]
  · rw [Nat.min_eq_right (by omega), List.drop_of_length_le (by omega), List.drop_of_length_le (Nat.le_refl _)]
theorem put_ext (room : Nat) (b j : ByteArray) : rPut room b j = j.extract 0 (min j.size (room - b.size)) := by
  apply dl_ext
  rw [dl_put, dl_take]
  have := dl_len j
  rw [← this, Nat.min_comm, ← List.take_eq_take_min]
theorem clear_ext (b : ByteArray) : rDrop b b.size = ⟨#[]⟩ := by
  apply dl_ext
  rw [dl_rdrop, List.drop_of_length_le (by rw [dl_len]; omega)]
  rfl
theorem peek_big (b : ByteArray) (h : b.size ≤ 100000) : rPeek b 1073741824 = b := by
  simp only [rPeek]
  by_cases h1 : (b.size : Int) < 1073741824
  · rw [if_neg (by omega), if_pos h1]
  · omega
/-- The memory in a region: a call's number. -/
def SC (w : World) (ad : Addr) (N : Int) (w' : World) : Prop := Below w.heap.size w w' ∧ w'.cell? ad = some (.int .i64 N)
theorem SC.below {w w1 w2 : World} {ad : Addr} {N : Int} (h : SC w ad N w1) (hb : Below w1.heap.size w1 w2) : SC w ad N w2 := ⟨below_step h.1 hb, pw_cell_below hb h.2⟩
theorem SC.fg {w w1 w2 : World} {ad : Addr} {N : Int} {g : Nat} (h : SC w ad N w1) (hf : Fg g w1 w2) (hg : w.heap.size ≤ g) (hne : ad.block ≠ g) : SC w ad N w2 :=
  ⟨hf.upOf h.1 h.1.size hg, (World.cell?_of_block (w := w1) (hf.block _ (World.block_lt_of_cell? w1 ad h.2) hne)).trans h.2⟩
theorem lent_same {B g c : Nat} {w w' : World} {l : List ByteArray} (h : Lent.Lent B w g c l) (e : w'.heap[g]? = w.heap[g]?) : Lent.Lent B w' g c l := own_move h (fun k hk => by
  have : g = k := by simpa [Value.ownBlock] using hk
  subst this
  exact e)
set_option maxHeartbeats 8000000 in
set_option maxRecDepth 100000 in
theorem rplays_live (room : Int) (A : Option Addr) (c : Nat) (ops : List ROp) (w : World) (hops : Kd.C kOp w A ops.length ops) (hc : ops.length ≤ c) (hl : ops.length ≤ 60) :
    Calls Try.prog 8 #[.int .i64 room, .slice A ops.length c] w fun r w' => r = .returned (.bool true) ∧ Below w.heap.size w w' := by
  have hl6 : (ops.length : Int) ≤ 60 := by omega
  have HO := Aside0.mk hops
  clear hops
  go_enter Try.func8, Try.ntmps8
  go_wp2_with fail
  refine (alive2 _).mono ?_
  rintro e0 w0 ⟨rfl, hb0⟩
  have HB := Aside0.mk hb0
  clear hb0
  go_wp2_with fail
  refine (rnew_calls room _).mono ?_
  rintro e1 w1 ⟨rfl, rfl⟩
  obtain ⟨rm, hrm⟩ : ∃ rm, rm = roomOf room := ⟨_, rfl⟩
  have HRM := Aside0.mk hrm
  have HI := Aside0.mk (show IsRing (w0.alloc (.cells #[.int .i64 (rm : Int), .string ⟨#[]⟩] 71)) w0.heap.size rm ⟨#[]⟩ from blk_new _ _)
  have HB1 := Aside0.mk (below_alloc HB.out (.cells #[.int .i64 (rm : Int), .string ⟨#[]⟩] 71))
  rw [← hrm]
  obtain ⟨g, hg⟩ : ∃ g, g = w0.heap.size := ⟨_, rfl⟩
  have hgw : w.heap.size ≤ g := by rw [hg]; exact HB.out.size
  rw [← hg] at HI ⊢
  generalize w0.alloc (.cells #[.int .i64 (rm : Int), .string ⟨#[]⟩] 71) = W1 at HI HB1 ⊢
  clear hg hrm
  go_upto_region 6 with (fail)
  go_cut [0] (fun v0 wc => v0 = .int .i64 (rm : Int) ∧ Aside0 (wc = W1))
  case first =>
    have hrm := HRM.out
    unfold roomOf at hrm
    by_cases h1 : room < 0
    · rw [if_pos h1] at hrm
      subst hrm
      go_wp2
      go_meet
      case rel => exact ⟨rfl, ⟨rfl⟩⟩
    · by_cases h2 : 100000 < room
      · rw [if_neg h1, if_pos h2] at hrm
        subst hrm
        go_wp2
        go_meet
        case rel => exact ⟨rfl, ⟨rfl⟩⟩
      · rw [if_neg h1, if_neg h2] at hrm
        have hr2 : room = (rm : Int) := by omega
        subst hr2
        clear hrm
        go_wp2
        go_meet
        case rel => exact ⟨rfl, ⟨rfl⟩⟩
  case rest =>
    obtain ⟨rfl, ⟨rfl⟩⟩ := hcut
    have hrm1 : rm ≤ 100000 := by rw [HRM.out]; unfold roomOf; (split; omega; split <;> omega)
    go_wp2_with fail
    go_loopg [6, 7] 60 (fun kq v6 v7 wr => ∃ (i : Nat) (b : ByteArray), v6 = .string b ∧ v7 = .int .i64 (i : Int) ∧ Aside0 (i ≤ ops.length ∧ kq = 60 - i) ∧ Aside0 (b.size ≤ rm) ∧ Aside0 (IsRing wr g rm b) ∧ Aside0 (Below w.heap.size w wr))
    case atStart => exact ⟨0, ⟨#[]⟩, rfl, rfl, ⟨Nat.zero_le _, rfl⟩, ⟨Nat.zero_le _⟩, HI, HB1⟩
    case round =>
      obtain ⟨i, b, rfl, rfl, ⟨hi, hkq⟩, HSZ, HIr, HBr⟩ := hrel
      have HQ := Aside0.mk hkq
      clear hkq HI HB1
      by_cases hlt : i < ops.length
      · have hi0 : (0 : Int) ≤ (i : Int) := Int.natCast_nonneg _
        have hi1 : (i : Int) < (ops.length : Int) := by omega
        obtain ⟨ad, A2, c2, hA, h0, h1, h2, hc2, hC2⟩ := at_Op HO.out (i : Int) hi0 hi1
        rw [Int.toNat_natCast] at h0 h1 h2
        subst hA
        obtain ⟨kd, hkd⟩ : ∃ x, x = (rd_Op ops (i : Int)).f0 := ⟨_, rfl⟩
        obtain ⟨nn, hnn⟩ : ∃ x, x = (rd_Op ops (i : Int)).f1 := ⟨_, rfl⟩
        obtain ⟨T, hT⟩ : ∃ x, x = (rd_Op ops (i : Int)).f2 := ⟨_, rfl⟩
        rw [← hkd] at h0
        rw [← hnn] at h1
        rw [← hT] at h2 hc2 hC2
        have H0 := Aside0.mk h0
        have H1 := Aside0.mk h1
        have H2 := Aside0.mk h2
        have HC2 := Aside0.mk hC2
        have hadw := World.block_lt_of_cell? w _ h1
        clear hkd hnn hT h0 h1 h2 hC2
        obtain ⟨bs, hbs, hbs2⟩ := short_ok 12 3000 T (by omega) (by omega)
        have HBS := Aside0.mk hbs
        have HBS2 := Aside0.mk hbs2
        clear hbs hbs2
        have q2 := pw_cell_below HBr.out H2.out
        go_wp2_with fail
        refine (pontoonbook_Short.calls _ 12 3000 A2 c2 T bs _ (Kd.C_below HC2.out HBr.out) hc2 HBS.out).mono ?_
        rintro e2 w2 ⟨rfl, hb2⟩
        have HI2 := Aside0.mk (HIr.out.below hb2)
        have HB2 := Aside0.mk (below_step HBr.out hb2)
        clear hb2 q2
        cases bs with
        | false =>
          go_wp2
          go_ret
          exact ⟨rfl, HB2.out⟩
        | true =>
          obtain ⟨hT1, hT2⟩ := HBS2.out rfl
          have q2 := pw_cell_below HB2.out H2.out
          go_wp2_with fail
          refine (pontoonbook_Join.calls _ A2 c2 T (joinS T) _ (Kd.C_below HC2.out HB2.out) hc2 (join_ok T (by omega) (by omega))).mono ?_
          rintro e3 w3 ⟨rfl, hd3⟩
          have HI3 := Aside0.mk (HI2.out.below hd3.below)
          have HB3 := Aside0.mk (below_step HB2.out hd3.below)
          obtain ⟨j, hj⟩ : ∃ j, j = joinS T := ⟨_, rfl⟩
          have hjs : j.size ≤ 3000 := by rw [hj, sumS_eq]; exact hT2
          have HJ := Aside0.mk hj
          rw [← hj]
          clear hd3 q2 hj
          have q2 := pw_cell_below HB3.out H2.out
          go_wp2_with fail
          refine (lent_calls A2 c2 T _ (Kd.C_below HC2.out HB3.out) (by omega)).mono ?_
          rintro e4 w4 ⟨gm, cm, rfl, hL4, hb4⟩
          have HI4 := Aside0.mk (HI3.out.below hb4)
          have HB4 := Aside0.mk (below_step HB3.out hb4)
          have hgm : g < gm := Nat.lt_of_lt_of_le (blk_lt HI3.out) hL4.ge
          have HL4 := Aside0.mk hL4
          have hcm := hL4.cap
          clear hb4 hL4 q2
          go_upto_region 15 with (fail)
          obtain ⟨n, hn⟩ : ∃ n, n = min nn.toNat b.size := ⟨_, rfl⟩
          have HN := Aside0.mk hn
          have hnb : n ≤ b.size := by omega
          have hnb' : (n : Int) ≤ (b.size : Int) := by omega
          have hjb : (b.size : Int) ≤ (rm : Int) := by have := HSZ.out; omega
          have hjb2 := HSZ.out
          have q1 := pw_cell_below HB4.out H1.out
          go_cut [10] (fun v10 wc => v10 = .int .i64 (n : Int) ∧ Aside0 (wc = w4))
          case first =>
            by_cases g1 : nn < 0
            · have : n = 0 := by omega
              subst this
              clear hn
              have hb0 : (0 : Int) ≤ (b.size : Int) := by omega
              go_wp2
              go_meet
              case rel => exact ⟨rfl, ⟨rfl⟩⟩
            · by_cases g2 : (b.size : Int) < nn
              · have : n = b.size := by omega
                subst this
                clear hn
                go_wp2
                go_meet
                case rel => exact ⟨rfl, ⟨rfl⟩⟩
              · have : nn = (n : Int) := by omega
                subst this
                clear hn
                go_wp2
                go_meet
                case rel => exact ⟨rfl, ⟨rfl⟩⟩
          case rest =>
            obtain ⟨rfl, ⟨rfl⟩⟩ := hcut
            have q0 := pw_cell_below HB4.out H0.out
            clear hn
            go_upto_block 2 with (fail)
            go_cut [6, 11] (fun v6 v11 wd => ∃ b', v6 = .string b' ∧ v11 = .bool true ∧ Aside0 (b'.size ≤ rm) ∧ Aside0 (IsRing wd g rm b') ∧ Aside0 (Below w.heap.size w wd) ∧ Aside0 (Lent.Lent w3.heap.size wd gm cm T))
            case first =>
              by_cases k1 : kd = 1
              · as_aux_lemma =>
                subst k1
                clear q1
                obtain ⟨k, hk⟩ : ∃ k, k = min j.size (rm - b.size) := ⟨_, rfl⟩
                have HK := Aside0.mk hk
                go_upto_region 21 with (fail)
                go_cut [12] (fun v12 we => v12 = .int .i64 (k : Int) ∧ Aside0 (we = wc))
                case first =>
                  by_cases g1 : (j.size : Int) ≤ (rm : Int) - b.size
                  · have : k = j.size := by omega
                    subst this
                    clear hk
                    go_wp2
                    go_meet
                    case rel => exact ⟨rfl, ⟨rfl⟩⟩
                  · have e : (rm : Int) - b.size = (k : Int) := by omega
                    have hlt2 : (k : Int) < (j.size : Int) := by omega
                    clear hk
                    go_wp2
                    go_meet
                    case rel => exact ⟨by first | rfl | rw [← e], ⟨rfl⟩⟩
                case rest =>
                  obtain ⟨rfl, ⟨rfl⟩⟩ := hcut
                  clear q0
                  have hkj : k ≤ j.size := by omega
                  have hkj' : (k : Int) ≤ (j.size : Int) := by omega
                  have hap : b.size + (j.extract 0 k).size ≤ 9223372036854775807 := by simp; omega
                  have hps : ((rPut rm b (joinS T)).size : Int) = (k : Int) := by rw [← HJ.out, rPut_size', HK.out, Nat.min_comm]
                  clear hk
                  go_wp2_with fail
                  refine (rput_calls g 0 gm cm rm b T _ HI4.out hjb2 hrm1 (fun q x hx => by rw [Nat.zero_add]; exact HL4.out.cell q x (by rw [List.getElem?_append_left (List.getElem?_eq_some_iff.1 hx).1]; exact hx)) HL4.out.lt (by omega) (by omega) (by rw [← HJ.out]; omega)).mono ?_
                  rintro e5 w5 ⟨rfl, hI5, hF5⟩
                  have HI5 := Aside0.mk (show IsRing w5 g rm (b ++ j.extract 0 k) by rw [put_ext, ← HJ.out] at hI5; rw [HK.out]; exact hI5)
                  have HB5 := Aside0.mk (hF5.upOf HB4.out HB4.out.size hgw)
                  have HL5 := Aside0.mk (lent_same HL4.out (hF5.block gm HL4.out.lt (by omega)))
                  have HS5 := Aside0.mk (show (b ++ j.extract 0 k).size ≤ rm by rw [ByteArray.size_append]; have := HK.out; simp; omega)
                  clear hI5 hF5
                  rw [hps]
                  go_wp2
                  go_meet
                  case rel => exact ⟨_, rfl, rfl, HS5, HI5, HB5, HL5⟩
              · have k1b : (kd == 1) = false := by simpa using k1
                by_cases k2 : kd = 2
                · as_aux_lemma =>
                  subst k2
                  clear q1
                  go_upto_region 25 with (fail)
                  go_cut [13] (fun v13 we => v13 = .bool (decide (j.size ≤ rm - b.size)) ∧ Aside0 (we = wc))
                  case first =>
                    by_cases g1 : (j.size : Int) ≤ (rm : Int) - b.size
                    · have e : decide (j.size ≤ rm - b.size) = true := decide_eq_true (by omega)
                      go_wp2
                      go_meet
                      case rel => exact ⟨by rw [e], ⟨rfl⟩⟩
                    · have e : decide (j.size ≤ rm - b.size) = false := decide_eq_false (by omega)
                      go_wp2
                      go_meet
                      case rel => exact ⟨by rw [e], ⟨rfl⟩⟩
                  case rest =>
                    obtain ⟨rfl, ⟨rfl⟩⟩ := hcut
                    clear q0
                    have hap : b.size + j.size ≤ 9223372036854775807 := by omega
                    have hok : rAllOk rm b (joinS T) = decide (j.size ≤ rm - b.size) := by rw [← HJ.out]; rfl
                    go_wp2_with fail
                    refine (rall2_calls g 0 gm cm rm b T _ HI4.out hjb2 hrm1 (fun q x hx => by rw [Nat.zero_add]; exact HL4.out.cell q x (by rw [List.getElem?_append_left (List.getElem?_eq_some_iff.1 hx).1]; exact hx)) HL4.out.lt (by omega) (by omega) (by rw [← HJ.out]; omega)).mono ?_
                    rintro e5 w5 ⟨rfl, hI5, hF5⟩
                    rw [hok]
                    have HB5 := Aside0.mk (hF5.upOf HB4.out HB4.out.size hgw)
                    have HL5 := Aside0.mk (lent_same HL4.out (hF5.block gm HL4.out.lt (by omega)))
                    have hI5' : IsRing w5 g rm (rAllV rm b j) := by rw [HJ.out]; exact hI5
                    clear hI5 hF5
                    by_cases hfit : j.size ≤ rm - b.size
                    · have HI5 := Aside0.mk (show IsRing w5 g rm (b ++ j) by unfold rAllV at hI5'; rwa [if_pos hfit] at hI5')
                      have HS5 := Aside0.mk (show (b ++ j).size ≤ rm by rw [ByteArray.size_append]; omega)
                      rw [decide_eq_true hfit]
                      clear hI5' hok
                      go_wp2
                      go_meet
                      case rel => exact ⟨_, rfl, rfl, HS5, HI5, HB5, HL5⟩
                    · have HI5 := Aside0.mk (show IsRing w5 g rm b by unfold rAllV at hI5'; rwa [if_neg hfit] at hI5')
                      rw [decide_eq_false hfit]
                      clear hI5' hok
                      go_wp2
                      go_meet
                      case rel => exact ⟨_, rfl, rfl, HSZ, HI5, HB5, HL5⟩
                · have k2b : (kd == 2) = false := by simpa using k2
                  by_cases k3 : kd = 3
                  · as_aux_lemma =>
                    subst k3
                    have XP0 := Aside0.mk (show SC w ⟨(ad.add (i * 3)).block, (ad.add (i * 3)).off + 1, none⟩ nn wc.drew from ⟨below_drew HB4.out, q1⟩)
                    go_upto_region 30 with (fail)
                    clear q1 q0
                    refine wp_region_held_drew (S := SC w ⟨(ad.add (i * 3)).block, (ad.add (i * 3)).off + 1, none⟩ nn) (by kernel_rfl) (by exact XP0.out) (fun hHeld => ?_)
                    refine takeH (i := 0) (d := 113) (v := (.pointer (some ⟨g, 0, none⟩))) rfl rfl (by kernel_rfl) (by kernel_rfl) (by kernel_rfl) (fun _ _ _ h => h) (Or.inl ⟨by kernel_rfl, by intro w hSw; (try dsimp only at hSw); go_simp; done⟩) (by assumption) ?_
                    try simp only [List.setIfInBounds_toArray, List.set_cons_zero, List.set_cons_succ]
                    refine takeH (i := 1) (d := 114) (v := (.slice (some ad) ops.length c)) rfl rfl (by kernel_rfl) (by kernel_rfl) (by kernel_rfl) (fun _ _ _ h => h) (Or.inl ⟨by kernel_rfl, by intro w hSw; (try dsimp only at hSw); go_simp; done⟩) (by assumption) ?_
                    try simp only [List.setIfInBounds_toArray, List.set_cons_zero, List.set_cons_succ]
                    refine takeH (i := 2) (d := 115) (v := (.int .i64 (i : Int))) rfl rfl (by kernel_rfl) (by kernel_rfl) (by kernel_rfl) (fun _ _ _ h => h) (Or.inl ⟨by kernel_rfl, by intro w hSw; (try dsimp only at hSw); go_simp; done⟩) (by assumption) ?_
                    try simp only [List.setIfInBounds_toArray, List.set_cons_zero, List.set_cons_succ]
                    refine takeH (i := 3) (d := 116) (v := (.pointer (some (ad.add (i * 3))))) rfl rfl (by kernel_rfl) (by kernel_rfl) (by kernel_rfl) (fun _ _ _ h => h) (Or.inl ⟨by kernel_rfl, by intro w hSw; (try dsimp only at hSw); go_simp; done⟩) (by assumption) ?_
                    try simp only [List.setIfInBounds_toArray, List.set_cons_zero, List.set_cons_succ]
                    refine takeH (i := 4) (d := 117) (v := (.pointer (some ⟨(ad.add (i * 3)).block, (ad.add (i * 3)).off + 1, none⟩))) rfl rfl (by kernel_rfl) (by kernel_rfl) (by kernel_rfl) (fun _ _ _ h => h) (Or.inl ⟨by kernel_rfl, by intro w hSw; (try dsimp only at hSw); go_simp; done⟩) (by assumption) ?_
                    try simp only [List.setIfInBounds_toArray, List.set_cons_zero, List.set_cons_succ]
                    refine takeH (i := 5) (d := 118) (v := (.int .i64 nn)) rfl rfl (by kernel_rfl) (by kernel_rfl) (by kernel_rfl) (fun _ _ _ h => h) (Or.inl ⟨by kernel_rfl, by intro w hSw; (try dsimp only at hSw); obtain ⟨s0, s1⟩ := hSw; clear s0; go_simp; done⟩) (by assumption) ?_
                    try simp only [List.setIfInBounds_toArray, List.set_cons_zero, List.set_cons_succ]
                    refine takeH (i := 7) (d := 120) (v := (.string b)) rfl rfl (by kernel_rfl) (by kernel_rfl) (by kernel_rfl) (fun _ _ _ h => h) (Or.inl ⟨by kernel_rfl, by intro w hSw; (try dsimp only at hSw); go_simp; done⟩) (by assumption) ?_
                    try simp only [List.setIfInBounds_toArray, List.set_cons_zero, List.set_cons_succ]
                    refine takeH (i := 8) (d := 121) (v := (.int .i64 (n : Int))) rfl rfl (by kernel_rfl) (by kernel_rfl) (by kernel_rfl) (fun _ _ _ h => h) (Or.inl ⟨by kernel_rfl, by intro w hSw; (try dsimp only at hSw); go_simp; done⟩) (by assumption) ?_
                    try simp only [List.setIfInBounds_toArray, List.set_cons_zero, List.set_cons_succ]
                    refine takeH (i := 9) (d := 122) (v := (.string (b.extract 0 n))) rfl rfl (by kernel_rfl) (by kernel_rfl) (by kernel_rfl) (fun _ _ _ h => h) (Or.inl ⟨by kernel_rfl, by intro w hSw; (try dsimp only at hSw); go_simp; done⟩) (by assumption) ?_
                    try simp only [List.setIfInBounds_toArray, List.set_cons_zero, List.set_cons_succ]
                    refine wpAnyH_ready (rs := [6]) (by kernel_rfl) (by simp) ?_
                    refine AllReadyH.cons (o := { dst := some 119, op := Op.call { callee := Callee.value (Operand.func 16), args := #[Operand.tmp 113, Operand.tmp 118], argTypes := #[23, 3] }, type := 9, pos := "law.go:55", after := #[{ on := 0, ground := Ground.data }, { on := 5, ground := Ground.data }], guard := none }) rfl (fun K hK => ?_) AllReadyH.nil
                    rw [if_pos (by kernel_rfl)]
                    go_simp
                    refine (rtake_calls g rm b nn wc.drew HI4.out (by omega)).mono ?_
                    rw [peek_ext, drop_ext, ← HN.out]
                    rintro e5 w5 ⟨rfl, hI5, hF5⟩
                    have HI5 := Aside0.mk hI5
                    have XP1 := Aside0.mk (XP0.out.fg hF5 hgw (by show (ad.add (i * 3)).block ≠ g; omega))
                    have HL5 := Aside0.mk (lent_same HL4.out (hF5.block gm HL4.out.lt (by omega)))
                    have HS5 := Aside0.mk (show (b.extract n b.size).size ≤ rm by simp; omega)
                    clear hI5 hF5 hHeld
                    refine hK.out _ _ (XP1.out) (fun hHeld => ?_)
                    clear hK K
                    try simp only [Act.put, List.setIfInBounds_toArray, List.set_cons_zero, List.set_cons_succ]
                    refine takeH (i := 10) (d := 123) (v := (.bool true)) rfl rfl (by kernel_rfl) (by kernel_rfl) (by kernel_rfl) (fun _ _ _ h => h) (Or.inl ⟨by kernel_rfl, by intro w hSw; (try dsimp only at hSw); go_simp; done⟩) (by assumption) ?_
                    try simp only [List.setIfInBounds_toArray, List.set_cons_zero, List.set_cons_succ]
                    refine takeH (i := 11) (d := 11) (v := (.bool true)) rfl rfl (by kernel_rfl) (by kernel_rfl) (by kernel_rfl) (fun _ _ _ h => h) (Or.inl ⟨by kernel_rfl, by intro w hSw; (try dsimp only at hSw); go_simp; done⟩) (by assumption) ?_
                    try simp only [List.setIfInBounds_toArray, List.set_cons_zero, List.set_cons_succ]
                    refine wpAnyH_done (by kernel_rfl) ?_ _
                    have HB5 := Aside0.mk XP1.out.1
                    clear hHeld
                    have hnb2 : (n : Int) ≤ (b.size : Int) := hnb'
                    go_wp2
                    go_meet
                    case rel => exact ⟨_, rfl, rfl, HS5, HI5, HB5, HL5⟩
                  · have k3b : (kd == 3) = false := by simpa using k3
                    by_cases k4 : kd = 4
                    · as_aux_lemma =>
                      subst k4
                      have XP0 := Aside0.mk (show SC w ⟨(ad.add (i * 3)).block, (ad.add (i * 3)).off + 1, none⟩ nn wc.drew from ⟨below_drew HB4.out, q1⟩)
                      go_upto_region 33 with (fail)
                      clear q1 q0
                      refine wp_region_held_drew (S := SC w ⟨(ad.add (i * 3)).block, (ad.add (i * 3)).off + 1, none⟩ nn) (by kernel_rfl) (by exact XP0.out) (fun hHeld => ?_)
                      refine takeH (i := 0) (d := 129) (v := (.pointer (some ⟨g, 0, none⟩))) rfl rfl (by kernel_rfl) (by kernel_rfl) (by kernel_rfl) (fun _ _ _ h => h) (Or.inl ⟨by kernel_rfl, by intro w hSw; (try dsimp only at hSw); go_simp; done⟩) (by assumption) ?_
                      try simp only [List.setIfInBounds_toArray, List.set_cons_zero, List.set_cons_succ]
                      refine takeH (i := 1) (d := 130) (v := (.slice (some ad) ops.length c)) rfl rfl (by kernel_rfl) (by kernel_rfl) (by kernel_rfl) (fun _ _ _ h => h) (Or.inl ⟨by kernel_rfl, by intro w hSw; (try dsimp only at hSw); go_simp; done⟩) (by assumption) ?_
                      try simp only [List.setIfInBounds_toArray, List.set_cons_zero, List.set_cons_succ]
                      refine takeH (i := 2) (d := 131) (v := (.int .i64 (i : Int))) rfl rfl (by kernel_rfl) (by kernel_rfl) (by kernel_rfl) (fun _ _ _ h => h) (Or.inl ⟨by kernel_rfl, by intro w hSw; (try dsimp only at hSw); go_simp; done⟩) (by assumption) ?_
                      try simp only [List.setIfInBounds_toArray, List.set_cons_zero, List.set_cons_succ]
                      refine takeH (i := 3) (d := 132) (v := (.pointer (some (ad.add (i * 3))))) rfl rfl (by kernel_rfl) (by kernel_rfl) (by kernel_rfl) (fun _ _ _ h => h) (Or.inl ⟨by kernel_rfl, by intro w hSw; (try dsimp only at hSw); go_simp; done⟩) (by assumption) ?_
                      try simp only [List.setIfInBounds_toArray, List.set_cons_zero, List.set_cons_succ]
                      refine takeH (i := 4) (d := 133) (v := (.pointer (some ⟨(ad.add (i * 3)).block, (ad.add (i * 3)).off + 1, none⟩))) rfl rfl (by kernel_rfl) (by kernel_rfl) (by kernel_rfl) (fun _ _ _ h => h) (Or.inl ⟨by kernel_rfl, by intro w hSw; (try dsimp only at hSw); go_simp; done⟩) (by assumption) ?_
                      try simp only [List.setIfInBounds_toArray, List.set_cons_zero, List.set_cons_succ]
                      refine takeH (i := 5) (d := 134) (v := (.int .i64 nn)) rfl rfl (by kernel_rfl) (by kernel_rfl) (by kernel_rfl) (fun _ _ _ h => h) (Or.inl ⟨by kernel_rfl, by intro w hSw; (try dsimp only at hSw); obtain ⟨s0, s1⟩ := hSw; clear s0; go_simp; done⟩) (by assumption) ?_
                      try simp only [List.setIfInBounds_toArray, List.set_cons_zero, List.set_cons_succ]
                      refine takeH (i := 7) (d := 136) (v := (.string b)) rfl rfl (by kernel_rfl) (by kernel_rfl) (by kernel_rfl) (fun _ _ _ h => h) (Or.inl ⟨by kernel_rfl, by intro w hSw; (try dsimp only at hSw); go_simp; done⟩) (by assumption) ?_
                      try simp only [List.setIfInBounds_toArray, List.set_cons_zero, List.set_cons_succ]
                      refine takeH (i := 8) (d := 137) (v := (.int .i64 (n : Int))) rfl rfl (by kernel_rfl) (by kernel_rfl) (by kernel_rfl) (fun _ _ _ h => h) (Or.inl ⟨by kernel_rfl, by intro w hSw; (try dsimp only at hSw); go_simp; done⟩) (by assumption) ?_
                      try simp only [List.setIfInBounds_toArray, List.set_cons_zero, List.set_cons_succ]
                      refine takeH (i := 9) (d := 138) (v := (.string (b.extract 0 n))) rfl rfl (by kernel_rfl) (by kernel_rfl) (by kernel_rfl) (fun _ _ _ h => h) (Or.inl ⟨by kernel_rfl, by intro w hSw; (try dsimp only at hSw); go_simp; done⟩) (by assumption) ?_
                      try simp only [List.setIfInBounds_toArray, List.set_cons_zero, List.set_cons_succ]
                      refine wpAnyH_ready (rs := [6]) (by kernel_rfl) (by simp) ?_
                      refine AllReadyH.cons (o := { dst := some 135, op := Op.call { callee := Callee.value (Operand.func 27), args := #[Operand.tmp 129, Operand.tmp 134], argTypes := #[23, 3] }, type := 9, pos := "law.go:58", after := #[{ on := 0, ground := Ground.data }, { on := 5, ground := Ground.data }], guard := none }) rfl (fun K hK => ?_) AllReadyH.nil
                      rw [if_pos (by kernel_rfl)]
                      go_simp
                      refine (rpeek_calls g rm b nn wc.drew HI4.out (by omega)).mono ?_
                      rw [peek_ext, ← HN.out]
                      rintro e5 w5 ⟨rfl, hB5⟩
                      have HI5 := Aside0.mk (IsRing.below HI4.out (below_step (below_drew (Below.refl _ _)) hB5))
                      have XP1 := Aside0.mk (XP0.out.below hB5)
                      have HL5 := Aside0.mk (Lent.Lent.below (w' := w5) HL4.out (below_step (below_drew (Below.refl _ _)) hB5))
                      clear hB5 hHeld
                      refine hK.out _ _ (XP1.out) (fun hHeld => ?_)
                      clear hK K
                      try simp only [Act.put, List.setIfInBounds_toArray, List.set_cons_zero, List.set_cons_succ]
                      refine takeH (i := 10) (d := 139) (v := (.bool true)) rfl rfl (by kernel_rfl) (by kernel_rfl) (by kernel_rfl) (fun _ _ _ h => h) (Or.inl ⟨by kernel_rfl, by intro w hSw; (try dsimp only at hSw); go_simp; done⟩) (by assumption) ?_
                      try simp only [List.setIfInBounds_toArray, List.set_cons_zero, List.set_cons_succ]
                      refine takeH (i := 11) (d := 11) (v := (.bool true)) rfl rfl (by kernel_rfl) (by kernel_rfl) (by kernel_rfl) (fun _ _ _ h => h) (Or.inl ⟨by kernel_rfl, by intro w hSw; (try dsimp only at hSw); go_simp; done⟩) (by assumption) ?_
                      try simp only [List.setIfInBounds_toArray, List.set_cons_zero, List.set_cons_succ]
                      refine wpAnyH_done (by kernel_rfl) ?_ _
                      have HB5 := Aside0.mk XP1.out.1
                      clear hHeld
                      go_wp2
                      go_meet
                      case rel => exact ⟨_, rfl, rfl, HSZ, HI5, HB5, HL5⟩
                    · as_aux_lemma =>
                      have k4b : (kd == 4) = false := by simpa using k4
                      clear q1
                      go_wp2_with fail
                      refine (rclear_calls g rm b _ HI4.out (by omega)).mono ?_
                      rintro e5 w5 ⟨rfl, hI5, hF5⟩
                      have HI5 := Aside0.mk (show IsRing w5 g rm ⟨#[]⟩ by rw [clear_ext] at hI5; exact hI5)
                      have HB5 := Aside0.mk (hF5.upOf HB4.out HB4.out.size hgw)
                      have HL5 := Aside0.mk (lent_same HL4.out (hF5.block gm HL4.out.lt (by omega)))
                      clear hI5 hF5 q0
                      go_wp2
                      go_meet
                      case rel => exact ⟨_, rfl, rfl, ⟨Nat.zero_le _⟩, HI5, HB5, HL5⟩
            case rest => as_aux_lemma =>
              obtain ⟨b', rfl, rfl, HS6, HI6, HB6, HL6⟩ := hcut
              clear q0 q1 hnb hnb' hjb hjb2
              have hs6 := HS6.out
              have q2 := pw_cell_below HB6.out H2.out
              have hroom : (rm : Int) - b'.size ≥ 0 := by omega
              go_wp2_with fail
              refine (rlen_calls g rm b' _ HI6.out).mono ?_
              rintro e6 w6 ⟨rfl, rfl⟩
              go_wp2_with fail
              refine (rroom_calls g rm b' _ HI6.out HS6.out hrm1).mono ?_
              rintro e7 w7 ⟨rfl, nr, rfl⟩
              have HI7 := Aside0.mk (IsRing.drewN HI6.out nr)
              have HB7 := Aside0.mk (pw_below_drewN HB6.out nr)
              have HL7 := Aside0.mk (show Lent.Lent w3.heap.size (wc.drewN nr) gm cm T from pw_own_drewN HL6.out nr)
              go_wp2_with fail
              refine (rpeek_calls g rm b' 1073741824 _ HI7.out (by omega)).mono ?_
              rw [peek_big b' (by omega)]
              rintro e8 w8 ⟨rfl, hb8⟩
              have HI8 := Aside0.mk (IsRing.below HI7.out hb8)
              have HB8 := Aside0.mk (below_step HB7.out hb8)
              have HL8 := Aside0.mk (HL7.out.below hb8)
              clear hb8 q2
              have q2 := pw_cell_below HB8.out H2.out
              go_wp2_with fail
              refine (stays_calls w3.heap.size gm cm A2 c2 T _ HL8.out (Kd.C_below HC2.out HB8.out) hc2 (by omega)).mono ?_
              rintro e9 w9 ⟨rfl, hd9⟩
              have HI9 := Aside0.mk (IsRing.below HI8.out hd9.below)
              have HB9 := Aside0.mk (below_step HB8.out hd9.below)
              clear hd9 q2
              go_wp2
              go_roundg (60 - (i + 1))
              case measure => have := HQ.out; omega
              case rel => exact ⟨i + 1, b', rfl, by go_num, ⟨hlt, rfl⟩, HS6, HI9, HB9⟩
      · as_aux_lemma =>
        have hie : i = ops.length := by omega
        go_wp2_with fail
        refine (put0 _ _).mono ?_
        rintro e2 w2 ⟨rfl, rfl⟩
        go_wp2_with fail
        refine (all20 _ ⟨#[97]⟩ _ ?hcell).mono ?_
        case hcell =>
          have := blk_cell (blk_new (wr.alloc (.cells #[.string ⟨#[97]⟩] 9)) (.cells #[.string ⟨#[97]⟩] 9)) 0
          rw [World.size_alloc] at this
          exact this
        rintro e3 w3 ⟨rfl, rfl⟩
        have HB3 := Aside0.mk (below_alloc (below_alloc HBr.out (.cells #[.string ⟨#[97]⟩] 9)) (.cells #[.string ⟨#[97]⟩] 9))
        go_wp2_with fail
        refine (take0 1 (by omega) _).mono ?_
        rintro e4 w4 ⟨rfl, hb4⟩
        have HB4 := Aside0.mk (below_step HB3.out hb4)
        clear hb4
        go_wp2_with fail
        refine (peek0 1 (by omega) _).mono ?_
        rintro e5 w5 ⟨rfl, hb5⟩
        have HB5 := Aside0.mk (below_step HB4.out hb5)
        clear hb5
        have he : ((⟨#[]⟩ : ByteArray) ++ (⟨#[]⟩ : ByteArray)).size ≤ 9223372036854775807 := by decide
        have he2 : ((⟨#[]⟩ : ByteArray) ++ (⟨#[]⟩ : ByteArray)).toList = [] := by kernel_rfl
        go_wp2_with fail
        refine (len0 _).mono ?_
        rintro e6 w6 ⟨rfl, rfl⟩
        go_wp2_with fail
        refine (room0 _).mono ?_
        rintro e7 w7 ⟨rfl, rfl⟩
        go_wp2_with fail
        refine (clear0 _).mono ?_
        rintro e8 w8 ⟨rfl, hb8⟩
        have HB8 := Aside0.mk (below_step HB5.out hb8)
        clear hb8
        go_wp2
        go_ret
        exact ⟨rfl, HB8.out⟩
end Go.Proofs.Ytheieigeipppnaa.RingP
