/- The walk of CodecReads: every bytes, read in every way. Conditions: those in each theorem. -/
import Derived.Test.YtheieigeipppnaaRefRead
import Derived.Test.YtheieigeipppnaaLightD
import Derived.OpenShut
namespace Go.Proofs.Ytheieigeipppnaa.Obj
open Go.RowKit Go.Proofs.YtheieigeipppnaaW.PrintWords Go.Proofs.YtheieigeipppnaaW.PrintMore Go.Proofs.Ytheieigeipppnaa.PCodecReads
set_option linter.unusedVariables false
set_option linter.unusedSimpArgs false
/-- What the loop holds: codec's reader and the document's. -/
structure Rd (w0 W : World) (gi gr : Nat) (bc : ByteArray) (e : Int) : Prop where
  i : IsIn W gi bc e
  r : RS w0 W gr bc e
  b : Below w0.heap.size w0 W
  ne : gi ≠ gr
  gi0 : w0.heap.size ≤ gi
  sz : bc.size ≤ 2000
theorem RS.lt {w0 W : World} {g : Nat} {bc : ByteArray} {e : Int} (h : RS w0 W g bc e) : g < W.heap.size := by
  obtain ⟨b, h1, _⟩ := h
  exact h1.lt
theorem takeH {P : Program} {md : Region.Mode} {ops : Array Oper} {Q : Exit → Act → World → Prop} {S : World → Prop} {i d : Nat} {oi : Oper} {v : Value} {fuel : Nat} {listed : Array Bool} {a : Act} {w : World} (hi : ops[i]? = some oi) (hd : oi.dst = some d)
    (hs : Region.noSelect ops = true) (hf : Region.free md ops listed i = true) (hr : (Region.ready md ops listed).contains i = true)
    (hQ : ∀ c a w, Q (.panic c) (a.put oi.dst v) w → Q (.panic c) a w) (hy : YieldsIf P ops S oi v a) (hS : S w)
    (h : wpAnyH P md ops Q S fuel (listed.setIfInBounds i true) { a with tmps := a.tmps.setIfInBounds d v } w) : wpAnyH P md ops Q S (fuel + 1) listed a w :=
  wpAnyH_take hi hs hf hr hQ hy hS (by rw [hd]; exact h)
theorem iRaw_size (b : ByteArray) (e n : Int) : (iRaw b e n).2.1.size ≤ b.size := by
  unfold iRaw
  split
  · exact Nat.le_refl _
  · split
    · exact Nat.le_refl _
    · split
      · exact Nat.le_refl _
      · simp
theorem iText_size (b : ByteArray) (e : Int) : (iText b e).2.1.size ≤ b.size := Nat.le_trans (iRaw_size _ _ _) (iNum_size b e)
set_option maxHeartbeats 8000000 in
set_option maxRecDepth 100000 in
theorem reads_live (b : ByteArray) (A : Option Addr) (c : Nat) (ops : List S63) (w : World) (hb : b.size ≤ 2000) (hops : Kd.C k63 w A ops.length ops) (hc : ops.length ≤ c) :
    Calls Try.prog 9 #[.string b, .slice A ops.length c] w fun r w' => r = .returned (.bool true) ∧ Below w.heap.size w w' := by
  have hbi : (b.size : Int) ≤ 2000 := by omega
  have HO := Aside0.mk hops
  obtain ⟨lr, hlr, hlight⟩ := Opens.light_calls A c ops w hops hc
  clear hops
  go_enter Try.func9, Try.ntmps9
  go_wp2_with fail
  refine hlight.mono ?_
  rintro e0 w0 ⟨rfl, hb0⟩
  have HB := Aside0.mk hb0
  clear hb0 hlight
  cases lr with
  | false =>
    go_wp2_with fail
    refine (alive1 _).mono ?_
    rintro e1 w1 ⟨rfl, hb1⟩
    have HB := Aside0.mk (below_step HB.out hb1)
    clear hb1
    go_wp2
    go_ret
    exact ⟨rfl, HB.out⟩
  | true =>
    have hl40 := hlr rfl
    have hl40I : (ops.length : Int) ≤ 40 := by omega
    clear hlr
    go_wp2_with fail
    refine (alive1 _).mono ?_
    rintro e1 w1 ⟨rfl, hb1⟩
    have HB := Aside0.mk (below_step HB.out hb1)
    clear hb1
    go_wp2_with fail
    refine (on_calls b w1).mono ?_
    rintro e2 w2 ⟨rfl, rfl⟩
    have hn := eql_in ⟨w1.heap.size, 0, none⟩
    have HRd := Aside0.mk (show Rd w ((w1.alloc (.cells #[.string b, .int .i64 0] 76)).alloc (.cells #[.string b, .int .i64 0] 60)) w1.heap.size (w1.heap.size + 1) b 0 from
      ⟨(show IsIn (w1.alloc (.cells #[.string b, .int .i64 0] 76)) w1.heap.size b 0 from heap_alloc_new w1 _).alloc _,
       ⟨b, by have := IsS60.new w (w1.alloc (.cells #[.string b, .int .i64 0] 76)) b 0 (below_alloc HB.out _); rwa [World.size_alloc] at this, fun _ => rfl, hb⟩,
       below_alloc (below_alloc HB.out _) _, by omega, HB.out.size, hb⟩)
    go_wp2_with fail
    obtain ⟨gi, hgi⟩ : ∃ x, x = w1.heap.size := ⟨_, rfl⟩
    obtain ⟨gr, hgr⟩ : ∃ x, x = w1.heap.size + 1 := ⟨_, rfl⟩
    rw [← hgr, ← hgi] at HRd ⊢
    rw [← hgi] at hn
    clear hgi hgr
    go_loopg [7] 40 (fun kq v7 wr => ∃ (i : Nat) (bc : ByteArray) (e : Int), v7 = .int .i64 (i : Int) ∧ Aside0 (i ≤ ops.length ∧ kq = 40 - i) ∧ Aside0 (Rd w wr gi gr bc e))
    case atStart => exact ⟨0, b, 0, rfl, ⟨Nat.zero_le _, rfl⟩, HRd⟩
    case round =>
      obtain ⟨i, bc, e, rfl, ⟨hi, hkq⟩, HD⟩ := hrel
      have HQ := Aside0.mk hkq
      clear hkq
      by_cases hlt : i < ops.length
      · have hi0 : (0 : Int) ≤ (i : Int) := Int.natCast_nonneg _
        have hi1 : (i : Int) < (ops.length : Int) := by omega
        obtain ⟨ad, A2, c2, A3, c3, hA, h0, h1, _, _, _, _, _, _⟩ := at_T63 (Kd.C_below HO.out HD.out.b) (i : Int) hi0 hi1
        rw [Int.toNat_natCast] at h0 h1
        subst hA
        obtain ⟨kd, hkd⟩ : ∃ x, x = (rd_T63 ops (i : Int)).f0 := ⟨_, rfl⟩
        obtain ⟨nn, hnn⟩ : ∃ x, x = (rd_T63 ops (i : Int)).f1 := ⟨_, rfl⟩
        rw [← hkd] at h0
        rw [← hnn] at h1
        have HNN := Aside0.mk hnn
        clear hkd hnn
        by_cases hk1 : kd = 1
        · subst hk1
          go_wp2_with fail
          refine (inum_calls gi bc e _ HD.out.i (by have := HD.out.sz; omega)).mono ?_
          rintro r2 w2 ⟨rfl, hI, hF⟩
          have HI := Aside0.mk hI
          have HRS := Aside0.mk (HD.out.r.same (hF.block gr HD.out.r.lt (Ne.symm HD.out.ne)))
          have HB2 := Aside0.mk (hF.belowOf HD.out.b HD.out.b.size HD.out.gi0)
          clear hI hF
          go_wp2_with fail
          refine (rnum2_calls w w2 gr bc e HRS.out HB2.out).mono ?_
          rintro r3 w3 ⟨rfl, hR, hB3, hK⟩
          have HD3 := Aside0.mk (show Rd w w3 gi gr (iNum bc e).2.1 (iNum bc e).2.2 from ⟨(hK.2 gi (blk_lt HI.out) HD.out.ne (by simp)).trans HI.out, hR, hB3, HD.out.ne, HD.out.gi0, Nat.le_trans (iNum_size bc e) HD.out.sz⟩)
          clear hR hB3 hK h0 h1
          obtain ⟨b4, hb4⟩ : ∃ x, x = (iNum bc e).2.1 := ⟨_, rfl⟩
          obtain ⟨e4, he4⟩ : ∃ x, x = (iNum bc e).2.2 := ⟨_, rfl⟩
          rw [← hb4, ← he4] at HD3
          clear hb4 he4
          go_wp2_with fail
          obtain ⟨lf, hlf⟩ : ∃ x, x = (if e4 = 0 then (b4.size : Int) else 0) := ⟨_, rfl⟩
          have HL1 := ileft_calls gi b4 e4 w3 HD3.out.i
          have HL2 := rleft_calls w w3 gr b4 e4 HD3.out.r HD3.out.b
          rw [← hlf] at HL1 HL2
          clear hlf
          refine HL1.mono ?_
          rintro r5 w5 ⟨rfl, rfl⟩
          go_wp2_with fail
          refine HL2.mono ?_
          rintro r6 w6 ⟨rfl, hR, hB6, hK⟩
          have HD6 := Aside0.mk (show Rd w w6 gi gr b4 e4 from ⟨(hK.2 gi (blk_lt HD3.out.i) HD.out.ne (by simp)).trans HD3.out.i, hR, hB6, HD.out.ne, HD.out.gi0, HD3.out.sz⟩)
          clear hR hB6 hK HL1 HL2
          go_wp2
          go_roundg (39 - i)
          case measure => have := HQ.out; omega
          case rel => exact ⟨i + 1, b4, e4, by go_num, ⟨by omega, by omega⟩, HD6⟩
        · by_cases hk2 : kd = 2
          · subst hk2
            go_wp2_with fail
            refine (ibyte_calls gi bc e _ HD.out.i (by have := HD.out.sz; omega)).mono ?_
            rintro r2 w2 ⟨rfl, hI, hF⟩
            have HI := Aside0.mk hI
            have HRS := Aside0.mk (HD.out.r.same (hF.block gr HD.out.r.lt (Ne.symm HD.out.ne)))
            have HB2 := Aside0.mk (hF.belowOf HD.out.b HD.out.b.size HD.out.gi0)
            clear hI hF
            go_wp2_with fail
            refine (rbyte_calls w w2 gr bc e HRS.out HB2.out).mono ?_
            rintro r3 w3 ⟨rfl, hR, hB3, hK⟩
            have HD3 := Aside0.mk (show Rd w w3 gi gr (iByte bc e).2.1 (iByte bc e).2.2 from ⟨(hK.2 gi (blk_lt HI.out) HD.out.ne (by simp)).trans HI.out, hR, hB3, HD.out.ne, HD.out.gi0, Nat.le_trans (iByte_size bc e) HD.out.sz⟩)
            clear hR hB3 hK h0 h1
            obtain ⟨b4, hb4⟩ : ∃ x, x = (iByte bc e).2.1 := ⟨_, rfl⟩
            obtain ⟨e4, he4⟩ : ∃ x, x = (iByte bc e).2.2 := ⟨_, rfl⟩
            rw [← hb4, ← he4] at HD3
            clear hb4 he4
            go_wp2_with fail
            obtain ⟨lf, hlf⟩ : ∃ x, x = (if e4 = 0 then (b4.size : Int) else 0) := ⟨_, rfl⟩
            have HL1 := ileft_calls gi b4 e4 w3 HD3.out.i
            have HL2 := rleft_calls w w3 gr b4 e4 HD3.out.r HD3.out.b
            rw [← hlf] at HL1 HL2
            clear hlf
            refine HL1.mono ?_
            rintro r5 w5 ⟨rfl, rfl⟩
            go_wp2_with fail
            refine HL2.mono ?_
            rintro r6 w6 ⟨rfl, hR, hB6, hK⟩
            have HD6 := Aside0.mk (show Rd w w6 gi gr b4 e4 from ⟨(hK.2 gi (blk_lt HD3.out.i) HD.out.ne (by simp)).trans HD3.out.i, hR, hB6, HD.out.ne, HD.out.gi0, HD3.out.sz⟩)
            clear hR hB6 hK HL1 HL2
            go_wp2
            go_roundg (39 - i)
            case measure => have := HQ.out; omega
            case rel => exact ⟨i + 1, b4, e4, by go_num, ⟨by omega, by omega⟩, HD6⟩
          · by_cases hk3 : kd = 3
            · subst hk3
              go_wp2_with fail
              refine (itext_calls' gi bc e _ HD.out.i (by have := HD.out.sz; omega)).mono ?_
              rintro r2 w2 ⟨rfl, hI, hF⟩
              have HI := Aside0.mk hI
              have HRS := Aside0.mk (HD.out.r.same (hF.block gr HD.out.r.lt (Ne.symm HD.out.ne)))
              have HB2 := Aside0.mk (hF.belowOf HD.out.b HD.out.b.size HD.out.gi0)
              clear hI hF
              go_wp2_with fail
              refine (rtext_calls w w2 gr bc e HRS.out HB2.out).mono ?_
              rintro r3 w3 ⟨rfl, hR, hB3, hK⟩
              have HD3 := Aside0.mk (show Rd w w3 gi gr (iText bc e).2.1 (iText bc e).2.2 from ⟨(hK.2 gi (blk_lt HI.out) HD.out.ne (by simp)).trans HI.out, hR, hB3, HD.out.ne, HD.out.gi0, Nat.le_trans (iText_size bc e) HD.out.sz⟩)
              clear hR hB3 hK h0 h1
              obtain ⟨b4, hb4⟩ : ∃ x, x = (iText bc e).2.1 := ⟨_, rfl⟩
              obtain ⟨e4, he4⟩ : ∃ x, x = (iText bc e).2.2 := ⟨_, rfl⟩
              rw [← hb4, ← he4] at HD3
              clear hb4 he4
              go_wp2_with fail
              obtain ⟨lf, hlf⟩ : ∃ x, x = (if e4 = 0 then (b4.size : Int) else 0) := ⟨_, rfl⟩
              have HL1 := ileft_calls gi b4 e4 w3 HD3.out.i
              have HL2 := rleft_calls w w3 gr b4 e4 HD3.out.r HD3.out.b
              rw [← hlf] at HL1 HL2
              clear hlf
              refine HL1.mono ?_
              rintro r5 w5 ⟨rfl, rfl⟩
              go_wp2_with fail
              refine HL2.mono ?_
              rintro r6 w6 ⟨rfl, hR, hB6, hK⟩
              have HD6 := Aside0.mk (show Rd w w6 gi gr b4 e4 from ⟨(hK.2 gi (blk_lt HD3.out.i) HD.out.ne (by simp)).trans HD3.out.i, hR, hB6, HD.out.ne, HD.out.gi0, HD3.out.sz⟩)
              clear hR hB6 hK HL1 HL2
              go_wp2
              go_roundg (39 - i)
              case measure => have := HQ.out; omega
              case rel => exact ⟨i + 1, b4, e4, by go_num, ⟨by omega, by omega⟩, HD6⟩
            · have q1 : (kd == 1) = false := by simpa using hk1
              have q2 : (kd == 2) = false := by simpa using hk2
              have q3 : (kd == 3) = false := by simpa using hk3
              have HN0 := Aside0.mk (show w.cell? ⟨(ad.add (i * 4)).block, (ad.add (i * 4)).off + 1, none⟩ = some (.int .i64 nn) by
                obtain ⟨ad', A2', c2', A3', c3', hA', h0', h1', _, _, _, _, _, _⟩ := at_T63 HO.out (i : Int) hi0 hi1
                obtain rfl : ad = ad' := by injection hA'
                rw [Int.toNat_natCast] at h1'
                rw [HNN.out]
                exact h1')
              have HDd := Aside0.mk (show Rd w wr.drew gi gr bc e from ⟨HD.out.i, HD.out.r.same rfl, below_drew HD.out.b, HD.out.ne, HD.out.gi0, HD.out.sz⟩)
              go_wp2_with fail
              clear h0 h1
              refine wp_region_held_drew (S := fun w' => Below w.heap.size w w') (by kernel_rfl) (by exact HDd.out.b) (fun hHeld => ?_)
              refine takeH (i := 0) (d := 40) (v := (.pointer (some ⟨gi, 0, none⟩))) rfl rfl (by kernel_rfl) (by kernel_rfl) (by kernel_rfl) (fun _ _ _ h => h) (Or.inl ⟨by kernel_rfl, by intro w hSw; (try dsimp only at hSw); go_simp; done⟩) (by assumption) ?_
              try simp only [List.setIfInBounds_toArray, List.set_cons_zero, List.set_cons_succ]
              refine takeH (i := 1) (d := 41) (v := (.slice (some ad) ops.length c)) rfl rfl (by kernel_rfl) (by kernel_rfl) (by kernel_rfl) (fun _ _ _ h => h) (Or.inl ⟨by kernel_rfl, by intro w hSw; (try dsimp only at hSw); go_simp; done⟩) (by assumption) ?_
              try simp only [List.setIfInBounds_toArray, List.set_cons_zero, List.set_cons_succ]
              refine takeH (i := 2) (d := 42) (v := (.int .i64 (i : Int))) rfl rfl (by kernel_rfl) (by kernel_rfl) (by kernel_rfl) (fun _ _ _ h => h) (Or.inl ⟨by kernel_rfl, by intro w hSw; (try dsimp only at hSw); go_simp; done⟩) (by assumption) ?_
              try simp only [List.setIfInBounds_toArray, List.set_cons_zero, List.set_cons_succ]
              refine takeH (i := 3) (d := 43) (v := (.pointer (some (ad.add (i * 4))))) rfl rfl (by kernel_rfl) (by kernel_rfl) (by kernel_rfl) (fun _ _ _ h => h) (Or.inl ⟨by kernel_rfl, by intro w hSw; (try dsimp only at hSw); go_simp; done⟩) (by assumption) ?_
              try simp only [List.setIfInBounds_toArray, List.set_cons_zero, List.set_cons_succ]
              refine takeH (i := 4) (d := 44) (v := (.pointer (some ⟨(ad.add (i * 4)).block, (ad.add (i * 4)).off + 1, none⟩))) rfl rfl (by kernel_rfl) (by kernel_rfl) (by kernel_rfl) (fun _ _ _ h => h) (Or.inl ⟨by kernel_rfl, by intro w hSw; (try dsimp only at hSw); go_simp; done⟩) (by assumption) ?_
              try simp only [List.setIfInBounds_toArray, List.set_cons_zero, List.set_cons_succ]
              refine takeH (i := 5) (d := 45) (v := (.int .i64 nn)) rfl rfl (by kernel_rfl) (by kernel_rfl) (by kernel_rfl) (fun _ _ _ h => h) (Or.inl ⟨by kernel_rfl, by intro w hSw; (try dsimp only at hSw); have h1 := pw_cell_below hSw HN0.out; clear hSw; go_simp; done⟩) (by assumption) ?_
              try simp only [List.setIfInBounds_toArray, List.set_cons_zero, List.set_cons_succ]
              refine takeH (i := 7) (d := 47) (v := (.pointer (some ⟨gr, 0, none⟩))) rfl rfl (by kernel_rfl) (by kernel_rfl) (by kernel_rfl) (fun _ _ _ h => h) (Or.inl ⟨by kernel_rfl, by intro w hSw; (try dsimp only at hSw); go_simp; done⟩) (by assumption) ?_
              try simp only [List.setIfInBounds_toArray, List.set_cons_zero, List.set_cons_succ]
              refine takeH (i := 8) (d := 48) (v := (.slice (some ad) ops.length c)) rfl rfl (by kernel_rfl) (by kernel_rfl) (by kernel_rfl) (fun _ _ _ h => h) (Or.inl ⟨by kernel_rfl, by intro w hSw; (try dsimp only at hSw); go_simp; done⟩) (by assumption) ?_
              try simp only [List.setIfInBounds_toArray, List.set_cons_zero, List.set_cons_succ]
              refine takeH (i := 9) (d := 49) (v := (.int .i64 (i : Int))) rfl rfl (by kernel_rfl) (by kernel_rfl) (by kernel_rfl) (fun _ _ _ h => h) (Or.inl ⟨by kernel_rfl, by intro w hSw; (try dsimp only at hSw); go_simp; done⟩) (by assumption) ?_
              try simp only [List.setIfInBounds_toArray, List.set_cons_zero, List.set_cons_succ]
              refine takeH (i := 10) (d := 50) (v := (.pointer (some (ad.add (i * 4))))) rfl rfl (by kernel_rfl) (by kernel_rfl) (by kernel_rfl) (fun _ _ _ h => h) (Or.inl ⟨by kernel_rfl, by intro w hSw; (try dsimp only at hSw); go_simp; done⟩) (by assumption) ?_
              try simp only [List.setIfInBounds_toArray, List.set_cons_zero, List.set_cons_succ]
              refine takeH (i := 11) (d := 51) (v := (.pointer (some ⟨(ad.add (i * 4)).block, (ad.add (i * 4)).off + 1, none⟩))) rfl rfl (by kernel_rfl) (by kernel_rfl) (by kernel_rfl) (fun _ _ _ h => h) (Or.inl ⟨by kernel_rfl, by intro w hSw; (try dsimp only at hSw); go_simp; done⟩) (by assumption) ?_
              try simp only [List.setIfInBounds_toArray, List.set_cons_zero, List.set_cons_succ]
              refine takeH (i := 12) (d := 52) (v := (.int .i64 nn)) rfl rfl (by kernel_rfl) (by kernel_rfl) (by kernel_rfl) (fun _ _ _ h => h) (Or.inl ⟨by kernel_rfl, by intro w hSw; (try dsimp only at hSw); have h1 := pw_cell_below hSw HN0.out; clear hSw; go_simp; done⟩) (by assumption) ?_
              try simp only [List.setIfInBounds_toArray, List.set_cons_zero, List.set_cons_succ]
              refine wpAnyH_ready (rs := [6]) (by kernel_rfl) (by simp) ?_
              refine AllReadyH.cons (o := { dst := some 46, op := Op.call { callee := Callee.value (Operand.func 40), args := #[Operand.tmp 40, Operand.tmp 45], argTypes := #[38, 3] }, type := 9, pos := "law.go:110", after := #[{ on := 0, ground := Ground.data }, { on := 5, ground := Ground.data }], guard := none }) rfl (fun K hK => ?_) AllReadyH.nil
              rw [if_pos (by kernel_rfl)]
              go_simp
              refine (iraw_calls gi bc e nn _ HDd.out.i (by have := HD.out.sz; omega)).mono ?_
              rintro r2 w2 ⟨rfl, hI, hF⟩
              have HI := Aside0.mk hI
              have HRS := Aside0.mk (HDd.out.r.same (hF.block gr HDd.out.r.lt (Ne.symm HD.out.ne)))
              have HB2 := Aside0.mk (hF.belowOf HDd.out.b HDd.out.b.size HD.out.gi0)
              clear hI hF hHeld
              refine hK.out _ _ HB2.out (fun hHeld => ?_)
              clear hK K
              try simp only [Act.put, List.setIfInBounds_toArray, List.set_cons_zero, List.set_cons_succ]
              refine wpAnyH_ready (rs := [13]) (by kernel_rfl) (by simp) ?_
              refine AllReadyH.cons (o := { dst := some 53, op := Op.call { callee := Callee.value (Operand.func 41), args := #[Operand.tmp 47, Operand.tmp 52], argTypes := #[58, 3] }, type := 9, pos := "law.go:110", after := #[{ on := 7, ground := Ground.data }, { on := 12, ground := Ground.data }, { on := 6, ground := Ground.chain }], guard := none }) rfl (fun K hK => ?_) AllReadyH.nil
              rw [if_pos (by kernel_rfl)]
              go_simp
              refine (rraw_calls w w2 gr bc e HRS.out HB2.out nn).mono ?_
              rintro r3 w3 ⟨rfl, hR, hB3, hK3⟩
              have HD3 := Aside0.mk (show Rd w w3 gi gr (iRaw bc e nn).2.1 (iRaw bc e nn).2.2 from ⟨(hK3.2 gi (blk_lt HI.out) HD.out.ne (by simp)).trans HI.out, hR, hB3, HD.out.ne, HD.out.gi0, Nat.le_trans (iRaw_size bc e nn) HD.out.sz⟩)
              clear hR hK3 hHeld
              refine hK.out _ _ hB3 (fun hHeld => ?_)
              clear hK K
              try simp only [Act.put, List.setIfInBounds_toArray, List.set_cons_zero, List.set_cons_succ]
              clear hB3
              refine takeH (i := 14) (d := 54) (v := (.bool true)) rfl rfl (by kernel_rfl) (by kernel_rfl) (by kernel_rfl) (fun _ _ _ h => h) (Or.inl ⟨by kernel_rfl, by intro w hSw; (try dsimp only at hSw); go_simp; done⟩) (by assumption) ?_
              try simp only [List.setIfInBounds_toArray, List.set_cons_zero, List.set_cons_succ]
              refine takeH (i := 15) (d := 8) (v := (.bool true)) rfl rfl (by kernel_rfl) (by kernel_rfl) (by kernel_rfl) (fun _ _ _ h => h) (Or.inl ⟨by kernel_rfl, by intro w hSw; (try dsimp only at hSw); go_simp; done⟩) (by assumption) ?_
              try simp only [List.setIfInBounds_toArray, List.set_cons_zero, List.set_cons_succ]
              refine wpAnyH_done (by kernel_rfl) ?_ _
              clear hHeld
              obtain ⟨b4, hb4⟩ : ∃ x, x = (iRaw bc e nn).2.1 := ⟨_, rfl⟩
              obtain ⟨e4, he4⟩ : ∃ x, x = (iRaw bc e nn).2.2 := ⟨_, rfl⟩
              rw [← hb4, ← he4] at HD3
              clear hb4 he4
              go_wp2_with fail
              obtain ⟨lf, hlf⟩ : ∃ x, x = (if e4 = 0 then (b4.size : Int) else 0) := ⟨_, rfl⟩
              have HL1 := ileft_calls gi b4 e4 w3 HD3.out.i
              have HL2 := rleft_calls w w3 gr b4 e4 HD3.out.r HD3.out.b
              rw [← hlf] at HL1 HL2
              clear hlf
              refine HL1.mono ?_
              rintro r5 w5 ⟨rfl, rfl⟩
              go_wp2_with fail
              refine HL2.mono ?_
              rintro r6 w6 ⟨rfl, hR, hB6, hK⟩
              have HD6 := Aside0.mk (show Rd w w6 gi gr b4 e4 from ⟨(hK.2 gi (blk_lt HD3.out.i) HD.out.ne (by simp)).trans HD3.out.i, hR, hB6, HD.out.ne, HD.out.gi0, HD3.out.sz⟩)
              clear hR hB6 hK HL1 HL2
              go_wp2
              go_roundg (39 - i)
              case measure => have := HQ.out; omega
              case rel => exact ⟨i + 1, b4, e4, by go_num, ⟨by omega, by omega⟩, HD6⟩
      · obtain rfl : i = ops.length := by omega
        obtain ⟨en, hen⟩ : ∃ x, x = (if e = 0 then (if bc.size = 0 then 0 else 3) else e) := ⟨_, rfl⟩
        have HE1 := iend_calls gi bc e wr HD.out.i
        rw [← hen] at HE1
        go_wp2_with fail
        refine HE1.mono ?_
        rintro r2 w2 ⟨rfl, hI, hF⟩
        have HRS := Aside0.mk (HD.out.r.same (hF.block gr HD.out.r.lt (Ne.symm HD.out.ne)))
        have HB2 := Aside0.mk (hF.belowOf HD.out.b HD.out.b.size HD.out.gi0)
        have HE2 := rend_calls w w2 gr bc e HRS.out HB2.out
        rw [← hen] at HE2
        clear hI hF HE1 hen
        go_wp2_with fail
        refine HE2.mono ?_
        rintro r3 w3 ⟨rfl, hB⟩
        have HB3 := Aside0.mk hB
        clear hB HE2
        go_wp2
        go_ret
        exact ⟨rfl, HB3.out⟩
set_option maxHeartbeats 4000000 in
set_option maxRecDepth 100000 in
theorem reads_dead (b : ByteArray) (A : Option Addr) (n c : Nat) (w : World) (h : 2000 < (b.size : Int)) :
    Calls Try.prog 9 #[.string b, .slice A n c] w fun r w' => r = .returned (.bool true) ∧ Below w.heap.size w w' := by
  go_enter Try.func9, Try.ntmps9
  go_wp2_with (go_at_call 18; refine (alive1 _).mono ?_; rintro e1 w1 ⟨rfl, hb⟩)
  go_ret
  exact ⟨rfl, hb⟩
theorem reads_walk (b : ByteArray) (A : Option Addr) (cap : Nat) (ops : List S63) (w : World) (_w0 : b.size ≤ 140737488351232) (hops : Kd.C k63 w A ops.length ops) (hc : ops.length ≤ cap) :
    Calls Try.prog 9 #[.string b, .slice A ops.length cap] w fun r w' => r = .returned (.bool true) ∧ Below w.heap.size w w' := by
  by_cases h : 2000 < (b.size : Int)
  · exact reads_dead b A _ cap w h
  · exact reads_live b A cap ops w (by omega) hops hc
end Go.Proofs.Ytheieigeipppnaa.Obj
