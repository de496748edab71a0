/- The book's last word: each list as it was, and none shares memory with another. Conditions: those in each theorem. (Printed by gen_book.py.) -/
import Derived.Test.YtjjjinpmflghmaaBk2Ev
namespace Go.Proofs.Ytjjjinpmflghmaa.BookEv
open Go.RowKit Go.Proofs.Ytjjjinpmflghmaa.Mem Go.Proofs.Ytjjjinpmflghmaa.Row Go.Proofs.Ytjjjinpmflghmaa.Keys Go.Proofs.YtjjjinpmflghmaaW.PrintWords Go.Proofs.YtjjjinpmflghmaaW.PrintMore Go.Proofs.YtjjjinpmflghmaaW.PrintLast Go.Proofs.Ytjjjinpmflghmaa.PKeysPlay
set_option linter.unusedVariables false
set_option linter.unusedSimpArgs false
set_option maxHeartbeats 16000000 in
set_option maxRecDepth 100000 in
theorem apart_calls (w : World) (gb : Nat) (vx vw : Value) (L Lw : LS) (h : BK w gb vx vw L Lw) (hs : L.map Prod.snd = Lw.map Prod.snd) :
    Calls Try.prog 41 #[.pointer (some ⟨gb, 0, none⟩)] w fun r w' => r = .returned (.bool true) ∧ Only (foot gb vx vw L Lw) w w' := by
  have HB := Aside0.mk h
  have HS := Aside0.mk hs
  clear h hs
  go_enter Try.func41, Try.ntmps41
  go_wp2_with fail
  refine (stillTexts_nil gb _ ((HB.out.blk.cell 0).trans rfl)).mono ?_
  rintro e0 w0 ⟨rfl, rfl⟩
  go_wp2_with fail
  refine (stillInts_nil gb _ ((HB.out.blk.cell 2).trans rfl)).mono ?_
  rintro e0 w0 ⟨rfl, rfl⟩
  go_wp2_with fail
  refine (stillRunes_nil gb _ ((HB.out.blk.cell 4).trans rfl)).mono ?_
  rintro e0 w0 ⟨rfl, rfl⟩
  go_wp2_with fail
  refine (stillTokens_nil gb _ ((HB.out.blk.cell 6).trans rfl)).mono ?_
  rintro e0 w0 ⟨rfl, rfl⟩
  go_wp2_with fail
  refine (stillActs_nil gb _ ((HB.out.blk.cell 8).trans rfl)).mono ?_
  rintro e0 w0 ⟨rfl, rfl⟩
  go_wp2_with fail
  refine (stillCells_nil gb _ ((HB.out.blk.cell 10).trans rfl)).mono ?_
  rintro e0 w0 ⟨rfl, rfl⟩
  go_wp2_with fail
  refine (still_calls _ HB.out HS.out).mono ?_
  rintro e1 w1 ⟨rfl, n1, hw1⟩
  have HB1 := Aside0.mk (show BK w1 gb vx vw L Lw by rw [← hw1]; exact HB.out.drewN n1)
  have HO1 := Aside0.mk (show Only (L.filterMap own) w w1 by rw [← hw1]; exact Only.of_below _ (below_dn w n1))
  clear hw1
  go_wp2_with fail
  refine (stillSteps_nil gb _ ((HB1.out.blk.cell 14).trans rfl)).mono ?_
  rintro e0 w0 ⟨rfl, rfl⟩
  go_wp2_with fail
  refine (putSteps_nil gb _ ((HB1.out.blk.cell 14).trans rfl)).mono ?_
  rintro e0 w0 ⟨rfl, rfl⟩
  go_wp2_with fail
  refine (putActs_nil gb _ ((HB1.out.blk.cell 8).trans rfl)).mono ?_
  rintro e0 w0 ⟨rfl, rfl⟩
  go_wp2_with fail
  refine (putTexts_nil gb _ ((HB1.out.blk.cell 0).trans rfl)).mono ?_
  rintro e0 w0 ⟨rfl, rfl⟩
  go_wp2_with fail
  refine (putInts_nil gb _ ((HB1.out.blk.cell 2).trans rfl)).mono ?_
  rintro e0 w0 ⟨rfl, rfl⟩
  go_wp2_with fail
  refine (putRunes_nil gb _ ((HB1.out.blk.cell 4).trans rfl)).mono ?_
  rintro e0 w0 ⟨rfl, rfl⟩
  go_wp2_with fail
  refine (putTokens_nil gb _ ((HB1.out.blk.cell 6).trans rfl)).mono ?_
  rintro e0 w0 ⟨rfl, rfl⟩
  go_wp2_with fail
  refine (putCells_nil gb _ ((HB1.out.blk.cell 10).trans rfl)).mono ?_
  rintro e0 w0 ⟨rfl, rfl⟩
  go_wp2_with fail
  refine (put_calls _ HB1.out).mono ?_
  rintro e2 w2 ⟨rfl, hb2, ho2⟩
  have HB2 := Aside0.mk hb2
  have HO2 := Aside0.mk (HO1.out.trans ho2)
  clear hb2 ho2
  go_wp2_with fail
  refine (growTexts_nil gb _ ((HB2.out.blk.cell 0).trans rfl)).mono ?_
  rintro e0 w0 ⟨rfl, rfl⟩
  go_wp2_with fail
  refine (growInts_nil gb _ ((HB2.out.blk.cell 2).trans rfl)).mono ?_
  rintro e0 w0 ⟨rfl, rfl⟩
  go_wp2_with fail
  refine (growRunes_nil gb _ ((HB2.out.blk.cell 4).trans rfl)).mono ?_
  rintro e0 w0 ⟨rfl, rfl⟩
  go_wp2_with fail
  refine (growTokens_nil gb _ ((HB2.out.blk.cell 6).trans rfl)).mono ?_
  rintro e0 w0 ⟨rfl, rfl⟩
  go_wp2_with fail
  refine (growActs_nil gb _ ((HB2.out.blk.cell 8).trans rfl)).mono ?_
  rintro e0 w0 ⟨rfl, rfl⟩
  go_wp2_with fail
  refine (growCells_nil gb _ ((HB2.out.blk.cell 10).trans rfl)).mono ?_
  rintro e0 w0 ⟨rfl, rfl⟩
  go_wp2_with fail
  refine (grow_calls _ HB2.out.bx (Mkd.mkd L)).mono ?_
  rintro e3 w3 ⟨vg, G, rfl, hgl, hbx, hgs, ho3⟩
  obtain ⟨Ag, cg, rfl⟩ := row_sl hgs.r
  have HBX := Aside0.mk hbx
  have HGS := Aside0.mk hgs
  have HGL := Aside0.mk hgl
  have HO3 := Aside0.mk (HO2.out.trans (show Only (L.filterMap own) w2 w3 from by rw [← own_mkd L.length L]; exact ho3))
  clear hgl hbx hgs ho3
  go_wp2_with fail
  refine (growSteps_nil gb _ ((HBX.out.blk.cell 14).trans rfl)).mono ?_
  rintro e0 w0 ⟨rfl, rfl⟩
  have c0 : w3.cell? ⟨gb, 0, none⟩ = some (.slice none 0 0) := (HBX.out.blk.cell 0).trans rfl
  have c2 : w3.cell? ⟨gb, 2, none⟩ = some (.slice none 0 0) := (HBX.out.blk.cell 2).trans rfl
  have c4 : w3.cell? ⟨gb, 4, none⟩ = some (.slice none 0 0) := (HBX.out.blk.cell 4).trans rfl
  have c6 : w3.cell? ⟨gb, 6, none⟩ = some (.slice none 0 0) := (HBX.out.blk.cell 6).trans rfl
  have c8 : w3.cell? ⟨gb, 8, none⟩ = some (.slice none 0 0) := (HBX.out.blk.cell 8).trans rfl
  have c10 : w3.cell? ⟨gb, 10, none⟩ = some (.slice none 0 0) := (HBX.out.blk.cell 10).trans rfl
  have c12 : w3.cell? ⟨gb, 12, none⟩ = some (vx) := (HBX.out.blk.cell 12).trans rfl
  have c14 : w3.cell? ⟨gb, 14, none⟩ = some (.slice none 0 0) := (HBX.out.blk.cell 14).trans rfl
  go_wp2_with fail
  refine (markedTexts_nil gb _).mono ?_
  rintro e0 w0 ⟨rfl, rfl⟩
  go_wp2_with fail
  refine (markedTexts_nil gb _).mono ?_
  rintro e0 w0 ⟨rfl, rfl⟩
  go_wp2_with fail
  refine (markedInts_nil gb _).mono ?_
  rintro e0 w0 ⟨rfl, rfl⟩
  go_wp2_with fail
  refine (markedInts_nil gb _).mono ?_
  rintro e0 w0 ⟨rfl, rfl⟩
  go_wp2_with fail
  refine (markedRunes_nil gb _).mono ?_
  rintro e0 w0 ⟨rfl, rfl⟩
  go_wp2_with fail
  refine (markedRunes_nil gb _).mono ?_
  rintro e0 w0 ⟨rfl, rfl⟩
  go_wp2_with fail
  refine (markedTokens_nil gb _).mono ?_
  rintro e0 w0 ⟨rfl, rfl⟩
  go_wp2_with fail
  refine (markedTokens_nil gb _).mono ?_
  rintro e0 w0 ⟨rfl, rfl⟩
  go_wp2_with fail
  refine (markedActs_nil gb _).mono ?_
  rintro e0 w0 ⟨rfl, rfl⟩
  go_wp2_with fail
  refine (markedActs_nil gb _).mono ?_
  rintro e0 w0 ⟨rfl, rfl⟩
  go_wp2_with fail
  refine (markedCells_nil gb _).mono ?_
  rintro e0 w0 ⟨rfl, rfl⟩
  go_wp2_with fail
  refine (markedCells_nil gb _).mono ?_
  rintro e0 w0 ⟨rfl, rfl⟩
  go_wp2_with fail
  refine (marked_calls (L := G) (.slice Ag G.length cg) w3 HGS.out.r (fun q hq => ?_) (fun j q hq => ?_) (by have := HGL.out; have := HBX.out.n; omega)).mono ?_
  · obtain ⟨j, hj⟩ := List.getElem?_of_mem hq
    obtain ⟨p, h1, h2, h3, _⟩ := HGS.out.xs j q hj
    refine ⟨h3, ?_⟩
    rw [h2, MK_len]
    have := (HBX.out.xs p (List.mem_of_getElem? h1)).2
    omega
  · obtain ⟨p, h1, h2, _⟩ := HGS.out.xs j q hq
    rw [h2, MK_len]
  rintro e4 w4 ⟨rfl, hb4⟩
  have HX4 := Aside0.mk (HBX.out.below hb4)
  have HO4 := Aside0.mk (HO3.out.below hb4)
  clear hb4 c0 c2 c4 c6 c8 c10 c12 c14
  have c0 : w4.cell? ⟨gb, 0, none⟩ = some (.slice none 0 0) := (HX4.out.blk.cell 0).trans rfl
  have c2 : w4.cell? ⟨gb, 2, none⟩ = some (.slice none 0 0) := (HX4.out.blk.cell 2).trans rfl
  have c4 : w4.cell? ⟨gb, 4, none⟩ = some (.slice none 0 0) := (HX4.out.blk.cell 4).trans rfl
  have c6 : w4.cell? ⟨gb, 6, none⟩ = some (.slice none 0 0) := (HX4.out.blk.cell 6).trans rfl
  have c8 : w4.cell? ⟨gb, 8, none⟩ = some (.slice none 0 0) := (HX4.out.blk.cell 8).trans rfl
  have c10 : w4.cell? ⟨gb, 10, none⟩ = some (.slice none 0 0) := (HX4.out.blk.cell 10).trans rfl
  have c12 : w4.cell? ⟨gb, 12, none⟩ = some (vx) := (HX4.out.blk.cell 12).trans rfl
  have c14 : w4.cell? ⟨gb, 14, none⟩ = some (.slice none 0 0) := (HX4.out.blk.cell 14).trans rfl
  go_wp2_with fail
  refine (marked_calls (L := mkd L.length L) vx w4 HX4.out.rx (fun q hq => ⟨(HX4.out.xs q hq).1, Nat.le_trans (HX4.out.xs q hq).2 (by decide)⟩) (Mkd.mkd L) HX4.out.n).mono ?_
  rintro e5 w5 ⟨rfl, hb5⟩
  have HX5 := Aside0.mk (HX4.out.below hb5)
  have HO5 := Aside0.mk (HO4.out.below hb5)
  clear hb5 c0 c2 c4 c6 c8 c10 c12 c14
  have c0 : w5.cell? ⟨gb, 0, none⟩ = some (.slice none 0 0) := (HX5.out.blk.cell 0).trans rfl
  have c2 : w5.cell? ⟨gb, 2, none⟩ = some (.slice none 0 0) := (HX5.out.blk.cell 2).trans rfl
  have c4 : w5.cell? ⟨gb, 4, none⟩ = some (.slice none 0 0) := (HX5.out.blk.cell 4).trans rfl
  have c6 : w5.cell? ⟨gb, 6, none⟩ = some (.slice none 0 0) := (HX5.out.blk.cell 6).trans rfl
  have c8 : w5.cell? ⟨gb, 8, none⟩ = some (.slice none 0 0) := (HX5.out.blk.cell 8).trans rfl
  have c10 : w5.cell? ⟨gb, 10, none⟩ = some (.slice none 0 0) := (HX5.out.blk.cell 10).trans rfl
  have c12 : w5.cell? ⟨gb, 12, none⟩ = some (vx) := (HX5.out.blk.cell 12).trans rfl
  have c14 : w5.cell? ⟨gb, 14, none⟩ = some (.slice none 0 0) := (HX5.out.blk.cell 14).trans rfl
  go_wp2_with fail
  refine (markedSteps_nil gb _).mono ?_
  rintro e0 w0 ⟨rfl, rfl⟩
  go_wp2_with fail
  refine (markedSteps_nil gb _).mono ?_
  rintro e0 w0 ⟨rfl, rfl⟩
  go_wp2
  go_ret
  refine ⟨rfl, HO5.out.mono (fun b hb => ?_)⟩
  obtain ⟨p, hp, hb2⟩ := List.mem_filterMap.1 hb
  exact mem_foot.2 (.inr (.inr (.inr (.inl ⟨p, hp, hb2⟩))))
end Go.Proofs.Ytjjjinpmflghmaa.BookEv
