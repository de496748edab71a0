/- A host of the law's own, and the laws' first call. Conditions: those in each theorem. -/
import Derived.Test.YtmdhiimgeocgeaaHost
namespace Go.Proofs.Ytmdhiimgeocgeaa.Host
open Go.RowKit Go.Proofs.Ytmdhiimgeocgeaa.Mem Go.Proofs.Ytmdhiimgeocgeaa.Row Go.Proofs.Ytmdhiimgeocgeaa.Tally Go.Proofs.Ytmdhiimgeocgeaa.Obj Go.Proofs.YtmdhiimgeocgeaaW.PrintWords Go.Proofs.YtmdhiimgeocgeaaW.PrintMore Go.Proofs.YtmdhiimgeocgeaaW.PrintLast
set_option linter.unusedVariables false
set_option linter.unusedSimpArgs false
/-- The host at block g knows h; nothing else that was there at the beginning is touched. -/
structure HF (w0 : World) (g : Nat) (h : HS) (w : World) : Prop where
  ex : ∃ v, IsHost w g v h ∧ ∀ k, v.ownBlock = some k → w0.heap.size ≤ k
  bel : Below w0.heap.size w0 w
  hg : w0.heap.size ≤ g
section
variable {w0 w w' : World} {g : Nat} {v v' : Value} {h h' : HS}
theorem HF.turn (H : HF w0 g h w) (k : IsHost w g v h) (hv : ∀ k, v.ownBlock = some k → w0.heap.size ≤ k) (k' : IsHost w' g v' h') (t : Turn g v w w' v') : HF w0 g h' w' :=
  ⟨⟨v', k', fun b hb => by
    rcases t.n b hb with h1 | h1
    · exact hv b h1
    · exact Nat.le_trans H.bel.size h1⟩, H.bel.trans (t.toBelow H.bel.size H.hg hv), H.hg⟩
theorem HF.below (H : HF w0 g h w) (hb : Below w.heap.size w w') : HF w0 g h w' := by
  obtain ⟨v, k, hv⟩ := H.ex
  exact ⟨⟨v, k.below hb, hv⟩, below_step H.bel hb, H.hg⟩
theorem HF.new (w0 w : World) (hb : Below w0.heap.size w0 w) : HF w0 w.heap.size ⟨false, false, ⟨#[]⟩, false, 0, [], 0⟩ (w.alloc (.cells #[.bool false, .bool false, .string ⟨#[]⟩, .bool false, .int .i64 0, .slice none 0 0, .int .i64 0] 48)) :=
  ⟨⟨.slice none 0 0, ⟨Blk.new w _ _, own_nil _ _ _ _⟩, fun k hk => by simp [Value.ownBlock] at hk⟩, below_alloc hb _, hb.size⟩
theorem HF.listen (H : HF w0 g h w) (on : Bool) : Calls Try.prog 24 #[.pointer (some ⟨g, 0, none⟩), .bool on] w fun r w' => r = .returned (.tuple #[]) ∧ HF w0 g { h with lis := on } w' := by
  obtain ⟨v, k, hv⟩ := H.ex
  refine (listen_calls on w k).mono ?_
  rintro r w1 ⟨rfl, k1, t1⟩
  exact ⟨rfl, H.turn k hv k1 t1⟩
theorem HF.brk (H : HF w0 g h w) : Calls Try.prog 26 #[.pointer (some ⟨g, 0, none⟩)] w fun r w' => r = .returned (.tuple #[]) ∧ HF w0 g { h with up := false, said := ⟨#[]⟩ } w' := by
  obtain ⟨v, k, hv⟩ := H.ex
  refine (break_calls w k).mono ?_
  rintro r w1 ⟨rfl, k1, t1⟩
  exact ⟨rfl, H.turn k hv k1 t1⟩
theorem HF.rm (H : HF w0 g h w) (n : Int) : Calls Try.prog 30 #[.pointer (some ⟨g, 0, none⟩), .int .i64 n] w fun r w' => r = .returned (.tuple #[]) ∧ HF w0 g { h with bound := decide (0 ≤ n), room := max n 0 } w' := by
  obtain ⟨v, k, hv⟩ := H.ex
  refine (room_calls n w k).mono ?_
  rintro r w1 ⟨rfl, k1, t1⟩
  exact ⟨rfl, H.turn k hv k1 t1⟩
theorem HF.isUp (H : HF w0 g h w) : Calls Try.prog 34 #[.pointer (some ⟨g, 0, none⟩)] w fun r w' => r = .returned (.bool h.up) ∧ w = w' := by
  obtain ⟨v, k, hv⟩ := H.ex
  exact up_calls w k
theorem HF.trs (H : HF w0 g h w) : Calls Try.prog 35 #[.pointer (some ⟨g, 0, none⟩)] w fun r w' => r = .returned (.int .i64 h.tries) ∧ w = w' := by
  obtain ⟨v, k, hv⟩ := H.ex
  exact tries_calls w k
theorem HF.peek (H : HF w0 g h w) (n : Int) (hs : h.said.size ≤ 100000) : Calls Try.prog 28 #[.pointer (some ⟨g, 0, none⟩), .int .i64 n] w fun r w' => r = .returned (.string (h.said.extract 0 (pk h.said n))) ∧ HF w0 g h w' := by
  obtain ⟨v, k, hv⟩ := H.ex
  refine (peek_calls n w k hs).mono ?_
  rintro r w1 ⟨rfl, hb⟩
  exact ⟨rfl, H.below hb⟩
theorem HF.rd (H : HF w0 g h w) (n : Int) (hs : h.said.size ≤ 100000) : Calls Try.prog 29 #[.pointer (some ⟨g, 0, none⟩), .int .i64 n] w fun r w' => r = .returned (.string (h.said.extract 0 (pk h.said n))) ∧ HF w0 g { h with said := h.said.extract (pk h.said n) h.said.size } w' := by
  obtain ⟨v, k, hv⟩ := H.ex
  refine (read_calls n w k hs).mono ?_
  rintro r w1 ⟨rfl, k1, t1⟩
  exact ⟨rfl, H.turn k hv k1 t1⟩
theorem HF.con_no (H : HF w0 g h w) (ht : 0 ≤ h.tries) (ht2 : h.tries ≤ 1000000000000) (hc : (h.lis && !h.up) = false) : Calls Try.prog 25 #[.pointer (some ⟨g, 0, none⟩)] w fun r w' => r = .returned (.bool false) ∧ HF w0 g { h with tries := h.tries + 1 } w' := by
  obtain ⟨v, k, hv⟩ := H.ex
  refine (connect_no w k ht ht2 hc).mono ?_
  rintro r w1 ⟨rfl, k1, t1⟩
  exact ⟨rfl, H.turn k hv k1 t1⟩
theorem HF.con_yes (H : HF w0 g h w) (ht : 0 ≤ h.tries) (ht2 : h.tries ≤ 1000000000000) (hl : h.heard.length ≤ 100000) (h1 : h.lis = true) (h2 : h.up = false) : Calls Try.prog 25 #[.pointer (some ⟨g, 0, none⟩)] w fun r w' => r = .returned (.bool true) ∧ HF w0 g { h with up := true, heard := h.heard ++ [⟨#[]⟩], tries := h.tries + 1 } w' := by
  obtain ⟨v, k, hv⟩ := H.ex
  refine (connect_yes w k ht ht2 hl h1 h2).mono ?_
  rintro r w1 ⟨rfl, v1, k1, t1⟩
  exact ⟨rfl, H.turn k hv k1 t1⟩
theorem HF.wr_down (H : HF w0 g h w) (s : ByteArray) (hu : h.up = false) : Calls Try.prog 31 #[.pointer (some ⟨g, 0, none⟩), .string s] w fun r w' => r = .returned (.int .i64 0) ∧ w = w' := by
  obtain ⟨v, k, hv⟩ := H.ex
  exact write_down s w k hu
theorem HF.wr (H : HF w0 g h w) (s : ByteArray) (l : List ByteArray) (x : ByteArray) (hu : h.up = true) (hl : h.heard = l ++ [x]) (hll : l.length ≤ 100000) (hx : x.size ≤ 1000000) (hs : s.size ≤ 1000000) (hr : 0 ≤ h.room) (hr2 : h.room ≤ 9223372036854775807) :
    Calls Try.prog 31 #[.pointer (some ⟨g, 0, none⟩), .string s] w fun r w' => r = .returned (.int .i64 (h.takes s.size : Int)) ∧ HF w0 g { h with room := h.left (h.takes s.size : Int), heard := l ++ [x ++ s.extract 0 (h.takes s.size)] } w' := by
  obtain ⟨v, k, hv⟩ := H.ex
  refine (write_up s l x w k hu hl hll hx hs hr hr2).mono ?_
  rintro r w1 ⟨rfl, k1, t1⟩
  exact ⟨rfl, H.turn k hv k1 t1⟩
theorem HF.hrd (H : HF w0 g h w) (hl : h.heard.length ≤ 100000) : Calls Try.prog 32 #[.pointer (some ⟨g, 0, none⟩)] w fun r w' => (∃ v', r = .returned v' ∧ w'.ownsRow w.heap.size 9 1 v' h.heard.length (fs h.heard)) ∧ HF w0 g h w' := by
  obtain ⟨v, k, hv⟩ := H.ex
  refine (heard_calls w k hl).mono ?_
  rintro r w1 ⟨hr, hb⟩
  exact ⟨hr, H.below hb⟩
theorem join_one (s : ByteArray) : joinS [s] = s := by
  apply ByteArray.ext
  simp [joinS, Lib.join]
theorem joinS_nil : joinS [] = ⟨#[]⟩ := rfl
/-- Texts in a row that is there, joined. -/
theorem join_calls (bk o c : Nat) (ss : List ByteArray) (W : World) (hcells : ∀ (j : Nat) x, ss[j]? = some x → W.cell? ⟨bk, o + j, none⟩ = some (.string x)) (hbk : bk < W.heap.size) (hN : ss.length ≤ 140737488355328) (hcap : ss.length ≤ c) (hj : (joinS ss).size ≤ 140737488355328) :
    Calls Try.prog 55 #[.slice (some ⟨bk, o, none⟩) ss.length c, .string ⟨#[]⟩] W fun r w' => r = .returned (.string (joinS ss)) ∧ Below W.heap.size W w' :=
  Try.strings_Join bk o c ss ⟨#[]⟩ W hcells hbk hN hcap hj
theorem HF.say (H : HF w0 g h w) (A0 : Option Addr) (c : Nat) (ss : List ByteArray)
    (hj : ∀ W : World, Below w.heap.size w W → Calls Try.prog 55 #[.slice A0 ss.length c, .string ⟨#[]⟩] W fun r w' => r = .returned (.string (joinS ss)) ∧ Below W.heap.size W w') (hs : h.said.size ≤ 20000) (hjs : (joinS ss).size ≤ 1000000000) :
    Calls Try.prog 27 #[.pointer (some ⟨g, 0, none⟩), .slice A0 ss.length c] w fun r w' => r = .returned (.bool (h.can (joinS ss))) ∧ HF w0 g { h with said := if h.can (joinS ss) then h.said ++ joinS ss else h.said } w' := by
  obtain ⟨v, k, hv⟩ := H.ex
  refine (say_calls A0 c ss w k hj hs hjs).mono ?_
  rintro r w1 ⟨rfl, k1, t1⟩
  exact ⟨rfl, H.turn k hv k1 t1⟩
/-- Say of one text, whose row was laid just now. -/
theorem HF.say1 (H : HF w0 g h w) (s : ByteArray) (hs : h.said.size ≤ 20000) (hjs : s.size ≤ 1000000000) :
    Calls Try.prog 27 #[.pointer (some ⟨g, 0, none⟩), .slice (some ⟨w.heap.size, 0, none⟩) 1 1] (w.alloc (.cells #[.string s] 9)) fun r w' => r = .returned (.bool (h.can s)) ∧ HF w0 g { h with said := if h.can s then h.said ++ s else h.said } w' := by
  have hb := Blk.new w 9 #[.string s]
  have := (H.below (below_alloc (Below.refl _ _) (.cells #[.string s] 9))).say (some ⟨w.heap.size, 0, none⟩) 1 [s] (fun W hW => join_calls w.heap.size 0 1 [s] W (fun j x hj => by
    match j, hj with
    | 0, hj =>
      injection hj with hj
      subst hj
      exact ((hb.below' hW).cell 0).trans rfl) (by have := (hb.below' hW).lt; exact this) (by simp) (by simp) (by rw [join_one]; omega)) hs (by rw [join_one]; exact hjs)
  rw [join_one] at this
  exact this
theorem ab_eq : (ByteArray.mk #[]) ++ (ByteArray.mk #[97, 98, 99]).extract 0 2 = ByteArray.mk #[97, 98] := by decide +kernel
theorem x_eq : ((ByteArray.mk #[]) ++ (ByteArray.mk #[120])).extract 0 (pk ((ByteArray.mk #[]) ++ (ByteArray.mk #[120])) 9) = ByteArray.mk #[120] := by decide +kernel
set_option maxHeartbeats 1000000 in
set_option maxRecDepth 100000 in
theorem alive25 (w : World) : Calls Try.prog 23 #[] w fun r w' => r = .returned (.bool true) ∧ Below w.heap.size w w' := by
  go_enter Try.func23, Try.ntmps23
  go_wp2_with fail
  have H0 := Aside0.mk (HF.new w w (Below.refl _ _))
  refine (H0.out.con_no (by decide) (by decide) rfl).mono ?_
  rintro e1 w1 ⟨rfl, h1⟩
  have H1 := Aside0.mk h1
  clear h1
  go_wp2_with fail
  refine (H1.out.isUp).mono ?_
  rintro e2 w2 ⟨rfl, rfl⟩
  go_wp2_with fail
  refine (H1.out.listen true).mono ?_
  rintro e3 w3 ⟨rfl, h3⟩
  have H3 := Aside0.mk h3
  clear h3
  go_wp2_with fail
  refine (H3.out.con_yes (by decide) (by decide) (by decide) rfl rfl).mono ?_
  rintro e4 w4 ⟨rfl, h4⟩
  have H4 := Aside0.mk h4
  clear h4
  go_wp2_with fail
  refine (H4.out.rm 2).mono ?_
  rintro e5 w5 ⟨rfl, h5⟩
  have H5 := Aside0.mk (show HF w w.heap.size ⟨true, true, ⟨#[]⟩, true, 2, [⟨#[]⟩], 2⟩ w5 from h5)
  clear h5
  go_wp2_with fail
  have hwr := H5.out.wr ⟨#[97, 98, 99]⟩ [] ⟨#[]⟩ rfl rfl (by decide) (by decide) (by decide) (by decide) (by decide)
  rw [show (HS.mk true true ⟨#[]⟩ true 2 [⟨#[]⟩] 2).takes (ByteArray.mk #[97, 98, 99]).size = 2 from rfl, ab_eq] at hwr
  refine hwr.mono ?_
  clear hwr
  rintro e6 w6 ⟨rfl, h6⟩
  have H6 := Aside0.mk (show HF w w.heap.size ⟨true, true, ⟨#[]⟩, true, 0, [⟨#[97, 98]⟩], 2⟩ w6 from h6)
  clear h6
  go_wp2_with fail
  refine (H6.out.hrd (by decide)).mono ?_
  rintro e7 w7 ⟨⟨v7, rfl, hr7⟩, h7⟩
  have H7 := Aside0.mk h7
  rcases row_form hr7 with ⟨_, h2, _⟩ | ⟨b7, c7, rfl, hbc, _, _, _, hc7, _⟩
  · cases h2
  have hcell := hc7 0 _ rfl
  have hlc : 1 ≤ c7 := hbc
  clear h7 hr7 hc7 hbc
  simp only [List.length_singleton]
  go_wp2_with fail
  refine (H7.out.isUp).mono ?_
  rintro e8 w8 ⟨rfl, rfl⟩
  go_wp2_with fail
  refine (H7.out.say1 ⟨#[120]⟩ (by decide) (by decide)).mono ?_
  rintro e9 w9 ⟨rfl, h9⟩
  have H9 := Aside0.mk (show HF w w.heap.size ⟨true, true, ⟨#[]⟩ ++ ⟨#[120]⟩, true, 0, [⟨#[97, 98]⟩], 2⟩ w9 from h9)
  clear h9 hcell
  rw [show (HS.mk true true ⟨#[]⟩ true 0 [⟨#[97, 98]⟩] 2).can ⟨#[120]⟩ = true from rfl]
  go_wp2_with fail
  have hrd := H9.out.rd 9 (by decide)
  rw [x_eq] at hrd
  refine hrd.mono ?_
  clear hrd
  rintro e10 w10 ⟨rfl, h10⟩
  have H10 := Aside0.mk h10
  clear h10
  go_wp2_with fail
  refine H10.out.trs.mono ?_
  rintro e11 w11 ⟨rfl, rfl⟩
  go_wp2
  go_ret
  exact ⟨rfl, H10.out.bel⟩
end
end Go.Proofs.Ytmdhiimgeocgeaa.Host
