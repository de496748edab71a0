/- The book of lists: one list more; are they as they were; marks; grown lists. Conditions: those in each theorem. (Printed by gen_book.py.) -/
import Derived.Test.YtjjjinpmflghmaaBk1Ev
import Derived.Deep.RegionLaw
namespace Go.Proofs.Ytjjjinpmflghmaa.BookEv
open Go.RowKit Go.Proofs.Ytjjjinpmflghmaa.Mem Go.Proofs.Ytjjjinpmflghmaa.Row Go.Proofs.Ytjjjinpmflghmaa.Keys Go.Proofs.YtjjjinpmflghmaaW.PrintWords Go.Proofs.YtjjjinpmflghmaaW.PrintMore Go.Proofs.YtjjjinpmflghmaaW.PrintLast Go.Proofs.Ytjjjinpmflghmaa.PKeysPlay
set_option linter.unusedVariables false
set_option linter.unusedSimpArgs false
/-! ### Kinds of which there is no list -/
theorem stillTexts_nil (gb : Nat) (w : World) (hc : w.cell? ⟨gb, 0, none⟩ = some (.slice none 0 0)) : Calls Try.prog 67 #[.pointer (some ⟨gb, 0, none⟩)] w fun r w' => r = .returned (.bool true) ∧ w = w' := by
  go_enter Try.func67, Try.ntmps67
  go_wp2
  refine wp_loop_rounds 1 ?_
  rw [rounds_succ]
  go_wp2
  go_ret
  exact ⟨rfl, rfl⟩
theorem putTexts_nil (gb : Nat) (w : World) (hc : w.cell? ⟨gb, 0, none⟩ = some (.slice none 0 0)) : Calls Try.prog 77 #[.pointer (some ⟨gb, 0, none⟩)] w fun r w' => r = .returned (.tuple #[]) ∧ w = w' := by
  go_enter Try.func77, Try.ntmps77
  go_wp2
  refine wp_loop_rounds 1 ?_
  rw [rounds_succ]
  go_wp2
  go_end0
  exact ⟨rfl, rfl⟩
theorem growTexts_nil (gb : Nat) (w : World) (hc : w.cell? ⟨gb, 0, none⟩ = some (.slice none 0 0)) : Calls Try.prog 83 #[.pointer (some ⟨gb, 0, none⟩)] w fun r w' => r = .returned (.slice none 0 0) ∧ w = w' := by
  go_enter Try.func83, Try.ntmps83
  go_wp2
  refine wp_loop_rounds 1 ?_
  rw [rounds_succ]
  go_wp2
  go_ret
  exact ⟨rfl, rfl⟩
theorem markedTexts_nil (gb : Nat) (w : World) : Calls Try.prog 91 #[.slice none 0 0] w fun r w' => r = .returned (.bool true) ∧ w = w' := by
  go_enter Try.func91, Try.ntmps91
  go_wp2
  refine wp_loop_rounds 1 ?_
  rw [rounds_succ]
  go_wp2
  go_ret
  exact ⟨rfl, rfl⟩
theorem stillInts_nil (gb : Nat) (w : World) (hc : w.cell? ⟨gb, 2, none⟩ = some (.slice none 0 0)) : Calls Try.prog 68 #[.pointer (some ⟨gb, 0, none⟩)] w fun r w' => r = .returned (.bool true) ∧ w = w' := by
  go_enter Try.func68, Try.ntmps68
  go_wp2
  refine wp_loop_rounds 1 ?_
  rw [rounds_succ]
  go_wp2
  go_ret
  exact ⟨rfl, rfl⟩
theorem putInts_nil (gb : Nat) (w : World) (hc : w.cell? ⟨gb, 2, none⟩ = some (.slice none 0 0)) : Calls Try.prog 78 #[.pointer (some ⟨gb, 0, none⟩)] w fun r w' => r = .returned (.tuple #[]) ∧ w = w' := by
  go_enter Try.func78, Try.ntmps78
  go_wp2
  refine wp_loop_rounds 1 ?_
  rw [rounds_succ]
  go_wp2
  go_end0
  exact ⟨rfl, rfl⟩
theorem growInts_nil (gb : Nat) (w : World) (hc : w.cell? ⟨gb, 2, none⟩ = some (.slice none 0 0)) : Calls Try.prog 84 #[.pointer (some ⟨gb, 0, none⟩)] w fun r w' => r = .returned (.slice none 0 0) ∧ w = w' := by
  go_enter Try.func84, Try.ntmps84
  go_wp2
  refine wp_loop_rounds 1 ?_
  rw [rounds_succ]
  go_wp2
  go_ret
  exact ⟨rfl, rfl⟩
theorem markedInts_nil (gb : Nat) (w : World) : Calls Try.prog 92 #[.slice none 0 0] w fun r w' => r = .returned (.bool true) ∧ w = w' := by
  go_enter Try.func92, Try.ntmps92
  go_wp2
  refine wp_loop_rounds 1 ?_
  rw [rounds_succ]
  go_wp2
  go_ret
  exact ⟨rfl, rfl⟩
theorem stillRunes_nil (gb : Nat) (w : World) (hc : w.cell? ⟨gb, 4, none⟩ = some (.slice none 0 0)) : Calls Try.prog 69 #[.pointer (some ⟨gb, 0, none⟩)] w fun r w' => r = .returned (.bool true) ∧ w = w' := by
  go_enter Try.func69, Try.ntmps69
  go_wp2
  refine wp_loop_rounds 1 ?_
  rw [rounds_succ]
  go_wp2
  go_ret
  exact ⟨rfl, rfl⟩
theorem putRunes_nil (gb : Nat) (w : World) (hc : w.cell? ⟨gb, 4, none⟩ = some (.slice none 0 0)) : Calls Try.prog 79 #[.pointer (some ⟨gb, 0, none⟩)] w fun r w' => r = .returned (.tuple #[]) ∧ w = w' := by
  go_enter Try.func79, Try.ntmps79
  go_wp2
  refine wp_loop_rounds 1 ?_
  rw [rounds_succ]
  go_wp2
  go_end0
  exact ⟨rfl, rfl⟩
theorem growRunes_nil (gb : Nat) (w : World) (hc : w.cell? ⟨gb, 4, none⟩ = some (.slice none 0 0)) : Calls Try.prog 85 #[.pointer (some ⟨gb, 0, none⟩)] w fun r w' => r = .returned (.slice none 0 0) ∧ w = w' := by
  go_enter Try.func85, Try.ntmps85
  go_wp2
  refine wp_loop_rounds 1 ?_
  rw [rounds_succ]
  go_wp2
  go_ret
  exact ⟨rfl, rfl⟩
theorem markedRunes_nil (gb : Nat) (w : World) : Calls Try.prog 93 #[.slice none 0 0] w fun r w' => r = .returned (.bool true) ∧ w = w' := by
  go_enter Try.func93, Try.ntmps93
  go_wp2
  refine wp_loop_rounds 1 ?_
  rw [rounds_succ]
  go_wp2
  go_ret
  exact ⟨rfl, rfl⟩
theorem stillTokens_nil (gb : Nat) (w : World) (hc : w.cell? ⟨gb, 6, none⟩ = some (.slice none 0 0)) : Calls Try.prog 70 #[.pointer (some ⟨gb, 0, none⟩)] w fun r w' => r = .returned (.bool true) ∧ w = w' := by
  go_enter Try.func70, Try.ntmps70
  go_wp2
  refine wp_loop_rounds 1 ?_
  rw [rounds_succ]
  go_wp2
  go_ret
  exact ⟨rfl, rfl⟩
theorem putTokens_nil (gb : Nat) (w : World) (hc : w.cell? ⟨gb, 6, none⟩ = some (.slice none 0 0)) : Calls Try.prog 80 #[.pointer (some ⟨gb, 0, none⟩)] w fun r w' => r = .returned (.tuple #[]) ∧ w = w' := by
  go_enter Try.func80, Try.ntmps80
  go_wp2
  refine wp_loop_rounds 1 ?_
  rw [rounds_succ]
  go_wp2
  go_end0
  exact ⟨rfl, rfl⟩
theorem growTokens_nil (gb : Nat) (w : World) (hc : w.cell? ⟨gb, 6, none⟩ = some (.slice none 0 0)) : Calls Try.prog 86 #[.pointer (some ⟨gb, 0, none⟩)] w fun r w' => r = .returned (.slice none 0 0) ∧ w = w' := by
  go_enter Try.func86, Try.ntmps86
  go_wp2
  refine wp_loop_rounds 1 ?_
  rw [rounds_succ]
  go_wp2
  go_ret
  exact ⟨rfl, rfl⟩
theorem markedTokens_nil (gb : Nat) (w : World) : Calls Try.prog 94 #[.slice none 0 0] w fun r w' => r = .returned (.bool true) ∧ w = w' := by
  go_enter Try.func94, Try.ntmps94
  go_wp2
  refine wp_loop_rounds 1 ?_
  rw [rounds_succ]
  go_wp2
  go_ret
  exact ⟨rfl, rfl⟩
theorem stillActs_nil (gb : Nat) (w : World) (hc : w.cell? ⟨gb, 8, none⟩ = some (.slice none 0 0)) : Calls Try.prog 71 #[.pointer (some ⟨gb, 0, none⟩)] w fun r w' => r = .returned (.bool true) ∧ w = w' := by
  go_enter Try.func71, Try.ntmps71
  go_wp2
  refine wp_loop_rounds 1 ?_
  rw [rounds_succ]
  go_wp2
  go_ret
  exact ⟨rfl, rfl⟩
theorem putActs_nil (gb : Nat) (w : World) (hc : w.cell? ⟨gb, 8, none⟩ = some (.slice none 0 0)) : Calls Try.prog 76 #[.pointer (some ⟨gb, 0, none⟩)] w fun r w' => r = .returned (.tuple #[]) ∧ w = w' := by
  go_enter Try.func76, Try.ntmps76
  go_wp2
  refine wp_loop_rounds 1 ?_
  rw [rounds_succ]
  go_wp2
  go_end0
  exact ⟨rfl, rfl⟩
theorem growActs_nil (gb : Nat) (w : World) (hc : w.cell? ⟨gb, 8, none⟩ = some (.slice none 0 0)) : Calls Try.prog 87 #[.pointer (some ⟨gb, 0, none⟩)] w fun r w' => r = .returned (.slice none 0 0) ∧ w = w' := by
  go_enter Try.func87, Try.ntmps87
  go_wp2
  refine wp_loop_rounds 1 ?_
  rw [rounds_succ]
  go_wp2
  go_ret
  exact ⟨rfl, rfl⟩
theorem markedActs_nil (gb : Nat) (w : World) : Calls Try.prog 95 #[.slice none 0 0] w fun r w' => r = .returned (.bool true) ∧ w = w' := by
  go_enter Try.func95, Try.ntmps95
  go_wp2
  refine wp_loop_rounds 1 ?_
  rw [rounds_succ]
  go_wp2
  go_ret
  exact ⟨rfl, rfl⟩
theorem stillCells_nil (gb : Nat) (w : World) (hc : w.cell? ⟨gb, 10, none⟩ = some (.slice none 0 0)) : Calls Try.prog 72 #[.pointer (some ⟨gb, 0, none⟩)] w fun r w' => r = .returned (.bool true) ∧ w = w' := by
  go_enter Try.func72, Try.ntmps72
  go_wp2
  refine wp_loop_rounds 1 ?_
  rw [rounds_succ]
  go_wp2
  go_ret
  exact ⟨rfl, rfl⟩
theorem putCells_nil (gb : Nat) (w : World) (hc : w.cell? ⟨gb, 10, none⟩ = some (.slice none 0 0)) : Calls Try.prog 81 #[.pointer (some ⟨gb, 0, none⟩)] w fun r w' => r = .returned (.tuple #[]) ∧ w = w' := by
  go_enter Try.func81, Try.ntmps81
  go_wp2
  refine wp_loop_rounds 1 ?_
  rw [rounds_succ]
  go_wp2
  go_end0
  exact ⟨rfl, rfl⟩
theorem growCells_nil (gb : Nat) (w : World) (hc : w.cell? ⟨gb, 10, none⟩ = some (.slice none 0 0)) : Calls Try.prog 88 #[.pointer (some ⟨gb, 0, none⟩)] w fun r w' => r = .returned (.slice none 0 0) ∧ w = w' := by
  go_enter Try.func88, Try.ntmps88
  go_wp2
  refine wp_loop_rounds 1 ?_
  rw [rounds_succ]
  go_wp2
  go_ret
  exact ⟨rfl, rfl⟩
theorem markedCells_nil (gb : Nat) (w : World) : Calls Try.prog 96 #[.slice none 0 0] w fun r w' => r = .returned (.bool true) ∧ w = w' := by
  go_enter Try.func96, Try.ntmps96
  go_wp2
  refine wp_loop_rounds 1 ?_
  rw [rounds_succ]
  go_wp2
  go_ret
  exact ⟨rfl, rfl⟩
theorem stillSteps_nil (gb : Nat) (w : World) (hc : w.cell? ⟨gb, 14, none⟩ = some (.slice none 0 0)) : Calls Try.prog 74 #[.pointer (some ⟨gb, 0, none⟩)] w fun r w' => r = .returned (.bool true) ∧ w = w' := by
  go_enter Try.func74, Try.ntmps74
  go_wp2
  refine wp_loop_rounds 1 ?_
  rw [rounds_succ]
  go_wp2
  go_ret
  exact ⟨rfl, rfl⟩
theorem putSteps_nil (gb : Nat) (w : World) (hc : w.cell? ⟨gb, 14, none⟩ = some (.slice none 0 0)) : Calls Try.prog 75 #[.pointer (some ⟨gb, 0, none⟩)] w fun r w' => r = .returned (.tuple #[]) ∧ w = w' := by
  go_enter Try.func75, Try.ntmps75
  go_wp2
  refine wp_loop_rounds 1 ?_
  rw [rounds_succ]
  go_wp2
  go_end0
  exact ⟨rfl, rfl⟩
theorem growSteps_nil (gb : Nat) (w : World) (hc : w.cell? ⟨gb, 14, none⟩ = some (.slice none 0 0)) : Calls Try.prog 90 #[.pointer (some ⟨gb, 0, none⟩)] w fun r w' => r = .returned (.slice none 0 0) ∧ w = w' := by
  go_enter Try.func90, Try.ntmps90
  go_wp2
  refine wp_loop_rounds 1 ?_
  rw [rounds_succ]
  go_wp2
  go_ret
  exact ⟨rfl, rfl⟩
theorem markedSteps_nil (gb : Nat) (w : World) : Calls Try.prog 98 #[.slice none 0 0] w fun r w' => r = .returned (.bool true) ∧ w = w' := by
  go_enter Try.func98, Try.ntmps98
  go_wp2
  refine wp_loop_rounds 1 ?_
  rw [rounds_succ]
  go_wp2
  go_ret
  exact ⟨rfl, rfl⟩
/-! ### The book -/
def bookCells (vx vw : Value) : Array Value := #[.slice none 0 0, .slice none 0 0, .slice none 0 0, .slice none 0 0, .slice none 0 0, .slice none 0 0, .slice none 0 0, .slice none 0 0, .slice none 0 0, .slice none 0 0, .slice none 0 0, .slice none 0 0, vx, vw, .slice none 0 0, .slice none 0 0]
theorem set_x (a b u : Value) : (bookCells a b).setIfInBounds 12 u = bookCells u b := rfl
theorem set_w (a b u : Value) : (bookCells a b).setIfInBounds 13 u = bookCells a u := rfl
abbrev LS := List (Value × List Al)
def own (p : Value × List Al) : Option Nat := p.1.ownBlock
/-- The blocks of a book. -/
def foot (gb : Nat) (vx vw : Value) (L Lw : LS) : List Nat := gb :: (vx.ownBlock.toList ++ (vw.ownBlock.toList ++ (L.filterMap own ++ Lw.filterMap own)))
theorem mem_foot {gb : Nat} {vx vw : Value} {L Lw : LS} {b : Nat} : b ∈ foot gb vx vw L Lw ↔ b = gb ∨ vx.ownBlock = some b ∨ vw.ownBlock = some b ∨ (∃ p ∈ L, p.1.ownBlock = some b) ∨ ∃ p ∈ Lw, p.1.ownBlock = some b := by
  simp [foot, own, List.mem_filterMap]
/-- A book at block gb; its lists and their copies. -/
structure BK (w : World) (gb : Nat) (vx vw : Value) (L Lw : LS) : Prop where
  blk : Blk w gb 80 (bookCells vx vw)
  rx : w.ownsRow 0 24 1 vx L.length (L.map Prod.fst)
  rw_ : w.ownsRow 0 24 1 vw Lw.length (Lw.map Prod.fst)
  xs : ∀ p ∈ L, Own w 0 p.1 p.2 ∧ p.2.length ≤ 1000
  ws : ∀ p ∈ Lw, Own w 0 p.1 p.2 ∧ p.2.length ≤ 1000
  n : L.length = Lw.length ∧ L.length ≤ 250
  dx : ∀ k, vx.ownBlock = some k → vw.ownBlock ≠ some k
  d : ∀ (i j : Nat) (p q : Value × List Al), L[i]? = some p → L[j]? = some q → i ≠ j → ∀ k, p.1.ownBlock = some k → q.1.ownBlock ≠ some k
  dw : ∀ p ∈ L, ∀ q ∈ Lw, ∀ k, p.1.ownBlock = some k → q.1.ownBlock ≠ some k
theorem row_ne {w : World} {B B' s s' n n' : Nat} {e e' : TypeId} {v v' : Value} {xs xs' : List Value} (h : w.ownsRow B e s v n xs) (h' : w.ownsRow B' e' s' v' n' xs') (hne : e ≠ e') (k : Nat) (hk : v.ownBlock = some k) : v'.ownBlock ≠ some k := by
  intro hk'
  obtain ⟨c1, h1⟩ := own_typed h k hk
  obtain ⟨c2, h2⟩ := own_typed h' k hk'
  rw [h1] at h2
  injection h2 with h2
  injection h2 with _ h2
  exact hne h2
section
variable {w w' : World} {gb : Nat} {vx vw : Value} {L Lw : LS}
theorem BK.lt (h : BK w gb vx vw L Lw) : ∀ b ∈ foot gb vx vw L Lw, b < w.heap.size := by
  intro b hb
  rcases mem_foot.1 hb with rfl | h1 | h1 | ⟨p, hp, h1⟩ | ⟨p, hp, h1⟩
  · exact h.blk.lt
  · exact own_lt h.rx b h1
  · exact own_lt h.rw_ b h1
  · exact own_lt (h.xs p hp).1 b h1
  · exact own_lt (h.ws p hp).1 b h1
theorem BK.only {gs : List Nat} (h : BK w gb vx vw L Lw) (ho : Only gs w w') (hd : ∀ b ∈ foot gb vx vw L Lw, b ∉ gs) : BK w' gb vx vw L Lw :=
  ⟨h.blk.only ho (hd _ (mem_foot.2 (.inl rfl))), row_only h.rx ho (fun k hk => hd _ (mem_foot.2 (.inr (.inl hk)))), row_only h.rw_ ho (fun k hk => hd _ (mem_foot.2 (.inr (.inr (.inl hk))))),
   fun p hp => ⟨(h.xs p hp).1.only ho (fun k hk => hd _ (mem_foot.2 (.inr (.inr (.inr (.inl ⟨p, hp, hk⟩)))))), (h.xs p hp).2⟩,
   fun p hp => ⟨(h.ws p hp).1.only ho (fun k hk => hd _ (mem_foot.2 (.inr (.inr (.inr (.inr ⟨p, hp, hk⟩)))))), (h.ws p hp).2⟩, h.n, h.dx, h.d, h.dw⟩
theorem BK.below (h : BK w gb vx vw L Lw) (hb : Below w.heap.size w w') : BK w' gb vx vw L Lw := h.only (Only.of_below [] hb) (by simp)
theorem BK.new (hb : Blk w gb 80 (bookCells (.slice none 0 0) (.slice none 0 0))) : BK w gb (.slice none 0 0) (.slice none 0 0) [] [] :=
  ⟨hb, own_nil _ _ _ _, own_nil _ _ _ _, by simp, by simp, by simp, fun k hk => by simp [Value.ownBlock] at hk, by simp, by simp⟩
/-- Another list's row stands in the place of one. -/
theorem BK.setRow (h : BK w gb vx vw L Lw) {i : Nat} {v : Value} {l l2 : List Al} (hi : L[i]? = some (v, l)) (hl : l2.length = l.length) {gs : List Nat} (ho : Only gs w w') (hgs : ∀ b ∈ gs, v.ownBlock = some b) (h2 : Own w' 0 v l2) : BK w' gb vx vw (L.set i (v, l2)) Lw := by
  have hm := List.mem_of_getElem? hi
  have hlt := (List.getElem?_eq_some_iff.1 hi).1
  have hmap : (L.set i (v, l2)).map Prod.fst = L.map Prod.fst := by
    rw [List.map_set]
    apply List.ext_getElem?
    intro j
    by_cases hj : i = j
    · subst hj
      rw [List.getElem?_set_self (by simpa using hlt), List.getElem?_map, hi]
      rfl
    · rw [List.getElem?_set_ne hj]
  have hrow := (h.xs _ hm).1
  refine ⟨h.blk.only ho (fun hg => ?_), ?_, row_only h.rw_ ho (fun k hk hg => ?_), fun p hp => ?_, fun p hp => ⟨(h.ws p hp).1.only ho (fun k hk hg => ?_), (h.ws p hp).2⟩, by simpa using h.n, h.dx, fun a b p q ha hb hab k hk => ?_, fun p hp q hq k hk => ?_⟩
  · exact own_ne hrow h.blk (by decide) (hgs _ hg).symm
  · rw [hmap, List.length_set]
    exact row_only h.rx ho (fun k hk hg => row_ne hrow h.rx (by decide) k (hgs _ hg) hk)
  · exact row_ne hrow h.rw_ (by decide) k (hgs _ hg) hk
  · obtain ⟨j, hj⟩ := List.getElem?_of_mem hp
    by_cases hij : i = j
    · subst hij
      rw [List.getElem?_set_self hlt] at hj
      injection hj with hj
      subst hj
      exact ⟨h2, by rw [hl]; exact (h.xs _ hm).2⟩
    · rw [List.getElem?_set_ne hij] at hj
      have hp2 := List.mem_of_getElem? hj
      exact ⟨(h.xs p hp2).1.only ho (fun k hk hg => h.d i j _ p hi hj hij k (hgs _ hg) hk), (h.xs p hp2).2⟩
  · exact h.dw _ hm p hp k (hgs _ hg) hk
  · have e : ∀ (c : Nat) (r : Value × List Al), (L.set i (v, l2))[c]? = some r → ∃ r', L[c]? = some r' ∧ r'.1 = r.1 := by
      intro c r hr
      by_cases hc : i = c
      · subst hc
        rw [List.getElem?_set_self hlt] at hr
        injection hr with hr
        exact ⟨_, hi, by rw [← hr]⟩
      · rw [List.getElem?_set_ne hc] at hr
        exact ⟨r, hr, rfl⟩
    obtain ⟨p', hp', e1⟩ := e a p ha
    obtain ⟨q', hq', e2⟩ := e b q hb
    rw [← e2]
    exact h.d a b p' q' hp' hq' hab k (by rw [e1]; exact hk)
  · rcases List.mem_or_eq_of_mem_set hp with hp | rfl
    · exact h.dw p hp q hq k hk
    · exact h.dw _ hm q hq k hk
/-- What Add leaves. -/
theorem add_end {w2 w3 w4 : World} {v c v1 v4 : Value} {l : List Al} (HB : BK w gb vx vw L Lw) (ho : Own w 0 v l) (hl : l.length ≤ 1000) (hv : ∀ k, v.ownBlock = some k → k ∉ foot gb vx vw L Lw) (hL : L.length < 250)
    (hblk2 : Blk w2 gb 80 (bookCells v1 vw)) (hr2 : w2.ownsRow 0 24 1 v1 (L.length + 1) (L.map Prod.fst ++ [v])) (ho2 : Only (gb :: vx.ownBlock.toList) w w2) (hn1 : v1.ownBlock = vx.ownBlock ∨ ∃ b, v1.ownBlock = some b ∧ w.heap.size ≤ b)
    (hb3 : Below w2.heap.size w2 w3) (hoc : Own w3 w2.heap.size c l) (hg4 : w3.grownBy w4 vw.ownBlock) (ho4 : w4.ownsRow 0 24 1 v4 (Lw.length + 1) (Lw.map Prod.fst ++ [c])) (hb4 : v4.ownBlock = vw.ownBlock ∨ ∃ b, v4.ownBlock = some b ∧ w3.heap.size ≤ b) :
    BK (w4.setCell ⟨gb, 13, none⟩ v4) gb v1 v4 (L ++ [(v, l)]) (Lw ++ [(c, l)]) ∧ Only (foot gb vx vw L Lw) w (w4.setCell ⟨gb, 13, none⟩ v4) ∧ ∀ b ∈ foot gb v1 v4 (L ++ [(v, l)]) (Lw ++ [(c, l)]), b ∈ foot gb vx vw L Lw ∨ v.ownBlock = some b ∨ w.heap.size ≤ b := by
  have s2 := ho2.size
  have s3 := hb3.size
  have o34 : Only vw.ownBlock.toList w3 w4 := ⟨hg4.os, hg4.tape, hg4.output, hg4.size, fun k hk hn => hg4.block k hk (fun he => hn (by rw [← he]; simp))⟩
  have o24 : Only vw.ownBlock.toList w2 w4 := (Only.of_below _ hb3).trans o34
  have o35 : Only (gb :: vw.ownBlock.toList) w3 (w4.setCell ⟨gb, 13, none⟩ v4) := (o34.mono (fun g hg => List.mem_cons_of_mem _ hg)).setCell _ _ (.inl (by simp))
  have o25 : Only (gb :: vw.ownBlock.toList) w2 (w4.setCell ⟨gb, 13, none⟩ v4) := (Only.of_below _ hb3).trans o35
  have o05 : Only (gb :: (vx.ownBlock.toList ++ vw.ownBlock.toList)) w (w4.setCell ⟨gb, 13, none⟩ v4) := (ho2.mono (fun g hg => by
    rcases List.mem_cons.1 hg with rfl | hg
    · simp
    · exact List.mem_cons_of_mem _ (List.mem_append_left _ hg))).trans (o25.mono (fun g hg => by
    rcases List.mem_cons.1 hg with rfl | hg
    · simp
    · exact List.mem_cons_of_mem _ (List.mem_append_right _ hg)))
  have hblk4 : Blk w4 gb 80 (bookCells v1 vw) := hblk2.only o24 (fun hk => own_ne HB.rw_ HB.blk (by decide) (show vw.ownBlock = some gb by simpa using hk).symm)
  have far : ∀ {x : Value} {y : List Al}, Own w 0 x y → ∀ k, x.ownBlock = some k → k ∉ gb :: (vx.ownBlock.toList ++ vw.ownBlock.toList) := by
    intro x y hx k hk hm
    rcases List.mem_cons.1 hm with rfl | hm
    · exact own_ne hx HB.blk (by decide) hk.symm
    · rcases List.mem_append.1 hm with hm | hm
      · exact row_ne hx HB.rx (by decide) k hk (by simpa using hm)
      · exact row_ne hx HB.rw_ (by decide) k hk (by simpa using hm)
  have ltx : ∀ k, vx.ownBlock = some k → k < w.heap.size := own_lt HB.rx
  have ltw : ∀ k, vw.ownBlock = some k → k < w.heap.size := own_lt HB.rw_
  have lt1 : ∀ k, v1.ownBlock = some k → k < w2.heap.size := own_lt hr2
  have gec : ∀ k, c.ownBlock = some k → w2.heap.size ≤ k := own_base hoc
  have hne1 : ∀ k, v1.ownBlock = some k → k ∉ gb :: vw.ownBlock.toList := by
    intro k hk hm
    rcases List.mem_cons.1 hm with rfl | hm
    · exact own_ne hr2 hblk2 (by decide) hk.symm
    · have hm' : vw.ownBlock = some k := by simpa using hm
      rcases hn1 with h1 | ⟨b, h1, h2⟩
      · exact HB.dx k (by rw [← h1]; exact hk) hm'
      · rw [h1] at hk
        injection hk with hk
        have := ltw k hm'
        omega
  refine ⟨⟨?_, ?_, ?_, fun p hp => ?_, fun p hp => ?_, ?_, fun k hk hk2 => ?_, fun i j p q hi hj hij k hk hk2 => ?_, fun p hp q hq k hk hk2 => ?_⟩, o05.mono (fun g hg => ?_), fun b hb => ?_⟩
  · exact hblk4.set_ 13 v4
  · rw [List.length_append, List.map_append]
    exact row_only hr2 o25 hne1
  · rw [List.length_append, List.map_append]
    exact own_setCell (p := ⟨gb, 13, none⟩) ho4 (own_ne ho4 hblk4 (by decide)) _
  · rcases List.mem_append.1 hp with hp | hp
    · exact ⟨(HB.xs p hp).1.only o05 (far (HB.xs p hp).1), (HB.xs p hp).2⟩
    · rw [List.mem_singleton.1 hp]
      exact ⟨ho.only o05 (far ho), hl⟩
  · rcases List.mem_append.1 hp with hp | hp
    · exact ⟨(HB.ws p hp).1.only o05 (far (HB.ws p hp).1), (HB.ws p hp).2⟩
    · rw [List.mem_singleton.1 hp]
      refine ⟨(hoc.zero).only o35 (fun k hk hm => ?_), hl⟩
      have := gec k hk
      rcases List.mem_cons.1 hm with rfl | hm
      · have := HB.blk.lt; omega
      · have := ltw k (by simpa using hm); omega
  · have := HB.n
    simp
    omega
  · rcases hb4 with h1 | ⟨b, h1, h2⟩
    · exact hne1 k hk (List.mem_cons_of_mem _ (by rw [← h1, hk2]; simp))
    · rw [h1] at hk2
      injection hk2 with hk2
      have := lt1 k hk
      omega
  · rw [List.getElem?_append] at hi hj
    by_cases h1 : i < L.length
    · rw [if_pos h1] at hi
      by_cases h2 : j < L.length
      · rw [if_pos h2] at hj
        exact HB.d i j p q hi hj hij k hk hk2
      · rw [if_neg h2] at hj
        obtain ⟨_, rfl⟩ := List.getElem?_eq_some_iff.1 hj
        simp only [List.getElem_singleton] at hk2
        exact hv k hk2 (mem_foot.2 (.inr (.inr (.inr (.inl ⟨p, List.mem_of_getElem? hi, hk⟩)))))
    · rw [if_neg h1] at hi
      by_cases h2 : j < L.length
      · rw [if_pos h2] at hj
        obtain ⟨_, rfl⟩ := List.getElem?_eq_some_iff.1 hi
        simp only [List.getElem_singleton] at hk
        exact hv k hk (mem_foot.2 (.inr (.inr (.inr (.inl ⟨q, List.mem_of_getElem? hj, hk2⟩)))))
      · rw [if_neg h2] at hj
        have h3 := (List.getElem?_eq_some_iff.1 hi).1
        have h4 := (List.getElem?_eq_some_iff.1 hj).1
        simp at h3 h4
        omega
  · rcases List.mem_append.1 hp with hp | hp
    · rcases List.mem_append.1 hq with hq | hq
      · exact HB.dw p hp q hq k hk hk2
      · rw [List.mem_singleton.1 hq] at hk2
        have h1 := gec k hk2
        have h2 := own_lt (HB.xs p hp).1 k hk
        omega
    · rw [List.mem_singleton.1 hp] at hk
      rcases List.mem_append.1 hq with hq | hq
      · exact hv k hk (mem_foot.2 (.inr (.inr (.inr (.inr ⟨q, hq, hk2⟩)))))
      · rw [List.mem_singleton.1 hq] at hk2
        have h1 := gec k hk2
        have h2 := own_lt ho k hk
        omega
  · rcases List.mem_cons.1 hg with rfl | hg
    · exact mem_foot.2 (.inl rfl)
    · rcases List.mem_append.1 hg with hg | hg
      · exact mem_foot.2 (.inr (.inl (by simpa using hg)))
      · exact mem_foot.2 (.inr (.inr (.inl (by simpa using hg))))
  · rcases mem_foot.1 hb with rfl | h1 | h1 | ⟨p, hp, h1⟩ | ⟨p, hp, h1⟩
    · exact .inl (mem_foot.2 (.inl rfl))
    · rcases hn1 with h2 | ⟨b', h2, h3⟩
      · exact .inl (mem_foot.2 (.inr (.inl (by rw [← h2]; exact h1))))
      · rw [h2] at h1
        injection h1 with h1
        exact .inr (.inr (by omega))
    · rcases hb4 with h2 | ⟨b', h2, h3⟩
      · exact .inl (mem_foot.2 (.inr (.inr (.inl (by rw [← h2]; exact h1)))))
      · rw [h2] at h1
        injection h1 with h1
        exact .inr (.inr (by omega))
    · rcases List.mem_append.1 hp with hp | hp
      · exact .inl (mem_foot.2 (.inr (.inr (.inr (.inl ⟨p, hp, h1⟩)))))
      · rw [List.mem_singleton.1 hp] at h1
        exact .inr (.inl h1)
    · rcases List.mem_append.1 hp with hp | hp
      · exact .inl (mem_foot.2 (.inr (.inr (.inr (.inr ⟨p, hp, h1⟩)))))
      · rw [List.mem_singleton.1 hp] at h1
        have := gec b h1
        exact .inr (.inr (by omega))
theorem infoEs : (Try.prog.info? 24).map (fun i => (i.zero, i.size, i.bytes)) = some (some (.slice none 0 0), 1, 24) := by kernel_rfl
set_option maxHeartbeats 4000000 in
set_option maxRecDepth 100000 in
theorem add_calls (v : Value) (l : List Al) (w : World) (h : BK w gb vx vw L Lw) (ho : Own w 0 v l) (hl : l.length ≤ 1000) (hv : ∀ k, v.ownBlock = some k → k ∉ foot gb vx vw L Lw) (hL : L.length < 250) :
    Calls Try.prog 30 #[.pointer (some ⟨gb, 0, none⟩), v] w fun r w' => r = .returned (.tuple #[]) ∧ ∃ vx' vw' c, BK w' gb vx' vw' (L ++ [(v, l)]) (Lw ++ [(c, l)]) ∧ Only (foot gb vx vw L Lw) w w' ∧ ∀ b ∈ foot gb vx' vw' (L ++ [(v, l)]) (Lw ++ [(c, l)]), b ∈ foot gb vx vw L Lw ∨ v.ownBlock = some b ∨ w.heap.size ≤ b := by
  obtain ⟨A, c, rfl, hlc, hsrc, hAb⟩ := ho.src
  obtain ⟨Ax, cx, rfl⟩ := row_sl h.rx
  obtain ⟨Aw, cw, rfl⟩ := row_sl h.rw_
  have HB := Aside0.mk h
  have HO := Aside0.mk ho
  have HV := Aside0.mk hv
  have HL := Aside0.mk hL
  have cX : w.cell? ⟨gb, 12, none⟩ = some (.slice Ax L.length cx) := (h.blk.cell 12).trans rfl
  have fX := h.blk.frozen 12
  have hLI : (L.length : Int) < 250 := by omega
  clear h ho hv hsrc hL
  go_enter Try.func30, Try.ntmps30
  go_wp2_with (first | (at_builtin; refine Aside0.out ?_))
  refine ⟨?_⟩
  refine print_append_cells (w0 := w) (W := w) 0 rfl (.tmp 14) (.tmp 16) 77 24 _ 1 24 rfl Try.underlying77 infoEs rfl (by decide) (by decide) (.slice Ax L.length cx) L.length (L.map Prod.fst) [.slice A l.length c] rfl rfl rfl (fun u hu => by rw [List.mem_singleton.1 hu]; rfl) HB.out.rx (Below.refl _ _) (Nat.zero_le _) (by omega) ?_
  intro v1 w1 ho1 hB1 hg1 hb1
  obtain ⟨A1, C1, rfl⟩ := row_sl ho1
  have hgx : some gb ≠ (Value.slice Ax L.length cx).ownBlock := own_ne HB.out.rx HB.out.blk (by decide)
  have HO1 := Aside0.mk (show Only (Value.slice Ax L.length cx).ownBlock.toList w w1 from ⟨hg1.os, hg1.tape, hg1.output, hg1.size, fun k hk hn => hg1.block k hk (fun he => hn (by rw [← he]; simp))⟩)
  have HBK1 := Aside0.mk (HB.out.blk.only HO1.out (fun hk => hgx (show (Value.slice Ax L.length cx).ownBlock = some gb by simpa using hk).symm))
  have c1 : w1.cell? ⟨gb, 12, none⟩ = some (.slice Ax L.length cx) := (HBK1.out.cell 12).trans rfl
  have f1 := HBK1.out.frozen 12
  have HR1 := Aside0.mk ho1
  have HN1 := Aside0.mk hb1
  clear ho1 hB1 hg1 hb1 cX fX hgx
  go_upto_region 2 with (fail)
  have hne1 : some gb ≠ (Value.slice A1 (L.length + 1) C1).ownBlock := own_ne HR1.out HBK1.out (by decide)
  have HBK2 := Aside0.mk (show Blk (w1.setCell ⟨gb, 12, none⟩ (.slice A1 (L.length + 1) C1)) gb 80 (bookCells (.slice A1 (L.length + 1) C1) (.slice Aw Lw.length cw)) from (HBK1.out.set_ 12 _))
  have HR2 := Aside0.mk (own_setCell (p := ⟨gb, 12, none⟩) HR1.out hne1 (.slice A1 (L.length + 1) C1))
  have HO2 := Aside0.mk (show Only (gb :: (Value.slice Ax L.length cx).ownBlock.toList) w (w1.setCell ⟨gb, 12, none⟩ (.slice A1 (L.length + 1) C1)) from (HO1.out.mono (fun g hg => List.mem_cons_of_mem _ hg)).setCell _ _ (.inl (by simp)))
  clear hne1 c1 f1 HO1 HBK1 HR1
  generalize w1.setCell ⟨gb, 12, none⟩ (.slice A1 (L.length + 1) C1) = w2 at HBK2 HR2 HO2 ⊢
  have hW : w2.ownsRow 0 24 1 (.slice Aw Lw.length cw) Lw.length (Lw.map Prod.fst) := row_only HB.out.rw_ HO2.out (fun k hk hm => by
    rcases List.mem_cons.1 hm with rfl | hm
    · exact own_ne HB.out.rw_ HB.out.blk (by decide) hk.symm
    · exact HB.out.dx k (by simpa using hm) hk)
  have hov : Own w2 0 (.slice A l.length c) l := HO.out.only HO2.out (fun k hk hm => HV.out k hk (by
    rcases List.mem_cons.1 hm with rfl | hm
    · exact mem_foot.2 (.inl rfl)
    · exact mem_foot.2 (.inr (.inl (by simpa using hm)))))
  obtain ⟨A', c', he, hlc', hsrc, _⟩ := hov.src
  obtain ⟨rfl, rfl⟩ : A = A' ∧ c = c' := by injection he with h1 _ h2; exact ⟨h1, h2⟩
  have HW := Aside0.mk hW
  have HS := Aside0.mk hsrc
  have HOV := Aside0.mk hov
  have cW : w2.cell? ⟨gb, 13, none⟩ = some (.slice Aw Lw.length cw) := (HBK2.out.cell 13).trans rfl
  have fW := HBK2.out.frozen 13
  clear hW hov he hlc' hsrc
  go_region_law (first | (refine step_call (by kernel_rfl) 65 #[.slice A l.length c] (by kernel_rfl) (copy_calls A l.length c l w2.drew (show Src w2.drew A l.length l from HS.out) hlc (by omega)) ?_; rintro e3 w3 ⟨vc, rfl, hoc, hb3⟩; obtain ⟨A3, C3, rfl⟩ := row_sl hoc; refine ⟨_, rfl, ?_⟩; have hBK3 := Aside0.mk (show Blk w3 gb 80 _ from (show Blk w2.drew gb 80 _ from HBK2.out).below' hb3); have cW3 : w3.cell? ⟨gb, 13, none⟩ = some (.slice Aw Lw.length cw) := (hBK3.out.cell 13).trans rfl; have cW3a : (w3.alloc (.cells #[.slice A3 l.length C3] 24)).cell? ⟨gb, 13, none⟩ = some (.slice Aw Lw.length cw) := ((hBK3.out.alloc _).cell 13).trans rfl; have HW3 := Aside0.mk (pw_own_below (show w2.drew.ownsRow 0 24 1 (.slice Aw Lw.length cw) Lw.length (Lw.map Prod.fst) from HW.out) hb3)) | (refine step_append_cells (w0 := w3) (W := w3) 0 (by kernel_rfl) (.tmp 24) (.tmp 27) 77 24 _ 1 24 rfl Try.underlying77 infoEs rfl (by decide) (by decide) (.slice Aw Lw.length cw) Lw.length (Lw.map Prod.fst) [.slice A3 l.length C3] rfl rfl rfl (fun u hu => by rw [List.mem_singleton.1 hu]; rfl) HW3.out (Below.refl _ _) (Nat.zero_le _) (by have := HB.out.n; omega) ?_; intro v4 w4 ho4 hB4 hg4 hb4; obtain ⟨A4, C4, rfl⟩ := row_sl ho4; have hBK4 := Aside0.mk (show Blk w4 gb 80 _ from (hg4.block gb hBK3.out.lt (own_ne HW3.out hBK3.out (by decide))).trans hBK3.out); have cW4 : w4.cell? ⟨gb, 13, none⟩ = some (.slice Aw Lw.length cw) := (hBK4.out.cell 13).trans rfl; have fW4 := hBK4.out.frozen 13))
  all_goals
    go_wp2
    go_end0
    exact ⟨rfl, _, _, _, add_end HB.out HO.out hl HV.out HL.out HBK2.out HR2.out HO2.out HN1.out ⟨hb3.os, hb3.tape, hb3.output, hb3.size, hb3.block⟩ hoc hg4 ho4 hb4⟩
/-- A list of the book: its field's cell, its slice, its elements. -/
theorem BK.at_x (h : BK w gb vx vw L Lw) {i : Nat} {p : Value × List Al} (hi : L[i]? = some p) : ∃ b c A n, vx = .slice (some ⟨b, 0, none⟩) L.length c ∧ L.length ≤ c ∧ w.cell? ⟨b, i, none⟩ = some p.1 ∧ p.1 = .slice A p.2.length n ∧ p.2.length ≤ n ∧ Src w A p.2.length p.2 := by
  have hlt := (List.getElem?_eq_some_iff.1 hi).1
  rcases row_form h.rx with ⟨_, h2, _⟩ | ⟨b, c, h1, h2, _, _, _, h7, _⟩
  · omega
  · obtain ⟨A, n, h3, h4, h5, _⟩ := (h.xs p (List.mem_of_getElem? hi)).1.src
    exact ⟨b, c, A, n, h1, h2, h7 i _ (by rw [List.getElem?_map, hi]; rfl), h3, h4, h5⟩
theorem BK.at_w (h : BK w gb vx vw L Lw) {i : Nat} {p : Value × List Al} (hi : Lw[i]? = some p) : ∃ b c A n, vw = .slice (some ⟨b, 0, none⟩) Lw.length c ∧ Lw.length ≤ c ∧ w.cell? ⟨b, i, none⟩ = some p.1 ∧ p.1 = .slice A p.2.length n ∧ p.2.length ≤ n ∧ Src w A p.2.length p.2 := by
  have hlt := (List.getElem?_eq_some_iff.1 hi).1
  rcases row_form h.rw_ with ⟨_, h2, _⟩ | ⟨b, c, h1, h2, _, _, _, h7, _⟩
  · omega
  · obtain ⟨A, n, h3, h4, h5, _⟩ := (h.ws p (List.mem_of_getElem? hi)).1.src
    exact ⟨b, c, A, n, h1, h2, h7 i _ (by rw [List.getElem?_map, hi]; rfl), h3, h4, h5⟩
theorem below_dn (w : World) (n : Nat) : Below w.heap.size w (w.drewN n) := ⟨rfl, rfl, rfl, Nat.le_refl _, fun _ _ => rfl⟩
theorem BK.drewN (h : BK w gb vx vw L Lw) (n : Nat) : BK (w.drewN n) gb vx vw L Lw := h.below (below_dn w n)
set_option maxHeartbeats 4000000 in
set_option maxRecDepth 100000 in
theorem still_calls (w : World) (h : BK w gb vx vw L Lw) (hs : L.map Prod.snd = Lw.map Prod.snd) :
    Calls Try.prog 73 #[.pointer (some ⟨gb, 0, none⟩)] w fun r w' => r = .returned (.bool true) ∧ ∃ n, w.drewN n = w' := by
  have HB := Aside0.mk h
  have HS := Aside0.mk hs
  have HN := Aside0.mk h.n
  obtain ⟨Ax, cx, rfl⟩ := row_sl h.rx
  obtain ⟨Aw, cw, rfl⟩ := row_sl h.rw_
  clear h hs
  go_enter Try.func73, Try.ntmps73
  go_wp2_with fail
  go_loopg [3] L.length (fun kq v3 wr => ∃ (i n : Nat), v3 = .int .i64 (i : Int) ∧ Aside0 (i ≤ L.length ∧ kq = L.length - i) ∧ Aside0 (w.drewN n = wr))
  case atStart => exact ⟨0, 0, rfl, ⟨Nat.zero_le _, rfl⟩, ⟨rfl⟩⟩
  case round =>
    obtain ⟨i, n, rfl, HI, HW⟩ := hrel
    have hi0 : (0 : Int) ≤ (i : Int) := Int.natCast_nonneg _
    have HBr := Aside0.mk (show BK wr gb (.slice Ax L.length cx) (.slice Aw Lw.length cw) L Lw by rw [← HW.out]; exact HB.out.drewN n)
    have cX : wr.cell? ⟨gb, 12, none⟩ = some (.slice Ax L.length cx) := (HBr.out.blk.cell 12).trans rfl
    have cW : wr.cell? ⟨gb, 13, none⟩ = some (.slice Aw Lw.length cw) := (HBr.out.blk.cell 13).trans rfl
    have hi250 : (i : Int) ≤ 250 := by have := HN.out; have := HI.out; omega
    by_cases hlt : i < L.length
    · have hltI : (i : Int) < (L.length : Int) := by omega
      have hltW : i < Lw.length := by have := HN.out; omega
      have hltWI : (i : Int) < (Lw.length : Int) := by omega
      obtain ⟨p, hp⟩ : ∃ p, L[i]? = some p := ⟨L[i], by simp⟩
      obtain ⟨q, hq⟩ : ∃ q, Lw[i]? = some q := ⟨Lw[i], by simp⟩
      have hpq : p.2 = q.2 := by
        have h1 : (L.map Prod.snd)[i]? = some p.2 := by rw [List.getElem?_map, hp]; rfl
        have h2 : (Lw.map Prod.snd)[i]? = some q.2 := by rw [List.getElem?_map, hq]; rfl
        rw [HS.out, h2] at h1
        injection h1 with h1
        exact h1.symm
      obtain ⟨b1, c1, A1, n1, e1, g1, x1, s1, t1, r1⟩ := HBr.out.at_x hp
      obtain ⟨b2, c2, A2, n2, e2, g2, x2, s2, t2, r2⟩ := HBr.out.at_w hq
      have hp1000 := (HBr.out.xs p (List.mem_of_getElem? hp)).2
      injection e1 with e1 _ e1'
      injection e2 with e2 _ e2'
      subst e1 e1' e2 e2'
      rw [s1] at x1
      rw [s2] at x2
      have hsame := fun W : World => fun hW : ∃ k, W = wr.drewN k => same_calls A1 p.2.length n1 A2 q.2.length n2 p.2 W (by obtain ⟨k, rfl⟩ := hW; exact r1) t1 (by obtain ⟨k, rfl⟩ := hW; rw [hpq]; exact r2) t2 (by omega)
      have HSM := Aside0.mk hsame
      have HNW := Aside0.mk HW.out
      clear hsame s1 s2 r1 r2 hp hq hpq
      have hle := Aside0.mk hlt
      clear hlt hltW
      go_wp2_with fail
      go_still_tail 14, (by kernel_rfl)
      change wpList _ _ _ _ _ wr.drew
      clear cX cW x1 x2
      go_wp2_with fail
      refine (HSM.out _ ⟨1, rfl⟩).mono ?_
      rintro e5 w5 ⟨rfl, k5, rfl⟩
      go_wp2_with fail
      go_roundg (L.length - (i + 1))
      case measure => have := HI.out; have := hle.out; omega
      case rel => exact ⟨i + 1, n + (1 + k5), by go_num, ⟨by have := hle.out; omega, rfl⟩, ⟨by rw [← HNW.out, World.drewN_drewN]⟩⟩
    · have hltI : ¬ (i : Int) < (L.length : Int) := by omega
      go_wp2_with fail
      go_ret
      exact ⟨rfl, n, HW.out⟩
/-- The lists, those ahead of place i marked. -/
def mkd (i : Nat) (L : LS) : LS := L.mapIdx fun j p => (p.1, if j < i then MK j 0 p.2.length else p.2)
theorem mkd_len (i : Nat) (L : LS) : (mkd i L).length = L.length := by simp [mkd]
theorem mkd_at {i j : Nat} {L : LS} {p : Value × List Al} (h : L[j]? = some p) : (mkd i L)[j]? = some (p.1, if j < i then MK j 0 p.2.length else p.2) := by
  rw [mkd, List.getElem?_mapIdx, h]
  rfl
theorem own_mkd (i : Nat) (L : LS) : (mkd i L).filterMap own = L.filterMap own := by
  have h : ∀ (L : LS) (f : Nat → Value × List Al → Value × List Al), (∀ j p, (f j p).1 = p.1) → (L.mapIdx f).filterMap own = L.filterMap own := by
    intro L
    induction L with
    | nil => intro f _; rfl
    | cons p L ih =>
      intro f hf
      rw [List.mapIdx_cons, List.filterMap_cons, List.filterMap_cons, ih (fun j q => f (j + 1) q) (fun j q => hf (j + 1) q)]
      have e : own (f 0 p) = own p := by unfold own; rw [hf]
      rw [e]
  exact h L _ (fun j p => rfl)
theorem mkd_zero (L : LS) : mkd 0 L = L := by
  apply List.ext_getElem?
  intro j
  cases h : L[j]? with
  | none => rw [List.getElem?_eq_none (by rw [mkd_len]; exact List.getElem?_eq_none_iff.1 h)]
  | some p => rw [mkd_at h, if_neg (by omega)]
theorem mkd_succ {i : Nat} {L : LS} {p : Value × List Al} (h : L[i]? = some p) : (mkd i L).set i (p.1, MK i 0 p.2.length) = mkd (i + 1) L := by
  have hlt := (List.getElem?_eq_some_iff.1 h).1
  apply List.ext_getElem?
  intro j
  by_cases hj : i = j
  · subst hj
    rw [List.getElem?_set_self (by rw [mkd_len]; exact hlt), mkd_at h, if_pos (by omega)]
  · rw [List.getElem?_set_ne hj]
    cases hq : L[j]? with
    | none => rw [List.getElem?_eq_none (by rw [mkd_len]; exact List.getElem?_eq_none_iff.1 hq), List.getElem?_eq_none (by rw [mkd_len]; exact List.getElem?_eq_none_iff.1 hq)]
    | some q =>
      rw [mkd_at hq, mkd_at hq]
      by_cases hlt : j < i
      · rw [if_pos hlt, if_pos (by omega)]
      · rw [if_neg hlt, if_neg (by omega)]
theorem set_self {i : Nat} {L : LS} {p : Value × List Al} (h : L[i]? = some p) : L.set i p = L := by
  apply List.ext_getElem?
  intro j
  by_cases hj : i = j
  · subst hj
    rw [List.getElem?_set_self (List.getElem?_eq_some_iff.1 h).1, h]
  · rw [List.getElem?_set_ne hj]
theorem set_set (L : LS) (i : Nat) (p q : Value × List Al) : (L.set i p).set i q = L.set i q := by rw [List.set_set]
theorem fl_setAll (A B : List Al) (y x : Al) (o : Nat) (ho : o = A.length * 4) : setAll (fl (A ++ y :: B)) o (vals x) = fl (A ++ x :: B) := by
  subst ho
  have hA := fl_len A
  have e : fl (A ++ y :: B) = fl A ++ (vals y ++ fl B) := by rw [fl_app]; rfl
  rw [setAll_eq _ _ _ (by rw [e, List.length_append, List.length_append, hA, vals_len, vals_len]; omega), e, ← hA, List.take_left, ← List.drop_drop, List.drop_left, vals_len, ← vals_len y, List.drop_left, fl_app]
  simp [fl, List.append_assoc]
set_option maxHeartbeats 8000000 in
set_option maxRecDepth 100000 in
theorem put_calls (w : World) (h : BK w gb vx vw L Lw) :
    Calls Try.prog 82 #[.pointer (some ⟨gb, 0, none⟩)] w fun r w' => r = .returned (.tuple #[]) ∧ BK w' gb vx vw (mkd L.length L) Lw ∧ Only (L.filterMap own) w w' := by
  have HB := Aside0.mk h
  have HN := Aside0.mk h.n
  obtain ⟨Ax, cx, rfl⟩ := row_sl h.rx
  clear h
  go_enter Try.func82, Try.ntmps82
  go_wp2_with fail
  go_loopg [2] L.length (fun kq v2 wr => ∃ (i : Nat), v2 = .int .i64 (i : Int) ∧ Aside0 (i ≤ L.length ∧ kq = L.length - i) ∧ Aside0 (BK wr gb (.slice Ax L.length cx) vw (mkd i L) Lw) ∧ Aside0 (Only (L.filterMap own) w wr))
  case atStart => exact ⟨0, rfl, ⟨Nat.zero_le _, rfl⟩, ⟨by rw [mkd_zero]; exact HB.out⟩, ⟨Only.refl _ _⟩⟩
  case round =>
    obtain ⟨i, rfl, HI, HBr, HOr⟩ := hrel
    have hi0 : (0 : Int) ≤ (i : Int) := Int.natCast_nonneg _
    have cX : wr.cell? ⟨gb, 12, none⟩ = some (.slice Ax L.length cx) := (HBr.out.blk.cell 12).trans rfl
    have hi250 : (i : Int) ≤ 250 := by have := HN.out; have := HI.out; omega
    by_cases hlt : i < L.length
    · have hltI : (i : Int) < (L.length : Int) := by omega
      obtain ⟨p, hp⟩ : ∃ p, L[i]? = some p := ⟨L[i], by simp⟩
      have hpm : (mkd i L)[i]? = some (p.1, p.2) := by rw [mkd_at hp, if_neg (by omega)]
      have hp1000 := (HB.out.xs p (List.mem_of_getElem? hp)).2
      obtain ⟨b1, c1, A1, n1, e1, g1, x1, s1, t1, _⟩ := HBr.out.at_x hpm
      rw [mkd_len] at e1 g1
      injection e1 with e1 _ e1'
      subst e1 e1'
      dsimp only at x1 s1 t1
      rw [s1] at x1
      obtain ⟨N, hN⟩ : ∃ N, N = p.2.length := ⟨_, rfl⟩
      have HP := Aside0.mk hp
      have HPM := Aside0.mk hpm
      have HS1 := Aside0.mk s1
      have HNN := Aside0.mk hN
      have HLT := Aside0.mk hlt
      rw [← hN] at x1 t1 hp1000
      clear hp hpm s1 hN hlt
      go_wp2_with fail
      refine (mark_calls i 0 N wr (by omega)).mono ?_
      rintro e2 w2 ⟨vm, rfl, hom, hb2⟩
      obtain ⟨Am, cm, rfl⟩ := row_sl hom
      have HB2 := Aside0.mk (show BK w2 gb (.slice (some ⟨b1, 0, none⟩) L.length cx) vw ((mkd i L).set i (p.1, MK i 0 0 ++ p.2.drop 0)) Lw by
        rw [show MK i 0 0 ++ p.2.drop 0 = p.2 by simp [MK], set_self HPM.out]
        exact HBr.out.below hb2)
      have HM := Aside0.mk (show Own w2 0 (.slice Am N cm) (MK i 0 N) by
        have := hom.zero
        rw [MK_len] at this
        exact this)
      have HO2 := Aside0.mk (HOr.out.below hb2)
      have HNE := Aside0.mk (show ∀ g, p.1.ownBlock = some g → (Value.slice Am N cm).ownBlock ≠ some g from fun g hg hg2 => by
        have h1 := own_base hom g (by rw [MK_len]; exact hg2)
        have h2 := own_lt (HBr.out.xs _ (List.mem_of_getElem? HPM.out)).1 g hg
        omega)
      clear hom hb2 cX x1
      rw [MK_len]
      go_wp2_with fail
      obtain ⟨wo, hwo⟩ : ∃ wo, wo = wr := ⟨_, rfl⟩
      rw [← hwo] at HBr HOr
      clear hwo
      go_loopg [4] N (fun kq v4 wi => ∃ (k : Nat), v4 = .int .i64 (k : Int) ∧ Aside0 (k ≤ N ∧ kq = N - k) ∧ Aside0 (BK wi gb (.slice (some ⟨b1, 0, none⟩) L.length cx) vw ((mkd i L).set i (p.1, MK i 0 k ++ p.2.drop k)) Lw) ∧ Aside0 (Own wi 0 (.slice Am N cm) (MK i 0 N)) ∧ Aside0 (Only (L.filterMap own) w wi) ∧ Aside0 (∀ g, p.1.ownBlock = some g → (Value.slice Am N cm).ownBlock ≠ some g))
      case atStart => exact ⟨0, rfl, ⟨Nat.zero_le _, rfl⟩, HB2, HM, HO2, HNE⟩
      case round =>
        obtain ⟨k, rfl, HK, HBi, HMi, HOi, HNi⟩ := hrel
        clear HB2 HM HO2
        have hk0 : (0 : Int) ≤ (k : Int) := Int.natCast_nonneg _
        have hi : ((mkd i L).set i (p.1, MK i 0 k ++ p.2.drop k))[i]? = some (p.1, MK i 0 k ++ p.2.drop k) := List.getElem?_set_self (by rw [mkd_len]; exact HLT.out)
        obtain ⟨b3, c3, A3, n3, e3, g3, x3, s3, t3, _⟩ := HBi.out.at_x hi
        have hown := (HBi.out.xs _ (List.mem_of_getElem? hi)).1
        dsimp only at x3 s3 t3 hown
        rw [HS1.out, ← HNN.out] at x3
        rw [List.length_set, mkd_len] at e3
        obtain ⟨rfl, rfl⟩ : b1 = b3 ∧ cx = c3 := by
          injection e3 with h1 _ h3
          injection h1 with h1
          injection h1 with h1
          exact ⟨h1, h3⟩
        have cX : wr.cell? ⟨gb, 12, none⟩ = some (.slice (some ⟨b1, 0, none⟩) L.length cx) := (HBi.out.blk.cell 12).trans rfl
        by_cases hkN : k < N
        · have hkI : (k : Int) < (N : Int) := by omega
          have hlen : (MK i 0 k ++ p.2.drop k).length = N := by rw [List.length_append, MK_len, List.length_drop, ← HNN.out]; omega
          obtain ⟨y, hy⟩ : ∃ y, p.2[k]? = some y := ⟨p.2[k]'(by rw [← HNN.out]; exact hkN), by simp⟩
          have hdr : p.2.drop k = y :: p.2.drop (k + 1) := by
            rw [List.drop_eq_getElem_cons (by rw [← HNN.out]; exact hkN)]
            rw [List.getElem?_eq_getElem (by rw [← HNN.out]; exact hkN)] at hy
            injection hy with hy
            rw [hy]
          have hown2 : wr.ownsRow 0 38 4 (.slice A1 N n1) N (fl (MK i 0 k ++ y :: p.2.drop (k + 1))) := by
            have h1 := hown
            unfold Own at h1
            rw [hlen, HS1.out, ← HNN.out, hdr] at h1
            exact h1
          rcases row_form hown2 with ⟨_, h2, _⟩ | ⟨b4, c4, h1, h2, _, _, _, h7, h8⟩
          · omega
          · injection h1 with h1 _ h1'
            subst h1 h1'
            obtain ⟨x, hx⟩ : ∃ x, x = mk i k := ⟨_, rfl⟩
            have hmx : (MK i 0 N)[k]? = some x := by
              rw [hx]
              unfold MK
              rw [List.getElem?_map, List.getElem?_range hkN, Option.map_some, Nat.zero_add]
            have hmr : wr.ownsRow 0 38 4 (.slice Am N cm) N (fl (MK i 0 N)) := by
              have h1 := HMi.out
              unfold Own at h1
              rw [MK_len] at h1
              exact h1
            rcases row_form hmr with ⟨_, h2m, _⟩ | ⟨b5, c5, h1m, h2m, _, _, _, h7m, _⟩
            · omega
            · injection h1m with h1m _ h1m'
              subst h1m h1m'
              have m0 : wr.cell? ⟨b5, k * 4, none⟩ = some (.int .i64 x.k) := h7m _ _ ((fl_at vals_len hmx (j := 0) (by decide)).trans rfl)
              have m1 : wr.cell? ⟨b5, k * 4 + 1, none⟩ = some (.string x.s) := h7m _ _ ((fl_at vals_len hmx (j := 1) (by decide)).trans rfl)
              have m2 : wr.cell? ⟨b5, k * 4 + 2, none⟩ = some (.int .i64 x.x) := h7m _ _ ((fl_at vals_len hmx (j := 2) (by decide)).trans rfl)
              have m3 : wr.cell? ⟨b5, k * 4 + 3, none⟩ = some (.int .i64 x.y) := h7m _ _ ((fl_at vals_len hmx (j := 3) (by decide)).trans rfl)
              have hty : (MK i 0 k ++ y :: p.2.drop (k + 1))[k]? = some y := by rw [List.getElem?_append_right (by rw [MK_len]; omega), MK_len, Nat.sub_self]; rfl
              have t0 : wr.cell? ⟨b4, k * 4, none⟩ = some (.int .i64 y.k) := h7 _ _ ((fl_at vals_len hty (j := 0) (by decide)).trans rfl)
              have f0 := h8 (k * 4)
              have t1 : wr.cell? ⟨b4, k * 4 + 1, none⟩ = some (.string y.s) := h7 _ _ ((fl_at vals_len hty (j := 1) (by decide)).trans rfl)
              have f1 := h8 (k * 4 + 1)
              have t2 : wr.cell? ⟨b4, k * 4 + 2, none⟩ = some (.int .i64 y.x) := h7 _ _ ((fl_at vals_len hty (j := 2) (by decide)).trans rfl)
              have f2 := h8 (k * 4 + 2)
              have t3 : wr.cell? ⟨b4, k * 4 + 3, none⟩ = some (.int .i64 y.y) := h7 _ _ ((fl_at vals_len hty (j := 3) (by decide)).trans rfl)
              have f3 := h8 (k * 4 + 3)

              have HX := Aside0.mk hx
              have HY := Aside0.mk hdr
              have HR := Aside0.mk hown2
              have HL := Aside0.mk hlen
              have HI2 := Aside0.mk hi
              have HKN := Aside0.mk hkN
              clear hx hdr hown2 hlen hi hown s3 h7 h8 h7m hmx hmr hy h2m
              go_wp2_with fail
              go_region
              clear m0 hty t0 f0 t1 f1 m1 t2 f2 m2 t3 f3 m3
              go_wp2_with fail
              go_roundg (N - (k + 1))
              case measure => have := HK.out; have := HKN.out; omega
              case rel =>
                have hro := row_put (j := k * 4 + 3) (row_put (j := k * 4 + 2) (row_put (j := k * 4 + 1) (row_put (j := k * 4) (HR.out) (.int .i64 x.k)) (.string x.s)) (.int .i64 x.x)) (.int .i64 x.y)
                have hset := fl_setAll (MK i 0 k) (p.2.drop (k + 1)) y x (k * 4) (by rw [MK_len])
                rw [show setAll (fl (MK i 0 k ++ y :: p.2.drop (k + 1))) (k * 4) (vals x) = ((((fl (MK i 0 k ++ y :: p.2.drop (k + 1))).set (k * 4) (.int .i64 x.k)).set (k * 4 + 1) (.string x.s)).set (k * 4 + 2) (.int .i64 x.x)).set (k * 4 + 3) (.int .i64 x.y) from rfl] at hset
                have hms : MK i 0 k ++ x :: p.2.drop (k + 1) = MK i 0 (k + 1) ++ p.2.drop (k + 1) := by
                  rw [MK_succ, HX.out, Nat.zero_add, List.append_assoc]
                  rfl
                rw [hset] at hro
                rw [hms] at hro
                have hln : (MK i 0 (k + 1) ++ p.2.drop (k + 1)).length = N := by rw [List.length_append, MK_len, List.length_drop, ← HNN.out]; have := HKN.out; omega
                have hOwn : Own ((((wr.setCell ⟨b4, k * 4, none⟩ (.int .i64 x.k)).setCell ⟨b4, k * 4 + 1, none⟩ (.string x.s)).setCell ⟨b4, k * 4 + 2, none⟩ (.int .i64 x.x)).setCell ⟨b4, k * 4 + 3, none⟩ (.int .i64 x.y)).drew 0 p.1 (MK i 0 (k + 1) ++ p.2.drop (k + 1)) := by
                  unfold Own
                  rw [hln, HS1.out, ← HNN.out]
                  exact hro
                have hO : Only [b4] wr ((((wr.setCell ⟨b4, k * 4, none⟩ (.int .i64 x.k)).setCell ⟨b4, k * 4 + 1, none⟩ (.string x.s)).setCell ⟨b4, k * 4 + 2, none⟩ (.int .i64 x.x)).setCell ⟨b4, k * 4 + 3, none⟩ (.int .i64 x.y)).drew := (((((Only.refl [b4] wr).setCell _ _ (.inl (by simp))).setCell _ _ (.inl (by simp))).setCell _ _ (.inl (by simp))).setCell _ _ (.inl (by simp))).drew
                have hown : p.1.ownBlock = some b4 := by rw [HS1.out]; rfl
                have hBK := HBi.out.setRow HI2.out (l2 := MK i 0 (k + 1) ++ p.2.drop (k + 1)) (by rw [hln, HL.out]) hO (fun b hb => by rw [List.mem_singleton.1 hb]; exact hown) hOwn
                rw [set_set] at hBK
                refine ⟨k + 1, by go_num, ⟨by have := HKN.out; omega, rfl⟩, ⟨hBK⟩, ⟨HMi.out.only hO (fun b hb hm => HNi.out b4 hown (by rw [← List.mem_singleton.1 hm]; exact hb))⟩, ⟨HOi.out.trans (hO.mono (fun b hb => ?_))⟩, HNi⟩
                rw [List.mem_singleton.1 hb]
                exact List.mem_filterMap.2 ⟨p, List.mem_of_getElem? HP.out, hown⟩
        · have hkI : ¬ (k : Int) < (N : Int) := by omega
          have hke : k = N := by have := HK.out; omega
          have HB9 := Aside0.mk (show BK wr gb (.slice (some ⟨b1, 0, none⟩) L.length cx) vw (mkd (i + 1) L) Lw by
            have h1 := HBi.out
            rw [hke, HNN.out, List.drop_of_length_le (Nat.le_refl _), List.append_nil, mkd_succ HP.out] at h1
            exact h1)
          clear hi hown s3 hke
          go_wp2_with fail
          go_roundg (L.length - (i + 1))
          case measure => have := HI.out; have := HLT.out; omega
          case rel => exact ⟨i + 1, by go_num, ⟨by have := HLT.out; omega, rfl⟩, HB9, HOi⟩
    · have hltI : ¬ (i : Int) < (L.length : Int) := by omega
      obtain rfl : i = L.length := by have := HI.out; omega
      go_wp2_with fail
      go_end0
      exact ⟨rfl, HBr.out, HOr.out⟩
/-- What is left of a book while its lists grow. -/
structure BX (w : World) (gb : Nat) (vx vw : Value) (L : LS) : Prop where
  blk : Blk w gb 80 (bookCells vx vw)
  rx : w.ownsRow 0 24 1 vx L.length (L.map Prod.fst)
  xs : ∀ p ∈ L, Own w 0 p.1 p.2 ∧ p.2.length ≤ 1000
  n : L.length ≤ 250
  d : ∀ (i j : Nat) (p q : Value × List Al), L[i]? = some p → L[j]? = some q → i ≠ j → ∀ k, p.1.ownBlock = some k → q.1.ownBlock ≠ some k
theorem BK.bx (h : BK w gb vx vw L Lw) : BX w gb vx vw L := ⟨h.blk, h.rx, h.xs, h.n.2, h.d⟩
theorem BX.below (h : BX w gb vx vw L) (hb : Below w.heap.size w w') : BX w' gb vx vw L := ⟨h.blk.below' hb, pw_own_below h.rx hb, fun p hp => ⟨(h.xs p hp).1.below hb, (h.xs p hp).2⟩, h.n, h.d⟩
/-- The lists that are grown already. -/
structure GS (w0 w : World) (L G : LS) (vg : Value) : Prop where
  r : w.ownsRow w0.heap.size 24 1 vg G.length (G.map Prod.fst)
  xs : ∀ (j : Nat) (q : Value × List Al), G[j]? = some q → ∃ p, L[j]? = some p ∧ q.2 = MK j 0 (p.2.length + 72) ∧ Own w 0 q.1 q.2 ∧ ∀ k, q.1.ownBlock = some k → p.1.ownBlock = some k ∨ w0.heap.size ≤ k
theorem GS.below {w0 : World} {G : LS} {vg : Value} (h : GS w0 w L G vg) (hb : Below w.heap.size w w') : GS w0 w' L G vg :=
  ⟨pw_own_below h.r hb, fun j q hq => by
    obtain ⟨p, h1, h2, h3, h4⟩ := h.xs j q hq
    exact ⟨p, h1, h2, h3.below hb, h4⟩⟩
/-- List i, m elements longer. -/
structure GR (w0 wr : World) (gb : Nat) (vx vw : Value) (L G : LS) (vg : Value) (i : Nat) (p : Value × List Al) (l : Value) (m : Nat) (w : World) : Prop where
  bx : BX w gb vx vw L
  g : GS w0 w L G vg
  hp : L[i]? = some p
  hi : G.length = i
  ow : Own w 0 l (MK i 0 (p.2.length + m))
  lo : ∀ k, l.ownBlock = some k → p.1.ownBlock = some k ∨ wr.heap.size ≤ k
  s0 : w0.heap.size ≤ wr.heap.size
  s1 : wr.heap.size ≤ w.heap.size
  gl : ∀ q ∈ G, ∀ k, q.1.ownBlock = some k → k < wr.heap.size
  x0 : ∀ q ∈ L, ∀ k, q.1.ownBlock = some k → k < w0.heap.size
  o : Only (L.filterMap own) w0 w
theorem GR.below {w0 wr : World} {G : LS} {vg : Value} {i m : Nat} {p : Value × List Al} {l : Value} (h : GR w0 wr gb vx vw L G vg i p l m w) (hb : Below w.heap.size w w') : GR w0 wr gb vx vw L G vg i p l m w' :=
  ⟨h.bx.below hb, h.g.below hb, h.hp, h.hi, h.ow.below hb, h.lo, h.s0, Nat.le_trans h.s1 hb.size, h.gl, h.x0, h.o.below hb⟩
theorem GR.app {w0 wr : World} {G : LS} {vg : Value} {i m : Nat} {p : Value × List Al} {l : Value} (h : GR w0 wr gb vx vw L G vg i p l m w) (a bm cm : Nat) (ha : 0 < a) (hm : m + a ≤ 100) (hs : w.ownsRow 0 38 4 (.slice (some ⟨bm, 0, none⟩) a cm) a (fl (MK i (p.2.length + m) a))) :
    ∃ A c w2, (Builtin.append_ #[24, 24] 24 #[l, .slice (some ⟨bm, 0, none⟩) a cm]).run Try.prog w = .ok (.slice A (p.2.length + (m + a)) c) w2 ∧ GR w0 wr gb vx vw L G vg i p (.slice A (p.2.length + (m + a)) c) (m + a) w2 := by
  obtain ⟨iC, hiC, hz0, hz1, hz2⟩ := info_parts infoE
  have hpl := (h.bx.xs p (List.mem_of_getElem? h.hp)).2
  have hl : w.ownsRow 0 38 4 l (p.2.length + m) (fl (MK i 0 (p.2.length + m))) := by
    have := h.ow
    unfold Own at this
    rw [MK_len] at this
    exact this
  rcases row_form hs with ⟨h1, _⟩ | ⟨b, c, h1, _, _, _, _, h7, _⟩
  · cases h1
  · injection h1 with h1
    injection h1 with h1
    injection h1 with h1
    subst h1
    obtain ⟨v', w2, hr, ho, hg, hv, hk⟩ := run_append_two (P := Try.prog) w 0 24 24 38 iC _ 4 40 Try.underlying24 hiC hz0 hz1 hz2 rfl (by decide) l (p.2.length + m) _ hl ⟨bm, 0, none⟩ a cm (fl (MK i (p.2.length + m) a)) (by rw [fl_len, MK_len])
      (fun j u hu => by rw [add0]; exact h7 j u hu) (fl_one _) ha (by unfold maxLen; omega) (by omega) (Nat.zero_le _)
    have ho2 : w2.ownsRow 0 38 4 v' (p.2.length + (m + a)) (fl (MK i 0 (p.2.length + (m + a)))) := by
      rw [← fl_app, show MK i (p.2.length + m) a = MK i (0 + (p.2.length + m)) a by rw [Nat.zero_add], MK_app, Nat.add_assoc] at ho
      exact ho
    obtain ⟨A, c, rfl⟩ := row_sl ho2
    have other : ∀ {B2 s2 n2 : Nat} {e2 : TypeId} {v2 : Value} {xs2 : List Value}, w.ownsRow B2 e2 s2 v2 n2 xs2 → (∀ k, v2.ownBlock = some k → l.ownBlock ≠ some k) → w2.ownsRow B2 e2 s2 v2 n2 xs2 := fun {_ _ _ _ v2 _} h2 hne => own_move h2 (fun k hk => hg.block k (own_lt h2 k hk) (fun e => hne k hk e.symm))
    refine ⟨A, c, w2, hr, ⟨(hg.block gb h.bx.blk.lt (own_ne hl h.bx.blk (by decide))).trans h.bx.blk, other h.bx.rx (row_ne h.bx.rx hl (by decide)), fun q hq => ⟨?_, (h.bx.xs q hq).2⟩, h.bx.n, h.bx.d⟩, ⟨other h.g.r (row_ne h.g.r hl (by decide)), fun j q hq => ?_⟩, h.hp, h.hi, ?_, fun k hk2 => ?_, h.s0, Nat.le_trans h.s1 hg.size, h.gl, h.x0, ?_⟩
    · by_cases hb : ∃ k, q.1.ownBlock = some k ∧ l.ownBlock = some k
      · obtain ⟨k, hk1, hk2⟩ := hb
        refine hk _ _ _ _ (h.bx.xs q hq).1 ?_
        obtain ⟨j, hj⟩ := List.getElem?_of_mem hq
        by_cases hij : i = j
        · subst hij
          rw [h.hp] at hj
          injection hj with hj
          rw [← hj]
          omega
        · rcases h.lo k hk2 with h3 | h3
          · exact absurd hk1 (h.bx.d i j p q h.hp hj hij k h3)
          · have := h.x0 q hq k hk1
            have := h.s0
            omega
      · exact other (h.bx.xs q hq).1 (fun k hk1 hk2 => hb ⟨k, hk1, hk2⟩)
    · obtain ⟨p', h1, h2, h3, h4⟩ := h.g.xs j q hq
      have hj : j < G.length := (List.getElem?_eq_some_iff.1 hq).1
      refine ⟨p', h1, h2, other h3 (fun k hk1 hk2 => ?_), h4⟩
      rcases h.lo k hk2 with h5 | h5
      · rcases h4 k hk1 with h6 | h6
        · exact h.bx.d j i p' p h1 h.hp (by have := h.hi; omega) k h6 h5
        · have := h.x0 p (List.mem_of_getElem? h.hp) k h5
          omega
      · have := h.gl q (List.mem_of_getElem? hq) k hk1
        omega
    · unfold Own
      rw [MK_len]
      exact ho2
    · rcases hv with h5 | h5
      · exact h.lo k (by rw [← h5]; exact hk2)
      · rw [h5] at hk2
        injection hk2 with hk2
        have := h.s1
        exact .inr (by omega)
    · refine ⟨hg.os.trans h.o.os, hg.tape.trans h.o.tape, hg.output.trans h.o.output, Nat.le_trans h.o.size hg.size, fun k hk1 hn => (hg.block k (Nat.lt_of_lt_of_le hk1 h.o.size) (fun e => ?_)).trans (h.o.block k hk1 hn)⟩
      rcases h.lo k e.symm with h5 | h5
      · exact hn (List.mem_filterMap.2 ⟨p, List.mem_of_getElem? h.hp, h5⟩)
      · have := h.s0
        omega
theorem GR.push {w0 wr w5 : World} {G : LS} {vg vg1 : Value} {i m : Nat} {p : Value × List Al} {l : Value} (h : GR w0 wr gb vx vw L G vg i p l m w) (hm : m = 72) (hx : ∀ k, vx.ownBlock = some k → k < w0.heap.size) (hr1 : w5.ownsRow w0.heap.size 24 1 vg1 (G.length + 1) (G.map Prod.fst ++ [l])) (hg : w.grownBy w5 vg.ownBlock) :
    BX w5 gb vx vw L ∧ GS w0 w5 L (G ++ [(l, MK i 0 (p.2.length + 72))]) vg1 ∧ Only (L.filterMap own) w0 w5 := by
  subst hm
  have other : ∀ {B2 s2 n2 : Nat} {e2 : TypeId} {v2 : Value} {xs2 : List Value}, w.ownsRow B2 e2 s2 v2 n2 xs2 → (∀ k, v2.ownBlock = some k → vg.ownBlock ≠ some k) → w5.ownsRow B2 e2 s2 v2 n2 xs2 := fun {_ _ _ _ v2 _} h2 hne => own_move h2 (fun k hk => hg.block k (own_lt h2 k hk) (fun e => hne k hk e.symm))
  refine ⟨⟨(hg.block gb h.bx.blk.lt (own_ne h.g.r h.bx.blk (by decide))).trans h.bx.blk, other h.bx.rx (fun k hk hk2 => ?_), fun q hq => ⟨other (h.bx.xs q hq).1 (row_ne (h.bx.xs q hq).1 h.g.r (by decide)), (h.bx.xs q hq).2⟩, h.bx.n, h.bx.d⟩, ⟨by rw [List.length_append, List.map_append]; exact hr1, fun j q hq => ?_⟩, ⟨hg.os.trans h.o.os, hg.tape.trans h.o.tape, hg.output.trans h.o.output, Nat.le_trans h.o.size hg.size, fun k hk1 hn => (hg.block k (Nat.lt_of_lt_of_le hk1 h.o.size) (fun e => ?_)).trans (h.o.block k hk1 hn)⟩⟩
  · have h1 := hx k hk
    have h2 := own_base h.g.r k hk2
    omega
  · rw [List.getElem?_append] at hq
    by_cases hj : j < G.length
    · rw [if_pos hj] at hq
      obtain ⟨p', h1, h2, h3, h4⟩ := h.g.xs j q hq
      exact ⟨p', h1, h2, other h3 (row_ne h3 h.g.r (by decide)), h4⟩
    · rw [if_neg hj] at hq
      have hlt := (List.getElem?_eq_some_iff.1 hq).1
      simp at hlt
      have hji : j = i := by have := h.hi; omega
      obtain ⟨_, rfl⟩ := List.getElem?_eq_some_iff.1 hq
      refine ⟨p, by rw [hji]; exact h.hp, by simp [hji], by simp only [List.getElem_singleton]; exact other h.ow (row_ne h.ow h.g.r (by decide)), fun k hk => ?_⟩
      rcases h.lo k (by simpa using hk) with h5 | h5
      · exact .inl h5
      · have := h.s0
        exact .inr (by omega)
  · have h2 := own_base h.g.r k e.symm
    omega
/-- Every list holds its marks. -/
def Mkd (L : LS) : Prop := ∀ (j : Nat) (p : Value × List Al), L[j]? = some p → p.2 = MK j 0 p.2.length
theorem Mkd.mkd (L : LS) : Mkd (mkd L.length L) := by
  intro j p hp
  cases hq : L[j]? with
  | none => rw [List.getElem?_eq_none (by rw [mkd_len]; exact List.getElem?_eq_none_iff.1 hq)] at hp; cases hp
  | some q =>
    rw [mkd_at hq, if_pos (List.getElem?_eq_some_iff.1 hq).1] at hp
    injection hp with hp
    subst hp
    simp only [MK_len]
set_option maxHeartbeats 8000000 in
set_option maxRecDepth 100000 in
theorem grow_calls (w : World) (h : BX w gb vx vw L) (hm : Mkd L) :
    Calls Try.prog 89 #[.pointer (some ⟨gb, 0, none⟩)] w fun r w' => ∃ (vg : Value) (G : LS), r = .returned vg ∧ G.length = L.length ∧ BX w' gb vx vw L ∧ GS w w' L G vg ∧ Only (L.filterMap own) w w' := by
  have HB := Aside0.mk h
  have HM := Aside0.mk hm
  have HN := Aside0.mk h.n
  have H0 := Aside0.mk (show ∀ q ∈ L, ∀ k, q.1.ownBlock = some k → k < w.heap.size from fun q hq k hk => own_lt (h.xs q hq).1 k hk)
  obtain ⟨Ax, cx, rfl⟩ := row_sl h.rx
  clear h hm
  go_enter Try.func89, Try.ntmps89
  go_wp2_with fail
  go_loopg [3, 4] L.length (fun kq v3 v4 wr => ∃ (i : Nat) (G : LS) (Ag : Option Addr) (cg : Nat), v3 = .slice Ag G.length cg ∧ v4 = .int .i64 (i : Int) ∧ Aside0 (i ≤ L.length ∧ kq = L.length - i ∧ G.length = i) ∧ Aside0 (BX wr gb (.slice Ax L.length cx) vw L) ∧ Aside0 (GS w wr L G (.slice Ag G.length cg)) ∧ Aside0 (Only (L.filterMap own) w wr))
  case atStart => exact ⟨0, [], none, 0, rfl, rfl, ⟨Nat.zero_le _, rfl, rfl⟩, HB, ⟨⟨own_nil _ _ _ _, fun j q hq => by simp at hq⟩⟩, ⟨Only.refl _ _⟩⟩
  case round =>
    obtain ⟨i, G, Ag, cg, rfl, rfl, HI, HBr, HG, HO⟩ := hrel
    have hi0 : (0 : Int) ≤ (i : Int) := Int.natCast_nonneg _
    have cX : wr.cell? ⟨gb, 12, none⟩ = some (.slice Ax L.length cx) := (HBr.out.blk.cell 12).trans rfl
    have hi250 : (i : Int) ≤ 250 := by have := HN.out; have := HI.out; omega
    by_cases hlt : i < L.length
    · have hltI : (i : Int) < (L.length : Int) := by omega
      obtain ⟨p, hp⟩ : ∃ p, L[i]? = some p := ⟨L[i], by simp⟩
      have hmem := List.mem_of_getElem? hp
      rcases row_form HBr.out.rx with ⟨_, h2, _⟩ | ⟨bx, cx', h1, h2, _, _, _, h7, _⟩
      · omega
      · injection h1 with h1 _ h1'
        subst h1 h1'
        obtain ⟨A1, n1, s1, t1, _, _⟩ := (HBr.out.xs p hmem).1.src
        have x1 := h7 i _ (show (L.map Prod.fst)[i]? = some p.1 by rw [List.getElem?_map, hp]; rfl)
        rw [s1] at x1
        have HGR := Aside0.mk (show GR w wr gb (.slice (some ⟨bx, 0, none⟩) L.length cx) vw L G (.slice Ag G.length cg) i p (.slice A1 (p.2.length + 0) n1) 0 wr from
          ⟨HBr.out, HG.out, hp, HI.out.2.2, by rw [Nat.add_zero, ← s1, ← HM.out i p hp]; exact (HBr.out.xs p hmem).1, fun k hk => .inl (by rw [s1]; exact hk), HO.out.size, Nat.le_refl _, fun q hq k hk => by
            obtain ⟨j, hj⟩ := List.getElem?_of_mem hq
            obtain ⟨_, _, _, h3, _⟩ := HG.out.xs j q hj
            exact own_lt h3 k hk, H0.out, HO.out⟩)
        have HP := Aside0.mk hp
        have hN1000 := (HBr.out.xs p hmem).2
        obtain ⟨N, hN⟩ : ∃ N, N = p.2.length := ⟨_, rfl⟩
        rw [← hN] at x1 t1 hN1000 HGR
        have HNN := Aside0.mk hN
        have HLT := Aside0.mk hlt
        clear hp hmem s1 h7 hN hlt
        go_wp2_with fail
        clear cX x1
        obtain ⟨wo, rfl⟩ : ∃ wo : World, wo = wr := ⟨_, rfl⟩
        go_loopg [5, 6] 12 (fun kq v5 v6 wi => ∃ (j : Nat) (A5 : Option Addr) (c5 : Nat), v5 = .slice A5 (N + j) c5 ∧ v6 = .int .i64 (j : Int) ∧ Aside0 (j ≤ 12 ∧ kq = 12 - j) ∧ Aside0 (GR w wo gb (.slice (some ⟨bx, 0, none⟩) L.length cx) vw L G (.slice Ag G.length cg) i p (.slice A5 (N + j) c5) j wi))
        case atStart => exact ⟨0, A1, n1, rfl, rfl, ⟨Nat.zero_le _, rfl⟩, HGR⟩
        case round =>
          obtain ⟨j, A5, c5, rfl, rfl, HJ, HR⟩ := hrel
          clear HGR
          have hj0 : (0 : Int) ≤ (j : Int) := Int.natCast_nonneg _
          by_cases hj : j < 12
          · have hjI : (j : Int) < 12 := by omega
            go_wp2_with fail
            rw [show ((N : Int) + (j : Int)) = ((N + j : Nat) : Int) by omega]
            refine (mark_calls i (N + j) 1 wr (by omega)).mono ?_
            rintro e2 w2 ⟨vm, rfl, hom, hb2⟩
            have HR2 := Aside0.mk (HR.out.below hb2)
            have hom0 := hom.zero
            unfold Own at hom0
            rw [MK_len, HNN.out] at hom0
            rcases row_form hom0 with ⟨_, h2, _⟩ | ⟨bm, cm, rfl, _⟩
            · cases h2
            obtain ⟨A6, c6, w3, hr6, hgr6⟩ := HR2.out.app 1 bm cm (by decide) (by omega) hom0
            rw [← HNN.out] at hr6 hgr6
            have HRR := Aside0.mk hr6
            have HR3 := Aside0.mk hgr6
            clear hom hom0 hb2 hr6 hgr6
            go_wp2_with (with_reducible refine append_of rfl (.tmp 27) (.tmp 31) 24 24 (.slice A5 (N + j) c5) (.slice (some ⟨bm, 0, none⟩) 1 cm) rfl ?_ ?_ HRR.out ?_)
            all_goals first | rfl | skip
            go_roundg (12 - (j + 1))
            case measure => have := HJ.out; omega
            case rel => exact ⟨j + 1, A6, c6, rfl, by go_num, ⟨by omega, rfl⟩, HR3⟩
          · have hjI : ¬ (j : Int) < 12 := by omega
            obtain rfl : j = 12 := by have := HJ.out; omega
            go_wp2_with fail
            rw [show ((N : Int) + 12) = ((N + 12 : Nat) : Int) by omega]
            refine (mark_calls i (N + 12) 60 wr (by omega)).mono ?_
            rintro e2 w2 ⟨vm, rfl, hom, hb2⟩
            have HR2 := Aside0.mk (HR.out.below hb2)
            have hom0 := hom.zero
            unfold Own at hom0
            rw [MK_len, HNN.out] at hom0
            rcases row_form hom0 with ⟨_, h2, _⟩ | ⟨bm, cm, rfl, _⟩
            · cases h2
            obtain ⟨A6, c6, w3, hr6, hgr6⟩ := HR2.out.app 60 bm cm (by decide) (by omega) hom0
            rw [← HNN.out] at hr6 hgr6
            have HRR := Aside0.mk hr6
            have HR3 := Aside0.mk hgr6
            clear hom hom0 hb2 hr6 hgr6
            go_wp2_with (first | (at_builtin; refine Aside0.out ?_))
            refine ⟨?_⟩
            refine append_of rfl (.tmp 34) (.tmp 38) 24 24 (.slice A5 (N + 12) c5) (.slice (some ⟨bm, 0, none⟩) 60 cm) rfl rfl rfl HRR.out ?_
            go_wp2_with (first | (at_builtin; refine Aside0.out ?_))
            refine ⟨?_⟩
            refine print_append_cells (w0 := w3) (W := w3) w.heap.size rfl (.tmp 33) (.tmp 40) 77 24 _ 1 24 rfl Try.underlying77 infoEs rfl (by decide) (by decide) (.slice Ag G.length cg) G.length (G.map Prod.fst) [.slice A6 (N + 72) c6] rfl rfl rfl (fun u hu => by rw [List.mem_singleton.1 hu]; rfl) HR3.out.g.r (Below.refl _ _) (Nat.le_trans HR3.out.s0 HR3.out.s1) (by have := HI.out; have := HN.out; omega) ?_
            intro vg1 w5 ho5 hB5 hg5 hb5
            obtain ⟨A7, c7, rfl⟩ := row_sl ho5
            obtain ⟨k1, k2, k3⟩ := HR3.out.push rfl (own_lt HB.out.rx) ho5 hg5
            have K1 := Aside0.mk k1
            have K2 := Aside0.mk (show GS w w5 L (G ++ [(.slice A6 (N + 72) c6, MK i 0 (p.2.length + 72))]) (.slice A7 (G ++ [((.slice A6 (N + 72) c6 : Value), MK i 0 (p.2.length + 72))]).length c7) by
              rw [show (G ++ [((.slice A6 (N + 72) c6 : Value), MK i 0 (p.2.length + 72))]).length = G.length + 1 by simp]
              exact k2)
            have K3 := Aside0.mk k3
            have hgl : (G ++ [((.slice A6 (N + 72) c6 : Value), MK i 0 (p.2.length + 72))]).length = G.length + 1 := by simp
            have HGL := Aside0.mk hgl
            clear ho5 hB5 hg5 hb5 k1 k2 k3 hgl
            go_wp2_with fail
            go_roundg (L.length - (i + 1))
            case measure => have := HI.out; have := HLT.out; omega
            case rel => exact ⟨i + 1, _, A7, c7, by rw [HGL.out], by go_num, ⟨by have := HLT.out; omega, rfl, by rw [HGL.out, HI.out.2.2]⟩, K1, K2, K3⟩
    · have hltI : ¬ (i : Int) < (L.length : Int) := by omega
      have hGL : G.length = L.length := by have := HI.out; omega
      have HGL := Aside0.mk hGL
      clear hGL
      go_wp2_with fail
      go_ret
      exact ⟨_, rfl, G, HGL.out, HBr.out, HG.out, HO.out⟩
/-! ### Are all marked? -/
theorem mkd_ok (ls : List (List (S38))) (M : Nat) (hl : ls.length ≤ 250) (hM : M ≤ 100000) (hm : ∀ (j : Nat) (x : List (S38)), ls[j]? = some x → x.length ≤ M ∧ x = (MK j 0 x.length).map toS) : ∀ k i, ls.length + M + 3 ≤ k + i → i ≤ ls.length → pontoonbook_markedEvents.l0 k ls (i : Int) = some true := by
  intro k
  induction k with
  | zero => intro i h1 h2; omega
  | succ k ih =>
    intro i h1 h2
    simp only [pontoonbook_markedEvents.l0]
    by_cases hlt : i < ls.length
    · have hw : wrap64 ((i : Int) + 1) = ((i + 1 : Nat) : Int) := by unfold wrap64; omega
      have hg : ls[i]? = some ls[i] := List.getElem?_eq_getElem hlt
      obtain ⟨h3, h4⟩ := hm i _ hg
      have hrd : rd_L3 ls (i : Int) = ls[i] := by
        show ls.getD (i : Int).toNat [] = _
        rw [Int.toNat_natCast, List.getD_eq_getElem?_getD, hg, Option.getD_some]
      have hmk := mark_f i 0 ls[i].length (by omega) k (by omega)
      rw [if_pos (by omega), if_pos (by omega), hrd]
      have hz : ((0 : Nat) : Int) = 0 := rfl
      rw [hz] at hmk
      rw [hmk, Option.bind_some, ← h4, same_f _ (by omega) k (by omega), Option.bind_some, if_pos rfl, hw]
      exact ih (i + 1) (by omega) (by omega)
    · rw [if_neg (by omega)]
theorem C_rows {B : Nat} {v : Value} (hr : w.ownsRow B 24 1 v L.length (L.map Prod.fst)) (hx : ∀ p ∈ L, Own w 0 p.1 p.2 ∧ p.2.length ≤ 2000) (hn : L.length ≤ 250) : ∃ A c, v = .slice A L.length c ∧ L.length ≤ c ∧ Kd.C (Kd.slice 38 k38) w A (L.map (fun p => p.2.map toS)).length (L.map (fun p => p.2.map toS)) := by
  have hlen : (L.map (fun p => p.2.map toS)).length = L.length := by simp
  rcases row_form hr with ⟨rfl, h2, _⟩ | ⟨b, c, rfl, h3, _, _, _, h7, _⟩
  · exact ⟨none, 0, by rw [h2], by omega, rfl, by omega, fun h => by omega⟩
  · refine ⟨_, c, rfl, h3, rfl, by omega, fun _ => ⟨_, rfl, fun j x hj => ?_⟩⟩
    rw [List.getElem?_map] at hj
    cases hq : L[j]? with
    | none => rw [hq] at hj; cases hj
    | some p =>
      rw [hq] at hj
      injection hj with hj
      subst hj
      obtain ⟨A, n, h4, h5, h6, _⟩ := (hx p (List.mem_of_getElem? hq)).1.src
      refine ⟨[p.1], rfl, ⟨A, n, by rw [h4, List.length_map], by rw [List.length_map]; exact h5, C_of h6 (by have := (hx p (List.mem_of_getElem? hq)).2; omega)⟩, fun i u hu => ?_⟩
      match i, hu with
      | 0, hu =>
        injection hu with hu
        subst hu
        have e : (⟨b, 0, none⟩ : Addr).add (j * 1 + 0) = ⟨b, j, none⟩ := by rw [Nat.mul_one, Nat.add_zero, add0]
        show w.cell? ((⟨b, 0, none⟩ : Addr).add (j * 1 + 0)) = _
        rw [e]
        exact h7 j _ (by rw [List.getElem?_map, hq]; rfl)
theorem marked_calls {B : Nat} (v : Value) (w : World) (hr : w.ownsRow B 24 1 v L.length (L.map Prod.fst)) (hx : ∀ p ∈ L, Own w 0 p.1 p.2 ∧ p.2.length ≤ 2000) (hm : Mkd L) (hn : L.length ≤ 250) :
    Calls Try.prog 97 #[v] w fun r w' => r = .returned (.bool true) ∧ Below w.heap.size w w' := by
  obtain ⟨A, c, rfl, hc, hC⟩ := C_rows hr hx hn
  have h := pontoonbook_markedEvents.calls (250 + 2000 + 3) A c (L.map (fun p => p.2.map toS)) true w hC (by simpa using hc) (mkd_ok _ 2000 (by simpa using hn) (by decide) (fun j x hj => by
    rw [List.getElem?_map] at hj
    cases hq : L[j]? with
    | none => rw [hq] at hj; cases hj
    | some p =>
      rw [hq] at hj
      injection hj with hj
      subst hj
      refine ⟨by rw [List.length_map]; exact (hx p (List.mem_of_getElem? hq)).2, ?_⟩
      rw [List.length_map]
      show List.map toS p.2 = _
      conv => lhs; rw [hm j p hq]) _ 0 (by simp; omega) (by omega))
  rw [List.length_map] at h
  exact h
end
end Go.Proofs.Ytjjjinpmflghmaa.BookEv
