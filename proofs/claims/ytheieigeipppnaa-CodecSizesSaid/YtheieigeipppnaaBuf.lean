/- A row of bytes of the call's own, with or without the mark of a conversion: append, a store, a string of it. Conditions: those in each theorem. -/
import Derived.Test.YtheieigeipppnaaObj
namespace Go.Proofs.Ytheieigeipppnaa.Obj
open Go.RowKit Go.Proofs.YtheieigeipppnaaW.PrintWords Go.Proofs.YtheieigeipppnaaW.PrintMore

/-- xs stand in a row of the call's own with room for cap. -/
def IsBuf (B : Nat) (w : World) (g cap : Nat) (xs : List Int) : Prop :=
  ∃ cur fr, w.heap[g]? = some (.cells cur 5 fr) ∧ B ≤ g ∧ xs.length ≤ cap ∧ cap ≤ maxLen ∧ cur.size = cap ∧ (fr = (0, 0) ∨ cap ≤ fr.1) ∧ cur.toList.take xs.length = nums .u8 xs
theorem IsBuf.lt {B g cap : Nat} {w : World} {xs : List Int} (h : IsBuf B w g cap xs) : g < w.heap.size := by obtain ⟨cur, fr, hh, _⟩ := h; exact blk_lt hh
theorem IsBuf.base {B g cap : Nat} {w : World} {xs : List Int} (h : IsBuf B w g cap xs) : B ≤ g := by obtain ⟨cur, fr, _, hh, _⟩ := h; exact hh
theorem IsBuf.same {B g cap : Nat} {w w' : World} {xs : List Int} (h : IsBuf B w g cap xs) (e : w'.heap[g]? = w.heap[g]?) : IsBuf B w' g cap xs := by
  obtain ⟨cur, fr, hh, r⟩ := h
  exact ⟨cur, fr, e.trans hh, r⟩
theorem IsBuf.below {B g cap : Nat} {w w' : World} {xs : List Int} (h : IsBuf B w g cap xs) (hb : Below w.heap.size w w') : IsBuf B w' g cap xs := h.same (hb.block g h.lt)
theorem IsBuf.cell_at {B g cap : Nat} {w : World} {xs : List Int} (h : IsBuf B w g cap xs) (i : Nat) (x : Int) (hi : xs[i]? = some x) : w.cell? ⟨g, i, none⟩ = some (.int .u8 x) := by
  obtain ⟨cur, fr, hh, _, hl, _, hs, _, ht⟩ := h
  have hlt : i < xs.length := (List.getElem?_eq_some_iff.1 hi).1
  have h1 : (cur.toList.take xs.length)[i]? = some (.int .u8 x) := by rw [ht]; simp [nums, hi]
  rw [List.getElem?_take, if_pos hlt] at h1
  exact (cell_of_row w g i cur 5 fr hh).trans (by simpa using h1)
theorem IsBuf.room {B g cap : Nat} {w : World} {xs : List Int} (h : IsBuf B w g cap xs) (i : Nat) (hi : i < cap) : (w.cell? ⟨g, i, none⟩).isSome = true ∧ w.frozen? ⟨g, i, none⟩ = false := by
  obtain ⟨cur, fr, hh, _, hl, _, hs, hf, ht⟩ := h
  constructor
  · rw [cell_of_row w g i cur 5 fr hh]; simp [hs, hi]
  · rcases hf with rfl | hf
    · simp [World.frozen?, hh]
    · simp [World.frozen?, hh]
      omega
theorem IsBuf.set {B g cap : Nat} {w : World} {xs : List Int} (h : IsBuf B w g cap xs) (i : Nat) (y : Int) : IsBuf B (w.setCell ⟨g, i, none⟩ (.int .u8 y)) g cap (xs.set i y) := by
  obtain ⟨cur, fr, hh, hb, hl, hm, hs, hf, ht⟩ := h
  refine ⟨cur.setIfInBounds i (.int .u8 y), fr, ?_, hb, by simpa using hl, hm, by simpa using hs, hf, ?_⟩
  · simp [World.setCell, Array.getElem?_modify, hh]
  · rw [Array.toList_setIfInBounds, List.length_set, List.take_set, ht]
    simp [nums, List.map_set]
theorem IsBuf.put {B g cap : Nat} {w : World} {xs : List Int} (h : IsBuf B w g cap xs) (y : Int) (hi : xs.length < cap) : IsBuf B (w.setCell ⟨g, xs.length, none⟩ (.int .u8 y)) g cap (xs ++ [y]) := by
  obtain ⟨cur, fr, hh, hb, hl, hm, hs, hf, ht⟩ := h
  refine ⟨cur.setIfInBounds xs.length (.int .u8 y), fr, ?_, hb, by simp; omega, hm, by simpa using hs, hf, ?_⟩
  · simp [World.setCell, Array.getElem?_modify, hh]
  · rw [Array.toList_setIfInBounds, List.length_append, List.length_singleton, List.take_set]
    have hc : xs.length < cur.toList.length := by simpa [hs] using hi
    rw [List.take_succ_eq_append_getElem hc, ht]
    apply List.ext_getElem?
    intro i
    simp only [nums, List.map_append, List.map_cons, List.map_nil]
    by_cases h1 : i < xs.length
    · rw [List.getElem?_set_ne (by omega), List.getElem?_append_left (by simpa using h1), List.getElem?_append_left (by simpa using h1)]
    · by_cases h2 : i = xs.length
      · subst h2
        rw [List.getElem?_set_self (by simp)]
        simp
      · rw [List.getElem?_eq_none (by simp; omega), List.getElem?_eq_none (by simp; omega)]
theorem IsBuf.ofBytes (B : Nat) (w : World) (s : ByteArray) (hB : B ≤ w.heap.size) (hs : s.size ≤ maxLen) : IsBuf B (Lib.bytesWorld w 5 s) w.heap.size (grownCap w s.size 0 5) (bytesOf s) := by
  have hge := grownCap_ge w s.size 0 5
  have hcs : (Lib.bytesCells w 5 s).size = grownCap w s.size 0 5 := by
    have : s.data.size = s.size := rfl
    simp [Lib.bytesCells, this]
    omega
  refine ⟨_, _, Lib.bytesWorld_at_new w 5 s, hB, by rw [bytesOf_length]; omega, grownCap_le_maxLen w s.size 0 5 hs, hcs, .inr (by rw [hcs]; exact Nat.le_refl _), ?_⟩
  have hl : (s.data.map fun b => Value.int .u8 (b.toNat : Int)).toList = nums .u8 (bytesOf s) := by simp [nums, bytesOf]
  rw [bytesOf_length]
  unfold Lib.bytesCells
  rw [Array.toList_append, hl, List.take_left' (by simp [nums, bytesOf_length])]
theorem IsBuf.ofOwn {B g cap n : Nat} {w : World} {xs : List Int} (h : w.ownsRow B 5 1 (.slice (some ⟨g, 0, none⟩) n cap) n (nums .u8 xs)) : IsBuf B w g cap xs := by
  obtain ⟨h1, h2⟩ := h
  have hn : xs.length = n := by simpa [nums] using h1
  rcases h2 with ⟨h2, _⟩ | ⟨g', cap', cur, hv, hb, hh, hl, hm, hs, ht⟩
  · cases h2
  · injection hv with ha _ hc
    injection ha with ha
    injection ha with ha
    subst ha
    subst hc
    subst hn
    exact ⟨cur, (0, 0), hh, hb, hl, hm, by simpa using hs, .inl rfl, by simpa using ht⟩
theorem IsBuf.string_of {B g cap : Nat} {w : World} {xs : List Int} (h : IsBuf B w g cap xs) {P : Program} {src dst : TypeId} (hs : P.underlying src = some (.slice 5)) (he : P.underlying 5 = some (.int .u8)) (hd : P.underlying dst = some .string) :
    (convert src dst (.slice (some ⟨g, 0, none⟩) xs.length cap)).run P w = .ok (.string (strOfNums xs)) w := by
  refine run_convert_bytes_arg w src 5 hs he g 0 xs.length cap xs rfl (fun i hi => ?_) dst hd
  have := h.cell_at i (xs.getD i 0) (by simp [List.getD_eq_getElem?_getD, hi])
  simpa using this
section
variable {P : Program} {ops : Array Oper} {rest : List Oper} {o : Oper} {a : Act} {Q : Exit → Act → World → Prop}
/-- 'append(b, y)'. -/
theorem buf_append {W : World} {B g cap : Nat} {xs : List Int} (hgd : o.guard = none) (s x : Operand) (ho : o.op = .call { callee := .builtin .append, args := #[s, x], argTypes := #[30, 30] })
    (ht : P.underlying 30 = some (.slice 5)) (hinfo : (P.info? 5).map (fun i => (i.zero, i.size, i.bytes)) = some (some (.int .u8 0), 1, 1)) (y : Int)
    (hs : a.eval s = .slice (some ⟨g, 0, none⟩) xs.length cap) (hx : a.eval x = .slice (some ⟨W.heap.size, 0, none⟩) 1 1)
    (hb : IsBuf B W g cap xs) (hB : B ≤ W.heap.size) (hl : xs.length + 1 ≤ 140737488355328)
    (h : ∀ g1 c1 w1, IsBuf B w1 g1 c1 (xs ++ [y]) → Below B W w1 → W.heap.size ≤ w1.heap.size → wpList P ops Q rest (a.put o.dst (.slice (some ⟨g1, 0, none⟩) (xs ++ [y]).length c1)) w1) :
    wpList P ops Q (o :: rest) a (W.alloc (.cells #[.int .u8 y] 5)) := by
  obtain ⟨i0, hi, hzz⟩ := Option.map_eq_some_iff.1 hinfo
  simp only [Prod.mk.injEq] at hzz
  obtain ⟨hz0, hz1, hz2⟩ := hzz
  have hb' : IsBuf B (W.alloc (.cells #[.int .u8 y] 5)) g cap xs := hb.below (below_alloc (Below.refl _ _) _)
  have hbase := hb.base
  refine wpList_append_arg (W.alloc (.cells #[.int .u8 y] 5)) hgd s x 30 ho 5 i0 (.int .u8 0) 1 1 ht hi hz0 hz1 hz2 rfl (by decide) g 0 xs.length cap (nums .u8 xs) hs (by simp [nums]) ?_ ⟨W.heap.size, 0, none⟩ 1 1 [.int .u8 y] hx rfl ?_ ?_ ?_ (by simp only [maxLen]; omega) (by omega) ?_ ?_
  · intro j u hj
    simp only [nums, List.getElem?_map, Option.map_eq_some_iff] at hj
    obtain ⟨x, hx, rfl⟩ := hj
    rw [Nat.zero_add]
    exact hb'.cell_at j x hx
  · intro j u hj
    match j, hj with
    | 0, hj =>
      simp at hj
      subst hj
      rw [add_plain]
      simp
  · intro u hu
    simp at hu
    subst hu
    rfl
  · intro hr j hj
    have : j = 0 := by simpa using hj
    subst this
    have := hb'.room xs.length (by omega)
    simpa using this
  · intro hr
    have hp := hb'.put y (by omega)
    have he : (W.alloc (.cells #[.int .u8 y] 5)).setCells g (0 + xs.length * 1) [.int .u8 y] = (W.alloc (.cells #[.int .u8 y] 5)).setCell ⟨g, xs.length, none⟩ (.int .u8 y) := by
      simp [World.setCells]
    rw [he]
    have hk := h g cap _ hp (by
      have h1 : Below B W (W.alloc (.cells #[.int .u8 y] 5)) := (below_alloc (Below.refl _ _) _).mono hB
      exact h1.setCell hbase _) (by simp)
    simpa using hk
  · intro hr v' w' hown hg
    obtain ⟨g1, c1, rfl, hg1, _⟩ := hown.form (by omega)
    have hn : nums .u8 xs ++ [Value.int .u8 y] = nums .u8 (xs ++ [y]) := by simp [nums]
    rw [hn] at hown
    have hbuf : IsBuf B w' g1 c1 (xs ++ [y]) := by
      have h0 := IsBuf.ofOwn (own_less hown (base := B) (by simp; omega))
      exact h0
    have hk := h g1 c1 w' hbuf (((below_alloc (Below.refl _ _) _).mono hB).grown hg (by simp; omega) (by intro k hk; cases hk)) (by have := hg.size; simp at this; omega)
    simpa using hk
end
end Go.Proofs.Ytheieigeipppnaa.Obj
