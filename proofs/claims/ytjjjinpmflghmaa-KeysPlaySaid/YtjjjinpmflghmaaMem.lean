/- Words about memory: blocks known whole, what has turned, rows of elements of several cells. Conditions: those in each theorem. -/
import Derived.Test.YtjjjinpmflghmaaProg
import Derived.Below
import Derived.Deep.Draws
import Derived.Maps.AppendAt
import Derived.OwnWalk
import Derived.Laws.CopyRow
import Derived.Laws.Tables
import Derived.Laws.Rows
import Derived.Laws.OwnMore
import Derived.Laws.MakeOwn
import Derived.WalkKit
import Derived.KernelRfl
namespace Go.Proofs.Ytjjjinpmflghmaa.Mem
open Go.RowKit

/-- Of the blocks that were, only those of gs have turned. -/
structure Only (gs : List Nat) (w w' : World) : Prop where
  os : w'.os = w.os
  tape : w'.tape = w.tape
  output : w'.output = w.output
  size : w.heap.size ≤ w'.heap.size
  block : ∀ i, i < w.heap.size → i ∉ gs → w'.heap[i]? = w.heap[i]?

section
variable {gs : List Nat} {w w' : World}
theorem Only.refl (gs : List Nat) (w : World) : Only gs w w := ⟨rfl, rfl, rfl, Nat.le_refl _, fun _ _ _ => rfl⟩
theorem Only.trans {a b c : World} (h : Only gs a b) (k : Only gs b c) : Only gs a c :=
  ⟨k.os.trans h.os, k.tape.trans h.tape, k.output.trans h.output, Nat.le_trans h.size k.size, fun i hi hn => (k.block i (Nat.lt_of_lt_of_le hi h.size) hn).trans (h.block i hi hn)⟩
theorem Only.mono {hs : List Nat} (h : Only gs w w') (hg : ∀ g ∈ gs, g ∈ hs) : Only hs w w' := ⟨h.os, h.tape, h.output, h.size, fun i hi hn => h.block i hi (fun he => hn (hg i he))⟩
/-- Blocks that were not yet need not be told. -/
theorem Only.new {hs : List Nat} (h : Only hs w w') (hg : ∀ g ∈ hs, g ∈ gs ∨ w.heap.size ≤ g) : Only gs w w' :=
  ⟨h.os, h.tape, h.output, h.size, fun i hi hn => h.block i hi (fun he => by
    rcases hg i he with h1 | h1
    · exact hn h1
    · omega)⟩
theorem Only.drewN (h : Only gs w w') (n : Nat) : Only gs w (w'.drewN n) := ⟨h.os, h.tape, h.output, h.size, h.block⟩
theorem Only.drew (h : Only gs w w') : Only gs w w'.drew := ⟨h.os, h.tape, h.output, h.size, h.block⟩
theorem Only.of_below (gs : List Nat) (h : Below w.heap.size w w') : Only gs w w' := ⟨h.os, h.tape, h.output, h.size, fun i hi _ => h.block i hi⟩
theorem Only.below (h : Only gs w w') {w'' : World} (hb : Below w'.heap.size w' w'') : Only gs w w'' := h.trans (Only.of_below gs hb)
theorem Only.alloc (h : Only gs w w') (o : Obj) : Only gs w (w'.alloc o) := h.trans (Only.of_below gs ((Below.refl _ _).alloc (Nat.le_refl _) o))
theorem Only.setRow (h : Only gs w w') (g : Nat) (cs : Array Value) (hg : g ∈ gs ∨ w.heap.size ≤ g) : Only gs w (w'.setRow g cs) :=
  ⟨h.os, h.tape, h.output, by simpa using h.size, fun i hi hn => (setRow_other w' g i cs (fun e => by
    subst e
    rcases hg with hg | hg
    · exact hn hg
    · omega)).trans (h.block i hi hn)⟩
theorem Only.setCell (h : Only gs w w') (p : Addr) (v : Value) (hg : p.block ∈ gs ∨ w.heap.size ≤ p.block) : Only gs w (w'.setCell p v) :=
  ⟨h.os, h.tape, h.output, by simpa using h.size, fun i hi hn => (Below.heap_setCell w' p v i (fun e => by
    subst e
    rcases hg with hg | hg
    · exact hn hg
    · omega)).trans (h.block i hi hn)⟩
theorem Only.toBelow {B : Nat} (h : Only gs w w') (hB : B ≤ w.heap.size) (hg : ∀ g ∈ gs, B ≤ g) : Below B w w' :=
  ⟨h.os, h.tape, h.output, h.size, fun i hi => h.block i (by omega) (fun he => by have := hg i he; omega)⟩
theorem Only.belowOf {B : Nat} {w0 : World} (h : Only gs w w') (hb : Below B w0 w) (hB : B ≤ w.heap.size) (hg : ∀ g ∈ gs, B ≤ g) : Below B w0 w' :=
  ⟨h.os.trans hb.os, h.tape.trans hb.tape, h.output.trans hb.output, Nat.le_trans hb.size h.size, fun i hi => (h.block i (by omega) (fun he => by have := hg i he; omega)).trans (hb.block i hi)⟩
theorem Only.cell (h : Only gs w w') {p : Addr} {v : Value} (hc : w.cell? p = some v) (hn : p.block ∉ gs) : w'.cell? p = some v :=
  (World.cell?_of_block (h.block p.block (World.block_lt_of_cell? w p hc) hn)).trans hc
end

/-- Block g is just these cells of elements of type t. -/
def Blk (w : World) (g : Nat) (t : TypeId) (cs : Array Value) : Prop := w.heap[g]? = some (.cells cs t (0, 0))
section
variable {w w' : World} {g : Nat} {t : TypeId} {cs : Array Value}
theorem Blk.lt (h : Blk w g t cs) : g < w.heap.size := by
  rcases Nat.lt_or_ge g w.heap.size with hlt | hge
  · exact hlt
  · unfold Blk at h; rw [Array.getElem?_eq_none hge] at h; cases h
theorem Blk.cell (h : Blk w g t cs) (i : Nat) : w.cell? ⟨g, i, none⟩ = cs[i]? := cell_of_row w g i cs t (0, 0) h
theorem Blk.frozen (h : Blk w g t cs) (i : Nat) : w.frozen? ⟨g, i, none⟩ = false := by
  unfold Blk at h
  simp [World.frozen?, h]
theorem Blk.new (w : World) (t : TypeId) (cs : Array Value) : Blk (w.alloc (.cells cs t)) w.heap.size t cs := by
  unfold Blk World.alloc
  simp
theorem Blk.drew (h : Blk w g t cs) : Blk w.drew g t cs := h
theorem Blk.drewN (h : Blk w g t cs) (n : Nat) : Blk (w.drewN n) g t cs := h
theorem Blk.alloc (h : Blk w g t cs) (o : Obj) : Blk (w.alloc o) g t cs := (Below.heap_alloc w o g h.lt).trans h
theorem Blk.set_ (h : Blk w g t cs) (i : Nat) (u : Value) : Blk (w.setCell ⟨g, i, none⟩ u) g t (cs.setIfInBounds i u) := by
  unfold Blk at h ⊢
  simp [World.setCell, Array.getElem?_modify, h]
theorem Blk.row (h : Blk w g t cs) (cs' : Array Value) : Blk (w.setRow g cs') g t cs' := setRow_heap w g cs cs' t (0, 0) h
theorem Blk.far (h : Blk w g t cs) {p : Addr} (hp : g ≠ p.block) (u : Value) : Blk (w.setCell p u) g t cs := (Below.heap_setCell w p u g hp).trans h
theorem Blk.farRow (h : Blk w g t cs) {b : Nat} (hp : g ≠ b) (cs' : Array Value) : Blk (w.setRow b cs') g t cs := (setRow_other w b g cs' hp).trans h
theorem Blk.below {B : Nat} (h : Blk w g t cs) (hb : Below B w w') (hg : g < B) : Blk w' g t cs := (hb.block g hg).trans h
theorem Blk.below' (h : Blk w g t cs) (hb : Below w.heap.size w w') : Blk w' g t cs := (hb.block g h.lt).trans h
theorem Blk.only {gs : List Nat} (h : Blk w g t cs) (ho : Only gs w w') (hg : g ∉ gs) : Blk w' g t cs := (ho.block g h.lt hg).trans h
theorem Blk.ne_ {g' : Nat} {t' : TypeId} {cs' : Array Value} (h : Blk w g t cs) (h' : Blk w g' t' cs') (hne : t ≠ t') : g ≠ g' := by
  rintro rfl
  unfold Blk at h h'
  rw [h] at h'
  injection h' with h'
  injection h' with _ ht
  exact hne ht
end

/-! ### Rows of elements of s cells each -/
section
variable {α : Type} {f : α → List Value} {s : Nat}
theorem fl_length (hf : ∀ x, (f x).length = s) (l : List α) : (l.flatMap f).length = l.length * s := by
  induction l with
  | nil => simp
  | cons x l ih => rw [List.flatMap_cons, List.length_append, ih, hf, List.length_cons, Nat.succ_mul]; omega
theorem fl_take (hf : ∀ x, (f x).length = s) : ∀ (k : Nat) (l : List α), (l.flatMap f).take (k * s) = (l.take k).flatMap f
  | 0, l => by simp
  | k + 1, [] => by simp
  | k + 1, x :: l => by
    rw [List.flatMap_cons, List.take_succ_cons, List.flatMap_cons, ← fl_take hf k l, List.take_append, hf, Nat.succ_mul, Nat.add_sub_cancel, List.take_of_length_le (by rw [hf]; omega)]
theorem fl_drop (hf : ∀ x, (f x).length = s) : ∀ (k : Nat) (l : List α), (l.flatMap f).drop (k * s) = (l.drop k).flatMap f
  | 0, l => by simp
  | k + 1, [] => by simp
  | k + 1, x :: l => by
    rw [List.flatMap_cons, List.drop_succ_cons, ← fl_drop hf k l, List.drop_append, hf, Nat.succ_mul, Nat.add_sub_cancel, List.drop_of_length_le (by rw [hf]; omega), List.nil_append]
theorem fl_at (hf : ∀ x, (f x).length = s) {l : List α} {i : Nat} {x : α} (hi : l[i]? = some x) {j : Nat} (hj : j < s) : (l.flatMap f)[i * s + j]? = (f x)[j]? := by
  rw [← List.getElem?_drop, fl_drop hf]
  obtain ⟨hl, rfl⟩ := List.getElem?_eq_some_iff.1 hi
  rw [List.drop_eq_getElem_cons hl, List.flatMap_cons, List.getElem?_append_left (by rw [hf]; exact hj)]
theorem fl_seg (hf : ∀ x, (f x).length = s) (l : List α) (rest : List Value) (k m : Nat) (h : k + m ≤ l.length) (j : Nat) (v : Value) (hv : (((l.drop k).take m).flatMap f)[j]? = some v) : (l.flatMap f ++ rest)[k * s + j]? = some v := by
  have hj : j < (((l.drop k).take m).flatMap f).length := (List.getElem?_eq_some_iff.1 hv).1
  have hj2 : j < m * s := by
    rw [fl_length hf] at hj
    have : ((l.drop k).take m).length ≤ m := by simp; omega
    exact Nat.lt_of_lt_of_le hj (Nat.mul_le_mul_right s this)
  have hks : k * s + j < (l.flatMap f).length := by
    rw [fl_length hf]
    have := Nat.mul_le_mul_right s h
    rw [Nat.add_mul] at this
    omega
  rw [List.getElem?_append_left hks, ← List.getElem?_drop, fl_drop hf]
  rw [← fl_take hf, List.getElem?_take] at hv
  rwa [if_pos hj2] at hv
/-- Some elements in the midst are others now. -/
def put (l : List α) (k : Nat) (news : List α) : List α := l.take k ++ news ++ l.drop (k + news.length)
theorem put_length (l : List α) (k : Nat) (news : List α) (h : k + news.length ≤ l.length) : (put l k news).length = l.length := by
  simp [put]; omega
theorem fl_put (hf : ∀ x, (f x).length = s) (l : List α) (rest : List Value) (k : Nat) (news : List α) (h : k + news.length ≤ l.length) :
    (l.flatMap f ++ rest).take (k * s) ++ news.flatMap f ++ (l.flatMap f ++ rest).drop (k * s + (news.flatMap f).length) = (put l k news).flatMap f ++ rest := by
  have h1 : k * s ≤ (l.flatMap f).length := by rw [fl_length hf]; exact Nat.mul_le_mul_right s (by omega)
  have h2 : k * s + (news.flatMap f).length = (k + news.length) * s := by rw [fl_length hf, Nat.add_mul]
  have h3 : (k + news.length) * s ≤ (l.flatMap f).length := by rw [fl_length hf]; exact Nat.mul_le_mul_right s h
  rw [h2, List.take_append_of_le_length h1, List.drop_append_of_le_length h3, fl_take hf, fl_drop hf]
  simp [put, List.flatMap_append, List.append_assoc]
end

/-! ### Stores, loads, copies -/
section
variable (P : Program)
theorem run_storeVar_at (w : World) (g o : Nat) (t ty : TypeId) (cur cells : Array Value) (hg : Blk w g t cur) (hi : (P.info? ty).map (·.size) = some cells.size)
    (ho : o + cells.size ≤ cur.size) (h1 : ∀ v ∈ cells.toList, v.oneCell' = true) :
    (storeVar ty ⟨g, o, none⟩ (.agg cells)).run P w = .ok () (w.setRow g (cur.toList.take o ++ cells.toList ++ cur.toList.drop (o + cells.toList.length)).toArray) := by
  have := run_storeCells_at (P := P) g o t cells.toList 0 cur w hg (by simp; omega) h1
  cases hq : P.info? ty with
  | none => simp [hq] at hi
  | some i =>
    have hs : cells.size = i.size := by simp [hq] at hi; omega
    simp [storeVar, sizeOf, typeInfo, hq, Value.cells, hs, this]
theorem wpList_store_at {ops : Array Oper} {rest : List Oper} {o : Oper} {a : Act} {w : World} {Q : Exit → Act → World → Prop} (hgd : o.guard = none) (ty : TypeId) (x y : Operand) (ho : o.op = .store ty x y)
    (g off : Nat) (cells : Array Value) (hx : a.eval x = .pointer (some ⟨g, off, none⟩)) (hy : a.eval y = .agg cells)
    (t : TypeId) (cur : Array Value) (hg : Blk w g t cur) (hi : (P.info? ty).map (·.size) = some cells.size)
    (hof : off + cells.size ≤ cur.size) (h1 : ∀ v ∈ cells.toList, v.oneCell' = true)
    (h : wpList P ops Q rest (a.put o.dst undef) (w.setRow g (cur.toList.take off ++ cells.toList ++ cur.toList.drop (off + cells.toList.length)).toArray)) : wpList P ops Q (o :: rest) a w :=
  wpList_plain hgd fun _ hK => by
    unfold Oper.wp execOp
    simp only [ho, hx, hy, Instr.storeAt, Instr.sureAddr, Sem.run_bind, Sem.run_pure, Result.andThen_ok, run_storeVar_at P w g off t ty cur cells hg hi hof h1]
    exact hK _ _ h
theorem run_copy_rowN (w : World) (dT sT ty elem : TypeId) (g o dLen dCap : Nat) (a : Addr) (sLen sCap : Nat) (cur : Array Value) (t : TypeId) (cs : List Value) (sz : Nat)
    (hu : P.underlying dT = some (.slice elem)) (hs : (P.info? elem).map (·.size) = some sz)
    (hg : Blk w g t cur) (hn : cs.length = Nat.min sLen dLen * sz)
    (hsrc : ∀ j v, cs[j]? = some v → w.cell? (a.add j) = some v) (hfit : o + cs.length ≤ cur.size) (h1 : ∀ v ∈ cs, v.oneCell' = true) :
    (Builtin.copy_ #[dT, sT] ty #[.slice (some ⟨g, o, none⟩) dLen dCap, .slice (some a) sLen sCap]).run P w =
      .ok (goInt (Nat.min sLen dLen)) (w.setRow g (cur.toList.take o ++ cs ++ cur.toList.drop (o + cs.length)).toArray) := by
  have hl := run_loadCells_list (P := P) w a cs hsrc
  have hst := run_storeCells_at P g o t cs 0 cur w hg (by simpa using hfit) h1
  cases hq : P.info? elem with
  | none => simp [hq] at hs
  | some i =>
    have hi : i.size = sz := by simpa [hq] using hs
    rw [hn] at hl
    simp [Builtin.copy_, run_underlying hu, Builtin.lenOf, Builtin.firstCells, sizeOf, typeInfo, hq, hi, hl, hst]
theorem run_copy_zero (w : World) (dT sT ty elem : TypeId) (d a : Option Addr) (dLen dCap sLen sCap sz : Nat) (hu : P.underlying dT = some (.slice elem)) (hs : (P.info? elem).map (·.size) = some sz) (hn : Nat.min sLen dLen = 0) :
    (Builtin.copy_ #[dT, sT] ty #[.slice d dLen dCap, .slice a sLen sCap]).run P w = .ok (goInt 0) w := by
  cases hq : P.info? elem with
  | none => simp [hq] at hs
  | some i =>
    have hl : ∀ x : Addr, (loadCells x 0).run P w = .ok #[] w := fun x => run_loadCells_list (P := P) w x [] (fun j v h => by simp at h)
    cases d <;> cases a <;> simp [Builtin.copy_, run_underlying hu, Builtin.lenOf, Builtin.firstCells, sizeOf, typeInfo, hq, hn, storeCells, hl]
theorem wpList_copy_of {w w' : World} {v : Value} {ops : Array Oper} {rest : List Oper} {o : Oper} {a : Act} {Q : Exit → Act → World → Prop} (hgd : o.guard = none) (d s : Operand) (dT sT : TypeId) (x y : Value)
    (ho : o.op = .call { callee := .builtin .copy, args := #[d, s], argTypes := #[dT, sT] }) (hd : a.eval d = x) (hs : a.eval s = y)
    (hr : (Builtin.copy_ #[dT, sT] o.type #[x, y]).run P w = .ok v w')
    (h : wpList P ops Q rest (a.put o.dst v) w') : wpList P ops Q (o :: rest) a w :=
  wpList_plain hgd fun _ hK => by
    unfold Oper.wp execOp
    simp only [ho, resolve, invoke, builtin, Sem.run_bind, Sem.run_pure, Result.andThen_ok, List.map_toArray, List.map_cons, List.map_nil, hd, hs, hr]
    exact hK _ _ h
end
end Go.Proofs.Ytjjjinpmflghmaa.Mem
