/- Obj, Mem, Row, in one text. Conditions: those in each theorem. -/
import Derived.Test.YtjjjinpmflghmaaProg
import Derived.Below
import Derived.Deep.Draws
import Derived.Deep.AppendLies
import Derived.Maps.AppendAt
import Derived.OwnWalk
import Derived.Laws.BytesArg
import Derived.Laws.MakeOwn
import Derived.Laws.OwnMore
import Derived.Deep.OwnRows
import Derived.Tactics
import Derived.Lib.ConvBytes
import Derived.Laws.Slices
import Derived.WalkKit
import Derived.KernelRfl
import Derived.RowKit3
import Derived.Deep.LoopGhost
import Derived.Deep.QuietTactic
import Derived.BigQuiet
import Derived.WideLaws
import Derived.Deep.DeepCutAuto
import Derived.Deep.CutBlock
import Derived.Deep.RegionHeld3
import Derived.Laws.Rows
import Derived.Lib.AppendStr
import Derived.ArgAppend
import Derived.Laws.IdiomCopy
import Derived.OrdersHeld
import Derived.Laws.BitsLemmas
import Derived.RowKit
import Derived.Outline
import Derived.Lib.Hide
import Derived.Test.YtjjjinpmflghmaaWWords
import Derived.Test.YtjjjinpmflghmaaWMore
import Derived.Laws.CopyRow
import Derived.Laws.Tables
namespace Go.Proofs.Ytjjjinpmflghmaa.Obj
open Go.RowKit Go.Proofs.YtjjjinpmflghmaaW.PrintWords Go.Proofs.YtjjjinpmflghmaaW.PrintMore

/-- What an object's call leaves as it was: all but block g, and but the rows of bytes from block B on. -/
structure Fr (B g : Nat) (w w' : World) : Prop where
  os : w'.os = w.os
  tape : w'.tape = w.tape
  output : w'.output = w.output
  size : w.heap.size ≤ w'.heap.size
  low : ∀ i, i < w.heap.size → i < B → i ≠ g → w'.heap[i]? = w.heap[i]?
  far : ∀ i o, w.heap[i]? = some o → i ≠ g → (∀ cs fr, o ≠ .cells cs 5 fr) → w'.heap[i]? = some o

theorem Fr.refl (B g : Nat) (w : World) : Fr B g w w := ⟨rfl, rfl, rfl, Nat.le_refl _, fun _ _ _ _ => rfl, fun _ _ h _ _ => h⟩
theorem Fr.trans {B g : Nat} {a b c : World} (h : Fr B g a b) (k : Fr B g b c) : Fr B g a c :=
  ⟨k.os.trans h.os, k.tape.trans h.tape, k.output.trans h.output, Nat.le_trans h.size k.size,
   fun i hi hb hg => (k.low i (Nat.lt_of_lt_of_le hi h.size) hb hg).trans (h.low i hi hb hg),
   fun i o ho hg ht => k.far i o (h.far i o ho hg ht) hg ht⟩
theorem Fr.drewN {B g : Nat} {w w' : World} (h : Fr B g w w') (n : Nat) : Fr B g w (w'.drewN n) := ⟨h.os, h.tape, h.output, h.size, h.low, h.far⟩
theorem Fr.drew {B g : Nat} {w w' : World} (h : Fr B g w w') : Fr B g w w'.drew := ⟨h.os, h.tape, h.output, h.size, h.low, h.far⟩
theorem Fr.below {B g : Nat} {w w' : World} (h : Below w.heap.size w w') : Fr B g w w' :=
  ⟨h.os, h.tape, h.output, h.size, fun i hi _ _ => h.block i hi, fun i _ ho _ _ => (h.block i (blk_lt ho)).trans ho⟩
theorem Fr.alloc (B g : Nat) (w : World) (o : Obj) : Fr B g w (w.alloc o) := Fr.below (below_alloc (Below.refl _ _) o)
theorem Fr.set (B g : Nat) (w : World) (j : Nat) (v : Value) : Fr B g w (w.setCell ⟨g, j, none⟩ v) :=
  ⟨rfl, rfl, rfl, by simp, fun i _ _ hg => heap_setCell_other w _ i v hg, fun i o ho hg _ => (heap_setCell_other w _ i v hg).trans ho⟩
/-- A row of bytes of the call's own was appended to. -/
theorem Fr.grown {B g n : Nat} {w w' : World} {v : Value} {xs : List Value} (ho : w.ownsRow B 5 1 v n xs) (hg : w.grownBy w' v.ownBlock) : Fr B g w w' := by
  refine ⟨hg.os, hg.tape, hg.output, hg.size, fun i hi hb _ => hg.block i hi (fun he => ?_), fun i o hio _ ht => (hg.block i (blk_lt hio) (fun he => ?_)).trans hio⟩
  · have := own_base ho i he.symm
    omega
  · rcases ho.2 with ⟨hv, _⟩ | ⟨g', cap, cur, hv, _, hh, _⟩
    · rw [hv] at he; simp [Value.ownBlock] at he
    · rw [hv] at he
      simp [Value.ownBlock] at he
      subst he
      rw [hh] at hio
      injection hio with hio
      exact ht _ _ hio.symm
theorem Fr.toBelow {B g : Nat} {w w' : World} (h : Fr B g w w') (hB : B ≤ w.heap.size) (hg : B ≤ g) : Below B w w' :=
  ⟨h.os, h.tape, h.output, h.size, fun i hi => h.low i (by omega) hi (by omega)⟩
theorem Fr.keep {B g i : Nat} {w w' : World} {cs : Array Value} {t : TypeId} {fr : Nat × Nat} (h : Fr B g w w') (hi : w.heap[i]? = some (.cells cs t fr)) (hg : i ≠ g) (ht : t ≠ 5) : w'.heap[i]? = some (.cells cs t fr) :=
  h.far i _ hi hg (fun cs' fr' e => by injection e with _ e; exact ht e)

/-- A row in memory, of cells of type t, that holds vs. -/
def RowAt (w : World) (A : Option Addr) (t : TypeId) (vs : List Value) : Prop :=
  vs.length ≤ maxLen ∧ (vs = [] ∨ ∃ b off cs fr, A = some ⟨b, off, none⟩ ∧ w.heap[b]? = some (.cells cs t fr) ∧ ∀ i v, vs[i]? = some v → cs[off + i]? = some v)
theorem RowAt.frame {B g : Nat} {w w' : World} {A : Option Addr} {t : TypeId} {vs : List Value} (h : RowAt w A t vs) (hf : Fr B g w w') (ht : t ≠ 5) (hg : ∀ cs fr, w.heap[g]? ≠ some (.cells cs t fr)) : RowAt w' A t vs := by
  refine ⟨h.1, h.2.imp id ?_⟩
  rintro ⟨b, off, cs, fr, hA, hb, hc⟩
  exact ⟨b, off, cs, fr, hA, hf.keep hb (fun e => by subst e; exact hg _ _ hb) ht, hc⟩
theorem RowAt.below {w w' : World} {A : Option Addr} {t : TypeId} {vs : List Value} (h : RowAt w A t vs) (hb : Below w.heap.size w w') : RowAt w' A t vs := by
  refine ⟨h.1, h.2.imp id ?_⟩
  rintro ⟨b, off, cs, fr, hA, hbb, hc⟩
  exact ⟨b, off, cs, fr, hA, (hb.block b (blk_lt hbb)).trans hbb, hc⟩
theorem RowAt.alloc {w : World} {A : Option Addr} {t : TypeId} {vs : List Value} (h : RowAt w A t vs) (o : Obj) : RowAt (w.alloc o) A t vs := h.below (below_alloc (Below.refl _ _) o)
/-- One element of it. -/
theorem RowAt.at_ {w : World} {A : Option Addr} {t : TypeId} {vs : List Value} (h : RowAt w A t vs) (i : Nat) (v : Value) (hv : vs[i]? = some v) : ∃ b off, A = some ⟨b, off, none⟩ ∧ w.cell? ⟨b, off + i, none⟩ = some v := by
  rcases h.2 with h | ⟨b, off, cs, fr, hA, hb, hc⟩
  · rw [h] at hv; simp at hv
  · exact ⟨b, off, hA, (cell_of_row w b (off + i) cs t fr hb).trans (hc i v hv)⟩
theorem RowAt.nil (w : World) (A : Option Addr) (t : TypeId) : RowAt w A t [] := ⟨by simp, .inl rfl⟩
/-- A literal that was laid just now. -/
theorem RowAt.lit (w : World) (t : TypeId) (vs : List Value) (hm : vs.length ≤ maxLen) : RowAt (w.alloc (.cells vs.toArray t)) (some ⟨w.heap.size, 0, none⟩) t vs :=
  ⟨hm, .inr ⟨w.heap.size, 0, vs.toArray, (0, 0), rfl, heap_alloc_new w _, fun i v h => by simpa using h⟩⟩

end Go.Proofs.Ytjjjinpmflghmaa.Obj
namespace Go.Proofs.Ytjjjinpmflghmaa.Mem
open Go.RowKit

/-- Of the blocks that were, only those of gs have turned. -/
structure Only (gs : List Nat) (w w' : World) : Prop where
  os : w'.os = w.os
  tape : w'.tape = w.tape
  output : w'.output = w.output
  size : w.heap.size ≤ w'.heap.size
  block : ∀ i, i < w.heap.size → i ∉ gs → w'.heap[i]? = w.heap[i]?

section
variable {gs : List Nat} {w w' : World}
theorem Only.refl (gs : List Nat) (w : World) : Only gs w w := ⟨rfl, rfl, rfl, Nat.le_refl _, fun _ _ _ => rfl⟩
theorem Only.trans {a b c : World} (h : Only gs a b) (k : Only gs b c) : Only gs a c :=
  ⟨k.os.trans h.os, k.tape.trans h.tape, k.output.trans h.output, Nat.le_trans h.size k.size, fun i hi hn => (k.block i (Nat.lt_of_lt_of_le hi h.size) hn).trans (h.block i hi hn)⟩
theorem Only.mono {hs : List Nat} (h : Only gs w w') (hg : ∀ g ∈ gs, g ∈ hs) : Only hs w w' := ⟨h.os, h.tape, h.output, h.size, fun i hi hn => h.block i hi (fun he => hn (hg i he))⟩
/-- Blocks that were not yet need not be told. -/
theorem Only.new {hs : List Nat} (h : Only hs w w') (hg : ∀ g ∈ hs, g ∈ gs ∨ w.heap.size ≤ g) : Only gs w w' :=
  ⟨h.os, h.tape, h.output, h.size, fun i hi hn => h.block i hi (fun he => by
    rcases hg i he with h1 | h1
    · exact hn h1
    · omega)⟩
theorem Only.drewN (h : Only gs w w') (n : Nat) : Only gs w (w'.drewN n) := ⟨h.os, h.tape, h.output, h.size, h.block⟩
theorem Only.drew (h : Only gs w w') : Only gs w w'.drew := ⟨h.os, h.tape, h.output, h.size, h.block⟩
theorem Only.of_below (gs : List Nat) (h : Below w.heap.size w w') : Only gs w w' := ⟨h.os, h.tape, h.output, h.size, fun i hi _ => h.block i hi⟩
theorem Only.below (h : Only gs w w') {w'' : World} (hb : Below w'.heap.size w' w'') : Only gs w w'' := h.trans (Only.of_below gs hb)
theorem Only.alloc (h : Only gs w w') (o : Obj) : Only gs w (w'.alloc o) := h.trans (Only.of_below gs ((Below.refl _ _).alloc (Nat.le_refl _) o))
theorem Only.setRow (h : Only gs w w') (g : Nat) (cs : Array Value) (hg : g ∈ gs ∨ w.heap.size ≤ g) : Only gs w (w'.setRow g cs) :=
  ⟨h.os, h.tape, h.output, by simpa using h.size, fun i hi hn => (setRow_other w' g i cs (fun e => by
    subst e
    rcases hg with hg | hg
    · exact hn hg
    · omega)).trans (h.block i hi hn)⟩
theorem Only.setCell (h : Only gs w w') (p : Addr) (v : Value) (hg : p.block ∈ gs ∨ w.heap.size ≤ p.block) : Only gs w (w'.setCell p v) :=
  ⟨h.os, h.tape, h.output, by simpa using h.size, fun i hi hn => (Below.heap_setCell w' p v i (fun e => by
    subst e
    rcases hg with hg | hg
    · exact hn hg
    · omega)).trans (h.block i hi hn)⟩
theorem Only.toBelow {B : Nat} (h : Only gs w w') (hB : B ≤ w.heap.size) (hg : ∀ g ∈ gs, B ≤ g) : Below B w w' :=
  ⟨h.os, h.tape, h.output, h.size, fun i hi => h.block i (by omega) (fun he => by have := hg i he; omega)⟩
theorem Only.belowOf {B : Nat} {w0 : World} (h : Only gs w w') (hb : Below B w0 w) (hB : B ≤ w.heap.size) (hg : ∀ g ∈ gs, B ≤ g) : Below B w0 w' :=
  ⟨h.os.trans hb.os, h.tape.trans hb.tape, h.output.trans hb.output, Nat.le_trans hb.size h.size, fun i hi => (h.block i (by omega) (fun he => by have := hg i he; omega)).trans (hb.block i hi)⟩
theorem Only.cell (h : Only gs w w') {p : Addr} {v : Value} (hc : w.cell? p = some v) (hn : p.block ∉ gs) : w'.cell? p = some v :=
  (World.cell?_of_block (h.block p.block (World.block_lt_of_cell? w p hc) hn)).trans hc
end

/-- Block g is just these cells of elements of type t. -/
def Blk (w : World) (g : Nat) (t : TypeId) (cs : Array Value) : Prop := w.heap[g]? = some (.cells cs t (0, 0))
section
variable {w w' : World} {g : Nat} {t : TypeId} {cs : Array Value}
theorem Blk.lt (h : Blk w g t cs) : g < w.heap.size := by
  rcases Nat.lt_or_ge g w.heap.size with hlt | hge
  · exact hlt
  · unfold Blk at h; rw [Array.getElem?_eq_none hge] at h; cases h
theorem Blk.cell (h : Blk w g t cs) (i : Nat) : w.cell? ⟨g, i, none⟩ = cs[i]? := cell_of_row w g i cs t (0, 0) h
theorem Blk.frozen (h : Blk w g t cs) (i : Nat) : w.frozen? ⟨g, i, none⟩ = false := by
  unfold Blk at h
  simp [World.frozen?, h]
theorem Blk.new (w : World) (t : TypeId) (cs : Array Value) : Blk (w.alloc (.cells cs t)) w.heap.size t cs := by
  unfold Blk World.alloc
  simp
theorem Blk.drew (h : Blk w g t cs) : Blk w.drew g t cs := h
theorem Blk.drewN (h : Blk w g t cs) (n : Nat) : Blk (w.drewN n) g t cs := h
theorem Blk.alloc (h : Blk w g t cs) (o : Obj) : Blk (w.alloc o) g t cs := (Below.heap_alloc w o g h.lt).trans h
theorem Blk.set_ (h : Blk w g t cs) (i : Nat) (u : Value) : Blk (w.setCell ⟨g, i, none⟩ u) g t (cs.setIfInBounds i u) := by
  unfold Blk at h ⊢
  simp [World.setCell, Array.getElem?_modify, h]
theorem Blk.row (h : Blk w g t cs) (cs' : Array Value) : Blk (w.setRow g cs') g t cs' := setRow_heap w g cs cs' t (0, 0) h
theorem Blk.far (h : Blk w g t cs) {p : Addr} (hp : g ≠ p.block) (u : Value) : Blk (w.setCell p u) g t cs := (Below.heap_setCell w p u g hp).trans h
theorem Blk.farRow (h : Blk w g t cs) {b : Nat} (hp : g ≠ b) (cs' : Array Value) : Blk (w.setRow b cs') g t cs := (setRow_other w b g cs' hp).trans h
theorem Blk.below {B : Nat} (h : Blk w g t cs) (hb : Below B w w') (hg : g < B) : Blk w' g t cs := (hb.block g hg).trans h
theorem Blk.below' (h : Blk w g t cs) (hb : Below w.heap.size w w') : Blk w' g t cs := (hb.block g h.lt).trans h
theorem Blk.only {gs : List Nat} (h : Blk w g t cs) (ho : Only gs w w') (hg : g ∉ gs) : Blk w' g t cs := (ho.block g h.lt hg).trans h
theorem Blk.ne_ {g' : Nat} {t' : TypeId} {cs' : Array Value} (h : Blk w g t cs) (h' : Blk w g' t' cs') (hne : t ≠ t') : g ≠ g' := by
  rintro rfl
  unfold Blk at h h'
  rw [h] at h'
  injection h' with h'
  injection h' with _ ht
  exact hne ht
end

/-! ### Rows of elements of s cells each -/
section
variable {α : Type} {f : α → List Value} {s : Nat}
theorem fl_length (hf : ∀ x, (f x).length = s) (l : List α) : (l.flatMap f).length = l.length * s := by
  induction l with
  | nil => simp
  | cons x l ih => rw [List.flatMap_cons, List.length_append, ih, hf, List.length_cons, Nat.succ_mul]; omega
theorem fl_take (hf : ∀ x, (f x).length = s) : ∀ (k : Nat) (l : List α), (l.flatMap f).take (k * s) = (l.take k).flatMap f
  | 0, l => by simp
  | k + 1, [] => by simp
  | k + 1, x :: l => by
    rw [List.flatMap_cons, List.take_succ_cons, List.flatMap_cons, ← fl_take hf k l, List.take_append, hf, Nat.succ_mul, Nat.add_sub_cancel, List.take_of_length_le (by rw [hf]; omega)]
theorem fl_drop (hf : ∀ x, (f x).length = s) : ∀ (k : Nat) (l : List α), (l.flatMap f).drop (k * s) = (l.drop k).flatMap f
  | 0, l => by simp
  | k + 1, [] => by simp
  | k + 1, x :: l => by
    rw [List.flatMap_cons, List.drop_succ_cons, ← fl_drop hf k l, List.drop_append, hf, Nat.succ_mul, Nat.add_sub_cancel, List.drop_of_length_le (by rw [hf]; omega), List.nil_append]
theorem fl_at (hf : ∀ x, (f x).length = s) {l : List α} {i : Nat} {x : α} (hi : l[i]? = some x) {j : Nat} (hj : j < s) : (l.flatMap f)[i * s + j]? = (f x)[j]? := by
  rw [← List.getElem?_drop, fl_drop hf]
  obtain ⟨hl, rfl⟩ := List.getElem?_eq_some_iff.1 hi
  rw [List.drop_eq_getElem_cons hl, List.flatMap_cons, List.getElem?_append_left (by rw [hf]; exact hj)]
theorem fl_seg (hf : ∀ x, (f x).length = s) (l : List α) (rest : List Value) (k m : Nat) (h : k + m ≤ l.length) (j : Nat) (v : Value) (hv : (((l.drop k).take m).flatMap f)[j]? = some v) : (l.flatMap f ++ rest)[k * s + j]? = some v := by
  have hj : j < (((l.drop k).take m).flatMap f).length := (List.getElem?_eq_some_iff.1 hv).1
  have hj2 : j < m * s := by
    rw [fl_length hf] at hj
    have : ((l.drop k).take m).length ≤ m := by simp; omega
    exact Nat.lt_of_lt_of_le hj (Nat.mul_le_mul_right s this)
  have hks : k * s + j < (l.flatMap f).length := by
    rw [fl_length hf]
    have := Nat.mul_le_mul_right s h
    rw [Nat.add_mul] at this
    omega
  rw [List.getElem?_append_left hks, ← List.getElem?_drop, fl_drop hf]
  rw [← fl_take hf, List.getElem?_take] at hv
  rwa [if_pos hj2] at hv
/-- Some elements in the midst are others now. -/
def put (l : List α) (k : Nat) (news : List α) : List α := l.take k ++ news ++ l.drop (k + news.length)
theorem put_length (l : List α) (k : Nat) (news : List α) (h : k + news.length ≤ l.length) : (put l k news).length = l.length := by
  simp [put]; omega
theorem fl_put (hf : ∀ x, (f x).length = s) (l : List α) (rest : List Value) (k : Nat) (news : List α) (h : k + news.length ≤ l.length) :
    (l.flatMap f ++ rest).take (k * s) ++ news.flatMap f ++ (l.flatMap f ++ rest).drop (k * s + (news.flatMap f).length) = (put l k news).flatMap f ++ rest := by
  have h1 : k * s ≤ (l.flatMap f).length := by rw [fl_length hf]; exact Nat.mul_le_mul_right s (by omega)
  have h2 : k * s + (news.flatMap f).length = (k + news.length) * s := by rw [fl_length hf, Nat.add_mul]
  have h3 : (k + news.length) * s ≤ (l.flatMap f).length := by rw [fl_length hf]; exact Nat.mul_le_mul_right s h
  rw [h2, List.take_append_of_le_length h1, List.drop_append_of_le_length h3, fl_take hf, fl_drop hf]
  simp [put, List.flatMap_append, List.append_assoc]
end

/-! ### Stores, loads, copies -/
section
variable (P : Program)
theorem run_storeVar_at (w : World) (g o : Nat) (t ty : TypeId) (cur cells : Array Value) (hg : Blk w g t cur) (hi : (P.info? ty).map (·.size) = some cells.size)
    (ho : o + cells.size ≤ cur.size) (h1 : ∀ v ∈ cells.toList, v.oneCell' = true) :
    (storeVar ty ⟨g, o, none⟩ (.agg cells)).run P w = .ok () (w.setRow g (cur.toList.take o ++ cells.toList ++ cur.toList.drop (o + cells.toList.length)).toArray) := by
  have := run_storeCells_at (P := P) g o t cells.toList 0 cur w hg (by simp; omega) h1
  cases hq : P.info? ty with
  | none => simp [hq] at hi
  | some i =>
    have hs : cells.size = i.size := by simp [hq] at hi; omega
    simp [storeVar, sizeOf, typeInfo, hq, Value.cells, hs, this]
theorem wpList_store_at {ops : Array Oper} {rest : List Oper} {o : Oper} {a : Act} {w : World} {Q : Exit → Act → World → Prop} (hgd : o.guard = none) (ty : TypeId) (x y : Operand) (ho : o.op = .store ty x y)
    (g off : Nat) (cells : Array Value) (hx : a.eval x = .pointer (some ⟨g, off, none⟩)) (hy : a.eval y = .agg cells)
    (t : TypeId) (cur : Array Value) (hg : Blk w g t cur) (hi : (P.info? ty).map (·.size) = some cells.size)
    (hof : off + cells.size ≤ cur.size) (h1 : ∀ v ∈ cells.toList, v.oneCell' = true)
    (h : wpList P ops Q rest (a.put o.dst undef) (w.setRow g (cur.toList.take off ++ cells.toList ++ cur.toList.drop (off + cells.toList.length)).toArray)) : wpList P ops Q (o :: rest) a w :=
  wpList_plain hgd fun _ hK => by
    unfold Oper.wp execOp
    simp only [ho, hx, hy, Instr.storeAt, Instr.sureAddr, Sem.run_bind, Sem.run_pure, Result.andThen_ok, run_storeVar_at P w g off t ty cur cells hg hi hof h1]
    exact hK _ _ h
theorem run_copy_rowN (w : World) (dT sT ty elem : TypeId) (g o dLen dCap : Nat) (a : Addr) (sLen sCap : Nat) (cur : Array Value) (t : TypeId) (cs : List Value) (sz : Nat)
    (hu : P.underlying dT = some (.slice elem)) (hs : (P.info? elem).map (·.size) = some sz)
    (hg : Blk w g t cur) (hn : cs.length = Nat.min sLen dLen * sz)
    (hsrc : ∀ j v, cs[j]? = some v → w.cell? (a.add j) = some v) (hfit : o + cs.length ≤ cur.size) (h1 : ∀ v ∈ cs, v.oneCell' = true) :
    (Builtin.copy_ #[dT, sT] ty #[.slice (some ⟨g, o, none⟩) dLen dCap, .slice (some a) sLen sCap]).run P w =
      .ok (goInt (Nat.min sLen dLen)) (w.setRow g (cur.toList.take o ++ cs ++ cur.toList.drop (o + cs.length)).toArray) := by
  have hl := run_loadCells_list (P := P) w a cs hsrc
  have hst := run_storeCells_at P g o t cs 0 cur w hg (by simpa using hfit) h1
  cases hq : P.info? elem with
  | none => simp [hq] at hs
  | some i =>
    have hi : i.size = sz := by simpa [hq] using hs
    rw [hn] at hl
    simp [Builtin.copy_, run_underlying hu, Builtin.lenOf, Builtin.firstCells, sizeOf, typeInfo, hq, hi, hl, hst]
theorem run_copy_zero (w : World) (dT sT ty elem : TypeId) (d a : Option Addr) (dLen dCap sLen sCap sz : Nat) (hu : P.underlying dT = some (.slice elem)) (hs : (P.info? elem).map (·.size) = some sz) (hn : Nat.min sLen dLen = 0) :
    (Builtin.copy_ #[dT, sT] ty #[.slice d dLen dCap, .slice a sLen sCap]).run P w = .ok (goInt 0) w := by
  cases hq : P.info? elem with
  | none => simp [hq] at hs
  | some i =>
    have hl : ∀ x : Addr, (loadCells x 0).run P w = .ok #[] w := fun x => run_loadCells_list (P := P) w x [] (fun j v h => by simp at h)
    cases d <;> cases a <;> simp [Builtin.copy_, run_underlying hu, Builtin.lenOf, Builtin.firstCells, sizeOf, typeInfo, hq, hn, storeCells, hl]
theorem wpList_copy_of {w w' : World} {v : Value} {ops : Array Oper} {rest : List Oper} {o : Oper} {a : Act} {Q : Exit → Act → World → Prop} (hgd : o.guard = none) (d s : Operand) (dT sT : TypeId) (x y : Value)
    (ho : o.op = .call { callee := .builtin .copy, args := #[d, s], argTypes := #[dT, sT] }) (hd : a.eval d = x) (hs : a.eval s = y)
    (hr : (Builtin.copy_ #[dT, sT] o.type #[x, y]).run P w = .ok v w')
    (h : wpList P ops Q rest (a.put o.dst v) w') : wpList P ops Q (o :: rest) a w :=
  wpList_plain hgd fun _ hK => by
    unfold Oper.wp execOp
    simp only [ho, resolve, invoke, builtin, Sem.run_bind, Sem.run_pure, Result.andThen_ok, List.map_toArray, List.map_cons, List.map_nil, hd, hs, hr]
    exact hK _ _ h
end
end Go.Proofs.Ytjjjinpmflghmaa.Mem
namespace Go.Proofs.Ytjjjinpmflghmaa.Row
open Go.RowKit Go.Proofs.Ytjjjinpmflghmaa.Mem Go.Proofs.YtjjjinpmflghmaaW.PrintWords
set_option linter.unusedVariables false
set_option linter.unusedSimpArgs false
section
variable {w w' : World} {B s n : Nat} {e : TypeId} {v : Value} {xs : List Value}
theorem row_form (h : w.ownsRow B e s v n xs) : (v = .slice none 0 0 ∧ n = 0 ∧ xs = []) ∨ ∃ b c, v = .slice (some ⟨b, 0, none⟩) n c ∧ n ≤ c ∧ c ≤ maxLen ∧ B ≤ b ∧ b < w.heap.size ∧ (∀ j u, xs[j]? = some u → w.cell? ⟨b, j, none⟩ = some u) ∧ ∀ j, w.frozen? ⟨b, j, none⟩ = false := by
  have hlt := own_lt h
  obtain ⟨hl, h⟩ := h
  rcases h with ⟨h1, h2⟩ | ⟨g, cap, cur, rfl, h3, h4, h5, h6, h7, h8⟩
  · exact .inl ⟨h1, h2, List.length_eq_zero_iff.1 (by rw [hl, h2, Nat.zero_mul])⟩
  · refine .inr ⟨g, cap, rfl, h5, h6, h3, hlt g rfl, fun j u hj => ?_, fun j => by simp [World.frozen?, h4]⟩
    rw [cell_of_row w g j cur e (0, 0) h4]
    rw [← h8, List.getElem?_take] at hj
    split at hj
    · simpa using hj
    · cases hj
theorem row_sl (h : w.ownsRow B e s v n xs) : ∃ A c, v = .slice A n c := by
  rcases row_form h with ⟨h1, h2, _⟩ | ⟨b, c, h1, _⟩
  · exact ⟨none, 0, by rw [h1, h2]⟩
  · exact ⟨_, _, h1⟩
theorem row_only {gs : List Nat} (h : w.ownsRow B e s v n xs) (ho : Only gs w w') (hv : ∀ k, v.ownBlock = some k → k ∉ gs) : w'.ownsRow B e s v n xs := by
  have hlt := own_lt h
  refine ⟨h.1, h.2.imp id ?_⟩
  rintro ⟨g', cap, cur, rfl, h2, h3, h4⟩
  exact ⟨g', cap, cur, rfl, h2, (ho.block g' (hlt g' rfl) (hv g' rfl)).trans h3, h4⟩
theorem row_zero (h : w.ownsRow B e s v n xs) : w.ownsRow 0 e s v n xs := ⟨h.1, h.2.imp id (fun ⟨g, cap, cur, h1, h2, h3⟩ => ⟨g, cap, cur, h1, Nat.zero_le _, h3⟩)⟩
end
/-- What a call on an object turns: its block, its row; that row is the same block, or a new one. -/
structure Turn (g : Nat) (v : Value) (w w' : World) (v' : Value) : Prop where
  o : Only (g :: v.ownBlock.toList) w w'
  n : ∀ k, v'.ownBlock = some k → v.ownBlock = some k ∨ w.heap.size ≤ k
theorem Turn.refl (g : Nat) (v : Value) (w : World) : Turn g v w w v := ⟨Only.refl _ _, fun k hk => .inl hk⟩
theorem Turn.trans {g : Nat} {v v' v'' : Value} {a b c : World} (h : Turn g v a b v') (k : Turn g v' b c v'') : Turn g v a c v'' :=
  ⟨⟨k.o.os.trans h.o.os, k.o.tape.trans h.o.tape, k.o.output.trans h.o.output, Nat.le_trans h.o.size k.o.size, fun i hi hn => (k.o.block i (Nat.lt_of_lt_of_le hi h.o.size) (fun he => by
      rcases List.mem_cons.1 he with rfl | he
      · exact hn (by simp)
      · have he' : v'.ownBlock = some i := by simpa using he
        rcases h.n i he' with h1 | h1
        · exact hn (by simp [h1])
        · omega)).trans (h.o.block i hi hn)⟩,
   fun i hi => by
    rcases k.n i hi with h1 | h1
    · exact h.n i h1
    · exact .inr (Nat.le_trans h.o.size h1)⟩
theorem Turn.below {g : Nat} {v v' : Value} {a b c : World} (h : Turn g v a b v') (hb : Below b.heap.size b c) : Turn g v a c v' := ⟨h.o.below hb, h.n⟩
theorem Turn.of_below {g : Nat} {v : Value} {a b : World} (hb : Below a.heap.size a b) : Turn g v a b v := (Turn.refl g v a).below hb
theorem Turn.set_ {g : Nat} {v v' : Value} {a b : World} (h : Turn g v a b v') (i : Nat) (u : Value) : Turn g v a (b.setCell ⟨g, i, none⟩ u) v' := ⟨h.o.setCell _ _ (.inl (by simp)), h.n⟩
theorem Turn.drewN {g : Nat} {v v' : Value} {a b : World} (h : Turn g v a b v') (k : Nat) : Turn g v a (b.drewN k) v' := ⟨h.o.drewN k, h.n⟩
theorem Turn.drew {g : Nat} {v v' : Value} {a b : World} (h : Turn g v a b v') : Turn g v a b.drew v' := ⟨h.o.drew, h.n⟩
/-- The row grew. -/
theorem Turn.grown {g : Nat} {v v1 : Value} {w w1 : World} (hg : w.grownBy w1 v.ownBlock) (hb : v1.ownBlock = v.ownBlock ∨ ∃ b, v1.ownBlock = some b ∧ w.heap.size ≤ b) : Turn g v w w1 v1 :=
  ⟨⟨hg.os, hg.tape, hg.output, hg.size, fun k hk hn => hg.block k hk (fun he => hn (by simp [← he]))⟩, fun k hk => by
    rcases hb with h1 | ⟨b, h1, h2⟩
    · exact .inl (by rw [← h1]; exact hk)
    · rw [h1] at hk
      injection hk with hk
      subst hk
      exact .inr h2⟩
theorem Turn.toBelow {B g : Nat} {v v' : Value} {a b : World} (h : Turn g v a b v') (hB : B ≤ a.heap.size) (hg : B ≤ g) (hv : ∀ k, v.ownBlock = some k → B ≤ k) : Below B a b :=
  h.o.toBelow hB (fun k hk => by
    rcases List.mem_cons.1 hk with rfl | hk
    · exact hg
    · exact hv k (by simpa using hk))
section
variable {P : Program}
/-- Behind an append each row of that type that is no longer than what was appended to still stands. -/
theorem run_append_two (w : World) (base : Nat) (t ty e : TypeId) (i : TypeInfo) (z : Value) (size bytes : Nat) (ht : P.underlying t = some (.slice e)) (hi : P.info? e = some i) (hz : i.zero = some z)
    (hsize : i.size = size) (hby : i.bytes = bytes) (hzs : z.cells.size = size) (hsz : 0 < size)
    (v : Value) (n : Nat) (xs : List Value) (hown : w.ownsRow base e size v n xs)
    (a : Addr) (m c : Nat) (news : List Value) (hl : news.length = m * size) (hnews : ∀ j u, news[j]? = some u → w.cell? (a.add j) = some u) (h1 : ∀ u ∈ news, u.oneCell' = true)
    (hm : 0 < m) (h63 : n + m ≤ maxLen) (hbytes : (n + m) * bytes ≤ 140737488355328) (hbase : base ≤ w.heap.size) :
    ∃ v' w', (Builtin.append_ #[t, t] ty #[v, .slice (some a) m c]).run P w = .ok v' w' ∧ w'.ownsRow base e size v' (n + m) (xs ++ news) ∧ w.grownBy w' v.ownBlock ∧
      (v'.ownBlock = v.ownBlock ∨ v'.ownBlock = some w.heap.size) ∧ ∀ B2 v2 n2 xs2, w.ownsRow B2 e size v2 n2 xs2 → n2 ≤ n → w'.ownsRow B2 e size v2 n2 xs2 := by
  obtain ⟨v', w', hr, h2, h3, _, h5⟩ := run_append_own_at (P := P) w base t ty e i z size bytes ht hi hz hsize hby hzs hsz v n xs hown a m c news hl hnews h1 h63 hbytes hbase
  refine ⟨v', w', hr, h2, h3, h5, fun B2 v2 n2 xs2 h4 hn2 => ?_⟩
  subst hsize
  subst hby
  have hsmall : n + m ≤ 9223372036854775807 := by simp only [maxLen] at h63; omega
  have fresh : ∀ o, w' = w.drew.alloc o → w'.ownsRow B2 e i.size v2 n2 xs2 := fun o e => by
    rw [e]
    exact pw_own_below h4 (((Below.refl w.heap.size w).drew).alloc (Nat.le_refl _) o)
  rcases hown.2 with ⟨rfl, rfl⟩ | ⟨g, cap, cur, rfl, hbg, hg, hnc, hcm, hcs, htake⟩
  · have hr2 := run_append_nil (P := P) w t ty e i z ht hi hz a m c news hl hnews hm (by omega) (by have hb := hbytes; simp only [Nat.zero_add] at hb; omega)
    rw [hr] at hr2
    injection hr2 with _ hw
    exact fresh _ hw
  · by_cases hroom : n + m ≤ cap
    · have hfit : n * i.size + news.length ≤ cur.size := by rw [hl, hcs, ← Nat.add_mul]; exact Nat.mul_le_mul_right _ hroom
      have hr2 := run_append_room (P := P) w t ty e i ht hi g n cap cur hg a m c news hl hnews h1 hroom hfit
      rw [hr] at hr2
      injection hr2 with _ hw
      obtain ⟨h6, h7⟩ := h4
      refine ⟨h6, h7.imp id ?_⟩
      rintro ⟨g2, cap2, cur2, hv2, k3, k4, k5, k6, k7, k8⟩
      by_cases hgg : g2 = g
      · subst hgg
        rw [hg] at k4
        injection k4 with k4
        injection k4 with k4
        subst k4
        have hle : n2 * i.size ≤ n * i.size := Nat.mul_le_mul_right _ hn2
        refine ⟨g2, cap2, _, hv2, k3, by rw [hw]; exact setRow_heap w g2 cur _ e _ hg, k5, k6, ?_, ?_⟩
        · simp only [List.size_toArray, List.length_append, List.length_take, List.length_drop, Array.length_toList]
          omega
        · rw [← k8]
          show List.take (n2 * i.size) _ = _
          rw [List.append_assoc, List.take_append_of_le_length (by simp; omega), List.take_take, Nat.min_eq_left hle]
      · exact ⟨g2, cap2, cur2, hv2, k3, by rw [hw]; exact (setRow_other w g g2 _ (fun e => hgg e)).trans k4, k5, k6, k7, k8⟩
    · have holds : ∀ j u, xs[j]? = some u → w.cell? ((⟨g, 0, none⟩ : Addr).add j) = some u := hown.cells (g := g) rfl
      have hr2 := run_append_grow (P := P) w t ty e i z ht hi hz ⟨g, 0, none⟩ n cap xs hown.1 holds a m c news hl hnews (by omega) (by omega) (growslice_fits (by omega) hbytes)
      rw [hr] at hr2
      injection hr2 with _ hw
      exact fresh _ hw
end
/-- A call of a Go function, as one step of a region that draws: for go_region_law. -/
theorem step_call {P : Program} {ops : Array Oper} {o : Oper} {a : Act} {w : World} {K : Act → World → Prop} {Q : Exit → Act → World → Prop} {E : Prop} (hw : Region.wanted o (yielded ops a.tmps) = true) (f : Nat) (args : Array Value)
    (he : (execOp a.eval o).run P w = .ok (.enter f args) w) {R : Ending → World → Prop} (hc : Calls P f args w R) (h : ∀ r w', R r w' → ∃ v, r = .returned v ∧ K (a.put o.dst v) w') :
    if Region.wanted o (yielded ops a.tmps) = true then Oper.wp P o a w K Q else E := by
  rw [if_pos hw]
  unfold Oper.wp
  rw [he, Oper.upon_enter]
  refine hc.mono (fun r w' hr => ?_)
  obtain ⟨v, rfl, hk⟩ := h r w' hr
  exact hk
/-- One cell of a row is another one now. -/
theorem row_put {w : World} {B n b c j sz : Nat} {e : TypeId} {xs : List Value} (h : w.ownsRow B e sz (.slice (some ⟨b, 0, none⟩) n c) n xs) (u : Value) : (w.setCell ⟨b, j, none⟩ u).ownsRow B e sz (.slice (some ⟨b, 0, none⟩) n c) n (xs.set j u) := by
  obtain ⟨h1, h2⟩ := h
  refine ⟨by simpa using h1, h2.imp (fun h => absurd h.1 (by simp)) ?_⟩
  rintro ⟨g, cap, cur, hv, h3, h4, h5, h6, h7, h8⟩
  injection hv with ha _ hc
  injection ha with ha
  injection ha with hb
  subst hb hc
  refine ⟨b, c, cur.setIfInBounds j u, rfl, h3, by simp [World.setCell, Array.getElem?_modify, h4], h5, h6, by simpa using h7, ?_⟩
  rw [Array.toList_setIfInBounds, List.take_set, h8]
def setAll : List Value → Nat → List Value → List Value
  | xs, _, [] => xs
  | xs, o, v :: vs => setAll (xs.set o v) (o + 1) vs
theorem setAll_eq : ∀ (vs xs : List Value) (o : Nat), o + vs.length ≤ xs.length → setAll xs o vs = xs.take o ++ vs ++ xs.drop (o + vs.length)
  | [], xs, o, _ => by simp [setAll]
  | v :: vs, xs, o, h => by
    simp only [List.length_cons] at h
    rw [setAll, setAll_eq vs (xs.set o v) (o + 1) (by simp; omega), List.drop_set_of_lt (by omega)]
    have h1 : (xs.set o v).take (o + 1) = xs.take o ++ [v] := by
      rw [List.take_set, List.take_add_one, List.getElem?_eq_getElem (by omega), Option.toList_some, List.set_append_right _ _ (by simp; omega)]
      have e : o - (xs.take o).length = 0 := by simp; omega
      rw [e]
      rfl
    rw [h1]
    simp only [List.append_assoc, List.singleton_append, List.length_cons]
    congr 3
    omega
/-! ### Parts of memory beside each other -/
/-- Footprints (lists of blocks), all from block B on, no block in two of them. -/
structure Sep (B : Nat) (w : World) (F : List (List Nat)) : Prop where
  lt : ∀ f ∈ F, ∀ b ∈ f, B ≤ b ∧ b < w.heap.size
  dis : ∀ (i j : Nat) (f f' : List Nat), F[i]? = some f → F[j]? = some f' → i ≠ j → ∀ b ∈ f, b ∉ f'
theorem Sep.step {B : Nat} {w w' : World} {F : List (List Nat)} (h : Sep B w F) (hB : B ≤ w.heap.size) (i : Nat) {f f' : List Nat} (hf : F[i]? = some f) (hs : w.heap.size ≤ w'.heap.size) (hn : ∀ b ∈ f', b ∈ f ∨ w.heap.size ≤ b) (hl : ∀ b ∈ f', b < w'.heap.size) : Sep B w' (F.set i f') := by
  have hm : f ∈ F := List.mem_of_getElem? hf
  have hi : i < F.length := (List.getElem?_eq_some_iff.1 hf).1
  refine ⟨fun x hx b hb => ?_, fun j k x y hx hy hjk b hb hb2 => ?_⟩
  · rcases List.mem_or_eq_of_mem_set hx with hx | rfl
    · have := h.lt x hx b hb
      omega
    · refine ⟨?_, hl b hb⟩
      rcases hn b hb with h1 | h1
      · exact (h.lt f hm b h1).1
      · omega
  · by_cases hj : j = i
    · subst hj
      rw [List.getElem?_set_self hi] at hx
      injection hx with hx
      subst hx
      rw [List.getElem?_set_ne hjk] at hy
      rcases hn b hb with h1 | h1
      · exact h.dis j k f y hf hy hjk b h1 hb2
      · have := (h.lt y (List.mem_of_getElem? hy) b hb2).2
        omega
    · rw [List.getElem?_set_ne (Ne.symm hj)] at hx
      by_cases hk : k = i
      · subst hk
        rw [List.getElem?_set_self hi] at hy
        injection hy with hy
        subst hy
        rcases hn b hb2 with h1 | h1
        · exact h.dis j k x f hx hf hjk b hb h1
        · have := (h.lt x (List.mem_of_getElem? hx) b hb).2
          omega
      · rw [List.getElem?_set_ne (Ne.symm hk)] at hy
        exact h.dis j k x y hx hy hjk b hb hb2
theorem Sep.below {B : Nat} {w w' : World} {F : List (List Nat)} (h : Sep B w F) (hs : w.heap.size ≤ w'.heap.size) : Sep B w' F :=
  ⟨fun f hf b hb => ⟨(h.lt f hf b hb).1, Nat.lt_of_lt_of_le (h.lt f hf b hb).2 hs⟩, h.dis⟩
theorem Sep.ge {B : Nat} {w : World} {F : List (List Nat)} (h : Sep B w F) (i : Nat) {f : List Nat} (hf : F[i]? = some f) : ∀ b ∈ f, B ≤ b := fun b hb => (h.lt f (List.mem_of_getElem? hf) b hb).1
end Go.Proofs.Ytjjjinpmflghmaa.Row
