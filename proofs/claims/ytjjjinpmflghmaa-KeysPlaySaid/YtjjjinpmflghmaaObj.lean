/- Words about memory that one object and its row of cells use: what keeps, what is read. Conditions: those in each theorem. -/
import Derived.Test.YtjjjinpmflghmaaProg
import Derived.Below
import Derived.Deep.Draws
import Derived.Deep.AppendLies
import Derived.Maps.AppendAt
import Derived.OwnWalk
import Derived.Laws.BytesArg
import Derived.Laws.MakeOwn
import Derived.Laws.OwnMore
import Derived.Deep.OwnRows
import Derived.Tactics
import Derived.Lib.ConvBytes
import Derived.Laws.Slices
import Derived.WalkKit
import Derived.KernelRfl
import Derived.RowKit3
import Derived.Deep.LoopGhost
import Derived.Deep.QuietTactic
import Derived.BigQuiet
import Derived.WideLaws
import Derived.Deep.DeepCutAuto
import Derived.Deep.CutBlock
import Derived.Deep.RegionHeld3
import Derived.Laws.Rows
import Derived.Lib.AppendStr
import Derived.ArgAppend
import Derived.Laws.IdiomCopy
import Derived.OrdersHeld
import Derived.Laws.BitsLemmas
import Derived.RowKit
import Derived.Outline
import Derived.Lib.Hide
import Derived.Test.YtjjjinpmflghmaaWWords
import Derived.Test.YtjjjinpmflghmaaWMore
namespace Go.Proofs.Ytjjjinpmflghmaa.Obj
open Go.RowKit Go.Proofs.YtjjjinpmflghmaaW.PrintWords Go.Proofs.YtjjjinpmflghmaaW.PrintMore

/-- What an object's call leaves as it was: all but block g, and but the rows of bytes from block B on. -/
structure Fr (B g : Nat) (w w' : World) : Prop where
  os : w'.os = w.os
  tape : w'.tape = w.tape
  output : w'.output = w.output
  size : w.heap.size ≤ w'.heap.size
  low : ∀ i, i < w.heap.size → i < B → i ≠ g → w'.heap[i]? = w.heap[i]?
  far : ∀ i o, w.heap[i]? = some o → i ≠ g → (∀ cs fr, o ≠ .cells cs 5 fr) → w'.heap[i]? = some o

theorem Fr.refl (B g : Nat) (w : World) : Fr B g w w := ⟨rfl, rfl, rfl, Nat.le_refl _, fun _ _ _ _ => rfl, fun _ _ h _ _ => h⟩
theorem Fr.trans {B g : Nat} {a b c : World} (h : Fr B g a b) (k : Fr B g b c) : Fr B g a c :=
  ⟨k.os.trans h.os, k.tape.trans h.tape, k.output.trans h.output, Nat.le_trans h.size k.size,
   fun i hi hb hg => (k.low i (Nat.lt_of_lt_of_le hi h.size) hb hg).trans (h.low i hi hb hg),
   fun i o ho hg ht => k.far i o (h.far i o ho hg ht) hg ht⟩
theorem Fr.drewN {B g : Nat} {w w' : World} (h : Fr B g w w') (n : Nat) : Fr B g w (w'.drewN n) := ⟨h.os, h.tape, h.output, h.size, h.low, h.far⟩
theorem Fr.drew {B g : Nat} {w w' : World} (h : Fr B g w w') : Fr B g w w'.drew := ⟨h.os, h.tape, h.output, h.size, h.low, h.far⟩
theorem Fr.below {B g : Nat} {w w' : World} (h : Below w.heap.size w w') : Fr B g w w' :=
  ⟨h.os, h.tape, h.output, h.size, fun i hi _ _ => h.block i hi, fun i _ ho _ _ => (h.block i (blk_lt ho)).trans ho⟩
theorem Fr.alloc (B g : Nat) (w : World) (o : Obj) : Fr B g w (w.alloc o) := Fr.below (below_alloc (Below.refl _ _) o)
theorem Fr.set (B g : Nat) (w : World) (j : Nat) (v : Value) : Fr B g w (w.setCell ⟨g, j, none⟩ v) :=
  ⟨rfl, rfl, rfl, by simp, fun i _ _ hg => heap_setCell_other w _ i v hg, fun i o ho hg _ => (heap_setCell_other w _ i v hg).trans ho⟩
/-- A row of bytes of the call's own was appended to. -/
theorem Fr.grown {B g n : Nat} {w w' : World} {v : Value} {xs : List Value} (ho : w.ownsRow B 5 1 v n xs) (hg : w.grownBy w' v.ownBlock) : Fr B g w w' := by
  refine ⟨hg.os, hg.tape, hg.output, hg.size, fun i hi hb _ => hg.block i hi (fun he => ?_), fun i o hio _ ht => (hg.block i (blk_lt hio) (fun he => ?_)).trans hio⟩
  · have := own_base ho i he.symm
    omega
  · rcases ho.2 with ⟨hv, _⟩ | ⟨g', cap, cur, hv, _, hh, _⟩
    · rw [hv] at he; simp [Value.ownBlock] at he
    · rw [hv] at he
      simp [Value.ownBlock] at he
      subst he
      rw [hh] at hio
      injection hio with hio
      exact ht _ _ hio.symm
theorem Fr.toBelow {B g : Nat} {w w' : World} (h : Fr B g w w') (hB : B ≤ w.heap.size) (hg : B ≤ g) : Below B w w' :=
  ⟨h.os, h.tape, h.output, h.size, fun i hi => h.low i (by omega) hi (by omega)⟩
theorem Fr.keep {B g i : Nat} {w w' : World} {cs : Array Value} {t : TypeId} {fr : Nat × Nat} (h : Fr B g w w') (hi : w.heap[i]? = some (.cells cs t fr)) (hg : i ≠ g) (ht : t ≠ 5) : w'.heap[i]? = some (.cells cs t fr) :=
  h.far i _ hi hg (fun cs' fr' e => by injection e with _ e; exact ht e)

/-- A row in memory, of cells of type t, that holds vs. -/
def RowAt (w : World) (A : Option Addr) (t : TypeId) (vs : List Value) : Prop :=
  vs.length ≤ maxLen ∧ (vs = [] ∨ ∃ b off cs fr, A = some ⟨b, off, none⟩ ∧ w.heap[b]? = some (.cells cs t fr) ∧ ∀ i v, vs[i]? = some v → cs[off + i]? = some v)
theorem RowAt.frame {B g : Nat} {w w' : World} {A : Option Addr} {t : TypeId} {vs : List Value} (h : RowAt w A t vs) (hf : Fr B g w w') (ht : t ≠ 5) (hg : ∀ cs fr, w.heap[g]? ≠ some (.cells cs t fr)) : RowAt w' A t vs := by
  refine ⟨h.1, h.2.imp id ?_⟩
  rintro ⟨b, off, cs, fr, hA, hb, hc⟩
  exact ⟨b, off, cs, fr, hA, hf.keep hb (fun e => by subst e; exact hg _ _ hb) ht, hc⟩
theorem RowAt.below {w w' : World} {A : Option Addr} {t : TypeId} {vs : List Value} (h : RowAt w A t vs) (hb : Below w.heap.size w w') : RowAt w' A t vs := by
  refine ⟨h.1, h.2.imp id ?_⟩
  rintro ⟨b, off, cs, fr, hA, hbb, hc⟩
  exact ⟨b, off, cs, fr, hA, (hb.block b (blk_lt hbb)).trans hbb, hc⟩
theorem RowAt.alloc {w : World} {A : Option Addr} {t : TypeId} {vs : List Value} (h : RowAt w A t vs) (o : Obj) : RowAt (w.alloc o) A t vs := h.below (below_alloc (Below.refl _ _) o)
/-- One element of it. -/
theorem RowAt.at_ {w : World} {A : Option Addr} {t : TypeId} {vs : List Value} (h : RowAt w A t vs) (i : Nat) (v : Value) (hv : vs[i]? = some v) : ∃ b off, A = some ⟨b, off, none⟩ ∧ w.cell? ⟨b, off + i, none⟩ = some v := by
  rcases h.2 with h | ⟨b, off, cs, fr, hA, hb, hc⟩
  · rw [h] at hv; simp at hv
  · exact ⟨b, off, hA, (cell_of_row w b (off + i) cs t fr hb).trans (hc i v hv)⟩
theorem RowAt.nil (w : World) (A : Option Addr) (t : TypeId) : RowAt w A t [] := ⟨by simp, .inl rfl⟩
/-- A literal that was laid just now. -/
theorem RowAt.lit (w : World) (t : TypeId) (vs : List Value) (hm : vs.length ≤ maxLen) : RowAt (w.alloc (.cells vs.toArray t)) (some ⟨w.heap.size, 0, none⟩) t vs :=
  ⟨hm, .inr ⟨w.heap.size, 0, vs.toArray, (0, 0), rfl, heap_alloc_new w _, fun i v h => by simpa using h⟩⟩

end Go.Proofs.Ytjjjinpmflghmaa.Obj
