/- What the methods of a codec.In come to: what stands in the bytes, and the first error. Conditions: those in each theorem. -/
import Derived.Test.YtheieigeipppnaaClone
namespace Go.Proofs.Ytheieigeipppnaa.Obj
open Go.RowKit Go.Proofs.YtheieigeipppnaaW.PrintWords Go.Proofs.YtheieigeipppnaaW.PrintMore

/-- What a call leaves as it was: all but block g. -/
structure Fg (g : Nat) (w w' : World) : Prop where
  os : w'.os = w.os
  tape : w'.tape = w.tape
  output : w'.output = w.output
  size : w.heap.size ≤ w'.heap.size
  block : ∀ i, i < w.heap.size → i ≠ g → w'.heap[i]? = w.heap[i]?
theorem Fg.refl (g : Nat) (w : World) : Fg g w w := ⟨rfl, rfl, rfl, Nat.le_refl _, fun _ _ _ => rfl⟩
theorem Fg.trans {g : Nat} {a b c : World} (h : Fg g a b) (k : Fg g b c) : Fg g a c :=
  ⟨k.os.trans h.os, k.tape.trans h.tape, k.output.trans h.output, Nat.le_trans h.size k.size, fun i hi hg => (k.block i (Nat.lt_of_lt_of_le hi h.size) hg).trans (h.block i hi hg)⟩
theorem Fg.below {g : Nat} {w w' : World} (h : Below w.heap.size w w') : Fg g w w' := ⟨h.os, h.tape, h.output, h.size, fun i hi _ => h.block i hi⟩
theorem Fg.alloc (g : Nat) (w : World) (o : Obj) : Fg g w (w.alloc o) := Fg.below (below_alloc (Below.refl _ _) o)
theorem Fg.set (g : Nat) (w : World) (j : Nat) (v : Value) : Fg g w (w.setCell ⟨g, j, none⟩ v) := ⟨rfl, rfl, rfl, by simp, fun i _ hg => heap_setCell_other w _ i v hg⟩
theorem Fg.drewN {g : Nat} {w w' : World} (h : Fg g w w') (n : Nat) : Fg g w (w'.drewN n) := ⟨h.os, h.tape, h.output, h.size, h.block⟩
theorem Fg.keep {g i : Nat} {w w' : World} {o : Obj} (h : Fg g w w') (hi : w.heap[i]? = some o) (hg : i ≠ g) : w'.heap[i]? = some o := (h.block i (blk_lt hi) hg).trans hi
theorem Fg.toBelow {B g : Nat} {w w' : World} (h : Fg g w w') (hB : B ≤ w.heap.size) (hg : B ≤ g) : Below B w w' := ⟨h.os, h.tape, h.output, h.size, fun i hi => h.block i (by omega) (by omega)⟩

theorem eql_in (a : Addr) (w : World) : Sem.run Try.prog (binOp .eql 38 (.pointer (some a)) (.pointer none)) w = .ok (.bool false) w := by kernel_rfl

/-- A reader at block g: what is left, and its error. -/
def IsIn (w : World) (g : Nat) (b : ByteArray) (e : Int) : Prop := w.heap[g]? = some (.cells #[.string b, .int .i64 e] 76 (0, 0))
theorem IsIn.below {g : Nat} {w w' : World} {b : ByteArray} {e : Int} (h : IsIn w g b e) (hb : Below w.heap.size w w') : IsIn w' g b e := (hb.block g (blk_lt h)).trans h
theorem IsIn.alloc {g : Nat} {w : World} {b : ByteArray} {e : Int} (h : IsIn w g b e) (o : Obj) : IsIn (w.alloc o) g b e := h.below (below_alloc (Below.refl _ _) o)
theorem IsIn.set0 {g : Nat} {w : World} {b : ByteArray} {e : Int} (h : IsIn w g b e) (b' : ByteArray) : IsIn (w.setCell ⟨g, 0, none⟩ (.string b')) g b' e := (blk_set h 0 _).trans rfl
theorem IsIn.set1 {g : Nat} {w : World} {b : ByteArray} {e : Int} (h : IsIn w g b e) (e' : Int) : IsIn (w.setCell ⟨g, 1, none⟩ (.int .i64 e')) g b e' := (blk_set h 1 _).trans rfl

theorem on_calls (b : ByteArray) (w : World) : Calls Try.prog 22 #[.string b] w fun r w' => r = .returned (.pointer (some ⟨w.heap.size, 0, none⟩)) ∧ w.alloc (.cells #[.string b, .int .i64 0] 76) = w' := by
  go_enter Try.func22, Try.ntmps22
  go_wp2
  go_ret
  exact ⟨rfl, rfl⟩

/-- Raw: what it answers, what is left, the error. -/
def iRaw (b : ByteArray) (e n : Int) : ByteArray × ByteArray × Int :=
  if e ≠ 0 then (ByteArray.empty, b, e) else if n < 0 then (ByteArray.empty, b, 1) else if (b.size : Int) < n then (ByteArray.empty, b, 2) else (b.extract 0 n.toNat, b.extract n.toNat b.size, 0)
set_option maxHeartbeats 1000000 in
theorem iraw_calls (g : Nat) (b : ByteArray) (e n : Int) (w : World) (h : IsIn w g b e) (hs : b.size ≤ 140737488355328) :
    Calls Try.prog 40 #[.pointer (some ⟨g, 0, none⟩), .int .i64 n] w fun r w' => r = .returned (.string (iRaw b e n).1) ∧ IsIn w' g (iRaw b e n).2.1 (iRaw b e n).2.2 ∧ Fg g w w' := by
  have c0 : w.cell? ⟨g, 0, none⟩ = some (.string b) := (blk_cell h 0).trans rfl
  have c1 : w.cell? ⟨g, 1, none⟩ = some (.int .i64 e) := (blk_cell h 1).trans rfl
  have f0 := blk_frozen h 0
  have f1 := blk_frozen h 1
  have hn := eql_in ⟨g, 0, none⟩
  have HI := Aside0.mk h
  clear h
  by_cases he : e = 0
  · subst he
    by_cases h0 : n < 0
    · go_enter Try.func40, Try.ntmps40
      go_wp2
      go_ret
      have hr : iRaw b 0 n = (ByteArray.empty, b, 1) := by simp [iRaw, h0]
      rw [hr]
      exact ⟨rfl, HI.out.set1 1, Fg.set _ _ _ _⟩
    · by_cases h1 : (b.size : Int) < n
      · go_enter Try.func40, Try.ntmps40
        go_wp2
        go_ret
        have hr : iRaw b 0 n = (ByteArray.empty, b, 2) := by simp [iRaw, h0, h1]
        rw [hr]
        exact ⟨rfl, HI.out.set1 2, Fg.set _ _ _ _⟩
      · obtain ⟨m, rfl⟩ := Int.eq_ofNat_of_zero_le (show 0 ≤ n by omega)
        have hm : m ≤ b.size := by omega
        have hx : (b.extract 0 m).size = m := by simp; omega
        have hr : iRaw b 0 m = (b.extract 0 m, b.extract m b.size, 0) := by simp [iRaw, h0, h1]
        have HR := Aside0.mk hr
        have HX := Aside0.mk hx
        clear hr hx
        go_enter Try.func40, Try.ntmps40
        go_wp2_with (go_at_call 51; refine (clone_calls _ _ (by have := HX.out; omega)).mono ?_; rintro e1 w1 ⟨rfl, hb⟩)
        go_ret
        rw [HR.out]
        exact ⟨rfl, (HI.out.set0 _).below hb, (Fg.set _ _ _ _).trans (Fg.below hb)⟩
  · have he' : (e != 0) = true := by simpa using he
    have hr : iRaw b e n = (ByteArray.empty, b, e) := by simp [iRaw, he]
    have HR := Aside0.mk hr
    clear hr he
    go_enter Try.func40, Try.ntmps40
    go_wp2
    go_ret
    rw [HR.out]
    exact ⟨rfl, HI.out, Fg.refl _ _⟩
theorem ileft_calls (g : Nat) (b : ByteArray) (e : Int) (w : World) (h : IsIn w g b e) :
    Calls Try.prog 26 #[.pointer (some ⟨g, 0, none⟩)] w fun r w' => r = .returned (.int .i64 (if e = 0 then (b.size : Int) else 0)) ∧ w = w' := by
  have c0 : w.cell? ⟨g, 0, none⟩ = some (.string b) := (blk_cell h 0).trans rfl
  have c1 : w.cell? ⟨g, 1, none⟩ = some (.int .i64 e) := (blk_cell h 1).trans rfl
  have hn := eql_in ⟨g, 0, none⟩
  clear h
  by_cases he : e = 0
  · subst he
    go_enter Try.func26, Try.ntmps26
    go_wp2
    go_ret
    exact ⟨rfl, rfl⟩
  · have he' : (e != 0) = true := by simpa using he
    rw [if_neg he]
    clear he
    go_enter Try.func26, Try.ntmps26
    go_wp2
    go_ret
    exact ⟨rfl, rfl⟩
theorem ifail_calls (g : Nat) (b : ByteArray) (e k : Int) (w : World) (h : IsIn w g b e) :
    Calls Try.prog 54 #[.pointer (some ⟨g, 0, none⟩), .int .i64 k] w fun r w' => r = .returned (.tuple #[]) ∧ IsIn w' g b (if e = 0 then k else e) ∧ Fg g w w' := by
  have c1 : w.cell? ⟨g, 1, none⟩ = some (.int .i64 e) := (blk_cell h 1).trans rfl
  have f1 := blk_frozen h 1
  have HI := Aside0.mk h
  clear h
  by_cases he : e = 0
  · subst he
    go_enter Try.func54, Try.ntmps54
    go_wp2
    go_end0
    exact ⟨rfl, HI.out.set1 k, Fg.set _ _ _ _⟩
  · have he' : (e == 0) = false := by simpa using he
    rw [if_neg he]
    clear he
    go_enter Try.func54, Try.ntmps54
    go_wp2
    go_end0
    exact ⟨rfl, HI.out, Fg.refl _ _⟩
theorem iend_calls (g : Nat) (b : ByteArray) (e : Int) (w : World) (h : IsIn w g b e) :
    Calls Try.prog 25 #[.pointer (some ⟨g, 0, none⟩)] w fun r w' => r = .returned (.int .i64 (if e = 0 then (if b.size = 0 then 0 else 3) else e)) ∧ IsIn w' g b (if e = 0 then (if b.size = 0 then 0 else 3) else e) ∧ Fg g w w' := by
  have c1 : w.cell? ⟨g, 1, none⟩ = some (.int .i64 e) := (blk_cell h 1).trans rfl
  have hn := eql_in ⟨g, 0, none⟩
  have HI := Aside0.mk h
  clear h
  by_cases he : e = 0
  · subst he
    by_cases hb0 : b.size = 0
    · rw [if_pos rfl, if_pos hb0]
      have hz : ((b.size : Int)) = 0 := by omega
      have HZ := Aside0.mk hz
      clear hb0 hz
      go_enter Try.func25, Try.ntmps25
      go_wp2_with fail
      refine (ileft_calls g b 0 _ HI.out).mono ?_
      rw [if_pos rfl, HZ.out]
      rintro e1 w1 ⟨rfl, rfl⟩
      go_wp2
      go_ret
      exact ⟨rfl, HI.out, Fg.refl _ _⟩
    · rw [if_pos rfl, if_neg hb0]
      have hz : 0 < ((b.size : Int)) := by omega
      clear hb0
      go_enter Try.func25, Try.ntmps25
      go_wp2_with fail
      refine (ileft_calls g b 0 _ HI.out).mono ?_
      rw [if_pos rfl]
      rintro e1 w1 ⟨rfl, rfl⟩
      go_wp2_with fail
      refine (ifail_calls g b 0 3 _ HI.out).mono ?_
      rw [if_pos rfl]
      rintro e1 w1 ⟨rfl, hI, hF⟩
      have c1' : w1.cell? ⟨g, 1, none⟩ = some (.int .i64 3) := (blk_cell hI 1).trans rfl
      have HI1 := Aside0.mk hI
      have HF1 := Aside0.mk hF
      clear hI hF
      go_wp2
      go_ret
      exact ⟨rfl, HI1.out, HF1.out⟩
  · rw [if_neg he]
    have HE := Aside0.mk he
    clear he
    go_enter Try.func25, Try.ntmps25
    go_wp2_with fail
    refine (ileft_calls g b e _ HI.out).mono ?_
    rw [if_neg HE.out]
    rintro e1 w1 ⟨rfl, rfl⟩
    go_wp2
    go_ret
    exact ⟨rfl, HI.out, Fg.refl _ _⟩
end Go.Proofs.Ytheieigeipppnaa.Obj
