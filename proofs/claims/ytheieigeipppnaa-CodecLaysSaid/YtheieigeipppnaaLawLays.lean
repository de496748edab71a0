/- The walk of CodecLays: every things that are laid, one behind the other. Conditions: those in each theorem. -/
import Derived.Test.YtheieigeipppnaaLightL
import Derived.Test.YtheieigeipppnaaLentL
import Derived.Test.YtheieigeipppnaaMem
import Derived.Test.YtheieigeipppnaaLawCodA
import Derived.OpenShut
import Derived.Lib.Builder
namespace Go.Proofs.Ytheieigeipppnaa.Lays
open Go.RowKit Go.ChangeShapes Go.WideShapes Go.Deep Go.Proofs.YtheieigeipppnaaW.PrintWords Go.Proofs.YtheieigeipppnaaW.PrintMore Go.Proofs.YtheieigeipppnaaW.PrintLast Go.Proofs.Ytheieigeipppnaa.PCodecLays Go.Proofs.Ytheieigeipppnaa.Obj Go.Proofs.Ytheieigeipppnaa.Opens Go.Proofs.Ytheieigeipppnaa.Lent
set_option linter.unusedVariables false
set_option linter.unusedSimpArgs false
theorem takeH {P : Program} {md : Region.Mode} {ops : Array Oper} {Q : Exit → Act → World → Prop} {S : World → Prop} {i d : Nat} {oi : Oper} {v : Value} {fuel : Nat} {listed : Array Bool} {a : Act} {w : World} (hi : ops[i]? = some oi) (hd : oi.dst = some d)
    (hs : Region.noSelect ops = true) (hf : Region.free md ops listed i = true) (hr : (Region.ready md ops listed).contains i = true)
    (hQ : ∀ c a w, Q (.panic c) (a.put oi.dst v) w → Q (.panic c) a w) (hy : YieldsIf P ops S oi v a) (hS : S w)
    (h : wpAnyH P md ops Q S fuel (listed.setIfInBounds i true) { a with tmps := a.tmps.setIfInBounds d v } w) : wpAnyH P md ops Q S (fuel + 1) listed a w :=
  wpAnyH_take hi hs hf hr hQ hy hS (by rw [hd]; exact h)
/-! ### The document's number -/
theorem refnum_l0 : ∀ (k u : Nat) (bs : List Int), u < 9223372036854775808 → bs.length + (numB u).length ≤ 1000 → (numB u).length ≤ k → pontoonref1_Num.l0 k (u : Int) bs = some (strOfNums (bs ++ numB u))
  | 0, u, bs, _, _, hk => by
    have : (numB u).length ≠ 0 := by
      by_cases h : u < 128
      · rw [numB_small h]; simp
      · rw [numB_great h]; simp
    omega
  | k + 1, u, bs, hu, hl, hk => by
    unfold pontoonref1_Num.l0
    by_cases h : u < 128
    · rw [if_neg (by omega), if_pos (by omega), numB_small h]
      have : (u : Int) % 256 = (u : Int) := by omega
      rw [this]
    · rw [numB_great h, List.length_cons] at hl hk
      have h1 : Int.tdiv (u : Int) 128 = ((u / 128 : Nat) : Int) := by rw [Int.tdiv_eq_ediv_of_nonneg (by omega)]; omega
      have h2 : Int.tmod (u : Int) 128 = ((u % 128 : Nat) : Int) := by rw [Int.tmod_eq_emod_of_nonneg (by omega)]; omega
      have h3 : wrap64 ((u / 128 : Nat) : Int) = ((u / 128 : Nat) : Int) := by unfold wrap64; omega
      have h4 : wrap64 (((u % 128 : Nat) : Int) + 128) % 256 = ((u % 128 + 128 : Nat) : Int) := by unfold wrap64; omega
      rw [if_pos (by omega), if_pos (by omega), h1, h2, h3, h4, refnum_l0 k (u / 128) _ (by omega) (by simp; omega) (by omega), numB_great h]
      simp
theorem refnum_f (u : Nat) (hu : u < 9223372036854775808) : pontoonref1_Num.f 20 (u : Int) = some (strOfNums (numB u)) := by
  have := numB_len9 hu
  have := refnum_l0 20 u [] hu (by simp; omega) (by omega)
  simpa [pontoonref1_Num.f] using this
theorem str_app (a b : List Int) : strOfNums a ++ strOfNums b = strOfNums (a ++ b) := by
  apply ByteArray.ext
  simp [strOfNums]
/-- Whatever is read at a type is of this kind, and so. -/
def Opens2 {α : Type} (P : Program) (t : TypeId) (d : Kd α) (Q : α → Prop) : Prop :=
  ∀ (H : Type) (enc : TypeId × Value → H) (w : World) (base : Nat) (spare : Nat → Bool) (held : Bool) (fuel : Nat) (cs : List Value) (x : DataW H × List MemPlace), DataW.trod enc P w base spare held fuel t cs = some x → ∃ a, d.K w a cs ∧ Q a
theorem opens2_int {P : Program} {t : TypeId} {k : IntKind} (ht : P.underlying t = some (.int k)) : Opens2 P t (Kd.int k) (fun n => (Lit.int k n).wf = true) := fun H enc w base spare held fuel cs x h => by
  obtain ⟨n, rfl, _, hw⟩ := DataW.trod_int ht h
  exact ⟨n, rfl, hw⟩
theorem opens2_row {α : Type} {P : Program} {t e : TypeId} {d : Kd α} {Q : α → Prop} (ht : P.underlying t = some (.slice e)) (hc : P.cellsOf e = d.sz) (he : Opens2 P e d Q)
    {H : Type} {enc : TypeId × Value → H} {w : World} {base : Nat} {spare : Nat → Bool} {held : Bool} {fuel : Nat} {cs : List Value} {x : DataW H × List MemPlace} (h : DataW.trod enc P w base spare held fuel t cs = some x) :
    ∃ A cap xs, cs = [.slice A xs.length cap] ∧ xs.length ≤ cap ∧ cap ≤ maxLen ∧ (d.C w A xs.length xs ∧ ∀ y ∈ xs, Q y) := by
  rcases open_slice ht h with ⟨rfl, _⟩ | ⟨a, len, cap, m, n, D, Pl, rfl, _, hl, hm, hmm, _, hi⟩
  · exact ⟨none, 0, [], rfl, by simp, by simp, ⟨rfl, by simp, fun h => by simp at h⟩, fun y hy => by simp at hy⟩
  · have hlm : len ≤ m := by rw [hmm]; split <;> omega
    obtain ⟨xs, hxl, hxr⟩ := exists_list (fun i (y : α) => (∃ c, c.length = d.sz ∧ d.K w y c ∧ ∀ j u, c[j]? = some u → w.cell? (a.add (i * d.sz + j)) = some u) ∧ Q y) len (fun i hil => by
      obtain ⟨cs', hcs, htr⟩ := hi i (by omega)
      obtain ⟨y, hy, hq⟩ := he _ _ _ _ _ _ _ _ _ htr
      obtain ⟨_, hcl, hcell⟩ := World.cells?_some hcs
      rw [hc] at hcl hcell
      refine ⟨y, ⟨cs', hcl, hy, fun j u hj => ?_⟩, hq⟩
      have hjl : j < d.sz := by have := (List.getElem?_eq_some_iff.1 hj).1; omega
      rw [← Go.Deep.add_add, hcell j hjl, hj])
    refine ⟨some a, cap, xs, by rw [hxl], by omega, hm, ⟨rfl, by rw [hxl]; simp only [maxLen] at hm; omega, fun _ => ⟨a, rfl, fun i x hx => (hxr i x hx).1⟩⟩, fun y hy => ?_⟩
    obtain ⟨i, hi, rfl⟩ := List.getElem_of_mem hy
    exact (hxr i _ (List.getElem?_eq_getElem hi)).2
/-- A call whose numbers are numbers. -/
def WfOp (x : S63) : Prop := ∀ y ∈ x.f2, (Lit.int .i64 y).wf = true
theorem opens2_op : Opens2 Try.prog 63 k63 WfOp := fun H enc w base spare held fuel cs x h => by
  obtain ⟨xs, n, _, _, hcl, hlen, hg⟩ := DataW.trod_struct Try.underlying63 h
  have hC : Try.prog.cellsOf 63 = 4 := by kernel_rfl
  have hI : Try.prog.cellsOf 3 = 1 := by kernel_rfl
  have hIs : Try.prog.cellsOf 61 = 1 := by kernel_rfl
  have hS : Try.prog.cellsOf 9 = 1 := by kernel_rfl
  have hSs : Try.prog.cellsOf 44 = 1 := by kernel_rfl
  rw [hC] at hcl
  match cs, hcl with
  | [c0, c1, c2, c3], _ =>
    match xs, hlen with
    | [y0, y1, y2, y3], _ =>
      have g0 := hg 0 _ rfl
      have g1 := hg 1 _ rfl
      have g2 := hg 2 _ rfl
      have g3 := hg 3 _ rfl
      simp [hI, hIs, hSs] at g0 g1 g2 g3
      obtain ⟨a0, r0⟩ := opens_int Try.underlying3 _ _ _ _ _ _ _ _ _ g0
      obtain ⟨a1, r1⟩ := opens_int Try.underlying3 _ _ _ _ _ _ _ _ _ g1
      obtain ⟨A2, p2, a2, r2, l2, _, q2, w2⟩ := opens2_row Try.underlying61 hI (opens2_int Try.underlying3) g2
      obtain ⟨a3, A3, p3, r3, l3, q3⟩ := opens_slice Try.underlying44 hS (opens_string Try.underlying9) _ _ _ _ _ _ _ _ _ g3
      have r0' : [c0] = [Value.int .i64 a0] := r0
      have r1' : [c1] = [Value.int .i64 a1] := r1
      simp only [List.cons.injEq, and_true] at r0' r1' r2 r3
      subst r0' r1' r2 r3
      exact ⟨⟨a0, a1, a2, a3⟩, k63_mk w ⟨a0, a1, a2, a3⟩ l2 q2 l3 q3, w2⟩
theorem neq_out (a : Addr) (w : World) : (binOp .neq 29 (.pointer (some a)) (.pointer (some a))).run Try.prog w = .ok (.bool false) w := by
  obtain ⟨j, hj⟩ : ∃ j, Try.prog.info? 33 = some j := ⟨_, rfl⟩
  exact Go.Lib.run_neq_ptr_same w a Try.underlying29 hj
/-! ### What the rounds hold -/
/-- The writer, an act's copy, whatever came in. -/
structure LY (w0 : World) (g gx : Nat) (bs : List Int) (e : Int) (bx : Array Value) (w : World) : Prop where
  o : IsOut w0.heap.size w g bs e
  x : w.heap[gx]? = some (.cells bx 63 (0, 0))
  b : Below w0.heap.size w0 w
theorem LentI.mono0 {B g c : Nat} {w : World} {l : List Int} (h : LentI B w g c l) : LentI 0 w g c l := ⟨h.1, h.2.imp id (fun ⟨g', cap, cur, h1, h2, h3⟩ => ⟨g', cap, cur, h1, Nat.zero_le _, h3⟩)⟩
theorem LentT.mono0 {B g c : Nat} {w : World} {l : List ByteArray} (h : Lent B w g c l) : Lent 0 w g c l := ⟨h.1, h.2.imp id (fun ⟨g', cap, cur, h1, h2, h3⟩ => ⟨g', cap, cur, h1, Nat.zero_le _, h3⟩)⟩
theorem LentI.frame {C B g0 g c : Nat} {w w' : World} {l : List Int} (h : LentI C w g c l) (hf : Fr B g0 w w') (hg : ∀ cs fr, w.heap[g0]? ≠ some (.cells cs 3 fr)) : LentI C w' g c l := ⟨h.1, h.2.imp id (fun ⟨g', cap, cur, h1, h2, h3, h4⟩ => ⟨g', cap, cur, h1, h2, hf.keep h3 (fun e => by subst e; exact hg _ _ h3) (by decide), h4⟩)⟩
theorem LentT.frame {C B g0 g c : Nat} {w w' : World} {l : List ByteArray} (h : Lent C w g c l) (hf : Fr B g0 w w') (hg : ∀ cs fr, w.heap[g0]? ≠ some (.cells cs 9 fr)) : Lent C w' g c l := ⟨h.1, h.2.imp id (fun ⟨g', cap, cur, h1, h2, h3, h4⟩ => ⟨g', cap, cur, h1, h2, hf.keep h3 (fun e => by subst e; exact hg _ _ h3) (by decide), h4⟩)⟩
theorem LY.below {w0 w w' : World} {g gx : Nat} {bs : List Int} {e : Int} {bx : Array Value} (h : LY w0 g gx bs e bx w) (hb : Below w.heap.size w w') : LY w0 g gx bs e bx w' := ⟨h.o.below hb, blk_below h.x hb, below_step h.b hb⟩
/-- The same, and what was lent. -/
structure LZ (w0 : World) (g gx : Nat) (F : List Int × Int) (bx : Array Value) (gm cm : Nat) (L : List Int) (gn cn : Nat) (T : List ByteArray) (w : World) : Prop where
  y : LY w0 g gx F.1 F.2 bx w
  m : LentI 0 w gm cm L
  n : Lent 0 w gn cn T
theorem LZ.below {w0 w w' : World} {g gx gm cm gn cn : Nat} {F : List Int × Int} {bx : Array Value} {L : List Int} {T : List ByteArray} (h : LZ w0 g gx F bx gm cm L gn cn T w) (hb : Below w.heap.size w w') : LZ w0 g gx F bx gm cm L gn cn T w' := ⟨h.y.below hb, Go.Proofs.Ytheieigeipppnaa.Lent.LentI.below h.m hb, Lent.below h.n hb⟩
/-- A call of the writer. -/
theorem LZ.wrote {w0 w w' : World} {g gx gm cm gn cn : Nat} {F F' : List Int × Int} {bx : Array Value} {L : List Int} {T : List ByteArray} (h : LZ w0 g gx F bx gm cm L gn cn T w) (hO : IsOut w0.heap.size w' g F'.1 F'.2) (hF : Fr w0.heap.size g w w') (hg : w0.heap.size ≤ g) : LZ w0 g gx F' bx gm cm L gn cn T w' :=
  ⟨⟨hO, hF.keep h.y.x (fun e => by subst e; exact absurd h.y.x (h.y.o.ne (by decide) _ _)) (by decide), (h.y.b).trans (hF.toBelow h.y.b.size hg)⟩, LentI.frame h.m hF (fun cs fr => h.y.o.ne (by decide) cs fr), LentT.frame h.n hF (fun cs fr => h.y.o.ne (by decide) cs fr)⟩
/-! ### What a call lays, and how much -/
theorem lit_le {y : Int} (h : (Lit.int .i64 y).wf = true) : -9223372036854775808 ≤ y ∧ y ≤ 9223372036854775807 := by
  simp [Lit.wf, IntKind.min, IntKind.max, IntKind.signed, IntKind.bits] at h
  omega
theorem oNum_len : ∀ (xs : List Int) (bs : List Int) (e : Int), (∀ x ∈ xs, x ≤ 9223372036854775807) → (oNum (bs, e) xs).1.length ≤ bs.length + 9 * xs.length
  | [], bs, e, _ => by simp [oNum]
  | x :: xs, bs, e, h => by
    simp only [oNum]
    by_cases he : e ≠ 0
    · rw [if_pos he]; simp
    · rw [if_neg he]
      by_cases h0 : x < 0
      · rw [if_pos h0]; simp
      · rw [if_neg h0]
        have h1 := oNum_len xs (bs ++ numB x.toNat) 0 (fun y hy => h y (by simp [hy]))
        have h2 := numB_len9 (v := x.toNat) (by have := h x (by simp); omega)
        simp at h1 ⊢
        omega
theorem oByte_len : ∀ (xs : List Int) (bs : List Int) (e : Int), (oByte (bs, e) xs).1.length ≤ bs.length + xs.length
  | [], bs, e => by simp [oByte]
  | x :: xs, bs, e => by
    simp only [oByte]
    by_cases he : e ≠ 0
    · rw [if_pos he]; simp
    · rw [if_neg he]
      by_cases h0 : x < 0 ∨ 255 < x
      · rw [if_pos h0]; simp
      · rw [if_neg h0]
        have h1 := oByte_len xs (bs ++ [x]) 0
        simp at h1 ⊢
        omega
theorem oRaw_len : ∀ (xs : List ByteArray) (bs : List Int) (e : Int), (oRaw (bs, e) xs).1.length ≤ bs.length + sumS xs
  | [], bs, e => by simp [oRaw]
  | x :: xs, bs, e => by
    simp only [oRaw]
    by_cases he : e ≠ 0
    · rw [if_pos he]; simp
    · rw [if_neg he]
      have h1 := oRaw_len xs (bs ++ bytesOf x) 0
      simp [bytesOf_length, sumS] at h1 ⊢
      omega
theorem oText_len : ∀ (xs : List ByteArray) (bs : List Int) (e : Int), sumS xs ≤ 20000 → (oText (bs, e) xs).1.length ≤ bs.length + sumS xs + 9 * xs.length
  | [], bs, e, _ => by simp [oText]
  | x :: xs, bs, e, h => by
    have h' : x.size + sumS xs ≤ 20000 := by simpa [sumS] using h
    have h1 := oNum_len1 bs e (x.size : Int) (by omega)
    simp only [oText]
    generalize oNum (bs, e) [(x.size : Int)] = N at h1 ⊢
    obtain ⟨b1, e1⟩ := N
    have h2 := oRaw_len1 b1 e1 x
    generalize oRaw (b1, e1) [x] = N at h2 ⊢
    obtain ⟨b2, e2⟩ := N
    have h3 := oText_len xs b2 e2 (by omega)
    simp [sumS] at h1 h2 h3 ⊢
    omega
theorem oNum_e : ∀ (xs : List Int) (bs : List Int) (e : Int), (e = 0 ∨ e = 1) → ((oNum (bs, e) xs).2 = 0 ∨ (oNum (bs, e) xs).2 = 1)
  | [], bs, e, h => by simpa [oNum] using h
  | x :: xs, bs, e, h => by
    simp only [oNum]
    by_cases he : e ≠ 0
    · rw [if_pos he]; exact h
    · rw [if_neg he]
      by_cases h0 : x < 0
      · rw [if_pos h0]; exact .inr rfl
      · rw [if_neg h0]; exact oNum_e xs _ 0 (.inl rfl)
theorem oByte_e : ∀ (xs : List Int) (bs : List Int) (e : Int), (e = 0 ∨ e = 1) → ((oByte (bs, e) xs).2 = 0 ∨ (oByte (bs, e) xs).2 = 1)
  | [], bs, e, h => by simpa [oByte] using h
  | x :: xs, bs, e, h => by
    simp only [oByte]
    by_cases he : e ≠ 0
    · rw [if_pos he]; exact h
    · rw [if_neg he]
      by_cases h0 : x < 0 ∨ 255 < x
      · rw [if_pos h0]; exact .inr rfl
      · rw [if_neg h0]; exact oByte_e xs _ 0 (.inl rfl)
theorem oRaw_1 : ∀ (xs : List ByteArray) (bs : List Int), oRaw (bs, 0) xs = (bs ++ xs.flatMap bytesOf, 0)
  | [], bs => by simp [oRaw]
  | x :: xs, bs => by simp [oRaw, oRaw_1 xs (bs ++ bytesOf x)]
theorem oText_0 (x : ByteArray) (xs : List ByteArray) (bs : List Int) : oText (bs, 0) (x :: xs) = oText (bs ++ numB x.size ++ bytesOf x, 0) xs := by
  have h : ¬ (x.size : Int) < 0 := by omega
  simp [oText, oNum, oRaw, h]
theorem oText_1 : ∀ (xs : List ByteArray) (bs : List Int), oText (bs, 1) xs = (bs, 1)
  | [], bs => rfl
  | x :: xs, bs => by simp [oText, oNum, oRaw, oText_1 xs bs]
theorem oText_e : ∀ (xs : List ByteArray) (bs : List Int) (e : Int), (e = 0 ∨ e = 1) → (oText (bs, e) xs).2 = e
  | xs, bs, e, .inl h => by
    subst h
    induction xs generalizing bs with
    | nil => rfl
    | cons x xs ih => rw [oText_0]; exact ih _
  | xs, bs, e, .inr h => by subst h; rw [oText_1]
theorem int_at {w : World} {A : Option Addr} {L : List Int} (h : Kd.C (Kd.int .i64) w A L.length L) {k : Nat} (hk : k < L.length) : ∃ a, A = some a ∧ w.cell? (a.add k) = some (.int .i64 L[k]) := by
  obtain ⟨_, _, h3⟩ := h
  obtain ⟨a, rfl, h4⟩ := h3 (by omega)
  obtain ⟨c, h5, h6, h7⟩ := h4 k L[k] (by simp)
  have h8 : c = [Value.int .i64 L[k]] := h6
  subst h8
  exact ⟨a, rfl, by simpa [Kd.int, Kd.scalar] using h7 0 _ rfl⟩
theorem str_at {w : World} {A : Option Addr} {L : List ByteArray} (h : Kd.C Kd.string w A L.length L) {k : Nat} (hk : k < L.length) : ∃ a, A = some a ∧ w.cell? (a.add k) = some (.string L[k]) := by
  obtain ⟨_, _, h3⟩ := h
  obtain ⟨a, rfl, h4⟩ := h3 (by omega)
  obtain ⟨c, h5, h6, h7⟩ := h4 k L[k] (by simp)
  have h8 : c = [Value.string L[k]] := h6
  subst h8
  exact ⟨a, rfl, by simpa [Kd.string, Kd.scalar] using h7 0 _ rfl⟩
theorem size_le_sum (T : List ByteArray) (x : ByteArray) (h : x ∈ T) : x.size ≤ sumS T := by
  induction T with
  | nil => simp at h
  | cons y T ih =>
    have e : sumS (y :: T) = y.size + sumS T := by simp [sumS]
    rw [e]
    rcases List.mem_cons.1 h with rfl | h
    · omega
    · have := ih h
      omega
theorem str_ext {a b : ByteArray} (h : a.data.toList = b.data.toList) : a = b := by
  apply ByteArray.ext
  exact Array.toList_inj.1 h
theorem str_bytesOf (s : ByteArray) : strOfNums (bytesOf s) = s := by
  apply str_ext
  rw [strOfNums_data, bytesOf, List.map_map]
  conv => rhs; rw [← List.map_id s.data.toList]
  apply List.map_congr_left
  intro x _
  simp
theorem reftext_f (x : ByteArray) (hx : x.size ≤ 1000000) : pontoonref1_Text.f 20 x = some (strOfNums (numB x.size ++ bytesOf x)) := by
  have h9 := numB_len9 (v := x.size) (by omega)
  unfold pontoonref1_Text.f
  rw [refnum_f x.size (by omega)]
  show (if (strOfNums (numB x.size)).size + x.size ≤ 9223372036854775807 then some (strOfNums (numB x.size) ++ x) else none) = _
  rw [if_pos (by rw [strOfNums_size]; omega), ← str_app, str_bytesOf]
theorem flat_len : ∀ T : List ByteArray, (T.flatMap bytesOf).length = sumS T
  | [] => rfl
  | x :: T => by simp [bytesOf_length, sumS]
/-- The texts, one behind the other. -/
def joinS (T : List ByteArray) : ByteArray := strOfNums (T.flatMap bytesOf)
theorem joinS_bytes (T : List ByteArray) : joinS T = strOfNums (T.flatMap bytesOf) := rfl
theorem join_l (l : List ByteArray) (hl : l.length ≤ 100000) : ∀ (m i : Nat) (b : List Int), l.length - i ≤ m → i ≤ l.length → b.length + sumS (l.drop i) ≤ 9223372036854775807 →
    pontoonbook_Join.l0 (m + 1) l (strOfNums b) (i : Int) = some (strOfNums (b ++ (l.drop i).flatMap bytesOf))
  | 0, i, b, h1, h2, h3 => by
    unfold pontoonbook_Join.l0
    rw [if_neg (by omega), List.drop_of_length_le (by omega)]
    simp
  | m + 1, i, b, h1, h2, h3 => by
    unfold pontoonbook_Join.l0
    by_cases h : i < l.length
    · have hd := drop_at (show l[i]? = some l[i] by simp)
      have hr : rdOf ByteArray.empty l (i : Int) = l[i] := by simp [rdOf, h]
      rw [hd] at h3 ⊢
      have h3' : b.length + (l[i].size + sumS (l.drop (i + 1))) ≤ 9223372036854775807 := by unfold sumS at h3 ⊢; simpa only [List.map_cons, List.sum_cons] using h3
      have hw : wrap64 ((i : Int) + 1) = ((i + 1 : Nat) : Int) := by unfold wrap64; omega
      rw [if_pos (by omega), if_pos (by omega), hr, if_pos (by rw [strOfNums_size]; omega), hw]
      conv => lhs; rw [← str_bytesOf l[i], str_app]
      rw [join_l l hl m (i + 1) (b ++ bytesOf l[i]) (by omega) (by omega) (by simp [bytesOf_length]; omega)]
      rw [List.flatMap_cons, List.append_assoc]
    · rw [if_neg (by omega), List.drop_of_length_le (by omega)]
      simp
theorem join_ok' (l : List ByteArray) (h1 : l.length ≤ 100000) (h2 : (l.map ByteArray.size).sum ≤ 1000000) : pontoonbook_Join.f (l.length + 1) l = some (joinS l) := by
  have h := join_l l h1 l.length 0 [] (by omega) (by omega) (by rw [List.drop_zero]; unfold sumS; simp; omega)
  have e : strOfNums [] = (⟨#[]⟩ : ByteArray) := rfl
  rw [e] at h
  unfold pontoonbook_Join.f joinS
  simpa using h
theorem LentI.row {B g c : Nat} {w : World} {l : List Int} (h : LentI B w g c l) (hl : l.length ≤ 1000000) : RowAt w (some ⟨g, 0, none⟩) 3 (nums .i64 l) := by
  refine ⟨by simp [nums, maxLen]; omega, .inr ?_⟩
  rcases h.2 with ⟨h1, _⟩ | ⟨g', cap, cur, h1, h2, h3, h4, h5, h6, h7⟩
  · cases h1
  · injection h1 with h1
    injection h1 with h1
    injection h1 with h1
    subst h1
    refine ⟨g, 0, cur, (0, 0), rfl, h3, fun i v hv => ?_⟩
    have hi : i < l.length := by have := (List.getElem?_eq_some_iff.1 hv).1; simpa [nums] using this
    have h8 : (cur.toList.take ((l ++ [imark]).length * 1))[i]? = some v := by
      rw [h7]
      simp only [encs, List.map_append]
      rw [List.getElem?_append_left (by simpa using hi)]
      exact hv
    rw [List.getElem?_take, if_pos (by simp; omega)] at h8
    simpa using h8
theorem LentT.row {B g c : Nat} {w : World} {l : List ByteArray} (h : Lent B w g c l) (hl : l.length ≤ 1000000) : RowAt w (some ⟨g, 0, none⟩) 9 (pw_strs l) := by
  refine ⟨by simp [pw_strs, maxLen]; omega, .inr ?_⟩
  rcases h.2 with ⟨h1, _⟩ | ⟨g', cap, cur, h1, h2, h3, h4, h5, h6, h7⟩
  · cases h1
  · injection h1 with h1
    injection h1 with h1
    injection h1 with h1
    subst h1
    refine ⟨g, 0, cur, (0, 0), rfl, h3, fun i v hv => ?_⟩
    have hi : i < l.length := by have := (List.getElem?_eq_some_iff.1 hv).1; simpa [pw_strs] using this
    have h8 : (cur.toList.take ((l ++ [Go.Proofs.Ytheieigeipppnaa.Lent.mark]).length * 1))[i]? = some v := by
      rw [h7]
      simp only [encs, List.map_append]
      rw [List.getElem?_append_left (by simpa using hi)]
      exact hv
    rw [List.getElem?_take, if_pos (by simp; omega)] at h8
    simpa using h8
set_option maxHeartbeats 8000000 in
set_option maxRecDepth 100000 in
theorem lays_live (A : Option Addr) (c : Nat) (ops : List S63) (w : World) (hops : Kd.C k63 w A ops.length ops) (hwf : ∀ y ∈ ops, WfOp y) (hc : ops.length ≤ c) :
    Calls Try.prog 10 #[.slice A ops.length c] w fun r w' => r = .returned (.bool true) ∧ Below w.heap.size w w' := by
  have HO := Aside0.mk hops
  have HWF := Aside0.mk hwf
  obtain ⟨lr, hlr, hlight⟩ := light_calls A c ops w hops hc
  clear hops hwf
  go_enter Try.func10, Try.ntmps10
  go_wp2_with fail
  refine hlight.mono ?_
  rintro e0 w0 ⟨rfl, hb0⟩
  have HB := Aside0.mk hb0
  clear hb0 hlight
  cases lr with
  | false =>
    go_wp2_with fail
    refine (alive1 _).mono ?_
    rintro e1 w1 ⟨rfl, hb1⟩
    have HB := Aside0.mk (below_step HB.out hb1)
    clear hb1
    go_wp2
    go_ret
    exact ⟨rfl, HB.out⟩
  | true =>
    obtain ⟨hl40, hsh⟩ := hlr rfl
    have HSH := Aside0.mk hsh
    have hl40I : (ops.length : Int) ≤ 40 := by omega
    clear hlr hsh
    go_wp2_with fail
    refine (alive1 _).mono ?_
    rintro e1 w1 ⟨rfl, hb1⟩
    have HB := Aside0.mk (below_step HB.out hb1)
    clear hb1
    have HOu := Aside0.mk (IsOut.new (B := w.heap.size) w1)
    have HB1 := Aside0.mk (below_alloc HB.out (.cells #[.slice none 0 0, .int .i64 0] 33))
    have hg0 := HB.out.size
    go_wp2_with fail
    obtain ⟨g, hg⟩ : ∃ g, g = w1.heap.size := ⟨_, rfl⟩
    rw [← hg] at HOu hg0 ⊢
    clear hg
    go_loopg [4, 5, 6] 40 (fun kq v4 v5 v6 wr => ∃ (i : Nat) (bs : List Int) (e : Int), v4 = .string (strOfNums bs) ∧ v5 = .int .i64 e ∧ v6 = .int .i64 (i : Int) ∧ Aside0 (i ≤ ops.length ∧ kq = 40 - i) ∧ Aside0 (IsOut w.heap.size wr g bs e) ∧ Aside0 (Below w.heap.size w wr) ∧ Aside0 (bs.length ≤ i * 1000000 ∧ (e = 0 ∨ e = 1)))
    case atStart => exact ⟨0, [], 0, rfl, rfl, rfl, ⟨Nat.zero_le _, rfl⟩, HOu, HB1, ⟨by simp, .inl rfl⟩⟩
    case round =>
      obtain ⟨i, bs, e, rfl, rfl, rfl, ⟨hi, hkq⟩, HOr, HBr, HSZ⟩ := hrel
      have HQ := Aside0.mk hkq
      clear hkq HOu HB1
      by_cases hlt : i < ops.length
      · have hi0 : (0 : Int) ≤ (i : Int) := Int.natCast_nonneg _
        have hi1 : (i : Int) < (ops.length : Int) := by omega
        obtain ⟨ad, A2, c2, A3, c3, hA, h0, h1, h2, h3, hc2, hC2, hc3, hC3⟩ := at_T63 HO.out (i : Int) hi0 hi1
        obtain ⟨hs2, hs3, hs4⟩ := HSH.out i hlt
        have hwfi := HWF.out (rd_T63 ops (i : Int)) (by
          have : rd_T63 ops (i : Int) = ops[i] := by simp [rd_T63, hlt]
          rw [this]; exact List.getElem_mem hlt)
        rw [Int.toNat_natCast] at h0 h1 h2 h3
        subst hA
        replace h0 := pw_cell_below HBr.out h0
        replace h1 := pw_cell_below HBr.out h1
        replace h2 := pw_cell_below HBr.out h2
        replace h3 := pw_cell_below HBr.out h3
        obtain ⟨kd, hkd⟩ : ∃ x, x = (rd_T63 ops (i : Int)).f0 := ⟨_, rfl⟩
        obtain ⟨nn, hnn⟩ : ∃ x, x = (rd_T63 ops (i : Int)).f1 := ⟨_, rfl⟩
        obtain ⟨L, hL⟩ : ∃ x, x = (rd_T63 ops (i : Int)).f2 := ⟨_, rfl⟩
        obtain ⟨T, hT⟩ : ∃ x, x = (rd_T63 ops (i : Int)).f3 := ⟨_, rfl⟩
        unfold WfOp at hwfi
        rw [← hL] at h2 hc2 hC2 hs2 hwfi
        rw [← hT] at h3 hc3 hC3 hs3 hs4
        rw [← hkd] at h0
        rw [← hnn] at h1
        have HW2 := Aside0.mk hwfi
        have HC2 := Aside0.mk hC2
        have HC3 := Aside0.mk hC3
        have HS4 := Aside0.mk hs4
        clear hkd hnn hL hT hC2 hC3 hwfi hs4
        go_upto_region 9 with (fail)
        clear h0 h1 h2 h3
        have XQ0 := Aside0.mk (show LY w g wr.heap.size bs e #[.int .i64 kd, .int .i64 nn, .slice A2 L.length c2, .slice A3 T.length c3] (wr.alloc (.cells #[.int .i64 kd, .int .i64 nn, .slice A2 L.length c2, .slice A3 T.length c3] 63)).drew from
          LY.below ⟨HOr.out.alloc _, heap_alloc_new wr _, below_alloc HBr.out _⟩ (below_drew (Below.refl _ _)))
        have hsz0 := HBr.out.size
        have hgw : w.heap.size ≤ g := by omega
        generalize wr.alloc (.cells #[.int .i64 kd, .int .i64 nn, .slice A2 L.length c2, .slice A3 T.length c3] 63) = WA at XQ0 ⊢
        obtain ⟨gx, hgx⟩ : ∃ gx, gx = wr.heap.size := ⟨_, rfl⟩
        rw [← hgx] at XQ0 ⊢
        clear hgx hsz0 HOr HBr
        go_cut [8, 9] from 26 to 191 (fun v8 v9 wc => ∃ gm cm gn cn : Nat, v8 = .slice (some ⟨gm, 0, none⟩) L.length cm ∧ v9 = .slice (some ⟨gn, 0, none⟩) T.length cn ∧ Aside0 (LZ w g gx (bs, e) #[.int .i64 kd, .int .i64 nn, .slice A2 L.length c2, .slice A3 T.length c3] gm cm L gn cn T wc))
        case first =>
          refine wp_region_held_drew (S := LY w g gx bs e #[.int .i64 kd, .int .i64 nn, .slice A2 L.length c2, .slice A3 T.length c3]) (by kernel_rfl) (by exact XQ0.out) (fun hHeld => ?_)
          refine takeH (i := 0) (d := 36) (v := (.pointer (some ⟨gx, 2, none⟩))) rfl rfl (by kernel_rfl) (by kernel_rfl) (by kernel_rfl) (fun _ _ _ h => h) (Or.inl ⟨by kernel_rfl, by intro w hSw; (try dsimp only at hSw); go_simp; done⟩) (by assumption) ?_
          try simp only [List.setIfInBounds_toArray, List.set_cons_zero, List.set_cons_succ]
          refine takeH (i := 1) (d := 37) (v := (.slice A2 L.length c2)) rfl rfl (by kernel_rfl) (by kernel_rfl) (by kernel_rfl) (fun _ _ _ h => h) (Or.inl ⟨by kernel_rfl, by intro w hSw; (try dsimp only at hSw); have hq := hSw.x; have c2 := blk_cell hq 2; simp only [List.getElem?_toArray, List.getElem?_cons_zero, List.getElem?_cons_succ] at c2; clear hq; go_simp; done⟩) (by assumption) ?_
          try simp only [List.setIfInBounds_toArray, List.set_cons_zero, List.set_cons_succ]
          refine takeH (i := 3) (d := 39) (v := (.pointer (some ⟨gx, 3, none⟩))) rfl rfl (by kernel_rfl) (by kernel_rfl) (by kernel_rfl) (fun _ _ _ h => h) (Or.inl ⟨by kernel_rfl, by intro w hSw; (try dsimp only at hSw); go_simp; done⟩) (by assumption) ?_
          try simp only [List.setIfInBounds_toArray, List.set_cons_zero, List.set_cons_succ]
          refine takeH (i := 4) (d := 40) (v := (.slice A3 T.length c3)) rfl rfl (by kernel_rfl) (by kernel_rfl) (by kernel_rfl) (fun _ _ _ h => h) (Or.inl ⟨by kernel_rfl, by intro w hSw; (try dsimp only at hSw); have hq := hSw.x; have c2 := blk_cell hq 3; simp only [List.getElem?_toArray, List.getElem?_cons_zero, List.getElem?_cons_succ] at c2; clear hq; go_simp; done⟩) (by assumption) ?_
          try simp only [List.setIfInBounds_toArray, List.set_cons_zero, List.set_cons_succ]
          refine wpAnyH_ready (rs := [2]) (by kernel_rfl) (by simp) ?_
          refine AllReadyH.cons (o := { dst := some 38, op := Op.call { callee := Callee.value (Operand.func 44), args := #[Operand.tmp 37], argTypes := #[61] }, type := 61, pos := "law.go:50", after := #[{ on := 1, ground := Ground.data }], guard := none }) rfl (fun K hK => ?_) AllReadyH.nil
          rw [if_pos (by kernel_rfl)]
          go_simp
          refine (lentI_calls A2 c2 L _ (Kd.C_below HC2.out XQ0.out.b) (by omega)).mono ?_
          rintro e1 w1 ⟨gm, cm, rfl, hLM, hb1⟩
          have XQ1 := Aside0.mk (XQ0.out.below hb1)
          have HLM := Aside0.mk (LentI.mono0 hLM)
          try have HLN := Aside0.mk (Lent.below HLN.out hb1)
          clear hLM hb1
          clear hHeld
          refine hK.out _ _ (XQ1.out) (fun hHeld => ?_)
          clear hK K
          try simp only [Act.put, List.setIfInBounds_toArray, List.set_cons_zero, List.set_cons_succ]
          refine wpAnyH_ready (rs := [5]) (by kernel_rfl) (by simp) ?_
          refine AllReadyH.cons (o := { dst := some 41, op := Op.call { callee := Callee.value (Operand.func 32), args := #[Operand.tmp 40], argTypes := #[44] }, type := 44, pos := "law.go:50", after := #[{ on := 4, ground := Ground.data }, { on := 2, ground := Ground.chain }], guard := none }) rfl (fun K hK => ?_) AllReadyH.nil
          rw [if_pos (by kernel_rfl)]
          go_simp
          refine (lent_calls A3 c3 T _ (Kd.C_below HC3.out XQ1.out.b) (by omega)).mono ?_
          rintro e2 w2 ⟨gn, cn, rfl, hLN, hb2⟩
          have XQ2 := Aside0.mk (XQ1.out.below hb2)
          have HLN := Aside0.mk (LentT.mono0 hLN)
          try have HLM := Aside0.mk (HLM.out.below hb2)
          clear hLN hb2
          clear hHeld
          refine hK.out _ _ (XQ2.out) (fun hHeld => ?_)
          clear hK K
          try simp only [Act.put, List.setIfInBounds_toArray, List.set_cons_zero, List.set_cons_succ]
          refine takeH (i := 6) (d := 8) (v := (.slice (some ⟨gm, 0, none⟩) L.length cm)) rfl rfl (by kernel_rfl) (by kernel_rfl) (by kernel_rfl) (fun _ _ _ h => h) (Or.inl ⟨by kernel_rfl, by intro w hSw; (try dsimp only at hSw); go_simp; done⟩) (by assumption) ?_
          try simp only [List.setIfInBounds_toArray, List.set_cons_zero, List.set_cons_succ]
          refine takeH (i := 7) (d := 9) (v := (.slice (some ⟨gn, 0, none⟩) T.length cn)) rfl rfl (by kernel_rfl) (by kernel_rfl) (by kernel_rfl) (fun _ _ _ h => h) (Or.inl ⟨by kernel_rfl, by intro w hSw; (try dsimp only at hSw); go_simp; done⟩) (by assumption) ?_
          try simp only [List.setIfInBounds_toArray, List.set_cons_zero, List.set_cons_succ]
          refine wpAnyH_done (by kernel_rfl) ?_ _
          have XF := XQ2
          clear hHeld
          go_wp2
          go_meet
          case rel => exact ⟨gm, cm, gn, cn, rfl, rfl, ⟨⟨XF.out, HLM.out, HLN.out⟩⟩⟩
        case rest =>
          obtain ⟨gm, cm, gn, cn, rfl, rfl, HZ⟩ := hcut
          clear XQ0
          have x0 : wc.cell? ⟨gx, 0, none⟩ = some (.int .i64 kd) := (blk_cell HZ.out.y.x 0).trans rfl
          go_upto_block 2 with (fail)
          clear x0
          have hbl : bs.length ≤ 40000000 := by have := HSZ.out.1; omega
          go_cut [4, 5, 10, 11, 12, 13] from 26 to 191 (fun v4 v5 v10 v11 v12 v13 wd => ∃ F : List Int × Int, v4 = .string (strOfNums F.1) ∧ v5 = .int .i64 F.2 ∧ v10 = .pointer (some ⟨g, 0, none⟩) ∧ Aside0 (F.1.length ≤ bs.length + 1000000 ∧ (F.2 = 0 ∨ F.2 = 1)) ∧ Aside0 (LZ w g gx F #[.int .i64 kd, .int .i64 nn, .slice A2 L.length c2, .slice A3 T.length c3] gm cm L gn cn T wd))
          case first =>
            by_cases hk1 : kd = 1
            · subst hk1
              as_aux_lemma =>
                go_wp2_with fail
                refine (num_calls' w.heap.size g gm 0 bs e cm L wc HZ.out.y.o HZ.out.y.b.size (LentI.row HZ.out.m (by omega)) (by omega) (fun x hx => (lit_le (HW2.out x hx)).2)).mono ?_
                rintro e2 w2 ⟨rfl, hO2, hF2⟩
                have HZ2 := Aside0.mk (HZ.out.wrote hO2 hF2 hgw)
                clear hO2 hF2
                have HFl := Aside0.mk (And.intro (oNum_len L bs e (fun x hx => (lit_le (HW2.out x hx)).2)) (oNum_e L bs e HSZ.out.2))
                obtain ⟨F, hF⟩ : ∃ F, F = oNum (bs, e) L := ⟨_, rfl⟩
                rw [← hF] at HZ2 HFl
                have HFe := Aside0.mk hF
                clear hF
                go_wp2_with fail
                go_loopg [4, 5, 11] L.length (fun kq v4 v5 v11 wq => ∃ (k : Nat) (bk : List Int) (ek : Int), v4 = .string (strOfNums bk) ∧ v5 = .int .i64 ek ∧ v11 = .int .i64 (k : Int) ∧ Aside0 (k ≤ L.length ∧ kq = L.length - k ∧ (ek = 0 ∨ ek = 1) ∧ oNum (bk, ek) (L.drop k) = F ∧ bk.length ≤ bs.length + 9 * k) ∧ Aside0 (LZ w g gx F #[.int .i64 1, .int .i64 nn, .slice A2 L.length c2, .slice A3 T.length c3] gm cm L gn cn T wq))
                case atStart => exact ⟨0, bs, e, rfl, rfl, rfl, ⟨Nat.zero_le _, rfl, HSZ.out.2, by rw [List.drop_zero, HFe.out], by omega⟩, HZ2⟩
                case round =>
                  obtain ⟨k, bk, ek, rfl, rfl, rfl, HK, HZq⟩ := hrel
                  clear HZ2
                  have x2 : wr.cell? ⟨gx, 2, none⟩ = some (.slice A2 L.length c2) := (blk_cell HZq.out.y.x 2).trans rfl
                  have hk0 : (0 : Int) ≤ (k : Int) := Int.natCast_nonneg _
                  have hll : L.length ≤ 9223372036854775807 := by omega
                  by_cases hkl : k < L.length
                  · obtain ⟨a2, hA2, hc⟩ := int_at (Kd.C_below HC2.out HZq.out.y.b) hkl
                    have hxm := lit_le (HW2.out L[k] (List.getElem_mem hkl))
                    have HD := Aside0.mk (drop_at (show L[k]? = some L[k] by simp))
                    obtain ⟨x, hx⟩ : ∃ x, x = L[k] := ⟨_, rfl⟩
                    rw [← hx] at hc hxm HD
                    clear hx
                    subst hA2
                    have hkI : (k : Int) < (L.length : Int) := by omega
                    obtain ⟨h1, h2, h3, h4, h5⟩ := HK.out
                    have H4 := Aside0.mk h4
                    have HQ3 := Aside0.mk h2
                    clear h2 h4
                    rcases h3 with rfl | rfl
                    · by_cases hx0 : x < 0
                      · go_wp2
                        go_roundg (L.length - (k + 1))
                        case measure => have := HQ3.out; omega
                        case rel => exact ⟨k + 1, bk, 1, rfl, rfl, by go_num, ⟨by omega, rfl, .inr rfl, by have := H4.out; rw [HD.out] at this; rw [oNum_err (by decide)]; simpa [oNum, hx0] using this, by omega⟩, HZq⟩
                      · have hxn : (x.toNat : Int) = x := by omega
                        have hrf := refnum_f x.toNat (by omega)
                        rw [hxn] at hrf
                        have hn9 := numB_len9 (v := x.toNat) (by omega)
                        have HRF := Aside0.mk hrf
                        clear hrf
                        go_wp2_with fail
                        refine (pontoonref1_Num.calls 20 x _ wr HRF.out).mono ?_
                        rintro e3 w3 ⟨rfl, hb3⟩
                        have HZ3 := Aside0.mk (HZq.out.below hb3)
                        clear hb3
                        have hsz : (strOfNums bk).size + (strOfNums (numB x.toNat)).size ≤ 9223372036854775807 := by rw [strOfNums_size, strOfNums_size]; omega
                        go_wp2
                        go_roundg (L.length - (k + 1))
                        case measure => have := HQ3.out; omega
                        case rel => exact ⟨k + 1, bk ++ numB x.toNat, 0, by rw [str_app], rfl, by go_num, ⟨by omega, rfl, .inl rfl, by have := H4.out; rw [HD.out] at this; simp only [oNum] at this; rw [if_neg (by omega), if_neg (by omega)] at this; exact this, by simp; omega⟩, HZ3⟩
                    · go_wp2
                      go_meet
                      have h6 := H4.out
                      rw [oNum_err (by decide)] at h6
                      case rel => exact ⟨F, by rw [← h6], by rw [← h6], rfl, ⟨by have := HFl.out.1; omega, HFl.out.2⟩, HZq⟩
                  · obtain ⟨h1, h2, h3, h4, h5⟩ := HK.out
                    rw [List.drop_of_length_le (by omega)] at h4
                    have H4 := Aside0.mk h4
                    clear h2 h4 h3
                    obtain rfl : k = L.length := by omega
                    go_wp2
                    go_meet
                    have h6 := H4.out
                    simp only [oNum] at h6
                    case rel => exact ⟨F, by rw [← h6], by rw [← h6], rfl, ⟨by have := HFl.out.1; omega, HFl.out.2⟩, HZq⟩
            ·
              by_cases hk2 : kd = 2
              · subst hk2
                as_aux_lemma =>
                  go_wp2_with fail
                  refine (byte_calls' w.heap.size g gm 0 bs e cm L wc HZ.out.y.o HZ.out.y.b.size (LentI.row HZ.out.m (by omega)) (by omega)).mono ?_
                  rintro e2 w2 ⟨rfl, hO2, hF2⟩
                  have HZ2 := Aside0.mk (HZ.out.wrote hO2 hF2 hgw)
                  clear hO2 hF2
                  have HFl := Aside0.mk (And.intro (oByte_len L bs e) (oByte_e L bs e HSZ.out.2))
                  obtain ⟨F, hF⟩ : ∃ F, F = oByte (bs, e) L := ⟨_, rfl⟩
                  rw [← hF] at HZ2 HFl
                  have HFe := Aside0.mk hF
                  clear hF
                  go_wp2_with fail
                  go_loopg [4, 5, 12] L.length (fun kq v4 v5 v12 wq => ∃ (k : Nat) (bk : List Int) (ek : Int), v4 = .string (strOfNums bk) ∧ v5 = .int .i64 ek ∧ v12 = .int .i64 (k : Int) ∧ Aside0 (k ≤ L.length ∧ kq = L.length - k ∧ (ek = 0 ∨ ek = 1) ∧ oByte (bk, ek) (L.drop k) = F ∧ bk.length ≤ bs.length + k) ∧ Aside0 (LZ w g gx F #[.int .i64 2, .int .i64 nn, .slice A2 L.length c2, .slice A3 T.length c3] gm cm L gn cn T wq))
                  case atStart => exact ⟨0, bs, e, rfl, rfl, rfl, ⟨Nat.zero_le _, rfl, HSZ.out.2, by rw [List.drop_zero, HFe.out], by omega⟩, HZ2⟩
                  case round =>
                    obtain ⟨k, bk, ek, rfl, rfl, rfl, HK, HZq⟩ := hrel
                    clear HZ2
                    have x2 : wr.cell? ⟨gx, 2, none⟩ = some (.slice A2 L.length c2) := (blk_cell HZq.out.y.x 2).trans rfl
                    have hk0 : (0 : Int) ≤ (k : Int) := Int.natCast_nonneg _
                    have hll : L.length ≤ 9223372036854775807 := by omega
                    by_cases hkl : k < L.length
                    · obtain ⟨a2, hA2, hc⟩ := int_at (Kd.C_below HC2.out HZq.out.y.b) hkl
                      have hxm := lit_le (HW2.out L[k] (List.getElem_mem hkl))
                      have HD := Aside0.mk (drop_at (show L[k]? = some L[k] by simp))
                      obtain ⟨x, hx⟩ : ∃ x, x = L[k] := ⟨_, rfl⟩
                      rw [← hx] at hc hxm HD
                      clear hx
                      subst hA2
                      have hkI : (k : Int) < (L.length : Int) := by omega
                      obtain ⟨h1, h2, h3, h4, h5⟩ := HK.out
                      have H4 := Aside0.mk h4
                      have HQ3 := Aside0.mk h2
                      clear h2 h4
                      rcases h3 with rfl | rfl
                      · by_cases hx0 : x < 0
                        · go_wp2
                          go_roundg (L.length - (k + 1))
                          case measure => have := HQ3.out; omega
                          case rel => exact ⟨k + 1, bk, 1, rfl, rfl, by go_num, ⟨by omega, rfl, .inr rfl, by have := H4.out; rw [HD.out] at this; rw [oByte_err (by decide)]; simpa [oByte, hx0] using this, by omega⟩, HZq⟩
                        · by_cases hx2 : 255 < x
                          · go_wp2
                            go_roundg (L.length - (k + 1))
                            case measure => have := HQ3.out; omega
                            case rel => exact ⟨k + 1, bk, 1, rfl, rfl, by go_num, ⟨by omega, rfl, .inr rfl, by have := H4.out; rw [HD.out] at this; rw [oByte_err (by decide)]; simpa [oByte, hx2] using this, by omega⟩, HZq⟩
                          · have hxw : IntKind.u8.wrap x = x := by show x % 256 = x; omega
                            have hcv : (convert 30 9 (.slice (some ⟨wr.heap.size, 0, none⟩) 1 1)).run Try.prog (wr.alloc (.cells #[.int .u8 x] 5)) = .ok (.string (strOfNums [x])) (wr.alloc (.cells #[.int .u8 x] 5)) := own_string (P := Try.prog) (src := 30) (dst := 9) Try.underlying30 Try.underlying5 Try.underlying9 (own_lit wr 0 5 .u8 [x] (Nat.zero_le _) (by simp))
                            have HZ3 := Aside0.mk (HZq.out.below (below_alloc (Below.refl _ _) (.cells #[.int .u8 x] 5)))
                            have hsz : (strOfNums bk).size + (strOfNums [x]).size ≤ 9223372036854775807 := by rw [strOfNums_size, strOfNums_size]; simp; omega
                            go_wp2
                            go_roundg (L.length - (k + 1))
                            case measure => have := HQ3.out; omega
                            case rel => exact ⟨k + 1, bk ++ [x], 0, by rw [str_app], rfl, by go_num, ⟨by omega, rfl, .inl rfl, by have := H4.out; rw [HD.out] at this; simp only [oByte] at this; rw [if_neg (by simp), if_neg (by omega)] at this; exact this, by simp; omega⟩, HZ3⟩
                      · go_wp2
                        go_meet
                        have h6 := H4.out
                        rw [oByte_err (by decide)] at h6
                        case rel => exact ⟨F, by rw [← h6], by rw [← h6], rfl, ⟨by have := HFl.out.1; omega, HFl.out.2⟩, HZq⟩
                    · obtain ⟨h1, h2, h3, h4, h5⟩ := HK.out
                      rw [List.drop_of_length_le (by omega)] at h4
                      have H4 := Aside0.mk h4
                      clear h2 h4 h3
                      obtain rfl : k = L.length := by omega
                      go_wp2
                      go_meet
                      have h6 := H4.out
                      simp only [oByte] at h6
                      case rel => exact ⟨F, by rw [← h6], by rw [← h6], rfl, ⟨by have := HFl.out.1; omega, HFl.out.2⟩, HZq⟩
              ·
                by_cases hk3 : kd = 3
                · subst hk3
                  as_aux_lemma =>
                    have hsT : sumS T ≤ 20000 := HS4.out
                    go_wp2_with fail
                    refine (text_calls' w.heap.size g gn 0 bs e cn T wc HZ.out.y.o HZ.out.y.b.size (LentT.row HZ.out.n (by omega)) (by omega)).mono ?_
                    rintro e2 w2 ⟨rfl, hO2, hF2⟩
                    have HZ2 := Aside0.mk (HZ.out.wrote hO2 hF2 hgw)
                    clear hO2 hF2
                    have HFl := Aside0.mk (And.intro (oText_len T bs e hsT) (oText_e T bs e HSZ.out.2))
                    obtain ⟨F, hF⟩ : ∃ F, F = oText (bs, e) T := ⟨_, rfl⟩
                    rw [← hF] at HZ2 HFl
                    have HFe := Aside0.mk hF
                    clear hF
                    go_wp2_with fail
                    go_loopg [4, 13] T.length (fun kq v4 v13 wq => ∃ (k : Nat) (bk : List Int), v4 = .string (strOfNums bk) ∧ v13 = .int .i64 (k : Int) ∧ Aside0 (k ≤ T.length ∧ kq = T.length - k ∧ oText (bk, e) (T.drop k) = F ∧ bk.length ≤ bs.length + 20009 * k) ∧ Aside0 (LZ w g gx F #[.int .i64 3, .int .i64 nn, .slice A2 L.length c2, .slice A3 T.length c3] gm cm L gn cn T wq))
                    case atStart => exact ⟨0, bs, rfl, rfl, ⟨Nat.zero_le _, rfl, by rw [List.drop_zero, HFe.out], by omega⟩, HZ2⟩
                    case round =>
                      obtain ⟨k, bk, rfl, rfl, HK, HZq⟩ := hrel
                      clear HZ2
                      have x3 : wr.cell? ⟨gx, 3, none⟩ = some (.slice A3 T.length c3) := (blk_cell HZq.out.y.x 3).trans rfl
                      have hk0 : (0 : Int) ≤ (k : Int) := Int.natCast_nonneg _
                      have hll : T.length ≤ 9223372036854775807 := by omega
                      obtain ⟨h1, h2, h4, h5⟩ := HK.out
                      by_cases hkl : k < T.length
                      · obtain ⟨a3, hA3, hc⟩ := str_at (Kd.C_below HC3.out HZq.out.y.b) hkl
                        have hxm := size_le_sum T T[k] (List.getElem_mem hkl)
                        have HD := Aside0.mk (drop_at (show T[k]? = some T[k] by simp))
                        obtain ⟨x, hx⟩ : ∃ x, x = T[k] := ⟨_, rfl⟩
                        rw [← hx] at hc hxm HD
                        clear hx
                        subst hA3
                        have hkI : (k : Int) < (T.length : Int) := by omega
                        have H4 := Aside0.mk h4
                        have HQ3 := Aside0.mk h2
                        clear h2 h4
                        rcases HSZ.out.2 with he0 | he1
                        · subst he0
                          have hrf := reftext_f x (by omega)
                          have hn9 := numB_len9 (v := x.size) (by omega)
                          have HRF := Aside0.mk hrf
                          clear hrf
                          go_wp2_with fail
                          refine (pontoonref1_Text.calls 20 x _ wr HRF.out).mono ?_
                          rintro e3 w3 ⟨rfl, hb3⟩
                          have HZ3 := Aside0.mk (HZq.out.below hb3)
                          clear hb3
                          have hsz : (strOfNums bk).size + (strOfNums (numB x.size ++ bytesOf x)).size ≤ 9223372036854775807 := by rw [strOfNums_size, strOfNums_size]; simp [bytesOf_length]; omega
                          go_wp2
                          go_roundg (T.length - (k + 1))
                          case measure => have := HQ3.out; omega
                          case rel => exact ⟨k + 1, bk ++ (numB x.size ++ bytesOf x), by rw [str_app], by go_num, ⟨by omega, rfl, by have := H4.out; rw [HD.out, oText_0] at this; rw [← List.append_assoc]; exact this, by simp [bytesOf_length]; omega⟩, HZ3⟩
                        · subst he1
                          go_wp2
                          go_meet
                          have h6 := H4.out
                          rw [oText_1] at h6
                          case rel => exact ⟨F, by rw [← h6], by rw [← h6], rfl, ⟨by have := HFl.out.1; omega, by have := HFl.out.2; omega⟩, HZq⟩
                      · rw [List.drop_of_length_le (by omega)] at h4
                        have H4 := Aside0.mk h4
                        clear h2 h4
                        obtain rfl : k = T.length := by omega
                        go_wp2
                        go_meet
                        have h6 := H4.out
                        simp only [oText] at h6
                        case rel => exact ⟨F, by rw [← h6], by rw [← h6], rfl, ⟨by have := HFl.out.1; omega, by have := HFl.out.2; have := HSZ.out.2; omega⟩, HZq⟩
                ·
                  as_aux_lemma =>
                    have hsT : sumS T ≤ 20000 := HS4.out
                    go_wp2_with fail
                    refine (raw_calls' w.heap.size g gn 0 bs e cn T wc HZ.out.y.o HZ.out.y.b.size (LentT.row HZ.out.n (by omega)) (by omega)).mono ?_
                    rintro e2 w2 ⟨rfl, hO2, hF2⟩
                    have HZ2 := Aside0.mk (HZ.out.wrote hO2 hF2 hgw)
                    clear hO2 hF2
                    have hFl := oRaw_len T bs e
                    rcases HSZ.out.2 with he0 | he1
                    · subst he0
                      have hE := oRaw_1 T bs
                      rw [hE] at HZ2 hFl
                      have x3 : w2.cell? ⟨gx, 3, none⟩ = some (.slice A3 T.length c3) := (blk_cell HZ2.out.y.x 3).trans rfl
                      have HFl := Aside0.mk hFl
                      clear hFl hE
                      go_wp2_with fail
                      refine (pontoonbook_Join.calls _ A3 c3 T (joinS T) _ (Kd.C_below HC3.out HZ2.out.y.b) hc3 (join_ok' T (by omega) (by have := HS4.out; omega))).mono ?_
                      rintro e3 w3 ⟨rfl, n3, rfl⟩
                      have HZ3 := Aside0.mk (HZ2.out.below (pw_below_drewN (Below.refl _ _) n3))
                      rw [joinS_bytes]
                      have hfm : (T.flatMap bytesOf).length ≤ 1000000 := by have := HFl.out; have := HS4.out; have h7 := flat_len T; unfold sumS at h7 hsT; omega
                      have hsz : (strOfNums bs).size + (strOfNums (T.flatMap bytesOf)).size ≤ 9223372036854775807 := by rw [strOfNums_size, strOfNums_size]; omega
                      go_wp2
                      go_meet
                      case rel => exact ⟨_, by rw [str_app], rfl, rfl, ⟨by simp only [List.length_append]; omega, .inl rfl⟩, HZ3⟩
                    · subst he1
                      have hE := oRaw_err (e := 1) (bs := bs) (by decide) T
                      rw [hE] at HZ2
                      go_wp2
                      go_meet
                      case rel => exact ⟨_, rfl, rfl, rfl, ⟨by simp, .inr rfl⟩, HZ2⟩
          case rest =>
            obtain ⟨⟨fb, fe⟩, rfl, rfl, rfl, HFB, HZd⟩ := hcut
            clear HZ
            have hneq := neq_out ⟨g, 0, none⟩
            rcases HFB.out.2 with h0 | h0
            · subst h0
              go_wp2_with fail
              refine (end_ok w.heap.size g fb wc HZd.out.y.o).mono ?_
              rintro e4 w4 ⟨rfl, rfl⟩
              have HZ4 := HZd
              generalize wc = W4 at HZ4 ⊢
              have x2 : W4.cell? ⟨gx, 2, none⟩ = some (.slice A2 L.length c2) := (blk_cell HZ4.out.y.x 2).trans rfl
              go_wp2_with fail
              clear x2
              refine (staysI_calls 0 gm cm A2 c2 L _ HZ4.out.m (Kd.C_below HC2.out HZ4.out.y.b) hc2 (by omega)).mono ?_
              rintro e5 w5 ⟨rfl, n5, rfl⟩
              have HZ5 := Aside0.mk (HZ4.out.below (pw_below_drewN (Below.refl _ _) n5))
              generalize W4.drewN n5 = W5 at HZ5 ⊢
              have x3 : W5.cell? ⟨gx, 3, none⟩ = some (.slice A3 T.length c3) := (blk_cell HZ5.out.y.x 3).trans rfl
              go_wp2_with fail
              clear x3
              refine (stays_calls 0 gn cn A3 c3 T _ HZ5.out.n (Kd.C_below HC3.out HZ5.out.y.b) hc3 (by omega)).mono ?_
              rintro e6 w6 ⟨rfl, n6, rfl⟩
              have HZ6 := Aside0.mk (HZ5.out.below (pw_below_drewN (Below.refl _ _) n6))
              generalize W5.drewN n6 = W6 at HZ6 ⊢
              go_wp2
              go_roundg (40 - (i + 1))
              case measure => have := HQ.out; omega
              case rel => exact ⟨i + 1, fb, 0, rfl, rfl, by go_num, ⟨by omega, rfl⟩, ⟨HZ6.out.y.o⟩, ⟨HZ6.out.y.b⟩, ⟨by have := HFB.out.1; have := HSZ.out.1; omega, by simp⟩⟩
            · subst h0
              go_wp2_with fail
              refine (end_err w.heap.size g fb 1 (by decide) wc HZd.out.y.o).mono ?_
              rintro e4 w4 ⟨rfl, n4, rfl⟩
              have HZ4 := Aside0.mk (HZd.out.below (pw_below_drewN (Below.refl _ _) n4))
              generalize wc.drewN n4 = W4 at HZ4 ⊢
              have x2 : W4.cell? ⟨gx, 2, none⟩ = some (.slice A2 L.length c2) := (blk_cell HZ4.out.y.x 2).trans rfl
              go_wp2_with fail
              clear x2
              refine (staysI_calls 0 gm cm A2 c2 L _ HZ4.out.m (Kd.C_below HC2.out HZ4.out.y.b) hc2 (by omega)).mono ?_
              rintro e5 w5 ⟨rfl, n5, rfl⟩
              have HZ5 := Aside0.mk (HZ4.out.below (pw_below_drewN (Below.refl _ _) n5))
              generalize W4.drewN n5 = W5 at HZ5 ⊢
              have x3 : W5.cell? ⟨gx, 3, none⟩ = some (.slice A3 T.length c3) := (blk_cell HZ5.out.y.x 3).trans rfl
              go_wp2_with fail
              clear x3
              refine (stays_calls 0 gn cn A3 c3 T _ HZ5.out.n (Kd.C_below HC3.out HZ5.out.y.b) hc3 (by omega)).mono ?_
              rintro e6 w6 ⟨rfl, n6, rfl⟩
              have HZ6 := Aside0.mk (HZ5.out.below (pw_below_drewN (Below.refl _ _) n6))
              generalize W5.drewN n6 = W6 at HZ6 ⊢
              go_wp2
              go_roundg (40 - (i + 1))
              case measure => have := HQ.out; omega
              case rel => exact ⟨i + 1, fb, 1, rfl, rfl, by go_num, ⟨by omega, rfl⟩, ⟨HZ6.out.y.o⟩, ⟨HZ6.out.y.b⟩, ⟨by have := HFB.out.1; have := HSZ.out.1; omega, by simp⟩⟩
      · obtain rfl : i = ops.length := by omega
        go_wp2
        go_ret
        exact ⟨rfl, HBr.out⟩
theorem lays_row (A : Option Addr) (c : Nat) (ops : List S63) (w : World) (h : Kd.C k63 w A ops.length ops ∧ ∀ y ∈ ops, WfOp y) (hc : ops.length ≤ c) :
    Calls Try.prog 10 #[.slice A ops.length c] w fun r w' => r = .returned (.bool true) ∧ Below w.heap.size w w' := lays_live A c ops w h.1 h.2 hc
end Go.Proofs.Ytheieigeipppnaa.Lays
