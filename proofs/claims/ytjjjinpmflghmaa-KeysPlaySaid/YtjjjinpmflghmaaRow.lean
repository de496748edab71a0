/- Rows of a call's own, of elements of any type and size: their form, what keeps them, and what a call on an object with one such row turns. Conditions: those in each theorem. -/
import Derived.Test.YtjjjinpmflghmaaMem
import Derived.Test.YtjjjinpmflghmaaWWords
namespace Go.Proofs.Ytjjjinpmflghmaa.Row
open Go.RowKit Go.Proofs.Ytjjjinpmflghmaa.Mem Go.Proofs.YtjjjinpmflghmaaW.PrintWords
set_option linter.unusedVariables false
set_option linter.unusedSimpArgs false
section
variable {w w' : World} {B s n : Nat} {e : TypeId} {v : Value} {xs : List Value}
theorem row_form (h : w.ownsRow B e s v n xs) : (v = .slice none 0 0 ∧ n = 0 ∧ xs = []) ∨ ∃ b c, v = .slice (some ⟨b, 0, none⟩) n c ∧ n ≤ c ∧ c ≤ maxLen ∧ B ≤ b ∧ b < w.heap.size ∧ (∀ j u, xs[j]? = some u → w.cell? ⟨b, j, none⟩ = some u) ∧ ∀ j, w.frozen? ⟨b, j, none⟩ = false := by
  have hlt := own_lt h
  obtain ⟨hl, h⟩ := h
  rcases h with ⟨h1, h2⟩ | ⟨g, cap, cur, rfl, h3, h4, h5, h6, h7, h8⟩
  · exact .inl ⟨h1, h2, List.length_eq_zero_iff.1 (by rw [hl, h2, Nat.zero_mul])⟩
  · refine .inr ⟨g, cap, rfl, h5, h6, h3, hlt g rfl, fun j u hj => ?_, fun j => by simp [World.frozen?, h4]⟩
    rw [cell_of_row w g j cur e (0, 0) h4]
    rw [← h8, List.getElem?_take] at hj
    split at hj
    · simpa using hj
    · cases hj
theorem row_sl (h : w.ownsRow B e s v n xs) : ∃ A c, v = .slice A n c := by
  rcases row_form h with ⟨h1, h2, _⟩ | ⟨b, c, h1, _⟩
  · exact ⟨none, 0, by rw [h1, h2]⟩
  · exact ⟨_, _, h1⟩
theorem row_only {gs : List Nat} (h : w.ownsRow B e s v n xs) (ho : Only gs w w') (hv : ∀ k, v.ownBlock = some k → k ∉ gs) : w'.ownsRow B e s v n xs := by
  have hlt := own_lt h
  refine ⟨h.1, h.2.imp id ?_⟩
  rintro ⟨g', cap, cur, rfl, h2, h3, h4⟩
  exact ⟨g', cap, cur, rfl, h2, (ho.block g' (hlt g' rfl) (hv g' rfl)).trans h3, h4⟩
theorem row_zero (h : w.ownsRow B e s v n xs) : w.ownsRow 0 e s v n xs := ⟨h.1, h.2.imp id (fun ⟨g, cap, cur, h1, h2, h3⟩ => ⟨g, cap, cur, h1, Nat.zero_le _, h3⟩)⟩
end
/-- What a call on an object turns: its block, its row; that row is the same block, or a new one. -/
structure Turn (g : Nat) (v : Value) (w w' : World) (v' : Value) : Prop where
  o : Only (g :: v.ownBlock.toList) w w'
  n : ∀ k, v'.ownBlock = some k → v.ownBlock = some k ∨ w.heap.size ≤ k
theorem Turn.refl (g : Nat) (v : Value) (w : World) : Turn g v w w v := ⟨Only.refl _ _, fun k hk => .inl hk⟩
theorem Turn.trans {g : Nat} {v v' v'' : Value} {a b c : World} (h : Turn g v a b v') (k : Turn g v' b c v'') : Turn g v a c v'' :=
  ⟨⟨k.o.os.trans h.o.os, k.o.tape.trans h.o.tape, k.o.output.trans h.o.output, Nat.le_trans h.o.size k.o.size, fun i hi hn => (k.o.block i (Nat.lt_of_lt_of_le hi h.o.size) (fun he => by
      rcases List.mem_cons.1 he with rfl | he
      · exact hn (by simp)
      · have he' : v'.ownBlock = some i := by simpa using he
        rcases h.n i he' with h1 | h1
        · exact hn (by simp [h1])
        · omega)).trans (h.o.block i hi hn)⟩,
   fun i hi => by
    rcases k.n i hi with h1 | h1
    · exact h.n i h1
    · exact .inr (Nat.le_trans h.o.size h1)⟩
theorem Turn.below {g : Nat} {v v' : Value} {a b c : World} (h : Turn g v a b v') (hb : Below b.heap.size b c) : Turn g v a c v' := ⟨h.o.below hb, h.n⟩
theorem Turn.of_below {g : Nat} {v : Value} {a b : World} (hb : Below a.heap.size a b) : Turn g v a b v := (Turn.refl g v a).below hb
theorem Turn.set_ {g : Nat} {v v' : Value} {a b : World} (h : Turn g v a b v') (i : Nat) (u : Value) : Turn g v a (b.setCell ⟨g, i, none⟩ u) v' := ⟨h.o.setCell _ _ (.inl (by simp)), h.n⟩
theorem Turn.drewN {g : Nat} {v v' : Value} {a b : World} (h : Turn g v a b v') (k : Nat) : Turn g v a (b.drewN k) v' := ⟨h.o.drewN k, h.n⟩
theorem Turn.drew {g : Nat} {v v' : Value} {a b : World} (h : Turn g v a b v') : Turn g v a b.drew v' := ⟨h.o.drew, h.n⟩
/-- The row grew. -/
theorem Turn.grown {g : Nat} {v v1 : Value} {w w1 : World} (hg : w.grownBy w1 v.ownBlock) (hb : v1.ownBlock = v.ownBlock ∨ ∃ b, v1.ownBlock = some b ∧ w.heap.size ≤ b) : Turn g v w w1 v1 :=
  ⟨⟨hg.os, hg.tape, hg.output, hg.size, fun k hk hn => hg.block k hk (fun he => hn (by simp [← he]))⟩, fun k hk => by
    rcases hb with h1 | ⟨b, h1, h2⟩
    · exact .inl (by rw [← h1]; exact hk)
    · rw [h1] at hk
      injection hk with hk
      subst hk
      exact .inr h2⟩
theorem Turn.toBelow {B g : Nat} {v v' : Value} {a b : World} (h : Turn g v a b v') (hB : B ≤ a.heap.size) (hg : B ≤ g) (hv : ∀ k, v.ownBlock = some k → B ≤ k) : Below B a b :=
  h.o.toBelow hB (fun k hk => by
    rcases List.mem_cons.1 hk with rfl | hk
    · exact hg
    · exact hv k (by simpa using hk))
section
variable {P : Program}
/-- Behind an append each row of that type that is no longer than what was appended to still stands. -/
theorem run_append_two (w : World) (base : Nat) (t ty e : TypeId) (i : TypeInfo) (z : Value) (size bytes : Nat) (ht : P.underlying t = some (.slice e)) (hi : P.info? e = some i) (hz : i.zero = some z)
    (hsize : i.size = size) (hby : i.bytes = bytes) (hzs : z.cells.size = size) (hsz : 0 < size)
    (v : Value) (n : Nat) (xs : List Value) (hown : w.ownsRow base e size v n xs)
    (a : Addr) (m c : Nat) (news : List Value) (hl : news.length = m * size) (hnews : ∀ j u, news[j]? = some u → w.cell? (a.add j) = some u) (h1 : ∀ u ∈ news, u.oneCell' = true)
    (hm : 0 < m) (h63 : n + m ≤ maxLen) (hbytes : (n + m) * bytes ≤ 140737488355328) (hbase : base ≤ w.heap.size) :
    ∃ v' w', (Builtin.append_ #[t, t] ty #[v, .slice (some a) m c]).run P w = .ok v' w' ∧ w'.ownsRow base e size v' (n + m) (xs ++ news) ∧ w.grownBy w' v.ownBlock ∧
      (v'.ownBlock = v.ownBlock ∨ v'.ownBlock = some w.heap.size) ∧ ∀ B2 v2 n2 xs2, w.ownsRow B2 e size v2 n2 xs2 → n2 ≤ n → w'.ownsRow B2 e size v2 n2 xs2 := by
  obtain ⟨v', w', hr, h2, h3, _, h5⟩ := run_append_own_at (P := P) w base t ty e i z size bytes ht hi hz hsize hby hzs hsz v n xs hown a m c news hl hnews h1 h63 hbytes hbase
  refine ⟨v', w', hr, h2, h3, h5, fun B2 v2 n2 xs2 h4 hn2 => ?_⟩
  subst hsize
  subst hby
  have hsmall : n + m ≤ 9223372036854775807 := by simp only [maxLen] at h63; omega
  have fresh : ∀ o, w' = w.drew.alloc o → w'.ownsRow B2 e i.size v2 n2 xs2 := fun o e => by
    rw [e]
    exact pw_own_below h4 (((Below.refl w.heap.size w).drew).alloc (Nat.le_refl _) o)
  rcases hown.2 with ⟨rfl, rfl⟩ | ⟨g, cap, cur, rfl, hbg, hg, hnc, hcm, hcs, htake⟩
  · have hr2 := run_append_nil (P := P) w t ty e i z ht hi hz a m c news hl hnews hm (by omega) (by have hb := hbytes; simp only [Nat.zero_add] at hb; omega)
    rw [hr] at hr2
    injection hr2 with _ hw
    exact fresh _ hw
  · by_cases hroom : n + m ≤ cap
    · have hfit : n * i.size + news.length ≤ cur.size := by rw [hl, hcs, ← Nat.add_mul]; exact Nat.mul_le_mul_right _ hroom
      have hr2 := run_append_room (P := P) w t ty e i ht hi g n cap cur hg a m c news hl hnews h1 hroom hfit
      rw [hr] at hr2
      injection hr2 with _ hw
      obtain ⟨h6, h7⟩ := h4
      refine ⟨h6, h7.imp id ?_⟩
      rintro ⟨g2, cap2, cur2, hv2, k3, k4, k5, k6, k7, k8⟩
      by_cases hgg : g2 = g
      · subst hgg
        rw [hg] at k4
        injection k4 with k4
        injection k4 with k4
        subst k4
        have hle : n2 * i.size ≤ n * i.size := Nat.mul_le_mul_right _ hn2
        refine ⟨g2, cap2, _, hv2, k3, by rw [hw]; exact setRow_heap w g2 cur _ e _ hg, k5, k6, ?_, ?_⟩
        · simp only [List.size_toArray, List.length_append, List.length_take, List.length_drop, Array.length_toList]
          omega
        · rw [← k8]
          show List.take (n2 * i.size) _ = _
          rw [List.append_assoc, List.take_append_of_le_length (by simp; omega), List.take_take, Nat.min_eq_left hle]
      · exact ⟨g2, cap2, cur2, hv2, k3, by rw [hw]; exact (setRow_other w g g2 _ (fun e => hgg e)).trans k4, k5, k6, k7, k8⟩
    · have holds : ∀ j u, xs[j]? = some u → w.cell? ((⟨g, 0, none⟩ : Addr).add j) = some u := hown.cells (g := g) rfl
      have hr2 := run_append_grow (P := P) w t ty e i z ht hi hz ⟨g, 0, none⟩ n cap xs hown.1 holds a m c news hl hnews (by omega) (by omega) (growslice_fits (by omega) hbytes)
      rw [hr] at hr2
      injection hr2 with _ hw
      exact fresh _ hw
end
/-- A call of a Go function, as one step of a region that draws: for go_region_law. -/
theorem step_call {P : Program} {ops : Array Oper} {o : Oper} {a : Act} {w : World} {K : Act → World → Prop} {Q : Exit → Act → World → Prop} {E : Prop} (hw : Region.wanted o (yielded ops a.tmps) = true) (f : Nat) (args : Array Value)
    (he : (execOp a.eval o).run P w = .ok (.enter f args) w) {R : Ending → World → Prop} (hc : Calls P f args w R) (h : ∀ r w', R r w' → ∃ v, r = .returned v ∧ K (a.put o.dst v) w') :
    if Region.wanted o (yielded ops a.tmps) = true then Oper.wp P o a w K Q else E := by
  rw [if_pos hw]
  unfold Oper.wp
  rw [he, Oper.upon_enter]
  refine hc.mono (fun r w' hr => ?_)
  obtain ⟨v, rfl, hk⟩ := h r w' hr
  exact hk
/-- One cell of a row is another one now. -/
theorem row_put {w : World} {B n b c j sz : Nat} {e : TypeId} {xs : List Value} (h : w.ownsRow B e sz (.slice (some ⟨b, 0, none⟩) n c) n xs) (u : Value) : (w.setCell ⟨b, j, none⟩ u).ownsRow B e sz (.slice (some ⟨b, 0, none⟩) n c) n (xs.set j u) := by
  obtain ⟨h1, h2⟩ := h
  refine ⟨by simpa using h1, h2.imp (fun h => absurd h.1 (by simp)) ?_⟩
  rintro ⟨g, cap, cur, hv, h3, h4, h5, h6, h7, h8⟩
  injection hv with ha _ hc
  injection ha with ha
  injection ha with hb
  subst hb hc
  refine ⟨b, c, cur.setIfInBounds j u, rfl, h3, by simp [World.setCell, Array.getElem?_modify, h4], h5, h6, by simpa using h7, ?_⟩
  rw [Array.toList_setIfInBounds, List.take_set, h8]
def setAll : List Value → Nat → List Value → List Value
  | xs, _, [] => xs
  | xs, o, v :: vs => setAll (xs.set o v) (o + 1) vs
theorem setAll_eq : ∀ (vs xs : List Value) (o : Nat), o + vs.length ≤ xs.length → setAll xs o vs = xs.take o ++ vs ++ xs.drop (o + vs.length)
  | [], xs, o, _ => by simp [setAll]
  | v :: vs, xs, o, h => by
    simp only [List.length_cons] at h
    rw [setAll, setAll_eq vs (xs.set o v) (o + 1) (by simp; omega), List.drop_set_of_lt (by omega)]
    have h1 : (xs.set o v).take (o + 1) = xs.take o ++ [v] := by
      rw [List.take_set, List.take_add_one, List.getElem?_eq_getElem (by omega), Option.toList_some, List.set_append_right _ _ (by simp; omega)]
      have e : o - (xs.take o).length = 0 := by simp; omega
      rw [e]
      rfl
    rw [h1]
    simp only [List.append_assoc, List.singleton_append, List.length_cons]
    congr 3
    omega
/-! ### Parts of memory beside each other -/
/-- Footprints (lists of blocks), all from block B on, no block in two of them. -/
structure Sep (B : Nat) (w : World) (F : List (List Nat)) : Prop where
  lt : ∀ f ∈ F, ∀ b ∈ f, B ≤ b ∧ b < w.heap.size
  dis : ∀ (i j : Nat) (f f' : List Nat), F[i]? = some f → F[j]? = some f' → i ≠ j → ∀ b ∈ f, b ∉ f'
theorem Sep.step {B : Nat} {w w' : World} {F : List (List Nat)} (h : Sep B w F) (hB : B ≤ w.heap.size) (i : Nat) {f f' : List Nat} (hf : F[i]? = some f) (hs : w.heap.size ≤ w'.heap.size) (hn : ∀ b ∈ f', b ∈ f ∨ w.heap.size ≤ b) (hl : ∀ b ∈ f', b < w'.heap.size) : Sep B w' (F.set i f') := by
  have hm : f ∈ F := List.mem_of_getElem? hf
  have hi : i < F.length := (List.getElem?_eq_some_iff.1 hf).1
  refine ⟨fun x hx b hb => ?_, fun j k x y hx hy hjk b hb hb2 => ?_⟩
  · rcases List.mem_or_eq_of_mem_set hx with hx | rfl
    · have := h.lt x hx b hb
      omega
    · refine ⟨?_, hl b hb⟩
      rcases hn b hb with h1 | h1
      · exact (h.lt f hm b h1).1
      · omega
  · by_cases hj : j = i
    · subst hj
      rw [List.getElem?_set_self hi] at hx
      injection hx with hx
      subst hx
      rw [List.getElem?_set_ne hjk] at hy
      rcases hn b hb with h1 | h1
      · exact h.dis j k f y hf hy hjk b h1 hb2
      · have := (h.lt y (List.mem_of_getElem? hy) b hb2).2
        omega
    · rw [List.getElem?_set_ne (Ne.symm hj)] at hx
      by_cases hk : k = i
      · subst hk
        rw [List.getElem?_set_self hi] at hy
        injection hy with hy
        subst hy
        rcases hn b hb2 with h1 | h1
        · exact h.dis j k x f hx hf hjk b hb h1
        · have := (h.lt x (List.mem_of_getElem? hx) b hb).2
          omega
      · rw [List.getElem?_set_ne (Ne.symm hk)] at hy
        exact h.dis j k x y hx hy hjk b hb hb2
theorem Sep.below {B : Nat} {w w' : World} {F : List (List Nat)} (h : Sep B w F) (hs : w.heap.size ≤ w'.heap.size) : Sep B w' F :=
  ⟨fun f hf b hb => ⟨(h.lt f hf b hb).1, Nat.lt_of_lt_of_le (h.lt f hf b hb).2 hs⟩, h.dis⟩
theorem Sep.ge {B : Nat} {w : World} {F : List (List Nat)} (h : Sep B w F) (i : Nat) {f : List Nat} (hf : F[i]? = some f) : ∀ b ∈ f, B ≤ b := fun b hb => (h.lt f (List.mem_of_getElem? hf) b hb).1
end Go.Proofs.Ytjjjinpmflghmaa.Row
