/- What the document's senders and takers of events come to. Conditions: those in each theorem. -/
import Derived.Test.YtjjjinpmflghmaaBk1Ev
import Derived.DataElems
import Derived.Test.YtjjjinpmflghmaaMC
namespace Go.Proofs.Ytjjjinpmflghmaa.Keys
open Go.RowKit Go.Proofs.Ytjjjinpmflghmaa.Mem Go.Proofs.Ytjjjinpmflghmaa.Row Go.Proofs.YtjjjinpmflghmaaW.PrintWords Go.Proofs.YtjjjinpmflghmaaW.PrintMore Go.Proofs.YtjjjinpmflghmaaW.PrintLast
attribute [local go_sem] min2_w max2_w min_two max_two
set_option linter.unusedVariables false
set_option linter.unusedSimpArgs false
/-- A list and a number, in a block. -/
structure IsR (w : World) (g : Nat) (T : TypeId) (A : Option Addr) (c : Nat) (l : List E4) (a : Int) : Prop where
  blk : Blk w g T #[.slice A l.length c, .int .i64 a]
  src : BookEv.Src w A l.length l
  lc : l.length ≤ c
  ne : ∀ x, A = some x → x.block ≠ g
/-- Where a list lies now: where it lay, and unchanged; or in a block that is new. -/
def Whence (w : World) (A A' : Option Addr) (l l' : List E4) : Prop := (A' = A ∧ l' = l) ∨ (l' ≠ [] ∧ ∀ x, A' = some x → w.heap.size ≤ x.block)
section
variable {w w' : World} {g T c : Nat} {A : Option Addr} {l : List E4} {a : Int}
theorem IsR.below (h : IsR w g T A c l a) (hb : Below w.heap.size w w') : IsR w' g T A c l a := ⟨h.blk.below' hb, h.src.below hb, h.lc, h.ne⟩
theorem IsR.set_1 (h : IsR w g T A c l a) (b : Int) : IsR (w.setCell ⟨g, 1, none⟩ (.int .i64 b)) g T A c l b :=
  ⟨(h.blk.set_ 1 _), h.src.only ((Only.refl [g] w).setCell _ _ (.inl (by simp))) (fun x hx => by have := h.ne x hx; simpa using this), h.lc, h.ne⟩
theorem IsR.both (h : IsR w g T A c l a) {A' : Option Addr} {c' : Nat} {l' : List E4} {a' : Int} (hs : BookEv.Src w A' l'.length l') (hc : l'.length ≤ c') (hne : ∀ x, A' = some x → x.block ≠ g) :
    IsR ((w.setCell ⟨g, 0, none⟩ (.slice A' l'.length c')).setCell ⟨g, 1, none⟩ (.int .i64 a')) g T A' c' l' a' :=
  ⟨((h.blk.set_ 0 _).set_ 1 _), hs.only (((Only.refl [g] w).setCell _ _ (.inl (by simp))).setCell _ _ (.inl (by simp))) (fun x hx => by have := hne x hx; simpa using this), hc, hne⟩
theorem add_block (ad : Addr) (n : Nat) : (ad.add n).block = ad.block := by unfold Addr.add; split <;> rfl
theorem fl_drop : ∀ (k : Nat) (l : List E4), (BookEv.fl l).drop (k * 4) = BookEv.fl (l.drop k)
  | 0, l => by simp
  | k + 1, [] => by simp [BookEv.fl]
  | k + 1, e :: l => by
    rw [List.drop_succ_cons, ← fl_drop k l, show (k + 1) * 4 = 4 + k * 4 by omega, ← List.drop_drop]
    rfl
theorem src_drop {ad : Addr} (h : BookEv.Src w (some ad) l.length l) {k : Nat} (hk : k ≤ l.length) : BookEv.Src w (some (ad.add (k * 4))) (l.drop k).length (l.drop k) := by
  refine ⟨rfl, .inr ⟨_, rfl, fun j v hj => ?_⟩⟩
  rw [← fl_drop, List.getElem?_drop] at hj
  rw [Addr.add_add]
  rcases h.2 with h0 | ⟨ad', h1, h2⟩
  · rw [List.eq_nil_of_length_eq_zero h0] at hj
    simp [BookEv.fl] at hj
  · injection h1 with h1
    subst h1
    exact h2 _ _ hj
theorem rtop_calls (w : World) (h : IsR w g 66 A c l a) (h0 : 0 ≤ a) (h1 : a ≤ 4611686018427387904) (hl : l.length ≤ 1000) :
    Calls Try.prog 35 #[.pointer (some ⟨g, 0, none⟩)] w fun r w' => r = .returned (.int .i64 (a + l.length)) ∧ Below w.heap.size w w' := by
  have c0 : w.cell? ⟨g, 0, none⟩ = some (.slice A l.length c) := (h.blk.cell 0).trans rfl
  have c1 : w.cell? ⟨g, 1, none⟩ = some (.int .i64 a) := (h.blk.cell 1).trans rfl
  have hw : IntKind.i64.wrap (a + (l.length : Int)) = a + (l.length : Int) := IntWalk.i64_in _ (by omega)
  clear h
  go_enter Try.func35, Try.ntmps35
  go_upto_region 1 with (fail)
  go_region
  go_wp2
  go_ret
  exact ⟨rfl, below_drew (Below.refl _ _)⟩
theorem rgot_calls (w : World) (h : IsR w g 69 A c l a) (h0 : 0 ≤ a) (h1 : a ≤ 4611686018427387904) (hl : l.length ≤ 1000) :
    Calls Try.prog 39 #[.pointer (some ⟨g, 0, none⟩)] w fun r w' => r = .returned (.int .i64 (a + l.length)) ∧ Below w.heap.size w w' := by
  have c0 : w.cell? ⟨g, 0, none⟩ = some (.slice A l.length c) := (h.blk.cell 0).trans rfl
  have c1 : w.cell? ⟨g, 1, none⟩ = some (.int .i64 a) := (h.blk.cell 1).trans rfl
  have hw : IntKind.i64.wrap (a + (l.length : Int)) = a + (l.length : Int) := IntWalk.i64_in _ (by omega)
  clear h
  go_enter Try.func39, Try.ntmps39
  go_upto_region 1 with (fail)
  go_region
  go_wp2
  go_ret
  exact ⟨rfl, below_drew (Below.refl _ _)⟩
theorem rack_low (n : Int) (w : World) (h : IsR w g 66 A c l a) (hn : n ≤ a) :
    Calls Try.prog 27 #[.pointer (some ⟨g, 0, none⟩), .int .i64 n] w fun r w' => r = .returned (.int .i64 0) ∧ Below w.heap.size w w' := by
  have c1 : w.cell? ⟨g, 1, none⟩ = some (.int .i64 a) := (h.blk.cell 1).trans rfl
  clear h
  go_enter Try.func27, Try.ntmps27
  go_wp2
  go_ret
  exact ⟨rfl, Below.refl _ _⟩
theorem rack_high (n : Int) (w : World) (h : IsR w g 66 A c l a) (h0 : 0 ≤ a) (h1 : a ≤ 4611686018427387904) (hl : l.length ≤ 1000) (hn : a + l.length < n) :
    Calls Try.prog 27 #[.pointer (some ⟨g, 0, none⟩), .int .i64 n] w fun r w' => r = .returned (.int .i64 0) ∧ Below w.heap.size w w' := by
  have c1 : w.cell? ⟨g, 1, none⟩ = some (.int .i64 a) := (h.blk.cell 1).trans rfl
  have hn2 : ¬ n ≤ a := by omega
  have HR := Aside0.mk h
  clear h
  go_enter Try.func27, Try.ntmps27
  go_wp2_with fail
  refine (rtop_calls w HR.out h0 h1 hl).mono ?_
  rintro e1 w1 ⟨rfl, hb1⟩
  go_wp2
  go_ret
  exact ⟨rfl, hb1⟩
theorem rack_yes (k : Nat) (ad : Addr) (w : World) (h : IsR w g 66 (some ad) c l a) (h0 : 0 ≤ a) (h1 : a ≤ 4611686018427387904) (hl : l.length ≤ 1000) (hk : 0 < k) (hkl : k ≤ l.length) :
    Calls Try.prog 27 #[.pointer (some ⟨g, 0, none⟩), .int .i64 (a + k)] w fun r w' => r = .returned (.int .i64 k) ∧ ∃ A' c', IsR w' g 66 A' c' (l.drop k) (a + k) ∧ Only [g] w w' ∧ ∀ x, A' = some x → x.block = ad.block := by
  have hn2 : ¬ a + (k : Int) ≤ a := by omega
  have hn3 : a + (k : Int) ≤ a + (l.length : Int) := by omega
  have hlc := h.lc
  have HR := Aside0.mk h
  have hw : IntKind.i64.wrap (a + (k : Int) - a) = (k : Int) := by rw [show a + (k : Int) - a = k by omega]; exact IntWalk.i64_in _ (by omega)
  have c1 : w.cell? ⟨g, 1, none⟩ = some (.int .i64 a) := (h.blk.cell 1).trans rfl
  clear h
  go_enter Try.func27, Try.ntmps27
  go_wp2_with fail
  refine (rtop_calls w HR.out h0 h1 hl).mono ?_
  rintro e1 w1 ⟨rfl, hb1⟩
  have HR1 := Aside0.mk (HR.out.below hb1)
  have HB1 := Aside0.mk hb1
  have c0 : w1.cell? ⟨g, 0, none⟩ = some (.slice (some ad) l.length c) := (HR1.out.blk.cell 0).trans rfl
  have c1 : w1.cell? ⟨g, 1, none⟩ = some (.int .i64 a) := (HR1.out.blk.cell 1).trans rfl
  have f0 := HR1.out.blk.frozen 0
  have f1 := HR1.out.blk.frozen 1
  have hkc : k ≤ c := by omega
  clear hb1
  go_wp2
  · go_ret
    have hk0 : (l.drop k).length = l.length - k := by simp
    refine ⟨rfl, some ad, ⟨0, ?_⟩, ((Only.of_below [g] HB1.out).setCell _ _ (.inl (by simp))).setCell _ _ (.inl (by simp)), fun x hx => by injection hx with hx; rw [← hx]⟩
    have h2 := HR1.out.both (A' := some ad) (c' := 0) (l' := l.drop k) (a' := a + k) ⟨rfl, .inl (by rw [hk0]; omega)⟩ (by rw [hk0]; omega) (fun x hx => by injection hx with hx; rw [← hx]; exact HR1.out.ne _ rfl)
    rw [hk0] at h2
    exact h2
  · go_ret
    have hk0 : (l.drop k).length = l.length - k := by simp
    refine ⟨rfl, some (ad.add (k * 4)), ⟨c - k, ?_⟩, ((Only.of_below [g] HB1.out).setCell _ _ (.inl (by simp))).setCell _ _ (.inl (by simp)), fun x hx => by injection hx with hx; rw [← hx]; exact add_block _ _⟩
    have h2 := HR1.out.both (A' := some (ad.add (k * 4))) (c' := c - k) (l' := l.drop k) (a' := a + k) (src_drop HR1.out.src hkl) (by rw [hk0]; omega) (fun x hx => by injection hx with hx; rw [← hx, add_block]; exact HR1.out.ne _ rfl)
    rw [hk0] at h2
    exact h2
theorem rnext_calls (e : E4) (ad : Addr) (w : World) (h : IsR w g 69 (some ad) c (e :: l) a) (h0 : 0 ≤ a) (h1 : a ≤ 4611686018427387904) (hl : l.length ≤ 1000) :
    Calls Try.prog 33 #[.pointer (some ⟨g, 0, none⟩)] w fun r w' => r = .returned (.tuple #[]) ∧ ∃ A' c', IsR w' g 69 A' c' l (a + 1) ∧ Only [g] w w' ∧ ∀ x, A' = some x → x.block = ad.block := by
  have hlc := h.lc
  have HR := Aside0.mk h
  have hw : IntKind.i64.wrap (a + 1) = a + 1 := IntWalk.i64_in _ (by omega)
  obtain ⟨n, hn⟩ : ∃ n, n = (e :: l).length := ⟨_, rfl⟩
  have HN := Aside0.mk hn
  have c0 : w.cell? ⟨g, 0, none⟩ = some (.slice (some ad) n c) := (h.blk.cell 0).trans (by rw [hn]; rfl)
  have c1 : w.cell? ⟨g, 1, none⟩ = some (.int .i64 a) := (h.blk.cell 1).trans rfl
  have f0 := h.blk.frozen 0
  have f1 := h.blk.frozen 1
  have hn1 : 1 ≤ n := by rw [hn]; simp
  have hnc : n ≤ c := by rw [hn]; exact hlc
  have hc1 : 1 ≤ c := by omega
  have hd := src_drop h.src (k := 1) (by simp)
  have HD := Aside0.mk hd
  clear h hn hlc hd
  go_enter Try.func33, Try.ntmps33
  go_wp2
  · go_end0
    have hn2 : n - 1 = l.length := by rw [HN.out]; simp
    have h2 := HR.out.both (A' := some ad) (c' := 0) (l' := l) (a' := a + 1) ⟨rfl, .inl (by omega)⟩ (by omega) (fun x hx => by injection hx with hx; rw [← hx]; exact HR.out.ne _ rfl)
    rw [← hn2] at h2
    exact ⟨rfl, some ad, ⟨0, h2⟩, ((Only.refl [g] w).setCell _ _ (.inl (by simp))).setCell _ _ (.inl (by simp)), fun x hx => by injection hx with hx; rw [← hx]⟩
  · go_end0
    have hn2 : n - 1 = l.length := by rw [HN.out]; simp
    have h2 := HR.out.both (A' := some (ad.add (1 * 4))) (c' := c - 1) (l' := l) (a' := a + 1) HD.out (by omega) (fun x hx => by injection hx with hx; rw [← hx, add_block]; exact HR.out.ne _ rfl)
    rw [← hn2] at h2
    exact ⟨rfl, some (ad.add (1 * 4)), ⟨c - 1, h2⟩, ((Only.refl [g] w).setCell _ _ (.inl (by simp))).setCell _ _ (.inl (by simp)), fun x hx => by injection hx with hx; rw [← hx]; exact add_block _ _⟩
theorem rwait_none (most : Int) (w : World) (h : IsR w g 66 A c [] a) :
    Calls Try.prog 29 #[.pointer (some ⟨g, 0, none⟩), .int .i64 most] w fun r w' => r = .returned (.tuple #[.int .i64 0, .slice none 0 0]) ∧ Below w.heap.size w w' := by
  have c0 : w.cell? ⟨g, 0, none⟩ = some (.slice A 0 c) := (h.blk.cell 0).trans rfl
  clear h
  go_enter Try.func29, Try.ntmps29
  go_wp2
  go_ret2
  exact ⟨rfl, Below.refl _ _⟩
theorem rwait_some (most : Int) (m : Nat) (w : World) (h : IsR w g 66 A c l a) (hl0 : l ≠ []) (h0 : 0 ≤ a) (h1 : a ≤ 4611686018427387904) (hl : l.length ≤ 1000) (hm : min (max most 0) (l.length : Int) = (m : Int)) :
    Calls Try.prog 29 #[.pointer (some ⟨g, 0, none⟩), .int .i64 most] w fun r w' => r = .returned (.tuple #[.int .i64 (a + 1), .slice A m c]) ∧ Below w.heap.size w w' := by
  have c0 : w.cell? ⟨g, 0, none⟩ = some (.slice A l.length c) := (h.blk.cell 0).trans rfl
  have c1 : w.cell? ⟨g, 1, none⟩ = some (.int .i64 a) := (h.blk.cell 1).trans rfl
  have hw : IntKind.i64.wrap (a + 1) = a + 1 := IntWalk.i64_in _ (by omega)
  have hlp : 0 < l.length := List.length_pos_iff.2 hl0
  have hlI : (0 : Int) < (l.length : Int) := by omega
  have hlc := h.lc
  have hmc : m ≤ c := by omega
  have hmcI : (m : Int) ≤ (c : Int) := by omega
  have hm0 : (0 : Int) ≤ (m : Int) := Int.natCast_nonneg _
  clear h hl0 hlp
  go_enter Try.func29, Try.ntmps29
  go_upto_region 3 with (fail)
  go_region
  go_wp2
  go_ret2
  exact ⟨rfl, below_drew (Below.refl _ _)⟩
end
end Go.Proofs.Ytjjjinpmflghmaa.Keys
