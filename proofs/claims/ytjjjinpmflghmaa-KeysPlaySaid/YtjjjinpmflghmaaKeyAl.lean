/- A sender's and a receiver's queue beside each other; the laws' first call. Conditions: those in each theorem. -/
import Derived.Test.YtjjjinpmflghmaaKeyTake
namespace Go.Proofs.Ytjjjinpmflghmaa.Keys
open Go.RowKit Go.Proofs.Ytjjjinpmflghmaa.Mem Go.Proofs.YtjjjinpmflghmaaW.PrintWords Go.Proofs.YtjjjinpmflghmaaW.PrintMore Go.Proofs.YtjjjinpmflghmaaW.PrintLast Go.Proofs.Ytjjjinpmflghmaa.PKeysBounds
set_option linter.unusedVariables false
set_option linter.unusedSimpArgs false
theorem own_only {gs : List Nat} {w w' : World} {B n : Nat} {v : Value} {xs : List Value} (h : w.ownsRow B 38 4 v n xs) (ho : Only gs w w') (hv : ∀ k, v.ownBlock = some k → k ∉ gs) : w'.ownsRow B 38 4 v n xs := by
  have hlt := own_lt h
  refine ⟨h.1, h.2.imp id ?_⟩
  rintro ⟨g', cap, cur, rfl, h2, h3, h4⟩
  exact ⟨g', cap, cur, rfl, h2, (ho.block g' (hlt g' rfl) (hv g' rfl)).trans h3, h4⟩
/-- Both queues, of one memory; nothing else that was there at the beginning is touched. -/
structure QQ (w0 : World) (go gi : Nat) (vo : Value) (lo : List E4) (ao bo : Int) (vi : Value) (li : List E4) (ai bi : Int) (w : World) : Prop where
  o : IsQ w go 33 vo lo ao bo
  i : IsQ w gi 36 vi li ai bi
  d : ∀ k, vo.ownBlock = some k → vi.ownBlock ≠ some k
  k : Only [go, gi] w0 w
  po : ∀ k, vo.ownBlock = some k → w0.heap.size ≤ k
  pi : ∀ k, vi.ownBlock = some k → w0.heap.size ≤ k
section
variable {w0 w w' : World} {go gi : Nat} {vo vi : Value} {lo li : List E4} {ao bo ai bi : Int}
theorem QQ.below (h : QQ w0 go gi vo lo ao bo vi li ai bi w) (hb : Below w.heap.size w w') : QQ w0 go gi vo lo ao bo vi li ai bi w' := ⟨h.o.below hb, h.i.below hb, h.d, h.k.below hb, h.po, h.pi⟩
theorem QQ.setO (h : QQ w0 go gi vo lo ao bo vi li ai bi w) {vo' : Value} {lo' : List E4} {ao' bo' : Int} (hq : IsQ w' go 33 vo' lo' ao' bo') (ht : Turn go vo w w' vo') : QQ w0 go gi vo' lo' ao' bo' vi li ai bi w' := by
  have hgn : gi ≠ go := (h.i.blk).ne_ h.o.blk (by decide)
  have hiv : some gi ≠ vo.ownBlock := own_ne h.o.row h.i.blk (by decide)
  have hov : some go ≠ vi.ownBlock := own_ne h.i.row h.o.blk (by decide)
  have hlt := own_lt h.i.row
  have hm : ∀ k, k ∈ go :: vo.ownBlock.toList → k = go ∨ vo.ownBlock = some k := fun k hk => by
    rcases List.mem_cons.1 hk with rfl | hk
    · exact .inl rfl
    · exact .inr (by simpa using hk)
  refine ⟨hq, ⟨h.i.blk.only ht.o (fun hk => ?_), own_only h.i.row ht.o (fun k hk hm' => ?_)⟩, fun k hk hk2 => ?_, ⟨ht.o.os.trans h.k.os, ht.o.tape.trans h.k.tape, ht.o.output.trans h.k.output, Nat.le_trans h.k.size ht.o.size, fun j hj hn => (ht.o.block j (Nat.lt_of_lt_of_le hj h.k.size) (fun he => ?_)).trans (h.k.block j hj hn)⟩, fun k hk => ?_, h.pi⟩
  · rcases hm _ hk with h1 | h1
    · exact hgn h1
    · exact hiv h1.symm
  · rcases hm _ hm' with rfl | h1
    · exact hov hk.symm
    · exact h.d k h1 hk
  · rcases ht.n k hk with h1 | h1
    · exact h.d k h1 hk2
    · have := hlt k hk2; omega
  · rcases hm _ he with rfl | h1
    · exact hn (by simp)
    · have := h.po j h1; omega
  · rcases ht.n k hk with h1 | h1
    · exact h.po k h1
    · exact Nat.le_trans h.k.size h1
theorem QQ.setI (h : QQ w0 go gi vo lo ao bo vi li ai bi w) {vi' : Value} {li' : List E4} {ai' bi' : Int} (hq : IsQ w' gi 36 vi' li' ai' bi') (ht : Turn gi vi w w' vi') : QQ w0 go gi vo lo ao bo vi' li' ai' bi' w' := by
  have hgn : go ≠ gi := (h.o.blk).ne_ h.i.blk (by decide)
  have hiv : some go ≠ vi.ownBlock := own_ne h.i.row h.o.blk (by decide)
  have hov : some gi ≠ vo.ownBlock := own_ne h.o.row h.i.blk (by decide)
  have hlt := own_lt h.o.row
  have hm : ∀ k, k ∈ gi :: vi.ownBlock.toList → k = gi ∨ vi.ownBlock = some k := fun k hk => by
    rcases List.mem_cons.1 hk with rfl | hk
    · exact .inl rfl
    · exact .inr (by simpa using hk)
  refine ⟨⟨h.o.blk.only ht.o (fun hk => ?_), own_only h.o.row ht.o (fun k hk hm' => ?_)⟩, hq, fun k hk hk2 => ?_, ⟨ht.o.os.trans h.k.os, ht.o.tape.trans h.k.tape, ht.o.output.trans h.k.output, Nat.le_trans h.k.size ht.o.size, fun j hj hn => (ht.o.block j (Nat.lt_of_lt_of_le hj h.k.size) (fun he => ?_)).trans (h.k.block j hj hn)⟩, h.po, fun k hk => ?_⟩
  · rcases hm _ hk with h1 | h1
    · exact hgn h1
    · exact hiv h1.symm
  · rcases hm _ hm' with rfl | h1
    · exact hov hk.symm
    · exact h.d k hk h1
  · rcases ht.n k hk2 with h1 | h1
    · exact h.d k hk h1
    · have := hlt k hk; omega
  · rcases hm _ he with rfl | h1
    · exact hn (by simp)
    · have := h.pi j h1; omega
  · rcases ht.n k hk with h1 | h1
    · exact h.pi k h1
    · exact Nat.le_trans h.k.size h1
theorem QQ.bump (h : QQ w0 go gi vo lo ao bo vi li ai bi w) : True := trivial
end
/-- A literal's cells. -/
theorem lit_src (w : World) (es : List E4) : ∀ j u, (fe es)[j]? = some u → (w.alloc (.cells (fe es).toArray 38)).cell? ⟨w.heap.size, j, none⟩ = some u := fun j u hj => by
  rw [(Blk.new w 38 (fe es).toArray).cell j]
  simpa using hj
theorem QQ.add {w0 w : World} {go gi : Nat} {vo vi : Value} {lo li : List E4} {ao bo ai bi : Int} (h : QQ w0 go gi vo lo ao bo vi li ai bi w) (es : List E4) (gb c n : Nat) (hn : es.length = n) (hsrc : ∀ j u, (fe es)[j]? = some u → w.cell? ⟨gb, j, none⟩ = some u) (hg : gb ≠ go) (hv : some gb ≠ vo.ownBlock)
    (ha : 0 ≤ ao) (ha2 : ao ≤ 1000000000000) (hl : lo.length ≤ 40) (hnl : n ≤ 100000) :
    Calls Try.prog 11 #[.pointer (some ⟨go, 0, none⟩), .slice (some ⟨gb, 0, none⟩) n c] w fun r w' => r = .returned (.int .i64 ((addE lo.length es).length : Int)) ∧ ∃ A' c', QQ w0 go gi (.slice A' (lo.length + (addE lo.length es).length) c') (lo ++ addE lo.length es) (ao + (addE lo.length es).length) bo vi li ai bi w' ∧ Turn go vo w w' (.slice A' (lo.length + (addE lo.length es).length) c') := by
  refine (add_calls go vo lo es ao bo gb c n w h.o hn hsrc hg hv ha ha2 hl hnl).mono ?_
  rintro e1 w1 ⟨rfl, A', c', hq, ht⟩
  exact ⟨rfl, A', c', h.setO hq ht, ht⟩
theorem QQ.take {w0 w : World} {go gi : Nat} {vo vi : Value} {lo li : List E4} {ao bo ai bi : Int} (h : QQ w0 go gi vo lo ao bo vi li ai bi w) (es : List E4) (first : Int) (gb c n : Nat) (hn : es.length = n) (hsrc : ∀ j u, (fe es)[j]? = some u → w.cell? ⟨gb, j, none⟩ = some u) (hg : gb ≠ gi) (hv : some gb ≠ vi.ownBlock)
    (ha : 0 ≤ bi) (ha2 : bi ≤ 1000000000000) (hl : li.length ≤ 40) (hnl : n ≤ 100000) (hf1 : -1000000000000 ≤ first) (hf2 : first ≤ 1000000000000) :
    Calls Try.prog 12 #[.pointer (some ⟨gi, 0, none⟩), .int .i64 first, .slice (some ⟨gb, 0, none⟩) n c] w fun r w' => r = .returned (.int .i64 (bi + ((takeE first 0 li.length bi es).length : Int))) ∧ ∃ A' c', QQ w0 go gi vo lo ao bo (.slice A' (li ++ takeE first 0 li.length bi es).length c') (li ++ takeE first 0 li.length bi es) ai (bi + ((takeE first 0 li.length bi es).length : Int)) w' ∧ Turn gi vi w w' (.slice A' (li ++ takeE first 0 li.length bi es).length c') := by
  refine (take_calls gi vi li es ai bi first gb c n w h.i hn hsrc hg hv ha ha2 hl hnl (by omega) (by omega)).mono ?_
  rintro e1 w1 ⟨rfl, A', c', hq, ht⟩
  exact ⟨rfl, A', c', h.setI hq ht, ht⟩
theorem far_new {w : World} {g : Nat} {T : TypeId} {v : Value} {l : List E4} {a b : Int} (h : IsQ w g T v l a b) : w.heap.size ≠ g ∧ some w.heap.size ≠ v.ownBlock :=
  ⟨fun e => by have := h.blk.lt; omega, fun e => by have := own_lt h.row _ e.symm; omega⟩
theorem QQ.new {w : World} {go gi : Nat} (h1 : Blk w go 33 #[.slice none 0 0, .int .i64 0, .int .i64 0]) (h2 : Blk w gi 36 #[.slice none 0 0, .int .i64 0, .int .i64 0]) : QQ w go gi (.slice none 0 0) [] 0 0 (.slice none 0 0) [] 0 0 w :=
  ⟨⟨h1, own_nil _ _ _ _⟩, ⟨h2, own_nil _ _ _ _⟩, fun k hk => by simp [Value.ownBlock] at hk, Only.refl _ _, fun k hk => by simp [Value.ownBlock] at hk, fun k hk => by simp [Value.ownBlock] at hk⟩
def eA : E4 := ⟨1, ⟨#[97]⟩, 0, 0⟩
def eB : E4 := ⟨2, ⟨#[]⟩, 10, 4⟩
theorem okA : okE eA = true := by decide +kernel
theorem okB : okE eB = true := by decide +kernel
theorem eql_ev (w : World) : (binOp .eql 38 (.agg #[.int .i64 1, .string ⟨#[97]⟩, .int .i64 0, .int .i64 0]) (.agg #[.int .i64 1, .string ⟨#[97]⟩, .int .i64 0, .int .i64 0])).run Try.prog w = .ok (.bool true) w := by kernel_rfl
set_option maxHeartbeats 4000000 in
set_option maxRecDepth 100000 in
theorem alive20 (w : World) : Calls Try.prog 10 #[] w fun r w' => r = .returned (.bool true) ∧ Below w.heap.size w w' := by
  have b1 := Blk.new w 33 #[.slice none 0 0, .int .i64 0, .int .i64 0]
  have b2 := Blk.new (w.alloc (.cells #[.slice none 0 0, .int .i64 0, .int .i64 0] 33)) 36 #[.slice none 0 0, .int .i64 0, .int .i64 0]
  have b3 := Blk.new ((w.alloc (.cells #[.slice none 0 0, .int .i64 0, .int .i64 0] 33)).alloc (.cells #[.slice none 0 0, .int .i64 0, .int .i64 0] 36)) 38 #[.int .i64 1, .string ⟨#[97]⟩, .int .i64 0, .int .i64 0]
  have b4 := Blk.new (((w.alloc (.cells #[.slice none 0 0, .int .i64 0, .int .i64 0] 33)).alloc (.cells #[.slice none 0 0, .int .i64 0, .int .i64 0] 36)).alloc (.cells #[.int .i64 1, .string ⟨#[97]⟩, .int .i64 0, .int .i64 0] 38)) 38 #[.int .i64 2, .string ⟨#[]⟩, .int .i64 10, .int .i64 4]
  simp only [World.size_alloc] at b2 b3 b4
  have H0 := Aside0.mk (QQ.new (((b1.alloc (.cells #[.slice none 0 0, .int .i64 0, .int .i64 0] 36)).alloc (.cells #[.int .i64 1, .string ⟨#[97]⟩, .int .i64 0, .int .i64 0] 38)).alloc (.cells #[.int .i64 2, .string ⟨#[]⟩, .int .i64 10, .int .i64 4] 38)) ((b2.alloc (.cells #[.int .i64 1, .string ⟨#[97]⟩, .int .i64 0, .int .i64 0] 38)).alloc (.cells #[.int .i64 2, .string ⟨#[]⟩, .int .i64 10, .int .i64 4] 38)))
  have HA := Aside0.mk (b3.alloc (.cells #[.int .i64 2, .string ⟨#[]⟩, .int .i64 10, .int .i64 4] 38))
  have HB := Aside0.mk b4
  have HW := Aside0.mk (below_alloc (below_alloc (below_alloc (below_alloc (Below.refl w.heap.size w) (.cells #[.slice none 0 0, .int .i64 0, .int .i64 0] 33)) (.cells #[.slice none 0 0, .int .i64 0, .int .i64 0] 36)) (.cells #[.int .i64 1, .string ⟨#[97]⟩, .int .i64 0, .int .i64 0] 38)) (.cells #[.int .i64 2, .string ⟨#[]⟩, .int .i64 10, .int .i64 4] 38))
  have HS := Aside0.mk (show ((((w.alloc (.cells #[.slice none 0 0, .int .i64 0, .int .i64 0] 33)).alloc (.cells #[.slice none 0 0, .int .i64 0, .int .i64 0] 36)).alloc (.cells #[.int .i64 1, .string ⟨#[97]⟩, .int .i64 0, .int .i64 0] 38)).alloc (.cells #[.int .i64 2, .string ⟨#[]⟩, .int .i64 10, .int .i64 4] 38)).heap.size = w.heap.size + 1 + 1 + 1 + 1 by simp)
  clear b1 b2 b3 b4
  go_enter Try.func10, Try.ntmps10
  go_wp2_with fail
  generalize (((w.alloc (.cells #[.slice none 0 0, .int .i64 0, .int .i64 0] 33)).alloc (.cells #[.slice none 0 0, .int .i64 0, .int .i64 0] 36)).alloc (.cells #[.int .i64 1, .string ⟨#[97]⟩, .int .i64 0, .int .i64 0] 38)).alloc (.cells #[.int .i64 2, .string ⟨#[]⟩, .int .i64 10, .int .i64 4] 38) = WB at H0 HA HB HW HS ⊢
  rw [← HS.out]
  have H1 := Aside0.mk (H0.out.below (below_alloc (Below.refl _ _) (.cells (fe [eA, eB]).toArray 38)))
  refine (H1.out.add [eA, eB] WB.heap.size 2 2 rfl (lit_src WB [eA, eB]) (far_new H0.out.o).1 (far_new H0.out.o).2 (by decide) (by decide) (by simp) (by decide)).mono ?_
  rw [show addE ([] : List E4).length [eA, eB] = [eA, eB] by simp [addE, okA, okB]]
  rintro e1 w1 ⟨rfl, Ao, co, H2, _⟩
  have H2 := Aside0.mk H2
  have pb0 : w1.cell? ⟨w.heap.size + 1 + 1 + 1, 0, none⟩ = some (.int .i64 2) := ((HB.out.only H2.out.k (by simp; omega)).cell 0).trans rfl
  have pb1 : w1.cell? ⟨w.heap.size + 1 + 1 + 1, 1, none⟩ = some (.string ⟨#[]⟩) := ((HB.out.only H2.out.k (by simp; omega)).cell 1).trans rfl
  have pb2 : w1.cell? ⟨w.heap.size + 1 + 1 + 1, 2, none⟩ = some (.int .i64 10) := ((HB.out.only H2.out.k (by simp; omega)).cell 2).trans rfl
  have pb3 : w1.cell? ⟨w.heap.size + 1 + 1 + 1, 3, none⟩ = some (.int .i64 4) := ((HB.out.only H2.out.k (by simp; omega)).cell 3).trans rfl
  go_wp2_with fail
  clear pb0 pb1 pb2 pb3
  have H2' := Aside0.mk (H2.out.below (below_alloc (Below.refl _ _) (.cells (fe [eB]).toArray 38)))
  refine (H2'.out.take [eB] 2 w1.heap.size 1 1 rfl (lit_src w1 [eB]) (far_new H2.out.i).1 (far_new H2.out.i).2 (by decide) (by decide) (by simp) (by decide) (by decide) (by decide)).mono ?_
  rw [show takeE 2 0 ([] : List E4).length 0 [eB] = [] by simp [takeE]]
  rintro e2 w2 ⟨rfl, Ai, ci, H3, _⟩
  have H3 := Aside0.mk H3
  have pa0 : w2.cell? ⟨w.heap.size + 1 + 1, 0, none⟩ = some (.int .i64 1) := ((HA.out.only H3.out.k (by simp; omega)).cell 0).trans rfl
  have pa1 : w2.cell? ⟨w.heap.size + 1 + 1, 1, none⟩ = some (.string ⟨#[97]⟩) := ((HA.out.only H3.out.k (by simp; omega)).cell 1).trans rfl
  have pa2 : w2.cell? ⟨w.heap.size + 1 + 1, 2, none⟩ = some (.int .i64 0) := ((HA.out.only H3.out.k (by simp; omega)).cell 2).trans rfl
  have pa3 : w2.cell? ⟨w.heap.size + 1 + 1, 3, none⟩ = some (.int .i64 0) := ((HA.out.only H3.out.k (by simp; omega)).cell 3).trans rfl
  have pb0 : w2.cell? ⟨w.heap.size + 1 + 1 + 1, 0, none⟩ = some (.int .i64 2) := ((HB.out.only H3.out.k (by simp; omega)).cell 0).trans rfl
  have pb1 : w2.cell? ⟨w.heap.size + 1 + 1 + 1, 1, none⟩ = some (.string ⟨#[]⟩) := ((HB.out.only H3.out.k (by simp; omega)).cell 1).trans rfl
  have pb2 : w2.cell? ⟨w.heap.size + 1 + 1 + 1, 2, none⟩ = some (.int .i64 10) := ((HB.out.only H3.out.k (by simp; omega)).cell 2).trans rfl
  have pb3 : w2.cell? ⟨w.heap.size + 1 + 1 + 1, 3, none⟩ = some (.int .i64 4) := ((HB.out.only H3.out.k (by simp; omega)).cell 3).trans rfl
  go_wp2_with fail
  clear pa0 pa1 pa2 pa3 pb0 pb1 pb2 pb3
  have H3' := Aside0.mk (H3.out.below (below_alloc (Below.refl _ _) (.cells (fe [eA, eB]).toArray 38)))
  refine (H3'.out.take [eA, eB] 1 w2.heap.size 2 2 rfl (lit_src w2 [eA, eB]) (far_new H3.out.i).1 (far_new H3.out.i).2 (by decide) (by decide) (by simp) (by decide) (by decide) (by decide)).mono ?_
  rw [show takeE 1 0 ([] ++ [] : List E4).length (0 + (([] : List E4).length : Int)) [eA, eB] = [eA, eB] by simp [takeE, okA, okB]]
  rintro e3 w3 ⟨rfl, Aj, cj, H4, _⟩
  have H4 := Aside0.mk H4
  go_wp2_with fail
  refine (next_some (w.heap.size + 1) _ eA [eB] 0 _ _ H4.out.i (by decide) (by decide) (by decide)).mono ?_
  rintro e4 w4 ⟨rfl, v5, hq5, ht5⟩
  have H5 := Aside0.mk (H4.out.setI hq5 ht5)
  clear hq5 ht5
  simp only [E4.val, eA]
  have H5' := Aside0.mk (H5.out.below (below_alloc (Below.refl _ _) (.cells #[.int .i64 1, .string ⟨#[97]⟩, .int .i64 0, .int .i64 0] 38)))
  have pa0 : (w4.alloc (.cells #[.int .i64 1, .string ⟨#[97]⟩, .int .i64 0, .int .i64 0] 38)).cell? ⟨w.heap.size + 1 + 1, 0, none⟩ = some (.int .i64 1) := ((HA.out.only H5'.out.k (by simp; omega)).cell 0).trans rfl
  have pa1 : (w4.alloc (.cells #[.int .i64 1, .string ⟨#[97]⟩, .int .i64 0, .int .i64 0] 38)).cell? ⟨w.heap.size + 1 + 1, 1, none⟩ = some (.string ⟨#[97]⟩) := ((HA.out.only H5'.out.k (by simp; omega)).cell 1).trans rfl
  have pa2 : (w4.alloc (.cells #[.int .i64 1, .string ⟨#[97]⟩, .int .i64 0, .int .i64 0] 38)).cell? ⟨w.heap.size + 1 + 1, 2, none⟩ = some (.int .i64 0) := ((HA.out.only H5'.out.k (by simp; omega)).cell 2).trans rfl
  have pa3 : (w4.alloc (.cells #[.int .i64 1, .string ⟨#[97]⟩, .int .i64 0, .int .i64 0] 38)).cell? ⟨w.heap.size + 1 + 1, 3, none⟩ = some (.int .i64 0) := ((HA.out.only H5'.out.k (by simp; omega)).cell 3).trans rfl
  have pb0 : (w4.alloc (.cells #[.int .i64 1, .string ⟨#[97]⟩, .int .i64 0, .int .i64 0] 38)).cell? ⟨w.heap.size + 1 + 1 + 1, 0, none⟩ = some (.int .i64 2) := ((HB.out.only H5'.out.k (by simp; omega)).cell 0).trans rfl
  have pb1 : (w4.alloc (.cells #[.int .i64 1, .string ⟨#[97]⟩, .int .i64 0, .int .i64 0] 38)).cell? ⟨w.heap.size + 1 + 1 + 1, 1, none⟩ = some (.string ⟨#[]⟩) := ((HB.out.only H5'.out.k (by simp; omega)).cell 1).trans rfl
  have pb2 : (w4.alloc (.cells #[.int .i64 1, .string ⟨#[97]⟩, .int .i64 0, .int .i64 0] 38)).cell? ⟨w.heap.size + 1 + 1 + 1, 2, none⟩ = some (.int .i64 10) := ((HB.out.only H5'.out.k (by simp; omega)).cell 2).trans rfl
  have pb3 : (w4.alloc (.cells #[.int .i64 1, .string ⟨#[97]⟩, .int .i64 0, .int .i64 0] 38)).cell? ⟨w.heap.size + 1 + 1 + 1, 3, none⟩ = some (.int .i64 4) := ((HB.out.only H5'.out.k (by simp; omega)).cell 3).trans rfl
  have heq := eql_ev
  go_wp2_with fail
  refine (done_calls _ _ _ _ _ _ H5'.out.i).mono ?_
  rintro e5 w5 ⟨rfl, rfl⟩
  go_wp2_with fail
  refine (got_calls _ _ _ _ _ _ H5'.out.i).mono ?_
  rintro e6 w6 ⟨rfl, rfl⟩
  clear pa0 pa1 pa2 pa3 pb0 pb1 pb2 pb3 heq
  go_wp2_with fail
  refine (ack_calls _ _ [eA, eB] 2 0 1 _ H5'.out.o (by decide) (by decide) (by decide) (by decide) (by decide) (by decide)).mono ?_
  rintro e7 w7 ⟨rfl, v7, hq7, ht7⟩
  have H7 := Aside0.mk (H5'.out.setO hq7 ht7)
  clear hq7 ht7
  have pb0 : w7.cell? ⟨w.heap.size + 1 + 1 + 1, 0, none⟩ = some (.int .i64 2) := ((HB.out.only H7.out.k (by simp; omega)).cell 0).trans rfl
  have pb1 : w7.cell? ⟨w.heap.size + 1 + 1 + 1, 1, none⟩ = some (.string ⟨#[]⟩) := ((HB.out.only H7.out.k (by simp; omega)).cell 1).trans rfl
  have pb2 : w7.cell? ⟨w.heap.size + 1 + 1 + 1, 2, none⟩ = some (.int .i64 10) := ((HB.out.only H7.out.k (by simp; omega)).cell 2).trans rfl
  have pb3 : w7.cell? ⟨w.heap.size + 1 + 1 + 1, 3, none⟩ = some (.int .i64 4) := ((HB.out.only H7.out.k (by simp; omega)).cell 3).trans rfl
  go_wp2_with fail
  refine (keys_Valid.calls 2 ⟨#[]⟩ 10 4 true _ (by decide +kernel)).mono ?_
  rintro e8 w8 ⟨rfl, hb8⟩
  have HF := Aside0.mk (below_step (H7.out.k.belowOf HW.out HW.out.size (by simp)) hb8)
  clear hb8
  go_wp2
  go_ret
  exact ⟨rfl, HF.out⟩
end Go.Proofs.Ytjjjinpmflghmaa.Keys
