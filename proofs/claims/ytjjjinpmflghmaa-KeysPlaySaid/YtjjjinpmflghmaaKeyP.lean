/- A sender, a taker, the document's two, and a book beside each other; what each call makes of them; a nil sender and taker. Conditions: those in each theorem. -/
import Derived.Test.YtjjjinpmflghmaaRefKT
import Derived.Test.YtjjjinpmflghmaaBk3Ev
import Derived.Test.YtjjjinpmflghmaaKeyAl
namespace Go.Proofs.Ytjjjinpmflghmaa.Keys
open Go.RowKit Go.Proofs.Ytjjjinpmflghmaa.Mem Go.Proofs.Ytjjjinpmflghmaa.Row Go.Proofs.YtjjjinpmflghmaaW.PrintWords Go.Proofs.YtjjjinpmflghmaaW.PrintMore Go.Proofs.YtjjjinpmflghmaaW.PrintLast
open Go.Proofs.Ytjjjinpmflghmaa.BookEv (BK LS foot mem_foot Own Src Lent)
set_option linter.unusedVariables false
set_option linter.unusedSimpArgs false
theorem ack_no (g : Nat) (v : Value) (l : List E4) (a b n : Int) (w : World) (h : IsQ w g 33 v l a b) (hn : n ≤ b ∨ a < n) :
    Calls Try.prog 15 #[.pointer (some ⟨g, 0, none⟩), .int .i64 n] w fun r w' => r = .returned (.int .i64 0) ∧ w = w' := by
  have HQ := Aside0.mk h
  have HN := Aside0.mk hn
  clear h hn
  by_cases h1 : n ≤ b
  · go_enter Try.func15, Try.ntmps15
    go_wp2_with fail
    refine (acked_calls g _ l a b w HQ.out).mono ?_
    rintro e1 w1 ⟨rfl, rfl⟩
    go_wp2_with fail
    refine (acked_calls g _ l a b w HQ.out).mono ?_
    rintro e1 w1 ⟨rfl, rfl⟩
    go_wp2
    go_ret
    exact ⟨rfl, rfl⟩
  · have h2 : a < n := by have := HN.out; omega
    go_enter Try.func15, Try.ntmps15
    go_wp2_with fail
    refine (acked_calls g _ l a b w HQ.out).mono ?_
    rintro e1 w1 ⟨rfl, rfl⟩
    go_wp2_with fail
    refine (acked_calls g _ l a b w HQ.out).mono ?_
    rintro e1 w1 ⟨rfl, rfl⟩
    go_wp2_with fail
    refine (top_calls g _ l a b w HQ.out).mono ?_
    rintro e1 w1 ⟨rfl, rfl⟩
    go_wp2
    go_ret
    exact ⟨rfl, rfl⟩
/-! ### Of nil -/
theorem eql_n1 (w : World) : Sem.run Try.prog (binOp .eql 23 (.pointer none) (.pointer none)) w = .ok (.bool true) w := by kernel_rfl
theorem eql_n2 (w : World) : Sem.run Try.prog (binOp .eql 34 (.pointer none) (.pointer none)) w = .ok (.bool true) w := by kernel_rfl
theorem wait0 (n : Int) (w : World) : Calls Try.prog 28 #[.pointer none, .int .i64 n] w fun r w' => r = .returned (.tuple #[.int .i64 0, .slice none 0 0]) ∧ w = w' := by
  have hn := eql_n1
  go_enter Try.func28, Try.ntmps28
  go_wp2
  go_ret2
  exact ⟨rfl, rfl⟩
theorem add0 (v : Value) (w : World) : Calls Try.prog 11 #[.pointer none, v] w fun r w' => r = .returned (.int .i64 0) ∧ w = w' := by
  have hn := eql_n1
  go_enter Try.func11, Try.ntmps11
  go_wp2
  go_ret
  exact ⟨rfl, rfl⟩
theorem top0 (w : World) : Calls Try.prog 34 #[.pointer none] w fun r w' => r = .returned (.int .i64 0) ∧ w = w' := by
  have hn := eql_n1
  go_enter Try.func34, Try.ntmps34
  go_wp2
  go_ret
  exact ⟨rfl, rfl⟩
theorem acked0 (w : World) : Calls Try.prog 36 #[.pointer none] w fun r w' => r = .returned (.int .i64 0) ∧ w = w' := by
  have hn := eql_n1
  go_enter Try.func36, Try.ntmps36
  go_wp2
  go_ret
  exact ⟨rfl, rfl⟩
theorem ack0 (n : Int) (hn : 0 < n) (w : World) : Calls Try.prog 15 #[.pointer none, .int .i64 n] w fun r w' => r = .returned (.int .i64 0) ∧ w = w' := by
  have h0 : ¬ n ≤ 0 := by omega
  go_enter Try.func15, Try.ntmps15
  go_wp2_with fail
  refine (acked0 w).mono ?_
  rintro e1 w1 ⟨rfl, rfl⟩
  go_wp2_with fail
  refine (acked0 w).mono ?_
  rintro e1 w1 ⟨rfl, rfl⟩
  go_wp2_with fail
  refine (top0 w).mono ?_
  rintro e1 w1 ⟨rfl, rfl⟩
  go_wp2
  go_ret
  exact ⟨rfl, rfl⟩
theorem take0 (n : Int) (v : Value) (w : World) : Calls Try.prog 12 #[.pointer none, .int .i64 n, v] w fun r w' => r = .returned (.int .i64 0) ∧ w = w' := by
  have hn := eql_n2
  go_enter Try.func12, Try.ntmps12
  go_wp2
  go_ret
  exact ⟨rfl, rfl⟩
theorem done0 (w : World) : Calls Try.prog 37 #[.pointer none] w fun r w' => r = .returned (.int .i64 0) ∧ w = w' := by
  have hn := eql_n2
  go_enter Try.func37, Try.ntmps37
  go_wp2
  go_ret
  exact ⟨rfl, rfl⟩
theorem got0 (w : World) : Calls Try.prog 38 #[.pointer none] w fun r w' => r = .returned (.int .i64 0) ∧ w = w' := by
  have hn := eql_n2
  go_enter Try.func38, Try.ntmps38
  go_wp2
  go_ret
  exact ⟨rfl, rfl⟩
theorem len0 (w : World) : Calls Try.prog 13 #[.pointer none] w fun r w' => r = .returned (.int .i64 0) ∧ w = w' := by
  have hn := eql_n2
  go_enter Try.func13, Try.ntmps13
  go_wp2
  go_ret
  exact ⟨rfl, rfl⟩
set_option maxHeartbeats 1000000 in
set_option maxRecDepth 100000 in
theorem first0 (w : World) :
    Calls Try.prog 52 #[.pointer none] w fun r w' => r = .returned (.tuple #[.agg #[.int .i64 0, .string ⟨#[]⟩, .int .i64 0, .int .i64 0], .bool false]) ∧ Below w.heap.size w w' := by
  have HN := Aside0.mk (Blk.new w 38 #[.int .i64 0, .string ⟨#[]⟩, .int .i64 0, .int .i64 0])
  go_enter Try.func52, Try.ntmps52
  go_wp2_with fail
  refine (len0 _).mono ?_
  rintro e1 w1 ⟨rfl, rfl⟩
  go_wp2_with fail
  exact bodyPost_ret (results_ct rfl _ _ w.heap.size 38 _ (0, 0) _ rfl HN.out Try.underlying38 rfl (by kernel_rfl)) rfl ⟨rfl, below_alloc (Below.refl _ _) _⟩
set_option maxHeartbeats 1000000 in
set_option maxRecDepth 100000 in
theorem next0 (w : World) :
    Calls Try.prog 14 #[.pointer none] w fun r w' => r = .returned (.tuple #[.agg #[.int .i64 0, .string ⟨#[]⟩, .int .i64 0, .int .i64 0], .bool false]) ∧ Below w.heap.size w w' := by
  have HN := Aside0.mk (Blk.new w 38 #[.int .i64 0, .string ⟨#[]⟩, .int .i64 0, .int .i64 0])
  have HB := Aside0.mk (below_alloc (Below.refl w.heap.size w) (.cells #[.int .i64 0, .string ⟨#[]⟩, .int .i64 0, .int .i64 0] 38))
  go_enter Try.func14, Try.ntmps14
  go_wp2_with fail
  refine (first0 _).mono ?_
  rintro e1 w1 ⟨rfl, hb1⟩
  have HN := Aside0.mk (HN.out.below' hb1)
  have HB := Aside0.mk (below_step HB.out hb1)
  clear hb1
  have c0 : (w1.alloc (.cells #[.int .i64 0, .string ⟨#[]⟩, .int .i64 0, .int .i64 0] 38)).cell? ⟨w.heap.size, 0, none⟩ = some (.int .i64 0) := ((HN.out.alloc _).cell 0).trans rfl
  have f0 : (w1.alloc (.cells #[.int .i64 0, .string ⟨#[]⟩, .int .i64 0, .int .i64 0] 38)).frozen? ⟨w.heap.size, 0, none⟩ = false := (HN.out.alloc _).frozen 0
  have c1 : (w1.alloc (.cells #[.int .i64 0, .string ⟨#[]⟩, .int .i64 0, .int .i64 0] 38)).cell? ⟨w.heap.size, 1, none⟩ = some (.string ⟨#[]⟩) := ((HN.out.alloc _).cell 1).trans rfl
  have f1 : (w1.alloc (.cells #[.int .i64 0, .string ⟨#[]⟩, .int .i64 0, .int .i64 0] 38)).frozen? ⟨w.heap.size, 1, none⟩ = false := (HN.out.alloc _).frozen 1
  have c2 : (w1.alloc (.cells #[.int .i64 0, .string ⟨#[]⟩, .int .i64 0, .int .i64 0] 38)).cell? ⟨w.heap.size, 2, none⟩ = some (.int .i64 0) := ((HN.out.alloc _).cell 2).trans rfl
  have f2 : (w1.alloc (.cells #[.int .i64 0, .string ⟨#[]⟩, .int .i64 0, .int .i64 0] 38)).frozen? ⟨w.heap.size, 2, none⟩ = false := (HN.out.alloc _).frozen 2
  have c3 : (w1.alloc (.cells #[.int .i64 0, .string ⟨#[]⟩, .int .i64 0, .int .i64 0] 38)).cell? ⟨w.heap.size, 3, none⟩ = some (.int .i64 0) := ((HN.out.alloc _).cell 3).trans rfl
  have f3 : (w1.alloc (.cells #[.int .i64 0, .string ⟨#[]⟩, .int .i64 0, .int .i64 0] 38)).frozen? ⟨w.heap.size, 3, none⟩ = false := (HN.out.alloc _).frozen 3
  go_wp2_with fail
  exact bodyPost_ret (results_ct rfl _ _ w.heap.size 38 #[.int .i64 0, .string ⟨#[]⟩, .int .i64 0, .int .i64 0] (0, 0) _ rfl (((((HN.out.alloc _).set_ 0 _).set_ 1 _).set_ 2 _).set_ 3 _) Try.underlying38 rfl (by kernel_rfl)) rfl
    ⟨rfl, (((((Only.of_below [] (show Below w.heap.size w _ from below_alloc HB.out _)).setCell _ _ (.inr (Nat.le_refl _))).setCell _ _ (.inr (Nat.le_refl _))).setCell _ _ (.inr (Nat.le_refl _))).setCell _ _ (.inr (Nat.le_refl _))).toBelow (Nat.le_refl _) (by simp)⟩
/-! ### All beside each other -/
/-- The block of a list that is only read. -/
def bo (A : Option Addr) : List Nat := (A.map Addr.block).toList
theorem mem_bo {A : Option Addr} {b : Nat} (h : b ∈ bo A) : ∃ x, A = some x ∧ x.block = b := by
  unfold bo at h
  cases A with
  | none => simp at h
  | some x => exact ⟨x, rfl, by simpa [eq_comm] using h⟩
theorem bo_mem {A : Option Addr} {x : Addr} (h : A = some x) : x.block ∈ bo A := by
  unfold bo
  simp [h]
theorem src_lt {w : World} {A : Option Addr} {l : List E4} (h : Src w A l.length l) (hl : l ≠ []) : ∀ b ∈ bo A, b < w.heap.size := fun b hb => by
  obtain ⟨x, rfl, rfl⟩ := mem_bo hb
  rcases h.2 with h0 | ⟨ad, h1, h2⟩
  · exact absurd (List.length_eq_zero_iff.1 h0) hl
  · injection h1 with h1
    subst h1
    match l, hl with
    | e :: l, _ =>
      have h3 := World.block_lt_of_cell? w _ (h2 0 _ rfl)
      simpa [Addr.add] using h3
theorem IsR.only {w w' : World} {g c : Nat} {T : TypeId} {A : Option Addr} {l : List E4} {a : Int} {gs : List Nat} (h : IsR w g T A c l a) (ho : Only gs w w') (hg : g ∉ gs) (hb : ∀ b ∈ bo A, b ∉ gs) : IsR w' g T A c l a :=
  ⟨h.blk.only ho hg, h.src.only ho (fun x hx => hb _ (bo_mem hx)), h.lc, h.ne⟩
/-- What all of them hold. -/
structure KS where
  vo : Value
  lo : List E4
  bo : Int
  vi : Value
  li : List E4
  ai : Int
  Ar : Option Addr
  cr : Nat
  lr : List E4
  br : Int
  Aq : Option Addr
  cq : Nat
  lq : List E4
  aq : Int
  vx : Value
  vw : Value
  L : LS
  Lw : LS
  X : List Nat
  W : World
structure KP (w0 : World) (go gi gr gq gb : Nat) (S : KS) (w : World) : Prop where
  o : IsQ w go 33 S.vo S.lo (S.bo + S.lo.length) S.bo
  i : IsQ w gi 36 S.vi S.li S.ai (S.ai + S.li.length)
  r : IsR w gr 66 S.Ar S.cr S.lr S.br
  q : IsR w gq 69 S.Aq S.cq S.lq S.aq
  bk : BK w gb S.vx S.vw S.L S.Lw
  sep : Sep w0.heap.size w [go :: S.vo.ownBlock.toList, gi :: S.vi.ownBlock.toList, gr :: bo S.Ar, gq :: bo S.Aq, foot gb S.vx S.vw S.L S.Lw, S.X]
  bel : Below w0.heap.size w0 w
  same : S.L.map Prod.snd = S.Lw.map Prod.snd
  xs : ∀ b ∈ S.X, w.heap[b]? = S.W.heap[b]?
section
variable {w0 w w' : World} {go gi gr gq gb : Nat} {S : KS}
theorem KP.xlt (H : KP w0 go gi gr gq gb S w) : ∀ b ∈ S.X, w0.heap.size ≤ b ∧ b < w.heap.size := fun b hb => H.sep.lt S.X (by simp) b hb
theorem KP.below (H : KP w0 go gi gr gq gb S w) (hb : Below w.heap.size w w') : KP w0 go gi gr gq gb S w' :=
  ⟨H.o.below hb, H.i.below hb, H.r.below hb, H.q.below hb, H.bk.below hb, H.sep.below hb.size, below_step H.bel hb, H.same, fun b hm => (hb.block b (H.xlt b hm).2).trans (H.xs b hm)⟩
/-- What lies beside is as it was. -/
theorem KP.xcell (H : KP w0 go gi gr gq gb S w) {b : Nat} (hb : b ∈ S.X) {i : Nat} {v : Value} (h : S.W.cell? ⟨b, i, none⟩ = some v) : w.cell? ⟨b, i, none⟩ = some v := (World.cell?_of_block (H.xs b hb)).trans h
theorem KP.xlent (H : KP w0 go gi gr gq gb S w) {B g c : Nat} {l : List E4} (hg : g ∈ S.X) (h : Lent S.W B g c l) : Lent w B g c l := by
  obtain ⟨h1, h2, h3, rest, h4⟩ := h
  exact ⟨h1, h2, h3, rest, (H.xs g hg).trans h4⟩
theorem KP.src0 (H : KP w0 go gi gr gq gb S w) {A : Option Addr} {n : Nat} {l : List E4} (h : Src w0 A n l) : Src w A n l := h.below H.bel
/-- Others than the sender stay. -/
theorem KP.setO (H : KP w0 go gi gr gq gb S w) {vo' : Value} {lo' : List E4} {top b' : Int} (hq : IsQ w' go 33 vo' lo' top b') (ht : Turn go S.vo w w' vo') (htop : top = b' + lo'.length) : KP w0 go gi gr gq gb { S with vo := vo', lo := lo', bo := b' } w' := by
  subst htop
  have d := fun j f hj (hf : _ = some f) => H.sep.dis j 0 f _ hf rfl hj
  have hs := H.sep.step H.bel.size 0 (f' := go :: vo'.ownBlock.toList) rfl ht.o.size (fun b hb => by
    rcases List.mem_cons.1 hb with rfl | hb
    · exact .inl (by simp)
    · rcases ht.n b (by simpa using hb) with h1 | h1
      · exact .inl (by simp [h1])
      · exact .inr h1) (fun b hb => by
    rcases List.mem_cons.1 hb with rfl | hb
    · exact hq.blk.lt
    · exact own_lt hq.row b (by simpa using hb))
  exact ⟨hq, ⟨H.i.blk.only ht.o (d 1 _ (by decide) rfl _ (by simp)), row_only H.i.row ht.o (fun b hb => d 1 _ (by decide) rfl b (by simp [hb]))⟩,
    H.r.only ht.o (d 2 _ (by decide) rfl _ (by simp)) (fun b hb => d 2 _ (by decide) rfl b (by simp [hb])), H.q.only ht.o (d 3 _ (by decide) rfl _ (by simp)) (fun b hb => d 3 _ (by decide) rfl b (by simp [hb])),
    H.bk.only ht.o (fun b hb => d 4 _ (by decide) rfl b hb), hs, H.bel.trans (ht.o.toBelow H.bel.size (fun b hb => H.sep.ge 0 rfl b hb)), H.same, fun b hb => (ht.o.block b (H.xlt b hb).2 (d 5 _ (by decide) rfl b hb)).trans (H.xs b hb)⟩
theorem KP.setI (H : KP w0 go gi gr gq gb S w) {vi' : Value} {li' : List E4} {a' got : Int} (hq : IsQ w' gi 36 vi' li' a' got) (ht : Turn gi S.vi w w' vi') (hgot : got = a' + li'.length) : KP w0 go gi gr gq gb { S with vi := vi', li := li', ai := a' } w' := by
  subst hgot
  have d := fun j f hj (hf : _ = some f) => H.sep.dis j 1 f _ hf rfl hj
  have hs := H.sep.step H.bel.size 1 (f' := gi :: vi'.ownBlock.toList) rfl ht.o.size (fun b hb => by
    rcases List.mem_cons.1 hb with rfl | hb
    · exact .inl (by simp)
    · rcases ht.n b (by simpa using hb) with h1 | h1
      · exact .inl (by simp [h1])
      · exact .inr h1) (fun b hb => by
    rcases List.mem_cons.1 hb with rfl | hb
    · exact hq.blk.lt
    · exact own_lt hq.row b (by simpa using hb))
  exact ⟨⟨H.o.blk.only ht.o (d 0 _ (by decide) rfl _ (by simp)), row_only H.o.row ht.o (fun b hb => d 0 _ (by decide) rfl b (by simp [hb]))⟩, hq,
    H.r.only ht.o (d 2 _ (by decide) rfl _ (by simp)) (fun b hb => d 2 _ (by decide) rfl b (by simp [hb])), H.q.only ht.o (d 3 _ (by decide) rfl _ (by simp)) (fun b hb => d 3 _ (by decide) rfl b (by simp [hb])),
    H.bk.only ht.o (fun b hb => d 4 _ (by decide) rfl b hb), hs, H.bel.trans (ht.o.toBelow H.bel.size (fun b hb => H.sep.ge 1 rfl b hb)), H.same, fun b hb => (ht.o.block b (H.xlt b hb).2 (d 5 _ (by decide) rfl b hb)).trans (H.xs b hb)⟩
theorem KP.setR (H : KP w0 go gi gr gq gb S w) {A' : Option Addr} {c' : Nat} {l' : List E4} {b' : Int} (hr : IsR w' gr 66 A' c' l' b') (ho : Only [gr] w w') (hA : (∀ b ∈ bo A', b ∈ bo S.Ar) ∨ (l' ≠ [] ∧ ∀ x, A' = some x → w.heap.size ≤ x.block)) : KP w0 go gi gr gq gb { S with Ar := A', cr := c', lr := l', br := b' } w' := by
  have d := fun j f hj (hf : _ = some f) => H.sep.dis j 2 f _ hf rfl hj
  have ho := ho.mono (hs := gr :: bo S.Ar) (by simp)
  have hs := H.sep.step H.bel.size 2 (f' := gr :: bo A') rfl ho.size (fun b hb => by
    rcases List.mem_cons.1 hb with rfl | hb
    · exact .inl (by simp)
    · rcases hA with h1 | ⟨_, h1⟩
      · exact .inl (List.mem_cons_of_mem _ (h1 b hb))
      · obtain ⟨x, hx, rfl⟩ := mem_bo hb
        exact .inr (h1 x hx)) (fun b hb => by
    rcases List.mem_cons.1 hb with rfl | hb
    · exact hr.blk.lt
    · rcases hA with h1 | ⟨h1, _⟩
      · exact Nat.lt_of_lt_of_le (H.sep.lt _ (List.mem_of_getElem? (i := 2) rfl) b (List.mem_cons_of_mem _ (h1 b hb))).2 ho.size
      · exact src_lt hr.src h1 b hb)
  exact ⟨⟨H.o.blk.only ho (d 0 _ (by decide) rfl _ (by simp)), row_only H.o.row ho (fun b hb => d 0 _ (by decide) rfl b (by simp [hb]))⟩,
    ⟨H.i.blk.only ho (d 1 _ (by decide) rfl _ (by simp)), row_only H.i.row ho (fun b hb => d 1 _ (by decide) rfl b (by simp [hb]))⟩, hr, H.q.only ho (d 3 _ (by decide) rfl _ (by simp)) (fun b hb => d 3 _ (by decide) rfl b (by simp [hb])),
    H.bk.only ho (fun b hb => d 4 _ (by decide) rfl b hb), hs, H.bel.trans (ho.toBelow H.bel.size (fun b hb => H.sep.ge 2 rfl b hb)), H.same, fun b hb => (ho.block b (H.xlt b hb).2 (d 5 _ (by decide) rfl b hb)).trans (H.xs b hb)⟩
theorem KP.setQ (H : KP w0 go gi gr gq gb S w) {A' : Option Addr} {c' : Nat} {l' : List E4} {a' : Int} (hq : IsR w' gq 69 A' c' l' a') (ho : Only [gq] w w') (hA : (∀ b ∈ bo A', b ∈ bo S.Aq) ∨ (l' ≠ [] ∧ ∀ x, A' = some x → w.heap.size ≤ x.block)) : KP w0 go gi gr gq gb { S with Aq := A', cq := c', lq := l', aq := a' } w' := by
  have d := fun j f hj (hf : _ = some f) => H.sep.dis j 3 f _ hf rfl hj
  have ho := ho.mono (hs := gq :: bo S.Aq) (by simp)
  have hs := H.sep.step H.bel.size 3 (f' := gq :: bo A') rfl ho.size (fun b hb => by
    rcases List.mem_cons.1 hb with rfl | hb
    · exact .inl (by simp)
    · rcases hA with h1 | ⟨_, h1⟩
      · exact .inl (List.mem_cons_of_mem _ (h1 b hb))
      · obtain ⟨x, hx, rfl⟩ := mem_bo hb
        exact .inr (h1 x hx)) (fun b hb => by
    rcases List.mem_cons.1 hb with rfl | hb
    · exact hq.blk.lt
    · rcases hA with h1 | ⟨h1, _⟩
      · exact Nat.lt_of_lt_of_le (H.sep.lt _ (List.mem_of_getElem? (i := 3) rfl) b (List.mem_cons_of_mem _ (h1 b hb))).2 ho.size
      · exact src_lt hq.src h1 b hb)
  exact ⟨⟨H.o.blk.only ho (d 0 _ (by decide) rfl _ (by simp)), row_only H.o.row ho (fun b hb => d 0 _ (by decide) rfl b (by simp [hb]))⟩,
    ⟨H.i.blk.only ho (d 1 _ (by decide) rfl _ (by simp)), row_only H.i.row ho (fun b hb => d 1 _ (by decide) rfl b (by simp [hb]))⟩, H.r.only ho (d 2 _ (by decide) rfl _ (by simp)) (fun b hb => d 2 _ (by decide) rfl b (by simp [hb])), hq,
    H.bk.only ho (fun b hb => d 4 _ (by decide) rfl b hb), hs, H.bel.trans (ho.toBelow H.bel.size (fun b hb => H.sep.ge 3 rfl b hb)), H.same, fun b hb => (ho.block b (H.xlt b hb).2 (d 5 _ (by decide) rfl b hb)).trans (H.xs b hb)⟩
/-- Blocks beside, that are new. -/
theorem KP.more (H : KP w0 go gi gr gq gb S w) (hb : Below w.heap.size w w') (X' : List Nat) (hX : ∀ b ∈ X', (b ∈ S.X ∨ w.heap.size ≤ b) ∧ b < w'.heap.size) : KP w0 go gi gr gq gb { S with X := X', W := w' } w' :=
  ⟨H.o.below hb, H.i.below hb, H.r.below hb, H.q.below hb, H.bk.below hb, H.sep.step H.bel.size 5 (f' := X') rfl hb.size (fun b hm => (hX b hm).1) (fun b hm => (hX b hm).2), below_step H.bel hb, H.same, fun b hm => rfl⟩
/-- One list more in the book. -/
theorem KP.kept (H : KP w0 go gi gr gq gb S w) {w1 : World} (hb : Below w.heap.size w w1) {t : Value} {l : List E4} (ht : Own w1 w.heap.size t l) (hl1 : l.length ≤ 1000) (hL : S.L.length < 250) :
    Calls Try.prog 30 #[.pointer (some ⟨gb, 0, none⟩), t] w1 fun r w' => r = .returned (.tuple #[]) ∧ ∃ vx' vw' c, KP w0 go gi gr gq gb { S with vx := vx', vw := vw', L := S.L ++ [(t, l)], Lw := S.Lw ++ [(c, l)] } w' ∧ Own w' 0 t l := by
  have H1 := H.below hb
  refine (BookEv.add_calls t l w1 H1.bk ht.zero hl1 (fun k hk hm => ?_) hL).mono ?_
  · have h1 := own_base ht k hk
    have h2 := H.bk.lt k hm
    omega
  · rintro r w2 ⟨rfl, vx', vw', c, hbk, ho, hf⟩
    have d := fun j f hj (hf : _ = some f) => H1.sep.dis j 4 f _ hf rfl hj
    have hs := H.sep.step H.bel.size 4 (w' := w2) (f' := foot gb vx' vw' (S.L ++ [(t, l)]) (S.Lw ++ [(c, l)])) rfl (Nat.le_trans hb.size ho.size) (fun b hb2 => by
      rcases hf b hb2 with h1 | h1 | h1
      · exact .inl h1
      · exact .inr (own_base ht b h1)
      · exact .inr (Nat.le_trans hb.size h1)) hbk.lt
    exact ⟨rfl, vx', vw', c, ⟨⟨H1.o.blk.only ho (d 0 _ (by decide) rfl _ (by simp)), row_only H1.o.row ho (fun b hb => d 0 _ (by decide) rfl b (by simp [hb]))⟩,
      ⟨H1.i.blk.only ho (d 1 _ (by decide) rfl _ (by simp)), row_only H1.i.row ho (fun b hb => d 1 _ (by decide) rfl b (by simp [hb]))⟩, H1.r.only ho (d 2 _ (by decide) rfl _ (by simp)) (fun b hb => d 2 _ (by decide) rfl b (by simp [hb])), H1.q.only ho (d 3 _ (by decide) rfl _ (by simp)) (fun b hb => d 3 _ (by decide) rfl b (by simp [hb])),
      hbk, hs, H1.bel.trans (ho.toBelow H1.bel.size (fun b hb => H1.sep.ge 4 rfl b hb)), by show (S.L ++ [(t, l)]).map Prod.snd = (S.Lw ++ [(c, l)]).map Prod.snd; rw [List.map_append, List.map_append, H.same]; rfl, fun b hb => (ho.block b (H1.xlt b hb).2 (d 5 _ (by decide) rfl b hb)).trans (H1.xs b hb)⟩, (hbk.xs (t, l) (by simp)).1⟩
end
end Go.Proofs.Ytjjjinpmflghmaa.Keys
