/- A nil host; calls that come in; a host, a book and a list of texts beside each other. Conditions: those in each theorem. -/
import Derived.Test.YtmdhiimgeocgeaaHostL
import Derived.Test.YtmdhiimgeocgeaaBk3Tx
import Derived.Test.YtmdhiimgeocgeaaOpens2
namespace Go.Proofs.Ytmdhiimgeocgeaa.Host
open Go.RowKit Go.ChangeShapes Go.WideShapes Go.Deep Go.Proofs.Ytmdhiimgeocgeaa.Mem Go.Proofs.Ytmdhiimgeocgeaa.Row Go.Proofs.Ytmdhiimgeocgeaa.Tally Go.Proofs.Ytmdhiimgeocgeaa.Obj Go.Proofs.Ytmdhiimgeocgeaa.Opens Go.Proofs.YtmdhiimgeocgeaaW.PrintWords Go.Proofs.YtmdhiimgeocgeaaW.PrintMore Go.Proofs.YtmdhiimgeocgeaaW.PrintLast
set_option linter.unusedVariables false
set_option linter.unusedSimpArgs false
/-! ### A nil host -/
theorem listen0 (on : Bool) (w : World) : Calls Try.prog 24 #[.pointer none, .bool on] w fun r w' => r = .returned (.tuple #[]) ∧ w = w' := by
  have hn := neq_n
  go_enter Try.func24, Try.ntmps24
  go_wp2
  go_end0
  exact ⟨rfl, rfl⟩
theorem break0 (w : World) : Calls Try.prog 26 #[.pointer none] w fun r w' => r = .returned (.tuple #[]) ∧ w = w' := by
  have hn := neq_n
  go_enter Try.func26, Try.ntmps26
  go_wp2
  go_end0
  exact ⟨rfl, rfl⟩
theorem room0 (n : Int) (w : World) : Calls Try.prog 30 #[.pointer none, .int .i64 n] w fun r w' => r = .returned (.tuple #[]) ∧ w = w' := by
  have hn := neq_n
  go_enter Try.func30, Try.ntmps30
  go_wp2
  go_end0
  exact ⟨rfl, rfl⟩
theorem connect0 (w : World) : Calls Try.prog 25 #[.pointer none] w fun r w' => r = .returned (.bool false) ∧ w = w' := by
  have hn := eql_n
  go_enter Try.func25, Try.ntmps25
  go_wp2
  go_ret
  exact ⟨rfl, rfl⟩
theorem up0 (w : World) : Calls Try.prog 34 #[.pointer none] w fun r w' => r = .returned (.bool false) ∧ w = w' := by
  have hn := neq_n
  go_enter Try.func34, Try.ntmps34
  go_wp2
  go_ret
  exact ⟨rfl, rfl⟩
theorem peek0 (n : Int) (w : World) : Calls Try.prog 28 #[.pointer none, .int .i64 n] w fun r w' => r = .returned (.string ⟨#[]⟩) ∧ w = w' := by
  have hn := eql_n
  go_enter Try.func28, Try.ntmps28
  go_wp2
  go_ret
  exact ⟨rfl, rfl⟩
theorem read0 (n : Int) (w : World) : Calls Try.prog 29 #[.pointer none, .int .i64 n] w fun r w' => r = .returned (.string ⟨#[]⟩) ∧ w = w' := by
  go_enter Try.func29, Try.ntmps29
  go_wp2_with fail
  refine (peek0 n _).mono ?_
  rintro e1 w1 ⟨rfl, rfl⟩
  go_wp2
  go_ret
  exact ⟨rfl, rfl⟩
theorem write0 (s : ByteArray) (w : World) : Calls Try.prog 31 #[.pointer none, .string s] w fun r w' => r = .returned (.int .i64 0) ∧ w = w' := by
  go_enter Try.func31, Try.ntmps31
  go_wp2_with fail
  refine (up0 _).mono ?_
  rintro e1 w1 ⟨rfl, rfl⟩
  go_wp2
  go_ret
  exact ⟨rfl, rfl⟩
theorem tries0 (w : World) : Calls Try.prog 35 #[.pointer none] w fun r w' => r = .returned (.int .i64 0) ∧ w = w' := by
  have hn := eql_n
  go_enter Try.func35, Try.ntmps35
  go_wp2
  go_ret
  exact ⟨rfl, rfl⟩
theorem heard0 (w : World) : Calls Try.prog 32 #[.pointer none] w fun r w' => r = .returned (.slice none 0 0) ∧ w = w' := by
  have hn := eql_n
  go_enter Try.func32, Try.ntmps32
  go_wp2
  go_ret
  exact ⟨rfl, rfl⟩
set_option maxHeartbeats 1000000 in
set_option maxRecDepth 100000 in
theorem say0 (s : ByteArray) (w : World) (hs : s.size ≤ 1000) :
    Calls Try.prog 27 #[.pointer none, .slice (some ⟨w.heap.size, 0, none⟩) 1 1] (w.alloc (.cells #[.string s] 9)) fun r w' => r = .returned (.bool false) ∧ Below w.heap.size w w' := by
  have hb := Blk.new w 9 #[.string s]
  have hj := join_calls w.heap.size 0 1 [s] (w.alloc (.cells #[.string s] 9)) (fun j x hj => by
    match j, hj with
    | 0, hj =>
      injection hj with hj
      subst hj
      exact (hb.cell 0).trans rfl) (by simp) (by simp) (by simp) (by rw [join_one]; omega)
  have HJ := Aside0.mk hj
  clear hb hj
  go_enter Try.func27, Try.ntmps27
  go_wp2_with fail
  refine HJ.out.mono ?_
  rintro e1 w1 ⟨rfl, hb⟩
  have HB := Aside0.mk (show Below w.heap.size w w1 from (below_alloc (Below.refl _ _) _).trans (hb.mono (by simp)))
  clear hb
  go_wp2_with fail
  refine (up0 _).mono ?_
  rintro e2 w2 ⟨rfl, rfl⟩
  go_wp2
  go_ret
  exact ⟨rfl, HB.out⟩
/-! ### Calls that come in -/
/-- A call: what, how many, a text, texts. -/
structure HOp where
  k : Int
  n : Int
  s : ByteArray
  t : List ByteArray
def kHop : Kd HOp := Kd.iso (Kd.pair (Kd.int .i64) (Kd.pair (Kd.int .i64) (Kd.pair Kd.string (Kd.slice 9 Kd.string)))) (fun x : HOp => (x.k, x.n, x.s, x.t))
theorem kHop_open {w : World} {x : HOp} {cs : List Value} (h : kHop.K w x cs) : ∃ A c, cs = [.int .i64 x.k, .int .i64 x.n, .string x.s, .slice A x.t.length c] ∧ x.t.length ≤ c ∧ Kd.string.C w A x.t.length x.t := by
  obtain ⟨_, _, rfl, rfl, ⟨_, _, rfl, rfl, ⟨_, _, rfl, rfl, ⟨A2, c2, rfl, l2, g2⟩⟩⟩⟩ := h
  exact ⟨A2, c2, rfl, l2, g2⟩
theorem kHop_mk (w : World) (x : HOp) {A : Option Addr} {c : Nat} (l2 : x.t.length ≤ c) (g2 : Kd.string.C w A x.t.length x.t) : kHop.K w x [.int .i64 x.k, .int .i64 x.n, .string x.s, .slice A x.t.length c] :=
  ⟨[.int .i64 x.k], [.int .i64 x.n, .string x.s, .slice A x.t.length c], rfl, rfl, ⟨[.int .i64 x.n], [.string x.s, .slice A x.t.length c], rfl, rfl, ⟨[.string x.s], [.slice A x.t.length c], rfl, rfl, ⟨A, c, rfl, l2, g2⟩⟩⟩⟩
/-- One call of the row. -/
theorem hop_at {w : World} {A : Option Addr} {n : Nat} {l : List HOp} (h : Kd.C kHop w A n l) {i : Nat} {x : HOp} (hi : l[i]? = some x) : ∃ ad At ct, A = some ad ∧ w.cell? (ad.add (i * 4)) = some (.int .i64 x.k) ∧ w.cell? ⟨(ad.add (i * 4)).block, (ad.add (i * 4)).off + 1, none⟩ = some (.int .i64 x.n) ∧ w.cell? ⟨(ad.add (i * 4)).block, (ad.add (i * 4)).off + 2, none⟩ = some (.string x.s) ∧ w.cell? ⟨(ad.add (i * 4)).block, (ad.add (i * 4)).off + 3, none⟩ = some (.slice At x.t.length ct) ∧ x.t.length ≤ ct ∧ Kd.string.C w At x.t.length x.t := by
  obtain ⟨h1, _, h2⟩ := h
  have hlt := (List.getElem?_eq_some_iff.1 hi).1
  obtain ⟨ad, hA, hc⟩ := h2 (by omega)
  obtain ⟨cs, _, hK, hcell⟩ := hc i x hi
  obtain ⟨At, ct, rfl, l2, g2⟩ := kHop_open hK
  have hc : ∀ j u, _ → w.cell? (ad.add (i * 4 + j)) = some u := hcell
  exact ⟨ad, At, ct, hA, hc 0 _ rfl, by rw [← add_field _ _ 1 (by omega)]; exact hc 1 _ rfl, by rw [← add_field _ _ 2 (by omega)]; exact hc 2 _ rfl, by rw [← add_field _ _ 3 (by omega)]; exact hc 3 _ rfl, l2, g2⟩
def WfHop (x : HOp) : Prop := (Lit.int .i64 x.n).wf = true
set_option maxRecDepth 100000 in
theorem opens_hop : Opens2 Try.prog 61 kHop WfHop := fun H enc w base spare held fuel cs x h => by
  obtain ⟨xs, n, _, _, hcl, hlen, hg⟩ := DataW.trod_struct Try.underlying61 h
  have hC : Try.prog.cellsOf 61 = 4 := by kernel_rfl
  have hI : Try.prog.cellsOf 3 = 1 := by kernel_rfl
  have hS : Try.prog.cellsOf 9 = 1 := by kernel_rfl
  have hSs : Try.prog.cellsOf 22 = 1 := by kernel_rfl
  rw [hC] at hcl
  match cs, hcl with
  | [c0, c1, c2, c3], _ =>
    match xs, hlen with
    | [y0, y1, y2, y3], _ =>
      have g0 := hg 0 _ rfl
      have g1 := hg 1 _ rfl
      have g2 := hg 2 _ rfl
      have g3 := hg 3 _ rfl
      simp [hI, hS, hSs] at g0 g1 g2 g3
      obtain ⟨a0, r0⟩ := opens_int Try.underlying3 _ _ _ _ _ _ _ _ _ g0
      obtain ⟨a1, r1, w1⟩ := opens2_int Try.underlying3 _ _ _ _ _ _ _ _ _ g1
      obtain ⟨a2, r2⟩ := opens_string Try.underlying9 _ _ _ _ _ _ _ _ _ g2
      obtain ⟨a3, A3, p3, r3, l3, q3⟩ := opens_slice Try.underlying22 hS (opens_string Try.underlying9) _ _ _ _ _ _ _ _ _ g3
      have r0' : [c0] = [Value.int .i64 a0] := r0
      have r1' : [c1] = [Value.int .i64 a1] := r1
      have r2' : [c2] = [Value.string a2] := r2
      simp only [List.cons.injEq, and_true] at r0' r1' r2' r3
      subst r0' r1' r2' r3
      exact ⟨⟨a0, a1, a2, a3⟩, kHop_mk w ⟨a0, a1, a2, a3⟩ l3 q3, w1⟩
/-! ### A host, a book, a list of texts -/
open Go.Proofs.Ytmdhiimgeocgeaa.BookTx (BK LS foot mem_foot Own)
structure HP (w0 : World) (g gb : Nat) (hv : Value) (h : HS) (v9 : Value) (hl : List ByteArray) (vx vw : Value) (L Lw : LS) (w : World) : Prop where
  k : IsHost w g hv h
  bk : BK w gb vx vw L Lw
  hd : Own w 0 v9 hl
  sep : Sep w0.heap.size w [g :: hv.ownBlock.toList, foot gb vx vw L Lw, v9.ownBlock.toList]
  bel : Below w0.heap.size w0 w
  same : L.map Prod.snd = Lw.map Prod.snd
section
variable {w0 w w' : World} {g gb : Nat} {hv hv' : Value} {h h' : HS} {v9 v9' : Value} {hl hl' : List ByteArray} {vx vw : Value} {L Lw : LS}
theorem HP.below (H : HP w0 g gb hv h v9 hl vx vw L Lw w) (hb : Below w.heap.size w w') : HP w0 g gb hv h v9 hl vx vw L Lw w' :=
  ⟨H.k.below hb, H.bk.below hb, H.hd.below hb, H.sep.below hb.size, below_step H.bel hb, H.same⟩
theorem HP.turn (H : HP w0 g gb hv h v9 hl vx vw L Lw w) (k' : IsHost w' g hv' h') (t : Turn g hv w w' hv') : HP w0 g gb hv' h' v9 hl vx vw L Lw w' := by
  have d1 := H.sep.dis 0 1 _ _ rfl rfl (by decide)
  have d2 := H.sep.dis 0 2 _ _ rfl rfl (by decide)
  have hs := H.sep.step H.bel.size 0 (f' := g :: hv'.ownBlock.toList) rfl t.o.size (fun b hb => by
    rcases List.mem_cons.1 hb with rfl | hb
    · exact .inl (by simp)
    · rcases t.n b (by simpa using hb) with h1 | h1
      · exact .inl (by simp [h1])
      · exact .inr h1) (fun b hb => by
    rcases List.mem_cons.1 hb with rfl | hb
    · exact k'.blk.lt
    · exact own_lt k'.row b (by simpa using hb))
  exact ⟨k', H.bk.only t.o (fun b hb hm => d1 b hm hb), H.hd.only t.o (fun b hb hm => d2 b hm (by simp [hb])), hs, H.bel.trans (t.o.toBelow H.bel.size (fun b hb => H.sep.ge 0 rfl b hb)), H.same⟩
/-- The list of texts is another one, laid just now. -/
theorem HP.list (H : HP w0 g gb hv h v9 hl vx vw L Lw w) (hb : Below w.heap.size w w') (ho : Own w' w.heap.size v9' hl') : HP w0 g gb hv h v9' hl' vx vw L Lw w' :=
  ⟨H.k.below hb, H.bk.below hb, ho.zero, H.sep.step H.bel.size 2 (f' := v9'.ownBlock.toList) rfl hb.size (fun b hm => .inr (own_base ho b (by simpa using hm))) (fun b hm => own_lt ho b (by simpa using hm)), below_step H.bel hb, H.same⟩
/-- The list of texts was written in its place. -/
theorem HP.listSet (H : HP w0 g gb hv h v9 hl vx vw L Lw w) (ho : Only v9.ownBlock.toList w w') (hn : Own w' 0 v9 hl') : HP w0 g gb hv h v9 hl' vx vw L Lw w' := by
  have d1 := H.sep.dis 2 0 _ _ rfl rfl (by decide)
  have d2 := H.sep.dis 2 1 _ _ rfl rfl (by decide)
  refine ⟨⟨H.k.blk.only ho (fun hm => d1 g hm (by simp)), row_only H.k.row ho (fun b hb hm => d1 b hm (by simp [hb]))⟩, H.bk.only ho (fun b hb hm => d2 b hm hb), hn, H.sep.below ho.size, H.bel.trans (ho.toBelow H.bel.size (fun b hb => H.sep.ge 2 rfl b hb)), H.same⟩
/-- One list more in the book. -/
theorem HP.kept (H : HP w0 g gb hv h v9 hl vx vw L Lw w) {w1 : World} (hb : Below w.heap.size w w1) {t : Value} {l : List ByteArray} (ht : Own w1 w.heap.size t l) (hl1 : l.length ≤ 1000) (hL : L.length < 250) :
    Calls Try.prog 33 #[.pointer (some ⟨gb, 0, none⟩), t] w1 fun r w' => r = .returned (.tuple #[]) ∧ ∃ vx' vw' c, HP w0 g gb hv h v9 hl vx' vw' (L ++ [(t, l)]) (Lw ++ [(c, l)]) w' ∧ Own w' 0 t l := by
  have H1 := H.below hb
  refine (BookTx.add_calls t l w1 H1.bk ht.zero hl1 (fun k hk hm => ?_) hL).mono ?_
  · have h1 := own_base ht k hk
    have h2 := H.bk.lt k hm
    omega
  · rintro r w2 ⟨rfl, vx', vw', c, hbk, ho, hf⟩
    have d0 := H1.sep.dis 1 0 _ _ rfl rfl (by decide)
    have d2 := H1.sep.dis 1 2 _ _ rfl rfl (by decide)
    have hs := H.sep.step H.bel.size 1 (w' := w2) (f' := foot gb vx' vw' (L ++ [(t, l)]) (Lw ++ [(c, l)])) rfl (Nat.le_trans hb.size ho.size) (fun b hb2 => by
      rcases hf b hb2 with h1 | h1 | h1
      · exact .inl h1
      · exact .inr (own_base ht b h1)
      · exact .inr (Nat.le_trans hb.size h1)) hbk.lt
    refine ⟨rfl, vx', vw', c, ⟨⟨H1.k.blk.only ho (fun hm => d0 g hm (by simp)), row_only H1.k.row ho (fun b hb hm => d0 b hm (by simp [hb]))⟩, hbk, H1.hd.only ho (fun b hb hm => d2 b hm (by simp [hb])), hs, H1.bel.trans (ho.toBelow H1.bel.size (fun b hb => H1.sep.ge 1 rfl b hb)), by rw [List.map_append, List.map_append, H.same]; rfl⟩, (hbk.xs (t, l) (by simp)).1⟩
end
end Go.Proofs.Ytmdhiimgeocgeaa.Host
