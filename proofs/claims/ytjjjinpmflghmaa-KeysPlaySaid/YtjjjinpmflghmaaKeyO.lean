/- What keys.Out and keys.In come to: the events that wait, and two numbers. Conditions: those in each theorem. -/
import Derived.Test.YtjjjinpmflghmaaKeyQ
import Derived.Lib.SliceRun
namespace Go.Proofs.Ytjjjinpmflghmaa.Keys
open Go.RowKit Go.Proofs.Ytjjjinpmflghmaa.Mem Go.Proofs.YtjjjinpmflghmaaW.PrintWords Go.Proofs.YtjjjinpmflghmaaW.PrintMore Go.Proofs.YtjjjinpmflghmaaW.PrintLast
set_option linter.unusedVariables false
set_option linter.unusedSimpArgs false
/-! ### Rows of events -/
structure E4 where
  k : Int
  s : ByteArray
  x : Int
  y : Int
def E4.cells (e : E4) : List Value := [.int .i64 e.k, .string e.s, .int .i64 e.x, .int .i64 e.y]
def E4.val (e : E4) : Value := .agg #[.int .i64 e.k, .string e.s, .int .i64 e.x, .int .i64 e.y]
def fe : List E4 → List Value
  | [] => []
  | e :: l => e.cells ++ fe l
theorem fe_len : ∀ l : List E4, (fe l).length = l.length * 4
  | [] => rfl
  | e :: l => by simp [fe, E4.cells, fe_len l]; omega
theorem fe_app : ∀ a b : List E4, fe (a ++ b) = fe a ++ fe b
  | [], b => rfl
  | e :: a, b => by simp [fe, fe_app a b]
theorem fe_drop : ∀ (n : Nat) (l : List E4), (fe l).drop (n * 4) = fe (l.drop n)
  | 0, l => by simp
  | n + 1, [] => by simp [fe]
  | n + 1, e :: l => by
    have h : (n + 1) * 4 = n * 4 + 4 := by omega
    rw [h, List.drop_succ_cons, ← fe_drop n l]
    simp only [fe, E4.cells]
    rw [Nat.add_comm (n * 4) 4, ← List.drop_drop]
    rfl
theorem fe_take : ∀ (n : Nat) (l : List E4), (fe l).take (n * 4) = fe (l.take n)
  | 0, l => by simp [fe]
  | n + 1, [] => by simp [fe]
  | n + 1, e :: l => by
    rw [List.take_succ_cons]
    show (e.cells ++ fe l).take _ = e.cells ++ fe (l.take n)
    rw [List.take_append, List.take_of_length_le (by simp [E4.cells]; omega), show (n + 1) * 4 - e.cells.length = n * 4 by simp [E4.cells]; omega, fe_take]
theorem fe_one (l : List E4) : ∀ u ∈ fe l, u.oneCell' = true := by
  induction l with
  | nil => simp [fe]
  | cons e l ih =>
    intro u hu
    simp only [fe, List.mem_append] at hu
    rcases hu with hu | hu
    · simp only [E4.cells, List.mem_cons, List.not_mem_nil, or_false] at hu
      rcases hu with rfl | rfl | rfl | rfl <;> rfl
    · exact ih u hu
/-- Cells of a row in memory. -/
def SrcE (w : World) (A : Option Addr) (l : List E4) : Prop := l = [] ∨ ∃ a, A = some a ∧ ∀ j u, (fe l)[j]? = some u → w.cell? (a.add j) = some u
theorem SrcE.below {w w' : World} {A : Option Addr} {l : List E4} (h : SrcE w A l) (hb : Below w.heap.size w w') : SrcE w' A l := h.imp id (fun ⟨a, h1, h2⟩ => ⟨a, h1, fun j u hj => pw_cell_below hb (h2 j u hj)⟩)
theorem infoEv : (Try.prog.info? 38).map (fun i => (i.zero, i.size, i.bytes)) = some (some (.agg #[.int .i64 0, .string ⟨#[]⟩, .int .i64 0, .int .i64 0]), 4, 40) := by kernel_rfl
theorem wpList_append_of {P : Program} {w w' : World} {v : Value} {ops : Array Oper} {rest : List Oper} {o : Oper} {a : Act} {Q : Exit → Act → World → Prop} (hgd : o.guard = none) (d s : Operand) (dT sT : TypeId) (x y : Value)
    (ho : o.op = .call { callee := .builtin .append, args := #[d, s], argTypes := #[dT, sT] }) (hd : a.eval d = x) (hs : a.eval s = y)
    (hr : (Builtin.append_ #[dT, sT] o.type #[x, y]).run P w = .ok v w')
    (h : wpList P ops Q rest (a.put o.dst v) w') : wpList P ops Q (o :: rest) a w :=
  wpList_plain hgd fun _ hK => by
    unfold Oper.wp execOp
    simp only [ho, resolve, invoke, builtin, Sem.run_bind, Sem.run_pure, Result.andThen_ok, List.map_toArray, List.map_cons, List.map_nil, hd, hs, hr]
    exact hK _ _ h
set_option maxHeartbeats 1000000 in
set_option maxRecDepth 100000 in
theorem clone_some (ad : Addr) (m c : Nat) (l : List E4) (w : World) (hs : SrcE w (some ad) l) (hm : l.length = m) (hl : m ≤ 100000) :
    Calls Try.prog 53 #[.slice (some ad) m c] w fun r w' => (∃ v, r = .returned v ∧ w'.ownsRow w.heap.size 38 4 v m (fe l)) ∧ Below w.heap.size w w' := by
  have HS := Aside0.mk (hs.below (below_alloc (Below.refl _ _) (.cells #[] 38)))
  have hnil := fun W1 : World => Lib.run_eql_slice_nil W1 24 38 (some ad) m c 0 0 Try.underlying24
  have HOW := Aside0.mk (World.ownsRow_made (base := w.heap.size) (size := 4) (e := 38) w #[] 0 (Nat.le_refl _) (by simp) rfl)
  have HB := Aside0.mk (below_alloc (Below.refl w.heap.size w) (.cells #[] 38))
  clear hs
  have hsrc : ∀ j u, (fe l)[j]? = some u → (w.alloc (.cells #[] 38)).cell? (ad.add j) = some u := by
    rcases HS.out with h | ⟨ad', h, h2⟩
    · subst h; intro j u hj; simp [fe] at hj
    · injection h with h
      subst h
      exact h2
  obtain ⟨iC, hiC, hz0, hz1, hz2⟩ := info_parts infoEv
  obtain ⟨v2, w2, hr, ho, hg, _, _⟩ := run_append_own_at (P := Try.prog) _ w.heap.size 24 24 38 iC _ 4 40 Try.underlying24 hiC hz0 hz1 hz2 rfl (by decide) _ 0 [] HOW.out ad m c (fe l) (by rw [fe_len, hm]) hsrc (fe_one l) (by unfold maxLen; omega) (by omega) (by simp)
  rw [Nat.zero_add, List.nil_append] at ho
  have HO := Aside0.mk ho
  have HB2 := Aside0.mk (show Below w.heap.size w w2 from HB.out.trans ⟨hg.os, hg.tape, hg.output, hg.size, fun k hk => hg.block k (by simp; omega) (by simp [Value.ownBlock]; omega)⟩)
  have HR := Aside0.mk hr
  clear hr ho hg hsrc hiC hz0 hz1 hz2 hm
  go_enter Try.func53, Try.ntmps53
  go_wp2_with (with_reducible refine wpList_append_of rfl (.tmp 5) (.tmp 6) 24 24 (.slice (some ⟨w.heap.size, 0, none⟩) 0 0) (.slice (some ad) m c) rfl ?_ ?_ HR.out ?_)
  · rfl
  · rfl
  go_ret
  exact ⟨⟨_, rfl, HO.out⟩, HB2.out⟩
set_option maxHeartbeats 1000000 in
set_option maxRecDepth 100000 in
theorem clone_none (c : Nat) (w : World) :
    Calls Try.prog 53 #[.slice none 0 c] w fun r w' => r = .returned (.slice none 0 0) ∧ w = w' := by
  have hnil := fun W1 : World => Lib.run_eql_slice_nil W1 24 38 none 0 c 0 0 Try.underlying24
  go_enter Try.func53, Try.ntmps53
  go_wp2
  go_ret
  exact ⟨rfl, rfl⟩
/-! ### The objects -/
/-- A block of a queue: its events' row, and two numbers. -/
structure IsQ (w : World) (g : Nat) (T : TypeId) (v : Value) (l : List E4) (a b : Int) : Prop where
  blk : Blk w g T #[v, .int .i64 a, .int .i64 b]
  row : w.ownsRow 0 38 4 v l.length (fe l)
theorem own_form {w : World} {B n : Nat} {v : Value} {xs : List Value} (h : w.ownsRow B 38 4 v n xs) : (v = .slice none 0 0 ∧ n = 0) ∨ ∃ b c, v = .slice (some ⟨b, 0, none⟩) n c ∧ n ≤ c ∧ ∀ j u, xs[j]? = some u → w.cell? ⟨b, j, none⟩ = some u := by
  obtain ⟨hl, h⟩ := h
  rcases h with ⟨h1, h2⟩ | ⟨g, cap, cur, rfl, h3, h4, h5, h6, h7, h8⟩
  · exact .inl ⟨h1, h2⟩
  · refine .inr ⟨g, cap, rfl, by omega, fun j u hj => ?_⟩
    rw [cell_of_row w g j cur 38 (0, 0) h4]
    rw [← h8, List.getElem?_take] at hj
    split at hj
    · simpa using hj
    · cases hj
theorem own_sl {w : World} {B n : Nat} {v : Value} {xs : List Value} (h : w.ownsRow B 38 4 v n xs) : ∃ A c, v = .slice A n c := by
  rcases own_form h with ⟨h1, h2⟩ | ⟨b, c, h1, _⟩
  · exact ⟨none, 0, by rw [h1, h2]⟩
  · exact ⟨_, _, h1⟩
theorem src_of {w : World} {b : Nat} {l : List E4} (h : ∀ j u, (fe l)[j]? = some u → w.cell? ⟨b, j, none⟩ = some u) (k : Nat) : SrcE w (some ⟨b, k * 4, none⟩) (l.drop k) := by
  refine .inr ⟨_, rfl, fun j u hj => ?_⟩
  rw [← fe_drop, List.getElem?_drop] at hj
  have e : (⟨b, k * 4, none⟩ : Addr).add j = ⟨b, k * 4 + j, none⟩ := by unfold Addr.add; split <;> simp_all
  rw [e]
  exact h _ _ hj
/-- What a call on a queue turns: its block, its events' row; that row is the same block, or a new one. -/
structure Turn (g : Nat) (v : Value) (w w' : World) (v' : Value) : Prop where
  o : Only (g :: v.ownBlock.toList) w w'
  n : ∀ k, v'.ownBlock = some k → v.ownBlock = some k ∨ w.heap.size ≤ k
theorem Turn.refl (g : Nat) (v : Value) (w : World) : Turn g v w w v := ⟨Only.refl _ _, fun k hk => .inl hk⟩
theorem Turn.trans {g : Nat} {v v' v'' : Value} {a b c : World} (h : Turn g v a b v') (k : Turn g v' b c v'') : Turn g v a c v'' :=
  ⟨⟨k.o.os.trans h.o.os, k.o.tape.trans h.o.tape, k.o.output.trans h.o.output, Nat.le_trans h.o.size k.o.size, fun i hi hn => (k.o.block i (Nat.lt_of_lt_of_le hi h.o.size) (fun he => by
      rcases List.mem_cons.1 he with rfl | he
      · exact hn (by simp)
      · have he' : v'.ownBlock = some i := by simpa using he
        rcases h.n i he' with h1 | h1
        · exact hn (by simp [h1])
        · omega)).trans (h.o.block i hi hn)⟩,
   fun i hi => by
    rcases k.n i hi with h1 | h1
    · exact h.n i h1
    · exact .inr (Nat.le_trans h.o.size h1)⟩
theorem Turn.below {g : Nat} {v v' : Value} {a b c : World} (h : Turn g v a b v') (hb : Below b.heap.size b c) : Turn g v a c v' := ⟨h.o.below hb, h.n⟩
theorem IsQ.below {w w' : World} {g : Nat} {T : TypeId} {v : Value} {l : List E4} {a b : Int} (h : IsQ w g T v l a b) (hb : Below w.heap.size w w') : IsQ w' g T v l a b := ⟨h.blk.below' hb, pw_own_below h.row hb⟩
theorem row_new {w : World} {B n : Nat} {v : Value} {xs : List Value} (h : w.ownsRow B 38 4 v n xs) : w.ownsRow 0 38 4 v n xs := ⟨h.1, h.2.imp id (fun ⟨g, cap, cur, h1, h2, h3⟩ => ⟨g, cap, cur, h1, Nat.zero_le _, h3⟩)⟩
/-- A queue whose events' row is another one now, and one number. -/
theorem IsQ.put {w w2 : World} {g : Nat} {T : TypeId} {v v2 : Value} {l l2 : List E4} {a b a2 b2 x : Int} (j : Nat) (h : IsQ w2 g T v l a b) (hT : 38 ≠ T) (hlt : g < w.heap.size) (ho : w2.ownsRow w.heap.size 38 4 v2 l2.length (fe l2)) (hB : Below w.heap.size w w2)
    (hx : (#[v2, Value.int .i64 a, Value.int .i64 b] : Array Value).setIfInBounds j (.int .i64 x) = #[v2, Value.int .i64 a2, Value.int .i64 b2]) :
    IsQ ((w2.setCell ⟨g, 0, none⟩ v2).setCell ⟨g, j, none⟩ (.int .i64 x)) g T v2 l2 a2 b2 ∧ Turn g v w ((w2.setCell ⟨g, 0, none⟩ v2).setCell ⟨g, j, none⟩ (.int .i64 x)) v2 := by
  have hne := own_ne ho h.blk hT
  refine ⟨⟨?_, row_new (own_setCell (own_setCell ho hne _) hne _)⟩, ⟨((Only.of_below _ hB).setCell _ _ (.inl (by simp))).setCell _ _ (.inl (by simp)), fun k hk => .inr (own_base ho k hk)⟩⟩
  have h1 := (h.blk.set_ 0 v2).set_ j (.int .i64 x)
  rw [← hx]
  exact h1
theorem IsQ.setV {w : World} {g B : Nat} {T : TypeId} {v v2 : Value} {l l2 : List E4} {a b : Int} (h : IsQ w g T v l a b) (hT : 38 ≠ T) (ho : w.ownsRow B 38 4 v2 l2.length (fe l2)) : IsQ (w.setCell ⟨g, 0, none⟩ v2) g T v2 l2 a b :=
  have hne : some g ≠ v2.ownBlock := own_ne ho h.blk hT
  ⟨h.blk.set_ 0 v2, row_new (own_setCell ho hne _)⟩
theorem IsQ.setA {w : World} {g : Nat} {T : TypeId} {v : Value} {l : List E4} {a b : Int} (h : IsQ w g T v l a b) (hT : 38 ≠ T) (x : Int) : IsQ (w.setCell ⟨g, 1, none⟩ (.int .i64 x)) g T v l x b :=
  have hne : some g ≠ v.ownBlock := own_ne h.row h.blk hT
  ⟨h.blk.set_ 1 _, own_setCell h.row hne _⟩
theorem IsQ.setB {w : World} {g : Nat} {T : TypeId} {v : Value} {l : List E4} {a b : Int} (h : IsQ w g T v l a b) (hT : 38 ≠ T) (x : Int) : IsQ (w.setCell ⟨g, 2, none⟩ (.int .i64 x)) g T v l a x :=
  have hne : some g ≠ v.ownBlock := own_ne h.row h.blk hT
  ⟨h.blk.set_ 2 _, own_setCell h.row hne _⟩
theorem IsQ.far {w : World} {g : Nat} {T : TypeId} {v : Value} {l : List E4} {a b : Int} (h : IsQ w g T v l a b) {p : Addr} (hp : g ≠ p.block) (hv : some p.block ≠ v.ownBlock) (u : Value) : IsQ (w.setCell p u) g T v l a b := ⟨h.blk.far hp u, own_setCell h.row hv u⟩
theorem eql_pout (a : Addr) (w : World) : Sem.run Try.prog (binOp .eql 23 (.pointer (some a)) (.pointer none)) w = .ok (.bool false) w := by kernel_rfl
theorem eql_pin (a : Addr) (w : World) : Sem.run Try.prog (binOp .eql 34 (.pointer (some a)) (.pointer none)) w = .ok (.bool false) w := by kernel_rfl
theorem top_calls (g : Nat) (v : Value) (l : List E4) (a b : Int) (w : World) (h : IsQ w g 33 v l a b) :
    Calls Try.prog 34 #[.pointer (some ⟨g, 0, none⟩)] w fun r w' => r = .returned (.int .i64 a) ∧ w = w' := by
  have hn := eql_pout ⟨g, 0, none⟩
  have HC := Aside0.mk ((h.blk.cell 1).trans (show _ = some (Value.int .i64 a) from rfl))
  clear h
  go_enter Try.func34, Try.ntmps34
  go_wp2_with fail
  refine (now_calls g 1 a w HC.out).mono ?_
  rintro e1 w1 ⟨rfl, rfl⟩
  go_wp2
  go_ret
  exact ⟨rfl, rfl⟩
theorem acked_calls (g : Nat) (v : Value) (l : List E4) (a b : Int) (w : World) (h : IsQ w g 33 v l a b) :
    Calls Try.prog 36 #[.pointer (some ⟨g, 0, none⟩)] w fun r w' => r = .returned (.int .i64 b) ∧ w = w' := by
  have hn := eql_pout ⟨g, 0, none⟩
  have HC := Aside0.mk ((h.blk.cell 2).trans (show _ = some (Value.int .i64 b) from rfl))
  clear h
  go_enter Try.func36, Try.ntmps36
  go_wp2_with fail
  refine (now_calls g 2 b w HC.out).mono ?_
  rintro e1 w1 ⟨rfl, rfl⟩
  go_wp2
  go_ret
  exact ⟨rfl, rfl⟩
theorem done_calls (g : Nat) (v : Value) (l : List E4) (a b : Int) (w : World) (h : IsQ w g 36 v l a b) :
    Calls Try.prog 37 #[.pointer (some ⟨g, 0, none⟩)] w fun r w' => r = .returned (.int .i64 a) ∧ w = w' := by
  have hn := eql_pin ⟨g, 0, none⟩
  have HC := Aside0.mk ((h.blk.cell 1).trans (show _ = some (Value.int .i64 a) from rfl))
  clear h
  go_enter Try.func37, Try.ntmps37
  go_wp2_with fail
  refine (now_calls g 1 a w HC.out).mono ?_
  rintro e1 w1 ⟨rfl, rfl⟩
  go_wp2
  go_ret
  exact ⟨rfl, rfl⟩
theorem got_calls (g : Nat) (v : Value) (l : List E4) (a b : Int) (w : World) (h : IsQ w g 36 v l a b) :
    Calls Try.prog 38 #[.pointer (some ⟨g, 0, none⟩)] w fun r w' => r = .returned (.int .i64 b) ∧ w = w' := by
  have hn := eql_pin ⟨g, 0, none⟩
  have HC := Aside0.mk ((h.blk.cell 2).trans (show _ = some (Value.int .i64 b) from rfl))
  clear h
  go_enter Try.func38, Try.ntmps38
  go_wp2_with fail
  refine (now_calls g 2 b w HC.out).mono ?_
  rintro e1 w1 ⟨rfl, rfl⟩
  go_wp2
  go_ret
  exact ⟨rfl, rfl⟩
theorem len_calls (g : Nat) (v : Value) (l : List E4) (a b : Int) (w : World) (h : IsQ w g 36 v l a b) :
    Calls Try.prog 13 #[.pointer (some ⟨g, 0, none⟩)] w fun r w' => r = .returned (.int .i64 (l.length : Int)) ∧ w = w' := by
  have hn := eql_pin ⟨g, 0, none⟩
  obtain ⟨A, c, rfl⟩ : ∃ A c, v = .slice A l.length c := by
    rcases own_form h.row with ⟨h1, h2⟩ | ⟨b, c, h1, _⟩
    · exact ⟨none, 0, by rw [h1, h2]⟩
    · exact ⟨_, _, h1⟩
  have hc := (h.blk.cell 0).trans (show _ = some (Value.slice A l.length c) from rfl)
  clear h
  go_enter Try.func13, Try.ntmps13
  go_wp2
  go_ret
  exact ⟨rfl, rfl⟩
set_option maxHeartbeats 1000000 in
set_option maxRecDepth 100000 in
theorem ack_calls (g : Nat) (v : Value) (l : List E4) (a b n : Int) (w : World) (h : IsQ w g 33 v l a b) (hab : a - b = l.length) (hb : 0 ≤ b) (ha : a ≤ 1000000000000) (hl : l.length ≤ 100000) (hn1 : b < n) (hn2 : n ≤ a) :
    Calls Try.prog 15 #[.pointer (some ⟨g, 0, none⟩), .int .i64 n] w fun r w' => r = .returned (.int .i64 (n - b)) ∧ ∃ v', IsQ w' g 33 v' (l.drop (n - b).toNat) a n ∧ Turn g v w w' v' := by
  obtain ⟨k, hk⟩ : ∃ k : Nat, (k : Int) = n - b := ⟨(n - b).toNat, by omega⟩
  have hkN : (n - b).toNat = k := by omega
  rw [hkN]
  have hkl : k ≤ l.length := by omega
  rcases own_form h.row with ⟨h1, h2⟩ | ⟨gb, c, rfl, hlc, hcell⟩
  · omega
  · have HQ := Aside0.mk h
    have HS := Aside0.mk (src_of hcell k)
    have hc0 := (h.blk.cell 0).trans (show _ = some (Value.slice (some ⟨gb, 0, none⟩) l.length c) from rfl)
    have hw1 : IntKind.i64.wrap (n - b) = n - b := IntWalk.i64_in _ (by omega)
    clear h hcell
    go_enter Try.func15, Try.ntmps15
    go_wp2_with fail
    refine (acked_calls g _ l a b w HQ.out).mono ?_
    rintro e1 w1 ⟨rfl, rfl⟩
    go_wp2_with fail
    refine (acked_calls g _ l a b w HQ.out).mono ?_
    rintro e1 w1 ⟨rfl, rfl⟩
    go_wp2_with fail
    refine (top_calls g _ l a b w HQ.out).mono ?_
    rintro e1 w1 ⟨rfl, rfl⟩
    go_wp2_with fail
    · have hd : l.drop k = [] := List.drop_of_length_le (by omega)
      refine (clone_some _ (l.length - k) _ (l.drop k) w (.inl hd) (by simp) (by omega)).mono ?_
      rintro e2 w2 ⟨⟨v2, rfl, ho⟩, hB⟩
      obtain ⟨A2, C2, rfl⟩ := own_sl ho
      obtain ⟨v2, hv2⟩ : ∃ v2, v2 = Value.slice A2 (l.length - k) C2 := ⟨_, rfl⟩
      rw [← hv2, ← List.length_drop] at ho
      have HP := Aside0.mk (IsQ.put (x := n) (a2 := a) (b2 := n) 2 (HQ.out.below hB) (by decide) HQ.out.blk.lt ho hB rfl)
      have h0 := ((HQ.out.below hB).blk.cell 0).trans (show _ = some (Value.slice (some ⟨gb, 0, none⟩) l.length c) from rfl)
      have f0 := (HQ.out.below hB).blk.frozen 0
      have HW2 := Aside0.mk (((HQ.out.below hB).blk.set_ 0 v2))
      clear ho hB
      subst hv2
      go_wp2_with fail
      refine (swap_calls g 2 b n _ ((HW2.out.cell 2).trans rfl) (HW2.out.frozen 2)).mono ?_
      rintro e3 w3 ⟨rfl, rfl⟩
      go_wp2
      go_ret
      exact ⟨rfl, _, HP.out.1, HP.out.2⟩
    · refine (clone_some _ (l.length - k) _ (l.drop k) w HS.out (by simp) (by omega)).mono ?_
      rintro e2 w2 ⟨⟨v2, rfl, ho⟩, hB⟩
      obtain ⟨A2, C2, rfl⟩ := own_sl ho
      obtain ⟨v2, hv2⟩ : ∃ v2, v2 = Value.slice A2 (l.length - k) C2 := ⟨_, rfl⟩
      rw [← hv2, ← List.length_drop] at ho
      have HP := Aside0.mk (IsQ.put (x := n) (a2 := a) (b2 := n) 2 (HQ.out.below hB) (by decide) HQ.out.blk.lt ho hB rfl)
      have h0 := ((HQ.out.below hB).blk.cell 0).trans (show _ = some (Value.slice (some ⟨gb, 0, none⟩) l.length c) from rfl)
      have f0 := (HQ.out.below hB).blk.frozen 0
      have HW2 := Aside0.mk (((HQ.out.below hB).blk.set_ 0 v2))
      clear ho hB
      subst hv2
      go_wp2_with fail
      refine (swap_calls g 2 b n _ ((HW2.out.cell 2).trans rfl) (HW2.out.frozen 2)).mono ?_
      rintro e3 w3 ⟨rfl, rfl⟩
      go_wp2
      go_ret
      exact ⟨rfl, _, HP.out.1, HP.out.2⟩
/-- The first event's cells. -/
theorem first_cells {w : World} {g : Nat} {T : TypeId} {v : Value} {e : E4} {l : List E4} {a b : Int} (h : IsQ w g T v (e :: l) a b) : ∃ gb c, v = .slice (some ⟨gb, 0, none⟩) (l.length + 1) c ∧ l.length + 1 ≤ c ∧ w.cell? ⟨gb, 0, none⟩ = some (.int .i64 e.k) ∧ w.cell? ⟨gb, 1, none⟩ = some (.string e.s) ∧ w.cell? ⟨gb, 2, none⟩ = some (.int .i64 e.x) ∧ w.cell? ⟨gb, 3, none⟩ = some (.int .i64 e.y) ∧ ∀ j u, (fe (e :: l))[j]? = some u → w.cell? ⟨gb, j, none⟩ = some u := by
  rcases own_form h.row with ⟨_, h2⟩ | ⟨gb, c, h1, h2, h3⟩
  · simp at h2
  · exact ⟨gb, c, h1, h2, h3 0 _ rfl, h3 1 _ rfl, h3 2 _ rfl, h3 3 _ rfl, h3⟩
set_option maxHeartbeats 1000000 in
set_option maxRecDepth 100000 in
theorem first_none (g : Nat) (v : Value) (a b : Int) (w : World) (h : IsQ w g 36 v [] a b) :
    Calls Try.prog 52 #[.pointer (some ⟨g, 0, none⟩)] w fun r w' => r = .returned (.tuple #[.agg #[.int .i64 0, .string ⟨#[]⟩, .int .i64 0, .int .i64 0], .bool false]) ∧ Below w.heap.size w w' := by
  have HN := Blk.new w 38 #[.int .i64 0, .string ⟨#[]⟩, .int .i64 0, .int .i64 0]
  have HQ := Aside0.mk (h.below (below_alloc (Below.refl _ _) (.cells #[.int .i64 0, .string ⟨#[]⟩, .int .i64 0, .int .i64 0] 38)))
  have HN := Aside0.mk HN
  clear h
  go_enter Try.func52, Try.ntmps52
  go_wp2_with fail
  refine (len_calls g v [] a b _ HQ.out).mono ?_
  rintro e1 w1 ⟨rfl, rfl⟩
  go_wp2_with fail
  exact bodyPost_ret (results_ct rfl _ _ w.heap.size 38 _ (0, 0) _ rfl HN.out Try.underlying38 rfl (by kernel_rfl)) rfl ⟨rfl, below_alloc (Below.refl _ _) _⟩
set_option maxHeartbeats 1000000 in
set_option maxRecDepth 100000 in
theorem first_some (g : Nat) (v : Value) (e : E4) (l : List E4) (a b : Int) (w : World) (h : IsQ w g 36 v (e :: l) a b) :
    Calls Try.prog 52 #[.pointer (some ⟨g, 0, none⟩)] w fun r w' => r = .returned (.tuple #[e.val, .bool true]) ∧ Below w.heap.size w w' := by
  have HN := Aside0.mk (Blk.new w 38 #[.int .i64 0, .string ⟨#[]⟩, .int .i64 0, .int .i64 0])
  have HQ := Aside0.mk (h.below (below_alloc (Below.refl _ _) (.cells #[.int .i64 0, .string ⟨#[]⟩, .int .i64 0, .int .i64 0] 38)))
  obtain ⟨gb, c, hv, hc, e0, e1, e2, e3, _⟩ := first_cells HQ.out
  have hq := (HQ.out.blk.cell 0).trans (show _ = some v from rfl)
  subst hv
  have hll : (0 : Int) < (l.length : Int) + 1 := by omega
  clear h
  go_enter Try.func52, Try.ntmps52
  go_wp2_with fail
  refine (len_calls g _ (e :: l) a b _ HQ.out).mono ?_
  rintro e5 w5 ⟨rfl, rfl⟩
  go_wp2_with fail
  exact bodyPost_ret (results_ct rfl _ _ w.heap.size 38 _ (0, 0) _ rfl (Blk.new w 38 #[.int .i64 e.k, .string e.s, .int .i64 e.x, .int .i64 e.y]) Try.underlying38 rfl (by kernel_rfl)) rfl ⟨rfl, below_alloc (Below.refl _ _) _⟩
set_option maxHeartbeats 1000000 in
set_option maxRecDepth 100000 in
theorem next_none (g : Nat) (v : Value) (a b : Int) (w : World) (h : IsQ w g 36 v [] a b) :
    Calls Try.prog 14 #[.pointer (some ⟨g, 0, none⟩)] w fun r w' => r = .returned (.tuple #[.agg #[.int .i64 0, .string ⟨#[]⟩, .int .i64 0, .int .i64 0], .bool false]) ∧ Below w.heap.size w w' := by
  have HN := Aside0.mk (Blk.new w 38 #[.int .i64 0, .string ⟨#[]⟩, .int .i64 0, .int .i64 0])
  have HQ := Aside0.mk (h.below (below_alloc (Below.refl _ _) (.cells #[.int .i64 0, .string ⟨#[]⟩, .int .i64 0, .int .i64 0] 38)))
  have HB := Aside0.mk (below_alloc (Below.refl w.heap.size w) (.cells #[.int .i64 0, .string ⟨#[]⟩, .int .i64 0, .int .i64 0] 38))
  clear h
  go_enter Try.func14, Try.ntmps14
  go_wp2_with fail
  refine (first_none g v a b _ HQ.out).mono ?_
  rintro e1 w1 ⟨rfl, hb1⟩
  have HN := Aside0.mk (HN.out.below' hb1)
  have HB := Aside0.mk (below_step HB.out hb1)
  clear hb1
  have c0 : (w1.alloc (.cells #[.int .i64 0, .string ⟨#[]⟩, .int .i64 0, .int .i64 0] 38)).cell? ⟨w.heap.size, 0, none⟩ = some (.int .i64 0) := ((HN.out.alloc _).cell 0).trans rfl
  have f0 : (w1.alloc (.cells #[.int .i64 0, .string ⟨#[]⟩, .int .i64 0, .int .i64 0] 38)).frozen? ⟨w.heap.size, 0, none⟩ = false := (HN.out.alloc _).frozen 0
  have c1 : (w1.alloc (.cells #[.int .i64 0, .string ⟨#[]⟩, .int .i64 0, .int .i64 0] 38)).cell? ⟨w.heap.size, 1, none⟩ = some (.string ⟨#[]⟩) := ((HN.out.alloc _).cell 1).trans rfl
  have f1 : (w1.alloc (.cells #[.int .i64 0, .string ⟨#[]⟩, .int .i64 0, .int .i64 0] 38)).frozen? ⟨w.heap.size, 1, none⟩ = false := (HN.out.alloc _).frozen 1
  have c2 : (w1.alloc (.cells #[.int .i64 0, .string ⟨#[]⟩, .int .i64 0, .int .i64 0] 38)).cell? ⟨w.heap.size, 2, none⟩ = some (.int .i64 0) := ((HN.out.alloc _).cell 2).trans rfl
  have f2 : (w1.alloc (.cells #[.int .i64 0, .string ⟨#[]⟩, .int .i64 0, .int .i64 0] 38)).frozen? ⟨w.heap.size, 2, none⟩ = false := (HN.out.alloc _).frozen 2
  have c3 : (w1.alloc (.cells #[.int .i64 0, .string ⟨#[]⟩, .int .i64 0, .int .i64 0] 38)).cell? ⟨w.heap.size, 3, none⟩ = some (.int .i64 0) := ((HN.out.alloc _).cell 3).trans rfl
  have f3 : (w1.alloc (.cells #[.int .i64 0, .string ⟨#[]⟩, .int .i64 0, .int .i64 0] 38)).frozen? ⟨w.heap.size, 3, none⟩ = false := (HN.out.alloc _).frozen 3
  go_wp2_with fail
  exact bodyPost_ret (results_ct rfl _ _ w.heap.size 38 #[.int .i64 0, .string ⟨#[]⟩, .int .i64 0, .int .i64 0] (0, 0) _ rfl (((((HN.out.alloc _).set_ 0 _).set_ 1 _).set_ 2 _).set_ 3 _) Try.underlying38 rfl (by kernel_rfl)) rfl
    ⟨rfl, (((((Only.of_below [] (show Below w.heap.size w _ from below_alloc HB.out _)).setCell _ _ (.inr (Nat.le_refl _))).setCell _ _ (.inr (Nat.le_refl _))).setCell _ _ (.inr (Nat.le_refl _))).setCell _ _ (.inr (Nat.le_refl _))).toBelow (Nat.le_refl _) (by simp)⟩
set_option maxHeartbeats 1000000 in
set_option maxRecDepth 100000 in
theorem next_some (g : Nat) (v : Value) (e : E4) (l : List E4) (a b : Int) (w : World) (h : IsQ w g 36 v (e :: l) a b) (ha : 0 ≤ a) (ha2 : a ≤ 1000000000000) (hl : l.length ≤ 100000) :
    Calls Try.prog 14 #[.pointer (some ⟨g, 0, none⟩)] w fun r w' => r = .returned (.tuple #[e.val, .bool true]) ∧ ∃ v', IsQ w' g 36 v' l (a + 1) b ∧ Turn g v w w' v' := by
  have HN := Aside0.mk (Blk.new w 38 #[.int .i64 0, .string ⟨#[]⟩, .int .i64 0, .int .i64 0])
  have HQ := Aside0.mk (h.below (below_alloc (Below.refl _ _) (.cells #[.int .i64 0, .string ⟨#[]⟩, .int .i64 0, .int .i64 0] 38)))
  have HB := Aside0.mk (below_alloc (Below.refl w.heap.size w) (.cells #[.int .i64 0, .string ⟨#[]⟩, .int .i64 0, .int .i64 0] 38))
  have HLT := Aside0.mk h.blk.lt
  clear h
  go_enter Try.func14, Try.ntmps14
  go_wp2_with fail
  refine (first_some g v e l a b _ HQ.out).mono ?_
  rintro e1 w1 ⟨rfl, hb1⟩
  have HN := Aside0.mk (HN.out.below' hb1)
  have HN0 := HN
  have HB := Aside0.mk (below_step HB.out hb1)
  have HQ := Aside0.mk (HQ.out.below hb1)
  clear hb1
  have HE := Aside0.mk (Blk.new w1 38 #[.int .i64 e.k, .string e.s, .int .i64 e.x, .int .i64 e.y])
  have HN := Aside0.mk (HN.out.alloc (.cells #[.int .i64 e.k, .string e.s, .int .i64 e.x, .int .i64 e.y] 38))
  have HQ := Aside0.mk (HQ.out.below (below_alloc (Below.refl _ _) (.cells #[.int .i64 e.k, .string e.s, .int .i64 e.x, .int .i64 e.y] 38)))
  have HB := Aside0.mk (below_alloc HB.out (.cells #[.int .i64 e.k, .string e.s, .int .i64 e.x, .int .i64 e.y] 38))
  obtain ⟨gb, c, hv, hc, _, _, _, _, hcell⟩ := first_cells HQ.out
  have HS := Aside0.mk (src_of hcell 1)
  have hq := (HQ.out.blk.cell 0).trans (show _ = some v from rfl)
  subst hv
  clear hcell
  unfold E4.val
  have hgr : w.heap.size < w1.heap.size := HN0.out.lt
  have hX : w1.heap.size ≤ (w1.alloc (.cells #[.int .i64 e.k, .string e.s, .int .i64 e.x, .int .i64 e.y] 38)).heap.size := by simp
  generalize hWX : w1.alloc (.cells #[.int .i64 e.k, .string e.s, .int .i64 e.x, .int .i64 e.y] 38) = WX at *
  by_cases hc1 : c = 1
  · subst hc1
    obtain rfl : l = [] := List.length_eq_zero_iff.1 (by omega)
    go_wp2_with fail
    refine (clone_some _ 0 _ [] WX (.inl rfl) rfl (by omega)).mono ?_
    rintro e2 w2 ⟨⟨v2, rfl, ho⟩, hB2⟩
    obtain ⟨A2, C2, rfl⟩ := own_sl ho
    obtain ⟨v2, hv2⟩ : ∃ v2, v2 = Value.slice A2 0 C2 := ⟨_, rfl⟩
    rw [← hv2] at ho
    have HO2 := Aside0.mk ho
    have hres : some w.heap.size ≠ v2.ownBlock := fun he => by have := own_base ho _ he.symm; omega
    have hne2 := own_ne ho (HQ.out.below hB2).blk (show 38 ≠ 36 by decide)
    have HQ2 := Aside0.mk ((HQ.out.below hB2).setV (by decide) ho)
    have HE2 := Aside0.mk ((HE.out.below' hB2).far (p := ⟨g, 0, none⟩) (by have := HLT.out; simp only; omega) v2)
    have HN2 := Aside0.mk ((HN.out.below' hB2).far (p := ⟨g, 0, none⟩) (by have := HLT.out; simp only; omega) v2)
    have HT2 := Aside0.mk ((Only.of_below (g :: (Value.slice (some ⟨gb, 0, none⟩) (([] : List E4).length + 1) 1).ownBlock.toList) (show Below w.heap.size w w2 from HB.out.trans (hB2.mono HB.out.size))).setCell ⟨g, 0, none⟩ v2 (.inl (by simp)))
    have h0 := ((HQ.out.below hB2).blk.cell 0).trans (show _ = some (Value.slice (some ⟨gb, 0, none⟩) (([] : List E4).length + 1) 1) from rfl)
    have f0 := (HQ.out.below hB2).blk.frozen 0
    clear ho hB2
    subst hv2
    clear hq
    go_wp2_with fail
    clear h0 f0
    have HSZ := Aside0.mk (show (w2.setCell ⟨g, 0, none⟩ (Value.slice A2 0 C2)).heap.size = w2.heap.size by simp)
    generalize w2.setCell ⟨g, 0, none⟩ (Value.slice A2 0 C2) = W3 at HQ2 HSZ HE2 HN2 HT2 ⊢
    have HQ3 := Aside0.mk (HQ2.out.below (below_alloc (Below.refl _ _) (.cells #[.int .i64 1] 3)))
    have HE3 := Aside0.mk (HE2.out.alloc (.cells #[.int .i64 1] 3))
    have HN3 := Aside0.mk (HN2.out.alloc (.cells #[.int .i64 1] 3))
    have HT3 := Aside0.mk (HT2.out.alloc (.cells #[.int .i64 1] 3))
    refine (add1_calls g 1 w2.heap.size a (a + 1) _ ((HQ3.out.blk.cell 1).trans rfl) (HQ3.out.blk.frozen 1) (by rw [← HSZ.out]; exact ((Blk.new W3 3 #[.int .i64 1]).cell 0).trans rfl) rfl (by omega) (by omega)).mono ?_
    rintro e4 w4 ⟨rfl, rfl⟩
    have HQ4 := Aside0.mk (HQ3.out.setA (by decide) (a + 1))
    have HE4 := Aside0.mk (HE3.out.far (p := ⟨g, 1, none⟩) (by have := HLT.out; simp only; omega) (.int .i64 (a + 1)))
    have HN4 := Aside0.mk (HN3.out.far (p := ⟨g, 1, none⟩) (by have := HLT.out; simp only; omega) (.int .i64 (a + 1)))
    have HT4 := Aside0.mk (HT3.out.setCell ⟨g, 1, none⟩ (.int .i64 (a + 1)) (.inl (by simp)))
    generalize (W3.alloc (.cells #[.int .i64 1] 3)).setCell ⟨g, 1, none⟩ (.int .i64 (a + 1)) = W4 at HQ4 HE4 HN4 HT4 ⊢
    have c0 : W4.cell? ⟨w.heap.size, 0, none⟩ = some (.int .i64 0) := (HN4.out.cell 0).trans rfl
    have c1 : W4.cell? ⟨w.heap.size, 1, none⟩ = some (.string ⟨#[]⟩) := (HN4.out.cell 1).trans rfl
    have c2 : W4.cell? ⟨w.heap.size, 2, none⟩ = some (.int .i64 0) := (HN4.out.cell 2).trans rfl
    have c3 : W4.cell? ⟨w.heap.size, 3, none⟩ = some (.int .i64 0) := (HN4.out.cell 3).trans rfl
    have f0 := HN4.out.frozen 0
    have f1 := HN4.out.frozen 1
    have f2 := HN4.out.frozen 2
    have f3 := HN4.out.frozen 3
    have d0 : W4.cell? ⟨w1.heap.size, 0, none⟩ = some (.int .i64 e.k) := (HE4.out.cell 0).trans rfl
    have d1 : W4.cell? ⟨w1.heap.size, 1, none⟩ = some (.string e.s) := (HE4.out.cell 1).trans rfl
    have d2 : W4.cell? ⟨w1.heap.size, 2, none⟩ = some (.int .i64 e.x) := (HE4.out.cell 2).trans rfl
    have d3 : W4.cell? ⟨w1.heap.size, 3, none⟩ = some (.int .i64 e.y) := (HE4.out.cell 3).trans rfl
    have hgw : g ≠ w.heap.size := by have := HLT.out; omega
    go_wp2_with fail
    exact bodyPost_ret (results_ct rfl _ _ w.heap.size 38 #[.int .i64 e.k, .string e.s, .int .i64 e.x, .int .i64 e.y] (0, 0) _ rfl ((((HN4.out.set_ 0 _).set_ 1 _).set_ 2 _).set_ 3 _) Try.underlying38 rfl (by kernel_rfl)) rfl
      ⟨rfl, _, (((HQ4.out.far (p := ⟨w.heap.size, 0, none⟩) hgw hres _).far (p := ⟨w.heap.size, 1, none⟩) hgw hres _).far (p := ⟨w.heap.size, 2, none⟩) hgw hres _).far (p := ⟨w.heap.size, 3, none⟩) hgw hres _,
        (((HT4.out.setCell _ _ (.inr (Nat.le_refl _))).setCell _ _ (.inr (Nat.le_refl _))).setCell _ _ (.inr (Nat.le_refl _))).setCell _ _ (.inr (Nat.le_refl _)), fun k hk => .inr (by have := own_base HO2.out k hk; omega)⟩
  · go_wp2_with fail
    refine (clone_some _ l.length _ l WX HS.out rfl hl).mono ?_
    rintro e2 w2 ⟨⟨v2, rfl, ho⟩, hB2⟩
    obtain ⟨A2, C2, rfl⟩ := own_sl ho
    obtain ⟨v2, hv2⟩ : ∃ v2, v2 = Value.slice A2 l.length C2 := ⟨_, rfl⟩
    rw [← hv2] at ho
    have HO2 := Aside0.mk ho
    have hres : some w.heap.size ≠ v2.ownBlock := fun he => by have := own_base ho _ he.symm; omega
    have hne2 := own_ne ho (HQ.out.below hB2).blk (show 38 ≠ 36 by decide)
    have HQ2 := Aside0.mk ((HQ.out.below hB2).setV (by decide) ho)
    have HE2 := Aside0.mk ((HE.out.below' hB2).far (p := ⟨g, 0, none⟩) (by have := HLT.out; simp only; omega) v2)
    have HN2 := Aside0.mk ((HN.out.below' hB2).far (p := ⟨g, 0, none⟩) (by have := HLT.out; simp only; omega) v2)
    have HT2 := Aside0.mk ((Only.of_below (g :: (Value.slice (some ⟨gb, 0, none⟩) (l.length + 1) c).ownBlock.toList) (show Below w.heap.size w w2 from HB.out.trans (hB2.mono HB.out.size))).setCell ⟨g, 0, none⟩ v2 (.inl (by simp)))
    have h0 := ((HQ.out.below hB2).blk.cell 0).trans (show _ = some (Value.slice (some ⟨gb, 0, none⟩) (l.length + 1) c) from rfl)
    have f0 := (HQ.out.below hB2).blk.frozen 0
    clear ho hB2
    subst hv2
    clear hq
    go_wp2_with fail
    clear h0 f0
    have HSZ := Aside0.mk (show (w2.setCell ⟨g, 0, none⟩ (Value.slice A2 l.length C2)).heap.size = w2.heap.size by simp)
    generalize w2.setCell ⟨g, 0, none⟩ (Value.slice A2 l.length C2) = W3 at HQ2 HSZ HE2 HN2 HT2 ⊢
    have HQ3 := Aside0.mk (HQ2.out.below (below_alloc (Below.refl _ _) (.cells #[.int .i64 1] 3)))
    have HE3 := Aside0.mk (HE2.out.alloc (.cells #[.int .i64 1] 3))
    have HN3 := Aside0.mk (HN2.out.alloc (.cells #[.int .i64 1] 3))
    have HT3 := Aside0.mk (HT2.out.alloc (.cells #[.int .i64 1] 3))
    refine (add1_calls g 1 w2.heap.size a (a + 1) _ ((HQ3.out.blk.cell 1).trans rfl) (HQ3.out.blk.frozen 1) (by rw [← HSZ.out]; exact ((Blk.new W3 3 #[.int .i64 1]).cell 0).trans rfl) rfl (by omega) (by omega)).mono ?_
    rintro e4 w4 ⟨rfl, rfl⟩
    have HQ4 := Aside0.mk (HQ3.out.setA (by decide) (a + 1))
    have HE4 := Aside0.mk (HE3.out.far (p := ⟨g, 1, none⟩) (by have := HLT.out; simp only; omega) (.int .i64 (a + 1)))
    have HN4 := Aside0.mk (HN3.out.far (p := ⟨g, 1, none⟩) (by have := HLT.out; simp only; omega) (.int .i64 (a + 1)))
    have HT4 := Aside0.mk (HT3.out.setCell ⟨g, 1, none⟩ (.int .i64 (a + 1)) (.inl (by simp)))
    generalize (W3.alloc (.cells #[.int .i64 1] 3)).setCell ⟨g, 1, none⟩ (.int .i64 (a + 1)) = W4 at HQ4 HE4 HN4 HT4 ⊢
    have c0 : W4.cell? ⟨w.heap.size, 0, none⟩ = some (.int .i64 0) := (HN4.out.cell 0).trans rfl
    have c1 : W4.cell? ⟨w.heap.size, 1, none⟩ = some (.string ⟨#[]⟩) := (HN4.out.cell 1).trans rfl
    have c2 : W4.cell? ⟨w.heap.size, 2, none⟩ = some (.int .i64 0) := (HN4.out.cell 2).trans rfl
    have c3 : W4.cell? ⟨w.heap.size, 3, none⟩ = some (.int .i64 0) := (HN4.out.cell 3).trans rfl
    have f0 := HN4.out.frozen 0
    have f1 := HN4.out.frozen 1
    have f2 := HN4.out.frozen 2
    have f3 := HN4.out.frozen 3
    have d0 : W4.cell? ⟨w1.heap.size, 0, none⟩ = some (.int .i64 e.k) := (HE4.out.cell 0).trans rfl
    have d1 : W4.cell? ⟨w1.heap.size, 1, none⟩ = some (.string e.s) := (HE4.out.cell 1).trans rfl
    have d2 : W4.cell? ⟨w1.heap.size, 2, none⟩ = some (.int .i64 e.x) := (HE4.out.cell 2).trans rfl
    have d3 : W4.cell? ⟨w1.heap.size, 3, none⟩ = some (.int .i64 e.y) := (HE4.out.cell 3).trans rfl
    have hgw : g ≠ w.heap.size := by have := HLT.out; omega
    go_wp2_with fail
    exact bodyPost_ret (results_ct rfl _ _ w.heap.size 38 #[.int .i64 e.k, .string e.s, .int .i64 e.x, .int .i64 e.y] (0, 0) _ rfl ((((HN4.out.set_ 0 _).set_ 1 _).set_ 2 _).set_ 3 _) Try.underlying38 rfl (by kernel_rfl)) rfl
      ⟨rfl, _, (((HQ4.out.far (p := ⟨w.heap.size, 0, none⟩) hgw hres _).far (p := ⟨w.heap.size, 1, none⟩) hgw hres _).far (p := ⟨w.heap.size, 2, none⟩) hgw hres _).far (p := ⟨w.heap.size, 3, none⟩) hgw hres _,
        (((HT4.out.setCell _ _ (.inr (Nat.le_refl _))).setCell _ _ (.inr (Nat.le_refl _))).setCell _ _ (.inr (Nat.le_refl _))).setCell _ _ (.inr (Nat.le_refl _)), fun k hk => .inr (by have := own_base HO2.out k hk; omega)⟩
end Go.Proofs.Ytjjjinpmflghmaa.Keys
