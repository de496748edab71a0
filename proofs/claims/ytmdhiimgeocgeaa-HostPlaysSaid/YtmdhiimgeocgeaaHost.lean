/- What the methods of a host.Host come to. Conditions: those in each theorem. -/
import Derived.Test.YtmdhiimgeocgeaaCloneS
import Derived.Test.YtmdhiimgeocgeaaClone
import Derived.Test.YtmdhiimgeocgeaaShelf
import Derived.StillTailTactics
namespace Go.Proofs.Ytmdhiimgeocgeaa.Host
open Go.RowKit Go.Proofs.Ytmdhiimgeocgeaa.Mem Go.Proofs.Ytmdhiimgeocgeaa.Row Go.Proofs.Ytmdhiimgeocgeaa.Tally Go.Proofs.Ytmdhiimgeocgeaa.Obj Go.Proofs.YtmdhiimgeocgeaaW.PrintWords Go.Proofs.YtmdhiimgeocgeaaW.PrintMore Go.Proofs.YtmdhiimgeocgeaaW.PrintLast
set_option linter.unusedVariables false
set_option linter.unusedSimpArgs false
theorem min2_i (k k' : IntKind) (x y : Int) : Builtin.min2 (.int k x) (.int k' y) = pure (.int k (min x y)) := by
  rw [min2_int]; congr 2; split <;> omega
theorem max2_i (k k' : IntKind) (x y : Int) : Builtin.max2 (.int k x) (.int k' y) = pure (.int k (max x y)) := by
  rw [max2_int]; congr 2; split <;> omega
attribute [local go_sem] min2_i max2_i max_two min_two
/-- What a host knows. -/
structure HS where
  lis : Bool
  up : Bool
  said : ByteArray
  bound : Bool
  room : Int
  heard : List ByteArray
  tries : Int
def HS.cells (h : HS) (v : Value) : Array Value := #[.bool h.lis, .bool h.up, .string h.said, .bool h.bound, .int .i64 h.room, v, .int .i64 h.tries]
/-- A host at block g, its texts' row v. -/
structure IsHost (w : World) (g : Nat) (v : Value) (h : HS) : Prop where
  blk : Blk w g 48 (h.cells v)
  row : w.ownsRow 0 9 1 v h.heard.length (fs h.heard)
section
variable {w w' : World} {g : Nat} {v : Value} {h : HS}
theorem IsHost.below (k : IsHost w g v h) (hb : Below w.heap.size w w') : IsHost w' g v h := ⟨k.blk.below' hb, pw_own_below k.row hb⟩
theorem IsHost.ne (k : IsHost w g v h) : some g ≠ v.ownBlock := own_ne k.row k.blk (by decide)
theorem IsHost.set_ (k : IsHost w g v h) (i : Nat) (u : Value) {h' : HS} (e : (h.cells v).setIfInBounds i u = h'.cells v) (e2 : h'.heard = h.heard) : IsHost (w.setCell ⟨g, i, none⟩ u) g v h' :=
  ⟨e ▸ k.blk.set_ i u, by rw [e2]; exact own_setCell k.row k.ne _⟩
theorem eql_h (a : Addr) (w : World) : Sem.run Try.prog (binOp .eql 39 (.pointer (some a)) (.pointer none)) w = .ok (.bool false) w := by kernel_rfl
theorem neq_h (a : Addr) (w : World) : Sem.run Try.prog (binOp .neq 39 (.pointer (some a)) (.pointer none)) w = .ok (.bool true) w := by kernel_rfl
theorem eql_n (w : World) : Sem.run Try.prog (binOp .eql 39 (.pointer none) (.pointer none)) w = .ok (.bool true) w := by kernel_rfl
theorem neq_n (w : World) : Sem.run Try.prog (binOp .neq 39 (.pointer none) (.pointer none)) w = .ok (.bool false) w := by kernel_rfl
theorem listen_calls (on : Bool) (w : World) (k : IsHost w g v h) :
    Calls Try.prog 24 #[.pointer (some ⟨g, 0, none⟩), .bool on] w fun r w' => r = .returned (.tuple #[]) ∧ IsHost w' g v { h with lis := on } ∧ Turn g v w w' v := by
  have hn := neq_h ⟨g, 0, none⟩
  have f0 := k.blk.frozen 0
  have c0 : w.cell? ⟨g, 0, none⟩ = some (.bool h.lis) := (k.blk.cell 0).trans rfl
  have HK := Aside0.mk k
  clear k
  go_enter Try.func24, Try.ntmps24
  go_wp2
  go_end0
  exact ⟨rfl, HK.out.set_ 0 _ rfl rfl, (Turn.refl _ _ _).set_ _ _⟩
theorem break_calls (w : World) (k : IsHost w g v h) :
    Calls Try.prog 26 #[.pointer (some ⟨g, 0, none⟩)] w fun r w' => r = .returned (.tuple #[]) ∧ IsHost w' g v { h with up := false, said := ⟨#[]⟩ } ∧ Turn g v w w' v := by
  have hn := neq_h ⟨g, 0, none⟩
  have f1 := k.blk.frozen 1
  have c1 : w.cell? ⟨g, 1, none⟩ = some (.bool h.up) := (k.blk.cell 1).trans rfl
  have f2 := k.blk.frozen 2
  have c2 : w.cell? ⟨g, 2, none⟩ = some (.string h.said) := (k.blk.cell 2).trans rfl
  have HK := Aside0.mk k
  clear k
  go_enter Try.func26, Try.ntmps26
  go_wp2
  go_end0
  exact ⟨rfl, (HK.out.set_ 1 (.bool false) (h' := { h with up := false }) rfl rfl).set_ 2 _ rfl rfl, ((Turn.refl _ _ _).set_ _ _).set_ _ _⟩
theorem room_calls (n : Int) (w : World) (k : IsHost w g v h) :
    Calls Try.prog 30 #[.pointer (some ⟨g, 0, none⟩), .int .i64 n] w fun r w' => r = .returned (.tuple #[]) ∧ IsHost w' g v { h with bound := decide (0 ≤ n), room := max n 0 } ∧ Turn g v w w' v := by
  have hn := neq_h ⟨g, 0, none⟩
  have f1 := k.blk.frozen 3
  have c1 : w.cell? ⟨g, 3, none⟩ = some (.bool h.bound) := (k.blk.cell 3).trans rfl
  have f2 := k.blk.frozen 4
  have c2 : w.cell? ⟨g, 4, none⟩ = some (.int .i64 h.room) := (k.blk.cell 4).trans rfl
  have HK := Aside0.mk k
  clear k
  go_enter Try.func30, Try.ntmps30
  go_wp2
  go_end0
  exact ⟨rfl, (HK.out.set_ 3 (.bool (decide (0 ≤ n))) (h' := { h with bound := decide (0 ≤ n) }) rfl rfl).set_ 4 _ rfl rfl, ((Turn.refl _ _ _).set_ _ _).set_ _ _⟩
theorem up_calls (w : World) (k : IsHost w g v h) :
    Calls Try.prog 34 #[.pointer (some ⟨g, 0, none⟩)] w fun r w' => r = .returned (.bool h.up) ∧ w = w' := by
  have hn := neq_h ⟨g, 0, none⟩
  have c1 : w.cell? ⟨g, 1, none⟩ = some (.bool h.up) := (k.blk.cell 1).trans rfl
  clear k
  go_enter Try.func34, Try.ntmps34
  go_wp2
  go_ret
  exact ⟨rfl, rfl⟩
theorem tries_calls (w : World) (k : IsHost w g v h) :
    Calls Try.prog 35 #[.pointer (some ⟨g, 0, none⟩)] w fun r w' => r = .returned (.int .i64 h.tries) ∧ w = w' := by
  have hn := eql_h ⟨g, 0, none⟩
  have HC := Aside0.mk ((k.blk.cell 6).trans (show _ = some (Value.int .i64 h.tries) from rfl))
  clear k
  go_enter Try.func35, Try.ntmps35
  go_wp2_with fail
  refine (now_calls g 6 h.tries w HC.out).mono ?_
  rintro e1 w1 ⟨rfl, rfl⟩
  go_wp2
  go_ret
  exact ⟨rfl, rfl⟩
/-- What Peek tells. -/
def pk (s : ByteArray) (n : Int) : Nat := min (max n 0).toNat s.size
theorem peek_calls (n : Int) (w : World) (k : IsHost w g v h) (hs : h.said.size ≤ 100000) :
    Calls Try.prog 28 #[.pointer (some ⟨g, 0, none⟩), .int .i64 n] w fun r w' => r = .returned (.string (h.said.extract 0 (pk h.said n))) ∧ Below w.heap.size w w' := by
  have hn := eql_h ⟨g, 0, none⟩
  obtain ⟨p, hp⟩ : ∃ p, p = pk h.said n := ⟨_, rfl⟩
  have hpm : min (max n 0) (h.said.size : Int) = (p : Int) := by rw [hp]; unfold pk; omega
  have hps : p ≤ h.said.size := by rw [hp]; unfold pk; omega
  have hpI : (p : Int) ≤ (h.said.size : Int) := by omega
  have hp0 : (0 : Int) ≤ (p : Int) := Int.natCast_nonneg _
  have c2 : w.cell? ⟨g, 2, none⟩ = some (.string h.said) := (k.blk.cell 2).trans rfl
  rw [← hp]
  clear k hp
  go_enter Try.func28, Try.ntmps28
  go_wp2_with fail
  go_region_held3 (fun w' => w'.cell? ⟨g, 2, none⟩ = some (.string h.said)) (first | exact c2 | go_keep | exact pw_cell_below hb1 c2) ((go_at_call 52; refine (clone_calls _ _ (by simp; omega)).mono ?_; rintro e1 w1 ⟨rfl, hb1⟩))
  all_goals
    go_wp2
    go_ret
    exact ⟨rfl, hb1.os, hb1.tape, hb1.output, hb1.size, hb1.block⟩
theorem heard_calls (w : World) (k : IsHost w g v h) (hl : h.heard.length ≤ 100000) :
    Calls Try.prog 32 #[.pointer (some ⟨g, 0, none⟩)] w fun r w' => (∃ v', r = .returned v' ∧ w'.ownsRow w.heap.size 9 1 v' h.heard.length (fs h.heard)) ∧ Below w.heap.size w w' := by
  have hn := eql_h ⟨g, 0, none⟩
  have c5 : w.cell? ⟨g, 5, none⟩ = some v := (k.blk.cell 5).trans rfl
  rcases row_form k.row with ⟨rfl, h2, _⟩ | ⟨b, c, rfl, _, _, _, _, h7, _⟩
  · have he : h.heard = [] := List.length_eq_zero_iff.1 h2
    rw [he]
    clear k
    go_enter Try.func32, Try.ntmps32
    go_wp2_with fail
    refine (clone_none 0 w).mono ?_
    rintro e1 w1 ⟨rfl, rfl⟩
    go_wp2
    go_ret
    exact ⟨⟨_, rfl, own_nil _ _ _ _⟩, Below.refl _ _⟩
  · have HS := Aside0.mk h7
    clear k h7
    go_enter Try.func32, Try.ntmps32
    go_wp2_with fail
    refine (clone_some ⟨b, 0, none⟩ h.heard.length c h.heard w (.inr ⟨_, rfl, fun j u hj => ?_⟩) rfl hl).mono ?_
    · have e : (⟨b, 0, none⟩ : Addr).add j = ⟨b, j, none⟩ := by unfold Addr.add; split <;> simp_all
      rw [e]
      exact HS.out j u hj
    rintro e1 w1 ⟨⟨v1, rfl, h1⟩, hb⟩
    have H1 := Aside0.mk h1
    have HB := Aside0.mk hb
    clear h1 hb
    go_wp2
    go_ret
    exact ⟨⟨_, rfl, H1.out⟩, HB.out⟩
theorem empty_isEmpty {s : ByteArray} (h : s.size = 0) : s.toList.isEmpty = true := by
  rw [ByteArray.toList_eq, List.isEmpty_iff, ← List.length_eq_zero_iff, Array.length_toList]
  exact h
theorem ne_isEmpty {s : ByteArray} (h : s.size ≠ 0) : s.toList.isEmpty = false := by
  rw [List.isEmpty_eq_false_iff, ← List.length_pos_iff, ByteArray.toList_eq, Array.length_toList]
  have : s.data.size = s.size := rfl
  omega
theorem extract_all (b : ByteArray) : b.extract 0 b.size = b := by
  apply ByteArray.ext
  have : b.size = b.data.size := rfl
  rw [ByteArray.data_extract, this]
  simp
theorem read_calls (n : Int) (w : World) (k : IsHost w g v h) (hs : h.said.size ≤ 100000) :
    Calls Try.prog 29 #[.pointer (some ⟨g, 0, none⟩), .int .i64 n] w fun r w' => r = .returned (.string (h.said.extract 0 (pk h.said n))) ∧ IsHost w' g v { h with said := h.said.extract (pk h.said n) h.said.size } ∧ Turn g v w w' v := by
  have hle : pk h.said n ≤ h.said.size := by unfold pk; omega
  have HK := Aside0.mk k
  clear k
  have hpz : (h.said.extract 0 (pk h.said n)).size = pk h.said n := by simp; omega
  obtain ⟨p, hp⟩ : ∃ p, p = h.said.extract 0 (pk h.said n) := ⟨_, rfl⟩
  have HP := Aside0.mk hp
  rw [← hp] at hpz
  have HE := Aside0.mk (show h.said.extract (pk h.said n) h.said.size = h.said.extract p.size h.said.size by rw [hpz])
  by_cases hz : p.size = 0
  · have hpe := empty_isEmpty hz
    rw [HE.out, hz, extract_all, ← hp]
    clear hz hp hpz hle
    go_enter Try.func29, Try.ntmps29
    go_wp2_with fail
    refine (peek_calls n w HK.out hs).mono ?_
    rw [← HP.out]
    rintro e1 w1 ⟨rfl, hb⟩
    have HB := Aside0.mk hb
    clear hb
    go_wp2
    go_ret
    exact ⟨rfl, HK.out.below HB.out, Turn.of_below HB.out⟩
  · have hpe := ne_isEmpty hz
    have hple : p.size ≤ h.said.size := by omega
    rw [HE.out, ← hp]
    clear hz hp hpz hle
    go_enter Try.func29, Try.ntmps29
    go_wp2_with fail
    refine (peek_calls n w HK.out hs).mono ?_
    rw [← HP.out]
    rintro e1 w1 ⟨rfl, hb⟩
    have HK1 := Aside0.mk (HK.out.below hb)
    have HB := Aside0.mk hb
    have c2 : w1.cell? ⟨g, 2, none⟩ = some (.string h.said) := (HK1.out.blk.cell 2).trans rfl
    clear hb
    go_wp2_with fail
    refine (clone_calls _ _ (by simp; omega)).mono ?_
    rintro e2 w2 ⟨rfl, hb⟩
    have HK2 := Aside0.mk (HK1.out.below hb)
    have HB2 := Aside0.mk hb
    have f2 := HK2.out.blk.frozen 2
    have c3 : w2.cell? ⟨g, 2, none⟩ = some (.string h.said) := (HK2.out.blk.cell 2).trans rfl
    clear hb c2
    go_wp2
    go_ret
    exact ⟨rfl, HK2.out.set_ 2 _ rfl rfl, ((Turn.of_below HB.out).trans (Turn.of_below HB2.out)).set_ _ _⟩
/-- What Connect makes of a host. -/
def HS.con (h : HS) : HS := if h.lis && !h.up then { h with up := true, heard := h.heard ++ [⟨#[]⟩], tries := h.tries + 1 } else { h with tries := h.tries + 1 }
theorem connect_no (w : World) (k : IsHost w g v h) (ht : 0 ≤ h.tries) (ht2 : h.tries ≤ 1000000000000) (hc : (h.lis && !h.up) = false) :
    Calls Try.prog 25 #[.pointer (some ⟨g, 0, none⟩)] w fun r w' => r = .returned (.bool false) ∧ IsHost w' g v { h with tries := h.tries + 1 } ∧ Turn g v w w' v := by
  have hn := eql_h ⟨g, 0, none⟩
  have HK := Aside0.mk k
  clear k
  go_enter Try.func25, Try.ntmps25
  go_wp2_with fail
  have HK1 := Aside0.mk (HK.out.below (below_alloc (Below.refl _ _) (.cells #[.int .i64 1] 3)))
  refine (add1_calls g 6 w.heap.size h.tries (h.tries + 1) _ ((HK1.out.blk.cell 6).trans rfl) (HK1.out.blk.frozen 6) (((Blk.new w 3 #[.int .i64 1]).cell 0).trans rfl) rfl (by omega) (by omega)).mono ?_
  rintro e1 w1 ⟨rfl, rfl⟩
  have HK2 := Aside0.mk (HK1.out.set_ 6 (.int .i64 (h.tries + 1)) (h' := { h with tries := h.tries + 1 }) rfl rfl)
  have HT := Aside0.mk (((Turn.refl g v w).below (below_alloc (Below.refl _ _) (.cells #[.int .i64 1] 3))).set_ 6 (.int .i64 (h.tries + 1)))
  generalize (w.alloc (.cells #[.int .i64 1] 3)).setCell ⟨g, 6, none⟩ (.int .i64 (h.tries + 1)) = w2 at HK2 HT ⊢
  have c0 : w2.cell? ⟨g, 0, none⟩ = some (.bool h.lis) := (HK2.out.blk.cell 0).trans rfl
  have c1 : w2.cell? ⟨g, 1, none⟩ = some (.bool h.up) := (HK2.out.blk.cell 1).trans rfl
  cases hl : h.lis with
  | false =>
    rw [hl] at c0
    clear hc hl
    go_wp2
    go_ret
    exact ⟨rfl, HK2.out, HT.out⟩
  | true =>
    have hu : h.up = true := by rw [hl] at hc; simpa using hc
    rw [hl] at c0
    rw [hu] at c1
    clear hc hl hu
    go_wp2
    go_ret
    exact ⟨rfl, HK2.out, HT.out⟩
set_option maxHeartbeats 1000000 in
set_option maxRecDepth 100000 in
theorem connect_yes (w : World) (k : IsHost w g v h) (ht : 0 ≤ h.tries) (ht2 : h.tries ≤ 1000000000000) (hll : h.heard.length ≤ 100000) (hl : h.lis = true) (hu : h.up = false) :
    Calls Try.prog 25 #[.pointer (some ⟨g, 0, none⟩)] w fun r w' => r = .returned (.bool true) ∧ ∃ v', IsHost w' g v' { h with up := true, heard := h.heard ++ [⟨#[]⟩], tries := h.tries + 1 } ∧ Turn g v w w' v' := by
  have hn := eql_h ⟨g, 0, none⟩
  have HK := Aside0.mk k
  clear k
  have HLU := Aside0.mk (And.intro hl hu)
  clear hl hu
  go_enter Try.func25, Try.ntmps25
  go_wp2_with fail
  have HK1 := Aside0.mk (HK.out.below (below_alloc (Below.refl _ _) (.cells #[.int .i64 1] 3)))
  refine (add1_calls g 6 w.heap.size h.tries (h.tries + 1) _ ((HK1.out.blk.cell 6).trans rfl) (HK1.out.blk.frozen 6) (((Blk.new w 3 #[.int .i64 1]).cell 0).trans rfl) rfl (by omega) (by omega)).mono ?_
  rintro e1 w1 ⟨rfl, rfl⟩
  have HK2 := Aside0.mk (HK1.out.set_ 6 (.int .i64 (h.tries + 1)) (h' := { h with tries := h.tries + 1 }) rfl rfl)
  have HT := Aside0.mk (((Turn.refl g v w).below (below_alloc (Below.refl _ _) (.cells #[.int .i64 1] 3))).set_ 6 (.int .i64 (h.tries + 1)))
  generalize (w.alloc (.cells #[.int .i64 1] 3)).setCell ⟨g, 6, none⟩ (.int .i64 (h.tries + 1)) = w2 at HK2 HT ⊢
  have c0 : w2.cell? ⟨g, 0, none⟩ = some (.bool true) := (HK2.out.blk.cell 0).trans (by rw [← HLU.out.1]; rfl)
  have c1 : w2.cell? ⟨g, 1, none⟩ = some (.bool false) := (HK2.out.blk.cell 1).trans (by rw [← HLU.out.2]; rfl)
  have f1 := HK2.out.blk.frozen 1
  clear HK1
  go_upto_region 7 with (fail)
  clear c0 c1 f1
  have HK3 := Aside0.mk (HK2.out.set_ 1 (.bool true) (h' := { h with tries := h.tries + 1, up := true }) rfl rfl)
  have HT3 := Aside0.mk (HT.out.set_ 1 (.bool true))
  clear HK2 HT
  generalize w2.setCell ⟨g, 1, none⟩ (.bool true) = w3 at HK3 HT3 ⊢
  have c5 : w3.cell? ⟨g, 5, none⟩ = some v := (HK3.out.blk.cell 5).trans rfl
  have f5 := HK3.out.blk.frozen 5
  have HROW := Aside0.mk HK3.out.row
  have HBK := Aside0.mk HK3.out.blk
  have HNE := Aside0.mk HK3.out.ne
  have HLT := Aside0.mk (HK3.out.blk.lt)
  clear HK3
  go_wp2_with (first | (at_builtin; refine Aside0.out ?_))
  refine ⟨?_⟩
  refine print_append_cells (w0 := w3) (W := w3) 0 rfl (.tmp 28) (.tmp 29) 22 9 _ 1 16 rfl Try.underlying22 infoS rfl (by decide) (by decide) v h.heard.length (fs h.heard) [.string ⟨#[]⟩] rfl rfl rfl (fs_one [⟨#[]⟩]) HROW.out (Below.refl _ _) (Nat.zero_le _) (by omega) ?_
  intro v1 w4 ho1 hB1 hg1 hb1
  obtain ⟨A1, C1, rfl⟩ := row_sl ho1
  have HBK4 := Aside0.mk (show Blk w4 g 48 _ from (hg1.block g HLT.out HNE.out).trans HBK.out)
  have c6 : w4.cell? ⟨g, 5, none⟩ = some v := (HBK4.out.cell 5).trans rfl
  have f6 := HBK4.out.frozen 5
  have HO := Aside0.mk (show w4.ownsRow 0 9 1 (.slice A1 (h.heard.length + 1) C1) (h.heard ++ [ByteArray.mk #[]]).length (fs (h.heard ++ [ByteArray.mk #[]])) by
    rw [show (h.heard ++ [ByteArray.mk #[]]).length = h.heard.length + 1 by simp]
    simpa [fs] using ho1)
  have HT4 := Aside0.mk (HT3.out.trans (Turn.grown hg1 hb1))
  clear ho1 hB1 hg1 hb1 c5 f5
  go_wp2
  go_ret
  have hne := own_ne HO.out HBK4.out (by decide)
  exact ⟨rfl, _, ⟨HBK4.out.set_ 5 _, own_setCell HO.out hne _⟩, HT4.out.set_ _ _⟩
/-- What room is left; how many bytes are taken. -/
def HS.left (h : HS) (t : Int) : Int := if h.bound then h.room - t else h.room
def HS.takes (h : HS) (n : Nat) : Nat := if h.bound then min n h.room.toNat else n
theorem row_set {w : World} {B n b c j : Nat} {e : TypeId} {xs : List Value} (h : w.ownsRow B e 1 (.slice (some ⟨b, 0, none⟩) n c) n xs) (u : Value) : (w.setCell ⟨b, j, none⟩ u).ownsRow B e 1 (.slice (some ⟨b, 0, none⟩) n c) n (xs.set j u) := by
  obtain ⟨h1, h2⟩ := h
  refine ⟨by simpa using h1, h2.imp (fun h => absurd h.1 (by simp)) ?_⟩
  rintro ⟨g, cap, cur, hv, h3, h4, h5, h6, h7, h8⟩
  injection hv with ha _ hc
  injection ha with ha
  injection ha with hb
  subst hb hc
  refine ⟨b, c, cur.setIfInBounds j u, rfl, h3, by simp [World.setCell, Array.getElem?_modify, h4], h5, h6, by simpa using h7, ?_⟩
  rw [Array.toList_setIfInBounds, List.take_set, h8]
theorem write_down (s : ByteArray) (w : World) (k : IsHost w g v h) (hu : h.up = false) :
    Calls Try.prog 31 #[.pointer (some ⟨g, 0, none⟩), .string s] w fun r w' => r = .returned (.int .i64 0) ∧ w = w' := by
  have HU := Aside0.mk hu
  have HK := Aside0.mk k
  clear k hu
  go_enter Try.func31, Try.ntmps31
  go_wp2_with fail
  refine (up_calls w HK.out).mono ?_
  rw [HU.out]
  rintro e1 w1 ⟨rfl, rfl⟩
  go_wp2
  go_ret
  exact ⟨rfl, rfl⟩
set_option maxHeartbeats 1000000 in
set_option maxRecDepth 100000 in
theorem write_up (s : ByteArray) (l : List ByteArray) (x : ByteArray) (w : World) (k : IsHost w g v h) (hu : h.up = true) (hl : h.heard = l ++ [x]) (hll : l.length ≤ 100000) (hx : x.size ≤ 1000000) (hs : s.size ≤ 1000000) (hr : 0 ≤ h.room) (hr2 : h.room ≤ 9223372036854775807) :
    Calls Try.prog 31 #[.pointer (some ⟨g, 0, none⟩), .string s] w fun r w' => r = .returned (.int .i64 (h.takes s.size : Int)) ∧ IsHost w' g v { h with room := h.left (h.takes s.size : Int), heard := l ++ [x ++ s.extract 0 (h.takes s.size)] } ∧ Turn g v w w' v := by
  have HU := Aside0.mk hu
  have HK := Aside0.mk k
  have HL := Aside0.mk hl
  clear k hu hl
  obtain ⟨t, ht⟩ : ∃ t, t = h.takes s.size := ⟨_, rfl⟩
  have hts : t ≤ s.size := by rw [ht]; unfold HS.takes; split <;> omega
  have HTT := Aside0.mk ht
  rw [← ht]
  clear ht
  go_enter Try.func31, Try.ntmps31
  go_wp2_with fail
  refine (up_calls w HK.out).mono ?_
  rw [HU.out]
  rintro e1 w1 ⟨rfl, rfl⟩
  obtain ⟨q, hq⟩ : ∃ q, q = h.bound := ⟨_, rfl⟩
  have c3 : w.cell? ⟨g, 3, none⟩ = some (.bool q) := (HK.out.blk.cell 3).trans (by rw [hq]; rfl)
  have HQ := Aside0.mk hq
  clear hq
  go_upto_if 14 with (fail)
  go_cut [5] from 6 to 28 (fun v5 wc => v5 = .int .i64 (t : Int) ∧ Aside0 (IsHost wc g v { h with room := h.left (t : Int) }) ∧ Aside0 (Turn g v w wc v))
  case first =>
    cases q with
    | true =>
      have hb := HQ.out.symm
      have hmin : min (s.size : Int) h.room = (t : Int) := by rw [HTT.out]; simp only [HS.takes, hb, if_true]; omega
      have hrt : (t : Int) ≤ h.room := by omega
      have hrb : h.room - (t : Int) ≤ h.room := by omega
      have ht0 : (0 : Int) ≤ (t : Int) := Int.natCast_nonneg _
      have HK1 := Aside0.mk (HK.out.set_ 4 (.int .i64 (h.room - (t : Int))) (h' := { h with room := h.left (t : Int) }) (by simp [HS.cells, HS.left, hb]) rfl)
      have c4 : w.cell? ⟨g, 4, none⟩ = some (.int .i64 h.room) := (HK.out.blk.cell 4).trans rfl
      have f4 := HK.out.blk.frozen 4
      clear hb
      go_wp2
      go_meet
      case rel => exact ⟨rfl, HK1, ⟨(Turn.refl _ _ _).set_ _ _⟩⟩
    | false =>
      have hb := HQ.out.symm
      have e : t = s.size := by rw [HTT.out]; simp [HS.takes, hb]
      have HK1 := Aside0.mk (show IsHost w g v { h with room := h.left (t : Int) } by rw [show h.left (t : Int) = h.room by simp [HS.left, hb]]; exact HK.out)
      clear hb
      subst e
      go_wp2
      go_meet
      case rel => exact ⟨rfl, HK1, ⟨Turn.refl _ _ _⟩⟩
  case rest =>
    obtain ⟨rfl, HK1, HT1⟩ := hcut
    have hrow := HK1.out.row
    have c5 : wc.cell? ⟨g, 5, none⟩ = some v := (HK1.out.blk.cell 5).trans rfl
    dsimp only at hrow
    rw [HL.out] at hrow
    rcases row_form hrow with ⟨_, h2, _⟩ | ⟨b, c, rfl, h3, h4, _, h6, h7, h8⟩
    · simp at h2
    · obtain ⟨N, hN⟩ : ∃ N, N = (l ++ [x]).length := ⟨_, rfl⟩
      have hlen : (l ++ [x]).length = l.length + 1 := by simp
      have cx : wc.cell? ⟨b, l.length, none⟩ = some (.string x) := h7 l.length _ (by simp [fs])
      have fx := h8 l.length
      rw [← hN] at c5 h3 hrow HT1 HK1
      obtain ⟨m, hm⟩ : ∃ m, m = l.length := ⟨_, rfl⟩
      rw [← hm] at cx fx hll
      have HM := Aside0.mk hm
      have hNm : N = m + 1 := by omega
      have hN1 : (N : Int) - 1 = (m : Int) := by omega
      have hm0 : (0 : Int) ≤ (m : Int) := Int.natCast_nonneg _
      have hmN : (m : Int) < (N : Int) := by omega
      have hmw : IntKind.i64.wrap ((N : Int) - 1) = (m : Int) := by rw [hN1]; exact IntWalk.i64_in _ (by omega)
      have ht0 : (0 : Int) ≤ (t : Int) := Int.natCast_nonneg _
      have htsI : (t : Int) ≤ (s.size : Int) := by omega
      have HROW := Aside0.mk hrow
      have HNN := Aside0.mk hN
      have hmNn : m < N := by omega
      clear h7 h8 hrow hlen h4 c3 hm hN hNm HK hN1
      go_upto_region 7 with (fail)
      go_region
      go_wp2
      go_ret
      have hne : g ≠ b := fun e => HK1.out.ne (by rw [e]; rfl)
      have hrow2 := row_set (j := m) HROW.out (.string (x ++ s.extract 0 t))
      have hset : (fs (l ++ [x])).set m (.string (x ++ s.extract 0 t)) = fs (l ++ [x ++ s.extract 0 t]) := by
        rw [HM.out]
        simp [fs]
      rw [hset] at hrow2
      have hnn : (l ++ [x ++ s.extract 0 t]).length = N := by
        have := HROW.out.1
        simp [fs] at this
        simp
        omega
      rw [← HNN.out]
      refine ⟨rfl, ⟨HK1.out.blk.far (p := ⟨b, m, none⟩) hne _, ?_⟩, ⟨(HT1.out.o.setCell _ _ (.inl (by simp [Value.ownBlock]))).drew, HT1.out.n⟩⟩
      dsimp only
      rw [hnn]
      exact hrow2
theorem takes_all (h : HS) (n : Nat) (hb : h.bound = false) : h.takes n = n := by simp [HS.takes, hb]
theorem joinS_none : (Lib.join (([] : List ByteArray).map (·.data.toList)) (ByteArray.mk #[]).data.toList) = [] := rfl
/-- Texts, one behind the other. -/
def joinS (ss : List ByteArray) : ByteArray := ⟨(Lib.join (ss.map (·.data.toList)) (ByteArray.mk #[]).data.toList).toArray⟩
/-- What Say makes of a host. -/
def HS.can (h : HS) (s : ByteArray) : Bool := h.up && decide (h.said.size + s.size ≤ 20000)
theorem say_calls (A0 : Option Addr) (c : Nat) (ss : List ByteArray) (w : World) (k : IsHost w g v h)
    (hj : ∀ W : World, Below w.heap.size w W → Calls Try.prog 55 #[.slice A0 ss.length c, .string ⟨#[]⟩] W fun r w' => r = .returned (.string (joinS ss)) ∧ Below W.heap.size W w') (hs : h.said.size ≤ 20000) (hjs : (joinS ss).size ≤ 1000000000) :
    Calls Try.prog 27 #[.pointer (some ⟨g, 0, none⟩), .slice A0 ss.length c] w fun r w' => r = .returned (.bool (h.can (joinS ss))) ∧ IsHost w' g v { h with said := if h.can (joinS ss) then h.said ++ joinS ss else h.said } ∧ Turn g v w w' v := by
  have HJ := Aside0.mk (hj w (Below.refl _ _))
  have HK := Aside0.mk k
  generalize joinS ss = j at HJ hjs ⊢
  obtain ⟨u, hu⟩ : ∃ u, u = h.up := ⟨_, rfl⟩
  have HU := Aside0.mk hu
  clear k hj hu
  by_cases hc : h.can j = true
  · have hc2 := hc
    simp only [HS.can, Bool.and_eq_true, decide_eq_true_eq] at hc2
    have hroom : ¬ (20000 - (h.said.size : Int) < (j.size : Int)) := by omega
    obtain rfl : u = true := by rw [HU.out, hc2.1]
    rw [hc, if_pos rfl]
    clear hc hc2
    go_enter Try.func27, Try.ntmps27
    go_wp2_with fail
    refine HJ.out.mono ?_
    rintro e1 w1 ⟨rfl, hb⟩
    have HB := Aside0.mk hb
    have HK1 := Aside0.mk (HK.out.below hb)
    clear hb
    go_wp2_with fail
    refine (up_calls w1 HK1.out).mono ?_
    rw [← HU.out]
    rintro e2 w2 ⟨rfl, rfl⟩
    have c2 : w1.cell? ⟨g, 2, none⟩ = some (.string h.said) := (HK1.out.blk.cell 2).trans rfl
    have f2 := HK1.out.blk.frozen 2
    go_wp2
    go_ret
    exact ⟨rfl, HK1.out.set_ 2 _ rfl rfl, (Turn.of_below HB.out).set_ _ _⟩
  · have hc1 : h.can j = false := by simpa using hc
    have hc2 : u = true → 20000 - (h.said.size : Int) < (j.size : Int) := by
      intro e
      rw [HU.out] at e
      simp only [HS.can, e, Bool.true_and, decide_eq_false_iff_not] at hc1
      omega
    rw [hc1, if_neg (by simp)]
    clear hc hc1
    cases u with
    | true =>
      have hroom := hc2 rfl
      clear hc2
      go_enter Try.func27, Try.ntmps27
      go_wp2_with fail
      refine HJ.out.mono ?_
      rintro e1 w1 ⟨rfl, hb⟩
      have HB := Aside0.mk hb
      have HK1 := Aside0.mk (HK.out.below hb)
      clear hb
      go_wp2_with fail
      refine (up_calls w1 HK1.out).mono ?_
      rw [← HU.out]
      rintro e2 w2 ⟨rfl, rfl⟩
      have c2 : w1.cell? ⟨g, 2, none⟩ = some (.string h.said) := (HK1.out.blk.cell 2).trans rfl
      go_wp2
      go_ret
      exact ⟨rfl, HK1.out, Turn.of_below HB.out⟩
    | false =>
      clear hc2
      go_enter Try.func27, Try.ntmps27
      go_wp2_with fail
      refine HJ.out.mono ?_
      rintro e1 w1 ⟨rfl, hb⟩
      have HB := Aside0.mk hb
      have HK1 := Aside0.mk (HK.out.below hb)
      clear hb
      go_wp2_with fail
      refine (up_calls w1 HK1.out).mono ?_
      rw [← HU.out]
      rintro e2 w2 ⟨rfl, rfl⟩
      go_wp2
      go_ret
      exact ⟨rfl, HK1.out, Turn.of_below HB.out⟩
end
end Go.Proofs.Ytmdhiimgeocgeaa.Host
