/- What the methods of a codec.Out come to: the bytes that are laid, and the first error. Conditions: those in each theorem. -/
import Derived.Test.YtheieigeipppnaaObj
namespace Go.Proofs.Ytheieigeipppnaa.Obj
open Go.RowKit Go.Proofs.YtheieigeipppnaaW.PrintWords Go.Proofs.YtheieigeipppnaaW.PrintMore

theorem eql_out (a : Addr) (w : World) : Sem.run Try.prog (binOp .eql 29 (.pointer (some a)) (.pointer none)) w = .ok (.bool false) w := by kernel_rfl

theorem fine_ok (g : Nat) (v : Value) (w : World) (h : w.heap[g]? = some (.cells #[v, .int .i64 0] 33 (0, 0))) :
    Calls Try.prog 53 #[.pointer (some ⟨g, 0, none⟩), .bool false] w fun e w' => e = .returned (.bool true) ∧ w = w' := by
  have c1 := (blk_cell h 1).trans rfl
  have hn := eql_out ⟨g, 0, none⟩
  clear h
  go_enter Try.func53, Try.ntmps53
  go_wp2
  go_ret
  exact ⟨rfl, rfl⟩
theorem fine_bad (g : Nat) (v : Value) (w : World) (h : w.heap[g]? = some (.cells #[v, .int .i64 0] 33 (0, 0))) :
    Calls Try.prog 53 #[.pointer (some ⟨g, 0, none⟩), .bool true] w fun e w' => e = .returned (.bool false) ∧ w.setCell ⟨g, 1, none⟩ (.int .i64 1) = w' := by
  have c1 := (blk_cell h 1).trans rfl
  have f1 := blk_frozen h 1
  have hn := eql_out ⟨g, 0, none⟩
  clear h
  go_enter Try.func53, Try.ntmps53
  go_wp2
  go_ret
  exact ⟨rfl, rfl⟩
theorem fine_err (g : Nat) (v : Value) (k : Int) (b : Bool) (hk : k ≠ 0) (w : World) (h : w.heap[g]? = some (.cells #[v, .int .i64 k] 33 (0, 0))) :
    Calls Try.prog 53 #[.pointer (some ⟨g, 0, none⟩), .bool b] w fun e w' => e = .returned (.bool false) ∧ w = w' := by
  have c1 := (blk_cell h 1).trans rfl
  have hn := eql_out ⟨g, 0, none⟩
  have hk' : (k != 0) = true := by simpa using hk
  clear h hk
  go_enter Try.func53, Try.ntmps53
  go_wp2
  go_ret
  exact ⟨rfl, rfl⟩

/-- A writer at block g: what it laid, and its error. -/
def IsOut (B : Nat) (w : World) (g : Nat) (bs : List Int) (e : Int) : Prop :=
  ∃ v, w.heap[g]? = some (.cells #[v, .int .i64 e] 33 (0, 0)) ∧ w.ownsRow B 5 1 v bs.length (nums .u8 bs)
theorem IsOut.below {B g : Nat} {w w' : World} {bs : List Int} {e : Int} (h : IsOut B w g bs e) (hb : Below w.heap.size w w') : IsOut B w' g bs e := by
  obtain ⟨v, hh, ho⟩ := h
  exact ⟨v, (hb.block g (blk_lt hh)).trans hh, pw_own_below ho hb⟩
theorem IsOut.alloc {B g : Nat} {w : World} {bs : List Int} {e : Int} (h : IsOut B w g bs e) (o : Obj) : IsOut B (w.alloc o) g bs e := h.below (below_alloc (Below.refl _ _) o)
theorem IsOut.bad {B g : Nat} {w : World} {bs : List Int} {e : Int} (h : IsOut B w g bs e) : IsOut B (w.setCell ⟨g, 1, none⟩ (.int .i64 1)) g bs 1 := by
  obtain ⟨v, hh, ho⟩ := h
  refine ⟨v, (blk_set hh 1 _).trans rfl, own_setCell ho ?_ _⟩
  exact own_ne ho hh (by decide)
theorem IsOut.new {B : Nat} (w : World) : IsOut B (w.alloc (.cells #[.slice none 0 0, .int .i64 0] 33)) w.heap.size [] 0 :=
  ⟨_, heap_alloc_new w _, own_nil _ _ _ _⟩
/-- What stands behind 'o.b = append(o.b, ..)'. -/
theorem IsOut.put {B g : Nat} {w w1 : World} {bs new : List Int} {e : Int} {v v1 : Value} {n : Nat} (hh : w.heap[g]? = some (.cells #[v, .int .i64 e] 33 (0, 0))) (ho : w.ownsRow B 5 1 v bs.length (nums .u8 bs))
    (h1 : w1.ownsRow B 5 1 v1 n (nums .u8 (bs ++ new))) (hg : w.grownBy w1 v.ownBlock) :
    w1.cell? ⟨g, 0, none⟩ = some v ∧ w1.frozen? ⟨g, 0, none⟩ = false ∧ IsOut B (w1.setCell ⟨g, 0, none⟩ v1) g (bs ++ new) e ∧ Fr B g w (w1.setCell ⟨g, 0, none⟩ v1) := by
  have hne : some g ≠ v.ownBlock := own_ne ho hh (by decide)
  have hh1 : w1.heap[g]? = some (.cells #[v, .int .i64 e] 33 (0, 0)) := blk_grown hh hg hne
  have hn : (bs ++ new).length = n := by have := h1.1; simpa [nums] using this
  refine ⟨(blk_cell hh1 0).trans rfl, blk_frozen hh1 0, ⟨v1, (blk_set hh1 0 _).trans rfl, ?_⟩, (Fr.grown ho hg).trans (Fr.set _ _ _ _ _)⟩
  rw [hn]
  exact own_setCell h1 (own_ne h1 hh1 (by decide)) _

section
variable {P : Program} {ops : Array Oper} {rest : List Oper} {o : Oper} {a : Act} {Q : Exit → Act → World → Prop}
/-- 'o.b = append(o.b, y)', up to the store. -/
theorem out_append {W : World} {B g : Nat} {bs : List Int} {e : Int} {v : Value} (hgd : o.guard = none) (s x : Operand) (ho : o.op = .call { callee := .builtin .append, args := #[s, x], argTypes := #[30, 30] })
    (ht : P.underlying 30 = some (.slice 5)) (hinfo : (P.info? 5).map (fun i => (i.zero, i.size, i.bytes)) = some (some (.int .u8 0), 1, 1)) (y : Int)
    (hs : a.eval s = v) (hx : a.eval x = .slice (some ⟨W.heap.size, 0, none⟩) 1 1)
    (hh : W.heap[g]? = some (.cells #[v, .int .i64 e] 33 (0, 0))) (hown : W.ownsRow B 5 1 v bs.length (nums .u8 bs)) (hB : B ≤ W.heap.size) (hl : bs.length + 1 ≤ 140737488355328)
    (h : ∀ A1 c1 w1, w1.cell? ⟨g, 0, none⟩ = some v → w1.frozen? ⟨g, 0, none⟩ = false → Aside0 (IsOut B (w1.setCell ⟨g, 0, none⟩ (.slice A1 (bs.length + 1) c1)) g (bs ++ [y]) e ∧ Fr B g W (w1.setCell ⟨g, 0, none⟩ (.slice A1 (bs.length + 1) c1))) → wpList P ops Q rest (a.put o.dst (.slice A1 (bs.length + 1) c1)) w1) :
    wpList P ops Q (o :: rest) a (W.alloc (.cells #[.int .u8 y] 5)) := by
  refine print_append_num (w0 := W) B hgd s x 30 5 .u8 1 ho ht hinfo (by decide) v bs y hs hx hown (Below.refl _ _) hB (by omega) ?_
  intro v1 w1 ho1 _ hg1 _
  have hlen : (bs ++ [y]).length = bs.length + 1 := by simp
  rw [hlen] at ho1
  obtain ⟨A1, c1, rfl⟩ := own_slice ho1
  have hp := IsOut.put hh hown ho1 hg1
  exact h A1 c1 w1 hp.1 hp.2.1 ⟨hp.2.2⟩
/-- 'o.b = append(o.b, s...)', up to the store. -/
theorem out_append_str {W : World} {B g : Nat} {bs : List Int} {e : Int} {v : Value} (hgd : o.guard = none) (s x : Operand) (ho : o.op = .call { callee := .builtin .append, args := #[s, x], argTypes := #[30, 9] })
    (ht : P.underlying 30 = some (.slice 5)) (hu : P.underlying 9 = some .string) (hinfo : (P.info? 5).map (fun i => (i.zero, i.size, i.bytes)) = some (some (.int .u8 0), 1, 1)) (y : ByteArray)
    (hs : a.eval s = v) (hx : a.eval x = .string y)
    (hh : W.heap[g]? = some (.cells #[v, .int .i64 e] 33 (0, 0))) (hown : W.ownsRow B 5 1 v bs.length (nums .u8 bs)) (hB : B ≤ W.heap.size) (hl : bs.length + y.size ≤ 140737488355328)
    (h : ∀ A1 c1 w1, w1.cell? ⟨g, 0, none⟩ = some v → w1.frozen? ⟨g, 0, none⟩ = false → Aside0 (IsOut B (w1.setCell ⟨g, 0, none⟩ (.slice A1 (bs.length + y.size) c1)) g (bs ++ bytesOf y) e ∧ Fr B g W (w1.setCell ⟨g, 0, none⟩ (.slice A1 (bs.length + y.size) c1))) → wpList P ops Q rest (a.put o.dst (.slice A1 (bs.length + y.size) c1)) w1) :
    wpList P ops Q (o :: rest) a W := by
  obtain ⟨i0, hi, hzz⟩ := Option.map_eq_some_iff.1 hinfo
  simp only [Prod.mk.injEq] at hzz
  obtain ⟨hz0, hz1, hz2⟩ := hzz
  refine Lib.wpList_append_own_string W hgd s x 30 9 ho B 5 i0 ht hu hi hz0 hz1 hz2 v bs.length (nums .u8 bs) hs hown y hx (by simp only [maxLen]; omega) hl hB ?_
  intro v1 w1 ho1 hg1 _
  have hc : nums .u8 bs ++ Lib.strCells y = nums .u8 (bs ++ bytesOf y) := by
    rw [nums_append]
    congr 1
    simp [nums, bytesOf, Lib.strCells]
  rw [hc] at ho1
  obtain ⟨A1, c1, rfl⟩ := own_slice ho1
  have hp := IsOut.put hh hown ho1 hg1
  exact h A1 c1 w1 hp.1 hp.2.1 ⟨hp.2.2⟩
end

/-- The bytes of a number. -/
def numB (v : Nat) : List Int := if v < 128 then [(v : Int)] else ((v % 128 + 128 : Nat) : Int) :: numB (v / 128)
termination_by v
decreasing_by omega
theorem numB_small {v : Nat} (h : v < 128) : numB v = [(v : Int)] := by rw [numB, if_pos h]
theorem numB_great {v : Nat} (h : ¬ v < 128) : numB v = ((v % 128 + 128 : Nat) : Int) :: numB (v / 128) := by rw [numB, if_neg h]
theorem or128 (u : Nat) : Go.bits .or .u8 ((u : Int) % 256) 128 = ((u % 128 + 128 : Nat) : Int) := by
  have h : ∀ m, m < 256 → Go.bits .or .u8 ((m : Nat) : Int) 128 = ((m % 128 + 128 : Nat) : Int) := by decide +kernel
  have h2 := h (u % 256) (by omega)
  rw [show u % 256 % 128 = u % 128 by omega] at h2
  rw [← h2]
  rfl
theorem numB_len (n : Nat) : ∀ v, v < 128 ^ n → (numB v).length ≤ max n 1 := by
  induction n with
  | zero => intro v h; rw [numB_small (by simp at h; omega)]; simp
  | succ n ih =>
    intro v h
    by_cases hv : v < 128
    · rw [numB_small hv]; simp
    · rw [numB_great hv]
      have := ih (v / 128) (by rw [Nat.pow_succ] at h; omega)
      cases n with
      | zero => omega
      | succ n => simp; omega
theorem numB_len9 {v : Nat} (h : v < 9223372036854775808) : (numB v).length ≤ 9 := by
  have := numB_len 9 v (by have : 128 ^ 9 = 9223372036854775808 := by decide
                           omega)
  omega
/-- Num, from a state on. -/
def oNum : List Int × Int → List Int → List Int × Int
  | s, [] => s
  | (bs, e), x :: xs => if e ≠ 0 then (bs, e) else if x < 0 then (bs, 1) else oNum (bs ++ numB x.toNat, 0) xs
theorem infoB : (Try.prog.info? 5).map (fun i => (i.zero, i.size, i.bytes)) = some (some (.int .u8 0), 1, 1) := by kernel_rfl

theorem IsOut.ne {B g : Nat} {w : World} {bs : List Int} {e : Int} (h : IsOut B w g bs e) {t : TypeId} (ht : t ≠ 33) (cs : Array Value) (fr : Nat × Nat) : w.heap[g]? ≠ some (.cells cs t fr) := by
  obtain ⟨v, hh, _⟩ := h
  rw [hh]
  intro he
  injection he with he
  injection he with _ he
  exact ht he.symm
theorem oNum_err {bs : List Int} {e : Int} (he : e ≠ 0) (xs : List Int) : oNum (bs, e) xs = (bs, e) := by
  cases xs with
  | nil => rfl
  | cons x xs => simp [oNum, he]
theorem drop_at {α : Type} {l : List α} {k : Nat} {x : α} (h : l[k]? = some x) : l.drop k = x :: l.drop (k + 1) := by
  obtain ⟨hk, rfl⟩ := List.getElem?_eq_some_iff.1 h
  exact List.drop_eq_getElem_cons hk

set_option maxHeartbeats 4000000 in
set_option maxRecDepth 100000 in
theorem num_calls' (B g b off : Nat) (bs : List Int) (e : Int) (cap : Nat) (xs : List Int) (w : World) (hO : IsOut B w g bs e) (hB : B ≤ w.heap.size) (hx : RowAt w (some ⟨b, off, none⟩) 3 (nums .i64 xs))
    (hlen : bs.length + 9 * xs.length ≤ 1000000000000) (hwx : ∀ x ∈ xs, x ≤ 9223372036854775807) :
    Calls Try.prog 19 #[.pointer (some ⟨g, 0, none⟩), .slice (some ⟨b, off, none⟩) xs.length cap] w fun r w' => r = .returned (.pointer (some ⟨g, 0, none⟩)) ∧ IsOut B w' g (oNum (bs, e) xs).1 (oNum (bs, e) xs).2 ∧ Fr B g w w' := by
  have HO := Aside0.mk hO
  have HX := Aside0.mk hx
  have HW := Aside0.mk hwx
  have hxl : xs.length ≤ 9223372036854775807 := by have := hx.1; simpa [nums, maxLen] using this
  clear hO hx hwx
  go_enter Try.func19, Try.ntmps19
  go_wp2
  go_loopg [9] xs.length (fun kq v9 wr => ∃ (k : Nat) (bk : List Int) (ek : Int), v9 = .int .i64 k ∧ Aside0 (k ≤ xs.length ∧ kq = xs.length - k) ∧ Aside0 (IsOut B wr g bk ek ∧ Fr B g w wr ∧ oNum (bk, ek) (xs.drop k) = oNum (bs, e) xs ∧ bk.length + 9 * (xs.length - k) ≤ 1000000000000))
  case atStart => exact ⟨0, bs, e, rfl, ⟨Nat.zero_le _, rfl⟩, ⟨HO.out, Fr.refl _ _ _, by simp, by omega⟩⟩
  case round =>
    obtain ⟨k, bk, ek, rfl, ⟨hk, hkq⟩, ⟨hO, hF, hS, hL⟩⟩ := hrel
    obtain ⟨wo, rfl⟩ : ∃ wo : World, wo = wr := ⟨_, rfl⟩
    obtain ⟨ko, rfl⟩ : ∃ ko : Nat, ko = gk := ⟨_, rfl⟩
    have HS := Aside0.mk hS
    have HQ := Aside0.mk hkq
    clear hS hkq
    by_cases hlt : k < xs.length
    · obtain ⟨x, hxk⟩ : ∃ x, xs[k]? = some x := ⟨xs[k], by simp [hlt]⟩
      obtain ⟨b', off', hA, hc⟩ := (HX.out.frame hF (by decide) (fun cs fr => HO.out.ne (by decide) cs fr)).at_ k (.int .i64 x) (by simp [nums, hxk])
      obtain ⟨rfl, rfl⟩ : b = b' ∧ off = off' := by simpa using hA
      clear hA
      have hx63 := HW.out x (List.mem_of_getElem? hxk)
      have HK := Aside0.mk hxk
      clear hxk
      obtain ⟨v, hh, ho⟩ := id hO
      have HO1 := Aside0.mk hO
      have HF := Aside0.mk hF
      have HR := Aside0.mk ho
      clear hO hF ho
      by_cases hek : ek = 0
      · subst hek
        by_cases hx0 : x < 0
        · go_wp2_with (go_at_call 53; refine (fine_bad g v _ hh).mono ?_; rintro e1 w1 ⟨rfl, rfl⟩)
          go_ret
          have hs := HS.out
          rw [drop_at HK.out] at hs
          simp only [oNum, hx0] at hs
          rw [← hs]
          exact ⟨rfl, HO1.out.bad, HF.out.trans (Fr.set _ _ _ _ _)⟩
        · obtain ⟨n, rfl⟩ := Int.eq_ofNat_of_zero_le (show 0 ≤ x by omega)
          go_wp2_with (go_at_call 53; refine (fine_ok g v _ hh).mono ?_; rintro e1 w1 ⟨rfl, rfl⟩)
          go_loopg [6] n (fun kq v6 w2 => ∃ (u : Nat) (dn : List Int), v6 = .int .i64 u ∧ Aside0 (kq = u ∧ u ≤ n) ∧ Aside0 (IsOut B w2 g (bk ++ dn) 0 ∧ Fr B g wo w2 ∧ dn ++ numB u = numB n))
          case atStart => exact ⟨n, [], rfl, ⟨rfl, Nat.le_refl _⟩, ⟨by simpa using HO1.out, Fr.refl _ _ _, rfl⟩⟩
          case round =>
            obtain ⟨u, dn, rfl, ⟨hku, hun⟩, ⟨hO2, hF2, hdn⟩⟩ := hrel
            obtain ⟨v2, hh2, ho2⟩ := id hO2
            have hc2 : wr.cell? ⟨g, 0, none⟩ = some v2 := (blk_cell hh2 0).trans rfl
            have HU := Aside0.mk hku
            have HF2 := Aside0.mk hF2
            have HD := Aside0.mk hdn
            have hsz := hF2.size
            have hsz1 := HF.out.size
            have h9 := numB_len9 (v := n) (by omega)
            have hdl : dn.length + (numB u).length ≤ 9 := by rw [← List.length_append, hdn]; exact h9
            clear hku hF2 hdn hO2 h9
            by_cases h128 : u < 128
            · have hpos : (numB u).length = 1 := by rw [numB_small h128]; rfl
              go_wp2_with (first | (at_builtin; refine out_append rfl (.tmp 39) (.tmp 42) rfl Try.underlying30 infoB _ rfl rfl hh2 ho2 (by omega) (by simp; omega) ?_; intro A3 c3 w3 hc3 hf3 H3))
              go_roundg (ko - 1)
              case measure => have := HQ.out; omega
              case rel =>
                refine ⟨k + 1, bk ++ numB n, 0, by go_num, ⟨by omega, by have := HQ.out; omega⟩, ⟨?_, ?_, ?_, ?_⟩⟩
                · have hd := HD.out
                  rw [numB_small h128] at hd
                  rw [← hd, ← List.append_assoc]
                  have h3 := H3.out.1
                  rw [List.length_append] at h3
                  exact h3
                · have h3 := H3.out.2
                  rw [List.length_append] at h3
                  exact (HF.out.trans HF2.out).trans h3
                · have hs := HS.out
                  rw [drop_at HK.out] at hs
                  rw [← hs, oNum, if_neg (by simp), if_neg (by omega), Int.toNat_natCast]
                · have := numB_len9 (v := n) (by omega)
                  simp; omega
            · have hpos := numB_great h128
              go_wp2_with (first | (at_builtin; refine out_append rfl (.tmp 25) (.tmp 29) rfl Try.underlying30 infoB _ rfl rfl hh2 ho2 (by omega) (by simp; omega) ?_; intro A3 c3 w3 hc3 hf3 H3))
              go_roundg (u / 128)
              case measure => have := HU.out; omega
              case rel =>
                refine ⟨u / 128, dn ++ [((u % 128 + 128 : Nat) : Int)], by go_num, ⟨rfl, by omega⟩, ⟨?_, ?_, ?_⟩⟩
                · have h3 := H3.out.1
                  rw [List.length_append, or128, List.append_assoc] at h3
                  exact h3
                · have h3 := H3.out.2
                  rw [List.length_append] at h3
                  exact HF2.out.trans h3
                · rw [List.append_assoc, ← HD.out, hpos]; rfl
      · go_wp2_with (go_at_call 53; refine (fine_err g v ek _ hek _ hh).mono ?_; rintro e1 w1 ⟨rfl, rfl⟩)
        go_ret
        have hs := HS.out
        rw [oNum_err hek] at hs
        rw [← hs]
        exact ⟨rfl, HO1.out, HF.out⟩
    · go_wp2
      go_ret
      have hs := HS.out
      rw [List.drop_of_length_le (by omega)] at hs
      simp only [oNum] at hs
      rw [← hs]
      exact ⟨rfl, hO, hF⟩
theorem num_calls0 (B g : Nat) (bs : List Int) (e : Int) (A : Option Addr) (cap : Nat) (w : World) (hO : IsOut B w g bs e) :
    Calls Try.prog 19 #[.pointer (some ⟨g, 0, none⟩), .slice A 0 cap] w fun r w' => r = .returned (.pointer (some ⟨g, 0, none⟩)) ∧ IsOut B w' g bs e ∧ Fr B g w w' := by
  have HO := Aside0.mk hO
  clear hO
  go_enter Try.func19, Try.ntmps19
  go_wp2
  refine wp_loop_rounds 1 ?_
  rw [rounds_succ]
  go_wp2
  go_ret
  exact ⟨rfl, HO.out, Fr.refl _ _ _⟩
theorem num_calls (B g : Nat) (bs : List Int) (e : Int) (A : Option Addr) (cap : Nat) (xs : List Int) (w : World) (hO : IsOut B w g bs e) (hB : B ≤ w.heap.size) (hx : RowAt w A 3 (nums .i64 xs))
    (hlen : bs.length + 9 * xs.length ≤ 1000000000000) (hwx : ∀ x ∈ xs, x ≤ 9223372036854775807) :
    Calls Try.prog 19 #[.pointer (some ⟨g, 0, none⟩), .slice A xs.length cap] w fun r w' => r = .returned (.pointer (some ⟨g, 0, none⟩)) ∧ IsOut B w' g (oNum (bs, e) xs).1 (oNum (bs, e) xs).2 ∧ Fr B g w w' := by
  rcases hx.2 with h | ⟨b, off, cs, fr, rfl, hb, hc⟩
  · obtain rfl : xs = [] := by simpa [nums] using h
    exact num_calls0 B g bs e A cap w hO
  · exact num_calls' B g b off bs e cap xs w hO hB ⟨hx.1, .inr ⟨b, off, cs, fr, rfl, hb, hc⟩⟩ hlen hwx

/-- Byte, from a state on. -/
def oByte : List Int × Int → List Int → List Int × Int
  | s, [] => s
  | (bs, e), x :: xs => if e ≠ 0 then (bs, e) else if x < 0 ∨ 255 < x then (bs, 1) else oByte (bs ++ [x], 0) xs
theorem oByte_err {bs : List Int} {e : Int} (he : e ≠ 0) (xs : List Int) : oByte (bs, e) xs = (bs, e) := by
  cases xs with
  | nil => rfl
  | cons x xs => simp [oByte, he]
set_option maxHeartbeats 4000000 in
set_option maxRecDepth 100000 in
theorem byte_calls' (B g b off : Nat) (bs : List Int) (e : Int) (cap : Nat) (xs : List Int) (w : World) (hO : IsOut B w g bs e) (hB : B ≤ w.heap.size) (hx : RowAt w (some ⟨b, off, none⟩) 3 (nums .i64 xs))
    (hlen : bs.length + xs.length ≤ 1000000000000) :
    Calls Try.prog 46 #[.pointer (some ⟨g, 0, none⟩), .slice (some ⟨b, off, none⟩) xs.length cap] w fun r w' => r = .returned (.pointer (some ⟨g, 0, none⟩)) ∧ IsOut B w' g (oByte (bs, e) xs).1 (oByte (bs, e) xs).2 ∧ Fr B g w w' := by
  have HO := Aside0.mk hO
  have HX := Aside0.mk hx
  have hxl : xs.length ≤ 9223372036854775807 := by have := hx.1; simpa [nums, maxLen] using this
  clear hO hx
  go_enter Try.func46, Try.ntmps46
  go_wp2
  go_loopg [9] xs.length (fun kq v9 wr => ∃ (k : Nat) (bk : List Int) (ek : Int), v9 = .int .i64 k ∧ Aside0 (k ≤ xs.length ∧ kq = xs.length - k) ∧ Aside0 (IsOut B wr g bk ek ∧ Fr B g w wr ∧ oByte (bk, ek) (xs.drop k) = oByte (bs, e) xs ∧ bk.length + (xs.length - k) ≤ 1000000000000))
  case atStart => exact ⟨0, bs, e, rfl, ⟨Nat.zero_le _, rfl⟩, ⟨HO.out, Fr.refl _ _ _, by simp, by omega⟩⟩
  case round =>
    obtain ⟨k, bk, ek, rfl, ⟨hk, hkq⟩, ⟨hO, hF, hS, hL⟩⟩ := hrel
    obtain ⟨ko, rfl⟩ : ∃ ko : Nat, ko = gk := ⟨_, rfl⟩
    have HS := Aside0.mk hS
    have HQ := Aside0.mk hkq
    clear hS hkq
    by_cases hlt : k < xs.length
    · obtain ⟨x, hxk⟩ : ∃ x, xs[k]? = some x := ⟨xs[k], by simp [hlt]⟩
      obtain ⟨b', off', hA, hc⟩ := (HX.out.frame hF (by decide) (fun cs fr => HO.out.ne (by decide) cs fr)).at_ k (.int .i64 x) (by simp [nums, hxk])
      obtain ⟨rfl, rfl⟩ : b = b' ∧ off = off' := by simpa using hA
      clear hA
      have HK := Aside0.mk hxk
      clear hxk
      obtain ⟨v, hh, ho⟩ := id hO
      have hc2 : wr.cell? ⟨g, 0, none⟩ = some v := (blk_cell hh 0).trans rfl
      have hsz := hF.size
      have HO1 := Aside0.mk hO
      have HF := Aside0.mk hF
      clear hO hF
      by_cases hek : ek = 0
      · subst hek
        by_cases hx0 : x < 0
        · go_wp2_with (go_at_call 53; refine (fine_bad g v _ hh).mono ?_; rintro e1 w1 ⟨rfl, rfl⟩)
          go_ret
          have hs := HS.out
          rw [drop_at HK.out, oByte, if_neg (by simp), if_pos (.inl hx0)] at hs
          rw [← hs]
          exact ⟨rfl, HO1.out.bad, HF.out.trans (Fr.set _ _ _ _ _)⟩
        · by_cases hx1 : 255 < x
          · go_wp2_with (go_at_call 53; refine (fine_bad g v _ hh).mono ?_; rintro e1 w1 ⟨rfl, rfl⟩)
            go_ret
            have hs := HS.out
            rw [drop_at HK.out, oByte, if_neg (by simp), if_pos (.inr hx1)] at hs
            rw [← hs]
            exact ⟨rfl, HO1.out.bad, HF.out.trans (Fr.set _ _ _ _ _)⟩
          · obtain ⟨n, rfl⟩ := Int.eq_ofNat_of_zero_le (show 0 ≤ x by omega)
            go_wp2_with (first | (go_at_call 53; refine (fine_ok g v _ hh).mono ?_; rintro e1 w1 ⟨rfl, rfl⟩) | (at_builtin; refine out_append rfl (.tmp 27) (.tmp 30) rfl Try.underlying30 infoB _ rfl rfl hh ho (by omega) (by omega) ?_; intro A3 c3 w3 hc3 hf3 H3))
            go_roundg (ko - 1)
            case measure => have := HQ.out; omega
            case rel =>
              have hs := HS.out
              rw [drop_at HK.out, oByte, if_neg (by simp), if_neg (by omega)] at hs
              exact ⟨k + 1, bk ++ [(n : Int)], 0, by go_num, ⟨by omega, by have := HQ.out; omega⟩, ⟨H3.out.1, HF.out.trans H3.out.2, hs, by simp; omega⟩⟩
      · go_wp2_with (go_at_call 53; refine (fine_err g v ek _ hek _ hh).mono ?_; rintro e1 w1 ⟨rfl, rfl⟩)
        all_goals
          go_ret
          have hs := HS.out
          rw [oByte_err hek] at hs
          rw [← hs]
          exact ⟨rfl, HO1.out, HF.out⟩
    · go_wp2
      go_ret
      have hs := HS.out
      rw [List.drop_of_length_le (by omega)] at hs
      simp only [oByte] at hs
      rw [← hs]
      exact ⟨rfl, hO, hF⟩
theorem byte_calls (B g : Nat) (bs : List Int) (e : Int) (A : Option Addr) (cap : Nat) (xs : List Int) (w : World) (hO : IsOut B w g bs e) (hB : B ≤ w.heap.size) (hx : RowAt w A 3 (nums .i64 xs)) (hne : xs ≠ [])
    (hlen : bs.length + xs.length ≤ 1000000000000) :
    Calls Try.prog 46 #[.pointer (some ⟨g, 0, none⟩), .slice A xs.length cap] w fun r w' => r = .returned (.pointer (some ⟨g, 0, none⟩)) ∧ IsOut B w' g (oByte (bs, e) xs).1 (oByte (bs, e) xs).2 ∧ Fr B g w w' := by
  rcases hx.2 with h | ⟨b, off, cs, fr, rfl, hb, hc⟩
  · exact absurd (by simpa [nums] using h) hne
  · exact byte_calls' B g b off bs e cap xs w hO hB ⟨hx.1, .inr ⟨b, off, cs, fr, rfl, hb, hc⟩⟩ hlen

/-- How many bytes texts have. -/
def sumS (ss : List ByteArray) : Nat := (ss.map ByteArray.size).sum
/-- Raw, from a state on. -/
def oRaw : List Int × Int → List ByteArray → List Int × Int
  | s, [] => s
  | (bs, e), x :: xs => if e ≠ 0 then (bs, e) else oRaw (bs ++ bytesOf x, 0) xs
theorem oRaw_err {bs : List Int} {e : Int} (he : e ≠ 0) (xs : List ByteArray) : oRaw (bs, e) xs = (bs, e) := by
  cases xs with
  | nil => rfl
  | cons x xs => simp [oRaw, he]
set_option maxHeartbeats 4000000 in
set_option maxRecDepth 100000 in
theorem raw_calls' (B g b off : Nat) (bs : List Int) (e : Int) (cap : Nat) (xs : List ByteArray) (w : World) (hO : IsOut B w g bs e) (hB : B ≤ w.heap.size) (hx : RowAt w (some ⟨b, off, none⟩) 9 (pw_strs xs))
    (hlen : bs.length + sumS xs ≤ 1000000000000) :
    Calls Try.prog 48 #[.pointer (some ⟨g, 0, none⟩), .slice (some ⟨b, off, none⟩) xs.length cap] w fun r w' => r = .returned (.pointer (some ⟨g, 0, none⟩)) ∧ IsOut B w' g (oRaw (bs, e) xs).1 (oRaw (bs, e) xs).2 ∧ Fr B g w w' := by
  have HO := Aside0.mk hO
  have HX := Aside0.mk hx
  have hxl : xs.length ≤ 9223372036854775807 := by have := hx.1; simpa [pw_strs, maxLen] using this
  clear hO hx
  go_enter Try.func48, Try.ntmps48
  go_wp2
  go_loopg [9] xs.length (fun kq v9 wr => ∃ (k : Nat) (bk : List Int) (ek : Int), v9 = .int .i64 k ∧ Aside0 (k ≤ xs.length ∧ kq = xs.length - k) ∧ Aside0 (IsOut B wr g bk ek ∧ Fr B g w wr ∧ oRaw (bk, ek) (xs.drop k) = oRaw (bs, e) xs ∧ bk.length + sumS (xs.drop k) ≤ 1000000000000))
  case atStart => exact ⟨0, bs, e, rfl, ⟨Nat.zero_le _, rfl⟩, ⟨HO.out, Fr.refl _ _ _, by simp, by simpa using hlen⟩⟩
  case round =>
    obtain ⟨k, bk, ek, rfl, ⟨hk, hkq⟩, ⟨hO, hF, hS, hL⟩⟩ := hrel
    obtain ⟨ko, rfl⟩ : ∃ ko : Nat, ko = gk := ⟨_, rfl⟩
    have HS := Aside0.mk hS
    have HQ := Aside0.mk hkq
    clear hS hkq
    by_cases hlt : k < xs.length
    · obtain ⟨x, hxk⟩ : ∃ x, xs[k]? = some x := ⟨xs[k], by simp [hlt]⟩
      obtain ⟨b', off', hA, hc⟩ := (HX.out.frame hF (by decide) (fun cs fr => HO.out.ne (by decide) cs fr)).at_ k (.string x) (by simp [pw_strs, hxk])
      obtain ⟨rfl, rfl⟩ : b = b' ∧ off = off' := by simpa using hA
      clear hA
      have hL2 : bk.length + (x.size + sumS (xs.drop (k + 1))) ≤ 1000000000000 := by rw [drop_at hxk] at hL; simpa [sumS] using hL
      have HK := Aside0.mk hxk
      clear hxk hL
      obtain ⟨v, hh, ho⟩ := id hO
      have hc2 : wr.cell? ⟨g, 0, none⟩ = some v := (blk_cell hh 0).trans rfl
      have hsz := hF.size
      have HO1 := Aside0.mk hO
      have HF := Aside0.mk hF
      clear hO hF
      by_cases hek : ek = 0
      · subst hek
        go_wp2_with (first | (go_at_call 53; refine (fine_ok g v _ hh).mono ?_; rintro e1 w1 ⟨rfl, rfl⟩) | (at_builtin; refine out_append_str rfl (.tmp 21) (.tmp 22) rfl Try.underlying30 Try.underlying9 infoB _ rfl rfl hh ho (by omega) (by omega) ?_; intro A3 c3 w3 hc3 hf3 H3))
        go_roundg (ko - 1)
        case measure => have := HQ.out; omega
        case rel =>
          have hs := HS.out
          rw [drop_at HK.out, oRaw, if_neg (by simp)] at hs
          exact ⟨k + 1, bk ++ bytesOf x, 0, by go_num, ⟨by omega, by have := HQ.out; omega⟩, ⟨H3.out.1, HF.out.trans H3.out.2, hs, by rw [List.length_append, bytesOf_length]; omega⟩⟩
      · go_wp2_with (go_at_call 53; refine (fine_err g v ek _ hek _ hh).mono ?_; rintro e1 w1 ⟨rfl, rfl⟩)
        go_ret
        have hs := HS.out
        rw [oRaw_err hek] at hs
        rw [← hs]
        exact ⟨rfl, HO1.out, HF.out⟩
    · go_wp2
      go_ret
      have hs := HS.out
      rw [List.drop_of_length_le (by omega)] at hs
      simp only [oRaw] at hs
      rw [← hs]
      exact ⟨rfl, hO, hF⟩
theorem raw_calls0 (B g : Nat) (bs : List Int) (e : Int) (A : Option Addr) (cap : Nat) (w : World) (hO : IsOut B w g bs e) :
    Calls Try.prog 48 #[.pointer (some ⟨g, 0, none⟩), .slice A 0 cap] w fun r w' => r = .returned (.pointer (some ⟨g, 0, none⟩)) ∧ IsOut B w' g bs e ∧ Fr B g w w' := by
  have HO := Aside0.mk hO
  clear hO
  go_enter Try.func48, Try.ntmps48
  go_wp2
  refine wp_loop_rounds 1 ?_
  rw [rounds_succ]
  go_wp2
  go_ret
  exact ⟨rfl, HO.out, Fr.refl _ _ _⟩
theorem raw_calls (B g : Nat) (bs : List Int) (e : Int) (A : Option Addr) (cap : Nat) (xs : List ByteArray) (w : World) (hO : IsOut B w g bs e) (hB : B ≤ w.heap.size) (hx : RowAt w A 9 (pw_strs xs))
    (hlen : bs.length + sumS xs ≤ 1000000000000) :
    Calls Try.prog 48 #[.pointer (some ⟨g, 0, none⟩), .slice A xs.length cap] w fun r w' => r = .returned (.pointer (some ⟨g, 0, none⟩)) ∧ IsOut B w' g (oRaw (bs, e) xs).1 (oRaw (bs, e) xs).2 ∧ Fr B g w w' := by
  rcases hx.2 with h | ⟨b, off, cs, fr, rfl, hb, hc⟩
  · obtain rfl : xs = [] := by simpa [pw_strs] using h
    exact raw_calls0 B g bs e A cap w hO
  · exact raw_calls' B g b off bs e cap xs w hO hB ⟨hx.1, .inr ⟨b, off, cs, fr, rfl, hb, hc⟩⟩ hlen

theorem end_ok (B g : Nat) (bs : List Int) (w : World) (hO : IsOut B w g bs 0) :
    Calls Try.prog 21 #[.pointer (some ⟨g, 0, none⟩)] w fun r w' => r = .returned (.tuple #[.string (strOfNums bs), .int .i64 0]) ∧ w = w' := by
  obtain ⟨v, hh, ho⟩ := hO
  have c0 : w.cell? ⟨g, 0, none⟩ = some v := (blk_cell hh 0).trans rfl
  have c1 : w.cell? ⟨g, 1, none⟩ = some (.int .i64 0) := (blk_cell hh 1).trans rfl
  have hn := eql_out ⟨g, 0, none⟩
  have hcv := own_string (P := Try.prog) (src := 30) (dst := 9) Try.underlying30 Try.underlying5 Try.underlying9 ho
  clear hh ho
  go_enter Try.func21, Try.ntmps21
  go_wp2
  go_ret2
  exact ⟨rfl, rfl⟩
theorem end_err (B g : Nat) (bs : List Int) (e : Int) (he : e ≠ 0) (w : World) (hO : IsOut B w g bs e) :
    Calls Try.prog 21 #[.pointer (some ⟨g, 0, none⟩)] w fun r w' => r = .returned (.tuple #[.string ByteArray.empty, .int .i64 e]) ∧ ∃ n, w.drewN n = w' := by
  obtain ⟨v, hh, ho⟩ := hO
  have c1 : w.cell? ⟨g, 1, none⟩ = some (.int .i64 e) := (blk_cell hh 1).trans rfl
  have hn := eql_out ⟨g, 0, none⟩
  have he' : (e != 0) = true := by simpa using he
  clear hh ho he
  go_enter Try.func21, Try.ntmps21
  go_wp2
  go_quiet (fail)
  go_wp2
  go_ret2
  exact ⟨rfl, _, rfl⟩
end Go.Proofs.Ytheieigeipppnaa.Obj
