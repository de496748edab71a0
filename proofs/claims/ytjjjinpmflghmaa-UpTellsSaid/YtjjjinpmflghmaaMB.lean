/- Out, Out2, Clone, In, InNum, CodP, InByte, in one text. Conditions: those in each theorem. -/
import Derived.Test.YtjjjinpmflghmaaMA
import Derived.Lib.Strings
import Derived.Lib.Walk
import Derived.Lib.BufferWrite
import Derived.Lib.UnsafeStr
import Derived.Laws.MakeOwn
namespace Go.Proofs.Ytjjjinpmflghmaa.Obj
open Go.RowKit Go.Proofs.YtjjjinpmflghmaaW.PrintWords Go.Proofs.YtjjjinpmflghmaaW.PrintMore

theorem eql_out (a : Addr) (w : World) : Sem.run Try.prog (binOp .eql 109 (.pointer (some a)) (.pointer none)) w = .ok (.bool false) w := by kernel_rfl

theorem fine_ok (g : Nat) (v : Value) (w : World) (h : w.heap[g]? = some (.cells #[v, .int .i64 0] 112 (0, 0))) :
    Calls Try.prog 106 #[.pointer (some ⟨g, 0, none⟩), .bool false] w fun e w' => e = .returned (.bool true) ∧ w = w' := by
  have c1 := (blk_cell h 1).trans rfl
  have hn := eql_out ⟨g, 0, none⟩
  clear h
  go_enter Try.func106, Try.ntmps106
  go_wp2
  go_ret
  exact ⟨rfl, rfl⟩
theorem fine_bad (g : Nat) (v : Value) (w : World) (h : w.heap[g]? = some (.cells #[v, .int .i64 0] 112 (0, 0))) :
    Calls Try.prog 106 #[.pointer (some ⟨g, 0, none⟩), .bool true] w fun e w' => e = .returned (.bool false) ∧ w.setCell ⟨g, 1, none⟩ (.int .i64 1) = w' := by
  have c1 := (blk_cell h 1).trans rfl
  have f1 := blk_frozen h 1
  have hn := eql_out ⟨g, 0, none⟩
  clear h
  go_enter Try.func106, Try.ntmps106
  go_wp2
  go_ret
  exact ⟨rfl, rfl⟩
theorem fine_err (g : Nat) (v : Value) (k : Int) (b : Bool) (hk : k ≠ 0) (w : World) (h : w.heap[g]? = some (.cells #[v, .int .i64 k] 112 (0, 0))) :
    Calls Try.prog 106 #[.pointer (some ⟨g, 0, none⟩), .bool b] w fun e w' => e = .returned (.bool false) ∧ w = w' := by
  have c1 := (blk_cell h 1).trans rfl
  have hn := eql_out ⟨g, 0, none⟩
  have hk' : (k != 0) = true := by simpa using hk
  clear h hk
  go_enter Try.func106, Try.ntmps106
  go_wp2
  go_ret
  exact ⟨rfl, rfl⟩

/-- A writer at block g: what it laid, and its error. -/
def IsOut (B : Nat) (w : World) (g : Nat) (bs : List Int) (e : Int) : Prop :=
  ∃ v, w.heap[g]? = some (.cells #[v, .int .i64 e] 112 (0, 0)) ∧ w.ownsRow B 5 1 v bs.length (nums .u8 bs)
theorem IsOut.below {B g : Nat} {w w' : World} {bs : List Int} {e : Int} (h : IsOut B w g bs e) (hb : Below w.heap.size w w') : IsOut B w' g bs e := by
  obtain ⟨v, hh, ho⟩ := h
  exact ⟨v, (hb.block g (blk_lt hh)).trans hh, pw_own_below ho hb⟩
theorem IsOut.alloc {B g : Nat} {w : World} {bs : List Int} {e : Int} (h : IsOut B w g bs e) (o : Obj) : IsOut B (w.alloc o) g bs e := h.below (below_alloc (Below.refl _ _) o)
theorem IsOut.bad {B g : Nat} {w : World} {bs : List Int} {e : Int} (h : IsOut B w g bs e) : IsOut B (w.setCell ⟨g, 1, none⟩ (.int .i64 1)) g bs 1 := by
  obtain ⟨v, hh, ho⟩ := h
  refine ⟨v, (blk_set hh 1 _).trans rfl, own_setCell ho ?_ _⟩
  exact own_ne ho hh (by decide)
theorem IsOut.new {B : Nat} (w : World) : IsOut B (w.alloc (.cells #[.slice none 0 0, .int .i64 0] 112)) w.heap.size [] 0 :=
  ⟨_, heap_alloc_new w _, own_nil _ _ _ _⟩
/-- What stands behind 'o.b = append(o.b, ..)'. -/
theorem IsOut.put {B g : Nat} {w w1 : World} {bs new : List Int} {e : Int} {v v1 : Value} {n : Nat} (hh : w.heap[g]? = some (.cells #[v, .int .i64 e] 112 (0, 0))) (ho : w.ownsRow B 5 1 v bs.length (nums .u8 bs))
    (h1 : w1.ownsRow B 5 1 v1 n (nums .u8 (bs ++ new))) (hg : w.grownBy w1 v.ownBlock) :
    w1.cell? ⟨g, 0, none⟩ = some v ∧ w1.frozen? ⟨g, 0, none⟩ = false ∧ IsOut B (w1.setCell ⟨g, 0, none⟩ v1) g (bs ++ new) e ∧ Fr B g w (w1.setCell ⟨g, 0, none⟩ v1) := by
  have hne : some g ≠ v.ownBlock := own_ne ho hh (by decide)
  have hh1 : w1.heap[g]? = some (.cells #[v, .int .i64 e] 112 (0, 0)) := blk_grown hh hg hne
  have hn : (bs ++ new).length = n := by have := h1.1; simpa [nums] using this
  refine ⟨(blk_cell hh1 0).trans rfl, blk_frozen hh1 0, ⟨v1, (blk_set hh1 0 _).trans rfl, ?_⟩, (Fr.grown ho hg).trans (Fr.set _ _ _ _ _)⟩
  rw [hn]
  exact own_setCell h1 (own_ne h1 hh1 (by decide)) _

section
variable {P : Program} {ops : Array Oper} {rest : List Oper} {o : Oper} {a : Act} {Q : Exit → Act → World → Prop}
/-- 'o.b = append(o.b, y)', up to the store. -/
theorem out_append {W : World} {B g : Nat} {bs : List Int} {e : Int} {v : Value} (hgd : o.guard = none) (s x : Operand) (ho : o.op = .call { callee := .builtin .append, args := #[s, x], argTypes := #[110, 110] })
    (ht : P.underlying 110 = some (.slice 5)) (hinfo : (P.info? 5).map (fun i => (i.zero, i.size, i.bytes)) = some (some (.int .u8 0), 1, 1)) (y : Int)
    (hs : a.eval s = v) (hx : a.eval x = .slice (some ⟨W.heap.size, 0, none⟩) 1 1)
    (hh : W.heap[g]? = some (.cells #[v, .int .i64 e] 112 (0, 0))) (hown : W.ownsRow B 5 1 v bs.length (nums .u8 bs)) (hB : B ≤ W.heap.size) (hl : bs.length + 1 ≤ 140737488355328)
    (h : ∀ A1 c1 w1, w1.cell? ⟨g, 0, none⟩ = some v → w1.frozen? ⟨g, 0, none⟩ = false → Aside0 (IsOut B (w1.setCell ⟨g, 0, none⟩ (.slice A1 (bs.length + 1) c1)) g (bs ++ [y]) e ∧ Fr B g W (w1.setCell ⟨g, 0, none⟩ (.slice A1 (bs.length + 1) c1))) → wpList P ops Q rest (a.put o.dst (.slice A1 (bs.length + 1) c1)) w1) :
    wpList P ops Q (o :: rest) a (W.alloc (.cells #[.int .u8 y] 5)) := by
  refine print_append_num (w0 := W) B hgd s x 110 5 .u8 1 ho ht hinfo (by decide) v bs y hs hx hown (Below.refl _ _) hB (by omega) ?_
  intro v1 w1 ho1 _ hg1 _
  have hlen : (bs ++ [y]).length = bs.length + 1 := by simp
  rw [hlen] at ho1
  obtain ⟨A1, c1, rfl⟩ := own_slice ho1
  have hp := IsOut.put hh hown ho1 hg1
  exact h A1 c1 w1 hp.1 hp.2.1 ⟨hp.2.2⟩
/-- 'o.b = append(o.b, s...)', up to the store. -/
theorem out_append_str {W : World} {B g : Nat} {bs : List Int} {e : Int} {v : Value} (hgd : o.guard = none) (s x : Operand) (ho : o.op = .call { callee := .builtin .append, args := #[s, x], argTypes := #[110, 9] })
    (ht : P.underlying 110 = some (.slice 5)) (hu : P.underlying 9 = some .string) (hinfo : (P.info? 5).map (fun i => (i.zero, i.size, i.bytes)) = some (some (.int .u8 0), 1, 1)) (y : ByteArray)
    (hs : a.eval s = v) (hx : a.eval x = .string y)
    (hh : W.heap[g]? = some (.cells #[v, .int .i64 e] 112 (0, 0))) (hown : W.ownsRow B 5 1 v bs.length (nums .u8 bs)) (hB : B ≤ W.heap.size) (hl : bs.length + y.size ≤ 140737488355328)
    (h : ∀ A1 c1 w1, w1.cell? ⟨g, 0, none⟩ = some v → w1.frozen? ⟨g, 0, none⟩ = false → Aside0 (IsOut B (w1.setCell ⟨g, 0, none⟩ (.slice A1 (bs.length + y.size) c1)) g (bs ++ bytesOf y) e ∧ Fr B g W (w1.setCell ⟨g, 0, none⟩ (.slice A1 (bs.length + y.size) c1))) → wpList P ops Q rest (a.put o.dst (.slice A1 (bs.length + y.size) c1)) w1) :
    wpList P ops Q (o :: rest) a W := by
  obtain ⟨i0, hi, hzz⟩ := Option.map_eq_some_iff.1 hinfo
  simp only [Prod.mk.injEq] at hzz
  obtain ⟨hz0, hz1, hz2⟩ := hzz
  refine Lib.wpList_append_own_string W hgd s x 110 9 ho B 5 i0 ht hu hi hz0 hz1 hz2 v bs.length (nums .u8 bs) hs hown y hx (by simp only [maxLen]; omega) hl hB ?_
  intro v1 w1 ho1 hg1 _
  have hc : nums .u8 bs ++ Lib.strCells y = nums .u8 (bs ++ bytesOf y) := by
    rw [nums_append]
    congr 1
    simp [nums, bytesOf, Lib.strCells]
  rw [hc] at ho1
  obtain ⟨A1, c1, rfl⟩ := own_slice ho1
  have hp := IsOut.put hh hown ho1 hg1
  exact h A1 c1 w1 hp.1 hp.2.1 ⟨hp.2.2⟩
end

/-- The bytes of a number. -/
def numB (v : Nat) : List Int := if v < 128 then [(v : Int)] else ((v % 128 + 128 : Nat) : Int) :: numB (v / 128)
termination_by v
decreasing_by omega
theorem numB_small {v : Nat} (h : v < 128) : numB v = [(v : Int)] := by rw [numB, if_pos h]
theorem numB_great {v : Nat} (h : ¬ v < 128) : numB v = ((v % 128 + 128 : Nat) : Int) :: numB (v / 128) := by rw [numB, if_neg h]
theorem or128 (u : Nat) : Go.bits .or .u8 ((u : Int) % 256) 128 = ((u % 128 + 128 : Nat) : Int) := by
  have h : ∀ m, m < 256 → Go.bits .or .u8 ((m : Nat) : Int) 128 = ((m % 128 + 128 : Nat) : Int) := by decide +kernel
  have h2 := h (u % 256) (by omega)
  rw [show u % 256 % 128 = u % 128 by omega] at h2
  rw [← h2]
  rfl
theorem numB_len (n : Nat) : ∀ v, v < 128 ^ n → (numB v).length ≤ max n 1 := by
  induction n with
  | zero => intro v h; rw [numB_small (by simp at h; omega)]; simp
  | succ n ih =>
    intro v h
    by_cases hv : v < 128
    · rw [numB_small hv]; simp
    · rw [numB_great hv]
      have := ih (v / 128) (by rw [Nat.pow_succ] at h; omega)
      cases n with
      | zero => omega
      | succ n => simp; omega
theorem numB_len9 {v : Nat} (h : v < 9223372036854775808) : (numB v).length ≤ 9 := by
  have := numB_len 9 v (by have : 128 ^ 9 = 9223372036854775808 := by decide
                           omega)
  omega
/-- Num, from a state on. -/
def oNum : List Int × Int → List Int → List Int × Int
  | s, [] => s
  | (bs, e), x :: xs => if e ≠ 0 then (bs, e) else if x < 0 then (bs, 1) else oNum (bs ++ numB x.toNat, 0) xs
theorem infoB : (Try.prog.info? 5).map (fun i => (i.zero, i.size, i.bytes)) = some (some (.int .u8 0), 1, 1) := by kernel_rfl

theorem IsOut.ne {B g : Nat} {w : World} {bs : List Int} {e : Int} (h : IsOut B w g bs e) {t : TypeId} (ht : t ≠ 112) (cs : Array Value) (fr : Nat × Nat) : w.heap[g]? ≠ some (.cells cs t fr) := by
  obtain ⟨v, hh, _⟩ := h
  rw [hh]
  intro he
  injection he with he
  injection he with _ he
  exact ht he.symm
theorem oNum_err {bs : List Int} {e : Int} (he : e ≠ 0) (xs : List Int) : oNum (bs, e) xs = (bs, e) := by
  cases xs with
  | nil => rfl
  | cons x xs => simp [oNum, he]
theorem drop_at {α : Type} {l : List α} {k : Nat} {x : α} (h : l[k]? = some x) : l.drop k = x :: l.drop (k + 1) := by
  obtain ⟨hk, rfl⟩ := List.getElem?_eq_some_iff.1 h
  exact List.drop_eq_getElem_cons hk

set_option maxHeartbeats 4000000 in
set_option maxRecDepth 100000 in
theorem num_calls' (B g b off : Nat) (bs : List Int) (e : Int) (cap : Nat) (xs : List Int) (w : World) (hO : IsOut B w g bs e) (hB : B ≤ w.heap.size) (hx : RowAt w (some ⟨b, off, none⟩) 3 (nums .i64 xs))
    (hlen : bs.length + 9 * xs.length ≤ 1000000000000) (hwx : ∀ x ∈ xs, x ≤ 9223372036854775807) :
    Calls Try.prog 55 #[.pointer (some ⟨g, 0, none⟩), .slice (some ⟨b, off, none⟩) xs.length cap] w fun r w' => r = .returned (.pointer (some ⟨g, 0, none⟩)) ∧ IsOut B w' g (oNum (bs, e) xs).1 (oNum (bs, e) xs).2 ∧ Fr B g w w' := by
  have HO := Aside0.mk hO
  have HX := Aside0.mk hx
  have HW := Aside0.mk hwx
  have hxl : xs.length ≤ 9223372036854775807 := by have := hx.1; simpa [nums, maxLen] using this
  clear hO hx hwx
  go_enter Try.func55, Try.ntmps55
  go_wp2
  go_loopg [9] xs.length (fun kq v9 wr => ∃ (k : Nat) (bk : List Int) (ek : Int), v9 = .int .i64 k ∧ Aside0 (k ≤ xs.length ∧ kq = xs.length - k) ∧ Aside0 (IsOut B wr g bk ek ∧ Fr B g w wr ∧ oNum (bk, ek) (xs.drop k) = oNum (bs, e) xs ∧ bk.length + 9 * (xs.length - k) ≤ 1000000000000))
  case atStart => exact ⟨0, bs, e, rfl, ⟨Nat.zero_le _, rfl⟩, ⟨HO.out, Fr.refl _ _ _, by simp, by omega⟩⟩
  case round =>
    obtain ⟨k, bk, ek, rfl, ⟨hk, hkq⟩, ⟨hO, hF, hS, hL⟩⟩ := hrel
    obtain ⟨wo, rfl⟩ : ∃ wo : World, wo = wr := ⟨_, rfl⟩
    obtain ⟨ko, rfl⟩ : ∃ ko : Nat, ko = gk := ⟨_, rfl⟩
    have HS := Aside0.mk hS
    have HQ := Aside0.mk hkq
    clear hS hkq
    by_cases hlt : k < xs.length
    · obtain ⟨x, hxk⟩ : ∃ x, xs[k]? = some x := ⟨xs[k], by simp [hlt]⟩
      obtain ⟨b', off', hA, hc⟩ := (HX.out.frame hF (by decide) (fun cs fr => HO.out.ne (by decide) cs fr)).at_ k (.int .i64 x) (by simp [nums, hxk])
      obtain ⟨rfl, rfl⟩ : b = b' ∧ off = off' := by simpa using hA
      clear hA
      have hx63 := HW.out x (List.mem_of_getElem? hxk)
      have HK := Aside0.mk hxk
      clear hxk
      obtain ⟨v, hh, ho⟩ := id hO
      have HO1 := Aside0.mk hO
      have HF := Aside0.mk hF
      have HR := Aside0.mk ho
      clear hO hF ho
      by_cases hek : ek = 0
      · subst hek
        by_cases hx0 : x < 0
        · go_wp2_with (go_at_call 106; refine (fine_bad g v _ hh).mono ?_; rintro e1 w1 ⟨rfl, rfl⟩)
          go_ret
          have hs := HS.out
          rw [drop_at HK.out] at hs
          simp only [oNum, hx0] at hs
          rw [← hs]
          exact ⟨rfl, HO1.out.bad, HF.out.trans (Fr.set _ _ _ _ _)⟩
        · obtain ⟨n, rfl⟩ := Int.eq_ofNat_of_zero_le (show 0 ≤ x by omega)
          go_wp2_with (go_at_call 106; refine (fine_ok g v _ hh).mono ?_; rintro e1 w1 ⟨rfl, rfl⟩)
          go_loopg [6] n (fun kq v6 w2 => ∃ (u : Nat) (dn : List Int), v6 = .int .i64 u ∧ Aside0 (kq = u ∧ u ≤ n) ∧ Aside0 (IsOut B w2 g (bk ++ dn) 0 ∧ Fr B g wo w2 ∧ dn ++ numB u = numB n))
          case atStart => exact ⟨n, [], rfl, ⟨rfl, Nat.le_refl _⟩, ⟨by simpa using HO1.out, Fr.refl _ _ _, rfl⟩⟩
          case round =>
            obtain ⟨u, dn, rfl, ⟨hku, hun⟩, ⟨hO2, hF2, hdn⟩⟩ := hrel
            obtain ⟨v2, hh2, ho2⟩ := id hO2
            have hc2 : wr.cell? ⟨g, 0, none⟩ = some v2 := (blk_cell hh2 0).trans rfl
            have HU := Aside0.mk hku
            have HF2 := Aside0.mk hF2
            have HD := Aside0.mk hdn
            have hsz := hF2.size
            have hsz1 := HF.out.size
            have h9 := numB_len9 (v := n) (by omega)
            have hdl : dn.length + (numB u).length ≤ 9 := by rw [← List.length_append, hdn]; exact h9
            clear hku hF2 hdn hO2 h9
            by_cases h128 : u < 128
            · have hpos : (numB u).length = 1 := by rw [numB_small h128]; rfl
              go_wp2_with (first | (at_builtin; refine out_append rfl (.tmp 39) (.tmp 42) rfl Try.underlying110 infoB _ rfl rfl hh2 ho2 (by omega) (by simp; omega) ?_; intro A3 c3 w3 hc3 hf3 H3))
              go_roundg (ko - 1)
              case measure => have := HQ.out; omega
              case rel =>
                refine ⟨k + 1, bk ++ numB n, 0, by go_num, ⟨by omega, by have := HQ.out; omega⟩, ⟨?_, ?_, ?_, ?_⟩⟩
                · have hd := HD.out
                  rw [numB_small h128] at hd
                  rw [← hd, ← List.append_assoc]
                  have h3 := H3.out.1
                  rw [List.length_append] at h3
                  exact h3
                · have h3 := H3.out.2
                  rw [List.length_append] at h3
                  exact (HF.out.trans HF2.out).trans h3
                · have hs := HS.out
                  rw [drop_at HK.out] at hs
                  rw [← hs, oNum, if_neg (by simp), if_neg (by omega), Int.toNat_natCast]
                · have := numB_len9 (v := n) (by omega)
                  simp; omega
            · have hpos := numB_great h128
              go_wp2_with (first | (at_builtin; refine out_append rfl (.tmp 25) (.tmp 29) rfl Try.underlying110 infoB _ rfl rfl hh2 ho2 (by omega) (by simp; omega) ?_; intro A3 c3 w3 hc3 hf3 H3))
              go_roundg (u / 128)
              case measure => have := HU.out; omega
              case rel =>
                refine ⟨u / 128, dn ++ [((u % 128 + 128 : Nat) : Int)], by go_num, ⟨rfl, by omega⟩, ⟨?_, ?_, ?_⟩⟩
                · have h3 := H3.out.1
                  rw [List.length_append, or128, List.append_assoc] at h3
                  exact h3
                · have h3 := H3.out.2
                  rw [List.length_append] at h3
                  exact HF2.out.trans h3
                · rw [List.append_assoc, ← HD.out, hpos]; rfl
      · go_wp2_with (go_at_call 106; refine (fine_err g v ek _ hek _ hh).mono ?_; rintro e1 w1 ⟨rfl, rfl⟩)
        go_ret
        have hs := HS.out
        rw [oNum_err hek] at hs
        rw [← hs]
        exact ⟨rfl, HO1.out, HF.out⟩
    · go_wp2
      go_ret
      have hs := HS.out
      rw [List.drop_of_length_le (by omega)] at hs
      simp only [oNum] at hs
      rw [← hs]
      exact ⟨rfl, hO, hF⟩
theorem num_calls0 (B g : Nat) (bs : List Int) (e : Int) (A : Option Addr) (cap : Nat) (w : World) (hO : IsOut B w g bs e) :
    Calls Try.prog 55 #[.pointer (some ⟨g, 0, none⟩), .slice A 0 cap] w fun r w' => r = .returned (.pointer (some ⟨g, 0, none⟩)) ∧ IsOut B w' g bs e ∧ Fr B g w w' := by
  have HO := Aside0.mk hO
  clear hO
  go_enter Try.func55, Try.ntmps55
  go_wp2
  refine wp_loop_rounds 1 ?_
  rw [rounds_succ]
  go_wp2
  go_ret
  exact ⟨rfl, HO.out, Fr.refl _ _ _⟩
theorem num_calls (B g : Nat) (bs : List Int) (e : Int) (A : Option Addr) (cap : Nat) (xs : List Int) (w : World) (hO : IsOut B w g bs e) (hB : B ≤ w.heap.size) (hx : RowAt w A 3 (nums .i64 xs))
    (hlen : bs.length + 9 * xs.length ≤ 1000000000000) (hwx : ∀ x ∈ xs, x ≤ 9223372036854775807) :
    Calls Try.prog 55 #[.pointer (some ⟨g, 0, none⟩), .slice A xs.length cap] w fun r w' => r = .returned (.pointer (some ⟨g, 0, none⟩)) ∧ IsOut B w' g (oNum (bs, e) xs).1 (oNum (bs, e) xs).2 ∧ Fr B g w w' := by
  rcases hx.2 with h | ⟨b, off, cs, fr, rfl, hb, hc⟩
  · obtain rfl : xs = [] := by simpa [nums] using h
    exact num_calls0 B g bs e A cap w hO
  · exact num_calls' B g b off bs e cap xs w hO hB ⟨hx.1, .inr ⟨b, off, cs, fr, rfl, hb, hc⟩⟩ hlen hwx

/-- Byte, from a state on. -/
def oByte : List Int × Int → List Int → List Int × Int
  | s, [] => s
  | (bs, e), x :: xs => if e ≠ 0 then (bs, e) else if x < 0 ∨ 255 < x then (bs, 1) else oByte (bs ++ [x], 0) xs
theorem oByte_err {bs : List Int} {e : Int} (he : e ≠ 0) (xs : List Int) : oByte (bs, e) xs = (bs, e) := by
  cases xs with
  | nil => rfl
  | cons x xs => simp [oByte, he]
set_option maxHeartbeats 4000000 in
set_option maxRecDepth 100000 in
theorem byte_calls' (B g b off : Nat) (bs : List Int) (e : Int) (cap : Nat) (xs : List Int) (w : World) (hO : IsOut B w g bs e) (hB : B ≤ w.heap.size) (hx : RowAt w (some ⟨b, off, none⟩) 3 (nums .i64 xs))
    (hlen : bs.length + xs.length ≤ 1000000000000) :
    Calls Try.prog 125 #[.pointer (some ⟨g, 0, none⟩), .slice (some ⟨b, off, none⟩) xs.length cap] w fun r w' => r = .returned (.pointer (some ⟨g, 0, none⟩)) ∧ IsOut B w' g (oByte (bs, e) xs).1 (oByte (bs, e) xs).2 ∧ Fr B g w w' := by
  have HO := Aside0.mk hO
  have HX := Aside0.mk hx
  have hxl : xs.length ≤ 9223372036854775807 := by have := hx.1; simpa [nums, maxLen] using this
  clear hO hx
  go_enter Try.func125, Try.ntmps125
  go_wp2
  go_loopg [9] xs.length (fun kq v9 wr => ∃ (k : Nat) (bk : List Int) (ek : Int), v9 = .int .i64 k ∧ Aside0 (k ≤ xs.length ∧ kq = xs.length - k) ∧ Aside0 (IsOut B wr g bk ek ∧ Fr B g w wr ∧ oByte (bk, ek) (xs.drop k) = oByte (bs, e) xs ∧ bk.length + (xs.length - k) ≤ 1000000000000))
  case atStart => exact ⟨0, bs, e, rfl, ⟨Nat.zero_le _, rfl⟩, ⟨HO.out, Fr.refl _ _ _, by simp, by omega⟩⟩
  case round =>
    obtain ⟨k, bk, ek, rfl, ⟨hk, hkq⟩, ⟨hO, hF, hS, hL⟩⟩ := hrel
    obtain ⟨ko, rfl⟩ : ∃ ko : Nat, ko = gk := ⟨_, rfl⟩
    have HS := Aside0.mk hS
    have HQ := Aside0.mk hkq
    clear hS hkq
    by_cases hlt : k < xs.length
    · obtain ⟨x, hxk⟩ : ∃ x, xs[k]? = some x := ⟨xs[k], by simp [hlt]⟩
      obtain ⟨b', off', hA, hc⟩ := (HX.out.frame hF (by decide) (fun cs fr => HO.out.ne (by decide) cs fr)).at_ k (.int .i64 x) (by simp [nums, hxk])
      obtain ⟨rfl, rfl⟩ : b = b' ∧ off = off' := by simpa using hA
      clear hA
      have HK := Aside0.mk hxk
      clear hxk
      obtain ⟨v, hh, ho⟩ := id hO
      have hc2 : wr.cell? ⟨g, 0, none⟩ = some v := (blk_cell hh 0).trans rfl
      have hsz := hF.size
      have HO1 := Aside0.mk hO
      have HF := Aside0.mk hF
      clear hO hF
      by_cases hek : ek = 0
      · subst hek
        by_cases hx0 : x < 0
        · go_wp2_with (go_at_call 106; refine (fine_bad g v _ hh).mono ?_; rintro e1 w1 ⟨rfl, rfl⟩)
          go_ret
          have hs := HS.out
          rw [drop_at HK.out, oByte, if_neg (by simp), if_pos (.inl hx0)] at hs
          rw [← hs]
          exact ⟨rfl, HO1.out.bad, HF.out.trans (Fr.set _ _ _ _ _)⟩
        · by_cases hx1 : 255 < x
          · go_wp2_with (go_at_call 106; refine (fine_bad g v _ hh).mono ?_; rintro e1 w1 ⟨rfl, rfl⟩)
            go_ret
            have hs := HS.out
            rw [drop_at HK.out, oByte, if_neg (by simp), if_pos (.inr hx1)] at hs
            rw [← hs]
            exact ⟨rfl, HO1.out.bad, HF.out.trans (Fr.set _ _ _ _ _)⟩
          · obtain ⟨n, rfl⟩ := Int.eq_ofNat_of_zero_le (show 0 ≤ x by omega)
            go_wp2_with (first | (go_at_call 106; refine (fine_ok g v _ hh).mono ?_; rintro e1 w1 ⟨rfl, rfl⟩) | (at_builtin; refine out_append rfl (.tmp 27) (.tmp 30) rfl Try.underlying110 infoB _ rfl rfl hh ho (by omega) (by omega) ?_; intro A3 c3 w3 hc3 hf3 H3))
            go_roundg (ko - 1)
            case measure => have := HQ.out; omega
            case rel =>
              have hs := HS.out
              rw [drop_at HK.out, oByte, if_neg (by simp), if_neg (by omega)] at hs
              exact ⟨k + 1, bk ++ [(n : Int)], 0, by go_num, ⟨by omega, by have := HQ.out; omega⟩, ⟨H3.out.1, HF.out.trans H3.out.2, hs, by simp; omega⟩⟩
      · go_wp2_with (go_at_call 106; refine (fine_err g v ek _ hek _ hh).mono ?_; rintro e1 w1 ⟨rfl, rfl⟩)
        all_goals
          go_ret
          have hs := HS.out
          rw [oByte_err hek] at hs
          rw [← hs]
          exact ⟨rfl, HO1.out, HF.out⟩
    · go_wp2
      go_ret
      have hs := HS.out
      rw [List.drop_of_length_le (by omega)] at hs
      simp only [oByte] at hs
      rw [← hs]
      exact ⟨rfl, hO, hF⟩
theorem byte_calls (B g : Nat) (bs : List Int) (e : Int) (A : Option Addr) (cap : Nat) (xs : List Int) (w : World) (hO : IsOut B w g bs e) (hB : B ≤ w.heap.size) (hx : RowAt w A 3 (nums .i64 xs)) (hne : xs ≠ [])
    (hlen : bs.length + xs.length ≤ 1000000000000) :
    Calls Try.prog 125 #[.pointer (some ⟨g, 0, none⟩), .slice A xs.length cap] w fun r w' => r = .returned (.pointer (some ⟨g, 0, none⟩)) ∧ IsOut B w' g (oByte (bs, e) xs).1 (oByte (bs, e) xs).2 ∧ Fr B g w w' := by
  rcases hx.2 with h | ⟨b, off, cs, fr, rfl, hb, hc⟩
  · exact absurd (by simpa [nums] using h) hne
  · exact byte_calls' B g b off bs e cap xs w hO hB ⟨hx.1, .inr ⟨b, off, cs, fr, rfl, hb, hc⟩⟩ hlen

/-- How many bytes texts have. -/
def sumS (ss : List ByteArray) : Nat := (ss.map ByteArray.size).sum
/-- Raw, from a state on. -/
def oRaw : List Int × Int → List ByteArray → List Int × Int
  | s, [] => s
  | (bs, e), x :: xs => if e ≠ 0 then (bs, e) else oRaw (bs ++ bytesOf x, 0) xs
theorem oRaw_err {bs : List Int} {e : Int} (he : e ≠ 0) (xs : List ByteArray) : oRaw (bs, e) xs = (bs, e) := by
  cases xs with
  | nil => rfl
  | cons x xs => simp [oRaw, he]
set_option maxHeartbeats 4000000 in
set_option maxRecDepth 100000 in
theorem raw_calls' (B g b off : Nat) (bs : List Int) (e : Int) (cap : Nat) (xs : List ByteArray) (w : World) (hO : IsOut B w g bs e) (hB : B ≤ w.heap.size) (hx : RowAt w (some ⟨b, off, none⟩) 9 (pw_strs xs))
    (hlen : bs.length + sumS xs ≤ 1000000000000) :
    Calls Try.prog 56 #[.pointer (some ⟨g, 0, none⟩), .slice (some ⟨b, off, none⟩) xs.length cap] w fun r w' => r = .returned (.pointer (some ⟨g, 0, none⟩)) ∧ IsOut B w' g (oRaw (bs, e) xs).1 (oRaw (bs, e) xs).2 ∧ Fr B g w w' := by
  have HO := Aside0.mk hO
  have HX := Aside0.mk hx
  have hxl : xs.length ≤ 9223372036854775807 := by have := hx.1; simpa [pw_strs, maxLen] using this
  clear hO hx
  go_enter Try.func56, Try.ntmps56
  go_wp2
  go_loopg [9] xs.length (fun kq v9 wr => ∃ (k : Nat) (bk : List Int) (ek : Int), v9 = .int .i64 k ∧ Aside0 (k ≤ xs.length ∧ kq = xs.length - k) ∧ Aside0 (IsOut B wr g bk ek ∧ Fr B g w wr ∧ oRaw (bk, ek) (xs.drop k) = oRaw (bs, e) xs ∧ bk.length + sumS (xs.drop k) ≤ 1000000000000))
  case atStart => exact ⟨0, bs, e, rfl, ⟨Nat.zero_le _, rfl⟩, ⟨HO.out, Fr.refl _ _ _, by simp, by simpa using hlen⟩⟩
  case round =>
    obtain ⟨k, bk, ek, rfl, ⟨hk, hkq⟩, ⟨hO, hF, hS, hL⟩⟩ := hrel
    obtain ⟨ko, rfl⟩ : ∃ ko : Nat, ko = gk := ⟨_, rfl⟩
    have HS := Aside0.mk hS
    have HQ := Aside0.mk hkq
    clear hS hkq
    by_cases hlt : k < xs.length
    · obtain ⟨x, hxk⟩ : ∃ x, xs[k]? = some x := ⟨xs[k], by simp [hlt]⟩
      obtain ⟨b', off', hA, hc⟩ := (HX.out.frame hF (by decide) (fun cs fr => HO.out.ne (by decide) cs fr)).at_ k (.string x) (by simp [pw_strs, hxk])
      obtain ⟨rfl, rfl⟩ : b = b' ∧ off = off' := by simpa using hA
      clear hA
      have hL2 : bk.length + (x.size + sumS (xs.drop (k + 1))) ≤ 1000000000000 := by rw [drop_at hxk] at hL; simpa [sumS] using hL
      have HK := Aside0.mk hxk
      clear hxk hL
      obtain ⟨v, hh, ho⟩ := id hO
      have hc2 : wr.cell? ⟨g, 0, none⟩ = some v := (blk_cell hh 0).trans rfl
      have hsz := hF.size
      have HO1 := Aside0.mk hO
      have HF := Aside0.mk hF
      clear hO hF
      by_cases hek : ek = 0
      · subst hek
        go_wp2_with (first | (go_at_call 106; refine (fine_ok g v _ hh).mono ?_; rintro e1 w1 ⟨rfl, rfl⟩) | (at_builtin; refine out_append_str rfl (.tmp 21) (.tmp 22) rfl Try.underlying110 Try.underlying9 infoB _ rfl rfl hh ho (by omega) (by omega) ?_; intro A3 c3 w3 hc3 hf3 H3))
        go_roundg (ko - 1)
        case measure => have := HQ.out; omega
        case rel =>
          have hs := HS.out
          rw [drop_at HK.out, oRaw, if_neg (by simp)] at hs
          exact ⟨k + 1, bk ++ bytesOf x, 0, by go_num, ⟨by omega, by have := HQ.out; omega⟩, ⟨H3.out.1, HF.out.trans H3.out.2, hs, by rw [List.length_append, bytesOf_length]; omega⟩⟩
      · go_wp2_with (go_at_call 106; refine (fine_err g v ek _ hek _ hh).mono ?_; rintro e1 w1 ⟨rfl, rfl⟩)
        go_ret
        have hs := HS.out
        rw [oRaw_err hek] at hs
        rw [← hs]
        exact ⟨rfl, HO1.out, HF.out⟩
    · go_wp2
      go_ret
      have hs := HS.out
      rw [List.drop_of_length_le (by omega)] at hs
      simp only [oRaw] at hs
      rw [← hs]
      exact ⟨rfl, hO, hF⟩
theorem raw_calls0 (B g : Nat) (bs : List Int) (e : Int) (A : Option Addr) (cap : Nat) (w : World) (hO : IsOut B w g bs e) :
    Calls Try.prog 56 #[.pointer (some ⟨g, 0, none⟩), .slice A 0 cap] w fun r w' => r = .returned (.pointer (some ⟨g, 0, none⟩)) ∧ IsOut B w' g bs e ∧ Fr B g w w' := by
  have HO := Aside0.mk hO
  clear hO
  go_enter Try.func56, Try.ntmps56
  go_wp2
  refine wp_loop_rounds 1 ?_
  rw [rounds_succ]
  go_wp2
  go_ret
  exact ⟨rfl, HO.out, Fr.refl _ _ _⟩
theorem raw_calls (B g : Nat) (bs : List Int) (e : Int) (A : Option Addr) (cap : Nat) (xs : List ByteArray) (w : World) (hO : IsOut B w g bs e) (hB : B ≤ w.heap.size) (hx : RowAt w A 9 (pw_strs xs))
    (hlen : bs.length + sumS xs ≤ 1000000000000) :
    Calls Try.prog 56 #[.pointer (some ⟨g, 0, none⟩), .slice A xs.length cap] w fun r w' => r = .returned (.pointer (some ⟨g, 0, none⟩)) ∧ IsOut B w' g (oRaw (bs, e) xs).1 (oRaw (bs, e) xs).2 ∧ Fr B g w w' := by
  rcases hx.2 with h | ⟨b, off, cs, fr, rfl, hb, hc⟩
  · obtain rfl : xs = [] := by simpa [pw_strs] using h
    exact raw_calls0 B g bs e A cap w hO
  · exact raw_calls' B g b off bs e cap xs w hO hB ⟨hx.1, .inr ⟨b, off, cs, fr, rfl, hb, hc⟩⟩ hlen

theorem end_ok (B g : Nat) (bs : List Int) (w : World) (hO : IsOut B w g bs 0) :
    Calls Try.prog 57 #[.pointer (some ⟨g, 0, none⟩)] w fun r w' => r = .returned (.tuple #[.string (strOfNums bs), .int .i64 0]) ∧ w = w' := by
  obtain ⟨v, hh, ho⟩ := hO
  have c0 : w.cell? ⟨g, 0, none⟩ = some v := (blk_cell hh 0).trans rfl
  have c1 : w.cell? ⟨g, 1, none⟩ = some (.int .i64 0) := (blk_cell hh 1).trans rfl
  have hn := eql_out ⟨g, 0, none⟩
  have hcv := own_string (P := Try.prog) (src := 110) (dst := 9) Try.underlying110 Try.underlying5 Try.underlying9 ho
  clear hh ho
  go_enter Try.func57, Try.ntmps57
  go_wp2
  go_ret2
  exact ⟨rfl, rfl⟩
theorem end_err (B g : Nat) (bs : List Int) (e : Int) (he : e ≠ 0) (w : World) (hO : IsOut B w g bs e) :
    Calls Try.prog 57 #[.pointer (some ⟨g, 0, none⟩)] w fun r w' => r = .returned (.tuple #[.string ByteArray.empty, .int .i64 e]) ∧ ∃ n, w.drewN n = w' := by
  obtain ⟨v, hh, ho⟩ := hO
  have c1 : w.cell? ⟨g, 1, none⟩ = some (.int .i64 e) := (blk_cell hh 1).trans rfl
  have hn := eql_out ⟨g, 0, none⟩
  have he' : (e != 0) = true := by simpa using he
  clear hh ho he
  go_enter Try.func57, Try.ntmps57
  go_wp2
  go_quiet (fail)
  go_wp2
  go_ret2
  exact ⟨rfl, _, rfl⟩
end Go.Proofs.Ytjjjinpmflghmaa.Obj
namespace Go.Proofs.Ytjjjinpmflghmaa.Obj
open Go.RowKit Go.Proofs.YtjjjinpmflghmaaW.PrintWords Go.Proofs.YtjjjinpmflghmaaW.PrintMore

theorem num1 (B g p : Nat) (bs : List Int) (e x : Int) (w : World) (hp : p = w.heap.size) (hO : IsOut B w g bs e) (hB : B ≤ w.heap.size) (hlen : bs.length ≤ 900000000000) (hx : x ≤ 9223372036854775807) :
    Calls Try.prog 55 #[.pointer (some ⟨g, 0, none⟩), .slice (some ⟨p, 0, none⟩) 1 1] (w.alloc (.cells #[.int .i64 x] 3)) fun r w' => r = .returned (.pointer (some ⟨g, 0, none⟩)) ∧ IsOut B w' g (oNum (bs, e) [x]).1 (oNum (bs, e) [x]).2 ∧ Fr B g w w' := by
  subst hp
  refine (num_calls B g bs e (some ⟨w.heap.size, 0, none⟩) 1 [x] _ (hO.alloc _) (by simp; omega) (RowAt.lit w 3 [.int .i64 x] (by simp [maxLen])) (by simp; omega) (by simpa using hx)).mono ?_
  rintro r w' ⟨rfl, h1, h2⟩
  exact ⟨rfl, h1, (Fr.alloc _ _ _ _).trans h2⟩
theorem num2 (B g p : Nat) (bs : List Int) (e x y : Int) (w : World) (hp : p = w.heap.size) (hO : IsOut B w g bs e) (hB : B ≤ w.heap.size) (hlen : bs.length ≤ 900000000000) (hx : x ≤ 9223372036854775807) (hy : y ≤ 9223372036854775807) :
    Calls Try.prog 55 #[.pointer (some ⟨g, 0, none⟩), .slice (some ⟨p, 0, none⟩) 2 2] (w.alloc (.cells #[.int .i64 x, .int .i64 y] 3)) fun r w' => r = .returned (.pointer (some ⟨g, 0, none⟩)) ∧ IsOut B w' g (oNum (bs, e) [x, y]).1 (oNum (bs, e) [x, y]).2 ∧ Fr B g w w' := by
  subst hp
  refine (num_calls B g bs e (some ⟨w.heap.size, 0, none⟩) 2 [x, y] _ (hO.alloc _) (by simp; omega) (RowAt.lit w 3 [.int .i64 x, .int .i64 y] (by simp [maxLen])) (by simp; omega) (by simpa using ⟨hx, hy⟩)).mono ?_
  rintro r w' ⟨rfl, h1, h2⟩
  exact ⟨rfl, h1, (Fr.alloc _ _ _ _).trans h2⟩
theorem num3 (B g p : Nat) (bs : List Int) (e x y z : Int) (w : World) (hp : p = w.heap.size) (hO : IsOut B w g bs e) (hB : B ≤ w.heap.size) (hlen : bs.length ≤ 900000000000) (hx : x ≤ 9223372036854775807) (hy : y ≤ 9223372036854775807) (hz : z ≤ 9223372036854775807) :
    Calls Try.prog 55 #[.pointer (some ⟨g, 0, none⟩), .slice (some ⟨p, 0, none⟩) 3 3] (w.alloc (.cells #[.int .i64 x, .int .i64 y, .int .i64 z] 3)) fun r w' => r = .returned (.pointer (some ⟨g, 0, none⟩)) ∧ IsOut B w' g (oNum (bs, e) [x, y, z]).1 (oNum (bs, e) [x, y, z]).2 ∧ Fr B g w w' := by
  subst hp
  refine (num_calls B g bs e (some ⟨w.heap.size, 0, none⟩) 3 [x, y, z] _ (hO.alloc _) (by simp; omega) (RowAt.lit w 3 [.int .i64 x, .int .i64 y, .int .i64 z] (by simp [maxLen])) (by simp; omega) (by simpa using ⟨hx, hy, hz⟩)).mono ?_
  rintro r w' ⟨rfl, h1, h2⟩
  exact ⟨rfl, h1, (Fr.alloc _ _ _ _).trans h2⟩
theorem byte1 (B g p : Nat) (bs : List Int) (e x : Int) (w : World) (hp : p = w.heap.size) (hO : IsOut B w g bs e) (hB : B ≤ w.heap.size) (hlen : bs.length ≤ 900000000000) :
    Calls Try.prog 125 #[.pointer (some ⟨g, 0, none⟩), .slice (some ⟨p, 0, none⟩) 1 1] (w.alloc (.cells #[.int .i64 x] 3)) fun r w' => r = .returned (.pointer (some ⟨g, 0, none⟩)) ∧ IsOut B w' g (oByte (bs, e) [x]).1 (oByte (bs, e) [x]).2 ∧ Fr B g w w' := by
  subst hp
  refine (byte_calls B g bs e (some ⟨w.heap.size, 0, none⟩) 1 [x] _ (hO.alloc _) (by simp; omega) (RowAt.lit w 3 [.int .i64 x] (by simp [maxLen])) (by simp) (by simp; omega)).mono ?_
  rintro r w' ⟨rfl, h1, h2⟩
  exact ⟨rfl, h1, (Fr.alloc _ _ _ _).trans h2⟩
theorem byte3 (B g p : Nat) (bs : List Int) (e x y z : Int) (w : World) (hp : p = w.heap.size) (hO : IsOut B w g bs e) (hB : B ≤ w.heap.size) (hlen : bs.length ≤ 900000000000) :
    Calls Try.prog 125 #[.pointer (some ⟨g, 0, none⟩), .slice (some ⟨p, 0, none⟩) 3 3] (w.alloc (.cells #[.int .i64 x, .int .i64 y, .int .i64 z] 3)) fun r w' => r = .returned (.pointer (some ⟨g, 0, none⟩)) ∧ IsOut B w' g (oByte (bs, e) [x, y, z]).1 (oByte (bs, e) [x, y, z]).2 ∧ Fr B g w w' := by
  subst hp
  refine (byte_calls B g bs e (some ⟨w.heap.size, 0, none⟩) 3 [x, y, z] _ (hO.alloc _) (by simp; omega) (RowAt.lit w 3 [.int .i64 x, .int .i64 y, .int .i64 z] (by simp [maxLen])) (by simp) (by simp; omega)).mono ?_
  rintro r w' ⟨rfl, h1, h2⟩
  exact ⟨rfl, h1, (Fr.alloc _ _ _ _).trans h2⟩
theorem raw1 (B g p : Nat) (bs : List Int) (e : Int) (x : ByteArray) (w : World) (hp : p = w.heap.size) (hO : IsOut B w g bs e) (hB : B ≤ w.heap.size) (hlen : bs.length + x.size ≤ 1000000000000) :
    Calls Try.prog 56 #[.pointer (some ⟨g, 0, none⟩), .slice (some ⟨p, 0, none⟩) 1 1] (w.alloc (.cells #[.string x] 9)) fun r w' => r = .returned (.pointer (some ⟨g, 0, none⟩)) ∧ IsOut B w' g (oRaw (bs, e) [x]).1 (oRaw (bs, e) [x]).2 ∧ Fr B g w w' := by
  subst hp
  refine (raw_calls B g bs e (some ⟨w.heap.size, 0, none⟩) 1 [x] _ (hO.alloc _) (by simp; omega) (RowAt.lit w 9 [.string x] (by simp [maxLen])) (by simpa [sumS] using hlen)).mono ?_
  rintro r w' ⟨rfl, h1, h2⟩
  exact ⟨rfl, h1, (Fr.alloc _ _ _ _).trans h2⟩

/-- Text, from a state on. -/
def oText : List Int × Int → List ByteArray → List Int × Int
  | s, [] => s
  | s, x :: xs => oText (oRaw (oNum s [(x.size : Int)]) [x]) xs
theorem oNum_len1 (bs : List Int) (e : Int) (x : Int) (hx : x ≤ 9223372036854775807) : (oNum (bs, e) [x]).1.length ≤ bs.length + 9 := by
  simp only [oNum]
  by_cases he : e ≠ 0
  · rw [if_pos he]; simp
  · rw [if_neg he]
    by_cases h0 : x < 0
    · rw [if_pos h0]; simp
    · rw [if_neg h0]
      have := numB_len9 (v := x.toNat) (by omega)
      simp; omega
theorem oRaw_len1 (bs : List Int) (e : Int) (x : ByteArray) : (oRaw (bs, e) [x]).1.length ≤ bs.length + x.size := by
  simp only [oRaw]
  by_cases he : e ≠ 0
  · rw [if_pos he]; simp
  · rw [if_neg he]; simp [bytesOf_length]
set_option maxHeartbeats 4000000 in
set_option maxRecDepth 100000 in
theorem text_calls' (B g b off : Nat) (bs : List Int) (e : Int) (cap : Nat) (xs : List ByteArray) (w : World) (hO : IsOut B w g bs e) (hB : B ≤ w.heap.size) (hx : RowAt w (some ⟨b, off, none⟩) 9 (pw_strs xs))
    (hlen : bs.length + sumS xs + 9 * xs.length ≤ 900000000000) :
    Calls Try.prog 126 #[.pointer (some ⟨g, 0, none⟩), .slice (some ⟨b, off, none⟩) xs.length cap] w fun r w' => r = .returned (.pointer (some ⟨g, 0, none⟩)) ∧ IsOut B w' g (oText (bs, e) xs).1 (oText (bs, e) xs).2 ∧ Fr B g w w' := by
  have HO := Aside0.mk hO
  have HX := Aside0.mk hx
  have hxl : xs.length ≤ 9223372036854775807 := by have := hx.1; simpa [pw_strs, maxLen] using this
  clear hO hx
  go_enter Try.func126, Try.ntmps126
  go_wp2
  go_loopg [9] xs.length (fun kq v9 wr => ∃ (k : Nat) (bk : List Int) (ek : Int), v9 = .int .i64 k ∧ Aside0 (k ≤ xs.length ∧ kq = xs.length - k) ∧ Aside0 (IsOut B wr g bk ek ∧ Fr B g w wr ∧ oText (bk, ek) (xs.drop k) = oText (bs, e) xs ∧ bk.length + sumS (xs.drop k) + 9 * (xs.length - k) ≤ 900000000000))
  case atStart => exact ⟨0, bs, e, rfl, ⟨Nat.zero_le _, rfl⟩, ⟨HO.out, Fr.refl _ _ _, by simp, by simpa using hlen⟩⟩
  case round =>
    obtain ⟨k, bk, ek, rfl, ⟨hk, hkq⟩, ⟨hO, hF, hS, hL⟩⟩ := hrel
    obtain ⟨ko, rfl⟩ : ∃ ko : Nat, ko = gk := ⟨_, rfl⟩
    have HS := Aside0.mk hS
    have HQ := Aside0.mk hkq
    clear hS hkq
    by_cases hlt : k < xs.length
    · obtain ⟨x, hxk⟩ : ∃ x, xs[k]? = some x := ⟨xs[k], by simp [hlt]⟩
      obtain ⟨b', off', hA, hc⟩ := (HX.out.frame hF (by decide) (fun cs fr => HO.out.ne (by decide) cs fr)).at_ k (.string x) (by simp [pw_strs, hxk])
      obtain ⟨rfl, rfl⟩ : b = b' ∧ off = off' := by simpa using hA
      clear hA
      have hL2 : bk.length + (x.size + sumS (xs.drop (k + 1))) + 9 * (xs.length - k) ≤ 900000000000 := by rw [drop_at hxk] at hL; simpa [sumS] using hL
      have HK := Aside0.mk hxk
      clear hxk hL
      have hsz := hF.size
      have HO1 := Aside0.mk hO
      have HF := Aside0.mk hF
      clear hO hF
      have hn1 := oNum_len1 bk ek (x.size : Int) (by omega)
      go_wp2_with fail
      refine (num1 B g _ bk ek _ wr rfl HO1.out (by omega) (by omega) (by omega)).mono ?_
      rintro e1 w1 ⟨rfl, hO1, hF1⟩
      have hsz1 := hF1.size
      have hr1 := oRaw_len1 (oNum (bk, ek) [(x.size : Int)]).1 (oNum (bk, ek) [(x.size : Int)]).2 x
      have HO2 := Aside0.mk hO1
      have HF2 := Aside0.mk hF1
      clear hO1 hF1
      go_wp2_with fail
      refine (raw1 B g _ _ _ x w1 rfl HO2.out (by omega) (by omega)).mono ?_
      rintro e2 w2 ⟨rfl, hO2, hF2⟩
      have HO3 := Aside0.mk hO2
      have HF3 := Aside0.mk hF2
      clear hO2 hF2
      go_wp2
      go_roundg (ko - 1)
      case measure => have := HQ.out; omega
      case rel =>
        have hs := HS.out
        rw [drop_at HK.out, oText] at hs
        exact ⟨k + 1, _, _, by go_num, ⟨by omega, by have := HQ.out; omega⟩, ⟨HO3.out, (HF.out.trans HF2.out).trans HF3.out, hs, by have hr2 : (oRaw (oNum (bk, ek) [(x.size : Int)]) [x]).1.length ≤ (oNum (bk, ek) [(x.size : Int)]).1.length + x.size := hr1; omega⟩⟩
    · go_wp2
      go_ret
      have hs := HS.out
      rw [List.drop_of_length_le (by omega)] at hs
      simp only [oText] at hs
      rw [← hs]
      exact ⟨rfl, hO, hF⟩
theorem text1 (B g p : Nat) (bs : List Int) (e : Int) (x : ByteArray) (w : World) (hp : p = w.heap.size) (hO : IsOut B w g bs e) (hB : B ≤ w.heap.size) (hlen : bs.length + x.size ≤ 800000000000) :
    Calls Try.prog 126 #[.pointer (some ⟨g, 0, none⟩), .slice (some ⟨p, 0, none⟩) 1 1] (w.alloc (.cells #[.string x] 9)) fun r w' => r = .returned (.pointer (some ⟨g, 0, none⟩)) ∧ IsOut B w' g (oText (bs, e) [x]).1 (oText (bs, e) [x]).2 ∧ Fr B g w w' := by
  subst hp
  refine (text_calls' B g w.heap.size 0 bs e 1 [x] _ (hO.alloc _) (by simp; omega) (RowAt.lit w 9 [.string x] (by simp [maxLen])) (by simp [sumS]; omega)).mono ?_
  rintro r w' ⟨rfl, h1, h2⟩
  exact ⟨rfl, h1, (Fr.alloc _ _ _ _).trans h2⟩
theorem text2 (B g p : Nat) (bs : List Int) (e : Int) (x y : ByteArray) (w : World) (hp : p = w.heap.size) (hO : IsOut B w g bs e) (hB : B ≤ w.heap.size) (hlen : bs.length + x.size + y.size ≤ 800000000000) :
    Calls Try.prog 126 #[.pointer (some ⟨g, 0, none⟩), .slice (some ⟨p, 0, none⟩) 2 2] (w.alloc (.cells #[.string x, .string y] 9)) fun r w' => r = .returned (.pointer (some ⟨g, 0, none⟩)) ∧ IsOut B w' g (oText (bs, e) [x, y]).1 (oText (bs, e) [x, y]).2 ∧ Fr B g w w' := by
  subst hp
  refine (text_calls' B g w.heap.size 0 bs e 2 [x, y] _ (hO.alloc _) (by simp; omega) (RowAt.lit w 9 [.string x, .string y] (by simp [maxLen])) (by simp [sumS]; omega)).mono ?_
  rintro r w' ⟨rfl, h1, h2⟩
  exact ⟨rfl, h1, (Fr.alloc _ _ _ _).trans h2⟩
end Go.Proofs.Ytjjjinpmflghmaa.Obj
namespace Go.Proofs.Ytjjjinpmflghmaa.Obj
open Go.RowKit Go.Proofs.YtjjjinpmflghmaaW.PrintWords Go.Proofs.YtjjjinpmflghmaaW.PrintMore
theorem infoB1 : (Try.prog.info? 5).map (fun i => (i.zero, i.size, i.bytes)) = some (some (.int .u8 0), 1, 1) := by kernel_rfl
set_option maxHeartbeats 4000000 in
set_option maxRecDepth 100000 in
theorem slClone_calls (s : ByteArray) (w : World) (hlim : s.size ≤ 281474976710656) :
    Calls Try.prog 138 #[.string s] w fun e w' => e = .returned (.string s) ∧ Below w.heap.size w w' := by
  by_cases h0 : s.size = 0
  · have hs : s = ⟨#[]⟩ := by
      apply ByteArray.ext
      exact Array.eq_empty_of_size_eq_zero h0
    subst hs
    go_enter Try.func138, Try.ntmps138
    go_wp2
    go_ret
    exact ⟨rfl, Below.refl _ _⟩
  · obtain ⟨i0, hi, hz0, hz1, hz2⟩ := info_parts infoB1
    have hinfo : (Try.prog.info? 5).map (·.size) = some 1 := by rw [hi]; simp [hz1]
    have hco : Try.prog.cellsOf 5 = 1 := by simp [Program.cellsOf, hi, hz1]
    obtain ⟨M, hM⟩ : ∃ M, M = madeCells (Value.int .u8 0).cells (((s.size : Nat) : Int).toNat * i0.size) := ⟨_, rfl⟩
    have hMs : M.size = s.size := by rw [hM, size_madeCells, hz1]; simp
    have hmk : ∀ W : World, (Instr.makeSlice 110 (.int .i64 (s.size : Int)) (.int .i64 (s.size : Int))).run Try.prog W = .ok (.slice (some ⟨W.heap.size, 0, none⟩) s.size s.size) (W.alloc (.cells M 5)) := fun W => by
      have h := run_make (P := Try.prog) W 110 5 i0 (.int .u8 0) Try.underlying110 hi hz0 .i64 .i64 (s.size : Int) (s.size : Int) (by omega) (by omega) (by rw [hz2]; omega) (by omega)
      rw [← hM] at h
      simpa using h
    clear hM
    have hcp := Lib.run_copy_row_string (P := Try.prog) (w.alloc (.cells M 5)) 110 9 3 5 w.heap.size 0 s.size s.size s M 5 Try.underlying110 hinfo (heap_alloc_new w _) (Nat.le_refl _) (by omega)
    obtain ⟨Y, hY⟩ : ∃ Y, Y = (M.toList.take 0 ++ Lib.byteCells s.data.toList ++ M.toList.drop (0 + s.size)).toArray := ⟨_, rfl⟩
    rw [← hY] at hcp
    have hYl : Y.toList = Lib.byteCells s.data.toList := by
      rw [hY, List.toList_toArray, List.take_zero, List.nil_append, List.drop_of_length_le (by rw [Array.length_toList]; omega), List.append_nil]
    have hYs : Y.size = s.size := by rw [← Array.length_toList, hYl, Lib.byteCells_length, ← Lib.size_eq]
    have hgY : ((w.alloc (.cells M 5)).setRow w.heap.size Y).heap[w.heap.size]? = some (.cells Y 5 (0, 0)) := setRow_heap _ _ M _ 5 (0, 0) (heap_alloc_new w _)
    have hne : s.data.toList ≠ [] := fun e => h0 (by rw [Lib.size_eq, e]; rfl)
    have hUS := Lib.run_unsafeString_row (P := Try.prog) ((w.alloc (.cells M 5)).setRow w.heap.size Y) 194 3 9 5 Try.underlying194 hco w.heap.size Y.size (by unfold World.shape?; rw [hgY]) s.data.toList hne (by rw [← Lib.size_eq]; omega) (by rw [← Lib.size_eq]; omega)
      (fun j x hx => Lib.cells_of_row hgY Y.size j _ (by rw [List.take_of_length_le (by rw [Array.length_toList]; exact Nat.le_refl _), hYl]; simp [Lib.byteCells, hx]))
    rw [← Lib.size_eq] at hUS
    clear hY
    go_enter Try.func138, Try.ntmps138
    go_wp2
    go_ret
    have hb1 : Below w.heap.size w (w.alloc (.cells M 5)) := (Below.refl _ w).alloc (Nat.le_refl _) _
    have hb2 : Below w.heap.size (w.alloc (.cells M 5)) ((w.alloc (.cells M 5)).setRow w.heap.size Y) := ⟨rfl, rfl, rfl, by simp, fun k hk => setRow_other _ _ _ _ (by omega)⟩
    exact ⟨rfl, Lib.below_freeze (hb1.trans hb2) (p := ⟨w.heap.size, 0, none⟩) (Nat.le_refl _) _⟩
theorem clone_calls (s : ByteArray) (w : World) (hlim : s.size ≤ 281474976710656) :
    Calls Try.prog 108 #[.string s] w fun e w' => e = .returned (.string s) ∧ Below w.heap.size w w' := by
  go_enter Try.func108, Try.ntmps108
  go_wp2_with (go_at_call 138; refine (slClone_calls s _ hlim).mono ?_; rintro e1 w1 ⟨rfl, hb⟩)
  go_ret
  exact ⟨rfl, hb⟩
end Go.Proofs.Ytjjjinpmflghmaa.Obj
namespace Go.Proofs.Ytjjjinpmflghmaa.Obj
open Go.RowKit Go.Proofs.YtjjjinpmflghmaaW.PrintWords Go.Proofs.YtjjjinpmflghmaaW.PrintMore

/-- What a call leaves as it was: all but block g. -/
structure Fg (g : Nat) (w w' : World) : Prop where
  os : w'.os = w.os
  tape : w'.tape = w.tape
  output : w'.output = w.output
  size : w.heap.size ≤ w'.heap.size
  block : ∀ i, i < w.heap.size → i ≠ g → w'.heap[i]? = w.heap[i]?
theorem Fg.refl (g : Nat) (w : World) : Fg g w w := ⟨rfl, rfl, rfl, Nat.le_refl _, fun _ _ _ => rfl⟩
theorem Fg.trans {g : Nat} {a b c : World} (h : Fg g a b) (k : Fg g b c) : Fg g a c :=
  ⟨k.os.trans h.os, k.tape.trans h.tape, k.output.trans h.output, Nat.le_trans h.size k.size, fun i hi hg => (k.block i (Nat.lt_of_lt_of_le hi h.size) hg).trans (h.block i hi hg)⟩
theorem Fg.below {g : Nat} {w w' : World} (h : Below w.heap.size w w') : Fg g w w' := ⟨h.os, h.tape, h.output, h.size, fun i hi _ => h.block i hi⟩
theorem Fg.alloc (g : Nat) (w : World) (o : Obj) : Fg g w (w.alloc o) := Fg.below (below_alloc (Below.refl _ _) o)
theorem Fg.set (g : Nat) (w : World) (j : Nat) (v : Value) : Fg g w (w.setCell ⟨g, j, none⟩ v) := ⟨rfl, rfl, rfl, by simp, fun i _ hg => heap_setCell_other w _ i v hg⟩
theorem Fg.drewN {g : Nat} {w w' : World} (h : Fg g w w') (n : Nat) : Fg g w (w'.drewN n) := ⟨h.os, h.tape, h.output, h.size, h.block⟩
theorem Fg.keep {g i : Nat} {w w' : World} {o : Obj} (h : Fg g w w') (hi : w.heap[i]? = some o) (hg : i ≠ g) : w'.heap[i]? = some o := (h.block i (blk_lt hi) hg).trans hi
theorem Fg.toBelow {B g : Nat} {w w' : World} (h : Fg g w w') (hB : B ≤ w.heap.size) (hg : B ≤ g) : Below B w w' := ⟨h.os, h.tape, h.output, h.size, fun i hi => h.block i (by omega) (by omega)⟩

theorem eql_in (a : Addr) (w : World) : Sem.run Try.prog (binOp .eql 116 (.pointer (some a)) (.pointer none)) w = .ok (.bool false) w := by kernel_rfl

/-- A reader at block g: what is left, and its error. -/
def IsIn (w : World) (g : Nat) (b : ByteArray) (e : Int) : Prop := w.heap[g]? = some (.cells #[.string b, .int .i64 e] 151 (0, 0))
theorem IsIn.below {g : Nat} {w w' : World} {b : ByteArray} {e : Int} (h : IsIn w g b e) (hb : Below w.heap.size w w') : IsIn w' g b e := (hb.block g (blk_lt h)).trans h
theorem IsIn.alloc {g : Nat} {w : World} {b : ByteArray} {e : Int} (h : IsIn w g b e) (o : Obj) : IsIn (w.alloc o) g b e := h.below (below_alloc (Below.refl _ _) o)
theorem IsIn.set0 {g : Nat} {w : World} {b : ByteArray} {e : Int} (h : IsIn w g b e) (b' : ByteArray) : IsIn (w.setCell ⟨g, 0, none⟩ (.string b')) g b' e := (blk_set h 0 _).trans rfl
theorem IsIn.set1 {g : Nat} {w : World} {b : ByteArray} {e : Int} (h : IsIn w g b e) (e' : Int) : IsIn (w.setCell ⟨g, 1, none⟩ (.int .i64 e')) g b e' := (blk_set h 1 _).trans rfl

theorem on_calls (b : ByteArray) (w : World) : Calls Try.prog 58 #[.string b] w fun r w' => r = .returned (.pointer (some ⟨w.heap.size, 0, none⟩)) ∧ w.alloc (.cells #[.string b, .int .i64 0] 151) = w' := by
  go_enter Try.func58, Try.ntmps58
  go_wp2
  go_ret
  exact ⟨rfl, rfl⟩

/-- Raw: what it answers, what is left, the error. -/
def iRaw (b : ByteArray) (e n : Int) : ByteArray × ByteArray × Int :=
  if e ≠ 0 then (ByteArray.empty, b, e) else if n < 0 then (ByteArray.empty, b, 1) else if (b.size : Int) < n then (ByteArray.empty, b, 2) else (b.extract 0 n.toNat, b.extract n.toNat b.size, 0)
set_option maxHeartbeats 1000000 in
theorem iraw_calls (g : Nat) (b : ByteArray) (e n : Int) (w : World) (h : IsIn w g b e) (hs : b.size ≤ 140737488355328) :
    Calls Try.prog 60 #[.pointer (some ⟨g, 0, none⟩), .int .i64 n] w fun r w' => r = .returned (.string (iRaw b e n).1) ∧ IsIn w' g (iRaw b e n).2.1 (iRaw b e n).2.2 ∧ Fg g w w' := by
  have c0 : w.cell? ⟨g, 0, none⟩ = some (.string b) := (blk_cell h 0).trans rfl
  have c1 : w.cell? ⟨g, 1, none⟩ = some (.int .i64 e) := (blk_cell h 1).trans rfl
  have f0 := blk_frozen h 0
  have f1 := blk_frozen h 1
  have hn := eql_in ⟨g, 0, none⟩
  have HI := Aside0.mk h
  clear h
  by_cases he : e = 0
  · subst he
    by_cases h0 : n < 0
    · go_enter Try.func60, Try.ntmps60
      go_wp2
      go_ret
      have hr : iRaw b 0 n = (ByteArray.empty, b, 1) := by simp [iRaw, h0]
      rw [hr]
      exact ⟨rfl, HI.out.set1 1, Fg.set _ _ _ _⟩
    · by_cases h1 : (b.size : Int) < n
      · go_enter Try.func60, Try.ntmps60
        go_wp2
        go_ret
        have hr : iRaw b 0 n = (ByteArray.empty, b, 2) := by simp [iRaw, h0, h1]
        rw [hr]
        exact ⟨rfl, HI.out.set1 2, Fg.set _ _ _ _⟩
      · obtain ⟨m, rfl⟩ := Int.eq_ofNat_of_zero_le (show 0 ≤ n by omega)
        have hm : m ≤ b.size := by omega
        have hx : (b.extract 0 m).size = m := by simp; omega
        have hr : iRaw b 0 m = (b.extract 0 m, b.extract m b.size, 0) := by simp [iRaw, h0, h1]
        have HR := Aside0.mk hr
        have HX := Aside0.mk hx
        clear hr hx
        go_enter Try.func60, Try.ntmps60
        go_wp2_with (go_at_call 108; refine (clone_calls _ _ (by have := HX.out; omega)).mono ?_; rintro e1 w1 ⟨rfl, hb⟩)
        go_ret
        rw [HR.out]
        exact ⟨rfl, (HI.out.set0 _).below hb, (Fg.set _ _ _ _).trans (Fg.below hb)⟩
  · have he' : (e != 0) = true := by simpa using he
    have hr : iRaw b e n = (ByteArray.empty, b, e) := by simp [iRaw, he]
    have HR := Aside0.mk hr
    clear hr he
    go_enter Try.func60, Try.ntmps60
    go_wp2
    go_ret
    rw [HR.out]
    exact ⟨rfl, HI.out, Fg.refl _ _⟩
theorem ileft_calls (g : Nat) (b : ByteArray) (e : Int) (w : World) (h : IsIn w g b e) :
    Calls Try.prog 61 #[.pointer (some ⟨g, 0, none⟩)] w fun r w' => r = .returned (.int .i64 (if e = 0 then (b.size : Int) else 0)) ∧ w = w' := by
  have c0 : w.cell? ⟨g, 0, none⟩ = some (.string b) := (blk_cell h 0).trans rfl
  have c1 : w.cell? ⟨g, 1, none⟩ = some (.int .i64 e) := (blk_cell h 1).trans rfl
  have hn := eql_in ⟨g, 0, none⟩
  clear h
  by_cases he : e = 0
  · subst he
    go_enter Try.func61, Try.ntmps61
    go_wp2
    go_ret
    exact ⟨rfl, rfl⟩
  · have he' : (e != 0) = true := by simpa using he
    rw [if_neg he]
    clear he
    go_enter Try.func61, Try.ntmps61
    go_wp2
    go_ret
    exact ⟨rfl, rfl⟩
theorem ifail_calls (g : Nat) (b : ByteArray) (e k : Int) (w : World) (h : IsIn w g b e) :
    Calls Try.prog 107 #[.pointer (some ⟨g, 0, none⟩), .int .i64 k] w fun r w' => r = .returned (.tuple #[]) ∧ IsIn w' g b (if e = 0 then k else e) ∧ Fg g w w' := by
  have c1 : w.cell? ⟨g, 1, none⟩ = some (.int .i64 e) := (blk_cell h 1).trans rfl
  have f1 := blk_frozen h 1
  have HI := Aside0.mk h
  clear h
  by_cases he : e = 0
  · subst he
    go_enter Try.func107, Try.ntmps107
    go_wp2
    go_end0
    exact ⟨rfl, HI.out.set1 k, Fg.set _ _ _ _⟩
  · have he' : (e == 0) = false := by simpa using he
    rw [if_neg he]
    clear he
    go_enter Try.func107, Try.ntmps107
    go_wp2
    go_end0
    exact ⟨rfl, HI.out, Fg.refl _ _⟩
theorem iend_calls (g : Nat) (b : ByteArray) (e : Int) (w : World) (h : IsIn w g b e) :
    Calls Try.prog 62 #[.pointer (some ⟨g, 0, none⟩)] w fun r w' => r = .returned (.int .i64 (if e = 0 then (if b.size = 0 then 0 else 3) else e)) ∧ IsIn w' g b (if e = 0 then (if b.size = 0 then 0 else 3) else e) ∧ Fg g w w' := by
  have c1 : w.cell? ⟨g, 1, none⟩ = some (.int .i64 e) := (blk_cell h 1).trans rfl
  have hn := eql_in ⟨g, 0, none⟩
  have HI := Aside0.mk h
  clear h
  by_cases he : e = 0
  · subst he
    by_cases hb0 : b.size = 0
    · rw [if_pos rfl, if_pos hb0]
      have hz : ((b.size : Int)) = 0 := by omega
      have HZ := Aside0.mk hz
      clear hb0 hz
      go_enter Try.func62, Try.ntmps62
      go_wp2_with fail
      refine (ileft_calls g b 0 _ HI.out).mono ?_
      rw [if_pos rfl, HZ.out]
      rintro e1 w1 ⟨rfl, rfl⟩
      go_wp2
      go_ret
      exact ⟨rfl, HI.out, Fg.refl _ _⟩
    · rw [if_pos rfl, if_neg hb0]
      have hz : 0 < ((b.size : Int)) := by omega
      clear hb0
      go_enter Try.func62, Try.ntmps62
      go_wp2_with fail
      refine (ileft_calls g b 0 _ HI.out).mono ?_
      rw [if_pos rfl]
      rintro e1 w1 ⟨rfl, rfl⟩
      go_wp2_with fail
      refine (ifail_calls g b 0 3 _ HI.out).mono ?_
      rw [if_pos rfl]
      rintro e1 w1 ⟨rfl, hI, hF⟩
      have c1' : w1.cell? ⟨g, 1, none⟩ = some (.int .i64 3) := (blk_cell hI 1).trans rfl
      have HI1 := Aside0.mk hI
      have HF1 := Aside0.mk hF
      clear hI hF
      go_wp2
      go_ret
      exact ⟨rfl, HI1.out, HF1.out⟩
  · rw [if_neg he]
    have HE := Aside0.mk he
    clear he
    go_enter Try.func62, Try.ntmps62
    go_wp2_with fail
    refine (ileft_calls g b e _ HI.out).mono ?_
    rw [if_neg HE.out]
    rintro e1 w1 ⟨rfl, rfl⟩
    go_wp2
    go_ret
    exact ⟨rfl, HI.out, Fg.refl _ _⟩
end Go.Proofs.Ytjjjinpmflghmaa.Obj
namespace Go.Proofs.Ytjjjinpmflghmaa.Obj
open Go.RowKit Go.Proofs.YtjjjinpmflghmaaW.PrintWords Go.Proofs.YtjjjinpmflghmaaW.PrintMore

/-- A number, m rounds left, k done, v read. -/
def numGo : Nat → Nat → Nat → ByteArray → Nat × ByteArray × Int
  | 0, _, _, b => if b.size = 0 then (0, b, 2) else (0, b.extract 1 b.size, 3)
  | m + 1, k, v, b => if b.size = 0 then (0, b, 2) else if 128 ≤ bt b 0 then numGo m (k + 1) (v + (bt b 0).toNat % 128 * 128 ^ k) (b.extract 1 b.size) else
      if bt b 0 = 0 ∧ 0 < k then (0, b.extract 1 b.size, 3) else (v + (bt b 0).toNat * 128 ^ k, b.extract 1 b.size, 0)
def iNum (b : ByteArray) (e : Int) : Nat × ByteArray × Int := if e ≠ 0 then (0, b, e) else numGo 9 0 0 b

theorem iRaw1_none {b : ByteArray} (h : b.size = 0) : iRaw b 0 1 = (ByteArray.empty, b, 2) := by simp [iRaw, h]
theorem iRaw1_some {b : ByteArray} (h : b.size ≠ 0) : iRaw b 0 1 = (b.extract 0 1, b.extract 1 b.size, 0) := by
  have : ¬ (b.size : Int) < 1 := by omega
  simp [iRaw, this]
theorem extract1_ne {b : ByteArray} (h : b.size ≠ 0) : (b.extract 0 1).toList.isEmpty = false := by
  have hx : (b.extract 0 1).size = 1 := by simp; omega
  generalize b.extract 0 1 = x at hx
  rw [List.isEmpty_eq_false_iff, ← List.length_pos_iff, ByteArray.toList_eq, Array.length_toList]
  have : x.data.size = x.size := rfl
  omega
theorem extract1_at {b : ByteArray} {c : Nat} (h : b.size ≠ 0) (h' : 0 < (b.extract 0 1).size) (hcb : bt b 0 = (c : Int)) : ((b.extract 0 1)[0]'h').toNat = c := by
  have h0 : (0 : Int).toNat < b.size := by simp; omega
  have h1 : bt b 0 = ((b[0]'(by omega)).toNat : Int) := by rw [← bt_at b 0 h0]; rfl
  have h2 : (b.extract 0 1)[0]'h' = b[0]'(by omega) := by simp [ByteArray.getElem_extract]
  rw [h2]
  omega
theorem and127 (c : Nat) (h : c < 256) : Go.bits .and .u8 (c : Int) 127 = ((c % 128 : Nat) : Int) := by
  have hh : ∀ m, m < 256 → Go.bits .and .u8 ((m : Nat) : Int) 127 = ((m % 128 : Nat) : Int) := by decide +kernel
  exact hh c h
theorem pow7 (k : Nat) : (2 : Nat) ^ (7 * k) = 128 ^ k := by rw [Nat.pow_mul]
theorem pow128_le {k : Nat} (h : k < 9) : 128 ^ k ≤ 72057594037927936 := by
  have := Nat.pow_le_pow_right (show 0 < 128 by decide) (show k ≤ 8 by omega)
  have e : 128 ^ 8 = 72057594037927936 := by decide
  omega
theorem ret_i64 {a b : Int} (h : a = b) : Ending.returned (.int .i64 a) = Ending.returned (.int .i64 b) := by rw [h]
theorem mul_in (k c : Nat) (hk : k < 9) : wrap64 (wrap64 ((c % 128 : Nat) : Int) * 2 ^ (7 * k)) = ((c % 128 * 128 ^ k : Nat) : Int) := by
  have h1 : wrap64 ((c % 128 : Nat) : Int) = ((c % 128 : Nat) : Int) := by unfold wrap64; omega
  have h2 : (2 : Int) ^ (7 * k) = ((128 ^ k : Nat) : Int) := by rw [← pow7]; simp
  have h3 : c % 128 * 128 ^ k ≤ 127 * 128 ^ k := Nat.mul_le_mul_right _ (by omega)
  have h4 := pow128_le hk
  rw [h1, h2, ← Int.natCast_mul]
  generalize c % 128 * 128 ^ k = z at h3
  unfold wrap64
  omega
theorem i64_in (x : Int) (h : 0 ≤ x) (h' : x < 2 ^ 63) : IntKind.i64.wrap x = x := by
  rw [IntKind.wrap_i64]
  have : (2 : Int) ^ 63 = 9223372036854775808 := by decide
  omega
theorem next_lt (k v c : Nat) (hv : v < 128 ^ k) : v + c % 128 * 128 ^ k < 128 ^ (k + 1) := by
  have h3 : c % 128 * 128 ^ k ≤ 127 * 128 ^ k := Nat.mul_le_mul_right _ (by omega)
  rw [Nat.pow_succ]
  omega
theorem or_in (k v c : Nat) (hk : k < 9) (hv : v < 128 ^ k) (_hc : c < 256) : Go.bits .or .i64 (v : Int) ((c % 128 * 128 ^ k : Nat) : Int) = ((v + c % 128 * 128 ^ k : Nat) : Int) := by
  have hn := next_lt k v c hv
  have h9 : 128 ^ (k + 1) ≤ 2 ^ 63 := by
    have := Nat.pow_le_pow_right (show 0 < 128 by decide) (show k + 1 ≤ 9 by omega)
    have e : (128 : Nat) ^ 9 = 2 ^ 63 := by decide
    omega
  rw [(bits_nat .i64 63 (by decide) i64_in v (c % 128 * 128 ^ k) (by omega) (by omega)).2]
  congr 1
  rw [← pow7] at hv ⊢
  rw [Nat.or_comm, Nat.mul_comm, ← Nat.two_pow_add_eq_or_of_lt hv, Nat.add_comm]
theorem val_in (k v c : Nat) (hk : k < 9) (hv : v < 128 ^ k) (hc : c < 256) : Go.bits .or .i64 (v : Int) (wrap64 ((c : Int) % 128 * 2 ^ (7 * k))) = ((v + c % 128 * 128 ^ k : Nat) : Int) := by
  have h1 := mul_in k c hk
  have h2 : wrap64 ((c % 128 : Nat) : Int) = (c : Int) % 128 := by unfold wrap64; omega
  rw [h2] at h1
  rw [h1, or_in k v c hk hv hc]
set_option maxHeartbeats 4000000 in
set_option maxRecDepth 100000 in
theorem inum_ok (g : Nat) (b : ByteArray) (w : World) (h : IsIn w g b 0) (hs : b.size ≤ 140737488355328) :
    Calls Try.prog 59 #[.pointer (some ⟨g, 0, none⟩)] w fun r w' => r = .returned (.int .i64 (numGo 9 0 0 b).1) ∧ IsIn w' g (numGo 9 0 0 b).2.1 (numGo 9 0 0 b).2.2 ∧ Fg g w w' := by
  have HI := Aside0.mk h
  clear h
  go_enter Try.func59, Try.ntmps59
  go_wp2
  go_loopg [3, 6] 9 (fun kq v3 v6 wr => ∃ (k v : Nat) (bk : ByteArray), v3 = .int .i64 v ∧ v6 = .int .i64 k ∧ Aside0 (k ≤ 9 ∧ kq = 9 - k ∧ v < 128 ^ k) ∧ Aside0 (IsIn wr g bk 0 ∧ Fg g w wr ∧ numGo (9 - k) k v bk = numGo 9 0 0 b ∧ bk.size ≤ 140737488355328))
  case atStart => exact ⟨0, 0, b, rfl, rfl, ⟨by omega, rfl, by decide⟩, ⟨HI.out, Fg.refl _ _, rfl, hs⟩⟩
  case round =>
    obtain ⟨k, v, bk, rfl, rfl, ⟨hk, hkq, hv⟩, ⟨hI, hF, hS, hL⟩⟩ := hrel
    obtain ⟨ko, rfl⟩ : ∃ ko : Nat, ko = gk := ⟨_, rfl⟩
    have HS := Aside0.mk hS
    have HQ := Aside0.mk hkq
    have HV := Aside0.mk hv
    have HI1 := Aside0.mk hI
    have HF := Aside0.mk hF
    clear hS hkq hv hI hF
    by_cases hlt : k < 9
    · by_cases hz : bk.size = 0
      · have HR := Aside0.mk (iRaw1_none hz)
        have hz' := Aside0.mk hz
        clear hz
        go_wp2_with fail
        refine (iraw_calls g bk 0 1 _ HI1.out hL).mono ?_
        rw [HR.out]
        rintro e1 w1 ⟨rfl, hI2, hF2⟩
        have HI2 := Aside0.mk hI2
        have HF2 := Aside0.mk hF2
        clear hI2 hF2
        go_wp2
        go_ret
        have hs1 := HS.out
        rw [show 9 - k = (8 - k) + 1 by omega, numGo, if_pos hz'.out] at hs1
        rw [← hs1]
        exact ⟨rfl, HI2.out, HF.out.trans HF2.out⟩
      · have HR := Aside0.mk (iRaw1_some hz)
        obtain ⟨c, hcb, hc256⟩ : ∃ c : Nat, bt bk 0 = (c : Int) ∧ c < 256 := by
          have := bt_range bk 0
          exact ⟨(bt bk 0).toNat, by omega, by omega⟩
        have hx : (bk.extract 0 1).size = 1 := by simp; omega
        have hxe : (bk.extract 0 1).toList.isEmpty = false := extract1_ne hz
        have hxc : ∀ h : 0 < (bk.extract 0 1).size, ((bk.extract 0 1)[0]'h).toNat = c := fun h => extract1_at hz h hcb
        obtain ⟨x, hxx⟩ : ∃ x, x = bk.extract 0 1 := ⟨_, rfl⟩
        rw [← hxx] at HR hx hxe hxc
        clear hxx
        have HZ := Aside0.mk hz
        have HC := Aside0.mk hcb
        have hand := and127 c hc256
        have HVAL := Aside0.mk (val_in k v c hlt HV.out hc256)
        clear hz hcb
        have hs1 := HS.out
        rw [show 9 - k = (8 - k) + 1 by omega, numGo, if_neg HZ.out, HC.out] at hs1
        have HS1 := Aside0.mk hs1
        clear hs1
        go_wp2_with fail
        refine (iraw_calls g bk 0 1 _ HI1.out hL).mono ?_
        rw [HR.out]
        rintro e1 w1 ⟨rfl, hI2, hF2⟩
        have hl2 : (bk.extract 1 bk.size).size ≤ 140737488355328 := by simp; omega
        have HL2 := Aside0.mk hl2
        have HI2 := Aside0.mk hI2
        have HF2 := Aside0.mk hF2
        clear hI2 hF2 hl2
        by_cases h128 : 128 ≤ c
        · go_wp2
          go_roundg (ko - 1)
          case measure => have := HQ.out; omega
          case rel =>
            have hs1 := HS1.out
            rw [if_pos (by omega), Int.toNat_natCast] at hs1
            refine ⟨k + 1, v + c % 128 * 128 ^ k, _, by rw [HVAL.out], by go_num, ⟨by omega, by have := HQ.out; omega, next_lt k v c HV.out⟩, ⟨HI2.out, HF.out.trans HF2.out, ?_, HL2.out⟩⟩
            rw [show 9 - (k + 1) = 8 - k by omega]
            exact hs1
        · by_cases h0 : c = 0
          · subst h0
            by_cases hk0 : 0 < k
            · go_wp2_with fail
              refine (ifail_calls g _ 0 3 _ HI2.out).mono ?_
              rw [if_pos rfl]
              rintro e2 w2 ⟨rfl, hI3, hF3⟩
              have HI3 := Aside0.mk hI3
              have HF3 := Aside0.mk hF3
              clear hI3 hF3
              go_wp2
              go_ret
              have hs1 := HS1.out
              rw [if_neg (by omega), if_pos ⟨rfl, hk0⟩] at hs1
              rw [← hs1]
              exact ⟨rfl, HI3.out, (HF.out.trans HF2.out).trans HF3.out⟩
            · go_wp2
              go_ret
              have hs1 := HS1.out
              rw [if_neg (by omega), if_neg (by omega)] at hs1
              rw [← hs1]
              refine ⟨ret_i64 ?_, HI2.out, HF.out.trans HF2.out⟩
              have e1 : Go.bits .and .u8 0 127 = 0 := by decide +kernel
              have e2 : wrap64 0 = ((0 : Nat) : Int) % 128 := by unfold wrap64; omega
              rw [e1, e2, HVAL.out]
              simp
          · go_wp2
            go_ret
            have hs1 := HS1.out
            rw [if_neg (by omega), if_neg (by omega), Int.toNat_natCast] at hs1
            rw [← hs1]
            refine ⟨ret_i64 ?_, HI2.out, HF.out.trans HF2.out⟩
            have hv := HVAL.out
            rw [Nat.mod_eq_of_lt (show c < 128 by omega)] at hv
            exact hv
    · obtain rfl : k = 9 := by omega
      have hs1 := HS.out
      rw [show 9 - 9 = 0 from rfl, numGo] at hs1
      have HS1 := Aside0.mk hs1
      clear hs1
      by_cases hz : bk.size = 0
      · have HR := Aside0.mk (iRaw1_none hz)
        have HZ := Aside0.mk hz
        clear hz
        go_wp2_with fail
        refine (iraw_calls g bk 0 1 _ HI1.out hL).mono ?_
        rw [HR.out]
        rintro e1 w1 ⟨rfl, hI2, hF2⟩
        have HI2 := Aside0.mk hI2
        have HF2 := Aside0.mk hF2
        clear hI2 hF2
        go_wp2
        go_ret
        have hs1 := HS1.out
        rw [if_pos HZ.out] at hs1
        rw [← hs1]
        exact ⟨rfl, HI2.out, HF.out.trans HF2.out⟩
      · have HR := Aside0.mk (iRaw1_some hz)
        have hxe : (bk.extract 0 1).toList.isEmpty = false := extract1_ne hz
        obtain ⟨x, hxx⟩ : ∃ x, x = bk.extract 0 1 := ⟨_, rfl⟩
        rw [← hxx] at HR hxe
        clear hxx
        have HZ := Aside0.mk hz
        clear hz
        go_wp2_with fail
        refine (iraw_calls g bk 0 1 _ HI1.out hL).mono ?_
        rw [HR.out]
        rintro e1 w1 ⟨rfl, hI2, hF2⟩
        have HI2 := Aside0.mk hI2
        have HF2 := Aside0.mk hF2
        clear hI2 hF2
        go_wp2_with fail
        refine (ifail_calls g _ 0 3 _ HI2.out).mono ?_
        rw [if_pos rfl]
        rintro e2 w2 ⟨rfl, hI3, hF3⟩
        have HI3 := Aside0.mk hI3
        have HF3 := Aside0.mk hF3
        clear hI3 hF3
        go_wp2
        go_ret
        have hs1 := HS1.out
        rw [if_neg HZ.out] at hs1
        rw [← hs1]
        exact ⟨rfl, HI3.out, (HF.out.trans HF2.out).trans HF3.out⟩
theorem inum_calls (g : Nat) (b : ByteArray) (e : Int) (w : World) (h : IsIn w g b e) (hs : b.size ≤ 140737488355328) :
    Calls Try.prog 59 #[.pointer (some ⟨g, 0, none⟩)] w fun r w' => r = .returned (.int .i64 (iNum b e).1) ∧ IsIn w' g (iNum b e).2.1 (iNum b e).2.2 ∧ Fg g w w' := by
  by_cases he : e = 0
  · subst he
    have : iNum b 0 = numGo 9 0 0 b := by simp [iNum]
    rw [this]
    exact inum_ok g b w h hs
  · have hn : iNum b e = (0, b, e) := by simp [iNum, he]
    have hr : iRaw b e 1 = (ByteArray.empty, b, e) := by simp [iRaw, he]
    rw [hn]
    have HI := Aside0.mk h
    have HR := Aside0.mk hr
    clear h he hn hr
    go_enter Try.func59, Try.ntmps59
    go_wp2
    refine wp_loop_rounds 1 ?_
    rw [rounds_succ]
    go_wp2_with fail
    refine (iraw_calls g b e 1 _ HI.out hs).mono ?_
    rw [HR.out]
    rintro e1 w1 ⟨rfl, hI2, hF2⟩
    have HI2 := Aside0.mk hI2
    have HF2 := Aside0.mk hF2
    clear hI2 hF2
    go_wp2
    go_ret
    exact ⟨rfl, HI2.out, HF2.out⟩
theorem numGo_size : ∀ (m k v : Nat) (b : ByteArray), (numGo m k v b).2.1.size ≤ b.size
  | 0, k, v, b => by simp only [numGo]; split <;> simp
  | m + 1, k, v, b => by
    simp only [numGo]
    split
    · simp
    · split
      · have := numGo_size m (k + 1) (v + (bt b 0).toNat % 128 * 128 ^ k) (b.extract 1 b.size)
        simp at this ⊢
        omega
      · split <;> simp
theorem iNum_size (b : ByteArray) (e : Int) : (iNum b e).2.1.size ≤ b.size := by
  unfold iNum
  split
  · simp
  · exact numGo_size _ _ _ _
theorem itext_calls (g : Nat) (b : ByteArray) (e : Int) (w : World) (h : IsIn w g b e) (hs : b.size ≤ 140737488355328) :
    Calls Try.prog 129 #[.pointer (some ⟨g, 0, none⟩)] w fun r w' => r = .returned (.string (iRaw (iNum b e).2.1 (iNum b e).2.2 (iNum b e).1).1) ∧ IsIn w' g (iRaw (iNum b e).2.1 (iNum b e).2.2 (iNum b e).1).2.1 (iRaw (iNum b e).2.1 (iNum b e).2.2 (iNum b e).1).2.2 ∧ Fg g w w' := by
  have hsz := iNum_size b e
  have HI := Aside0.mk h
  clear h
  go_enter Try.func129, Try.ntmps129
  go_wp2_with fail
  refine (inum_calls g b e _ HI.out hs).mono ?_
  rintro e1 w1 ⟨rfl, hI2, hF2⟩
  have HI2 := Aside0.mk hI2
  have HF2 := Aside0.mk hF2
  clear hI2 hF2
  go_wp2_with fail
  refine (iraw_calls g _ _ _ _ HI2.out (by omega)).mono ?_
  rintro e2 w2 ⟨rfl, hI3, hF3⟩
  have HI3 := Aside0.mk hI3
  have HF3 := Aside0.mk hF3
  clear hI3 hF3
  go_wp2
  go_ret
  exact ⟨rfl, HI3.out, HF2.out.trans HF3.out⟩
end Go.Proofs.Ytjjjinpmflghmaa.Obj
namespace Go.Proofs.Ytjjjinpmflghmaa.Obj
open Go.RowKit Go.Proofs.YtjjjinpmflghmaaW.PrintWords Go.Proofs.YtjjjinpmflghmaaW.PrintMore

theorem oNum_ok : ∀ (xs : List Int) (bs : List Int), (∀ x ∈ xs, 0 ≤ x) → oNum (bs, 0) xs = (bs ++ xs.flatMap (fun x => numB x.toNat), 0)
  | [], bs, _ => by simp [oNum]
  | x :: xs, bs, h => by
    have h0 : 0 ≤ x := h x (by simp)
    rw [oNum, if_neg (by simp), if_neg (by omega), oNum_ok xs _ (fun y hy => h y (by simp [hy]))]
    simp
theorem oRaw_ok : ∀ (xs : List ByteArray) (bs : List Int), oRaw (bs, 0) xs = (bs ++ xs.flatMap bytesOf, 0)
  | [], bs => by simp [oRaw]
  | x :: xs, bs => by
    rw [oRaw, if_neg (by simp), oRaw_ok xs _]
    simp
theorem oText_ok : ∀ (xs : List ByteArray) (bs : List Int), oText (bs, 0) xs = (bs ++ xs.flatMap (fun s => numB s.size ++ bytesOf s), 0)
  | [], bs => by simp [oText]
  | x :: xs, bs => by
    rw [oText, oNum_ok _ _ (by simp), oRaw_ok, oText_ok xs _]
    simp
theorem oByte_ok : ∀ (xs : List Int) (bs : List Int), (∀ x ∈ xs, 0 ≤ x ∧ x ≤ 255) → oByte (bs, 0) xs = (bs ++ xs, 0)
  | [], bs, _ => by simp [oByte]
  | x :: xs, bs, h => by
    have h0 := h x (by simp)
    rw [oByte, if_neg (by simp), if_neg (by omega), oByte_ok xs _ (fun y hy => h y (by simp [hy]))]
    simp
theorem Fr.belowOf {B g : Nat} {w0 w w' : World} (h : Fr B g w w') (hb : Below B w0 w) (hB : B ≤ w.heap.size) (hg : B ≤ g) : Below B w0 w' := hb.trans (h.toBelow hB hg)
theorem Fg.belowOf {B g : Nat} {w0 w w' : World} (h : Fg g w w') (hb : Below B w0 w) (hB : B ≤ w.heap.size) (hg : B ≤ g) : Below B w0 w' := hb.trans (h.toBelow hB hg)
theorem str_ext {a b : ByteArray} (h : a.data.toList = b.data.toList) : a = b := by
  apply ByteArray.ext
  exact Array.toList_inj.1 h
theorem str_bytes (s : ByteArray) : strOfNums (bytesOf s) = s := by
  apply str_ext
  rw [strOfNums_data, bytesOf, List.map_map]
  conv => rhs; rw [← List.map_id s.data.toList]
  apply List.map_congr_left
  intro x _
  simp
theorem str_take (l : List Int) (n : Nat) : (strOfNums l).extract 0 n = strOfNums (l.take n) := by
  apply str_ext
  simp [strOfNums, List.map_take]
theorem str_drop (l : List Int) (n : Nat) : (strOfNums l).extract n (strOfNums l).size = strOfNums (l.drop n) := by
  apply str_ext
  rw [strOfNums_size]
  simp [strOfNums, List.map_drop]
  rw [List.take_of_length_le (by simp)]
theorem str_tail (x : Int) (l : List Int) : (strOfNums (x :: l)).extract 1 (strOfNums (x :: l)).size = strOfNums l := str_drop (x :: l) 1
theorem bt_str (x : Int) (l : List Int) (h : 0 ≤ x) (h' : x < 256) : bt (strOfNums (x :: l)) 0 = x := by
  unfold bt
  rw [dif_pos (by rw [strOfNums_size]; simp)]
  have : (strOfNums (x :: l))[(0 : Int).toNat]'(by rw [strOfNums_size]; simp) = UInt8.ofNat x.toNat := by simp [strOfNums, ByteArray.getElem_eq_getElem_data]
  rw [this, UInt8.toNat_ofNat']
  omega

theorem numGo_none (m k v : Nat) : numGo m k v (strOfNums []) = (0, strOfNums [], 2) := by
  have h : (strOfNums []).size = 0 := by rw [strOfNums_size]; rfl
  cases m with
  | zero => rw [numGo, if_pos h]
  | succ m => rw [numGo, if_pos h]
theorem numGo_step (m k v : Nat) (x : Int) (l : List Int) (h : 0 ≤ x) (h' : x < 256) :
    numGo (m + 1) k v (strOfNums (x :: l)) = if 128 ≤ x then numGo m (k + 1) (v + x.toNat % 128 * 128 ^ k) (strOfNums l) else if x = 0 ∧ 0 < k then (0, strOfNums l, 3) else (v + x.toNat * 128 ^ k, strOfNums l, 0) := by
  rw [numGo, if_neg (by rw [strOfNums_size]; simp), bt_str x l h h', str_tail]
theorem numGo_put (m : Nat) : ∀ (k v u : Nat) (rest : List Int), u < 128 ^ m → 1 ≤ m → (0 < k → 0 < u) →
    numGo m k v (strOfNums (numB u ++ rest)) = (v + u * 128 ^ k, strOfNums rest, 0) := by
  induction m with
  | zero => intro k v u rest _ h; omega
  | succ m ih =>
    intro k v u rest hu _ hk
    by_cases h : u < 128
    · rw [numB_small h]
      show numGo (m + 1) k v (strOfNums ((u : Int) :: rest)) = _
      rw [numGo_step m k v _ _ (by omega) (by omega), if_neg (by omega), if_neg (by omega), Int.toNat_natCast]
    · rw [numB_great h]
      show numGo (m + 1) k v (strOfNums (((u % 128 + 128 : Nat) : Int) :: (numB (u / 128) ++ rest))) = _
      have h1 : u / 128 < 128 ^ m := by rw [Nat.pow_succ] at hu; omega
      have hm : 1 ≤ m := by
        cases m with
        | zero => simp at h1; omega
        | succ m => omega
      rw [numGo_step m k v _ _ (by omega) (by omega), if_pos (by omega), Int.toNat_natCast, ih (k + 1) _ (u / 128) rest h1 hm (by omega)]
      have e1 : (u % 128 + 128) % 128 = u % 128 := by omega
      have e2 : u % 128 * 128 ^ k + u / 128 * 128 ^ (k + 1) = u * 128 ^ k := by
        rw [Nat.pow_succ, Nat.mul_comm (128 ^ k) 128, ← Nat.mul_assoc, ← Nat.add_mul]
        congr 1
        omega
      rw [e1, Nat.add_assoc, e2]
theorem numGo_cut (m : Nat) : ∀ (k v u j : Nat), u < 128 ^ m → j < (numB u).length →
    numGo m k v (strOfNums ((numB u).take j)) = (0, strOfNums [], 2) := by
  induction m with
  | zero =>
    intro k v u j hu hj
    obtain rfl : u = 0 := by simpa using hu
    rw [numB_small (by decide)] at hj ⊢
    obtain rfl : j = 0 := by simpa using hj
    exact numGo_none 0 k v
  | succ m ih =>
    intro k v u j hu hj
    cases j with
    | zero => exact numGo_none (m + 1) k v
    | succ j =>
      by_cases h : u < 128
      · rw [numB_small h] at hj
        simp at hj
      · rw [numB_great h] at hj ⊢
        have h1 : u / 128 < 128 ^ m := by rw [Nat.pow_succ] at hu; omega
        rw [List.take_succ_cons, numGo_step m k v _ _ (by omega) (by omega), if_pos (by omega)]
        exact ih (k + 1) _ (u / 128) j h1 (by simpa using hj)
theorem iNum_put {u : Nat} (rest : List Int) (hu : u < 9223372036854775808) : iNum (strOfNums (numB u ++ rest)) 0 = (u, strOfNums rest, 0) := by
  have e : (128 : Nat) ^ 9 = 9223372036854775808 := by decide
  have := numGo_put 9 0 0 u rest (by omega) (by omega) (by omega)
  unfold iNum
  rw [if_neg (by simp), this]
  simp
theorem iNum_cut {u j : Nat} (hu : u < 9223372036854775808) (hj : j < (numB u).length) : iNum (strOfNums ((numB u).take j)) 0 = (0, strOfNums [], 2) := by
  have e : (128 : Nat) ^ 9 = 9223372036854775808 := by decide
  unfold iNum
  rw [if_neg (by simp), numGo_cut 9 0 0 u j (by omega) hj]
theorem iNum_err {b : ByteArray} {e : Int} (he : e ≠ 0) : iNum b e = (0, b, e) := by simp [iNum, he]
theorem iRaw_err {b : ByteArray} {e n : Int} (he : e ≠ 0) : iRaw b e n = (ByteArray.empty, b, e) := by simp [iRaw, he]
theorem iRaw_put (l : List Int) (n : Nat) (hn : n ≤ l.length) : iRaw (strOfNums l) 0 (n : Int) = (strOfNums (l.take n), strOfNums (l.drop n), 0) := by
  unfold iRaw
  rw [if_neg (by simp), if_neg (by omega), if_neg (by rw [strOfNums_size]; omega), Int.toNat_natCast, str_take, str_drop]
theorem iRaw_cut (l : List Int) (n : Nat) (hn : l.length < n) : iRaw (strOfNums l) 0 (n : Int) = (ByteArray.empty, strOfNums l, 2) := by
  unfold iRaw
  rw [if_neg (by simp), if_neg (by omega), if_pos (by rw [strOfNums_size]; omega)]
/-- Text, read. -/
def iText (b : ByteArray) (e : Int) : ByteArray × ByteArray × Int := iRaw (iNum b e).2.1 (iNum b e).2.2 (iNum b e).1
theorem iText_put (s : ByteArray) (rest : List Int) (hs : s.size < 9223372036854775808) : iText (strOfNums (numB s.size ++ (bytesOf s ++ rest))) 0 = (s, strOfNums rest, 0) := by
  unfold iText
  rw [iNum_put _ hs]
  show iRaw (strOfNums (bytesOf s ++ rest)) 0 (s.size : Int) = _
  rw [iRaw_put _ _ (by rw [List.length_append, bytesOf_length]; omega), List.take_append_of_le_length (by rw [bytesOf_length]; omega), List.take_of_length_le (by rw [bytesOf_length]; omega),
    List.drop_append_of_le_length (by rw [bytesOf_length]; omega), List.drop_of_length_le (by rw [bytesOf_length]; omega), str_bytes, List.nil_append]
theorem iText_err {b : ByteArray} {e : Int} (he : e ≠ 0) : iText b e = (ByteArray.empty, b, e) := by
  unfold iText
  rw [iNum_err he]
  exact iRaw_err he
/-- A text that is cut off. -/
theorem iText_cut (s : ByteArray) (j : Nat) (hs : s.size < 9223372036854775808) (hj : j < (numB s.size).length + s.size) : ∃ b, iText (strOfNums ((numB s.size ++ bytesOf s).take j)) 0 = (ByteArray.empty, b, 2) := by
  unfold iText
  by_cases h : j < (numB s.size).length
  · rw [List.take_append_of_le_length (by omega), iNum_cut hs h]
    exact ⟨_, iRaw_err (by decide)⟩
  · rw [List.take_append, List.take_of_length_le (by omega), iNum_put _ hs]
    show ∃ b, iRaw (strOfNums _) 0 (s.size : Int) = _
    exact ⟨_, iRaw_cut _ _ (by simp [bytesOf_length]; omega)⟩
end Go.Proofs.Ytjjjinpmflghmaa.Obj
namespace Go.Proofs.Ytjjjinpmflghmaa.Obj
open Go.RowKit Go.Proofs.YtjjjinpmflghmaaW.PrintWords Go.Proofs.YtjjjinpmflghmaaW.PrintMore
/-- Byte, read. -/
def iByte (b : ByteArray) (e : Int) : Int × ByteArray × Int :=
  if e ≠ 0 then (0, b, e) else if b.size = 0 then (0, b, 2) else (bt b 0, b.extract 1 b.size, 0)
theorem iByte_put (x : Int) (l : List Int) (h : 0 ≤ x) (h' : x < 256) : iByte (strOfNums (x :: l)) 0 = (x, strOfNums l, 0) := by
  unfold iByte
  rw [if_neg (by simp), if_neg (by rw [strOfNums_size]; simp), bt_str x l h h', str_tail]
theorem iByte_size (b : ByteArray) (e : Int) : (iByte b e).2.1.size ≤ b.size := by
  unfold iByte
  split
  · simp
  · split <;> simp
set_option maxHeartbeats 1000000 in
theorem ibyte_calls (g : Nat) (b : ByteArray) (e : Int) (w : World) (h : IsIn w g b e) (hs : b.size ≤ 140737488355328) :
    Calls Try.prog 128 #[.pointer (some ⟨g, 0, none⟩)] w fun r w' => r = .returned (.int .i64 (iByte b e).1) ∧ IsIn w' g (iByte b e).2.1 (iByte b e).2.2 ∧ Fg g w w' := by
  have HI := Aside0.mk h
  clear h
  by_cases he : e = 0
  · subst he
    by_cases hz : b.size = 0
    · have HR := Aside0.mk (iRaw1_none hz)
      have hv : iByte b 0 = (0, b, 2) := by simp [iByte, hz]
      rw [hv]
      clear hz hv
      go_enter Try.func128, Try.ntmps128
      go_wp2_with fail
      refine (iraw_calls g b 0 1 _ HI.out hs).mono ?_
      rw [HR.out]
      rintro e1 w1 ⟨rfl, hI, hF⟩
      have HI2 := Aside0.mk hI
      have HF := Aside0.mk hF
      clear hI hF
      go_wp2
      go_ret
      exact ⟨rfl, HI2.out, HF.out⟩
    · have HR := Aside0.mk (iRaw1_some hz)
      obtain ⟨c, hcb, hc256⟩ : ∃ c : Nat, bt b 0 = (c : Int) ∧ c < 256 := by
        have := bt_range b 0
        exact ⟨(bt b 0).toNat, by omega, by omega⟩
      have hx : (b.extract 0 1).size = 1 := by simp; omega
      have hxe : (b.extract 0 1).toList.isEmpty = false := extract1_ne hz
      have hxc : ∀ h : 0 < (b.extract 0 1).size, ((b.extract 0 1)[0]'h).toNat = c := fun h => extract1_at hz h hcb
      obtain ⟨x, hxx⟩ : ∃ x, x = b.extract 0 1 := ⟨_, rfl⟩
      rw [← hxx] at HR hx hxe hxc
      have hv : iByte b 0 = ((c : Int), b.extract 1 b.size, 0) := by simp [iByte, hz, hcb]
      rw [hv]
      clear hxx hz hv hcb
      go_enter Try.func128, Try.ntmps128
      go_wp2_with fail
      refine (iraw_calls g b 0 1 _ HI.out hs).mono ?_
      rw [HR.out]
      rintro e1 w1 ⟨rfl, hI, hF⟩
      have HI2 := Aside0.mk hI
      have HF := Aside0.mk hF
      clear hI hF
      go_wp2
      go_ret
      exact ⟨rfl, HI2.out, HF.out⟩
  · have hv : iByte b e = (0, b, e) := by simp [iByte, he]
    have hr : iRaw b e 1 = (ByteArray.empty, b, e) := by simp [iRaw, he]
    rw [hv]
    have HR := Aside0.mk hr
    clear he hv hr
    go_enter Try.func128, Try.ntmps128
    go_wp2_with fail
    refine (iraw_calls g b e 1 _ HI.out hs).mono ?_
    rw [HR.out]
    rintro e1 w1 ⟨rfl, hI, hF⟩
    have HI2 := Aside0.mk hI
    have HF := Aside0.mk hF
    clear hI hF
    go_wp2
    go_ret
    exact ⟨rfl, HI2.out, HF.out⟩
theorem itext_calls' (g : Nat) (b : ByteArray) (e : Int) (w : World) (h : IsIn w g b e) (hs : b.size ≤ 140737488355328) :
    Calls Try.prog 129 #[.pointer (some ⟨g, 0, none⟩)] w fun r w' => r = .returned (.string (iText b e).1) ∧ IsIn w' g (iText b e).2.1 (iText b e).2.2 ∧ Fg g w w' := itext_calls g b e w h hs
end Go.Proofs.Ytjjjinpmflghmaa.Obj
