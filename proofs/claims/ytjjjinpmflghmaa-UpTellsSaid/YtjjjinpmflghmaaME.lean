/- KeyLay, KeyRead, in one text. Conditions: those in each theorem. -/
import Derived.Test.YtjjjinpmflghmaaKeyLayP
import Derived.Test.YtjjjinpmflghmaaMB
import Derived.Test.YtjjjinpmflghmaaRefKA
namespace Go.Proofs.Ytjjjinpmflghmaa.Obj
open Go.RowKit Go.Proofs.YtjjjinpmflghmaaW.PrintWords Go.Proofs.YtjjjinpmflghmaaW.PrintMore
theorem num1_ok (B g p : Nat) (bs : List Int) (x : Int) (w : World) (hp : p = w.heap.size) (hO : IsOut B w g bs 0) (hB : B ≤ w.heap.size) (hlen : bs.length ≤ 900000000000) (h0 : 0 ≤ x) (hx : x ≤ 9223372036854775807) :
    Calls Try.prog 55 #[.pointer (some ⟨g, 0, none⟩), .slice (some ⟨p, 0, none⟩) 1 1] (w.alloc (.cells #[.int .i64 x] 3)) fun r w' => r = .returned (.pointer (some ⟨g, 0, none⟩)) ∧ IsOut B w' g (bs ++ numB x.toNat) 0 ∧ Fr B g w w' := by
  have := num1 B g p bs 0 x w hp hO hB hlen hx
  rw [oNum_ok _ _ (by simpa using h0)] at this
  simpa using this
theorem num2_ok (B g p : Nat) (bs : List Int) (x y : Int) (w : World) (hp : p = w.heap.size) (hO : IsOut B w g bs 0) (hB : B ≤ w.heap.size) (hlen : bs.length ≤ 900000000000) (h0 : 0 ≤ x) (hx : x ≤ 9223372036854775807) (h1 : 0 ≤ y) (hy : y ≤ 9223372036854775807) :
    Calls Try.prog 55 #[.pointer (some ⟨g, 0, none⟩), .slice (some ⟨p, 0, none⟩) 2 2] (w.alloc (.cells #[.int .i64 x, .int .i64 y] 3)) fun r w' => r = .returned (.pointer (some ⟨g, 0, none⟩)) ∧ IsOut B w' g (bs ++ (numB x.toNat ++ numB y.toNat)) 0 ∧ Fr B g w w' := by
  have := num2 B g p bs 0 x y w hp hO hB hlen hx hy
  rw [oNum_ok _ _ (by simpa using ⟨h0, h1⟩)] at this
  simpa using this
theorem byte1_ok (B g p : Nat) (bs : List Int) (x : Int) (w : World) (hp : p = w.heap.size) (hO : IsOut B w g bs 0) (hB : B ≤ w.heap.size) (hlen : bs.length ≤ 900000000000) (h0 : 0 ≤ x) (hx : x ≤ 255) :
    Calls Try.prog 125 #[.pointer (some ⟨g, 0, none⟩), .slice (some ⟨p, 0, none⟩) 1 1] (w.alloc (.cells #[.int .i64 x] 3)) fun r w' => r = .returned (.pointer (some ⟨g, 0, none⟩)) ∧ IsOut B w' g (bs ++ [x]) 0 ∧ Fr B g w w' := by
  have := byte1 B g p bs 0 x w hp hO hB hlen
  rw [oByte_ok _ _ (by simpa using ⟨h0, hx⟩)] at this
  simpa using this
theorem text1_ok (B g p : Nat) (bs : List Int) (x : ByteArray) (w : World) (hp : p = w.heap.size) (hO : IsOut B w g bs 0) (hB : B ≤ w.heap.size) (hlen : bs.length + x.size ≤ 800000000000) :
    Calls Try.prog 126 #[.pointer (some ⟨g, 0, none⟩), .slice (some ⟨p, 0, none⟩) 1 1] (w.alloc (.cells #[.string x] 9)) fun r w' => r = .returned (.pointer (some ⟨g, 0, none⟩)) ∧ IsOut B w' g (bs ++ (numB x.size ++ bytesOf x)) 0 ∧ Fr B g w w' := by
  have := text1 B g p bs 0 x w hp hO hB hlen
  rw [oText_ok] at this
  simpa using this
end Go.Proofs.Ytjjjinpmflghmaa.Obj
namespace Go.Proofs.Ytjjjinpmflghmaa.Keys
open Go.RowKit Go.Proofs.Ytjjjinpmflghmaa.Mem Go.Proofs.Ytjjjinpmflghmaa.Row Go.Proofs.Ytjjjinpmflghmaa.Obj Go.Proofs.YtjjjinpmflghmaaW.PrintWords Go.Proofs.YtjjjinpmflghmaaW.PrintMore Go.Proofs.YtjjjinpmflghmaaW.PrintLast Go.Proofs.Ytjjjinpmflghmaa.PKeysBounds
set_option linter.unusedVariables false
set_option linter.unusedSimpArgs false
/-- The bytes of events; none, if one of them may not be. -/
def layS (l : List E4) : ByteArray := if l.all okE = true then strOfNums (layB l) else ⟨#[]⟩
def layX (l : List E4) : Int := if l.all okE = true then 0 else 1
theorem all_ok {l : List E4} : l.all okE = true ↔ AllOk l := by simp [AllOk]
set_option maxHeartbeats 4000000 in
set_option maxRecDepth 100000 in
theorem klay_calls (A : Option Addr) (c : Nat) (l : List E4) (w : World) (h : BookEv.Src w A l.length l) (hc : l.length ≤ c) (hn : l.length ≤ 1000) :
    Calls Try.prog 99 #[.slice A l.length c] w fun r w' => r = .returned (.tuple #[.string (layS l), .int .i64 (layX l)]) ∧ Below w.heap.size w w' := by
  have HS := Aside0.mk h
  have HC := Aside0.mk hc
  obtain ⟨N, hN⟩ : ∃ N, N = l.length := ⟨_, rfl⟩
  have hN1 : N ≤ 1000 := by omega
  have HN := Aside0.mk hN
  rw [← hN]
  clear h hc hn hN
  have HNUM := Aside0.mk (num1_ok w.heap.size w.heap.size (w.heap.size + 1) [] (N : Int) (w.alloc (.cells #[.slice none 0 0, .int .i64 0] 112)) (by simp) (IsOut.new w) (by simp) (by simp) (by omega) (by omega))
  go_enter Try.func99, Try.ntmps99
  go_wp2_with fail
  refine HNUM.out.mono ?_
  rintro e1 w1 ⟨rfl, hO1, hF1⟩
  have HO1 := Aside0.mk (show IsOut w.heap.size w1 w.heap.size (numB N ++ evsB (l.take 0)) 0 by simpa [evsB] using hO1)
  have HB1 := Aside0.mk (show Below w.heap.size w w1 from (below_alloc (Below.refl _ _) _).trans (hF1.toBelow (by simp) (Nat.le_refl _)))
  clear hO1 hF1 HNUM
  go_wp2_with fail
  go_loopg [15] N (fun kq v15 wr => ∃ (i : Nat), v15 = .int .i64 (i : Int) ∧ Aside0 (i ≤ N ∧ kq = N - i ∧ AllOk (l.take i)) ∧ Aside0 (IsOut w.heap.size wr w.heap.size (numB N ++ evsB (l.take i)) 0) ∧ Aside0 (Below w.heap.size w wr))
  case atStart => exact ⟨0, rfl, ⟨Nat.zero_le _, rfl, fun e he => by simp at he⟩, HO1, HB1⟩
  case round =>
    obtain ⟨i, rfl, HI, HO, HB⟩ := hrel
    clear HO1 HB1
    have hi0 : (0 : Int) ≤ (i : Int) := Int.natCast_nonneg _
    by_cases hlt : i < N
    · have hltI : (i : Int) < (N : Int) := by omega
      obtain ⟨e, he⟩ : ∃ e, l[i]? = some e := ⟨l[i]'(by rw [← HN.out]; exact hlt), by simp⟩
      have HE := Aside0.mk he
      obtain ⟨ad, hA⟩ : ∃ ad, A = some ad := by
        rcases HS.out.2 with h0 | ⟨ad, hA, _⟩
        · have := HN.out; omega
        · exact ⟨ad, hA⟩
      subst hA
      obtain ⟨y0, y1, y2, y3⟩ := src_four (HS.out.below HB.out) he
      have HBE := Aside0.mk (Blk.new wr 38 #[.int .i64 e.k, .string e.s, .int .i64 e.x, .int .i64 e.y])
      have HOE := Aside0.mk (HO.out.alloc (.cells #[.int .i64 e.k, .string e.s, .int .i64 e.x, .int .i64 e.y] 38))
      have HBB := Aside0.mk (below_alloc HB.out (.cells #[.int .i64 e.k, .string e.s, .int .i64 e.x, .int .i64 e.y] 38))
      have hge : w.heap.size ≤ wr.heap.size := HB.out.size
      have HVL := Aside0.mk (keys_Valid.calls e.k e.s e.x e.y (okE e))
      have HV := Aside0.mk (valid_some e)
      clear he HO HB
      go_wp2_with fail
      refine (HVL.out _ HV.out).mono ?_
      rintro e2 w2 ⟨rfl, hb2⟩
      have HBE2 := Aside0.mk (HBE.out.below' hb2)
      have HO2 := Aside0.mk (HOE.out.below hb2)
      have HB2 := Aside0.mk (below_step HBB.out hb2)
      have hg2 : wr.heap.size < w2.heap.size := by have := hb2.size; simp at this; omega
      clear hb2 y0 y1 y2 y3 HBE HOE HBB HVL HV
      obtain ⟨ge, hgeq⟩ : ∃ ge, ge = wr.heap.size := ⟨_, rfl⟩
      rw [← hgeq] at HBE2 hge hg2 ⊢
      clear hgeq
      cases hok : okE e with
      | false =>
        go_wp2
        go_ret2
        have hall : ¬ l.all okE = true := fun h => by
          have := all_ok.1 h e (List.mem_of_getElem? HE.out)
          rw [hok] at this
          cases this
        exact ⟨by rw [layS, layX, if_neg hall, if_neg hall]; rfl, HB2.out⟩
      | true =>
        have HOK := Aside0.mk hok
        have hex := evB_len hok
        have htk : (evsB (l.take i)).length ≤ 40 * 1000 := by
          have h1 := evsB_len HI.out.2.2
          have h2 : (l.take i).length ≤ 1000 := by simp; have := HN.out; omega
          omega
        have hNl : (numB N).length ≤ 9 := numB_len9 (by omega)
        have HLEN := Aside0.mk (show (numB N ++ evsB (l.take i)).length ≤ 50000 by simp; omega)
        have HLE := Aside0.mk (show w.heap.size ≤ w2.heap.size by omega)
        have c0 : w2.cell? ⟨ge, 0, none⟩ = some (.int .i64 e.k) := (HBE2.out.cell 0).trans rfl
        rcases (okE_iff e).1 hok with ⟨hk, hs1, hs2, hx, hy⟩ | ⟨hk, hs1, hx1, hx2, hy1, hy2⟩
        · have HKK := Aside0.mk (And.intro hk (And.intro hx hy))
          rw [hk] at c0
          have HBY := Aside0.mk (byte1_ok w.heap.size w.heap.size w2.heap.size _ 1 w2 rfl HO2.out HLE.out (by have := HLEN.out; omega) (by omega) (by omega))
          clear hok hex htk hNl hk hx hy hge
          go_wp2_with fail
          refine HBY.out.mono ?_
          rintro e3 w3 ⟨rfl, hO3, hF3⟩
          have HO3 := Aside0.mk hO3
          have HBE3 := Aside0.mk (hF3.keep HBE2.out (by have h1 := HB2.out.size; intro e; have h2 := hO3; exact HO2.out.ne (show 38 ≠ 112 by decide) _ _ (e ▸ HBE2.out)) (by decide))
          have HB3 := Aside0.mk (HB2.out.trans (hF3.toBelow HB2.out.size (Nat.le_refl _)))
          clear c0 HBY hO3 hF3
          have c0 : w3.cell? ⟨ge, 0, none⟩ = some (.int .i64 1) := ((show Blk w3 ge 38 _ from HBE3.out).cell 0).trans (by rw [← HKK.out.1]; rfl)
          have c1 : w3.cell? ⟨ge, 1, none⟩ = some (.string e.s) := ((show Blk w3 ge 38 _ from HBE3.out).cell 1).trans rfl
          have HTX := Aside0.mk (text1_ok w.heap.size w.heap.size w3.heap.size _ e.s w3 rfl HO3.out HB3.out.size (by have := HLEN.out; simp only [List.length_append, List.length_singleton] at this ⊢; omega))
          go_wp2_with fail
          refine HTX.out.mono ?_
          rintro e4 w4 ⟨rfl, hO4, hF4⟩
          have HO4 := Aside0.mk hO4
          have HB4 := Aside0.mk (HB3.out.trans (hF4.toBelow HB3.out.size (Nat.le_refl _)))
          clear hO4 hF4 c0 c1 HTX
          go_wp2
          go_roundg (N - (i + 1))
          case measure => have := HI.out.2.1; omega
          case rel => exact ⟨i + 1, by go_num, ⟨by omega, rfl, fun x hx => by
            rw [take_at HE.out] at hx
            rcases List.mem_append.1 hx with hx | hx
            · exact HI.out.2.2 x hx
            · rw [List.mem_singleton.1 hx]; exact HOK.out⟩, ⟨by
            have h1 : numB N ++ evsB (l.take (i + 1)) = (numB N ++ evsB (l.take i)) ++ [1] ++ (numB e.s.size ++ bytesOf e.s) := by
              rw [take_at HE.out, evsB_app, evsB_cons]
              unfold evB
              rw [if_pos HKK.out.1, HKK.out.1]
              simp [evsB]
            rw [h1]
            exact HO4.out⟩, HB4⟩
        · have HKK := Aside0.mk hk
          rw [hk] at c0
          have HBY := Aside0.mk (byte1_ok w.heap.size w.heap.size w2.heap.size _ 2 w2 rfl HO2.out HLE.out (by have := HLEN.out; omega) (by omega) (by omega))
          clear hok hex htk hNl hk hge
          go_wp2_with fail
          refine HBY.out.mono ?_
          rintro e3 w3 ⟨rfl, hO3, hF3⟩
          have HO3 := Aside0.mk hO3
          have HBE3 := Aside0.mk (hF3.keep HBE2.out (by have h1 := HB2.out.size; intro e; have h2 := hO3; exact HO2.out.ne (show 38 ≠ 112 by decide) _ _ (e ▸ HBE2.out)) (by decide))
          have HB3 := Aside0.mk (HB2.out.trans (hF3.toBelow HB2.out.size (Nat.le_refl _)))
          clear c0 HBY hO3 hF3
          have c0 : w3.cell? ⟨ge, 0, none⟩ = some (.int .i64 2) := ((show Blk w3 ge 38 _ from HBE3.out).cell 0).trans (by rw [← HKK.out]; rfl)
          have c2 : w3.cell? ⟨ge, 2, none⟩ = some (.int .i64 e.x) := ((show Blk w3 ge 38 _ from HBE3.out).cell 2).trans rfl
          have c3 : w3.cell? ⟨ge, 3, none⟩ = some (.int .i64 e.y) := ((show Blk w3 ge 38 _ from HBE3.out).cell 3).trans rfl
          have HTX := Aside0.mk (num2_ok w.heap.size w.heap.size w3.heap.size _ e.x e.y w3 rfl HO3.out HB3.out.size (by have := HLEN.out; simp only [List.length_append, List.length_singleton] at this ⊢; omega) (by omega) (by omega) (by omega) (by omega))
          clear hs1 hx1 hx2 hy1 hy2
          go_wp2_with fail
          refine HTX.out.mono ?_
          rintro e4 w4 ⟨rfl, hO4, hF4⟩
          have HO4 := Aside0.mk hO4
          have HB4 := Aside0.mk (HB3.out.trans (hF4.toBelow HB3.out.size (Nat.le_refl _)))
          clear hO4 hF4 c0 c2 c3 HTX
          go_wp2
          go_roundg (N - (i + 1))
          case measure => have := HI.out.2.1; omega
          case rel => exact ⟨i + 1, by go_num, ⟨by omega, rfl, fun x hx => by
            rw [take_at HE.out] at hx
            rcases List.mem_append.1 hx with hx | hx
            · exact HI.out.2.2 x hx
            · rw [List.mem_singleton.1 hx]; exact HOK.out⟩, ⟨by
            have h1 : numB N ++ evsB (l.take (i + 1)) = (numB N ++ evsB (l.take i)) ++ [2] ++ (numB e.x.toNat ++ numB e.y.toNat) := by
              rw [take_at HE.out, evsB_app, evsB_cons]
              unfold evB
              rw [if_neg (by rw [HKK.out]; decide), if_pos HKK.out, HKK.out]
              simp [evsB]
            rw [h1]
            exact HO4.out⟩, HB4⟩
    · have hltI : ¬ (i : Int) < (N : Int) := by omega
      have HED := Aside0.mk (end_ok w.heap.size w.heap.size _ wr HO.out)
      go_wp2_with fail
      refine HED.out.mono ?_
      rintro e9 w9 ⟨rfl, rfl⟩
      go_wp2
      go_ret2
      have hiN : l.take i = l := List.take_of_length_le (by have := HN.out; omega)
      have hall : l.all okE = true := all_ok.2 (by have := HI.out.2.2; rwa [hiN] at this)
      exact ⟨by rw [layS, layX, if_pos hall, if_pos hall, layB, ← HN.out]; first | rfl | (rw [hiN]; rfl), HB.out⟩
end Go.Proofs.Ytjjjinpmflghmaa.Keys
namespace Go.Proofs.Ytjjjinpmflghmaa.Keys
open Go.RowKit Go.Proofs.Ytjjjinpmflghmaa.Mem Go.Proofs.Ytjjjinpmflghmaa.Row Go.Proofs.Ytjjjinpmflghmaa.Obj Go.Proofs.YtjjjinpmflghmaaW.PrintWords Go.Proofs.YtjjjinpmflghmaaW.PrintMore Go.Proofs.YtjjjinpmflghmaaW.PrintLast Go.Proofs.Ytjjjinpmflghmaa.PKeysBounds
set_option linter.unusedVariables false
set_option linter.unusedSimpArgs false
set_option maxHeartbeats 1000000 in
set_option maxRecDepth 100000 in
theorem wrong_calls (e : E4) (w : World) : Calls Try.prog 131 #[.agg #[.int .i64 e.k, .string e.s, .int .i64 e.x, .int .i64 e.y]] w fun r w' => r = .returned (.bool (!okE e)) ∧ Below w.heap.size w w' := by
  have HVL := Aside0.mk (keys_Valid.calls e.k e.s e.x e.y (okE e))
  have HV := Aside0.mk (valid_some e)
  go_enter Try.func131, Try.ntmps131
  go_wp2_with fail
  refine (HVL.out _ HV.out).mono ?_
  rintro e2 w2 ⟨rfl, hb2⟩
  have HB := Aside0.mk (show Below w.heap.size w w2 from below_step (below_alloc (Below.refl _ _) _) hb2)
  clear hb2
  go_wp2
  go_ret
  exact ⟨rfl, HB.out⟩
set_option maxRecDepth 100000 in
/-- An append of a literal to an own row. -/
theorem app_lit2 (W1 : World) (B g n : Nat) (v : Value) (l : List E4) (e : E4) (hBs : B ≤ W1.heap.size) (ho : W1.ownsRow B 38 4 v n (BookEv.fl l)) (hb : Blk W1 g 38 #[.int .i64 e.k, .string e.s, .int .i64 e.x, .int .i64 e.y]) (hn : n ≤ 100000) :
    ∃ v' w', (Builtin.append_ #[24, 24] 24 #[v, .slice (some ⟨g, 0, none⟩) 1 1]).run Try.prog W1 = .ok v' w' ∧ w'.ownsRow B 38 4 v' (n + 1) (BookEv.fl (l ++ [e])) ∧ W1.grownBy w' v.ownBlock := by
  obtain ⟨iC, hiC, hz0, hz1, hz2⟩ := info_parts BookEv.infoE
  obtain ⟨v', w2, hr, ho2, hg, _, _⟩ := run_append_two (P := Try.prog) W1 B 24 24 38 iC _ 4 40 Try.underlying24 hiC hz0 hz1 hz2 rfl (by decide) v n _ ho ⟨g, 0, none⟩ 1 1 (BookEv.vals e) rfl (fun j u hj => by
    rw [BookEv.add0]
    match j, hj with
    | 0, hj => injection hj with hj; subst hj; exact (hb.cell 0).trans rfl
    | 1, hj => injection hj with hj; subst hj; exact (hb.cell 1).trans rfl
    | 2, hj => injection hj with hj; subst hj; exact (hb.cell 2).trans rfl
    | 3, hj => injection hj with hj; subst hj; exact (hb.cell 3).trans rfl) (BookEv.vals_one e) (by decide) (by simp only [maxLen]; omega) (by omega) hBs
  exact ⟨v', w2, hr, by rw [BookEv.fl_app]; simpa [BookEv.fl] using ho2, hg⟩
set_option maxHeartbeats 2000000 in
set_option maxRecDepth 100000 in
theorem idx_calls (A : Option Addr) (c : Nat) (l : List E4) (w : World) (h : BookEv.Src w A l.length l) (hc : l.length ≤ c) (hn : l.length ≤ 1000) :
    Calls Try.prog 140 #[.slice A l.length c, .func (.func 131) #[] #[]] w fun r w' => (∃ k : Int, r = .returned (.int .i64 k) ∧ decide (0 ≤ k) = !l.all okE) ∧ Below w.heap.size w w' := by
  have HS := Aside0.mk h
  obtain ⟨N, hN⟩ : ∃ N, N = l.length := ⟨_, rfl⟩
  have HN := Aside0.mk hN
  have hN1 : N ≤ 1000 := by omega
  rw [← hN]
  clear h hc hn hN
  go_enter Try.func140, Try.ntmps140
  go_wp2_with fail
  go_loopg [8] N (fun kq v8 wr => ∃ (i : Nat), v8 = .int .i64 (i : Int) ∧ Aside0 (i ≤ N ∧ kq = N - i ∧ AllOk (l.take i)) ∧ Aside0 (Below w.heap.size w wr))
  case atStart => exact ⟨0, rfl, ⟨Nat.zero_le _, rfl, fun e he => by simp at he⟩, ⟨Below.refl _ _⟩⟩
  case round =>
    obtain ⟨i, rfl, HI, HB⟩ := hrel
    have hi0 : (0 : Int) ≤ (i : Int) := Int.natCast_nonneg _
    by_cases hlt : i < N
    · have hltI : (i : Int) < (N : Int) := by omega
      obtain ⟨e, he⟩ : ∃ e, l[i]? = some e := ⟨l[i]'(by rw [← HN.out]; exact hlt), by simp⟩
      have HE := Aside0.mk he
      obtain ⟨ad, hA⟩ : ∃ ad, A = some ad := by
        rcases HS.out.2 with h0 | ⟨ad, hA, _⟩
        · have := HN.out; omega
        · exact ⟨ad, hA⟩
      subst hA
      obtain ⟨y0, y1, y2, y3⟩ := src_four (HS.out.below HB.out) he
      clear he
      go_wp2_with fail
      refine (wrong_calls e wr).mono ?_
      rintro e2 w2 ⟨rfl, hb2⟩
      have HB2 := Aside0.mk (below_step HB.out hb2)
      clear hb2 y0 y1 y2 y3
      cases hok : okE e with
      | false =>
        go_wp2
        go_ret
        have hall : ¬ l.all okE = true := fun h => by
          have := all_ok.1 h e (List.mem_of_getElem? HE.out)
          rw [hok] at this
          cases this
        exact ⟨⟨i, rfl, by rw [show l.all okE = false by simpa using hall]; simp⟩, HB2.out⟩
      | true =>
        have HOK := Aside0.mk hok
        clear hok
        go_wp2
        go_roundg (N - (i + 1))
        case measure => have := HI.out.2.1; omega
        case rel => exact ⟨i + 1, by go_num, ⟨by omega, rfl, fun x hx => by
          rw [take_at HE.out] at hx
          rcases List.mem_append.1 hx with hx | hx
          · exact HI.out.2.2 x hx
          · rw [List.mem_singleton.1 hx]; exact HOK.out⟩, HB2⟩
    · have hltI : ¬ (i : Int) < (N : Int) := by omega
      go_wp2
      go_ret
      have hiN : l.take i = l := List.take_of_length_le (by have := HN.out; omega)
      have hall : l.all okE = true := all_ok.2 (by have := HI.out.2.2; rwa [hiN] at this)
      exact ⟨⟨-1, rfl, by rw [hall]; rfl⟩, HB.out⟩
theorem cont_calls (A : Option Addr) (c : Nat) (l : List E4) (w : World) (h : BookEv.Src w A l.length l) (hc : l.length ≤ c) (hn : l.length ≤ 1000) :
    Calls Try.prog 130 #[.slice A l.length c, .func (.func 131) #[] #[]] w fun r w' => r = .returned (.bool (!l.all okE)) ∧ Below w.heap.size w w' := by
  have HI := Aside0.mk (idx_calls A c l w h hc hn)
  obtain ⟨N, hN⟩ : ∃ N, N = l.length := ⟨_, rfl⟩
  rw [← hN] at HI ⊢
  clear h hc hn hN
  go_enter Try.func130, Try.ntmps130
  go_wp2_with fail
  refine HI.out.mono ?_
  rintro e2 w2 ⟨⟨k, rfl, hk⟩, hb2⟩
  have HK := Aside0.mk hk
  clear hk
  go_wp2
  go_ret
  exact ⟨by rw [← HK.out]; rfl, hb2⟩
theorem fg_only {g : Nat} {w w' : World} (h : Fg g w w') : Only [g] w w' := ⟨h.os, h.tape, h.output, h.size, fun j hj hn => h.block j hj (by simpa using hn)⟩
theorem own_in {w : World} {B g : Nat} {v : Value} {l : List E4} {b : ByteArray} {e : Int} (h : BookEv.Own w B v l) (hi : IsIn w g b e) : ∀ k, v.ownBlock = some k → k ∉ [g] := fun k hk hm => by
  have h1 := own_ne h (show Blk w g 151 #[.string b, .int .i64 e] from hi) (show 38 ≠ 151 by decide)
  rw [List.mem_singleton.1 hm] at hk
  exact h1 hk.symm
theorem lay_data {b : ByteArray} {l : List E4} {i : Nat} {b1 : ByteArray} {e1 : Int} (h : IsLay b l) (h1 : i = (iNum b 0).1 ∧ b1 = (iNum b 0).2.1 ∧ e1 = (iNum b 0).2.2) : evsRead i b1 e1 = (l, strOfNums [], 0) := by
  obtain ⟨a, c⟩ := lay_read h
  rw [a] at h1
  obtain ⟨rfl, rfl, rfl⟩ := h1
  exact c
/-- What Read answers. -/
def ReadAns (b : ByteArray) (w : World) (r : Ending) (w' : World) : Prop :=
  (∃ l v, IsLay b l ∧ r = .returned (.tuple #[v, .int .i64 0]) ∧ BookEv.Own w' w.heap.size v l) ∨ ((∀ l, ¬ IsLay b l) ∧ ∃ e : Int, e ≠ 0 ∧ r = .returned (.tuple #[.slice none 0 0, .int .i64 e]))
set_option maxHeartbeats 4000000 in
set_option maxRecDepth 100000 in
theorem kread_calls (b : ByteArray) (w : World) (hs : b.size ≤ 100000) :
    Calls Try.prog 101 #[.string b] w fun r w' => ReadAns b w r w' ∧ Below w.heap.size w w' := by
  have HBS := Aside0.mk hs
  clear hs
  go_enter Try.func101, Try.ntmps101
  go_wp2_with fail
  refine (on_calls b w).mono ?_
  rintro e1 w1 ⟨rfl, hw1⟩
  have HI1 := Aside0.mk (show IsIn w1 w.heap.size b 0 by rw [← hw1]; exact Blk.new w 151 #[.string b, .int .i64 0])
  have HB1 := Aside0.mk (show Below w.heap.size w w1 by rw [← hw1]; exact below_alloc (Below.refl _ _) _)
  clear hw1
  go_wp2_with fail
  refine (inum_calls w.heap.size b 0 w1 HI1.out (by have := HBS.out; omega)).mono ?_
  rintro e2 w2 ⟨rfl, hI2, hF2⟩
  have HB2 := Aside0.mk (HB1.out.trans (hF2.toBelow HB1.out.size (Nat.le_refl _)))
  have HI2 := Aside0.mk hI2
  obtain ⟨N, hN⟩ : ∃ N, N = (iNum b 0).1 := ⟨_, rfl⟩
  obtain ⟨b1, hb1⟩ : ∃ b1, b1 = (iNum b 0).2.1 := ⟨_, rfl⟩
  obtain ⟨e1, he1⟩ : ∃ e1, e1 = (iNum b 0).2.2 := ⟨_, rfl⟩
  have HN := Aside0.mk (And.intro hN (And.intro hb1 he1))
  have HSZ := Aside0.mk (show b1.size ≤ 100000 by rw [hb1]; exact Nat.le_trans (iNum_size b 0) HBS.out)
  rw [← hb1, ← he1] at HI2
  rw [← hN]
  clear hI2 hF2 HI1 HB1 hN hb1 he1
  by_cases h40 : 40 < (N : Int)
  · go_wp2
    go_ret2
    refine ⟨.inr ⟨fun l hl => ?_, 3, by decide, rfl⟩, HB2.out⟩
    have := (lay_read hl).1
    have h2 := HN.out.1
    have h3 := hl.2.1
    rw [this] at h2
    dsimp only at h2
    omega
  · have h40N : N ≤ 40 := by omega
    go_wp2_with fail
    go_loopg [6, 16] N (fun kq v6 v16 wr => ∃ (i : Nat) (A : Option Addr) (c : Nat), v6 = .slice A i c ∧ v16 = .int .i64 (i : Int) ∧ Aside0 (i ≤ N ∧ kq = N - i) ∧ Aside0 (BookEv.Own wr w.heap.size (.slice A i c) (evsRead i b1 e1).1) ∧ Aside0 (IsIn wr w.heap.size (evsRead i b1 e1).2.1 (evsRead i b1 e1).2.2) ∧ Aside0 (Below w.heap.size w wr))
    case atStart => exact ⟨0, none, 0, rfl, rfl, ⟨Nat.zero_le _, rfl⟩, ⟨BookEv.Own.nil _ _⟩, HI2, HB2⟩
    case round =>
      obtain ⟨i, A, c, rfl, rfl, HI, HOW, HIN, HB⟩ := hrel
      clear HB2 HI2
      have hi0 : (0 : Int) ≤ (i : Int) := Int.natCast_nonneg _
      by_cases hlt : i < N
      · have hltI : (i : Int) < (N : Int) := by omega
        obtain ⟨lr, hlr⟩ : ∃ lr, lr = (evsRead i b1 e1).1 := ⟨_, rfl⟩
        obtain ⟨br, hbr⟩ : ∃ br, br = (evsRead i b1 e1).2.1 := ⟨_, rfl⟩
        obtain ⟨er, her⟩ : ∃ er, er = (evsRead i b1 e1).2.2 := ⟨_, rfl⟩
        have HR := Aside0.mk (And.intro hlr (And.intro hbr her))
        have HLN := Aside0.mk (show lr.length = i by rw [hlr, evsRead_len])
        have HZ := Aside0.mk (show br.size ≤ 100000 by rw [hbr]; exact Nat.le_trans (evsRead_size _ _ _) HSZ.out)
        rw [← hlr] at HOW
        rw [← hbr, ← her] at HIN
        clear hlr hbr her
        go_wp2_with fail
        refine (ibyte_calls w.heap.size br er wr HIN.out (by have := HZ.out; omega)).mono ?_
        rintro e3 w3 ⟨rfl, hI3, hF3⟩
        obtain ⟨K, hK⟩ : ∃ K, K = (iByte br er).1 := ⟨_, rfl⟩
        obtain ⟨b3, hb3⟩ : ∃ b3, b3 = (iByte br er).2.1 := ⟨_, rfl⟩
        obtain ⟨x3, hx3⟩ : ∃ x3, x3 = (iByte br er).2.2 := ⟨_, rfl⟩
        have HK := Aside0.mk (And.intro hK (And.intro hb3 hx3))
        have HZ3 := Aside0.mk (show b3.size ≤ 100000 by rw [hb3]; exact Nat.le_trans (iByte_size _ _) HZ.out)
        rw [← hb3, ← hx3] at hI3
        rw [← hK]
        have HOW3 := Aside0.mk (HOW.out.only (gs := [w.heap.size]) (fg_only hF3) (own_in HOW.out HIN.out))
        have HB3 := Aside0.mk (HB.out.trans (hF3.toBelow HB.out.size (Nat.le_refl _)))
        have HIN4 := Aside0.mk (hI3.alloc (.cells #[.int .i64 K, .string ⟨#[]⟩, .int .i64 0, .int .i64 0] 38))
        have HOW4 := Aside0.mk (HOW3.out.below (below_alloc (Below.refl _ _) (.cells #[.int .i64 K, .string ⟨#[]⟩, .int .i64 0, .int .i64 0] 38)))
        have HB4 := Aside0.mk (below_alloc HB3.out (.cells #[.int .i64 K, .string ⟨#[]⟩, .int .i64 0, .int .i64 0] 38))
        have HBE := Aside0.mk (Blk.new w3 38 #[.int .i64 K, .string ⟨#[]⟩, .int .i64 0, .int .i64 0])
        have hge : w.heap.size < w3.heap.size := blk_lt hI3
        have HKL := Aside0.mk (show ∀ k, (Value.slice A i c).ownBlock = some k → k < w3.heap.size from own_lt HOW3.out)
        clear hI3 hF3 hK hb3 hx3 HOW HIN HB HOW3 HB3
        go_upto_block 2 with (fail)
        obtain ⟨w4, hw4⟩ : ∃ w4, w4 = w3.alloc (.cells #[.int .i64 K, .string ⟨#[]⟩, .int .i64 0, .int .i64 0] 38) := ⟨_, rfl⟩
        obtain ⟨ge, hgeq⟩ : ∃ ge, ge = w3.heap.size := ⟨_, rfl⟩
        rw [← hw4] at HIN4 HOW4 HB4 HBE ⊢
        rw [← hgeq] at HBE hge HKL ⊢
        clear hw4 hgeq
        go_cut [6, 16] from 16 to 40 (fun v6 v16 wc => ∃ (ev : E4) (b4 : ByteArray) (x4 : Int), v6 = .slice A i c ∧ v16 = .int .i64 (i : Int) ∧ Aside0 (evRead br er = (ev, b4, x4)) ∧ Aside0 (Blk wc ge 38 #[.int .i64 ev.k, .string ev.s, .int .i64 ev.x, .int .i64 ev.y]) ∧ Aside0 (IsIn wc w.heap.size b4 x4) ∧ Aside0 (BookEv.Own wc w.heap.size (.slice A i c) lr) ∧ Aside0 (Below w.heap.size w wc))
        case first =>
          by_cases hk1 : K = 1
          · subst hk1
            go_wp2_with fail
            refine (itext_calls' w.heap.size b3 x3 w4 HIN4.out (by have := HZ3.out; omega)).mono ?_
            rintro e5 w5 ⟨rfl, hI5, hF5⟩
            obtain ⟨S, hS⟩ : ∃ S, S = (iText b3 x3).1 := ⟨_, rfl⟩
            obtain ⟨b5, hb5⟩ : ∃ b5, b5 = (iText b3 x3).2.1 := ⟨_, rfl⟩
            obtain ⟨x5, hx5⟩ : ∃ x5, x5 = (iText b3 x3).2.2 := ⟨_, rfl⟩
            have HT := Aside0.mk (And.intro hS (And.intro hb5 hx5))
            rw [← hb5, ← hx5] at hI5
            rw [← hS]
            have HI5 := Aside0.mk hI5
            have HBE5 := Aside0.mk (show Blk w5 ge 38 _ from hF5.keep HBE.out (by omega))
            have HOW5 := Aside0.mk (HOW4.out.only (fg_only hF5) (own_in HOW4.out HIN4.out))
            have HB5 := Aside0.mk (HB4.out.trans (hF5.toBelow HB4.out.size (Nat.le_refl _)))
            have c1 := (HBE5.out.cell 1).trans (show _ = some (Value.string ⟨#[]⟩) from rfl)
            have f1 := HBE5.out.frozen 1
            clear hI5 hF5 hS hb5 hx5
            go_wp2
            go_meet
            case rel => exact ⟨⟨1, S, 0, 0⟩, b5, x5, rfl, rfl, ⟨by unfold evRead; rw [← HK.out.1, if_pos rfl, ← HK.out.2.1, ← HK.out.2.2, ← HT.out.1, ← HT.out.2.1, ← HT.out.2.2]⟩, ⟨HBE5.out.set_ 1 _⟩,
              ⟨(show Blk w5 w.heap.size 151 _ from HI5.out).far (p := ⟨ge, 1, none⟩) (by simp only; omega) _⟩, ⟨HOW5.out.only ((Only.refl [ge] w5).setCell _ _ (.inl (by simp))) (fun k hk hm => by have := HKL.out k hk; simp at hm; omega)⟩, ⟨HB5.out.setCell (p := ⟨ge, 1, none⟩) (by simp only; omega) _⟩⟩
          by_cases hk2 : K = 2
          · subst hk2
            go_wp2_with fail
            refine (inum_calls w.heap.size b3 x3 w4 HIN4.out (by have := HZ3.out; omega)).mono ?_
            rintro e5 w5 ⟨rfl, hI5, hF5⟩
            obtain ⟨X, hX⟩ : ∃ X, X = (iNum b3 x3).1 := ⟨_, rfl⟩
            obtain ⟨b5, hb5⟩ : ∃ b5, b5 = (iNum b3 x3).2.1 := ⟨_, rfl⟩
            obtain ⟨x5, hx5⟩ : ∃ x5, x5 = (iNum b3 x3).2.2 := ⟨_, rfl⟩
            have HT := Aside0.mk (And.intro hX (And.intro hb5 hx5))
            have HZ5 := Aside0.mk (show b5.size ≤ 100000 by rw [hb5]; exact Nat.le_trans (iNum_size _ _) HZ3.out)
            rw [← hb5, ← hx5] at hI5
            rw [← hX]
            have HBE5 := Aside0.mk ((show Blk w5 ge 38 _ from hF5.keep HBE.out (by omega)).set_ 2 (.int .i64 (X : Int)))
            have HI5 := Aside0.mk ((show Blk w5 w.heap.size 151 _ from hI5).far (p := ⟨ge, 2, none⟩) (by simp only; omega) (.int .i64 (X : Int)))
            have HOW5 := Aside0.mk ((HOW4.out.only (fg_only hF5) (own_in HOW4.out HIN4.out)).only ((Only.refl [ge] w5).setCell ⟨ge, 2, none⟩ (.int .i64 (X : Int)) (.inl (by simp))) (fun k hk hm => by have := HKL.out k hk; simp at hm; omega))
            have HB5 := Aside0.mk ((HB4.out.trans (hF5.toBelow HB4.out.size (Nat.le_refl _))).setCell (p := ⟨ge, 2, none⟩) (by simp only; omega) (.int .i64 (X : Int)))
            have c2 := ((show Blk w5 ge 38 _ from hF5.keep HBE.out (by omega)).cell 2).trans (show _ = some (Value.int .i64 0) from rfl)
            have f2 := (show Blk w5 ge 38 _ from hF5.keep HBE.out (by omega)).frozen 2
            clear hI5 hF5 hX hb5 hx5
            go_wp2_with fail
            clear c2 f2
            generalize w5.setCell ⟨ge, 2, none⟩ (.int .i64 (X : Int)) = W5 at HBE5 HI5 HOW5 HB5 ⊢
            refine (inum_calls w.heap.size b5 x5 W5 HI5.out (by have := HZ5.out; omega)).mono ?_
            rintro e6 w6 ⟨rfl, hI6, hF6⟩
            obtain ⟨Y, hY⟩ : ∃ Y, Y = (iNum b5 x5).1 := ⟨_, rfl⟩
            obtain ⟨b6, hb6⟩ : ∃ b6, b6 = (iNum b5 x5).2.1 := ⟨_, rfl⟩
            obtain ⟨x6, hx6⟩ : ∃ x6, x6 = (iNum b5 x5).2.2 := ⟨_, rfl⟩
            have HT6 := Aside0.mk (And.intro hY (And.intro hb6 hx6))
            rw [← hb6, ← hx6] at hI6
            rw [← hY]
            have HBE6 := Aside0.mk (show Blk w6 ge 38 _ from hF6.keep HBE5.out (by omega))
            have HI6 := Aside0.mk hI6
            have HOW6 := Aside0.mk (HOW5.out.only (fg_only hF6) (own_in HOW5.out (show IsIn W5 w.heap.size b5 x5 from HI5.out)))
            have HB6 := Aside0.mk (HB5.out.trans (hF6.toBelow HB5.out.size (Nat.le_refl _)))
            have c3 := (HBE6.out.cell 3).trans (show _ = some (Value.int .i64 0) from rfl)
            have f3 := HBE6.out.frozen 3
            clear hI6 hF6 hY hb6 hx6
            go_wp2
            go_meet
            case rel => exact ⟨⟨2, ⟨#[]⟩, X, Y⟩, b6, x6, rfl, rfl, ⟨by unfold evRead; rw [← HK.out.1, if_neg (by decide), if_pos rfl, ← HK.out.2.1, ← HK.out.2.2, ← HT.out.1, ← HT.out.2.1, ← HT.out.2.2, ← HT6.out.1]; exact Prod.ext rfl (Prod.ext HT6.out.2.1.symm HT6.out.2.2.symm)⟩, ⟨HBE6.out.set_ 3 _⟩,
              ⟨(show Blk w6 w.heap.size 151 _ from HI6.out).far (p := ⟨ge, 3, none⟩) (by simp only; omega) _⟩, ⟨HOW6.out.only ((Only.refl [ge] w6).setCell _ _ (.inl (by simp))) (fun k hk hm => by have := HKL.out k hk; simp at hm; omega)⟩, ⟨HB6.out.setCell (p := ⟨ge, 3, none⟩) (by simp only; omega) _⟩⟩
          go_wp2
          go_meet
          case rel => exact ⟨⟨K, ⟨#[]⟩, 0, 0⟩, b3, x3, rfl, rfl, ⟨by unfold evRead; rw [← HK.out.1, if_neg hk1, if_neg hk2]; exact Prod.ext rfl (Prod.ext HK.out.2.1.symm HK.out.2.2.symm)⟩, HBE, HIN4, HOW4, HB4⟩
        case rest =>
          obtain ⟨ev, b4, x4, rfl, rfl, HEV, HBV, HIN5, HOW5, HB5⟩ := hcut
          clear HIN4 HOW4 HB4 HBE
          have c0 := (HBV.out.cell 0).trans (show _ = some (Value.int .i64 ev.k) from rfl)
          have c1 := (HBV.out.cell 1).trans (show _ = some (Value.string ev.s) from rfl)
          have c2 := (HBV.out.cell 2).trans (show _ = some (Value.int .i64 ev.x) from rfl)
          have c3 := (HBV.out.cell 3).trans (show _ = some (Value.int .i64 ev.y) from rfl)
          have hsz := HB5.out.size
          have hown := HOW5.out
          have how0 : wc.ownsRow w.heap.size 38 4 (.slice A i c) i (BookEv.fl lr) := by
            have := hown
            unfold BookEv.Own at this
            rwa [HLN.out] at this
          have hne0 := own_in hown HIN5.out
          obtain ⟨v6, w6, hr6, ho6, hg6⟩ := app_lit2 (wc.alloc (.cells #[.int .i64 ev.k, .string ev.s, .int .i64 ev.x, .int .i64 ev.y] 38)) w.heap.size wc.heap.size i (.slice A i c) lr ev (by simp; omega) (how0.alloc _) (Blk.new _ _ _) (by omega)
          obtain ⟨A6, C6, rfl⟩ := row_sl ho6
          have HR6 := Aside0.mk hr6
          have hgl : w.heap.size < wc.heap.size := blk_lt HIN5.out
          have HIN6 := Aside0.mk (show IsIn w6 w.heap.size b4 x4 from (hg6.block w.heap.size (by simp; omega) (fun e => hne0 w.heap.size e.symm (by simp))).trans (HIN5.out.alloc _))
          have hbg : Below w.heap.size (wc.alloc (.cells #[.int .i64 ev.k, .string ev.s, .int .i64 ev.x, .int .i64 ev.y] 38)) w6 := ⟨hg6.os, hg6.tape, hg6.output, hg6.size, fun k hk => hg6.block k (by simp; omega) (fun he => by have := own_base how0 k he.symm; omega)⟩
          have HB6 := Aside0.mk (show Below w.heap.size w w6 from (below_alloc HB5.out (.cells #[.int .i64 ev.k, .string ev.s, .int .i64 ev.x, .int .i64 ev.y] 38)).trans hbg)
          have HOW6 := Aside0.mk (show BookEv.Own w6 w.heap.size (.slice A6 (i + 1) C6) (lr ++ [ev]) by unfold BookEv.Own; rw [List.length_append, HLN.out]; exact ho6)
          clear hown how0 hr6 ho6 hg6 hgl hne0 hsz hbg
          go_wp2_with (first | (at_builtin; refine Aside0.out ?_))
          refine ⟨?_⟩
          refine BookEv.append_of rfl (.tmp 36) (.tmp 38) 24 24 (.slice A i c) (.slice (some ⟨wc.heap.size, 0, none⟩) 1 1) rfl rfl rfl HR6.out ?_
          clear c0 c1 c2 c3
          go_wp2
          go_roundg (N - (i + 1))
          case measure => have := HI.out.2; omega
          case rel => exact ⟨i + 1, A6, C6, rfl, by go_num, ⟨by omega, rfl⟩, ⟨by rw [evsRead_snoc, ← HR.out.1, ← HR.out.2.1, ← HR.out.2.2, HEV.out]; exact HOW6.out⟩, ⟨by rw [evsRead_snoc, ← HR.out.2.1, ← HR.out.2.2, HEV.out]; exact HIN6.out⟩, HB6⟩
      · have hltI : ¬ (i : Int) < (N : Int) := by omega
        obtain rfl : i = N := by have := HI.out.1; omega
        obtain ⟨l, hl⟩ : ∃ l, l = (evsRead i b1 e1).1 := ⟨_, rfl⟩
        obtain ⟨b2, hb2⟩ : ∃ b2, b2 = (evsRead i b1 e1).2.1 := ⟨_, rfl⟩
        obtain ⟨e2, he2⟩ : ∃ e2, e2 = (evsRead i b1 e1).2.2 := ⟨_, rfl⟩
        have HL := Aside0.mk (And.intro hl (And.intro hb2 he2))
        have HLN := Aside0.mk (show l.length = i by rw [hl, evsRead_len])
        rw [← hl] at HOW
        rw [← hb2, ← he2] at HIN
        clear hl hb2 he2
        go_wp2_with fail
        refine (iend_calls w.heap.size b2 e2 wr HIN.out).mono ?_
        rintro e3 w3 ⟨rfl, hI3, hF3⟩
        have HB3 := Aside0.mk (HB.out.trans (hF3.toBelow HB.out.size (Nat.le_refl _)))
        have HOW3 := Aside0.mk (HOW.out.only (fg_only hF3) (own_in HOW.out HIN.out))
        obtain ⟨x, hx⟩ : ∃ x, x = (if e2 = 0 then (if b2.size = 0 then (0 : Int) else 3) else e2) := ⟨_, rfl⟩
        have HX := Aside0.mk hx
        rw [← hx]
        clear hI3 hF3 hx
        by_cases hx0 : x = 0
        · subst hx0
          have hown := HOW3.out
          obtain ⟨A', c', he', hlc, hsrc, _⟩ := hown.src
          obtain ⟨rfl, rfl⟩ : A = A' ∧ c = c' := by injection he' with h1 _ h2; exact ⟨h1, h2⟩
          have hcc := cont_calls A c l w3 hsrc hlc (by rw [HLN.out]; omega)
          rw [HLN.out] at hcc
          have HCC := Aside0.mk hcc
          clear hown he' hlc hsrc hcc
          cases hall : l.all okE with
          | true =>
            have HALL := Aside0.mk hall
            rw [hall] at HCC
            clear hall
            go_wp2_with fail
            refine HCC.out.mono ?_
            rintro e4 w4 ⟨rfl, hb4⟩
            go_wp2
            go_ret2
            refine ⟨.inl ⟨l, _, ?_, rfl, HOW3.out.below hb4⟩, below_step HB3.out hb4⟩
            have h1 := HN.out
            have h2 := HL.out
            have h3 := read_lay (b := b) (by rw [← h1.1]; omega) (by rw [← h1.1, ← h1.2.1, ← h1.2.2, ← h2.2.1, ← h2.2.2]; exact HX.out.symm) (by rw [← h1.1, ← h1.2.1, ← h1.2.2, ← h2.1]; exact all_ok.1 HALL.out)
            rw [← h1.1, ← h1.2.1, ← h1.2.2, ← h2.1] at h3
            exact h3
          | false =>
            have HALL := Aside0.mk hall
            rw [hall] at HCC
            clear hall
            go_wp2_with fail
            refine HCC.out.mono ?_
            rintro e4 w4 ⟨rfl, hb4⟩
            go_wp2
            go_ret2
            refine ⟨.inr ⟨fun l' hl' => ?_, 3, by decide, rfl⟩, below_step HB3.out hb4⟩
            have h2 := HL.out.1
            rw [lay_data hl' HN.out] at h2
            have h3 := HALL.out
            rw [h2, all_ok.2 hl'.1] at h3
            cases h3
        · have hx0b : (x != 0) = true := by simpa using hx0
          go_wp2
          go_ret2
          refine ⟨.inr ⟨fun l' hl' => ?_, x, hx0, rfl⟩, HB3.out⟩
          have h2 := HL.out
          rw [lay_data hl' HN.out] at h2
          apply hx0
          rw [HX.out, h2.2.2, if_pos rfl, h2.2.1, if_pos (by rw [strOfNums_size]; rfl)]
end Go.Proofs.Ytjjjinpmflghmaa.Keys
