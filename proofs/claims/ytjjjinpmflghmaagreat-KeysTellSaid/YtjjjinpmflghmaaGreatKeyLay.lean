/- Events laid: the walk. Conditions: those in each theorem. -/
import Derived.Test.YtjjjinpmflghmaaGreatKeyLayP
import Derived.Test.YtjjjinpmflghmaaGreatMB
import Derived.Test.YtjjjinpmflghmaaGreatRefKA
namespace Go.Proofs.YtjjjinpmflghmaaGreat.Obj
open Go.RowKit Go.Proofs.YtjjjinpmflghmaaGreatW.PrintWords Go.Proofs.YtjjjinpmflghmaaGreatW.PrintMore
theorem num1_ok (B g p : Nat) (bs : List Int) (x : Int) (w : World) (hp : p = w.heap.size) (hO : IsOut B w g bs 0) (hB : B ≤ w.heap.size) (hlen : bs.length ≤ 900000000000) (h0 : 0 ≤ x) (hx : x ≤ 9223372036854775807) :
    Calls Tryz.prog 24 #[.pointer (some ⟨g, 0, none⟩), .slice (some ⟨p, 0, none⟩) 1 1] (w.alloc (.cells #[.int .i64 x] 3)) fun r w' => r = .returned (.pointer (some ⟨g, 0, none⟩)) ∧ IsOut B w' g (bs ++ numB x.toNat) 0 ∧ Fr B g w w' := by
  have := num1 B g p bs 0 x w hp hO hB hlen hx
  rw [oNum_ok _ _ (by simpa using h0)] at this
  simpa using this
theorem num2_ok (B g p : Nat) (bs : List Int) (x y : Int) (w : World) (hp : p = w.heap.size) (hO : IsOut B w g bs 0) (hB : B ≤ w.heap.size) (hlen : bs.length ≤ 900000000000) (h0 : 0 ≤ x) (hx : x ≤ 9223372036854775807) (h1 : 0 ≤ y) (hy : y ≤ 9223372036854775807) :
    Calls Tryz.prog 24 #[.pointer (some ⟨g, 0, none⟩), .slice (some ⟨p, 0, none⟩) 2 2] (w.alloc (.cells #[.int .i64 x, .int .i64 y] 3)) fun r w' => r = .returned (.pointer (some ⟨g, 0, none⟩)) ∧ IsOut B w' g (bs ++ (numB x.toNat ++ numB y.toNat)) 0 ∧ Fr B g w w' := by
  have := num2 B g p bs 0 x y w hp hO hB hlen hx hy
  rw [oNum_ok _ _ (by simpa using ⟨h0, h1⟩)] at this
  simpa using this
theorem byte1_ok (B g p : Nat) (bs : List Int) (x : Int) (w : World) (hp : p = w.heap.size) (hO : IsOut B w g bs 0) (hB : B ≤ w.heap.size) (hlen : bs.length ≤ 900000000000) (h0 : 0 ≤ x) (hx : x ≤ 255) :
    Calls Tryz.prog 25 #[.pointer (some ⟨g, 0, none⟩), .slice (some ⟨p, 0, none⟩) 1 1] (w.alloc (.cells #[.int .i64 x] 3)) fun r w' => r = .returned (.pointer (some ⟨g, 0, none⟩)) ∧ IsOut B w' g (bs ++ [x]) 0 ∧ Fr B g w w' := by
  have := byte1 B g p bs 0 x w hp hO hB hlen
  rw [oByte_ok _ _ (by simpa using ⟨h0, hx⟩)] at this
  simpa using this
theorem text1_ok (B g p : Nat) (bs : List Int) (x : ByteArray) (w : World) (hp : p = w.heap.size) (hO : IsOut B w g bs 0) (hB : B ≤ w.heap.size) (hlen : bs.length + x.size ≤ 800000000000) :
    Calls Tryz.prog 26 #[.pointer (some ⟨g, 0, none⟩), .slice (some ⟨p, 0, none⟩) 1 1] (w.alloc (.cells #[.string x] 9)) fun r w' => r = .returned (.pointer (some ⟨g, 0, none⟩)) ∧ IsOut B w' g (bs ++ (numB x.size ++ bytesOf x)) 0 ∧ Fr B g w w' := by
  have := text1 B g p bs 0 x w hp hO hB hlen
  rw [oText_ok] at this
  simpa using this
end Go.Proofs.YtjjjinpmflghmaaGreat.Obj
namespace Go.Proofs.YtjjjinpmflghmaaGreat.Keys
open Go.RowKit Go.Proofs.YtjjjinpmflghmaaGreat.Mem Go.Proofs.YtjjjinpmflghmaaGreat.Row Go.Proofs.YtjjjinpmflghmaaGreat.Obj Go.Proofs.YtjjjinpmflghmaaGreatW.PrintWords Go.Proofs.YtjjjinpmflghmaaGreatW.PrintMore Go.Proofs.YtjjjinpmflghmaaGreatW.PrintLast Go.Proofs.YtjjjinpmflghmaaGreat.PKeysTell
set_option linter.unusedVariables false
set_option linter.unusedSimpArgs false
/-- The bytes of events; none, if one of them may not be. -/
def layS (l : List E4) : ByteArray := if l.all okE = true then strOfNums (layB l) else ⟨#[]⟩
def layX (l : List E4) : Int := if l.all okE = true then 0 else 1
theorem all_ok {l : List E4} : l.all okE = true ↔ AllOk l := by simp [AllOk]
set_option maxHeartbeats 4000000 in
set_option maxRecDepth 100000 in
theorem klay_calls (A : Option Addr) (c : Nat) (l : List E4) (w : World) (h : BookEv.Src w A l.length l) (hc : l.length ≤ c) (hn : l.length ≤ 1000) :
    Calls Tryz.prog 8 #[.slice A l.length c] w fun r w' => r = .returned (.tuple #[.string (layS l), .int .i64 (layX l)]) ∧ Below w.heap.size w w' := by
  have HS := Aside0.mk h
  have HC := Aside0.mk hc
  obtain ⟨N, hN⟩ : ∃ N, N = l.length := ⟨_, rfl⟩
  have hN1 : N ≤ 1000 := by omega
  have HN := Aside0.mk hN
  rw [← hN]
  clear h hc hn hN
  have HNUM := Aside0.mk (num1_ok w.heap.size w.heap.size (w.heap.size + 1) [] (N : Int) (w.alloc (.cells #[.slice none 0 0, .int .i64 0] 74)) (by simp) (IsOut.new w) (by simp) (by simp) (by omega) (by omega))
  go_enter Tryz.func8, Tryz.ntmps8
  go_wp2_with fail
  refine HNUM.out.mono ?_
  rintro e1 w1 ⟨rfl, hO1, hF1⟩
  have HO1 := Aside0.mk (show IsOut w.heap.size w1 w.heap.size (numB N ++ evsB (l.take 0)) 0 by simpa [evsB] using hO1)
  have HB1 := Aside0.mk (show Below w.heap.size w w1 from (below_alloc (Below.refl _ _) _).trans (hF1.toBelow (by simp) (Nat.le_refl _)))
  clear hO1 hF1 HNUM
  go_wp2_with fail
  go_loopg [15] N (fun kq v15 wr => ∃ (i : Nat), v15 = .int .i64 (i : Int) ∧ Aside0 (i ≤ N ∧ kq = N - i ∧ AllOk (l.take i)) ∧ Aside0 (IsOut w.heap.size wr w.heap.size (numB N ++ evsB (l.take i)) 0) ∧ Aside0 (Below w.heap.size w wr))
  case atStart => exact ⟨0, rfl, ⟨Nat.zero_le _, rfl, fun e he => by simp at he⟩, HO1, HB1⟩
  case round =>
    obtain ⟨i, rfl, HI, HO, HB⟩ := hrel
    clear HO1 HB1
    have hi0 : (0 : Int) ≤ (i : Int) := Int.natCast_nonneg _
    by_cases hlt : i < N
    · have hltI : (i : Int) < (N : Int) := by omega
      obtain ⟨e, he⟩ : ∃ e, l[i]? = some e := ⟨l[i]'(by rw [← HN.out]; exact hlt), by simp⟩
      have HE := Aside0.mk he
      obtain ⟨ad, hA⟩ : ∃ ad, A = some ad := by
        rcases HS.out.2 with h0 | ⟨ad, hA, _⟩
        · have := HN.out; omega
        · exact ⟨ad, hA⟩
      subst hA
      obtain ⟨y0, y1, y2, y3⟩ := src_four (HS.out.below HB.out) he
      have HBE := Aside0.mk (Blk.new wr 25 #[.int .i64 e.k, .string e.s, .int .i64 e.x, .int .i64 e.y])
      have HOE := Aside0.mk (HO.out.alloc (.cells #[.int .i64 e.k, .string e.s, .int .i64 e.x, .int .i64 e.y] 25))
      have HBB := Aside0.mk (below_alloc HB.out (.cells #[.int .i64 e.k, .string e.s, .int .i64 e.x, .int .i64 e.y] 25))
      have hge : w.heap.size ≤ wr.heap.size := HB.out.size
      have HVL := Aside0.mk (keys_Valid.calls e.k e.s e.x e.y (okE e))
      have HV := Aside0.mk (valid_some e)
      clear he HO HB
      go_wp2_with fail
      refine (HVL.out _ HV.out).mono ?_
      rintro e2 w2 ⟨rfl, hb2⟩
      have HBE2 := Aside0.mk (HBE.out.below' hb2)
      have HO2 := Aside0.mk (HOE.out.below hb2)
      have HB2 := Aside0.mk (below_step HBB.out hb2)
      have hg2 : wr.heap.size < w2.heap.size := by have := hb2.size; simp at this; omega
      clear hb2 y0 y1 y2 y3 HBE HOE HBB HVL HV
      obtain ⟨ge, hgeq⟩ : ∃ ge, ge = wr.heap.size := ⟨_, rfl⟩
      rw [← hgeq] at HBE2 hge hg2 ⊢
      clear hgeq
      cases hok : okE e with
      | false =>
        go_wp2
        go_ret2
        have hall : ¬ l.all okE = true := fun h => by
          have := all_ok.1 h e (List.mem_of_getElem? HE.out)
          rw [hok] at this
          cases this
        exact ⟨by rw [layS, layX, if_neg hall, if_neg hall]; rfl, HB2.out⟩
      | true =>
        have HOK := Aside0.mk hok
        have hex := evB_len hok
        have htk : (evsB (l.take i)).length ≤ 40 * 1000 := by
          have h1 := evsB_len HI.out.2.2
          have h2 : (l.take i).length ≤ 1000 := by simp; have := HN.out; omega
          omega
        have hNl : (numB N).length ≤ 9 := numB_len9 (by omega)
        have HLEN := Aside0.mk (show (numB N ++ evsB (l.take i)).length ≤ 50000 by simp; omega)
        have HLE := Aside0.mk (show w.heap.size ≤ w2.heap.size by omega)
        have c0 : w2.cell? ⟨ge, 0, none⟩ = some (.int .i64 e.k) := (HBE2.out.cell 0).trans rfl
        rcases (okE_iff e).1 hok with ⟨hk, hs1, hs2, hx, hy⟩ | ⟨hk, hs1, hx1, hx2, hy1, hy2⟩
        · have HKK := Aside0.mk (And.intro hk (And.intro hx hy))
          rw [hk] at c0
          have HBY := Aside0.mk (byte1_ok w.heap.size w.heap.size w2.heap.size _ 1 w2 rfl HO2.out HLE.out (by have := HLEN.out; omega) (by omega) (by omega))
          clear hok hex htk hNl hk hx hy hge
          go_wp2_with fail
          refine HBY.out.mono ?_
          rintro e3 w3 ⟨rfl, hO3, hF3⟩
          have HO3 := Aside0.mk hO3
          have HBE3 := Aside0.mk (hF3.keep HBE2.out (by have h1 := HB2.out.size; intro e; have h2 := hO3; exact HO2.out.ne (show 25 ≠ 74 by decide) _ _ (e ▸ HBE2.out)) (by decide))
          have HB3 := Aside0.mk (HB2.out.trans (hF3.toBelow HB2.out.size (Nat.le_refl _)))
          clear c0 HBY hO3 hF3
          have c0 : w3.cell? ⟨ge, 0, none⟩ = some (.int .i64 1) := ((show Blk w3 ge 25 _ from HBE3.out).cell 0).trans (by rw [← HKK.out.1]; rfl)
          have c1 : w3.cell? ⟨ge, 1, none⟩ = some (.string e.s) := ((show Blk w3 ge 25 _ from HBE3.out).cell 1).trans rfl
          have HTX := Aside0.mk (text1_ok w.heap.size w.heap.size w3.heap.size _ e.s w3 rfl HO3.out HB3.out.size (by have := HLEN.out; simp only [List.length_append, List.length_singleton] at this ⊢; omega))
          go_wp2_with fail
          refine HTX.out.mono ?_
          rintro e4 w4 ⟨rfl, hO4, hF4⟩
          have HO4 := Aside0.mk hO4
          have HB4 := Aside0.mk (HB3.out.trans (hF4.toBelow HB3.out.size (Nat.le_refl _)))
          clear hO4 hF4 c0 c1 HTX
          go_wp2
          go_roundg (N - (i + 1))
          case measure => have := HI.out.2.1; omega
          case rel => exact ⟨i + 1, by go_num, ⟨by omega, rfl, fun x hx => by
            rw [take_at HE.out] at hx
            rcases List.mem_append.1 hx with hx | hx
            · exact HI.out.2.2 x hx
            · rw [List.mem_singleton.1 hx]; exact HOK.out⟩, ⟨by
            have h1 : numB N ++ evsB (l.take (i + 1)) = (numB N ++ evsB (l.take i)) ++ [1] ++ (numB e.s.size ++ bytesOf e.s) := by
              rw [take_at HE.out, evsB_app, evsB_cons]
              unfold evB
              rw [if_pos HKK.out.1, HKK.out.1]
              simp [evsB]
            rw [h1]
            exact HO4.out⟩, HB4⟩
        · have HKK := Aside0.mk hk
          rw [hk] at c0
          have HBY := Aside0.mk (byte1_ok w.heap.size w.heap.size w2.heap.size _ 2 w2 rfl HO2.out HLE.out (by have := HLEN.out; omega) (by omega) (by omega))
          clear hok hex htk hNl hk hge
          go_wp2_with fail
          refine HBY.out.mono ?_
          rintro e3 w3 ⟨rfl, hO3, hF3⟩
          have HO3 := Aside0.mk hO3
          have HBE3 := Aside0.mk (hF3.keep HBE2.out (by have h1 := HB2.out.size; intro e; have h2 := hO3; exact HO2.out.ne (show 25 ≠ 74 by decide) _ _ (e ▸ HBE2.out)) (by decide))
          have HB3 := Aside0.mk (HB2.out.trans (hF3.toBelow HB2.out.size (Nat.le_refl _)))
          clear c0 HBY hO3 hF3
          have c0 : w3.cell? ⟨ge, 0, none⟩ = some (.int .i64 2) := ((show Blk w3 ge 25 _ from HBE3.out).cell 0).trans (by rw [← HKK.out]; rfl)
          have c2 : w3.cell? ⟨ge, 2, none⟩ = some (.int .i64 e.x) := ((show Blk w3 ge 25 _ from HBE3.out).cell 2).trans rfl
          have c3 : w3.cell? ⟨ge, 3, none⟩ = some (.int .i64 e.y) := ((show Blk w3 ge 25 _ from HBE3.out).cell 3).trans rfl
          have HTX := Aside0.mk (num2_ok w.heap.size w.heap.size w3.heap.size _ e.x e.y w3 rfl HO3.out HB3.out.size (by have := HLEN.out; simp only [List.length_append, List.length_singleton] at this ⊢; omega) (by omega) (by omega) (by omega) (by omega))
          clear hs1 hx1 hx2 hy1 hy2
          go_wp2_with fail
          refine HTX.out.mono ?_
          rintro e4 w4 ⟨rfl, hO4, hF4⟩
          have HO4 := Aside0.mk hO4
          have HB4 := Aside0.mk (HB3.out.trans (hF4.toBelow HB3.out.size (Nat.le_refl _)))
          clear hO4 hF4 c0 c2 c3 HTX
          go_wp2
          go_roundg (N - (i + 1))
          case measure => have := HI.out.2.1; omega
          case rel => exact ⟨i + 1, by go_num, ⟨by omega, rfl, fun x hx => by
            rw [take_at HE.out] at hx
            rcases List.mem_append.1 hx with hx | hx
            · exact HI.out.2.2 x hx
            · rw [List.mem_singleton.1 hx]; exact HOK.out⟩, ⟨by
            have h1 : numB N ++ evsB (l.take (i + 1)) = (numB N ++ evsB (l.take i)) ++ [2] ++ (numB e.x.toNat ++ numB e.y.toNat) := by
              rw [take_at HE.out, evsB_app, evsB_cons]
              unfold evB
              rw [if_neg (by rw [HKK.out]; decide), if_pos HKK.out, HKK.out]
              simp [evsB]
            rw [h1]
            exact HO4.out⟩, HB4⟩
    · have hltI : ¬ (i : Int) < (N : Int) := by omega
      have HED := Aside0.mk (end_ok w.heap.size w.heap.size _ wr HO.out)
      go_wp2_with fail
      refine HED.out.mono ?_
      rintro e9 w9 ⟨rfl, rfl⟩
      go_wp2
      go_ret2
      have hiN : l.take i = l := List.take_of_length_le (by have := HN.out; omega)
      have hall : l.all okE = true := all_ok.2 (by have := HI.out.2.2; rwa [hiN] at this)
      exact ⟨by rw [layS, layX, if_pos hall, if_pos hall, layB, ← HN.out]; first | rfl | (rw [hiN]; rfl), HB.out⟩
end Go.Proofs.YtjjjinpmflghmaaGreat.Keys
