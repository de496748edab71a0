/- Events that come in; a book beside what was lent. Conditions: those in each theorem. -/
import Derived.Test.YtjjjinpmflghmaaBk3Ev
import Derived.Test.YtjjjinpmflghmaaOpens
import Derived.Test.YtjjjinpmflghmaaRefKA
namespace Go.Proofs.Ytjjjinpmflghmaa.Keys
open Go.RowKit Go.ChangeShapes Go.WideShapes Go.Deep Go.Proofs.Ytjjjinpmflghmaa.Mem Go.Proofs.Ytjjjinpmflghmaa.Row Go.Proofs.Ytjjjinpmflghmaa.Opens Go.Proofs.YtjjjinpmflghmaaW.PrintWords Go.Proofs.YtjjjinpmflghmaaW.PrintMore Go.Proofs.YtjjjinpmflghmaaW.PrintLast Go.Proofs.Ytjjjinpmflghmaa.PKeysPlay
open Go.Proofs.Ytjjjinpmflghmaa.BookEv (BK LS foot mem_foot Own Src Lent)
set_option linter.unusedVariables false
set_option linter.unusedSimpArgs false
def evs (l : List S38) : List E4 := l.map BookEv.ofS
theorem evs_len (l : List S38) : (evs l).length = l.length := by simp [evs]
theorem C_src {w : World} {A : Option Addr} {l : List S38} (h : Kd.C k38 w A l.length l) : Src w A (evs l).length (evs l) := by
  obtain ⟨_, _, h2⟩ := h
  refine ⟨rfl, ?_⟩
  by_cases h0 : l.length = 0
  · exact .inl (by rw [evs_len]; exact h0)
  · obtain ⟨ad, hA, hc⟩ := h2 (by omega)
    refine .inr ⟨ad, hA, fun j v hv => ?_⟩
    have hj : j < l.length * 4 := by
      have := (List.getElem?_eq_some_iff.1 hv).1
      rw [BookEv.fl_len, evs_len] at this
      omega
    have hq : j / 4 < l.length := by omega
    obtain ⟨cs, hcl, hK, hcell⟩ := hc (j / 4) _ (List.getElem?_eq_getElem hq)
    have hk := k38_open hK
    have h4 := fl_at BookEv.vals_len (l := evs l) (i := j / 4) (x := BookEv.ofS l[j / 4]) (by simp [evs, hq]) (j := j % 4) (by omega)
    rw [show j / 4 * 4 + j % 4 = j by omega] at h4
    have h5 : cs[j % 4]? = some v := by
      have h6 : (BookEv.fl (evs l))[j]? = (BookEv.vals (BookEv.ofS l[j / 4]))[j % 4]? := h4
      rw [hv] at h6
      rw [hk, h6]
      rfl
    have h7 := hcell (j % 4) v h5
    have h8 : j / 4 * k38.sz + j % 4 = j := by show j / 4 * 4 + j % 4 = j; omega
    rw [h8] at h7
    exact h7
set_option maxRecDepth 100000 in
theorem opens_ev : Opens Try.prog 38 k38 := fun H enc w base spare held fuel cs x h => by
  obtain ⟨xs, n, _, _, hcl, hlen, hg⟩ := DataW.trod_struct Try.underlying38 h
  have hC : Try.prog.cellsOf 38 = 4 := by kernel_rfl
  have hI : Try.prog.cellsOf 3 = 1 := by kernel_rfl
  have hS : Try.prog.cellsOf 9 = 1 := by kernel_rfl
  rw [hC] at hcl
  match cs, hcl with
  | [c0, c1, c2, c3], _ =>
    match xs, hlen with
    | [y0, y1, y2, y3], _ =>
      have g0 := hg 0 _ rfl
      have g1 := hg 1 _ rfl
      have g2 := hg 2 _ rfl
      have g3 := hg 3 _ rfl
      simp [hI, hS] at g0 g1 g2 g3
      obtain ⟨a0, r0⟩ := opens_int Try.underlying3 _ _ _ _ _ _ _ _ _ g0
      obtain ⟨a1, r1⟩ := opens_string Try.underlying9 _ _ _ _ _ _ _ _ _ g1
      obtain ⟨a2, r2⟩ := opens_int Try.underlying3 _ _ _ _ _ _ _ _ _ g2
      obtain ⟨a3, r3⟩ := opens_int Try.underlying3 _ _ _ _ _ _ _ _ _ g3
      have r0' : [c0] = [Value.int .i64 a0] := r0
      have r1' : [c1] = [Value.string a1] := r1
      have r2' : [c2] = [Value.int .i64 a2] := r2
      have r3' : [c3] = [Value.int .i64 a3] := r3
      simp only [List.cons.injEq, and_true] at r0' r1' r2' r3'
      subst r0' r1' r2' r3'
      exact ⟨⟨a0, a1, a2, a3⟩, k38_mk w ⟨a0, a1, a2, a3⟩⟩
/-! ### What was lent, and a book -/
structure KT (w0 : World) (gm cm gb : Nat) (l : List E4) (vx vw : Value) (L Lw : LS) (w : World) : Prop where
  lent : Lent w w0.heap.size gm cm l
  bk : BK w gb vx vw L Lw
  ft : ∀ b ∈ foot gb vx vw L Lw, w0.heap.size ≤ b
  nm : gm ∉ foot gb vx vw L Lw
  bel : Below w0.heap.size w0 w
  same : L.map Prod.snd = Lw.map Prod.snd
section
variable {w0 w w' : World} {gm cm gb : Nat} {l : List E4} {vx vw : Value} {L Lw : LS}
theorem KT.below (H : KT w0 gm cm gb l vx vw L Lw w) (hb : Below w.heap.size w w') : KT w0 gm cm gb l vx vw L Lw w' :=
  ⟨H.lent.below hb, H.bk.below hb, H.ft, H.nm, below_step H.bel hb, H.same⟩
theorem KT.kept (H : KT w0 gm cm gb l vx vw L Lw w) {w1 : World} (hb : Below w.heap.size w w1) {t : Value} {l1 : List E4} (ht : Own w1 w.heap.size t l1) (hl1 : l1.length ≤ 1000) (hL : L.length < 250) :
    Calls Try.prog 30 #[.pointer (some ⟨gb, 0, none⟩), t] w1 fun r w' => r = .returned (.tuple #[]) ∧ ∃ vx' vw' c, KT w0 gm cm gb l vx' vw' (L ++ [(t, l1)]) (Lw ++ [(c, l1)]) w' ∧ Own w' 0 t l1 ∧ Only (foot gb vx vw L Lw) w1 w' := by
  have H1 := H.below hb
  refine (BookEv.add_calls t l1 w1 H1.bk ht.zero hl1 (fun k hk hm => ?_) hL).mono ?_
  · have h1 := own_base ht k hk
    have h2 := H.bk.lt k hm
    omega
  · rintro r w2 ⟨rfl, vx', vw', c, hbk, ho, hf⟩
    have hs := H.bel.size
    have hgm := H.lent.lt
    exact ⟨rfl, vx', vw', c, ⟨H1.lent.only ho H1.nm, hbk, fun b hb2 => by
      rcases hf b hb2 with h1 | h1 | h1
      · exact H.ft b h1
      · have := own_base ht b h1
        omega
      · have := hb.size
        omega, fun hm => by
      rcases hf gm hm with h1 | h1 | h1
      · exact H.nm h1
      · have := own_base ht gm h1
        omega
      · have := hb.size
        omega, H1.bel.trans (ho.toBelow H1.bel.size (fun b hb => H1.ft b hb)), by rw [List.map_append, List.map_append, H.same]; rfl⟩, (hbk.xs (t, l1) (by simp)).1, ho⟩
end
end Go.Proofs.Ytjjjinpmflghmaa.Keys
