/- Lists of texts that are lent, with a mark behind them. Conditions: those in each theorem. -/
import Derived.Test.YtheieigeipppnaaPCodecLaysm
import Derived.OpenShut
import Derived.Lib.ConvBytes
import Derived.Lib.Hide
import Derived.Outline
namespace Go.Proofs.Ytheieigeipppnaa.Lent
open Go.RowKit Go.Proofs.YtheieigeipppnaaW.PrintWords Go.Proofs.YtheieigeipppnaaW.PrintMore Go.Proofs.YtheieigeipppnaaW.PrintLast Go.Proofs.Ytheieigeipppnaa.PCodecLays
attribute [local go_sem] max2_int min2_int max_two min_two max_three min_three max_four min_four
set_option linter.unusedVariables false
set_option linter.unusedSimpArgs false

def mark : ByteArray := ⟨#[109, 97, 114, 107]⟩
/-- A list's cells, and the mark behind them, in a row of the call's own. -/
def Lent (B : Nat) (w : World) (g c : Nat) (l : List ByteArray) : Prop := w.ownsRow B 9 1 (.slice (some ⟨g, 0, none⟩) (l ++ [mark]).length c) (l ++ [mark]).length (encs Value.string (l ++ [mark]))
theorem Lent.below {B g c : Nat} {w w' : World} {l : List ByteArray} (h : Lent B w g c l) (hb : Below w.heap.size w w') : Lent B w' g c l := pw_own_below h hb
theorem Lent.cap {B g c : Nat} {w : World} {l : List ByteArray} (h : Lent B w g c l) : l.length + 1 ≤ c := by
  have := own_le h
  simpa using this
theorem Lent.cell {B g c : Nat} {w : World} {l : List ByteArray} (h : Lent B w g c l) (j : Nat) (x : ByteArray) (hx : (l ++ [mark])[j]? = some x) : w.cell? ⟨g, j, none⟩ = some (.string x) := by
  have hj : j < (l ++ [mark]).length := (List.getElem?_eq_some_iff.1 hx).1
  have := (own_at_of (d := ByteArray.empty) h (j : Int) (by omega) (by omega)).1
  rw [Int.toNat_natCast] at this
  rw [this]
  simp [rdOf, hx]
theorem Lent.lt {B g c : Nat} {w : World} {l : List ByteArray} (h : Lent B w g c l) : g < w.heap.size := own_lt h g rfl
theorem Lent.ge {B g c : Nat} {w : World} {l : List ByteArray} (h : Lent B w g c l) : B ≤ g := own_base h g rfl
theorem Lent.reads {B g c : Nat} {w : World} {l : List ByteArray} (h : Lent B w g c l) (hl : l.length ≤ 1000000) : Kd.C Kd.string w (some ⟨g, 0, none⟩) l.length l :=
  Kd.C_of_reads (d := ByteArray.empty) ⟨rfl, by omega, fun _ => ⟨_, rfl, fun j hj => by
    have := h.cell j l[j] (by rw [List.getElem?_append_left hj, List.getElem?_eq_getElem hj])
    rw [show (⟨g, 0, none⟩ : Addr).add j = ⟨g, j, none⟩ by (simp [Addr.add]; exact Eq.symm), this]
    simp [hj]⟩⟩
theorem infoS : (Try.prog.info? 9).map (fun i => (i.zero, i.size, i.bytes)) = some (some (.string ⟨#[]⟩), 1, 16) := by kernel_rfl
set_option maxHeartbeats 4000000 in
set_option maxRecDepth 100000 in
theorem copy_calls (A : Option Addr) (c : Nat) (l : List ByteArray) (w : World) (h : Kd.C Kd.string w A l.length l) (hl : l.length ≤ 1000000) :
    Calls Try.prog 56 #[.slice A l.length c] w fun r w' => ∃ v, r = .returned v ∧ w'.ownsRow w.heap.size 9 1 v l.length (encs Value.string l) ∧ Below w.heap.size w w' := by
  have HR := Aside0.mk (Kd.reads_of_C (d := ByteArray.empty) h)
  clear h
  go_enter Try.func56, Try.ntmps56
  go_wp2_with (first | (at_builtin; refine Aside0.out ?_))
  refine ⟨?_⟩
  refine print_append_row_of (w0 := w) Value.string ByteArray.empty w.heap.size rfl (.const (.slice none 0 0)) (.tmp 3) 44 9 (.string ⟨#[]⟩) 16 rfl Try.underlying44 infoS rfl (by decide) (fun _ => rfl) (.slice none 0 0) [] l A l.length c (by simp [Act.eval]) (by simp [Act.eval]) (own_nil _ _ _ _) HR.out (Below.refl _ _) (Nat.le_refl _) (by simp; omega) ?_
  intro v1 w1 ho hB _ _
  have HO := Aside0.mk ho
  have HB := Aside0.mk hB
  clear ho hB
  go_wp2
  go_ret
  exact ⟨_, rfl, HO.out, HB.out⟩
set_option maxHeartbeats 4000000 in
set_option maxRecDepth 100000 in
theorem lent_calls (A : Option Addr) (c : Nat) (l : List ByteArray) (w : World) (h : Kd.C Kd.string w A l.length l) (hl : l.length ≤ 1000000) :
    Calls Try.prog 32 #[.slice A l.length c] w fun r w' => ∃ g c', r = .returned (.slice (some ⟨g, 0, none⟩) l.length c') ∧ Lent w.heap.size w' g c' l ∧ Below w.heap.size w w' := by
  have HR := Aside0.mk h
  clear h
  go_enter Try.func32, Try.ntmps32
  go_wp2_with fail
  refine (copy_calls A c l w HR.out hl).mono ?_
  rintro e1 w1 ⟨v, rfl, ho, hb⟩
  have HO := Aside0.mk ho
  have HB := Aside0.mk hb
  clear ho hb
  obtain ⟨A1, c1, rfl⟩ := own_slice HO.out
  go_wp2_with (first | (at_builtin; refine Aside0.out ?_))
  refine ⟨?_⟩
  refine print_append_of (w0 := w) Value.string w.heap.size rfl (.tmp 4) (.tmp 5) 44 9 (.string ⟨#[]⟩) 16 rfl Try.underlying44 infoS rfl (by decide) (.slice A1 l.length c1) l mark (by simp [Act.eval]) (by simp [Act.eval]) rfl HO.out HB.out HB.out.size (by omega) ?_
  intro v1 w2 ho2 hB2 _ _
  obtain ⟨gl, c8, rfl, hgl, hgs⟩ := ho2.form (by simp)
  have HO2 := Aside0.mk (show Lent w.heap.size w2 gl c8 l from ho2)
  have HB2 := Aside0.mk hB2
  have hcap := HO2.out.cap
  have hlen : (l ++ [mark]).length = l.length + 1 := by simp
  rw [hlen]
  clear ho2 hB2 hlen
  go_wp2
  go_ret
  exact ⟨_, _, rfl, HO2.out, HB2.out⟩
/-- A list is like itself. -/
theorem same_ok (l : List ByteArray) (hl : l.length ≤ 1000000) : ∀ k i, l.length + 1 ≤ k + i → i ≤ l.length → pontoonbook_SameTexts.l0 k l l (i : Int) = some true := by
  intro k
  induction k with
  | zero => intro i h1 h2; omega
  | succ k ih =>
    intro i h1 h2
    simp only [pontoonbook_SameTexts.l0]
    by_cases hlt : i < l.length
    · have hw : wrap64 ((i : Int) + 1) = ((i + 1 : Nat) : Int) := by unfold wrap64; omega
      rw [if_pos (by omega), if_pos (by omega), if_pos (by omega), if_pos trivial, hw]
      exact ih (i + 1) (by omega) (by omega)
    · rw [if_neg (by omega)]
set_option maxHeartbeats 4000000 in
set_option maxRecDepth 100000 in
theorem stays_calls (B g c' : Nat) (A : Option Addr) (c : Nat) (l : List ByteArray) (w : World) (h : Lent B w g c' l) (h2 : Kd.C Kd.string w A l.length l) (hc : l.length ≤ c) (hl : l.length ≤ 1000000) :
    Calls Try.prog 34 #[.slice (some ⟨g, 0, none⟩) l.length c', .slice A l.length c] w fun r w' => r = .returned (.bool true) ∧ Drawn0 w w' := by
  have hcap := h.cap
  have hs : pontoonbook_SameTexts.f (l.length + 1) l l = some true := by
    unfold pontoonbook_SameTexts.f
    rw [if_pos rfl]
    exact same_ok l hl _ 0 (by omega) (by omega)
  have hsame := fun (W : World) (h1 : Kd.C Kd.string W (some ⟨g, 0, none⟩) l.length l) (h2 : Kd.C Kd.string W A l.length l) => pontoonbook_SameTexts.calls (l.length + 1) (some ⟨g, 0, none⟩) c' l A c l true W h1 (by omega) h2 hc hs
  have HM := Aside0.mk (h.reads hl)
  have HR := Aside0.mk h2
  have hm := h.cell l.length mark (by simp)
  clear h h2 hs
  go_enter Try.func34, Try.ntmps34
  go_wp2_with fail
  refine (hsame _ HM.out HR.out).mono ?_
  rintro e1 w1 ⟨rfl, ⟨n, rfl⟩⟩
  have hw : wrap64 ((l.length : Int) + 1) = ((l.length + 1 : Nat) : Int) := by unfold wrap64; omega
  go_wp2
  go_ret
  refine ⟨congrArg (fun b => Ending.returned (.bool b)) (a₂ := true) ?_, ⟨⟨_, rfl⟩⟩⟩
  kernel_rfl
def imark : Int := -77
/-- A list's cells, and the mark behind them, in a row of the call's own. -/
def LentI (B : Nat) (w : World) (g c : Nat) (l : List Int) : Prop := w.ownsRow B 3 1 (.slice (some ⟨g, 0, none⟩) (l ++ [imark]).length c) (l ++ [imark]).length (encs (Value.int .i64) (l ++ [imark]))
theorem LentI.below {B g c : Nat} {w w' : World} {l : List Int} (h : LentI B w g c l) (hb : Below w.heap.size w w') : LentI B w' g c l := pw_own_below h hb
theorem LentI.cap {B g c : Nat} {w : World} {l : List Int} (h : LentI B w g c l) : l.length + 1 ≤ c := by
  have := own_le h
  simpa using this
theorem LentI.cell {B g c : Nat} {w : World} {l : List Int} (h : LentI B w g c l) (j : Nat) (x : Int) (hx : (l ++ [imark])[j]? = some x) : w.cell? ⟨g, j, none⟩ = some (.int .i64 x) := by
  have hj : j < (l ++ [imark]).length := (List.getElem?_eq_some_iff.1 hx).1
  have := (own_at_of (d := (0 : Int)) h (j : Int) (by omega) (by omega)).1
  rw [Int.toNat_natCast] at this
  rw [this]
  simp [rdOf, hx]
theorem LentI.lt {B g c : Nat} {w : World} {l : List Int} (h : LentI B w g c l) : g < w.heap.size := own_lt h g rfl
theorem LentI.ge {B g c : Nat} {w : World} {l : List Int} (h : LentI B w g c l) : B ≤ g := own_base h g rfl
theorem LentI.reads {B g c : Nat} {w : World} {l : List Int} (h : LentI B w g c l) (hl : l.length ≤ 1000000) : Kd.C (Kd.int .i64) w (some ⟨g, 0, none⟩) l.length l :=
  Kd.C_of_reads (d := (0 : Int)) ⟨rfl, by omega, fun _ => ⟨_, rfl, fun j hj => by
    have := h.cell j l[j] (by rw [List.getElem?_append_left hj, List.getElem?_eq_getElem hj])
    rw [show (⟨g, 0, none⟩ : Addr).add j = ⟨g, j, none⟩ by (simp [Addr.add]; exact Eq.symm), this]
    simp [hj]⟩⟩
theorem infoI : (Try.prog.info? 3).map (fun i => (i.zero, i.size, i.bytes)) = some (some (.int .i64 0), 1, 8) := by kernel_rfl
set_option maxHeartbeats 4000000 in
set_option maxRecDepth 100000 in
theorem copyI_calls (A : Option Addr) (c : Nat) (l : List Int) (w : World) (h : Kd.C (Kd.int .i64) w A l.length l) (hl : l.length ≤ 1000000) :
    Calls Try.prog 58 #[.slice A l.length c] w fun r w' => ∃ v, r = .returned v ∧ w'.ownsRow w.heap.size 3 1 v l.length (encs (Value.int .i64) l) ∧ Below w.heap.size w w' := by
  have HR := Aside0.mk (Kd.reads_of_C (d := (0 : Int)) h)
  clear h
  go_enter Try.func58, Try.ntmps58
  go_wp2_with (first | (at_builtin; refine Aside0.out ?_))
  refine ⟨?_⟩
  refine print_append_row_of (w0 := w) (Value.int .i64) (0 : Int) w.heap.size rfl (.const (.slice none 0 0)) (.tmp 3) 61 3 (.int .i64 0) 8 rfl Try.underlying61 infoI rfl (by decide) (fun _ => rfl) (.slice none 0 0) [] l A l.length c (by simp [Act.eval]) (by simp [Act.eval]) (own_nil _ _ _ _) HR.out (Below.refl _ _) (Nat.le_refl _) (by simp; omega) ?_
  intro v1 w1 ho hB _ _
  have HO := Aside0.mk ho
  have HB := Aside0.mk hB
  clear ho hB
  go_wp2
  go_ret
  exact ⟨_, rfl, HO.out, HB.out⟩
set_option maxHeartbeats 4000000 in
set_option maxRecDepth 100000 in
theorem lentI_calls (A : Option Addr) (c : Nat) (l : List Int) (w : World) (h : Kd.C (Kd.int .i64) w A l.length l) (hl : l.length ≤ 1000000) :
    Calls Try.prog 44 #[.slice A l.length c] w fun r w' => ∃ g c', r = .returned (.slice (some ⟨g, 0, none⟩) l.length c') ∧ LentI w.heap.size w' g c' l ∧ Below w.heap.size w w' := by
  have HR := Aside0.mk h
  clear h
  go_enter Try.func44, Try.ntmps44
  go_wp2_with fail
  refine (copyI_calls A c l w HR.out hl).mono ?_
  rintro e1 w1 ⟨v, rfl, ho, hb⟩
  have HO := Aside0.mk ho
  have HB := Aside0.mk hb
  clear ho hb
  obtain ⟨A1, c1, rfl⟩ := own_slice HO.out
  go_wp2_with (first | (at_builtin; refine Aside0.out ?_))
  refine ⟨?_⟩
  refine print_append_of (w0 := w) (Value.int .i64) w.heap.size rfl (.tmp 4) (.tmp 5) 61 3 (.int .i64 0) 8 rfl Try.underlying61 infoI rfl (by decide) (.slice A1 l.length c1) l imark (by simp [Act.eval]) (by simp [Act.eval]) rfl HO.out HB.out HB.out.size (by omega) ?_
  intro v1 w2 ho2 hB2 _ _
  obtain ⟨gl, c8, rfl, hgl, hgs⟩ := ho2.form (by simp)
  have HO2 := Aside0.mk (show LentI w.heap.size w2 gl c8 l from ho2)
  have HB2 := Aside0.mk hB2
  have hcap := HO2.out.cap
  have hlen : (l ++ [imark]).length = l.length + 1 := by simp
  rw [hlen]
  clear ho2 hB2 hlen
  go_wp2
  go_ret
  exact ⟨_, _, rfl, HO2.out, HB2.out⟩
/-- A list is like itself. -/
theorem sameI_ok (l : List Int) (hl : l.length ≤ 1000000) : ∀ k i, l.length + 1 ≤ k + i → i ≤ l.length → pontoonbook_SameInts.l0 k l l (i : Int) = some true := by
  intro k
  induction k with
  | zero => intro i h1 h2; omega
  | succ k ih =>
    intro i h1 h2
    simp only [pontoonbook_SameInts.l0]
    by_cases hlt : i < l.length
    · have hw : wrap64 ((i : Int) + 1) = ((i + 1 : Nat) : Int) := by unfold wrap64; omega
      rw [if_pos (by omega), if_pos (by omega), if_pos (by omega), if_pos trivial, hw]
      exact ih (i + 1) (by omega) (by omega)
    · rw [if_neg (by omega)]
set_option maxHeartbeats 4000000 in
set_option maxRecDepth 100000 in
theorem staysI_calls (B g c' : Nat) (A : Option Addr) (c : Nat) (l : List Int) (w : World) (h : LentI B w g c' l) (h2 : Kd.C (Kd.int .i64) w A l.length l) (hc : l.length ≤ c) (hl : l.length ≤ 1000000) :
    Calls Try.prog 49 #[.slice (some ⟨g, 0, none⟩) l.length c', .slice A l.length c] w fun r w' => r = .returned (.bool true) ∧ Drawn0 w w' := by
  have hcap := h.cap
  have hs : pontoonbook_SameInts.f (l.length + 1) l l = some true := by
    unfold pontoonbook_SameInts.f
    rw [if_pos rfl]
    exact sameI_ok l hl _ 0 (by omega) (by omega)
  have hsame := fun (W : World) (h1 : Kd.C (Kd.int .i64) W (some ⟨g, 0, none⟩) l.length l) (h2 : Kd.C (Kd.int .i64) W A l.length l) => pontoonbook_SameInts.calls (l.length + 1) (some ⟨g, 0, none⟩) c' l A c l true W h1 (by omega) h2 hc hs
  have HM := Aside0.mk (h.reads hl)
  have HR := Aside0.mk h2
  have hm := h.cell l.length imark (by simp)
  clear h h2 hs
  go_enter Try.func49, Try.ntmps49
  go_wp2_with fail
  refine (hsame _ HM.out HR.out).mono ?_
  rintro e1 w1 ⟨rfl, ⟨n, rfl⟩⟩
  have hw : wrap64 ((l.length : Int) + 1) = ((l.length + 1 : Nat) : Int) := by unfold wrap64; omega
  go_wp2
  go_ret
  refine ⟨congrArg (fun b => Ending.returned (.bool b)) (a₂ := true) ?_, ⟨⟨_, rfl⟩⟩⟩
  kernel_rfl
end Go.Proofs.Ytheieigeipppnaa.Lent
