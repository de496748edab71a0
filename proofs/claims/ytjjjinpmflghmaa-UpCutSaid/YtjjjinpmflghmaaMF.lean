/- UpP, UpW, UpR, UpA, in one text. Conditions: those in each theorem. -/
import Derived.Test.YtjjjinpmflghmaaRefEvs
import Derived.Test.YtjjjinpmflghmaaMC
namespace Go.Proofs.Ytjjjinpmflghmaa.Keys
open Go.RowKit Go.Proofs.Ytjjjinpmflghmaa.Mem Go.Proofs.Ytjjjinpmflghmaa.Row Go.Proofs.Ytjjjinpmflghmaa.Obj Go.Proofs.YtjjjinpmflghmaaW.PrintWords Go.Proofs.YtjjjinpmflghmaaW.PrintMore Go.Proofs.YtjjjinpmflghmaaW.PrintLast
set_option linter.unusedVariables false
set_option linter.unusedSimpArgs false
/-- Does a first number fit so many events? -/
def fits (first : Int) (n : Nat) : Bool := if n = 0 then decide (first = 0) else decide (1 ≤ first ∧ first ≤ 4611686018427387904)
/-- May a message be? -/
def upV (top first : Int) (l : List E4) : Bool := decide (0 ≤ top ∧ top ≤ 4611686018427387904) && (decide (l.length ≤ 40) && (fits first l.length && l.all okE))
def upB (top first : Int) (l : List E4) : List Int := numB top.toNat ++ (numB first.toNat ++ layB l)
theorem upV_iff {top first : Int} {l : List E4} : upV top first l = true ↔ (0 ≤ top ∧ top ≤ 4611686018427387904) ∧ l.length ≤ 40 ∧ fits first l.length = true ∧ AllOk l := by
  unfold upV
  rw [Bool.and_eq_true, Bool.and_eq_true, Bool.and_eq_true, all_ok]
  simp
theorem fits_bound {first : Int} {n : Nat} (h : fits first n = true) : 0 ≤ first ∧ first ≤ 4611686018427387904 := by
  unfold fits at h
  split at h
  · have := of_decide_eq_true h; omega
  · have := of_decide_eq_true h; omega
theorem valid_ev (e : E4) : PUpTells.keys_Valid.f e.k e.s e.x e.y = some (okE e) := by
  unfold okE PKeysBounds.keys_Valid.f PUpTells.keys_Valid.f
  repeat' split
  all_goals rfl
theorem ref_ev (e : E4) : PUpTells.pontoonref19_Event.f e.k e.s e.x e.y = some (okE e) := by
  unfold okE PKeysBounds.keys_Valid.f PUpTells.pontoonref19_Event.f PUpTells.pontoonref12_Ends.f mn mx
  simp only [Option.bind_some]
  repeat' split
  all_goals first
    | rfl
    | omega
    | (simp; omega)
    | (simp only [Option.getD_some]; congr 1; rw [Bool.eq_iff_iff]; simp; omega)
theorem upvalid_l0 (top first : Int) (l : List E4) (hl : l.length ≤ 1000) : ∀ (m i : Nat), l.length - i ≤ m → i ≤ l.length →
    PUpTells.up_Valid.l0 (m + 1) (l.map toU) (l.length : Int) (i : Int) top first (l.map toU) = some ((l.drop i).all okE && ((first == 0) == ((l.length : Int) == 0))) := by
  intro m
  induction m with
  | zero =>
    intro i h1 h2
    obtain rfl : i = l.length := by omega
    rw [PUpTells.up_Valid.l0, if_neg (by omega), List.drop_length]
    simp
  | succ m ih =>
    intro i h1 h2
    by_cases hlt : i < l.length
    · obtain ⟨e, he⟩ : ∃ e, l[i]? = some e := ⟨l[i], by simp⟩
      have hw : wrap64 ((i : Int) + 1) = ((i + 1 : Nat) : Int) := by rw [wi_id (by omega) (by omega)]; rfl
      rw [PUpTells.up_Valid.l0, if_pos (by omega), if_pos (by omega), if_pos (by rw [List.length_map]; omega), rdU he]
      simp only [toU]
      rw [valid_ev e, Option.bind_some, drop_at he, List.all_cons]
      cases hok : okE e with
      | false => simp
      | true =>
        rw [if_pos rfl, hw, ih (i + 1) (by omega) (by omega)]
        simp
    · obtain rfl : i = l.length := by omega
      rw [PUpTells.up_Valid.l0, if_neg (by omega), List.drop_length]
      simp
theorem upvalid_f (top first : Int) (l : List E4) (hl : l.length ≤ 1000) : PUpTells.up_Valid.f (l.length + 2) top first (l.map toU) = some (upV top first l) := by
  have h0 := upvalid_l0 top first l hl l.length 0 (by omega) (by omega)
  rw [List.drop_zero] at h0
  have hj : ∀ b, PUpTells.up_Valid.j0 (l.length + 2) b top first (l.map toU) = if b = true then some false else some (l.all okE && ((first == 0) == ((l.length : Int) == 0))) := by
    intro b
    rw [PUpTells.up_Valid.j0]
    by_cases hb : b = true
    · rw [if_pos hb, if_pos hb]
    · rw [if_neg hb, if_neg hb]
      simp only [List.length_map]
      exact h0
  unfold PUpTells.up_Valid.f upV fits
  simp only [hj, List.length_map]
  by_cases h1 : top < 0
  · rw [if_pos h1, if_pos trivial]
    have : decide (0 ≤ top ∧ top ≤ 4611686018427387904) = false := decide_eq_false (by omega)
    rw [this]; rfl
  rw [if_neg h1]
  by_cases h2 : top > 4611686018427387904
  · rw [if_pos h2, if_pos trivial]
    have : decide (0 ≤ top ∧ top ≤ 4611686018427387904) = false := decide_eq_false (by omega)
    rw [this]; rfl
  rw [if_neg h2]
  have ht : decide (0 ≤ top ∧ top ≤ 4611686018427387904) = true := decide_eq_true (by omega)
  rw [ht]
  by_cases h3 : first < 0
  · rw [if_pos h3, if_pos trivial]
    by_cases hz : l.length = 0
    · rw [if_pos hz, decide_eq_false (show ¬ first = 0 by omega)]; simp
    · rw [if_neg hz, decide_eq_false (show ¬ (1 ≤ first ∧ first ≤ 4611686018427387904) by omega)]; simp
  rw [if_neg h3]
  by_cases h4 : first > 4611686018427387904
  · rw [if_pos h4, if_pos trivial]
    by_cases hz : l.length = 0
    · rw [if_pos hz, decide_eq_false (show ¬ first = 0 by omega)]; simp
    · rw [if_neg hz, decide_eq_false (show ¬ (1 ≤ first ∧ first ≤ 4611686018427387904) by omega)]; simp
  rw [if_neg h4]
  by_cases h5 : (l.length : Int) > 40
  · rw [decide_eq_true h5, if_pos rfl, decide_eq_false (show ¬ l.length ≤ 40 by omega)]; simp
  rw [decide_eq_false h5, if_neg (by simp), decide_eq_true (show l.length ≤ 40 by omega)]
  congr 1
  by_cases hz : l.length = 0
  · rw [if_pos hz]
    have e1 : ((l.length : Int) == 0) = true := by simp [hz]
    rw [e1]
    cases hall : l.all okE <;> by_cases hf : first = 0 <;> simp [hf]
  · rw [if_neg hz]
    have e1 : ((l.length : Int) == 0) = false := by rw [beq_eq_false_iff_ne]; omega
    rw [e1]
    by_cases hf : first = 0
    · rw [decide_eq_false (show ¬ (1 ≤ first ∧ first ≤ 4611686018427387904) by omega)]; simp [hf]
    · rw [decide_eq_true (show (1 ≤ first ∧ first ≤ 4611686018427387904) by omega)]; simp [hf]
theorem refvalid_l0 (top first : Int) (l : List E4) (hl : l.length ≤ 1000) : ∀ (m i : Nat) (x : Bool), l.length - i ≤ m → i ≤ l.length →
    PUpTells.pontoonref19_ValidUp.l0 (m + 1) x (i : Int) top first (l.map toU) = some (x && (l.drop i).all okE) := by
  intro m
  induction m with
  | zero =>
    intro i x h1 h2
    obtain rfl : i = l.length := by omega
    rw [PUpTells.pontoonref19_ValidUp.l0, if_neg (by simp), List.drop_length]
    simp
  | succ m ih =>
    intro i x h1 h2
    by_cases hlt : i < l.length
    · obtain ⟨e, he⟩ : ∃ e, l[i]? = some e := ⟨l[i], by simp⟩
      have hw : wrap64 ((i : Int) + 1) = ((i + 1 : Nat) : Int) := by rw [wi_id (by omega) (by omega)]; rfl
      rw [PUpTells.pontoonref19_ValidUp.l0, if_pos (by rw [List.length_map]; omega), rdU he, hw]
      simp only [toU]
      rw [ref_ev e, Option.bind_some, drop_at he, List.all_cons]
      cases x with
      | false => rw [if_neg (by simp), ih (i + 1) false (by omega) (by omega)]; simp
      | true => rw [if_pos rfl, if_pos (by omega), ih (i + 1) (okE e) (by omega) (by omega)]; simp
    · obtain rfl : i = l.length := by omega
      rw [PUpTells.pontoonref19_ValidUp.l0, if_neg (by simp), List.drop_length]
      simp
theorem refvalid_j0 (top first : Int) (l : List E4) (hl : l.length ≤ 1000) (x : Bool) : PUpTells.pontoonref19_ValidUp.j0 (l.length + 3) x top first (l.map toU) = some ((x && fits first l.length) && l.all okE) := by
  have h0 := refvalid_l0 top first l hl l.length 0
  rw [List.drop_zero] at h0
  have hj : ∀ b, PUpTells.pontoonref19_ValidUp.j1 (l.length + 2) b top first (l.map toU) = some (b && l.all okE) := by
    intro b
    rw [PUpTells.pontoonref19_ValidUp.j1]
    exact h0 b (by omega) (by omega)
  rw [PUpTells.pontoonref19_ValidUp.j0]
  simp only [hj, List.length_map]
  unfold fits
  by_cases hz : l.length = 0
  · rw [if_pos (by omega), if_pos hz]
    cases x with
    | false => simp
    | true => simp; by_cases hf : first = 0 <;> simp [hf]
  · rw [if_neg (by omega), if_neg hz]
    cases x with
    | false => simp
    | true =>
      rw [if_pos rfl]
      by_cases h1 : first ≥ 1
      · rw [if_pos h1]
        have : decide (first ≤ 4611686018427387904) = decide (1 ≤ first ∧ first ≤ 4611686018427387904) := by simp [h1]
        rw [this]; simp
      · rw [if_neg h1, decide_eq_false (show ¬ (1 ≤ first ∧ first ≤ 4611686018427387904) by omega)]; simp
theorem refvalid_f (top first : Int) (l : List E4) (hl : l.length ≤ 1000) : PUpTells.pontoonref19_ValidUp.f (l.length + 3) top first (l.map toU) = some (upV top first l) := by
  unfold PUpTells.pontoonref19_ValidUp.f upV
  simp only [refvalid_j0 top first l hl, List.length_map]
  by_cases h1 : top ≥ 0
  · rw [if_pos h1]
    by_cases h2 : top ≤ 4611686018427387904
    · rw [if_pos h2, decide_eq_true (show 0 ≤ top ∧ top ≤ 4611686018427387904 by omega)]
      congr 1
      have : decide ((l.length : Int) ≤ 40) = decide (l.length ≤ 40) := by
        by_cases h : l.length ≤ 40
        · rw [decide_eq_true h, decide_eq_true (by omega)]
        · rw [decide_eq_false h, decide_eq_false (by omega)]
      rw [this, Bool.true_and, Bool.and_assoc]
    · rw [if_neg h2, decide_eq_false (show ¬ (0 ≤ top ∧ top ≤ 4611686018427387904) by omega)]
      simp
  · rw [if_neg h1, decide_eq_false (show ¬ (0 ≤ top ∧ top ≤ 4611686018427387904) by omega)]
    simp
theorem layup_f (top first : Int) (l : List E4) (h : upV top first l = true) : PUpTells.pontoonref19_LayUp.f (l.length + 21) top first (l.map toU) = some (strOfNums (upB top first l)) := by
  obtain ⟨⟨h1, h2⟩, h3, h4, h5⟩ := upV_iff.1 h
  obtain ⟨h6, h7⟩ := fits_bound h4
  have n1 := unum_f (l.length + 21) top.toNat (by omega) (by omega)
  have n2 := unum_f (l.length + 21) first.toNat (by omega) (by omega)
  have s1 := numB_len9 (show top.toNat < 9223372036854775808 by omega)
  have s2 := numB_len9 (show first.toNat < 9223372036854775808 by omega)
  have s3 := numB_len9 (show l.length < 9223372036854775808 by omega)
  have s4 := evsB_len h5
  rw [Int.toNat_of_nonneg (by omega)] at n1 n2
  unfold PUpTells.pontoonref19_LayUp.f
  rw [n1, Option.bind_some, n2, Option.bind_some, if_pos (by rw [strOfNums_size, strOfNums_size]; omega), levs_f l h5 (by omega), Option.bind_some,
    if_pos (by rw [ByteArray.size_append, strOfNums_size, strOfNums_size, strOfNums_size]; unfold layB; rw [List.length_append]; omega), str_app, str_app]
  unfold upB
  rw [List.append_assoc]
end Go.Proofs.Ytjjjinpmflghmaa.Keys
namespace Go.Proofs.Ytjjjinpmflghmaa.Obj
open Go.RowKit Go.Proofs.YtjjjinpmflghmaaW.PrintWords Go.Proofs.YtjjjinpmflghmaaW.PrintMore
theorem raw1_ok (B g p : Nat) (bs : List Int) (x : ByteArray) (w : World) (hp : p = w.heap.size) (hO : IsOut B w g bs 0) (hB : B ≤ w.heap.size) (hlen : bs.length + x.size ≤ 1000000000000) :
    Calls Try.prog 56 #[.pointer (some ⟨g, 0, none⟩), .slice (some ⟨p, 0, none⟩) 1 1] (w.alloc (.cells #[.string x] 9)) fun r w' => r = .returned (.pointer (some ⟨g, 0, none⟩)) ∧ IsOut B w' g (bs ++ bytesOf x) 0 ∧ Fr B g w w' := by
  have := raw1 B g p bs 0 x w hp hO hB hlen
  rw [oRaw_ok] at this
  simpa using this
end Go.Proofs.Ytjjjinpmflghmaa.Obj
namespace Go.Proofs.Ytjjjinpmflghmaa.Keys
open Go.RowKit Go.Proofs.Ytjjjinpmflghmaa.Mem Go.Proofs.Ytjjjinpmflghmaa.Row Go.Proofs.Ytjjjinpmflghmaa.Obj Go.Proofs.YtjjjinpmflghmaaW.PrintWords Go.Proofs.YtjjjinpmflghmaaW.PrintMore Go.Proofs.YtjjjinpmflghmaaW.PrintLast
open Go.Proofs.Ytjjjinpmflghmaa.BookEv (Own Src)
set_option linter.unusedVariables false
set_option linter.unusedSimpArgs false
theorem upv_calls (top first : Int) (A : Option Addr) (c : Nat) (l : List E4) (w : World) (h : Src w A l.length l) (hc : l.length ≤ c) (hl : l.length ≤ 1000) :
    Calls Try.prog 46 #[.agg #[.int .i64 top, .int .i64 first, .slice A l.length c]] w fun r w' => r = .returned (.bool (upV top first l)) ∧ Below w.heap.size w w' := by
  have := PUpTells.up_Valid.calls _ top first A c (l.map toU) _ w (C_ofU h (by omega)) (by simpa using hc) (upvalid_f top first l hl)
  rwa [List.length_map] at this
theorem rupv_calls (top first : Int) (A : Option Addr) (c : Nat) (l : List E4) (w : World) (h : Src w A l.length l) (hc : l.length ≤ c) (hl : l.length ≤ 1000) :
    Calls Try.prog 45 #[.agg #[.int .i64 top, .int .i64 first, .slice A l.length c]] w fun r w' => r = .returned (.bool (upV top first l)) ∧ Below w.heap.size w w' := by
  have := PUpTells.pontoonref19_ValidUp.calls _ top first A c (l.map toU) _ w (C_ofU h (by omega)) (by simpa using hc) (refvalid_f top first l hl)
  rwa [List.length_map] at this
theorem ruplay_calls (top first : Int) (A : Option Addr) (c : Nat) (l : List E4) (w : World) (h : Src w A l.length l) (hc : l.length ≤ c) (hv : upV top first l = true) :
    Calls Try.prog 47 #[.agg #[.int .i64 top, .int .i64 first, .slice A l.length c]] w fun r w' => r = .returned (.string (strOfNums (upB top first l))) ∧ Below w.heap.size w w' := by
  have := PUpTells.pontoonref19_LayUp.calls _ top first A c (l.map toU) _ w (C_ofU h (by have := (upV_iff.1 hv).2.1; omega)) (by simpa using hc) (layup_f top first l hv)
  rwa [List.length_map] at this
/-- The bytes of a message; none, if it may not be. -/
def upS (top first : Int) (l : List E4) : ByteArray := if upV top first l = true then strOfNums (upB top first l) else ⟨#[]⟩
def upX (top first : Int) (l : List E4) : Int := if upV top first l = true then 0 else 1
theorem upB_len {top first : Int} {l : List E4} (h : upV top first l = true) : (upB top first l).length ≤ 5000 := by
  obtain ⟨⟨h1, h2⟩, h3, h4, h5⟩ := upV_iff.1 h
  obtain ⟨h6, h7⟩ := fits_bound h4
  have s1 := numB_len9 (show top.toNat < 9223372036854775808 by omega)
  have s2 := numB_len9 (show first.toNat < 9223372036854775808 by omega)
  have s3 := numB_len9 (show l.length < 9223372036854775808 by omega)
  have s4 := evsB_len h5
  unfold upB layB
  simp only [List.length_append]
  omega
set_option maxHeartbeats 4000000 in
set_option maxRecDepth 100000 in
theorem uplay_calls (top first : Int) (A : Option Addr) (c : Nat) (l : List E4) (w : World) (h : Src w A l.length l) (hc : l.length ≤ c) (hl : l.length ≤ 1000) :
    Calls Try.prog 44 #[.agg #[.int .i64 top, .int .i64 first, .slice A l.length c]] w fun r w' => r = .returned (.tuple #[.string (upS top first l), .int .i64 (upX top first l)]) ∧ Below w.heap.size w w' := by
  have HS := Aside0.mk h
  have HC := Aside0.mk hc
  obtain ⟨N, hN⟩ : ∃ N, N = l.length := ⟨_, rfl⟩
  have HN := Aside0.mk hN
  have hb0 := below_alloc (Below.refl w.heap.size w) (.cells #[.int .i64 top, .int .i64 first, .slice A l.length c] 95)
  have HB0 := Aside0.mk hb0
  have hv := upv_calls top first A c l _ (h.below hb0) hc hl
  have HBX := Aside0.mk (Blk.new w 95 #[.int .i64 top, .int .i64 first, .slice A l.length c])
  have hl' : N ≤ 1000 := by omega
  rw [← hN] at HB0 HBX hv ⊢
  have HV := Aside0.mk hv
  clear h hc hN hb0 hv hl
  go_enter Try.func44, Try.ntmps44
  cases hv : upV top first l with
  | false =>
    have HVV := Aside0.mk hv
    rw [hv] at HV
    clear hv
    go_wp2_with fail
    refine HV.out.mono ?_
    rintro e1 w1 ⟨rfl, hb1⟩
    have HB1 := Aside0.mk (below_step HB0.out hb1)
    clear hb1
    go_wp2
    go_ret2
    have h1 : ¬ upV top first l = true := by rw [HVV.out]; simp
    exact ⟨by rw [upS, upX, if_neg h1, if_neg h1]; rfl, HB1.out⟩
  | true =>
    have HVV := Aside0.mk hv
    rw [hv] at HV
    obtain ⟨⟨ht1, ht2⟩, hn40, hf, hall⟩ := upV_iff.1 hv
    obtain ⟨hf1, hf2⟩ := fits_bound hf
    have HALL := Aside0.mk hall
    clear hv hf hall
    go_wp2_with fail
    refine HV.out.mono ?_
    rintro e1 w1 ⟨rfl, hb1⟩
    have HB1 := Aside0.mk (below_step HB0.out hb1)
    have HBX1 := Aside0.mk (HBX.out.below' hb1)
    have c0 : w1.cell? ⟨w.heap.size, 0, none⟩ = some (.int .i64 top) := (HBX1.out.cell 0).trans rfl
    have c1 : w1.cell? ⟨w.heap.size, 1, none⟩ = some (.int .i64 first) := (HBX1.out.cell 1).trans rfl
    have c2 : w1.cell? ⟨w.heap.size, 2, none⟩ = some (.slice A N c) := (HBX1.out.cell 2).trans rfl
    have hla := klay_calls A c l w1 (HS.out.below HB1.out) HC.out (by have := HN.out; omega)
    have hall2 : l.all okE = true := all_ok.2 HALL.out
    rw [← HN.out, layS, layX, if_pos hall2, if_pos hall2] at hla
    obtain ⟨S, hS⟩ : ∃ S, S = strOfNums (layB l) := ⟨_, rfl⟩
    have HSS := Aside0.mk hS
    rw [← hS] at hla
    have HLA := Aside0.mk hla
    have HSZ := Aside0.mk (show S.size ≤ 5000 by
      have s3 := numB_len9 (show l.length < 9223372036854775808 by omega)
      have s4 := evsB_len HALL.out
      rw [hS, strOfNums_size]
      unfold layB
      rw [List.length_append]
      omega)
    clear hb1 hla hall2 hS
    go_wp2_with fail
    refine HLA.out.mono ?_
    rintro e2 w2 ⟨rfl, hb2⟩
    have HB2 := Aside0.mk (below_step HB1.out hb2)
    have HBX2 := Aside0.mk (HBX1.out.below' hb2)
    clear c0 c1 c2 hb2
    have c0 : (w2.alloc (.cells #[.slice none 0 0, .int .i64 0] 112)).cell? ⟨w.heap.size, 0, none⟩ = some (.int .i64 top) := ((HBX2.out.alloc _).cell 0).trans rfl
    have c1 : (w2.alloc (.cells #[.slice none 0 0, .int .i64 0] 112)).cell? ⟨w.heap.size, 1, none⟩ = some (.int .i64 first) := ((HBX2.out.alloc _).cell 1).trans rfl
    have HNUM := Aside0.mk (num2_ok w2.heap.size w2.heap.size (w2.heap.size + 1) [] top first (w2.alloc (.cells #[.slice none 0 0, .int .i64 0] 112)) (by simp) (IsOut.new w2) (by simp) (by simp) ht1 (by omega) hf1 (by omega))
    go_wp2_with fail
    refine HNUM.out.mono ?_
    rintro e3 w3 ⟨rfl, hO3, hF3⟩
    have HO3 := Aside0.mk hO3
    have HB3 := Aside0.mk (show Below w2.heap.size w2 w3 from (below_alloc (Below.refl _ _) _).trans (hF3.toBelow (by simp) (Nat.le_refl _)))
    have hs1 := numB_len9 (show top.toNat < 9223372036854775808 by omega)
    have hs2 := numB_len9 (show first.toNat < 9223372036854775808 by omega)
    have HRW := Aside0.mk (raw1_ok w2.heap.size w2.heap.size w3.heap.size _ S w3 rfl HO3.out HB3.out.size (by have := HSZ.out; simp only [List.nil_append, List.length_append]; omega))
    clear c0 c1 hO3 hF3 HNUM hs1 hs2
    go_wp2_with fail
    refine HRW.out.mono ?_
    rintro e4 w4 ⟨rfl, hO4, hF4⟩
    have HO4 := Aside0.mk hO4
    have HB4 := Aside0.mk (show Below w2.heap.size w2 w4 from HB3.out.trans (hF4.toBelow HB3.out.size (Nat.le_refl _)))
    clear hO4 hF4 HRW
    go_wp2_with fail
    refine (end_ok w2.heap.size w2.heap.size _ w4 HO4.out).mono ?_
    rintro e5 w5 ⟨rfl, rfl⟩
    go_wp2
    go_ret2
    refine ⟨?_, below_step HB2.out HB4.out⟩
    have e1 : upS top first l = strOfNums ([] ++ (numB top.toNat ++ numB first.toNat) ++ bytesOf S) := by
      rw [upS, if_pos HVV.out, HSS.out, bytesOf_str (layB_by HALL.out)]
      unfold upB
      simp
    rw [e1, upX, if_pos HVV.out]
    first | rfl | simp
/-- Bytes that are a message: which one. -/
def IsUp (b : ByteArray) (top first : Int) (l : List E4) : Prop := upV top first l = true ∧ b = strOfNums (upB top first l)
theorem up_read {b : ByteArray} {top first : Int} {l : List E4} (h : IsUp b top first l) : iNum b 0 = (top.toNat, strOfNums (numB first.toNat ++ layB l), 0) ∧ iNum (strOfNums (numB first.toNat ++ layB l)) 0 = (first.toNat, strOfNums (layB l), 0) ∧ IsLay (strOfNums (layB l)) l := by
  obtain ⟨h1, rfl⟩ := h
  obtain ⟨⟨h2, h3⟩, h4, h5, h6⟩ := upV_iff.1 h1
  obtain ⟨h7, h8⟩ := fits_bound h5
  refine ⟨?_, ?_, h6, h4, rfl⟩
  · unfold upB
    rw [iNum_put _ (by omega)]
  · rw [iNum_put _ (by omega)]
theorem read_up {b : ByteArray} {l : List E4} (h : (iNum (iNum b 0).2.1 (iNum b 0).2.2).2.2 = 0) (hl : IsLay (iNum (iNum b 0).2.1 (iNum b 0).2.2).2.1 l) (hv : upV ((iNum b 0).1 : Int) ((iNum (iNum b 0).2.1 (iNum b 0).2.2).1 : Int) l = true) :
    IsUp b ((iNum b 0).1 : Int) ((iNum (iNum b 0).2.1 (iNum b 0).2.2).1 : Int) l := by
  obtain ⟨h1, h2⟩ := iNum_inv h
  obtain ⟨_, h3⟩ := iNum_inv h1
  refine ⟨hv, ?_⟩
  have h4 : bytesOf (iNum (iNum b 0).2.1 (iNum b 0).2.2).2.1 = layB l := by
    rw [hl.2.2, bytesOf_str (layB_by hl.1)]
  unfold upB
  rw [Int.toNat_natCast, Int.toNat_natCast, ← h4, ← h2, ← h3, str_bytes]
theorem IsUp.inj {b : ByteArray} {t f t' f' : Int} {l l' : List E4} (h : IsUp b t f l) (h' : IsUp b t' f' l') : t = t' ∧ f = f' ∧ l = l' := by
  obtain ⟨a1, a2, a3⟩ := up_read h
  obtain ⟨b1, b2, b3⟩ := up_read h'
  obtain ⟨⟨p1, _⟩, _, p2, _⟩ := upV_iff.1 h.1
  obtain ⟨⟨q1, _⟩, _, q2, _⟩ := upV_iff.1 h'.1
  obtain ⟨p3, _⟩ := fits_bound p2
  obtain ⟨q3, _⟩ := fits_bound q2
  rw [a1] at b1
  injection b1 with c1 c2
  injection c2 with c2 _
  rw [c2, b2] at a2
  injection a2 with d1 d2
  injection d2 with d2 _
  rw [← d2] at a3
  refine ⟨by omega, by omega, a3.inj b3⟩
/-- What Read answers. -/
def UpAns (b : ByteArray) (w : World) (r : Ending) (w' : World) : Prop :=
  (∃ top first l A c, IsUp b top first l ∧ r = .returned (.tuple #[.agg #[.int .i64 top, .int .i64 first, .slice A l.length c], .int .i64 0]) ∧ Own w' w.heap.size (.slice A l.length c) l) ∨
  ((∀ top first l, ¬ IsUp b top first l) ∧ ∃ e : Int, e ≠ 0 ∧ r = .returned (.tuple #[.agg #[.int .i64 0, .int .i64 0, .slice none 0 0], .int .i64 e]))
set_option maxHeartbeats 4000000 in
set_option maxRecDepth 100000 in
theorem uread_calls (b : ByteArray) (w : World) (hs : b.size ≤ 100000) :
    Calls Try.prog 48 #[.string b] w fun r w' => UpAns b w r w' ∧ Below w.heap.size w w' := by
  have HBS := Aside0.mk hs
  have HR0 := Aside0.mk (Blk.new w 95 #[.int .i64 0, .int .i64 0, .slice none 0 0])
  have HB0 := Aside0.mk (below_alloc (Below.refl w.heap.size w) (.cells #[.int .i64 0, .int .i64 0, .slice none 0 0] 95))
  clear hs
  go_enter Try.func48, Try.ntmps48
  go_wp2_with fail
  refine (on_calls b _).mono ?_
  rintro e1 w1 ⟨rfl, hw1⟩
  obtain ⟨g, hg⟩ : ∃ g, g = w.heap.size + 1 := ⟨_, rfl⟩
  have hgw : w.heap.size ≠ g := by omega
  have hgle : w.heap.size ≤ g := by omega
  have HI1 := Aside0.mk (show IsIn w1 g b 0 by
    rw [← hw1, hg]
    have := Blk.new (w.alloc (.cells #[.int .i64 0, .int .i64 0, .slice none 0 0] 95)) 151 #[.string b, .int .i64 0]
    rwa [World.size_alloc] at this)
  have HR1 := Aside0.mk (show Blk w1 w.heap.size 95 #[.int .i64 0, .int .i64 0, .slice none 0 0] by rw [← hw1]; exact HR0.out.alloc _)
  have HB1 := Aside0.mk (show Below w.heap.size w w1 by rw [← hw1]; exact below_alloc HB0.out _)
  rw [World.size_alloc, ← hg]
  clear hw1 hg HR0 HB0
  go_wp2_with fail
  refine (inum_calls g b 0 w1 HI1.out (by have := HBS.out; omega)).mono ?_
  rintro e2 w2 ⟨rfl, hI2, hF2⟩
  obtain ⟨t, ht⟩ : ∃ t, t = (iNum b 0).1 := ⟨_, rfl⟩
  obtain ⟨b1, hb1⟩ : ∃ b1, b1 = (iNum b 0).2.1 := ⟨_, rfl⟩
  obtain ⟨x1, hx1⟩ : ∃ x1, x1 = (iNum b 0).2.2 := ⟨_, rfl⟩
  have HT := Aside0.mk (And.intro ht (And.intro hb1 hx1))
  have HZ1 := Aside0.mk (show b1.size ≤ 100000 by rw [hb1]; exact Nat.le_trans (iNum_size b 0) HBS.out)
  rw [← hb1, ← hx1] at hI2
  rw [← ht]
  have HI2 := Aside0.mk (hI2.alloc (.cells #[.int .i64 (t : Int), .int .i64 0, .slice none 0 0] 95))
  have HR2 := Aside0.mk ((show Blk w2 w.heap.size 95 _ from hF2.keep HR1.out hgw).alloc (.cells #[.int .i64 (t : Int), .int .i64 0, .slice none 0 0] 95))
  have HB2 := Aside0.mk (below_alloc (HB1.out.trans (hF2.toBelow HB1.out.size hgle)) (.cells #[.int .i64 (t : Int), .int .i64 0, .slice none 0 0] 95))
  have HM2 := Aside0.mk (Blk.new w2 95 #[.int .i64 (t : Int), .int .i64 0, .slice none 0 0])
  have hgm : g < w2.heap.size := blk_lt hI2
  have hrm : w.heap.size < w2.heap.size := by omega
  clear hI2 hF2 ht hb1 hx1 HI1 HR1 HB1
  go_wp2_with fail
  obtain ⟨gm, hgmq⟩ : ∃ gm, gm = w2.heap.size := ⟨_, rfl⟩
  rw [← hgmq] at HM2 hgm hrm ⊢
  refine (inum_calls g b1 x1 _ HI2.out (by have := HZ1.out; omega)).mono ?_
  rintro e3 w3 ⟨rfl, hI3, hF3⟩
  obtain ⟨f, hf⟩ : ∃ f, f = (iNum b1 x1).1 := ⟨_, rfl⟩
  obtain ⟨b2, hb2⟩ : ∃ b2, b2 = (iNum b1 x1).2.1 := ⟨_, rfl⟩
  obtain ⟨x2, hx2⟩ : ∃ x2, x2 = (iNum b1 x1).2.2 := ⟨_, rfl⟩
  have HF := Aside0.mk (And.intro hf (And.intro hb2 hx2))
  have HZ2 := Aside0.mk (show b2.size ≤ 100000 by rw [hb2]; exact Nat.le_trans (iNum_size _ _) HZ1.out)
  rw [← hb2, ← hx2] at hI3
  rw [← hf]
  have HM3 := Aside0.mk ((show Blk w3 gm 95 _ from hF3.keep HM2.out (by omega)).set_ 1 (.int .i64 (f : Int)))
  have HI3 := Aside0.mk ((show Blk w3 g 151 _ from hI3).far (p := ⟨gm, 1, none⟩) (by simp only; omega) (.int .i64 (f : Int)))
  have HR3 := Aside0.mk ((show Blk w3 w.heap.size 95 _ from hF3.keep HR2.out hgw).far (p := ⟨gm, 1, none⟩) (by simp only; omega) (.int .i64 (f : Int)))
  have HB3 := Aside0.mk ((HB2.out.trans (hF3.toBelow HB2.out.size hgle)).setCell (p := ⟨gm, 1, none⟩) (by simp only; omega) (.int .i64 (f : Int)))
  have c1 := (show Blk w3 gm 95 _ from hF3.keep HM2.out (by omega)).cell 1 |>.trans (show _ = some (Value.int .i64 0) from rfl)
  have f1 := (show Blk w3 gm 95 _ from hF3.keep HM2.out (by omega)).frozen 1
  clear hI3 hF3 hf hb2 hx2 HM2 HI2 HR2 HB2 hgmq
  go_wp2_with fail
  clear c1 f1
  generalize w3.setCell ⟨gm, 1, none⟩ (.int .i64 (f : Int)) = W3 at HM3 HI3 HR3 HB3 ⊢
  refine (ileft_calls g b2 x2 W3 HI3.out).mono ?_
  rintro e4 w4 ⟨rfl, rfl⟩
  have HFW := Aside0.mk (show ∀ top first l, IsUp b top first l → top = t ∧ first = f ∧ x2 = 0 ∧ IsLay b2 l from fun top first l hu => by
    obtain ⟨a1, a2, a3⟩ := up_read hu
    obtain ⟨⟨p1, _⟩, _, p2, _⟩ := upV_iff.1 hu.1
    obtain ⟨p3, _⟩ := fits_bound p2
    obtain ⟨h1, h2, h3⟩ := HT.out
    obtain ⟨h4, h5, h6⟩ := HF.out
    rw [a1] at h1 h2 h3
    dsimp only at h1 h2 h3
    rw [h2, h3, a2] at h4 h5 h6
    dsimp only at h4 h5 h6
    rw [h5]
    exact ⟨by omega, by omega, h6, a3⟩)
  by_cases hx : x2 = 0
  · subst hx
    rw [if_pos rfl]
    have hrw := iraw_calls g b2 0 (b2.size : Int) W3 HI3.out (by have := HZ2.out; omega)
    have hraw : iRaw b2 0 (b2.size : Int) = (b2, strOfNums [], 0) := by
      have := iRaw_put (bytesOf b2) b2.size (by rw [bytesOf_length]; exact Nat.le_refl _)
      rw [str_bytes] at this
      rw [this, List.take_of_length_le (by rw [bytesOf_length]; exact Nat.le_refl _), List.drop_of_length_le (by rw [bytesOf_length]; exact Nat.le_refl _), str_bytes]
    rw [hraw] at hrw
    have HRW := Aside0.mk hrw
    clear hrw hraw
    go_wp2_with fail
    refine HRW.out.mono ?_
    rintro e5 w5 ⟨rfl, hI5, hF5⟩
    have HI5 := Aside0.mk hI5
    have HR5 := Aside0.mk (show Blk w5 w.heap.size 95 _ from hF5.keep HR3.out hgw)
    have HM5 := Aside0.mk (show Blk w5 gm 95 _ from hF5.keep HM3.out (by omega))
    have HB5 := Aside0.mk (HB3.out.trans (hF5.toBelow HB3.out.size hgle))
    have hen := iend_calls g (strOfNums []) 0 w5 HI5.out
    rw [if_pos rfl, if_pos (by rw [strOfNums_size]; rfl)] at hen
    have HEN := Aside0.mk hen
    clear hI5 hF5 hen HRW
    go_wp2_with fail
    refine HEN.out.mono ?_
    rintro e6 w6 ⟨rfl, hI6, hF6⟩
    have HR6 := Aside0.mk (show Blk w6 w.heap.size 95 _ from hF6.keep HR5.out hgw)
    have HM6 := Aside0.mk (show Blk w6 gm 95 _ from hF6.keep HM5.out (by omega))
    have HB6 := Aside0.mk (HB5.out.trans (hF6.toBelow HB5.out.size hgle))
    clear hI6 hF6 HEN HR5 HM5 HB5
    go_wp2_with fail
    refine (kread_calls b2 w6 HZ2.out).mono ?_
    rintro e7 w7 ⟨hra, hb7⟩
    have HR7 := Aside0.mk (HR6.out.below' hb7)
    have HM7 := Aside0.mk (HM6.out.below' hb7)
    have HB7 := Aside0.mk (HB6.out.trans (hb7.mono HB6.out.size))
    have hs6 := HB6.out.size
    have HSZ := Aside0.mk hb7.size
    have hgm6 := HM6.out.lt
    clear hb7
    rcases hra with ⟨l1, v1, hl1, rfl, ho1⟩ | ⟨hno, x1', hx1', rfl⟩
    · obtain ⟨A1, C1, rfl⟩ := row_sl ho1
      have HO7 := Aside0.mk ho1
      have HLY := Aside0.mk hl1
      have hl40 := hl1.2.1
      obtain ⟨A1', C1', he1, hlc1, hsrc1, hbk1⟩ := ho1.src
      obtain ⟨rfl, rfl⟩ : A1 = A1' ∧ C1 = C1' := by injection he1 with h1 _ h2; exact ⟨h1, h2⟩
      obtain ⟨n1, hn1⟩ : ∃ n1, n1 = l1.length := ⟨_, rfl⟩
      have HN1 := Aside0.mk hn1
      have hnb : ∀ k, (Value.slice A1 l1.length C1).ownBlock = some k → k ≠ gm ∧ k ≠ w.heap.size := fun k hk => by
        have h1 := own_base ho1 k hk
        omega
      have HNB := Aside0.mk hnb
      have HM8 := Aside0.mk (HM7.out.set_ 2 (.slice A1 l1.length C1))
      have HR8 := Aside0.mk (HR7.out.far (p := ⟨gm, 2, none⟩) (by simp only; omega) (.slice A1 l1.length C1))
      have ho8 := ho1.only (w' := w7.setCell ⟨gm, 2, none⟩ (.slice A1 l1.length C1)) ((Only.refl [gm] w7).setCell _ _ (.inl (by simp))) (fun k hk hm => (hnb k hk).1 (by simpa using hm))
      have HO8 := Aside0.mk ho8
      have HB8 := Aside0.mk (HB7.out.setCell (p := ⟨gm, 2, none⟩) (by simp only; omega) (.slice A1 l1.length C1))
      obtain ⟨A8, C8, he8, hlc8, hsrc8, _⟩ := ho8.src
      have hA8 : A8 = A1 := by injection he8 with h1 _ h2; exact h1.symm
      have hC8 : C8 = C1 := by injection he8 with h1 _ h2; exact h2.symm
      subst hA8 hC8
      have c2 := (HM7.out.cell 2).trans (show _ = some (Value.slice none 0 0) from rfl)
      have f2 := HM7.out.frozen 2
      have huv := upv_calls (t : Int) (f : Int) A8 C8 l1 _ hsrc8 hlc8 (by omega)
      have HUV := Aside0.mk huv
      have m0 := (HM8.out.cell 0).trans (show _ = some (Value.int .i64 (t : Int)) from rfl)
      have m1 := (HM8.out.cell 1).trans (show _ = some (Value.int .i64 (f : Int)) from rfl)
      have m2 := (HM8.out.cell 2).trans (show _ = some (Value.slice A8 l1.length C8) from rfl)
      clear hl1 he1 hlc1 hsrc1 hbk1 hn1 ho8 he8 hlc8 hsrc8 hnb huv ho1
      go_wp2_with fail
      refine HUV.out.mono ?_
      rintro e9 w9 ⟨rfl, hb9⟩
      have HR9 := Aside0.mk (HR8.out.below' hb9)
      have HM9 := Aside0.mk (HM8.out.below' hb9)
      have HO9 := Aside0.mk (HO8.out.below hb9)
      have HB9 := Aside0.mk (below_step HB8.out hb9)
      clear hb9 m0 m1 m2 c2 f2 HUV
      cases hv : upV (t : Int) (f : Int) l1 with
      | false =>
        have HV := Aside0.mk hv
        have HNO := Aside0.mk (show ∀ top first l, ¬ IsUp b top first l from fun top first l hu => by
          obtain ⟨h1, h2, _, h4⟩ := HFW.out top first l hu
          obtain rfl := h4.inj HLY.out
          have h5 := hu.1
          rw [h1, h2, HV.out] at h5
          cases h5)
        clear hv
        have k0 := (HR9.out.cell 0).trans (show _ = some (Value.int .i64 0) from rfl)
        have g0 := HR9.out.frozen 0
        have k1 := (HR9.out.cell 1).trans (show _ = some (Value.int .i64 0) from rfl)
        have g1 := HR9.out.frozen 1
        have k2 := (HR9.out.cell 2).trans (show _ = some (Value.slice none 0 0) from rfl)
        have g2 := HR9.out.frozen 2
        go_wp2
        exact bodyPost_ret (results_ct rfl _ _ w.heap.size 95 _ (0, 0) _ rfl (((HR9.out.set_ 0 _).set_ 1 _).set_ 2 _) Try.underlying95 rfl (by kernel_rfl)) rfl ⟨.inr ⟨HNO.out, 3, by decide, rfl⟩, ((HB9.out.setCell (p := ⟨w.heap.size, 0, none⟩) (Nat.le_refl _) _).setCell (p := ⟨w.heap.size, 1, none⟩) (Nat.le_refl _) _).setCell (p := ⟨w.heap.size, 2, none⟩) (Nat.le_refl _) _⟩
      | true =>
        have HV := Aside0.mk hv
        have HUP := Aside0.mk (show IsUp b (t : Int) (f : Int) l1 by
          obtain ⟨e1, e2, e3⟩ := HT.out
          obtain ⟨e4, e5, e6⟩ := HF.out
          rw [e2, e3] at e4 e5 e6
          have := read_up (b := b) (l := l1) e6.symm (by rw [← e5]; exact HLY.out) (by rw [← e1, ← e4]; exact HV.out)
          rwa [← e1, ← e4] at this)
        clear hv
        have k0 := (HR9.out.cell 0).trans (show _ = some (Value.int .i64 0) from rfl)
        have g0 := HR9.out.frozen 0
        have k1 := (HR9.out.cell 1).trans (show _ = some (Value.int .i64 0) from rfl)
        have g1 := HR9.out.frozen 1
        have k2 := (HR9.out.cell 2).trans (show _ = some (Value.slice none 0 0) from rfl)
        have g2 := HR9.out.frozen 2
        have m0 := (HM9.out.cell 0).trans (show _ = some (Value.int .i64 (t : Int)) from rfl)
        have m1 := (HM9.out.cell 1).trans (show _ = some (Value.int .i64 (f : Int)) from rfl)
        have m2 := (HM9.out.cell 2).trans (show _ = some (Value.slice A8 l1.length C8) from rfl)
        go_wp2
        exact bodyPost_ret (results_ct rfl _ _ w.heap.size 95 _ (0, 0) _ rfl (((HR9.out.set_ 0 _).set_ 1 _).set_ 2 _) Try.underlying95 rfl (by kernel_rfl)) rfl ⟨.inl ⟨t, f, l1, A8, C8, HUP.out, rfl, by
          have h1 := HO9.out.only ((((Only.refl [w.heap.size] w9).setCell ⟨w.heap.size, 0, none⟩ (.int .i64 (t : Int)) (.inl (by simp))).setCell ⟨w.heap.size, 1, none⟩ (.int .i64 (f : Int)) (.inl (by simp))).setCell ⟨w.heap.size, 2, none⟩ (.slice A8 l1.length C8) (.inl (by simp))) (fun k hk hm => (HNB.out k hk).2 (by simpa using hm))
          exact ⟨h1.1, h1.2.imp id (fun ⟨g, cap, cur, h2, h3, h4⟩ => ⟨g, cap, cur, h2, Nat.le_trans hs6 h3, h4⟩)⟩⟩, ((HB9.out.setCell (p := ⟨w.heap.size, 0, none⟩) (Nat.le_refl _) _).setCell (p := ⟨w.heap.size, 1, none⟩) (Nat.le_refl _) _).setCell (p := ⟨w.heap.size, 2, none⟩) (Nat.le_refl _) _⟩
    · have hxb : (x1' != 0) = true := by simpa using hx1'
      have k0 := (HR7.out.cell 0).trans (show _ = some (Value.int .i64 0) from rfl)
      have g0 := HR7.out.frozen 0
      have k1 := (HR7.out.cell 1).trans (show _ = some (Value.int .i64 0) from rfl)
      have g1 := HR7.out.frozen 1
      have k2 := (HR7.out.cell 2).trans (show _ = some (Value.slice none 0 0) from rfl)
      have g2 := HR7.out.frozen 2
      go_wp2
      exact bodyPost_ret (results_ct rfl _ _ w.heap.size 95 _ (0, 0) _ rfl (((HR7.out.set_ 0 _).set_ 1 _).set_ 2 _) Try.underlying95 rfl (by kernel_rfl)) rfl ⟨.inr ⟨fun top first l hu => hno l (HFW.out top first l hu).2.2.2, x1', hx1', rfl⟩, ((HB7.out.setCell (p := ⟨w.heap.size, 0, none⟩) (Nat.le_refl _) _).setCell (p := ⟨w.heap.size, 1, none⟩) (Nat.le_refl _) _).setCell (p := ⟨w.heap.size, 2, none⟩) (Nat.le_refl _) _⟩
  · rw [if_neg hx]
    have hrw := iraw_calls g b2 x2 0 W3 HI3.out (by have := HZ2.out; omega)
    rw [iRaw_err hx] at hrw
    have HRW := Aside0.mk hrw
    have HX := Aside0.mk hx
    have hxb : (x2 != 0) = true := by simpa using hx
    clear hrw hx
    go_wp2_with fail
    refine HRW.out.mono ?_
    rintro e5 w5 ⟨rfl, hI5, hF5⟩
    have HI5 := Aside0.mk hI5
    have HR5 := Aside0.mk (show Blk w5 w.heap.size 95 _ from hF5.keep HR3.out hgw)
    have HB5 := Aside0.mk (HB3.out.trans (hF5.toBelow HB3.out.size hgle))
    have hen := iend_calls g b2 x2 w5 HI5.out
    rw [if_neg HX.out] at hen
    have HEN := Aside0.mk hen
    clear hI5 hF5 hen HRW
    go_wp2_with fail
    refine HEN.out.mono ?_
    rintro e6 w6 ⟨rfl, hI6, hF6⟩
    have HR6 := Aside0.mk (show Blk w6 w.heap.size 95 _ from hF6.keep HR5.out hgw)
    have HB6 := Aside0.mk (HB5.out.trans (hF6.toBelow HB5.out.size hgle))
    clear hI6 hF6 HEN HR5 HB5
    have k0 := (HR6.out.cell 0).trans (show _ = some (Value.int .i64 0) from rfl)
    have g0 := HR6.out.frozen 0
    have k1 := (HR6.out.cell 1).trans (show _ = some (Value.int .i64 0) from rfl)
    have g1 := HR6.out.frozen 1
    have k2 := (HR6.out.cell 2).trans (show _ = some (Value.slice none 0 0) from rfl)
    have g2 := HR6.out.frozen 2
    go_wp2
    exact bodyPost_ret (results_ct rfl _ _ w.heap.size 95 _ (0, 0) _ rfl (((HR6.out.set_ 0 _).set_ 1 _).set_ 2 _) Try.underlying95 rfl (by kernel_rfl)) rfl ⟨.inr ⟨fun top first l hu => HX.out (HFW.out top first l hu).2.2.1, x2, HX.out, rfl⟩, ((HB6.out.setCell (p := ⟨w.heap.size, 0, none⟩) (Nat.le_refl _) _).setCell (p := ⟨w.heap.size, 1, none⟩) (Nat.le_refl _) _).setCell (p := ⟨w.heap.size, 2, none⟩) (Nat.le_refl _) _⟩
end Go.Proofs.Ytjjjinpmflghmaa.Keys
namespace Go.Proofs.Ytjjjinpmflghmaa.Keys
open Go.RowKit Go.Proofs.Ytjjjinpmflghmaa.Mem Go.Proofs.Ytjjjinpmflghmaa.Row Go.Proofs.Ytjjjinpmflghmaa.Obj Go.Proofs.YtjjjinpmflghmaaW.PrintWords Go.Proofs.YtjjjinpmflghmaaW.PrintMore Go.Proofs.YtjjjinpmflghmaaW.PrintLast
open Go.Proofs.Ytjjjinpmflghmaa.BookEv (Own Src)
set_option linter.unusedVariables false
set_option linter.unusedSimpArgs false
theorem rNumE_iNum {b : ByteArray} {e : Int} (h : (rNumE b e).2.2 = 0) : (iNum b e).2.2 = 0 := by
  unfold rNumE at h
  split at h
  · rename_i he
    exact absurd h he
  · rename_i he
    obtain rfl : e = 0 := by omega
    rw [← (rNum_iNum b).2.1]
    exact h
/-- What the document's Read answers. -/
def RUpAns (b : ByteArray) (w : World) (r : Ending) (w' : World) : Prop :=
  (∃ top first l A c, IsUp b top first l ∧ r = .returned (.tuple #[.agg #[.int .i64 top, .int .i64 first, .slice A l.length c], .bool true]) ∧ Own w' w.heap.size (.slice A l.length c) l) ∨
  ((∀ top first l, ¬ IsUp b top first l) ∧ r = .returned (.tuple #[.agg #[.int .i64 0, .int .i64 0, .slice none 0 0], .bool false]))
set_option maxHeartbeats 4000000 in
set_option maxRecDepth 100000 in
theorem rupread_calls (b : ByteArray) (w : World) (hs : b.size ≤ 100000) :
    Calls Try.prog 49 #[.string b] w fun r w' => RUpAns b w r w' ∧ Below w.heap.size w w' := by
  have HBS := Aside0.mk hs
  have HB0 := Aside0.mk (below_alloc (below_alloc (Below.refl w.heap.size w) (.cells #[.int .i64 0, .int .i64 0, .slice none 0 0] 97)) (.cells #[.string b, .int .i64 0] 121))
  have HR0 := Aside0.mk ((Blk.new w 97 #[.int .i64 0, .int .i64 0, .slice none 0 0]).alloc (.cells #[.string b, .int .i64 0] 121))
  have hi0 := Blk.new (w.alloc (.cells #[.int .i64 0, .int .i64 0, .slice none 0 0] 97)) 121 #[.string b, .int .i64 0]
  rw [World.size_alloc] at hi0
  obtain ⟨g, hg⟩ : ∃ g, g = w.heap.size + 1 := ⟨_, rfl⟩
  have hgw : w.heap.size ≠ g := by omega
  have hgle : w.heap.size ≤ g := by omega
  rw [← hg] at hi0
  have HI0 := Aside0.mk (show IsRIn _ g b 0 from hi0)
  clear hs hi0
  go_enter Try.func49, Try.ntmps49
  go_wp2_with fail
  rw [← hg]
  clear hg
  refine (rnum_ok g b _ HI0.out (by have := HBS.out; omega)).mono ?_
  rintro e2 w2 ⟨rfl, hI2, hF2⟩
  obtain ⟨t, ht⟩ : ∃ t, t = (rNum b).1 := ⟨_, rfl⟩
  obtain ⟨b1, hb1⟩ : ∃ b1, b1 = (rNum b).2.1 := ⟨_, rfl⟩
  obtain ⟨x1, hx1⟩ : ∃ x1, x1 = (rNum b).2.2 := ⟨_, rfl⟩
  have HT := Aside0.mk (And.intro ht (And.intro hb1 hx1))
  have HZ1 := Aside0.mk (show b1.size ≤ 100000 by rw [hb1]; exact Nat.le_trans (rNum_size b) HBS.out)
  rw [← hb1, ← hx1] at hI2
  rw [← ht]
  have HI2 := Aside0.mk hI2
  have HR2 := Aside0.mk (show Blk w2 w.heap.size 97 _ from hF2.keep HR0.out hgw)
  have HB2 := Aside0.mk (HB0.out.trans (hF2.toBelow HB0.out.size hgle))
  clear hI2 hF2 ht hb1 hx1 HI0 HR0 HB0
  go_wp2_with fail
  refine (rnumE_calls g b1 x1 w2 HI2.out (by have := HZ1.out; omega)).mono ?_
  rintro e3 w3 ⟨rfl, hI3, hF3⟩
  obtain ⟨f, hf⟩ : ∃ f, f = (rNumE b1 x1).1 := ⟨_, rfl⟩
  obtain ⟨b2, hb2⟩ : ∃ b2, b2 = (rNumE b1 x1).2.1 := ⟨_, rfl⟩
  obtain ⟨x2, hx2⟩ : ∃ x2, x2 = (rNumE b1 x1).2.2 := ⟨_, rfl⟩
  have HF := Aside0.mk (And.intro hf (And.intro hb2 hx2))
  have HZ2 := Aside0.mk (show b2.size ≤ 100000 by rw [hb2]; exact Nat.le_trans (rNumE_size _ _) HZ1.out)
  rw [← hb2, ← hx2] at hI3
  rw [← hf]
  have HM4 := Aside0.mk (Blk.new w3 97 #[.int .i64 (t : Int), .int .i64 (f : Int), .slice none 0 0])
  have HI4 := Aside0.mk (hI3.below (below_alloc (Below.refl _ _) (.cells #[.int .i64 (t : Int), .int .i64 (f : Int), .slice none 0 0] 97)))
  have HR4 := Aside0.mk ((show Blk w3 w.heap.size 97 _ from hF3.keep HR2.out hgw).alloc (.cells #[.int .i64 (t : Int), .int .i64 (f : Int), .slice none 0 0] 97))
  have HB4 := Aside0.mk (below_alloc (HB2.out.trans (hF3.toBelow HB2.out.size hgle)) (.cells #[.int .i64 (t : Int), .int .i64 (f : Int), .slice none 0 0] 97))
  have hgm : g < w3.heap.size := blk_lt hI3
  have hrm : w.heap.size < w3.heap.size := by omega
  clear hI3 hF3 hf hb2 hx2 HI2 HR2 HB2
  have HFW := Aside0.mk (show ∀ top first l, IsUp b top first l → top = t ∧ first = f ∧ x2 = 0 ∧ IsLay b2 l from fun top first l hu => by
    obtain ⟨a1, a2, a3⟩ := up_read hu
    obtain ⟨⟨p1, _⟩, _, p2, _⟩ := upV_iff.1 hu.1
    obtain ⟨p3, _⟩ := fits_bound p2
    obtain ⟨h1, h2, h3⟩ := HT.out
    obtain ⟨h4, h5, h6⟩ := HF.out
    have r1 := rNumE_eq (b := b) (e := 0) (by rw [a1])
    unfold rNumE at r1
    rw [if_neg (by simp), a1] at r1
    rw [r1] at h1 h2 h3
    dsimp only at h1 h2 h3
    have r2 := rNumE_eq (b := strOfNums (numB first.toNat ++ layB l)) (e := 0) (by rw [a2])
    rw [a2] at r2
    rw [h2, h3, r2] at h4 h5 h6
    dsimp only at h4 h5 h6
    rw [h5]
    exact ⟨by omega, by omega, h6, a3⟩)
  go_upto_region 3 with (fail)
  obtain ⟨W4, hW4⟩ : ∃ W4, W4 = w3.alloc (.cells #[.int .i64 (t : Int), .int .i64 (f : Int), .slice none 0 0] 97) := ⟨_, rfl⟩
  obtain ⟨gm, hgmq⟩ : ∃ gm, gm = w3.heap.size := ⟨_, rfl⟩
  rw [← hW4] at HM4 HI4 HR4 HB4 ⊢
  rw [← hgmq] at HM4 hgm hrm ⊢
  clear hW4 hgmq
  have q0 : W4.cell? ⟨g, 0, none⟩ = some (.string b2) := (blk_cell HI4.out 0).trans rfl
  have q1 : W4.cell? ⟨g, 1, none⟩ = some (.int .i64 x2) := (blk_cell HI4.out 1).trans rfl
  by_cases hx : x2 = 0
  · subst hx
    go_wp2_with fail
    refine (revs_calls b2 _ HZ2.out).mono ?_
    rintro e7 w7 ⟨hra, hb7⟩
    have HR7 := Aside0.mk (HR4.out.below' hb7)
    have HM7 := Aside0.mk (HM4.out.below' hb7)
    have HB7 := Aside0.mk (HB4.out.trans (hb7.mono HB4.out.size))
    have hs4 := HB4.out.size
    have hgm4 := HM4.out.lt
    clear hb7 q0 q1
    rcases hra with ⟨l1, v1, hl1, rfl, ho1⟩ | ⟨hno, v1, l1, rfl, ho1, _⟩
    · obtain ⟨A1, C1, rfl⟩ := row_sl ho1
      obtain ⟨n1, hn1⟩ : ∃ n1, n1 = l1.length := ⟨_, rfl⟩
      have HN1 := Aside0.mk hn1
      have HLY := Aside0.mk hl1
      have hl40 := hl1.2.1
      rw [← hn1] at ho1 ⊢
      have hnb : ∀ k, (Value.slice A1 n1 C1).ownBlock = some k → k ≠ gm ∧ k ≠ w.heap.size := fun k hk => by
        have h1 := own_base ho1 k hk
        omega
      have HNB := Aside0.mk hnb
      have HM8 := Aside0.mk (HM7.out.set_ 2 (.slice A1 n1 C1))
      have HR8 := Aside0.mk (HR7.out.far (p := ⟨gm, 2, none⟩) (by simp only; omega) (.slice A1 n1 C1))
      have HB8 := Aside0.mk (HB7.out.setCell (p := ⟨gm, 2, none⟩) (by simp only; omega) (.slice A1 n1 C1))
      have c2 := (HM7.out.cell 2).trans (show _ = some (Value.slice none 0 0) from rfl)
      have f2 := HM7.out.frozen 2
      have ho8 := (show Own w7 W4.heap.size (.slice A1 n1 C1) l1 by rw [hn1] at ho1 ⊢; exact ho1).only (w' := w7.setCell ⟨gm, 2, none⟩ (.slice A1 n1 C1)) ((Only.refl [gm] w7).setCell _ _ (.inl (by simp))) (fun k hk hm => (hnb k hk).1 (by simpa using hm))
      have HO8 := Aside0.mk ho8
      obtain ⟨A8, C8, he8, hlc8, hsrc8, _⟩ := ho8.src
      have hA8 : A8 = A1 := by injection he8 with h1 _ h2; exact h1.symm
      have hC8 : C8 = C1 := by injection he8 with h1 _ h2; exact h2.symm
      subst hA8 hC8
      have huv := rupv_calls (t : Int) (f : Int) A8 C8 l1 _ hsrc8 hlc8 (by omega)
      rw [← hn1] at huv
      have HUV := Aside0.mk huv
      have m0 := (HM8.out.cell 0).trans (show _ = some (Value.int .i64 (t : Int)) from rfl)
      have m1 := (HM8.out.cell 1).trans (show _ = some (Value.int .i64 (f : Int)) from rfl)
      have m2 := (HM8.out.cell 2).trans (show _ = some (Value.slice A8 n1 C8) from rfl)
      clear hl1 hn1 ho8 he8 hlc8 hsrc8 hnb huv ho1 hl40
      go_wp2_with fail
      refine HUV.out.mono ?_
      rintro e9 w9 ⟨rfl, hb9⟩
      have HR9 := Aside0.mk (HR8.out.below' hb9)
      have HM9 := Aside0.mk (HM8.out.below' hb9)
      have HO9 := Aside0.mk (HO8.out.below hb9)
      have HB9 := Aside0.mk (below_step HB8.out hb9)
      clear hb9 m0 m1 m2 c2 f2 HUV
      cases hv : upV (t : Int) (f : Int) l1 with
      | false =>
        have HV := Aside0.mk hv
        have HNO := Aside0.mk (show ∀ top first l, ¬ IsUp b top first l from fun top first l hu => by
          obtain ⟨h1, h2, _, h4⟩ := HFW.out top first l hu
          obtain rfl := h4.inj HLY.out
          have h5 := hu.1
          rw [h1, h2, HV.out] at h5
          cases h5)
        clear hv
        have k0 := (HR9.out.cell 0).trans (show _ = some (Value.int .i64 0) from rfl)
        have g0 := HR9.out.frozen 0
        have k1 := (HR9.out.cell 1).trans (show _ = some (Value.int .i64 0) from rfl)
        have g1 := HR9.out.frozen 1
        have k2 := (HR9.out.cell 2).trans (show _ = some (Value.slice none 0 0) from rfl)
        have g2 := HR9.out.frozen 2
        go_wp2
        exact bodyPost_ret (results_ct rfl _ _ w.heap.size 97 _ (0, 0) _ rfl (((HR9.out.set_ 0 _).set_ 1 _).set_ 2 _) Try.underlying97 rfl (by kernel_rfl)) rfl ⟨.inr ⟨HNO.out, rfl⟩, ((HB9.out.setCell (p := ⟨w.heap.size, 0, none⟩) (Nat.le_refl _) _).setCell (p := ⟨w.heap.size, 1, none⟩) (Nat.le_refl _) _).setCell (p := ⟨w.heap.size, 2, none⟩) (Nat.le_refl _) _⟩
      | true =>
        have HV := Aside0.mk hv
        have HUP := Aside0.mk (show IsUp b (t : Int) (f : Int) l1 by
          obtain ⟨e1, e2, e3⟩ := HT.out
          obtain ⟨e4, e5, e6⟩ := HF.out
          have i2 := rNumE_iNum e6.symm
          have i1 : (iNum b 0).2.2 = 0 := by
            have := (iNum_inv i2).1
            rw [← (rNum_iNum b).2.1, ← e3]
            exact this
          have j1 : rNum b = iNum b 0 := by
            have := rNumE_eq i1
            unfold rNumE at this
            rwa [if_neg (by simp)] at this
          have j2 := rNumE_eq i2
          rw [j1] at e1 e2 e3
          rw [j2, e2, e3] at e4 e5 e6
          have := read_up (b := b) (l := l1) e6.symm (by rw [← e5]; exact HLY.out) (by rw [← e1, ← e4]; exact HV.out)
          rwa [← e1, ← e4] at this)
        clear hv
        have k0 := (HR9.out.cell 0).trans (show _ = some (Value.int .i64 0) from rfl)
        have g0 := HR9.out.frozen 0
        have k1 := (HR9.out.cell 1).trans (show _ = some (Value.int .i64 0) from rfl)
        have g1 := HR9.out.frozen 1
        have k2 := (HR9.out.cell 2).trans (show _ = some (Value.slice none 0 0) from rfl)
        have g2 := HR9.out.frozen 2
        have m0 := (HM9.out.cell 0).trans (show _ = some (Value.int .i64 (t : Int)) from rfl)
        have m1 := (HM9.out.cell 1).trans (show _ = some (Value.int .i64 (f : Int)) from rfl)
        have m2 := (HM9.out.cell 2).trans (show _ = some (Value.slice A8 n1 C8) from rfl)
        go_wp2
        exact bodyPost_ret (results_ct rfl _ _ w.heap.size 97 _ (0, 0) _ rfl (((HR9.out.set_ 0 _).set_ 1 _).set_ 2 _) Try.underlying97 rfl (by kernel_rfl)) rfl ⟨.inl ⟨t, f, l1, A8, C8, HUP.out, by rw [← HN1.out]; rfl, by
          have h1 := HO9.out.only ((((Only.refl [w.heap.size] w9).setCell ⟨w.heap.size, 0, none⟩ (.int .i64 (t : Int)) (.inl (by simp))).setCell ⟨w.heap.size, 1, none⟩ (.int .i64 (f : Int)) (.inl (by simp))).setCell ⟨w.heap.size, 2, none⟩ (.slice A8 n1 C8) (.inl (by simp))) (fun k hk hm => (HNB.out k hk).2 (by simpa using hm))
          rw [← HN1.out]
          exact ⟨h1.1, h1.2.imp id (fun ⟨g, cap, cur, h2, h3, h4⟩ => ⟨g, cap, cur, h2, Nat.le_trans hs4 h3, h4⟩)⟩⟩, ((HB9.out.setCell (p := ⟨w.heap.size, 0, none⟩) (Nat.le_refl _) _).setCell (p := ⟨w.heap.size, 1, none⟩) (Nat.le_refl _) _).setCell (p := ⟨w.heap.size, 2, none⟩) (Nat.le_refl _) _⟩
    · obtain ⟨A1, C1, rfl⟩ := row_sl ho1
      obtain ⟨n1, hn1⟩ : ∃ n1, n1 = l1.length := ⟨_, rfl⟩
      rw [← hn1]
      have HNO := Aside0.mk (show ∀ top first l, ¬ IsUp b top first l from fun top first l hu => hno l (HFW.out top first l hu).2.2.2)
      have HM8 := Aside0.mk (HM7.out.set_ 2 (.slice A1 n1 C1))
      have HR8 := Aside0.mk (HR7.out.far (p := ⟨gm, 2, none⟩) (by simp only; omega) (.slice A1 n1 C1))
      have HB8 := Aside0.mk (HB7.out.setCell (p := ⟨gm, 2, none⟩) (by simp only; omega) (.slice A1 n1 C1))
      have c2 := (HM7.out.cell 2).trans (show _ = some (Value.slice none 0 0) from rfl)
      have f2 := HM7.out.frozen 2
      clear hn1 ho1
      have k0 := (HR8.out.cell 0).trans (show _ = some (Value.int .i64 0) from rfl)
      have g0 := HR8.out.frozen 0
      have k1 := (HR8.out.cell 1).trans (show _ = some (Value.int .i64 0) from rfl)
      have g1 := HR8.out.frozen 1
      have k2 := (HR8.out.cell 2).trans (show _ = some (Value.slice none 0 0) from rfl)
      have g2 := HR8.out.frozen 2
      go_wp2
      exact bodyPost_ret (results_ct rfl _ _ w.heap.size 97 _ (0, 0) _ rfl (((HR8.out.set_ 0 _).set_ 1 _).set_ 2 _) Try.underlying97 rfl (by kernel_rfl)) rfl ⟨.inr ⟨HNO.out, rfl⟩, ((HB8.out.setCell (p := ⟨w.heap.size, 0, none⟩) (Nat.le_refl _) _).setCell (p := ⟨w.heap.size, 1, none⟩) (Nat.le_refl _) _).setCell (p := ⟨w.heap.size, 2, none⟩) (Nat.le_refl _) _⟩
  · have HX := Aside0.mk hx
    have hxb : (x2 != 0) = true := by simpa using hx
    clear hx
    have k0 := (HR4.out.cell 0).trans (show _ = some (Value.int .i64 0) from rfl)
    have g0 := HR4.out.frozen 0
    have k1 := (HR4.out.cell 1).trans (show _ = some (Value.int .i64 0) from rfl)
    have g1 := HR4.out.frozen 1
    have k2 := (HR4.out.cell 2).trans (show _ = some (Value.slice none 0 0) from rfl)
    have g2 := HR4.out.frozen 2
    go_wp2
    exact bodyPost_ret (results_ct rfl _ _ w.heap.size 97 _ (0, 0) _ rfl (((HR4.out.set_ 0 _).set_ 1 _).set_ 2 _) Try.underlying97 rfl (by kernel_rfl)) rfl ⟨.inr ⟨fun top first l hu => HX.out (HFW.out top first l hu).2.2.1, rfl⟩, ((HB4.out.setCell (p := ⟨w.heap.size, 0, none⟩) (Nat.le_refl _) _).setCell (p := ⟨w.heap.size, 1, none⟩) (Nat.le_refl _) _).setCell (p := ⟨w.heap.size, 2, none⟩) (Nat.le_refl _) _⟩
end Go.Proofs.Ytjjjinpmflghmaa.Keys
namespace Go.Proofs.Ytjjjinpmflghmaa.Keys
open Go.RowKit Go.Proofs.Ytjjjinpmflghmaa.Mem Go.Proofs.Ytjjjinpmflghmaa.Row Go.Proofs.Ytjjjinpmflghmaa.Obj Go.Proofs.YtjjjinpmflghmaaW.PrintWords Go.Proofs.YtjjjinpmflghmaaW.PrintMore Go.Proofs.YtjjjinpmflghmaaW.PrintLast
open Go.Proofs.Ytjjjinpmflghmaa.BookEv (Own Src)
set_option linter.unusedVariables false
set_option linter.unusedSimpArgs false
theorem up1 : upV 3 0 [] = true := by decide +kernel
theorem up2 : upV 3 2 [eA] = true := by decide +kernel
theorem up1S : upS 3 0 [] = ⟨#[3, 0, 0]⟩ := by rw [upS, if_pos up1]; decide +kernel
theorem up2S : upS 3 2 [eA] = ⟨#[3, 2, 1, 1, 1, 97]⟩ := by rw [upS, if_pos up2]; decide +kernel
set_option maxHeartbeats 4000000 in
set_option maxRecDepth 100000 in
theorem alive23 (w : World) : Calls Try.prog 43 #[] w fun r w' => r = .returned (.bool true) ∧ Below w.heap.size w w' := by
  have H1 := Aside0.mk (uplay_calls 3 0 none 0 [] w ⟨rfl, .inl rfl⟩ (Nat.le_refl _) (by simp))
  rw [up1S, upX, if_pos up1] at H1
  go_enter Try.func43, Try.ntmps43
  go_wp2_with fail
  refine H1.out.mono ?_
  rintro e1 w1 ⟨rfl, hb1⟩
  have HB1 := Aside0.mk hb1
  have H2 := Aside0.mk (uplay_calls 3 2 (some ⟨w1.heap.size, 0, none⟩) 1 [eA] (w1.alloc (.cells (fe [eA]).toArray 38)) ⟨rfl, .inr ⟨_, rfl, fun j v hj => by rw [BookEv.add0]; exact lit_src w1 [eA] j v hj⟩⟩ (Nat.le_refl _) (by simp))
  rw [up2S, upX, if_pos up2] at H2
  clear hb1 H1
  go_wp2_with fail
  refine H2.out.mono ?_
  rintro e2 w2 ⟨rfl, hb2⟩
  have HB2 := Aside0.mk (below_step (below_alloc HB1.out (.cells (fe [eA]).toArray 38)) hb2)
  have HU := Aside0.mk (show IsUp ⟨#[3, 2, 1, 1, 1, 97]⟩ 3 2 [eA] from ⟨up2, by rw [← up2S, upS, if_pos up2]⟩)
  clear hb2 H2
  go_wp2_with fail
  refine (uread_calls _ w2 (by decide)).mono ?_
  rintro e3 w3 ⟨hra, hb3⟩
  have HB3 := Aside0.mk (below_step HB2.out hb3)
  rcases hra with ⟨t, f, l, A, c, hu, rfl, ho⟩ | ⟨hno, _⟩
  · obtain ⟨rfl, rfl, rfl⟩ := hu.inj HU.out
    have HF := Aside0.mk (below_alloc HB3.out (.cells #[.int .i64 3, .int .i64 2, .slice A 1 c] 95))
    clear hu ho hb3
    go_wp2
    go_ret
    exact ⟨rfl, HF.out⟩
  · exact absurd HU.out (hno _ _ _)
end Go.Proofs.Ytjjjinpmflghmaa.Keys
