/- What events are in bytes, and which bytes are events, in plain Lean. Conditions: those in each theorem. -/
import Derived.Test.YtjjjinpmflghmaaMB
import Derived.Test.YtjjjinpmflghmaaMC
namespace Go.Proofs.Ytjjjinpmflghmaa.Obj
open Go.RowKit Go.Proofs.YtjjjinpmflghmaaW.PrintWords Go.Proofs.YtjjjinpmflghmaaW.PrintMore
set_option linter.unusedVariables false
set_option linter.unusedSimpArgs false
/-- Whole numbers that are bytes. -/
def Bys (l : List Int) : Prop := ∀ x ∈ l, 0 ≤ x ∧ x ≤ 255
theorem bys_of (b : ByteArray) : Bys (bytesOf b) := by
  intro x hx
  obtain ⟨y, _, rfl⟩ := List.mem_map.1 hx
  have := y.toNat_lt
  omega
theorem Bys.app {a b : List Int} (h : Bys a) (k : Bys b) : Bys (a ++ b) := fun x hx => (List.mem_append.1 hx).elim (h x) (k x)
theorem Bys.cons {x : Int} {l : List Int} (h : 0 ≤ x ∧ x ≤ 255) (k : Bys l) : Bys (x :: l) := fun y hy => by
  rcases List.mem_cons.1 hy with rfl | hy
  · exact h
  · exact k y hy
theorem Bys.nil : Bys [] := fun x hx => by cases hx
theorem bytesOf_str {l : List Int} (h : Bys l) : bytesOf (strOfNums l) = l := by
  unfold bytesOf strOfNums
  simp only [List.map_map]
  have : ∀ x ∈ l, ((fun y : UInt8 => (y.toNat : Int)) ∘ (fun n : Int => UInt8.ofNat n.toNat)) x = x := fun x hx => by
    have := h x hx
    simp
    omega
  rw [show (List.map ((fun y : UInt8 => (y.toNat : Int)) ∘ fun n : Int => UInt8.ofNat n.toNat) l) = l.map id from List.map_congr_left (fun x hx => this x hx)]
  simp
theorem numB_bys : ∀ (n : Nat) (v : Nat), v ≤ n → Bys (numB v)
  | 0, v, h => by
    rw [numB_small (by omega)]
    exact Bys.cons (by omega) Bys.nil
  | n + 1, v, h => by
    by_cases h1 : v < 128
    · rw [numB_small h1]
      exact Bys.cons (by omega) Bys.nil
    · rw [numB_great h1]
      exact Bys.cons (by omega) (numB_bys n (v / 128) (by omega))
theorem numB_by (v : Nat) : Bys (numB v) := numB_bys v v (Nat.le_refl _)
theorem bytes_cons {b : ByteArray} (h : b.size ≠ 0) : bytesOf b = bt b 0 :: bytesOf (b.extract 1 b.size) := by
  obtain ⟨x, l, hl⟩ : ∃ x l, bytesOf b = x :: l := by
    have := bytesOf_length b
    cases hb : bytesOf b with
    | nil => rw [hb] at this; simp at this; omega
    | cons x l => exact ⟨x, l, rfl⟩
  have hb := bys_of b
  rw [hl] at hb
  have e : b = strOfNums (x :: l) := by rw [← hl, str_bytes]
  have h0 := hb x (by simp)
  have hlb : Bys l := fun y hy => hb y (List.mem_cons_of_mem _ hy)
  rw [hl, e, str_tail, bt_str x l h0.1 (by omega), bytesOf_str hlb]
theorem bt_by (b : ByteArray) (h : b.size ≠ 0) : 0 ≤ bt b 0 ∧ bt b 0 ≤ 255 := by
  have := bys_of b (bt b 0) (by rw [bytes_cons h]; simp)
  exact this
/-! ### What was read stood there -/
theorem numGo_inv : ∀ (m k v : Nat) (b : ByteArray), (numGo m k v b).2.2 = 0 → ∃ t : Nat, (numGo m k v b).1 = v + t * 128 ^ k ∧ bytesOf b = numB t ++ bytesOf (numGo m k v b).2.1 ∧ (0 < k → 0 < t)
  | 0, k, v, b, h => by
    unfold numGo at h
    split at h <;> simp at h
  | m + 1, k, v, b, h => by
    unfold numGo at h ⊢
    by_cases h0 : b.size = 0
    · rw [if_pos h0] at h
      simp at h
    · rw [if_neg h0] at h ⊢
      have hb := bt_by b h0
      by_cases h1 : 128 ≤ bt b 0
      · rw [if_pos h1] at h ⊢
        obtain ⟨t, e1, e2, e3⟩ := numGo_inv m (k + 1) _ _ h
        have ht := e3 (by omega)
        refine ⟨(bt b 0).toNat % 128 + 128 * t, ?_, ?_, fun _ => by omega⟩
        · rw [e1, Nat.pow_succ, Nat.add_mul, Nat.add_assoc, Nat.mul_assoc 128 t, Nat.mul_comm 128 (t * 128 ^ k), Nat.mul_assoc]
        · rw [numB_great (by omega), bytes_cons h0, e2]
          have a1 : ((bt b 0).toNat % 128 + 128 * t) % 128 + 128 = (bt b 0).toNat := by omega
          have a2 : ((bt b 0).toNat % 128 + 128 * t) / 128 = t := by omega
          rw [a1, a2, Int.toNat_of_nonneg hb.1]
          rfl
      · rw [if_neg h1] at h ⊢
        by_cases h2 : bt b 0 = 0 ∧ 0 < k
        · rw [if_pos h2] at h
          simp at h
        · rw [if_neg h2]
          refine ⟨(bt b 0).toNat, rfl, ?_, fun hk => ?_⟩
          · rw [numB_small (by omega), bytes_cons h0, Int.toNat_of_nonneg hb.1]
            rfl
          · have : bt b 0 ≠ 0 := fun e => h2 ⟨e, hk⟩
            omega
theorem iNum_inv {b : ByteArray} {e : Int} (h : (iNum b e).2.2 = 0) : e = 0 ∧ bytesOf b = numB (iNum b e).1 ++ bytesOf (iNum b e).2.1 := by
  unfold iNum at h ⊢
  by_cases he : e ≠ 0
  · rw [if_pos he] at h
    exact absurd h he
  · rw [if_neg he] at h ⊢
    obtain ⟨t, e1, e2, _⟩ := numGo_inv 9 0 0 b h
    exact ⟨by omega, by rw [e1, e2]; simp⟩
theorem iByte_inv {b : ByteArray} {e : Int} (h : (iByte b e).2.2 = 0) : e = 0 ∧ bytesOf b = (iByte b e).1 :: bytesOf (iByte b e).2.1 := by
  unfold iByte at h ⊢
  by_cases he : e ≠ 0
  · rw [if_pos he] at h
    exact absurd h he
  · rw [if_neg he] at h ⊢
    by_cases h0 : b.size = 0
    · rw [if_pos h0] at h
      simp at h
    · rw [if_neg h0]
      exact ⟨by omega, bytes_cons h0⟩
theorem iRaw_inv {b : ByteArray} {e : Int} {n : Nat} (h : (iRaw b e n).2.2 = 0) : e = 0 ∧ bytesOf b = bytesOf (iRaw b e n).1 ++ bytesOf (iRaw b e n).2.1 ∧ (iRaw b e n).1.size = n := by
  unfold iRaw at h ⊢
  by_cases he : e ≠ 0
  · rw [if_pos he] at h
    exact absurd h he
  · rw [if_neg he, if_neg (show ¬ (n : Int) < 0 by omega)] at h ⊢
    by_cases h0 : (b.size : Int) < n
    · rw [if_pos h0] at h
      simp at h
    · rw [if_neg h0]
      refine ⟨by omega, ?_, by simp; omega⟩
      have hb := bys_of b
      have e1 : b = strOfNums (bytesOf b) := (str_bytes b).symm
      have e2 := str_take (bytesOf b) n
      have e3 := str_drop (bytesOf b) n
      rw [← e1] at e2 e3
      rw [Int.toNat_natCast, e2, e3, bytesOf_str (fun x hx => hb x (List.mem_of_mem_take hx)), bytesOf_str (fun x hx => hb x (List.mem_of_mem_drop hx)), List.take_append_drop]
theorem iText_inv {b : ByteArray} {e : Int} (h : (iText b e).2.2 = 0) : e = 0 ∧ bytesOf b = numB (iText b e).1.size ++ bytesOf (iText b e).1 ++ bytesOf (iText b e).2.1 := by
  unfold iText at h ⊢
  obtain ⟨h1, h2, h3⟩ := iRaw_inv h
  obtain ⟨h4, h5⟩ := iNum_inv h1
  exact ⟨h4, by rw [h5, h2, h3, List.append_assoc]⟩
end Go.Proofs.Ytjjjinpmflghmaa.Obj
namespace Go.Proofs.Ytjjjinpmflghmaa.Keys
open Go.RowKit Go.Proofs.YtjjjinpmflghmaaW.PrintWords Go.Proofs.YtjjjinpmflghmaaW.PrintMore Go.Proofs.Ytjjjinpmflghmaa.Obj
set_option linter.unusedVariables false
set_option linter.unusedSimpArgs false
/-! ### Events -/
theorem okE_iff (e : E4) : okE e = true ↔ (e.k = 1 ∧ 1 ≤ e.s.size ∧ e.s.size ≤ 30 ∧ e.x = 0 ∧ e.y = 0) ∨ (e.k = 2 ∧ e.s.toList = [] ∧ 2 ≤ e.x ∧ e.x ≤ 40 ∧ 1 ≤ e.y ∧ e.y ≤ 20) := by
  unfold okE PKeysBounds.keys_Valid.f
  repeat' split
  all_goals first
    | (simp_all; done)
    | (simp_all; omega)
    | (simp_all; constructor <;> intro h <;> omega)
theorem toList_nil {s : ByteArray} (h : s.toList = []) : s = ⟨#[]⟩ := by
  apply str_ext
  rw [← ByteArray.toList_eq, h]
/-- An event's bytes. -/
def evB (e : E4) : List Int := e.k :: (if e.k = 1 then numB e.s.size ++ bytesOf e.s else if e.k = 2 then numB e.x.toNat ++ numB e.y.toNat else [])
def evsB (l : List E4) : List Int := l.flatMap evB
/-- All events' bytes. -/
def layB (l : List E4) : List Int := numB l.length ++ evsB l
def AllOk (l : List E4) : Prop := ∀ e ∈ l, okE e = true
theorem evsB_app (a b : List E4) : evsB (a ++ b) = evsB a ++ evsB b := by simp [evsB]
theorem evsB_cons (e : E4) (l : List E4) : evsB (e :: l) = evB e ++ evsB l := rfl
theorem evB_by {e : E4} (h : okE e = true) : Bys (evB e) := by
  rcases (okE_iff e).1 h with ⟨h1, _⟩ | ⟨h1, _⟩
  · unfold evB
    rw [if_pos h1]
    exact Bys.cons (by omega) ((numB_by _).app (bys_of _))
  · unfold evB
    rw [if_neg (by omega), if_pos h1]
    exact Bys.cons (by omega) ((numB_by _).app (numB_by _))
theorem evsB_by : ∀ {l : List E4}, AllOk l → Bys (evsB l)
  | [], _ => Bys.nil
  | e :: l, h => (evB_by (h e (by simp))).app (evsB_by (fun x hx => h x (List.mem_cons_of_mem _ hx)))
theorem layB_by {l : List E4} (h : AllOk l) : Bys (layB l) := (numB_by _).app (evsB_by h)
theorem evB_len {e : E4} (h : okE e = true) : 1 ≤ (evB e).length ∧ (evB e).length ≤ 40 := by
  rcases (okE_iff e).1 h with ⟨h1, h2, h3, _⟩ | ⟨h1, _, h2, h3, h4, h5⟩
  · unfold evB
    rw [if_pos h1, numB_small (by omega)]
    have := bytesOf_length e.s
    simp
    omega
  · unfold evB
    rw [if_neg (by omega), if_pos h1, numB_small (by omega), numB_small (by omega)]
    simp
theorem evsB_len : ∀ {l : List E4}, AllOk l → (evsB l).length ≤ 40 * l.length
  | [], _ => by simp [evsB]
  | e :: l, h => by
    have h1 := evB_len (h e (by simp))
    have h2 := evsB_len (fun x hx => h x (List.mem_cons_of_mem _ hx) : AllOk l)
    rw [evsB_cons, List.length_append, List.length_cons]
    omega
/-! ### Reading -/
/-- An event, read. -/
def evRead (b : ByteArray) (e : Int) : E4 × ByteArray × Int :=
  if (iByte b e).1 = 1 then (⟨1, (iText (iByte b e).2.1 (iByte b e).2.2).1, 0, 0⟩, (iText (iByte b e).2.1 (iByte b e).2.2).2.1, (iText (iByte b e).2.1 (iByte b e).2.2).2.2)
  else if (iByte b e).1 = 2 then
    (⟨2, ⟨#[]⟩, (iNum (iByte b e).2.1 (iByte b e).2.2).1, (iNum (iNum (iByte b e).2.1 (iByte b e).2.2).2.1 (iNum (iByte b e).2.1 (iByte b e).2.2).2.2).1⟩, (iNum (iNum (iByte b e).2.1 (iByte b e).2.2).2.1 (iNum (iByte b e).2.1 (iByte b e).2.2).2.2).2)
  else (⟨(iByte b e).1, ⟨#[]⟩, 0, 0⟩, (iByte b e).2)
def evsRead : Nat → ByteArray → Int → List E4 × ByteArray × Int
  | 0, b, e => ([], b, e)
  | n + 1, b, e => ((evRead b e).1 :: (evsRead n (evRead b e).2.1 (evRead b e).2.2).1, (evsRead n (evRead b e).2.1 (evRead b e).2.2).2)
theorem evRead_inv {b : ByteArray} {e : Int} (h : (evRead b e).2.2 = 0) : e = 0 ∧ bytesOf b = evB (evRead b e).1 ++ bytesOf (evRead b e).2.1 := by
  unfold evRead at h ⊢
  by_cases h1 : (iByte b e).1 = 1
  · rw [if_pos h1] at h ⊢
    obtain ⟨h2, h3⟩ := iText_inv h
    obtain ⟨h4, h5⟩ := iByte_inv h2
    refine ⟨h4, ?_⟩
    rw [h5, h3, h1]
    simp [evB]
  · rw [if_neg h1] at h ⊢
    by_cases h2 : (iByte b e).1 = 2
    · rw [if_pos h2] at h ⊢
      obtain ⟨h3, h4⟩ := iNum_inv h
      obtain ⟨h5, h6⟩ := iNum_inv h3
      obtain ⟨h7, h8⟩ := iByte_inv h5
      refine ⟨h7, ?_⟩
      rw [h8, h6, h4, h2]
      simp [evB]
    · rw [if_neg h2] at h ⊢
      obtain ⟨h7, h8⟩ := iByte_inv h
      refine ⟨h7, ?_⟩
      rw [h8]
      simp [evB, h1, h2]
theorem evsRead_inv : ∀ (n : Nat) (b : ByteArray) (e : Int), (evsRead n b e).2.2 = 0 → e = 0 ∧ bytesOf b = evsB (evsRead n b e).1 ++ bytesOf (evsRead n b e).2.1
  | 0, b, e, h => ⟨h, by simp [evsRead, evsB]⟩
  | n + 1, b, e, h => by
    obtain ⟨h1, h2⟩ := evsRead_inv n _ _ h
    obtain ⟨h3, h4⟩ := evRead_inv h1
    refine ⟨h3, ?_⟩
    rw [h4, h2]
    simp [evsRead, evsB_cons]
theorem evsRead_len : ∀ (n : Nat) (b : ByteArray) (e : Int), (evsRead n b e).1.length = n
  | 0, b, e => rfl
  | n + 1, b, e => by simp [evsRead, evsRead_len n]
theorem evsRead_snoc : ∀ (n : Nat) (b : ByteArray) (e : Int), evsRead (n + 1) b e = ((evsRead n b e).1 ++ [(evRead (evsRead n b e).2.1 (evsRead n b e).2.2).1], (evRead (evsRead n b e).2.1 (evsRead n b e).2.2).2)
  | 0, b, e => rfl
  | n + 1, b, e => by
    rw [evsRead, evsRead_snoc n]
    rfl
theorem evRead_size (b : ByteArray) (e : Int) : (evRead b e).2.1.size ≤ b.size := by
  have h1 := iByte_size b e
  unfold evRead
  split
  · unfold iText
    have h2 := iNum_size (iByte b e).2.1 (iByte b e).2.2
    have h3 : ∀ (c : ByteArray) (e n : Int), (iRaw c e n).2.1.size ≤ c.size := fun c e n => by
      unfold iRaw
      repeat' split
      all_goals simp
    exact Nat.le_trans (h3 _ _ _) (Nat.le_trans h2 h1)
  · split
    · exact Nat.le_trans (iNum_size _ _) (Nat.le_trans (iNum_size _ _) h1)
    · exact h1
theorem evsRead_size : ∀ (n : Nat) (b : ByteArray) (e : Int), (evsRead n b e).2.1.size ≤ b.size
  | 0, b, e => Nat.le_refl _
  | n + 1, b, e => Nat.le_trans (evsRead_size n _ _) (evRead_size b e)
/-- Behind what was laid: what was laid. -/
theorem evRead_put {e : E4} (h : okE e = true) {rest : List Int} (hr : Bys rest) : evRead (strOfNums (evB e ++ rest)) 0 = (e, strOfNums rest, 0) := by
  rcases (okE_iff e).1 h with ⟨h1, h2, h3, h4, h5⟩ | ⟨h1, h2, h3, h4, h5, h6⟩
  · obtain ⟨k, s, x, y⟩ := e
    dsimp only at *
    subst h1 h4 h5
    have e1 : evB ⟨1, s, 0, 0⟩ ++ rest = 1 :: (numB s.size ++ (bytesOf s ++ rest)) := by simp [evB]
    rw [e1]
    unfold evRead
    rw [iByte_put 1 _ (by omega) (by omega), if_pos rfl]
    dsimp only
    rw [iText_put s rest (by omega)]
  · obtain ⟨k, s, x, y⟩ := e
    dsimp only at *
    subst h1
    have hs := toList_nil h2
    subst hs
    have e1 : evB ⟨2, ⟨#[]⟩, x, y⟩ ++ rest = 2 :: (numB x.toNat ++ (numB y.toNat ++ rest)) := by simp [evB]
    rw [e1]
    unfold evRead
    rw [iByte_put 2 _ (by omega) (by omega), if_neg (show ¬ (2 : Int) = 1 by decide), if_pos rfl]
    dsimp only
    rw [iNum_put _ (by omega)]
    dsimp only
    rw [iNum_put _ (by omega)]
    simp only [Int.toNat_of_nonneg (show 0 ≤ x by omega), Int.toNat_of_nonneg (show 0 ≤ y by omega)]
theorem evsRead_put : ∀ {l : List E4}, AllOk l → ∀ {rest : List Int}, Bys rest → evsRead l.length (strOfNums (evsB l ++ rest)) 0 = (l, strOfNums rest, 0)
  | [], _, rest, hr => by simp [evsRead, evsB]
  | e :: l, h, rest, hr => by
    have hl : AllOk l := fun x hx => h x (List.mem_cons_of_mem _ hx)
    rw [List.length_cons, evsRead, evsB_cons, List.append_assoc, evRead_put (h e (by simp)) ((evsB_by hl).app hr)]
    dsimp only
    rw [evsRead_put hl hr]
/-- Bytes that are events: which ones. -/
def IsLay (b : ByteArray) (l : List E4) : Prop := AllOk l ∧ l.length ≤ 40 ∧ b = strOfNums (layB l)
def iEnd (b : ByteArray) (e : Int) : Int := if e = 0 then (if b.size = 0 then 0 else 3) else e
theorem size_zero {b : ByteArray} (h : b.size = 0) : b = strOfNums [] := by
  have h1 := bytesOf_length b
  have h2 : bytesOf b = [] := List.eq_nil_of_length_eq_zero (by omega)
  rw [← str_bytes b, h2]
/-- What is read whole, without an error, and holds events that may be alone: it was laid so. -/
theorem read_lay {b : ByteArray} (hn : ¬ 40 < (iNum b 0).1) (he : iEnd (evsRead (iNum b 0).1 (iNum b 0).2.1 (iNum b 0).2.2).2.1 (evsRead (iNum b 0).1 (iNum b 0).2.1 (iNum b 0).2.2).2.2 = 0)
    (hok : AllOk (evsRead (iNum b 0).1 (iNum b 0).2.1 (iNum b 0).2.2).1) : IsLay b (evsRead (iNum b 0).1 (iNum b 0).2.1 (iNum b 0).2.2).1 := by
  unfold iEnd at he
  split at he
  · rename_i h0
    split at he
    · rename_i hz
      obtain ⟨h1, h2⟩ := evsRead_inv _ _ _ h0
      obtain ⟨_, h3⟩ := iNum_inv h1
      refine ⟨hok, by rw [evsRead_len]; omega, ?_⟩
      have h4 : bytesOf (evsRead (iNum b 0).1 (iNum b 0).2.1 (iNum b 0).2.2).2.1 = [] := List.eq_nil_of_length_eq_zero (by rw [bytesOf_length]; exact hz)
      rw [h4, List.append_nil] at h2
      unfold layB
      rw [evsRead_len, ← h2, ← h3, str_bytes]
    · simp at he
  · exact absurd he (by assumption)
theorem lay_read {b : ByteArray} {l : List E4} (h : IsLay b l) : iNum b 0 = (l.length, strOfNums (evsB l), 0) ∧ evsRead l.length (strOfNums (evsB l)) 0 = (l, strOfNums [], 0) := by
  obtain ⟨h1, h2, rfl⟩ := h
  refine ⟨?_, ?_⟩
  · unfold layB
    rw [iNum_put _ (by omega)]
  · have := evsRead_put h1 Bys.nil
    rwa [List.append_nil] at this
theorem IsLay.inj {b : ByteArray} {l l' : List E4} (h : IsLay b l) (h' : IsLay b l') : l = l' := by
  obtain ⟨a1, a2⟩ := lay_read h
  obtain ⟨b1, b2⟩ := lay_read h'
  rw [a1] at b1
  injection b1 with c1 c2
  injection c2 with c2 _
  rw [← c1, ← c2, a2] at b2
  injection b2
end Go.Proofs.Ytjjjinpmflghmaa.Keys
