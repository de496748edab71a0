/- The document's reading of events. Conditions: those in each theorem. -/
import Derived.Test.YtjjjinpmflghmaaMD
import Derived.Test.YtjjjinpmflghmaaME
import Derived.Test.YtjjjinpmflghmaaPUpEv
namespace Go.Proofs.Ytjjjinpmflghmaa.Keys
open Go.RowKit Go.Proofs.Ytjjjinpmflghmaa.Mem Go.Proofs.Ytjjjinpmflghmaa.Row Go.Proofs.Ytjjjinpmflghmaa.Obj Go.Proofs.YtjjjinpmflghmaaW.PrintWords Go.Proofs.YtjjjinpmflghmaaW.PrintMore Go.Proofs.YtjjjinpmflghmaaW.PrintLast
set_option linter.unusedVariables false
set_option linter.unusedSimpArgs false
/-! ### What the document lays -/
theorem wi_id {x : Int} (h : -9223372036854775808 ≤ x) (h' : x ≤ 9223372036854775807) : wrap64 x = x := by unfold wrap64; omega
theorem unum_l0 : ∀ (k u : Nat) (bs : List Int), u < 9223372036854775808 → bs.length + (numB u).length ≤ 1000 → (numB u).length ≤ k → PUpTells.pontoonref1_Num.l0 k (u : Int) bs = some (strOfNums (bs ++ numB u))
  | 0, u, bs, _, _, hk => by
    have : (numB u).length ≠ 0 := by
      by_cases h : u < 128
      · rw [numB_small h]; simp
      · rw [numB_great h]; simp
    omega
  | k + 1, u, bs, hu, hl, hk => by
    unfold PUpTells.pontoonref1_Num.l0
    by_cases h : u < 128
    · rw [if_neg (by omega), if_pos (by omega), numB_small h]
      have : (u : Int) % 256 = (u : Int) := by omega
      rw [this]
    · rw [numB_great h, List.length_cons] at hl hk
      have h1 : Int.tdiv (u : Int) 128 = ((u / 128 : Nat) : Int) := by rw [Int.tdiv_eq_ediv_of_nonneg (by omega)]; omega
      have h2 : Int.tmod (u : Int) 128 = ((u % 128 : Nat) : Int) := by rw [Int.tmod_eq_emod_of_nonneg (by omega)]; omega
      have h3 : wrap64 ((u / 128 : Nat) : Int) = ((u / 128 : Nat) : Int) := by unfold wrap64; omega
      have h4 : wrap64 (((u % 128 : Nat) : Int) + 128) % 256 = ((u % 128 + 128 : Nat) : Int) := by unfold wrap64; omega
      rw [if_pos (by omega), if_pos (by omega), h1, h2, h3, h4, unum_l0 k (u / 128) _ (by omega) (by simp; omega) (by omega), numB_great h]
      simp
theorem unum_f (k u : Nat) (hk : 20 ≤ k) (hu : u < 9223372036854775808) : PUpTells.pontoonref1_Num.f k (u : Int) = some (strOfNums (numB u)) := by
  have := numB_len9 hu
  have := unum_l0 k u [] hu (by simp; omega) (by omega)
  simpa [PUpTells.pontoonref1_Num.f] using this
theorem str_app (a b : List Int) : strOfNums a ++ strOfNums b = strOfNums (a ++ b) := by
  apply str_ext
  simp [strOfNums]
theorem utext_f (k : Nat) (hk : 20 ≤ k) (s : ByteArray) (hs : s.size ≤ 1000000) : PUpTells.pontoonref1_Text.f k s = some (strOfNums (numB s.size ++ bytesOf s)) := by
  have h9 := numB_len9 (show s.size < 9223372036854775808 by omega)
  unfold PUpTells.pontoonref1_Text.f
  rw [unum_f k s.size hk (by omega), Option.bind_some, if_pos (by rw [strOfNums_size]; omega)]
  congr 1
  rw [← str_app, str_bytes]
def toU (x : E4) : PUpTells.S38 := ⟨x.k, x.s, x.x, x.y⟩
theorem rdU {l : List E4} {i : Nat} {e : E4} (h : l[i]? = some e) : PUpTells.rd_T38 (l.map toU) (i : Int) = toU e := by simp [PUpTells.rd_T38, h]
theorem levs_l0 (l : List E4) (hok : AllOk l) (hn : l.length ≤ 1000) : ∀ (m i : Nat) (bs : List Int), l.length - i ≤ m → i ≤ l.length → bs.length ≤ 100 + 40 * i → PUpTells.pontoonref19_LayEvents.l0 (m + 21) (l.map toU) (strOfNums bs) (i : Int) = some (strOfNums (bs ++ evsB (l.drop i))) := by
  intro m
  induction m with
  | zero =>
    intro i bs h1 h2 h3
    obtain rfl : i = l.length := by omega
    rw [PUpTells.pontoonref19_LayEvents.l0, if_neg (by simp), List.drop_length]
    simp [evsB]
  | succ m ih =>
    intro i bs h1 h2 h3
    by_cases hlt : i < l.length
    · obtain ⟨e, he⟩ : ∃ e, l[i]? = some e := ⟨l[i], by simp⟩
      have hoke := hok e (List.mem_of_getElem? he)
      have hlen := evB_len hoke
      have hw : wrap64 ((i : Int) + 1) = ((i + 1 : Nat) : Int) := by rw [wi_id (by omega) (by omega)]; rfl
      have hd : evsB (l.drop i) = evB e ++ evsB (l.drop (i + 1)) := by rw [drop_at he, evsB_cons]
      have key := ih (i + 1) (bs ++ evB e) (by omega) (by omega) (by simp; omega)
      show PUpTells.pontoonref19_LayEvents.l0 ((m + 21) + 1) (l.map toU) (strOfNums bs) (i : Int) = _
      rw [PUpTells.pontoonref19_LayEvents.l0, if_pos (by simpa using hlt), if_pos (by omega), rdU he]
      simp only [Option.bind_some, toU]
      rw [if_pos (by rw [strOfNums_size, strOfNums_size]; simp; omega), hd]
      rcases (okE_iff e).1 hoke with ⟨hk, hs1, hs2, hx, hy⟩ | ⟨hk, hs1, hx1, hx2, hy1, hy2⟩
      · have hev : evB e = 1 :: (numB e.s.size ++ bytesOf e.s) := by unfold evB; rw [if_pos hk, hk]
        simp only [hk, if_true]
        rw [utext_f _ (by omega) e.s (by omega), Option.bind_some, if_pos (by
          rw [hev] at hlen
          rw [ByteArray.size_append, strOfNums_size, strOfNums_size, strOfNums_size]
          simp only [List.length_cons, List.length_nil] at hlen ⊢
          omega), hw, str_app, str_app]
        rw [hev] at key
        rw [hev]
        simpa using key
      · have hev : evB e = 2 :: (numB e.x.toNat ++ numB e.y.toNat) := by unfold evB; rw [if_neg (by omega), if_pos hk, hk]
        have hxx := unum_f (m + 21) e.x.toNat (by omega) (by omega)
        have hyy := unum_f (m + 21) e.y.toNat (by omega) (by omega)
        rw [Int.toNat_of_nonneg (by omega)] at hxx hyy
        rw [hev, List.length_cons, List.length_append] at hlen
        simp only [hk, show ¬ (2 : Int) = 1 by decide, if_false]
        rw [hxx, Option.bind_some, if_pos (by
          rw [ByteArray.size_append, strOfNums_size, strOfNums_size, strOfNums_size]
          simp only [List.length_cons, List.length_nil] at hlen ⊢
          omega), hyy, Option.bind_some, if_pos (by
          rw [ByteArray.size_append, ByteArray.size_append, strOfNums_size, strOfNums_size, strOfNums_size, strOfNums_size]
          simp only [List.length_cons, List.length_nil] at hlen ⊢
          omega), hw, str_app, str_app, str_app]
        rw [hev] at key
        rw [hev]
        simpa using key
    · obtain rfl : i = l.length := by omega
      have := ih l.length bs (by omega) (by omega) h3
      rw [PUpTells.pontoonref19_LayEvents.l0, if_neg (by simp), List.drop_length]
      simp [evsB]
theorem levs_f (l : List E4) (hok : AllOk l) (hn : l.length ≤ 1000) : PUpTells.pontoonref19_LayEvents.f (l.length + 21) (l.map toU) = some (strOfNums (layB l)) := by
  unfold PUpTells.pontoonref19_LayEvents.f
  have h9 := numB_len9 (show l.length < 9223372036854775808 by omega)
  rw [List.length_map, unum_f _ _ (by omega) (by omega), Option.bind_some]
  have := levs_l0 l hok hn l.length 0 (numB l.length) (by omega) (by omega) (by omega)
  simpa [layB] using this
theorem C_ofU {w : World} {A : Option Addr} {l : List E4} (h : BookEv.Src w A l.length l) (hl : l.length ≤ 1000000) : Kd.C PUpTells.k38 w A (l.map toU).length (l.map toU) := by
  obtain ⟨h1, h2⟩ := h
  refine ⟨rfl, by simp; omega, fun h0 => ?_⟩
  rw [List.length_map] at h0
  rcases h2 with h2 | ⟨ad, hA, hc⟩
  · omega
  · refine ⟨ad, hA, fun i y hy => ?_⟩
    rw [List.getElem?_map] at hy
    cases hq : l[i]? with
    | none => rw [hq] at hy; cases hy
    | some x =>
      rw [hq] at hy
      injection hy with hy
      subst hy
      refine ⟨BookEv.vals x, rfl, PUpTells.k38_mk w (toU x), fun j u hu => ?_⟩
      have hj : j < 4 := (List.getElem?_eq_some_iff.1 hu).1
      exact hc _ u ((fl_at BookEv.vals_len hq hj).trans hu)
theorem levs_calls (A : Option Addr) (c : Nat) (l : List E4) (w : World) (h : BookEv.Src w A l.length l) (hc : l.length ≤ c) (hok : AllOk l) (hn : l.length ≤ 1000) :
    Calls Try.prog 100 #[.slice A l.length c] w fun r w' => r = .returned (.string (strOfNums (layB l))) ∧ Below w.heap.size w w' := by
  have := PUpTells.pontoonref19_LayEvents.calls _ A c (l.map toU) _ w (C_ofU h (by omega)) (by simpa using hc) (levs_f l hok hn)
  rwa [List.length_map] at this
/-! ### What the document reads -/
/-- An event, read by the document. -/
def rEv (b : ByteArray) (e : Int) : E4 × ByteArray × Int :=
  if (iByte b e).1 = 1 then (⟨1, (rText (iByte b e).2.1 (iByte b e).2.2).1, 0, 0⟩, (rText (iByte b e).2.1 (iByte b e).2.2).2)
  else (⟨(iByte b e).1, ⟨#[]⟩, (rNumE (iByte b e).2.1 (iByte b e).2.2).1, (rNumE (rNumE (iByte b e).2.1 (iByte b e).2.2).2.1 (rNumE (iByte b e).2.1 (iByte b e).2.2).2.2).1⟩, (rNumE (rNumE (iByte b e).2.1 (iByte b e).2.2).2.1 (rNumE (iByte b e).2.1 (iByte b e).2.2).2.2).2)
theorem rEv_put {e : E4} (h : okE e = true) {rest : List Int} (hr : Bys rest) : rEv (strOfNums (evB e ++ rest)) 0 = (e, strOfNums rest, 0) := by
  rcases (okE_iff e).1 h with ⟨h1, h2, h3, h4, h5⟩ | ⟨h1, h2, h3, h4, h5, h6⟩
  · obtain ⟨k, s, x, y⟩ := e
    dsimp only at *
    subst h1 h4 h5
    have e1 : evB ⟨1, s, 0, 0⟩ ++ rest = 1 :: (numB s.size ++ (bytesOf s ++ rest)) := by simp [evB]
    have e2 := iNum_put (u := s.size) (bytesOf s ++ rest) (by omega)
    have e3 := iText_put s rest (by omega)
    unfold iText at e3
    rw [e1]
    unfold rEv
    rw [iByte_put 1 _ (by omega) (by omega), if_pos rfl]
    dsimp only
    unfold rText
    rw [rNumE_eq (by rw [e2]), e3]
  · obtain ⟨k, s, x, y⟩ := e
    dsimp only at *
    subst h1
    have hs := toList_nil h2
    subst hs
    have e1 : evB ⟨2, ⟨#[]⟩, x, y⟩ ++ rest = 2 :: (numB x.toNat ++ (numB y.toNat ++ rest)) := by simp [evB]
    have e2 := iNum_put (u := x.toNat) (numB y.toNat ++ rest) (by omega)
    have e3 := iNum_put (u := y.toNat) rest (by omega)
    rw [e1]
    unfold rEv
    rw [iByte_put 2 _ (by omega) (by omega), if_neg (show ¬ (2 : Int) = 1 by decide)]
    dsimp only
    rw [rNumE_eq (by rw [e2]), e2]
    dsimp only
    rw [rNumE_eq (by rw [e3]), e3]
    simp only [Int.toNat_of_nonneg (show 0 ≤ x by omega), Int.toNat_of_nonneg (show 0 ≤ y by omega)]
theorem rEv_size (b : ByteArray) (e : Int) : (rEv b e).2.1.size ≤ b.size := by
  have h1 := iByte_size b e
  unfold rEv
  split
  · unfold rText
    have h2 := rNumE_size (iByte b e).2.1 (iByte b e).2.2
    have h3 : ∀ (c : ByteArray) (e n : Int), (iRaw c e n).2.1.size ≤ c.size := fun c e n => by
      unfold iRaw
      repeat' split
      all_goals simp
    exact Nat.le_trans (h3 _ _ _) (Nat.le_trans h2 h1)
  · exact Nat.le_trans (rNumE_size _ _) (Nat.le_trans (rNumE_size _ _) h1)
theorem lay_num {b : ByteArray} {l : List E4} (h : IsLay b l) : (rNum b).1 = l.length ∧ (rNum b).2.1 = strOfNums (evsB l) ∧ (rNum b).2.2 = 0 := by
  have h1 := (lay_read h).1
  obtain ⟨h2, h3, h4⟩ := rNum_iNum b
  rw [h1] at h2 h3 h4
  exact ⟨h2, h4 rfl, h3⟩
def RefAns (b : ByteArray) (w : World) (r : Ending) (w' : World) : Prop :=
  (∃ l v, IsLay b l ∧ r = .returned (.tuple #[v, .bool true]) ∧ BookEv.Own w' w.heap.size v l) ∨ ((∀ l, ¬ IsLay b l) ∧ ∃ v l, r = .returned (.tuple #[v, .bool false]) ∧ BookEv.Own w' w.heap.size v l ∧ l.length ≤ 40)
theorem rg_only {g : Nat} {w w' : World} (h : Fg g w w') : Only [g] w w' := fg_only h
theorem own_rin {w : World} {B g : Nat} {v : Value} {l : List E4} {b : ByteArray} {e : Int} (h : BookEv.Own w B v l) (hi : IsRIn w g b e) : ∀ k, v.ownBlock = some k → k ∉ [g] := fun k hk hm => by
  have h1 := own_ne h (show Blk w g 121 #[.string b, .int .i64 e] from hi) (show 38 ≠ 121 by decide)
  rw [List.mem_singleton.1 hm] at hk
  exact h1 hk.symm
set_option maxHeartbeats 4000000 in
set_option maxRecDepth 100000 in
theorem revs_calls (b : ByteArray) (w : World) (hs : b.size ≤ 100000) :
    Calls Try.prog 102 #[.string b] w fun r w' => RefAns b w r w' ∧ Below w.heap.size w w' := by
  have HBS := Aside0.mk hs
  have HIN0 := Aside0.mk (show IsRIn (w.alloc (.cells #[.string b, .int .i64 0] 121)) w.heap.size b 0 from Blk.new w 121 #[.string b, .int .i64 0])
  have HB0 := Aside0.mk (below_alloc (Below.refl w.heap.size w) (.cells #[.string b, .int .i64 0] 121))
  clear hs
  go_enter Try.func102, Try.ntmps102
  go_wp2_with fail
  refine (rnum_ok w.heap.size b _ HIN0.out (by have := HBS.out; omega)).mono ?_
  rintro e2 w2 ⟨rfl, hI2, hF2⟩
  have HB2 := Aside0.mk (HB0.out.trans (hF2.toBelow HB0.out.size (Nat.le_refl _)))
  obtain ⟨N, hN⟩ : ∃ N, N = (rNum b).1 := ⟨_, rfl⟩
  obtain ⟨b1, hb1⟩ : ∃ b1, b1 = (rNum b).2.1 := ⟨_, rfl⟩
  obtain ⟨e1, he1⟩ : ∃ e1, e1 = (rNum b).2.2 := ⟨_, rfl⟩
  have HN := Aside0.mk (And.intro hN (And.intro hb1 he1))
  have HSZ := Aside0.mk (show b1.size ≤ 100000 by rw [hb1]; exact Nat.le_trans (rNum_size b) HBS.out)
  rw [← hb1, ← he1] at hI2
  rw [← hN]
  have HI2 := Aside0.mk hI2
  clear hI2 hF2 HIN0 HB0 hN hb1 he1
  have HLD := Aside0.mk (show ∀ l, IsLay b l → N = l.length ∧ b1 = strOfNums (evsB l) ∧ e1 = 0 from fun l hl => by
    obtain ⟨h1, h2, h3⟩ := lay_num hl
    rw [HN.out.1, HN.out.2.1, HN.out.2.2]
    exact ⟨h1, h2, h3⟩)
  by_cases h40 : 40 < (N : Int)
  · go_wp2
    go_ret2
    refine ⟨.inr ⟨fun l hl => ?_, _, [], rfl, BookEv.Own.nil _ _, by simp⟩, HB2.out⟩
    have h2 := (HLD.out l hl).1
    have h3 := hl.2.1
    omega
  · have h40N : N ≤ 40 := by omega
    go_wp2_with fail
    go_loopg [6, 7] N (fun kq v6 v7 wr => ∃ (i : Nat) (A : Option Addr) (c : Nat) (lr : List E4) (br : ByteArray) (er : Int), v6 = .slice A i c ∧ v7 = .int .i64 (i : Int) ∧ Aside0 (i ≤ N ∧ kq = N - i ∧ lr.length = i ∧ AllOk lr ∧ br.size ≤ 100000) ∧ Aside0 (∀ l, IsLay b l → lr = l.take i ∧ br = strOfNums (evsB (l.drop i)) ∧ er = 0) ∧ Aside0 (BookEv.Own wr w.heap.size (.slice A i c) lr) ∧ Aside0 (IsRIn wr w.heap.size br er) ∧ Aside0 (Below w.heap.size w wr))
    case atStart => exact ⟨0, none, 0, [], b1, e1, rfl, rfl, ⟨Nat.zero_le _, rfl, rfl, fun e he => by simp at he, HSZ.out⟩, ⟨fun l hl => ⟨by simp, by simpa using (HLD.out l hl).2.1, (HLD.out l hl).2.2⟩⟩, ⟨BookEv.Own.nil _ _⟩, HI2, HB2⟩
    case round =>
      obtain ⟨i, A, c, lr, br, er, rfl, rfl, HI, HL, HOW, HIN, HB⟩ := hrel
      clear HB2 HI2
      have hi0 : (0 : Int) ≤ (i : Int) := Int.natCast_nonneg _
      have c1 : wr.cell? ⟨w.heap.size, 1, none⟩ = some (.int .i64 er) := (blk_cell HIN.out 1).trans rfl
      by_cases hlt : i < N ∧ er = 0
      · obtain ⟨hlt, rfl⟩ := hlt
        have hltI : (i : Int) < (N : Int) := by omega
        go_wp2_with fail
        refine (rbyte_calls w.heap.size br 0 wr HIN.out (by have := HI.out; omega)).mono ?_
        rintro e3 w3 ⟨rfl, hI3, hF3⟩
        obtain ⟨K, hK⟩ : ∃ K, K = (iByte br 0).1 := ⟨_, rfl⟩
        obtain ⟨b3, hb3⟩ : ∃ b3, b3 = (iByte br 0).2.1 := ⟨_, rfl⟩
        obtain ⟨x3, hx3⟩ : ∃ x3, x3 = (iByte br 0).2.2 := ⟨_, rfl⟩
        have HK := Aside0.mk (And.intro hK (And.intro hb3 hx3))
        have HZ3 := Aside0.mk (show b3.size ≤ 100000 by rw [hb3]; exact Nat.le_trans (iByte_size _ _) HI.out.2.2.2.2)
        rw [← hb3, ← hx3] at hI3
        rw [← hK]
        have HOW3 := Aside0.mk (HOW.out.only (rg_only hF3) (own_rin HOW.out HIN.out))
        have HB3 := Aside0.mk (HB.out.trans (hF3.toBelow HB.out.size (Nat.le_refl _)))
        have HIN4 := Aside0.mk (hI3.below (below_alloc (Below.refl _ _) (.cells #[.int .i64 K, .string ⟨#[]⟩, .int .i64 0, .int .i64 0] 38)))
        have HOW4 := Aside0.mk (HOW3.out.below (below_alloc (Below.refl _ _) (.cells #[.int .i64 K, .string ⟨#[]⟩, .int .i64 0, .int .i64 0] 38)))
        have HB4 := Aside0.mk (below_alloc HB3.out (.cells #[.int .i64 K, .string ⟨#[]⟩, .int .i64 0, .int .i64 0] 38))
        have HBE := Aside0.mk (Blk.new w3 38 #[.int .i64 K, .string ⟨#[]⟩, .int .i64 0, .int .i64 0])
        have hge : w.heap.size < w3.heap.size := blk_lt hI3
        have HKL := Aside0.mk (show ∀ k, (Value.slice A i c).ownBlock = some k → k < w3.heap.size from own_lt HOW3.out)
        clear hI3 hF3 hK hb3 hx3 HOW HIN HB HOW3 HB3 c1
        go_upto_if 33 with (fail)
        obtain ⟨w4, hw4⟩ : ∃ w4, w4 = w3.alloc (.cells #[.int .i64 K, .string ⟨#[]⟩, .int .i64 0, .int .i64 0] 38) := ⟨_, rfl⟩
        obtain ⟨ge, hgeq⟩ : ∃ ge, ge = w3.heap.size := ⟨_, rfl⟩
        rw [← hw4] at HIN4 HOW4 HB4 HBE ⊢
        rw [← hgeq] at HBE hge HKL ⊢
        clear hw4 hgeq
        go_cut [6] from 16 to 49 (fun v6 wc => ∃ (ev : E4) (b4 : ByteArray) (x4 : Int), v6 = .slice A i c ∧ Aside0 (rEv br 0 = (ev, b4, x4)) ∧ Aside0 (Blk wc ge 38 #[.int .i64 ev.k, .string ev.s, .int .i64 ev.x, .int .i64 ev.y]) ∧ Aside0 (IsRIn wc w.heap.size b4 x4) ∧ Aside0 (BookEv.Own wc w.heap.size (.slice A i c) lr) ∧ Aside0 (Below w.heap.size w wc))
        case first =>
          by_cases hk1 : K = 1
          · subst hk1
            go_wp2_with fail
            refine (rtext_calls w.heap.size b3 x3 w4 HIN4.out (by have := HZ3.out; omega)).mono ?_
            rintro e5 w5 ⟨rfl, hI5, hF5⟩
            obtain ⟨S, hS⟩ : ∃ S, S = (rText b3 x3).1 := ⟨_, rfl⟩
            obtain ⟨b5, hb5⟩ : ∃ b5, b5 = (rText b3 x3).2.1 := ⟨_, rfl⟩
            obtain ⟨x5, hx5⟩ : ∃ x5, x5 = (rText b3 x3).2.2 := ⟨_, rfl⟩
            have HT := Aside0.mk (And.intro hS (And.intro hb5 hx5))
            rw [← hb5, ← hx5] at hI5
            rw [← hS]
            have HI5 := Aside0.mk hI5
            have HBE5 := Aside0.mk (show Blk w5 ge 38 _ from hF5.keep HBE.out (by omega))
            have HOW5 := Aside0.mk (HOW4.out.only (rg_only hF5) (own_rin HOW4.out HIN4.out))
            have HB5 := Aside0.mk (HB4.out.trans (hF5.toBelow HB4.out.size (Nat.le_refl _)))
            have c1 := (HBE5.out.cell 1).trans (show _ = some (Value.string ⟨#[]⟩) from rfl)
            have f1 := HBE5.out.frozen 1
            clear hI5 hF5 hS hb5 hx5
            go_wp2
            go_meet
            case rel => exact ⟨⟨1, S, 0, 0⟩, b5, x5, rfl, ⟨by unfold rEv; rw [← HK.out.1, if_pos rfl, ← HK.out.2.1, ← HK.out.2.2, ← HT.out.1]; exact Prod.ext rfl (Prod.ext HT.out.2.1.symm HT.out.2.2.symm)⟩, ⟨HBE5.out.set_ 1 _⟩,
              ⟨(show Blk w5 w.heap.size 121 _ from HI5.out).far (p := ⟨ge, 1, none⟩) (by simp only; omega) _⟩, ⟨HOW5.out.only ((Only.refl [ge] w5).setCell _ _ (.inl (by simp))) (fun k hk hm => by have := HKL.out k hk; simp at hm; omega)⟩, ⟨HB5.out.setCell (p := ⟨ge, 1, none⟩) (by simp only; omega) _⟩⟩
          · go_wp2_with fail
            refine (rnumE_calls w.heap.size b3 x3 w4 HIN4.out (by have := HZ3.out; omega)).mono ?_
            rintro e5 w5 ⟨rfl, hI5, hF5⟩
            obtain ⟨X, hX⟩ : ∃ X, X = (rNumE b3 x3).1 := ⟨_, rfl⟩
            obtain ⟨b5, hb5⟩ : ∃ b5, b5 = (rNumE b3 x3).2.1 := ⟨_, rfl⟩
            obtain ⟨x5, hx5⟩ : ∃ x5, x5 = (rNumE b3 x3).2.2 := ⟨_, rfl⟩
            have HT := Aside0.mk (And.intro hX (And.intro hb5 hx5))
            have HZ5 := Aside0.mk (show b5.size ≤ 100000 by rw [hb5]; exact Nat.le_trans (rNumE_size _ _) HZ3.out)
            rw [← hb5, ← hx5] at hI5
            rw [← hX]
            have HBE5 := Aside0.mk (show Blk w5 ge 38 _ from hF5.keep HBE.out (by omega))
            have HI5 := Aside0.mk hI5
            have HOW5 := Aside0.mk (HOW4.out.only (rg_only hF5) (own_rin HOW4.out HIN4.out))
            have HB5 := Aside0.mk (HB4.out.trans (hF5.toBelow HB4.out.size (Nat.le_refl _)))
            clear hI5 hF5 hX hb5 hx5
            go_wp2_with fail
            refine (rnumE_calls w.heap.size b5 x5 w5 HI5.out (by have := HZ5.out; omega)).mono ?_
            rintro e6 w6 ⟨rfl, hI6, hF6⟩
            obtain ⟨Y, hY⟩ : ∃ Y, Y = (rNumE b5 x5).1 := ⟨_, rfl⟩
            obtain ⟨b6, hb6⟩ : ∃ b6, b6 = (rNumE b5 x5).2.1 := ⟨_, rfl⟩
            obtain ⟨x6, hx6⟩ : ∃ x6, x6 = (rNumE b5 x5).2.2 := ⟨_, rfl⟩
            have HT6 := Aside0.mk (And.intro hY (And.intro hb6 hx6))
            rw [← hb6, ← hx6] at hI6
            rw [← hY]
            have HBE6 := Aside0.mk (show Blk w6 ge 38 _ from hF6.keep HBE5.out (by omega))
            have HI6 := Aside0.mk hI6
            have HOW6 := Aside0.mk (HOW5.out.only (rg_only hF6) (own_rin HOW5.out HI5.out))
            have HB6 := Aside0.mk (HB5.out.trans (hF6.toBelow HB5.out.size (Nat.le_refl _)))
            have c2 := (HBE6.out.cell 2).trans (show _ = some (Value.int .i64 0) from rfl)
            have f2 := HBE6.out.frozen 2
            have c3 := (HBE6.out.cell 3).trans (show _ = some (Value.int .i64 0) from rfl)
            have f3 := HBE6.out.frozen 3
            clear hI6 hF6 hY hb6 hx6
            go_wp2
            go_meet
            case rel => exact ⟨⟨K, ⟨#[]⟩, X, Y⟩, b6, x6, rfl, ⟨by unfold rEv; rw [← HK.out.1, if_neg hk1, ← HK.out.2.1, ← HK.out.2.2, ← HT.out.1, ← HT.out.2.1, ← HT.out.2.2, ← HT6.out.1]; exact Prod.ext rfl (Prod.ext HT6.out.2.1.symm HT6.out.2.2.symm)⟩, ⟨(HBE6.out.set_ 2 _).set_ 3 _⟩,
              ⟨((show Blk w6 w.heap.size 121 _ from HI6.out).far (p := ⟨ge, 2, none⟩) (by simp only; omega) _).far (p := ⟨ge, 3, none⟩) (by simp only; omega) _⟩, ⟨HOW6.out.only (((Only.refl [ge] w6).setCell _ _ (.inl (by simp))).setCell _ _ (.inl (by simp))) (fun k hk hm => by have := HKL.out k hk; simp at hm; omega)⟩, ⟨(HB6.out.setCell (p := ⟨ge, 2, none⟩) (by simp only; omega) _).setCell (p := ⟨ge, 3, none⟩) (by simp only; omega) _⟩⟩
        case rest =>
          obtain ⟨ev, b4, x4, rfl, HEV, HBV, HIN5, HOW5, HB5⟩ := hcut
          clear HIN4 HOW4 HB4 HBE
          have c0 := (HBV.out.cell 0).trans (show _ = some (Value.int .i64 ev.k) from rfl)
          have c1 := (HBV.out.cell 1).trans (show _ = some (Value.string ev.s) from rfl)
          have c2 := (HBV.out.cell 2).trans (show _ = some (Value.int .i64 ev.x) from rfl)
          have c3 := (HBV.out.cell 3).trans (show _ = some (Value.int .i64 ev.y) from rfl)
          have HPUT := Aside0.mk (show ∀ l, IsLay b l → okE ev = true ∧ l.take (i + 1) = lr ++ [ev] ∧ b4 = strOfNums (evsB (l.drop (i + 1))) ∧ x4 = 0 from fun l hl => by
            obtain ⟨h1, h2, _⟩ := HL.out l hl
            have hNl := (HLD.out l hl).1
            obtain ⟨e, he⟩ : ∃ e, l[i]? = some e := ⟨l[i]'(by omega), by simp⟩
            have hoke := hl.1 e (List.mem_of_getElem? he)
            have h3 := rEv_put hoke (evsB_by (fun x hx => hl.1 x (List.mem_of_mem_drop hx) : AllOk (l.drop (i + 1))))
            rw [drop_at he, evsB_cons] at h2
            rw [← h2, HEV.out] at h3
            injection h3 with h4 h5
            injection h5 with h5 h6
            subst h4
            exact ⟨hoke, by rw [take_at he, h1], h5, h6⟩)
          have HZ4 := Aside0.mk (show b4.size ≤ 100000 by
            have := rEv_size br 0
            rw [HEV.out] at this
            exact Nat.le_trans this HI.out.2.2.2.2)
          go_wp2_with fail
          refine (refEv_calls ev wc).mono ?_
          rintro e6 w6 ⟨rfl, hb6⟩
          have HBV6 := Aside0.mk (HBV.out.below' hb6)
          have HIN6 := Aside0.mk (HIN5.out.below hb6)
          have HOW6 := Aside0.mk (HOW5.out.below hb6)
          have HB6 := Aside0.mk (below_step HB5.out hb6)
          clear hb6 c0 c1 c2 c3 HBV HIN5 HOW5 HB5
          cases hok : okE ev with
          | false =>
            have HOK := Aside0.mk hok
            clear hok
            go_wp2
            go_ret2
            refine ⟨.inr ⟨fun l hl => ?_, _, [], rfl, BookEv.Own.nil _ _, by simp⟩, HB6.out⟩
            have h1 := (HPUT.out l hl).1
            rw [HOK.out] at h1
            cases h1
          | true =>
            have HOK := Aside0.mk hok
            clear hok
            have c0 := (HBV6.out.cell 0).trans (show _ = some (Value.int .i64 ev.k) from rfl)
            have c1 := (HBV6.out.cell 1).trans (show _ = some (Value.string ev.s) from rfl)
            have c2 := (HBV6.out.cell 2).trans (show _ = some (Value.int .i64 ev.x) from rfl)
            have c3 := (HBV6.out.cell 3).trans (show _ = some (Value.int .i64 ev.y) from rfl)
            have hsz := HB6.out.size
            have hown := HOW6.out
            have how0 : w6.ownsRow w.heap.size 38 4 (.slice A i c) i (BookEv.fl lr) := by
              have := hown
              unfold BookEv.Own at this
              rwa [HI.out.2.2.1] at this
            have hne0 := own_rin hown HIN6.out
            obtain ⟨v7, w7, hr7, ho7, hg7⟩ := app_lit2 (w6.alloc (.cells #[.int .i64 ev.k, .string ev.s, .int .i64 ev.x, .int .i64 ev.y] 38)) w.heap.size w6.heap.size i (.slice A i c) lr ev (by simp; omega) (how0.alloc _) (Blk.new _ _ _) (by omega)
            obtain ⟨A7, C7, rfl⟩ := row_sl ho7
            have HR7 := Aside0.mk hr7
            have hgl : w.heap.size < w6.heap.size := blk_lt HIN6.out
            have HIN7 := Aside0.mk (show IsRIn w7 w.heap.size b4 x4 from (hg7.block w.heap.size (by simp; omega) (fun e => hne0 w.heap.size e.symm (by simp))).trans (HIN6.out.below (below_alloc (Below.refl _ _) _)))
            have hbg : Below w.heap.size (w6.alloc (.cells #[.int .i64 ev.k, .string ev.s, .int .i64 ev.x, .int .i64 ev.y] 38)) w7 := ⟨hg7.os, hg7.tape, hg7.output, hg7.size, fun k hk => hg7.block k (by simp; omega) (fun he => by have := own_base how0 k he.symm; omega)⟩
            have HB7 := Aside0.mk (show Below w.heap.size w w7 from (below_alloc HB6.out (.cells #[.int .i64 ev.k, .string ev.s, .int .i64 ev.x, .int .i64 ev.y] 38)).trans hbg)
            have HOW7 := Aside0.mk (show BookEv.Own w7 w.heap.size (.slice A7 (i + 1) C7) (lr ++ [ev]) by unfold BookEv.Own; rw [List.length_append, HI.out.2.2.1]; exact ho7)
            clear hown how0 hr7 ho7 hg7 hgl hne0 hsz hbg
            go_wp2_with (first | (at_builtin; refine Aside0.out ?_))
            refine ⟨?_⟩
            refine BookEv.append_of rfl (.tmp 46) (.tmp 48) 24 24 (.slice A i c) (.slice (some ⟨w6.heap.size, 0, none⟩) 1 1) rfl rfl rfl HR7.out ?_
            clear c0 c1 c2 c3
            go_wp2
            go_roundg (N - (i + 1))
            case measure => have := HI.out.2.1; omega
            case rel => exact ⟨i + 1, A7, C7, lr ++ [ev], b4, x4, rfl, by go_num, ⟨by omega, rfl, by rw [List.length_append, HI.out.2.2.1]; rfl, fun x hx => by
              rcases List.mem_append.1 hx with hx | hx
              · exact HI.out.2.2.2.1 x hx
              · rw [List.mem_singleton.1 hx]; exact HOK.out, HZ4.out⟩, ⟨fun l hl => by
              obtain ⟨_, h2, h3, h4⟩ := HPUT.out l hl
              exact ⟨h2.symm, h3, h4⟩⟩, HOW7, HIN7, HB7⟩
      · have HX := Aside0.mk hlt
        have hlen := HI.out.2.2.1
        have hown := HOW.out
        obtain ⟨A', c', he', hlc, hsrc, _⟩ := hown.src
        rw [hlen] at he'
        obtain ⟨rfl, rfl⟩ : A = A' ∧ c = c' := by injection he' with h1 _ h2; exact ⟨h1, h2⟩
        have HEND := Aside0.mk (rend_calls w.heap.size br er wr HIN.out)
        obtain ⟨x, hx⟩ : ∃ x, x = (if er = 0 then (if br.size = 0 then (0 : Int) else 3) else er) := ⟨_, rfl⟩
        rw [← hx] at HEND
        obtain ⟨S, hS⟩ : ∃ S, S = strOfNums (layB lr) := ⟨_, rfl⟩
        have HLV := Aside0.mk (show ∀ w', Below wr.heap.size wr w' ∨ Only [w.heap.size] wr w' → Calls Try.prog 100 #[.slice A i c] w' fun r w'' => r = .returned (.string S) ∧ Below w'.heap.size w' w'' from fun w' hw' => by
          have h1 : BookEv.Src w' A lr.length lr := by
            rcases hw' with h | h
            · exact hsrc.below h
            · exact ((hown.only h (own_rin hown HIN.out)).src).elim (fun A2 h2 => by
                obtain ⟨c2, he2, _, hs2, _⟩ := h2
                rw [hlen] at he2
                injection he2 with he2
                rw [he2]; exact hs2)
          have h2 := levs_calls A c lr w' h1 hlc HI.out.2.2.2.1 (by have := HI.out.1; omega)
          rw [hlen, ← hS] at h2
          exact h2)
        have HXS := Aside0.mk (And.intro hx hS)
        -- what the answer is
        have HANS := Aside0.mk (show (x = 0 ∧ S = b → IsLay b lr) ∧ (¬ (x = 0 ∧ S = b) → ∀ l, ¬ IsLay b l) from by
          refine ⟨fun h => ⟨HI.out.2.2.2.1, by have := HI.out.1; omega, by rw [← h.2, hS]⟩, fun h l hl => h ?_⟩
          obtain ⟨h1, h2, h3⟩ := HL.out l hl
          have h4 := (HLD.out l hl).1
          have h5 : i = N := by have := HI.out.1; have := hlt; omega
          rw [h5, h4, List.take_length] at h1
          rw [h5, h4, List.drop_length] at h2
          refine ⟨?_, ?_⟩
          · rw [hx, if_pos h3, if_pos (by rw [h2, strOfNums_size]; rfl)]
          · rw [hS, h1]
            exact hl.2.2.symm)
        have HZI := Aside0.mk hlen
        clear hown he' hlc hsrc hx hS hlt hlen
        by_cases hiN : i < N
        · have hltI : (i : Int) < (N : Int) := by omega
          have her : (er == 0) = false := by
            have h := HX.out
            have : er ≠ 0 := fun e => h ⟨hiN, e⟩
            simpa using this
          have hx0 : (x == 0) = false := by
            have h := HX.out
            have h1 : er ≠ 0 := fun e => h ⟨hiN, e⟩
            rw [HXS.out.1, if_neg h1]
            exact her
          go_wp2_with fail
          refine HEND.out.mono ?_
          rintro e5 w5 ⟨rfl, hF5⟩
          have HOW5 := Aside0.mk (HOW.out.only (rg_only hF5) (own_rin HOW.out HIN.out))
          have HB5 := Aside0.mk (HB.out.trans (hF5.toBelow HB.out.size (Nat.le_refl _)))
          clear hF5 c1
          go_wp2
          go_ret2
          refine ⟨.inr ⟨HANS.out.2 (fun h => ?_), _, lr, rfl, HOW5.out, by have := HZI.out; have := HI.out.1; omega⟩, HB5.out⟩
          rw [h.1] at hx0
          cases hx0
        · have hltI : ¬ (i : Int) < (N : Int) := by omega
          go_wp2_with fail
          refine HEND.out.mono ?_
          rintro e5 w5 ⟨rfl, hF5⟩
          have HOW5 := Aside0.mk (HOW.out.only (rg_only hF5) (own_rin HOW.out HIN.out))
          have HB5 := Aside0.mk (HB.out.trans (hF5.toBelow HB.out.size (Nat.le_refl _)))
          have HLV5 := Aside0.mk (HLV.out w5 (.inr (rg_only hF5)))
          clear hF5 c1 HLV
          by_cases hx0 : x = 0
          · subst hx0
            go_wp2_with fail
            refine HLV5.out.mono ?_
            rintro e6 w6 ⟨rfl, hb6⟩
            have HOW6 := Aside0.mk (HOW5.out.below hb6)
            have HB6 := Aside0.mk (below_step HB5.out hb6)
            clear hb6
            by_cases hSb : S = b
            · subst hSb
              go_wp2
              go_ret2
              exact ⟨.inl ⟨lr, _, HANS.out.1 (by simp), rfl, HOW6.out⟩, HB6.out⟩
            · have hcmp : (S.toList == b.toList) = false := by
                rw [beq_eq_false_iff_ne]
                intro h
                apply hSb
                apply str_ext
                rw [← ByteArray.toList_eq, ← ByteArray.toList_eq, h]
              go_wp2
              go_ret2
              exact ⟨.inr ⟨HANS.out.2 (fun h => hSb h.2), _, lr, rfl, HOW6.out, by have := HZI.out; have := HI.out.1; omega⟩, HB6.out⟩
          · have hx1 : (x == 0) = false := by simpa using hx0
            go_wp2
            go_ret2
            exact ⟨.inr ⟨HANS.out.2 (fun h => hx0 h.1), _, lr, rfl, HOW5.out, by have := HZI.out; have := HI.out.1; omega⟩, HB5.out⟩
end Go.Proofs.Ytjjjinpmflghmaa.Keys
