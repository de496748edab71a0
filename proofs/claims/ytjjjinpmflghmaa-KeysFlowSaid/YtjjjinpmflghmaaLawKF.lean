/- The walk of KeysFlow. Conditions: those in each theorem. -/
import Derived.Test.YtjjjinpmflghmaaKeyFlow
import Derived.Test.YtjjjinpmflghmaaArgs
import Derived.OpenShut
namespace Go.Proofs.Ytjjjinpmflghmaa.Keys
open Go.RowKit Go.Proofs.Ytjjjinpmflghmaa.Mem Go.Proofs.YtjjjinpmflghmaaW.PrintWords Go.Proofs.YtjjjinpmflghmaaW.PrintMore Go.Proofs.YtjjjinpmflghmaaW.PrintLast Go.Proofs.Ytjjjinpmflghmaa.PKeysBounds Go.Proofs.Ytjjjinpmflghmaa.Obj
set_option linter.unusedVariables false
set_option linter.unusedSimpArgs false
/-- The texts of events, one behind the other. -/
def txt (l : List E4) : ByteArray := strOfNums (l.flatMap (fun e => bytesOf e.s))
theorem str_app (a b : List Int) : strOfNums a ++ strOfNums b = strOfNums (a ++ b) := by
  apply ByteArray.ext
  simp [strOfNums]
theorem str_ext {a b : ByteArray} (h : a.data.toList = b.data.toList) : a = b := by
  apply ByteArray.ext
  exact Array.toList_inj.1 h
theorem str_bytesOf (s : ByteArray) : strOfNums (bytesOf s) = s := by
  apply str_ext
  rw [strOfNums_data, bytesOf, List.map_map]
  conv => rhs; rw [← List.map_id s.data.toList]
  apply List.map_congr_left
  intro x _
  simp
theorem txt_app (l : List E4) (e : E4) : txt (l ++ [e]) = txt l ++ e.s := by
  unfold txt
  rw [List.flatMap_append, ← str_app]
  simp [str_bytesOf]
theorem txt_size : ∀ l : List E4, (∀ e ∈ l, e.s.size ≤ 60) → (txt l).size ≤ 60 * l.length
  | [], _ => by simp [txt]; rfl
  | e :: l, h => by
    have h1 := txt_size l (fun x hx => h x (by simp [hx]))
    have h2 := h e (by simp)
    simp [txt, strOfNums_size, bytesOf_length] at h1 ⊢
    omega
theorem txt_two (x y : List E4) : txt (x ++ y) = txt x ++ txt y := by
  unfold txt
  rw [List.flatMap_append, ← str_app]
theorem txt_pre (l : List E4) (a : Nat) : ∃ R, txt l = txt (l.take a) ++ R := ⟨txt (l.drop a), by rw [← txt_two, List.take_append_drop]⟩
theorem pre_extract (D R : ByteArray) : (D ++ R).extract 0 D.size = D := by
  apply str_ext
  simp [ByteArray.data_extract, ByteArray.data_append]
  exact List.take_of_length_le (by rw [Array.length_toList]; exact Nat.le_refl _)
set_option maxHeartbeats 8000000 in
set_option maxRecDepth 100000 in
theorem flow_live (A0 A1 : Option Addr) (n0 c0 n1 c1 : Nat) (ss : List ByteArray) (zs : List Int) (w : World) (h0 : Obj.ArgStr w A0 n0 ss)
    (h1 : (A1 = none ∧ n1 = 0 ∧ c1 = 0 ∧ zs = []) ∨ ∃ x, A1 = some x ∧ n1 ≤ c1 ∧ c1 ≤ maxLen ∧ zs.length = c1 ∧ (∀ i, i < zs.length → w.cell? (x.add i) = some (.int .i64 (zs.getD i 0))) ∧ ∀ n ∈ zs, (Lit.int .i64 n).wf = true)
    (hl0 : n0 ≤ 60) (hl1 : n1 ≤ 200) :
    Calls Try.prog 7 #[.slice A0 n0 c0, .slice A1 n1 c1] w fun r w' => r = .returned (.bool true) ∧ Below w.heap.size w w' := by
  have HS := Aside0.mk h0
  have HZ := Aside0.mk h1
  have hl0I : (n0 : Int) ≤ 60 := by omega
  have hl1I : (n1 : Int) ≤ 200 := by omega
  clear h0 h1
  go_enter Try.func7, Try.ntmps7
  go_wp2_with fail
  refine (alive20 _).mono ?_
  rintro e0 w0 ⟨rfl, hb0⟩
  have HB := Aside0.mk hb0
  clear hb0
  have b1 := Blk.new w0 33 #[.slice none 0 0, .int .i64 0, .int .i64 0]
  have b2 := Blk.new (w0.alloc (.cells #[.slice none 0 0, .int .i64 0, .int .i64 0] 33)) 36 #[.slice none 0 0, .int .i64 0, .int .i64 0]
  rw [World.size_alloc] at b2
  have HQ0 := Aside0.mk (QQ.new (b1.alloc (.cells #[.slice none 0 0, .int .i64 0, .int .i64 0] 36)) b2)
  have HB1 := Aside0.mk (below_alloc (below_alloc HB.out (.cells #[.slice none 0 0, .int .i64 0, .int .i64 0] 33)) (.cells #[.slice none 0 0, .int .i64 0, .int .i64 0] 36))
  have hsw := HB.out.size
  clear b1 b2
  go_wp2_with fail
  generalize (w0.alloc (.cells #[.slice none 0 0, .int .i64 0, .int .i64 0] 33)).alloc (.cells #[.slice none 0 0, .int .i64 0, .int .i64 0] 36) = WB at HQ0 HB1 ⊢
  obtain ⟨go, hgo⟩ : ∃ go, go = w0.heap.size := ⟨_, rfl⟩
  rw [← hgo] at HQ0 hsw ⊢
  clear hgo HB
  go_loopg [7, 8, 9, 10] 300 (fun kq v7 v8 v9 v10 wr => ∃ (k at_ a b c : Nat) (all : List E4) (vo vi : Value), v7 = .string (txt all) ∧ v8 = .string (txt (all.take a)) ∧ v9 = .int .i64 (at_ : Int) ∧ v10 = .int .i64 (k : Int) ∧ Aside0 (k ≤ 300 ∧ kq = 300 - k ∧ all.length ≤ k ∧ ∀ e ∈ all, e.s.size ≤ 60) ∧ Aside0 (FL WB go (go + 1) vo vi all a b c wr))
  case atStart => exact ⟨0, 0, 0, 0, 0, [], _, _, rfl, rfl, rfl, rfl, ⟨by omega, rfl, by simp, by simp⟩, ⟨⟨HQ0.out, by simp, by simp⟩⟩⟩
  case round =>
    obtain ⟨k, at_, a, b, c, all, vo, vi, rfl, rfl, rfl, rfl, HK, HF⟩ := hrel
    clear HQ0
    by_cases hk : k < 300
    · have hkI : (k : Int) < 300 := by omega
      have hk0 : (0 : Int) ≤ (k : Int) := Int.natCast_nonneg _
      have ha0 : (0 : Int) ≤ (at_ : Int) := Int.natCast_nonneg _
      go_upto_if 41 with (fail)
      go_cut [11] from 34 to 143 (fun v11 wc => ∃ hh : Int, v11 = .int .i64 hh ∧ wc = wr)
      case first =>
        by_cases hk1 : k < n1
        · have hk1I : (k : Int) < (n1 : Int) := by omega
          rcases HZ.out with ⟨_, h2, _⟩ | ⟨x, rfl, h2, h3, h4, h5, h6⟩
          · omega
          · have hz := pw_cell_below (HF.out.q.k.belowOf HB1.out HB1.out.size (by simp; omega)) (h5 k (by omega))
            obtain ⟨z, hzz⟩ : ∃ z, z = zs.getD k 0 := ⟨_, rfl⟩
            rw [← hzz] at hz
            clear hzz
            go_wp2
            go_meet
            case rel => exact ⟨z, rfl, rfl⟩
        · have hk1I : ¬ (k : Int) < (n1 : Int) := by omega
          go_wp2
          go_meet
          case rel => exact ⟨0, rfl, rfl⟩
      case rest =>
        obtain ⟨hh, rfl, rfl⟩ := hcut
        go_upto_if 49 with (fail)
        have HBw := Aside0.mk (HF.out.q.k.belowOf HB1.out HB1.out.size (by simp; omega))
        go_cut [7, 9, 12] from 34 to 143 (fun v7 v9 v12 wd => ∃ (at2 : Nat) (all2 : List E4) (vo2 : Value), v7 = .string (txt all2) ∧ v9 = .int .i64 (at2 : Int) ∧ Aside0 (all2.length ≤ k + 1 ∧ (∀ e ∈ all2, e.s.size ≤ 60) ∧ all2.take a = all.take a) ∧ Aside0 (FL WB go (go + 1) vo2 vi all2 a b c wd))
        case first =>
          by_cases hat : at_ < n0
          · have hatI : (at_ : Int) < (n0 : Int) := by omega
            have hlen := HS.out.1
            obtain ⟨s, hs⟩ : ∃ s, ss[at_]? = some s := ⟨ss[at_]'(by omega), by simp⟩
            obtain ⟨ad, hA, hcs⟩ := (HS.out.below HBw.out).at_ at_ s hs
            subst hA
            have HSS := Aside0.mk hs
            clear hlen hs
            by_cases h60 : s.size ≤ 60
            · have h60I : (s.size : Int) ≤ 60 := by omega
              go_wp2_with fail
              refine (keys_Valid.calls 1 s 0 0 (okE ⟨1, s, 0, 0⟩) _ (valid_some ⟨1, s, 0, 0⟩)).mono ?_
              rintro e2 w2 ⟨rfl, hb2⟩
              have HX := Aside0.mk ((Blk.new wc 38 #[.int .i64 1, .string s, .int .i64 0, .int .i64 0]).below' hb2)
              have HF2 := Aside0.mk ((HF.out.below (below_alloc (Below.refl _ _) (.cells #[.int .i64 1, .string s, .int .i64 0, .int .i64 0] 38))).below hb2)
              clear hb2
              cases hok : okE ⟨1, s, 0, 0⟩ with
              | false =>
                go_wp2
                go_meet
                case rel => exact ⟨at_ + 1, all, vo, rfl, by go_num, ⟨by have := HK.out; omega, HK.out.2.2.2, rfl⟩, HF2⟩
              | true =>
                have x0 : w2.cell? ⟨wc.heap.size, 0, none⟩ = some (.int .i64 1) := (HX.out.cell 0).trans rfl
                have x1 : w2.cell? ⟨wc.heap.size, 1, none⟩ = some (.string s) := (HX.out.cell 1).trans rfl
                have x2 : w2.cell? ⟨wc.heap.size, 2, none⟩ = some (.int .i64 0) := (HX.out.cell 2).trans rfl
                have x3 : w2.cell? ⟨wc.heap.size, 3, none⟩ = some (.int .i64 0) := (HX.out.cell 3).trans rfl
                go_wp2_with fail
                clear x0 x1 x2 x3
                refine (HF2.out.add ⟨1, s, 0, 0⟩ hok (by have := HK.out; omega)).mono ?_
                rintro e3 w3 (⟨rfl, vo3, hf3⟩ | ⟨rfl, vo3, hf3⟩)
                · have HF3 := Aside0.mk hf3
                  clear hf3
                  obtain ⟨ad3, hA3, hc3⟩ := (HS.out.below (HF3.out.q.k.belowOf HB1.out HB1.out.size (by simp; omega))).at_ at_ s HSS.out
                  obtain rfl : ad = ad3 := by injection hA3
                  have hts := txt_size all HK.out.2.2.2
                  have hsz : (txt all).size + s.size ≤ 9223372036854775807 := by have := HK.out; omega
                  clear hts hA3
                  go_wp2
                  go_meet
                  case rel => exact ⟨at_ + 1, all ++ [⟨1, s, 0, 0⟩], vo3, by rw [txt_app], by go_num, ⟨by have := HK.out; simp; omega, fun e he => by
                    rcases List.mem_append.1 he with he | he
                    · exact HK.out.2.2.2 e he
                    · rw [List.mem_singleton.1 he]; exact h60, List.take_append_of_le_length (by have := HF.out.n; omega)⟩, HF3⟩
                · have HF3 := Aside0.mk hf3
                  clear hf3
                  go_wp2
                  go_meet
                  case rel => exact ⟨at_, all, vo3, rfl, rfl, ⟨by have := HK.out; omega, HK.out.2.2.2, rfl⟩, HF3⟩
            · have h60I : ¬ (s.size : Int) ≤ 60 := by omega
              go_wp2
              go_ret
              exact ⟨rfl, HBw.out⟩
          · have hatI : ¬ (at_ : Int) < (n0 : Int) := by omega
            go_wp2
            go_meet
            case rel => exact ⟨at_, all, vo, rfl, rfl, ⟨by have := HK.out; omega, HK.out.2.2.2, rfl⟩, HF⟩
        case rest =>
          obtain ⟨at2, all2, vo2, rfl, rfl, HA, HF2⟩ := hcut
          have hlA : all2.length ≤ 100000 := by have := HA.out.1; omega
          go_wp2_with fail
          refine (HF2.out.wait _ hlA).mono ?_
          rintro e4 w4 ⟨n, v4, rfl, ht4, hf4⟩
          have HT4 := Aside0.mk ht4
          have HF4 := Aside0.mk hf4
          clear ht4 hf4 HF2
          go_upto_region 22 with (fail)
          go_cut [93] from 34 to 143 (fun v93 wd => ∃ q : Bool, v93 = .bool q ∧ Aside0 (q = true → 0 < n) ∧ wd = w4)
          case first =>
            go_wp2
            all_goals
              go_meet
              case rel => first | exact ⟨_, rfl, ⟨fun h => of_decide_eq_true h⟩, rfl⟩ | exact ⟨false, rfl, ⟨fun h => by cases h⟩, rfl⟩
          case rest =>
            obtain ⟨q, rfl, HQ4, rfl⟩ := hcut
            go_upto_if 93 with (fail)
            go_cut [] from 34 to 143 (fun wd => ∃ (b2 : Nat) (vi2 : Value), Aside0 (FL WB go (go + 1) vo2 vi2 all2 a b2 c wd))
            case first =>
              cases q with
              | true =>
                go_wp2_with fail
                refine (HF4.out.take_told hlA HT4.out (HQ4.out trivial)).mono ?_
                rintro e5 w5 ⟨k5, b5, vi5, rfl, hf5⟩
                have HF5 := Aside0.mk hf5
                clear hf5
                go_wp2
                go_meet
                case rel => exact ⟨_, _, HF5⟩
              | false =>
                go_wp2
                go_meet
                case rel => exact ⟨_, _, HF4⟩
            case rest =>
              obtain ⟨b2, vi2, HF5⟩ := hcut
              clear HF4 HT4 HQ4
              have HL := Aside0.mk (txt_size (all2.take a) (fun e he => HA.out.2.1 e (List.mem_of_mem_take he)))
              have hA3 := HA.out.2.2
              rw [← hA3]
              clear hA3
              go_upto_if 100 with (fail)
              go_cut [8] from 34 to 143 (fun v8 wd => ∃ (a2 : Nat) (vi3 : Value), v8 = .string (txt (all2.take a2)) ∧ Aside0 (FL WB go (go + 1) vo2 vi3 all2 a2 b2 c wd))
              case first =>
                go_wp2_with fail
                · by_cases hab : a < b2
                  · obtain ⟨e, he, hnx⟩ := HF5.out.next_some hlA hab
                    have HE := Aside0.mk he
                    have hel : e.s.size ≤ 60 := HA.out.2.1 e (List.mem_of_getElem? he)
                    clear he
                    refine hnx.mono ?_
                    rintro e6 w6 ⟨rfl, vi6, hf6⟩
                    have HF6 := Aside0.mk (hf6.below (below_alloc (Below.refl _ _) (.cells #[.int .i64 e.k, .string e.s, .int .i64 e.x, .int .i64 e.y] 38)))
                    clear hf6 hnx
                    have hsz : (txt (all2.take a)).size + e.s.size ≤ 9223372036854775807 := by
                      have h1 := HL.out
                      have h2 : (all2.take a).length ≤ all2.length := by simp; omega
                      omega
                    simp only [E4.val]
                    go_wp2
                    go_meet
                    case rel => exact ⟨a + 1, _, by rw [List.take_add_one, HE.out, Option.toList_some, txt_app], HF6⟩
                  · refine (HF5.out.next_none hab).mono ?_
                    rintro e6 w6 ⟨rfl, hf6⟩
                    have HF6 := Aside0.mk (hf6.below (below_alloc (Below.refl _ _) (.cells #[.int .i64 0, .string ⟨#[]⟩, .int .i64 0, .int .i64 0] 38)))
                    clear hf6
                    go_wp2
                    go_meet
                    case rel => exact ⟨a, _, rfl, HF6⟩
                · go_wp2
                  go_meet
                  case rel => exact ⟨a, _, rfl, HF5⟩
              case rest =>
                obtain ⟨a2, vi3, rfl, HF6⟩ := hcut
                clear HF5 HL
                go_upto_if 113 with (fail)
                go_cut [] from 34 to 143 (fun wd => ∃ (c2 : Nat) (vo3 : Value), Aside0 (FL WB go (go + 1) vo3 vi3 all2 a2 b2 c2 wd))
                case first =>
                  go_wp2_with fail
                  · refine (got_calls _ _ _ _ _ _ HF6.out.q.i).mono ?_
                    rintro e7 w7 ⟨rfl, rfl⟩
                    go_wp2_with fail
                    refine (HF6.out.ack hlA).mono ?_
                    rintro e8 w8 ⟨k8, vo8, rfl, hf8⟩
                    have HF8 := Aside0.mk hf8
                    clear hf8
                    go_wp2
                    go_meet
                    case rel => exact ⟨_, _, HF8⟩
                  · go_wp2
                    go_meet
                    case rel => exact ⟨_, _, HF6⟩
                case rest =>
                  obtain ⟨c2, vo3, HF7⟩ := hcut
                  clear HF6
                  obtain ⟨R, hR⟩ := txt_pre all2 a2
                  obtain ⟨D, hD⟩ : ∃ D, D = txt (all2.take a2) := ⟨_, rfl⟩
                  obtain ⟨T, hT⟩ : ∃ T, T = txt all2 := ⟨_, rfl⟩
                  rw [← hD, ← hT] at hR
                  have hle : D.size ≤ T.size := by rw [hR, ByteArray.size_append]; omega
                  have hleI : (D.size : Int) ≤ (T.size : Int) := by omega
                  have hd0 : (0 : Int) ≤ (D.size : Int) := Int.natCast_nonneg _
                  have hpre : T.extract 0 D.size = D := by rw [hR]; exact pre_extract D R
                  have hdn : decide (T.size < D.size) = false := by simpa using hle
                  have HDT := Aside0.mk (And.intro hD hT)
                  have HR := Aside0.mk hR
                  rw [← hD, ← hT]
                  have hlen3 := HF7.out.n
                  have hq7 := HF7.out.q.i
                  have hq8 := HF7.out.q.o
                  have hm40 : ((all2.take b2).drop a2).length ≤ 40 := by simp; omega
                  have hcall := len_calls _ _ _ _ _ _ hq7
                  generalize ((all2.take b2).drop a2).length = m at hm40 hcall
                  have hmI : (m : Int) ≤ 40 := by omega
                  have hcallT := top_calls _ _ _ _ _ _ hq8
                  have hcallA := acked_calls _ _ _ _ _ _ hq8
                  obtain ⟨L, hL⟩ : ∃ L : Int, L = (all2.length : Int) := ⟨_, rfl⟩
                  rw [← hL] at hcallT
                  have hL1 : L - (c2 : Int) ≤ 40 := by omega
                  have hL2 : (c2 : Int) ≤ L := by omega
                  have hL3 : L ≤ 100000 := by omega
                  have hL4 : (0 : Int) ≤ (c2 : Int) := Int.natCast_nonneg _
                  have HLL := Aside0.mk hL
                  have HC := Aside0.mk (And.intro hcall (And.intro hcallT hcallA))
                  clear hD hT hR hlen3 hq7 hq8 hcall hcallT hcallA hL
                  go_wp2_with fail
                  refine HC.out.1.mono ?_
                  rintro e9 w9 ⟨rfl, rfl⟩
                  go_wp2_with fail
                  refine HC.out.2.1.mono ?_
                  rintro e10 w10 ⟨rfl, rfl⟩
                  go_wp2_with fail
                  refine HC.out.2.2.mono ?_
                  rintro e11 w11 ⟨rfl, rfl⟩
                  go_wp2_with fail
                  go_roundg (300 - (k + 1))
                  case measure => have := HK.out; omega
                  case rel => exact ⟨k + 1, at2, a2, b2, c2, all2, vo3, vi3, by rw [HDT.out.2], by rw [HDT.out.1], rfl, by go_num, ⟨by omega, rfl, HA.out.1, HA.out.2.1⟩, HF7⟩
    · have hkI : ¬ (k : Int) < 300 := by omega
      go_wp2
      go_ret
      exact ⟨rfl, HF.out.q.k.belowOf HB1.out HB1.out.size (by simp; omega)⟩
set_option maxHeartbeats 2000000 in
set_option maxRecDepth 100000 in
theorem flow_over (A0 A1 : Option Addr) (n0 c0 n1 c1 : Nat) (w : World) (hl : ¬ (n0 ≤ 60 ∧ n1 ≤ 200)) :
    Calls Try.prog 7 #[.slice A0 n0 c0, .slice A1 n1 c1] w fun r w' => r = .returned (.bool true) ∧ Below w.heap.size w w' := by
  by_cases h0 : n0 ≤ 60
  · have h0I : (n0 : Int) ≤ 60 := by omega
    have h1I : ¬ (n1 : Int) ≤ 200 := by omega
    go_enter Try.func7, Try.ntmps7
    go_wp2_with fail
    refine (alive20 _).mono ?_
    rintro e0 w0 ⟨rfl, hb0⟩
    go_wp2
    go_ret
    exact ⟨rfl, hb0⟩
  · have h0I : ¬ (n0 : Int) ≤ 60 := by omega
    go_enter Try.func7, Try.ntmps7
    go_wp2_with fail
    refine (alive20 _).mono ?_
    rintro e0 w0 ⟨rfl, hb0⟩
    go_wp2
    go_ret
    exact ⟨rfl, hb0⟩
theorem keysFlow_walk (A0 : Option Addr) (n0 c0 : Nat) (ss : List ByteArray) (A1 : Option Addr) (n1 c1 : Nat) (zs : List Int) (w : World) (h0 : Obj.ArgStr w A0 n0 ss)
    (h1 : (A1 = none ∧ n1 = 0 ∧ c1 = 0 ∧ zs = []) ∨ ∃ x, A1 = some x ∧ n1 ≤ c1 ∧ c1 ≤ maxLen ∧ zs.length = c1 ∧ (∀ i, i < zs.length → w.cell? (x.add i) = some (.int .i64 (zs.getD i 0))) ∧ ∀ n ∈ zs, (Lit.int .i64 n).wf = true) (hs : n1 * 8 ≤ 140737488351232) :
    Calls Try.prog 7 #[.slice A0 n0 c0, .slice A1 n1 c1] w fun r w' => r = .returned (.bool true) ∧ Below w.heap.size w w' := by
  by_cases hl : n0 ≤ 60 ∧ n1 ≤ 200
  · exact flow_live A0 A1 n0 c0 n1 c1 ss zs w h0 h1 hl.1 hl.2
  · exact flow_over A0 A1 n0 c0 n1 c1 w hl
end Go.Proofs.Ytjjjinpmflghmaa.Keys
