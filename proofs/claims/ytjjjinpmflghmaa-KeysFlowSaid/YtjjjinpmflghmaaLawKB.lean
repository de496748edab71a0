/- The walk of KeysBounds. Conditions: those in each theorem. -/
import Derived.Test.YtjjjinpmflghmaaKeyAl
import Derived.OpenShut
namespace Go.Proofs.Ytjjjinpmflghmaa.Keys
open Go.RowKit Go.Proofs.Ytjjjinpmflghmaa.Mem Go.Proofs.YtjjjinpmflghmaaW.PrintWords Go.Proofs.YtjjjinpmflghmaaW.PrintMore Go.Proofs.YtjjjinpmflghmaaW.PrintLast Go.Proofs.Ytjjjinpmflghmaa.PKeysBounds
set_option linter.unusedVariables false
set_option linter.unusedSimpArgs false
theorem min2_i (k k' : IntKind) (x y : Int) : Builtin.min2 (.int k x) (.int k' y) = pure (.int k (min x y)) := by
  rw [min2_int]; congr 2; split <;> omega
attribute [local go_sem] min2_i min_two
def eK : E4 := ⟨1, ⟨#[107]⟩, 0, 0⟩
theorem okK : okE eK = true := by decide +kernel
theorem addE_rep : ∀ (n m : Nat), addE m (List.replicate n eK) = List.replicate (min n (40 - m)) eK
  | 0, m => by simp [addE]
  | n + 1, m => by
    rw [List.replicate_succ, addE]
    by_cases h : m < 40
    · rw [if_pos ⟨okK, h⟩, addE_rep n (m + 1), ← List.replicate_succ]
      congr 1
      omega
    · rw [if_neg (by omega), show min (n + 1) (40 - m) = 0 by omega]
      rfl
theorem takeE_on : ∀ (n m : Nat) (d : Int), 0 ≤ d → takeE 1 d m d (List.replicate n eK) = List.replicate (min n (40 - m)) eK
  | 0, m, d, _ => by simp [takeE]
  | n + 1, m, d, hd => by
    rw [List.replicate_succ, takeE, if_neg (by omega), if_neg (by omega)]
    by_cases h : m < 40
    · rw [if_pos ⟨okK, h⟩, takeE_on n (m + 1) (d + 1) (by omega), ← List.replicate_succ]
      congr 1
      omega
    · rw [if_neg (by omega), show min (n + 1) (40 - m) = 0 by omega]
      rfl
theorem takeE_rep : ∀ (n m j : Nat) (k d : Int), 0 ≤ k → d = k + j → takeE 1 k m d (List.replicate n eK) = List.replicate (min (n - j) (40 - m)) eK
  | n, m, 0, k, d, hk, hd => by
    obtain rfl : d = k := by omega
    exact takeE_on n m d hk
  | 0, m, j + 1, k, d, _, _ => by simp [takeE]
  | n + 1, m, j + 1, k, d, hk, hd => by
    rw [List.replicate_succ, takeE, if_neg (by omega), if_pos (by omega), takeE_rep n m j (k + 1) d (by omega) (by omega)]
    congr 2
    omega
set_option maxHeartbeats 1000000 in
theorem add_nil (g : Nat) (c : Nat) (w : World) : Calls Try.prog 11 #[.pointer (some ⟨g, 0, none⟩), .slice none 0 c] w fun r w' => r = .returned (.int .i64 0) ∧ w = w' := by
  have hn := eql_pout ⟨g, 0, none⟩
  go_enter Try.func11, Try.ntmps11
  go_wp2
  refine wp_loop_rounds 1 ?_
  rw [rounds_succ]
  go_wp2
  go_ret
  exact ⟨rfl, rfl⟩
set_option maxHeartbeats 1000000 in
theorem take_nil (g : Nat) (v : Value) (l : List E4) (a b first : Int) (c : Nat) (w : World) (h : IsQ w g 36 v l a b) : Calls Try.prog 12 #[.pointer (some ⟨g, 0, none⟩), .int .i64 first, .slice none 0 c] w fun r w' => r = .returned (.int .i64 b) ∧ w = w' := by
  have hn := eql_pin ⟨g, 0, none⟩
  have HC := Aside0.mk ((h.blk.cell 2).trans (show _ = some (Value.int .i64 b) from rfl))
  clear h
  go_enter Try.func12, Try.ntmps12
  go_wp2
  refine wp_loop_rounds 1 ?_
  rw [rounds_succ]
  go_wp2_with fail
  refine (now_calls g 2 b w HC.out).mono ?_
  rintro e1 w1 ⟨rfl, rfl⟩
  go_wp2
  go_ret
  exact ⟨rfl, rfl⟩
theorem QQ.addV {w0 w : World} {go gi : Nat} {vo vi v8 : Value} {lo li es : List E4} {ao bo ai bi : Int} (h : QQ w0 go gi vo lo ao bo vi li ai bi w) (hr : w0.ownsRow 0 38 4 v8 es.length (fe es)) (hgo : some go ≠ v8.ownBlock) (hgi : some gi ≠ v8.ownBlock)
    (ha : 0 ≤ ao) (ha2 : ao ≤ 1000000000000) (hl : lo.length ≤ 40) (hnl : es.length ≤ 100000) :
    Calls Try.prog 11 #[.pointer (some ⟨go, 0, none⟩), v8] w fun r w' => r = .returned (.int .i64 ((addE lo.length es).length : Int)) ∧ ∃ vo', QQ w0 go gi vo' (lo ++ addE lo.length es) (ao + (addE lo.length es).length) bo vi li ai bi w' := by
  have hlt := own_lt hr
  rcases own_form hr with ⟨rfl, h2⟩ | ⟨gb, c, rfl, _, h3⟩
  · obtain rfl : es = [] := List.length_eq_zero_iff.1 h2
    refine (add_nil go 0 w).mono ?_
    rintro e1 w1 ⟨rfl, rfl⟩
    exact ⟨rfl, vo, by simpa [addE] using h⟩
  · have hb := hlt gb rfl
    refine (h.add es gb c es.length rfl (fun j u hj => h.k.cell (h3 j u hj) (by
      intro hm
      rcases List.mem_cons.1 hm with h5 | h5
      · exact hgo (by rw [← h5]; rfl)
      · exact hgi (by rw [← List.mem_singleton.1 h5]; rfl))) (fun e => hgo (by rw [← e]; rfl)) (fun e => by have := h.po _ e.symm; omega) ha ha2 hl hnl).mono ?_
    rintro e1 w1 ⟨rfl, A', c', hq, _⟩
    exact ⟨rfl, _, hq⟩
theorem QQ.takeV {w0 w : World} {go gi : Nat} {vo vi v8 : Value} {lo li es : List E4} {ao bo ai bi first : Int} (h : QQ w0 go gi vo lo ao bo vi li ai bi w) (hr : w0.ownsRow 0 38 4 v8 es.length (fe es)) (hgo : some go ≠ v8.ownBlock) (hgi : some gi ≠ v8.ownBlock)
    (ha : 0 ≤ bi) (ha2 : bi ≤ 1000000000000) (hl : li.length ≤ 40) (hnl : es.length ≤ 100000) (hf1 : -1000000000000 ≤ first) (hf2 : first ≤ 1000000000000) :
    Calls Try.prog 12 #[.pointer (some ⟨gi, 0, none⟩), .int .i64 first, v8] w fun r w' => r = .returned (.int .i64 (bi + ((takeE first 0 li.length bi es).length : Int))) ∧ ∃ vi', QQ w0 go gi vo lo ao bo vi' (li ++ takeE first 0 li.length bi es) ai (bi + ((takeE first 0 li.length bi es).length : Int)) w' := by
  have hlt := own_lt hr
  rcases own_form hr with ⟨rfl, h2⟩ | ⟨gb, c, rfl, _, h3⟩
  · obtain rfl : es = [] := List.length_eq_zero_iff.1 h2
    refine (take_nil gi vi li ai bi first 0 w h.i).mono ?_
    rintro e1 w1 ⟨rfl, rfl⟩
    exact ⟨by simp [takeE], vi, by simpa [takeE] using h⟩
  · have hb := hlt gb rfl
    refine (h.take es first gb c es.length rfl (fun j u hj => h.k.cell (h3 j u hj) (by
      intro hm
      rcases List.mem_cons.1 hm with h5 | h5
      · exact hgo (by rw [← h5]; rfl)
      · exact hgi (by rw [← List.mem_singleton.1 h5]; rfl))) (fun e => hgi (by rw [← e]; rfl)) (fun e => by have := h.pi _ e.symm; omega) ha ha2 hl hnl hf1 hf2).mono ?_
    rintro e1 w1 ⟨rfl, A', c', hq, _⟩
    exact ⟨rfl, _, hq⟩
theorem row_rep {w : World} {B n : Nat} {v : Value} (h : w.ownsRow B 38 4 v n (fe (List.replicate n eK))) : w.ownsRow 0 38 4 v (List.replicate n eK).length (fe (List.replicate n eK)) := by
  rw [List.length_replicate]
  exact row_new h
set_option maxHeartbeats 1000000 in
theorem ack_none (g : Nat) (v : Value) (l : List E4) (a b : Int) (w : World) (h : IsQ w g 33 v l a b) :
    Calls Try.prog 15 #[.pointer (some ⟨g, 0, none⟩), .int .i64 b] w fun r w' => r = .returned (.int .i64 0) ∧ w = w' := by
  have HQ := Aside0.mk h
  have hw : IntKind.i64.wrap 0 = 0 := by decide
  clear h
  go_enter Try.func15, Try.ntmps15
  go_wp2_with fail
  refine (acked_calls g _ l a b w HQ.out).mono ?_
  rintro e1 w1 ⟨rfl, rfl⟩
  go_wp2_with fail
  refine (acked_calls g _ l a b w HQ.out).mono ?_
  rintro e1 w1 ⟨rfl, rfl⟩
  go_wp2
  go_ret
  exact ⟨rfl, rfl⟩
theorem ackE {w0 w : World} {go gi G E : Nat} {vo vi : Value} {li : List E4} {ai bi : Int} (h : QQ w0 go gi vo (List.replicate G eK) (G : Int) 0 vi li ai bi w) (hE : E ≤ G) (hG : G ≤ 40) :
    Calls Try.prog 15 #[.pointer (some ⟨go, 0, none⟩), .int .i64 (E : Int)] w fun r w' => r = .returned (.int .i64 (E : Int)) ∧ ∃ vo', QQ w0 go gi vo' (List.replicate (G - E) eK) (G : Int) (E : Int) vi li ai bi w' := by
  by_cases h0 : E = 0
  · subst h0
    refine (ack_none go vo _ _ _ w h.o).mono ?_
    rintro e1 w1 ⟨rfl, rfl⟩
    exact ⟨rfl, vo, h⟩
  · refine (ack_calls go vo _ _ _ (E : Int) w h.o (by simp) (by decide) (by omega) (by simp; omega) (by omega) (by omega)).mono ?_
    rintro e1 w1 ⟨rfl, v', hq, ht⟩
    have h1 := h.setO hq ht
    rw [show ((E : Int) - 0).toNat = E by omega, List.drop_replicate] at h1
    exact ⟨by rw [Int.sub_zero], v', h1⟩
set_option maxHeartbeats 8000000 in
set_option maxRecDepth 100000 in
theorem bounds_live (N D : Nat) (hN : N ≤ 150) (hD : D ≤ 150) (w : World) :
    Calls Try.prog 3 #[.int .i64 (N : Int), .int .i64 (D : Int)] w fun r w' => r = .returned (.bool true) ∧ Below w.heap.size w w' := by
  have hN0 : (0 : Int) ≤ (N : Int) := by omega
  have hD0 : (0 : Int) ≤ (D : Int) := by omega
  have hN1 : (N : Int) ≤ 150 := by omega
  have hD1 : (D : Int) ≤ 150 := by omega
  go_enter Try.func3, Try.ntmps3
  go_wp2_with fail
  refine (alive20 _).mono ?_
  rintro e0 w0 ⟨rfl, hb0⟩
  have HB := Aside0.mk hb0
  clear hb0
  have b1 := Blk.new w0 33 #[.slice none 0 0, .int .i64 0, .int .i64 0]
  have b2 := Blk.new (w0.alloc (.cells #[.slice none 0 0, .int .i64 0, .int .i64 0] 33)) 36 #[.slice none 0 0, .int .i64 0, .int .i64 0]
  have b3 := Blk.new ((w0.alloc (.cells #[.slice none 0 0, .int .i64 0, .int .i64 0] 33)).alloc (.cells #[.slice none 0 0, .int .i64 0, .int .i64 0] 36)) 38 #[.int .i64 1, .string ⟨#[107]⟩, .int .i64 0, .int .i64 0]
  simp only [World.size_alloc] at b2 b3
  have BO := Aside0.mk ((b1.alloc (.cells #[.slice none 0 0, .int .i64 0, .int .i64 0] 36)).alloc (.cells #[.int .i64 1, .string ⟨#[107]⟩, .int .i64 0, .int .i64 0] 38))
  have BI := Aside0.mk (b2.alloc (.cells #[.int .i64 1, .string ⟨#[107]⟩, .int .i64 0, .int .i64 0] 38))
  have BE := Aside0.mk b3
  have HB1 := Aside0.mk (below_alloc (below_alloc (below_alloc HB.out (.cells #[.slice none 0 0, .int .i64 0, .int .i64 0] 33)) (.cells #[.slice none 0 0, .int .i64 0, .int .i64 0] 36)) (.cells #[.int .i64 1, .string ⟨#[107]⟩, .int .i64 0, .int .i64 0] 38))
  have hsz : w0.heap.size < ((w0.alloc (.cells #[.slice none 0 0, .int .i64 0, .int .i64 0] 33)).alloc (.cells #[.slice none 0 0, .int .i64 0, .int .i64 0] 36)).heap.size := by simp; omega
  have hsw := HB.out.size
  clear b1 b2 b3
  go_wp2_with fail
  generalize ((w0.alloc (.cells #[.slice none 0 0, .int .i64 0, .int .i64 0] 33)).alloc (.cells #[.slice none 0 0, .int .i64 0, .int .i64 0] 36)).alloc (.cells #[.int .i64 1, .string ⟨#[107]⟩, .int .i64 0, .int .i64 0] 38) = WB at BO BI BE HB1 ⊢
  obtain ⟨go, hgo⟩ : ∃ go, go = w0.heap.size := ⟨_, rfl⟩
  rw [← hgo] at BO BI BE hsw ⊢
  clear hgo hsz HB
  go_loopg [8, 9] N (fun kq v8 v9 wr => ∃ (j : Nat), v9 = .int .i64 (j : Int) ∧ Aside0 (j ≤ N ∧ kq = N - j) ∧ Aside0 (wr.ownsRow WB.heap.size 38 4 v8 j (fe (List.replicate j eK))) ∧ Aside0 (Below WB.heap.size WB wr))
  case atStart => exact ⟨0, rfl, ⟨Nat.zero_le _, rfl⟩, ⟨own_nil _ _ _ _⟩, ⟨Below.refl _ _⟩⟩
  case round =>
    obtain ⟨j, rfl, ⟨hj, hkq⟩, HR, HBr⟩ := hrel
    have HQ := Aside0.mk hkq
    clear hkq
    by_cases hlt : j < N
    · have hjI : (j : Int) < (N : Int) := by omega
      have BE' := Aside0.mk (BE.out.below HBr.out BE.out.lt)
      have x0 : wr.cell? ⟨go + 1 + 1, 0, none⟩ = some (.int .i64 1) := (BE'.out.cell 0).trans rfl
      have x1 : wr.cell? ⟨go + 1 + 1, 1, none⟩ = some (.string ⟨#[107]⟩) := (BE'.out.cell 1).trans rfl
      have x2 : wr.cell? ⟨go + 1 + 1, 2, none⟩ = some (.int .i64 0) := (BE'.out.cell 2).trans rfl
      have x3 : wr.cell? ⟨go + 1 + 1, 3, none⟩ = some (.int .i64 0) := (BE'.out.cell 3).trans rfl
      go_wp2_with (first | (at_builtin; refine Aside0.out ?_))
      refine ⟨?_⟩
      refine print_append_cells (w0 := WB) (W := wr) WB.heap.size rfl (.tmp 44) (.tmp 46) 24 38 _ 4 40 rfl Try.underlying24 infoEv rfl (by decide) (by decide) _ j (fe (List.replicate j eK)) [.int .i64 1, .string ⟨#[107]⟩, .int .i64 0, .int .i64 0] rfl rfl rfl (fe_one [eK]) HR.out HBr.out HBr.out.size (by omega) ?_
      intro v1 w1 ho1 hB1 hg1 hb1
      have HO1 := Aside0.mk ho1
      clear ho1 hg1 hb1 x0 x1 x2 x3
      go_wp2
      go_roundg (N - (j + 1))
      case measure => have := HQ.out; omega
      case rel => exact ⟨j + 1, by go_num, ⟨by omega, rfl⟩, ⟨by rw [List.replicate_succ', fe_app]; exact HO1.out⟩, ⟨hB1⟩⟩
    · obtain rfl : N = j := by omega
      have HR2 := Aside0.mk (row_rep HR.out)
      have HQ0 := Aside0.mk (QQ.new (BO.out.below HBr.out BO.out.lt) (BI.out.below HBr.out BI.out.lt))
      have HGO := Aside0.mk (own_ne HR.out (BO.out.below HBr.out BO.out.lt) (by decide))
      have HGI := Aside0.mk (own_ne HR.out (BI.out.below HBr.out BI.out.lt) (by decide))
      have HBW := Aside0.mk (show Below w.heap.size w wr from HB1.out.trans (HBr.out.mono HB1.out.size))
      obtain ⟨G, hG⟩ : ∃ G, G = min N 40 := ⟨_, rfl⟩
      have hGI : min (N : Int) 40 = (G : Int) := by omega
      have hG40 : G ≤ 40 := by omega
      have HGE := Aside0.mk hG
      clear hG HR BE BO BI HB1 HBr
      go_wp2_with fail
      refine (HQ0.out.addV HR2.out HGO.out HGI.out (by decide) (by decide) (by simp) (by simp; omega)).mono ?_
      rw [show addE ([] : List E4).length (List.replicate N eK) = List.replicate G eK by rw [addE_rep, HGE.out]; rfl]
      simp only [List.length_replicate, List.nil_append, Int.zero_add]
      rintro e1 w1 ⟨rfl, vo1, hq1⟩
      have H1 := Aside0.mk hq1
      clear hq1
      go_wp2_with fail
      refine (H1.out.takeV HR2.out HGO.out HGI.out (by decide) (by decide) (by simp) (by simp; omega) (by decide) (by decide)).mono ?_
      rw [show takeE 1 0 ([] : List E4).length 0 (List.replicate N eK) = List.replicate G eK by rw [takeE_on _ _ _ (by decide), HGE.out]; rfl]
      simp only [List.length_replicate, List.nil_append, Int.zero_add]
      rintro e2 w2 ⟨rfl, vi2, hq2⟩
      have H2 := Aside0.mk hq2
      clear hq2
      go_wp2_with fail
      refine (len_calls _ _ _ _ _ _ H2.out.i).mono ?_
      rw [List.length_replicate]
      rintro e3 w3 ⟨rfl, rfl⟩
      clear H1
      go_wp2_with fail
      go_loopg [10, 11] D (fun kq v10 v11 wx => ∃ (k : Nat) (vi : Value), v10 = .int .i64 ((min k G : Nat) : Int) ∧ v11 = .int .i64 (k : Int) ∧ Aside0 (k ≤ D ∧ kq = D - k) ∧ Aside0 (QQ _ go (go + 1) vo1 (List.replicate G eK) (G : Int) 0 vi (List.replicate (G - k) eK) ((min k G : Nat) : Int) (G : Int) wx))
      case atStart => exact ⟨0, vi2, by simp, rfl, ⟨Nat.zero_le _, rfl⟩, ⟨by simpa using H2.out⟩⟩
      case round =>
        obtain ⟨k, vi, rfl, rfl, ⟨hk, hkq⟩, HX⟩ := hrel
        have HQ3 := Aside0.mk hkq
        clear hkq H2
        have hk0 : (0 : Int) ≤ (k : Int) := Int.natCast_nonneg _
        by_cases hkD : k < D
        · have hkDI : (k : Int) < (D : Int) := by omega
          by_cases hkG : k < G
          · rw [show min k G = k by omega] at HX ⊢
            rw [show G - k = (G - (k + 1)) + 1 by omega, List.replicate_succ] at HX
            go_wp2_with fail
            refine (next_some (go + 1) vi eK _ _ _ _ HX.out.i (by omega) (by omega) (by simp; omega)).mono ?_
            rintro e4 w4 ⟨rfl, vi', hq4, ht4⟩
            have H4 := Aside0.mk ((HX.out.setI hq4 ht4).below (below_alloc (Below.refl _ _) (.cells #[.int .i64 1, .string ⟨#[107]⟩, .int .i64 0, .int .i64 0] 38)))
            clear hq4 ht4
            simp only [E4.val, eK]
            go_wp2
            go_roundg (D - (k + 1))
            case measure => have := HQ3.out; omega
            case rel => exact ⟨k + 1, vi', by rw [show min (k + 1) G = k + 1 by omega]; go_num, by go_num, ⟨by omega, rfl⟩, ⟨by rw [show min (k + 1) G = k + 1 by omega]; exact H4.out⟩⟩
          · rw [show min k G = G by omega] at HX ⊢
            rw [show G - k = 0 by omega] at HX
            go_wp2_with fail
            refine (next_none (go + 1) vi _ _ _ HX.out.i).mono ?_
            rintro e4 w4 ⟨rfl, hb4⟩
            have H4 := Aside0.mk ((HX.out.below hb4).below (below_alloc (Below.refl _ _) (.cells #[.int .i64 0, .string ⟨#[]⟩, .int .i64 0, .int .i64 0] 38)))
            clear hb4
            go_wp2
            go_roundg (D - (k + 1))
            case measure => have := HQ3.out; omega
            case rel => exact ⟨k + 1, vi, by rw [show min (k + 1) G = G by omega], by go_num, ⟨by omega, rfl⟩, ⟨by rw [show min (k + 1) G = G by omega, show G - (k + 1) = 0 by omega]; exact H4.out⟩⟩
        · obtain rfl : D = k := by omega
          obtain ⟨E, hE⟩ : ∃ E, E = min D G := ⟨_, rfl⟩
          have hEI : min (D : Int) (G : Int) = (E : Int) := by omega
          have hEG : E ≤ G := by omega
          have hLL : List.replicate (G - D) eK = List.replicate (G - E) eK := by congr 1; omega
          rw [← hE, hLL] at HX
          rw [← hE]
          clear hE hLL
          go_wp2_with fail
          refine (ackE HX.out hEG hG40).mono ?_
          rintro e5 w5 ⟨rfl, vo5, hq5⟩
          have H5 := Aside0.mk hq5
          clear hq5
          go_wp2_with fail
          refine (H5.out.takeV HR2.out HGO.out HGI.out (by omega) (by omega) (by simp; omega) (by simp; omega) (by decide) (by decide)).mono ?_
          rw [show takeE 1 0 (List.replicate (G - E) eK).length (G : Int) (List.replicate N eK) = List.replicate (min (N - G) (40 - (G - E))) eK by rw [List.length_replicate]; exact takeE_rep N (G - E) G 0 G (by decide) (by omega)]
          simp only [List.length_replicate]
          rw [show (G : Int) + ((min (N - G) (40 - (G - E)) : Nat) : Int) = min (N : Int) ((G : Int) + (E : Int)) by have := HGE.out; omega]
          rintro e6 w6 ⟨rfl, vi6, hq6⟩
          have H6 := Aside0.mk hq6
          clear hq6
          go_wp2_with fail
          refine (H6.out.addV HR2.out HGO.out HGI.out (by omega) (by omega) (by simp; omega) (by simp; omega)).mono ?_
          rw [addE_rep]
          simp only [List.length_replicate]
          rw [show ((min N (40 - (G - E)) : Nat) : Int) = min (N : Int) (40 - (G : Int) + (E : Int)) by have := HGE.out; omega]
          rintro e7 w7 ⟨rfl, vo7, hq7⟩
          have HF := Aside0.mk (hq7.k.belowOf HBW.out HBW.out.size (by simp; omega))
          clear hq7
          go_wp2
          go_ret
          exact ⟨rfl, HF.out⟩
theorem over_a (n d : Int) (h1 : n < 0) (w : World) :
    Calls Try.prog 3 #[.int .i64 n, .int .i64 d] w fun r w' => r = .returned (.bool true) ∧ Below w.heap.size w w' := by
  go_enter Try.func3, Try.ntmps3
  go_wp2_with fail
  refine (alive20 _).mono ?_
  rintro e0 w0 ⟨rfl, hb0⟩
  go_wp2
  go_ret
  exact ⟨rfl, hb0⟩
theorem over_b (n d : Int) (h0 : 0 ≤ n) (h1 : 150 < n) (w : World) :
    Calls Try.prog 3 #[.int .i64 n, .int .i64 d] w fun r w' => r = .returned (.bool true) ∧ Below w.heap.size w w' := by
  go_enter Try.func3, Try.ntmps3
  go_wp2_with fail
  refine (alive20 _).mono ?_
  rintro e0 w0 ⟨rfl, hb0⟩
  go_wp2
  go_ret
  exact ⟨rfl, hb0⟩
theorem over_c (n d : Int) (h0 : 0 ≤ n) (h1 : n ≤ 150) (h2 : d < 0) (w : World) :
    Calls Try.prog 3 #[.int .i64 n, .int .i64 d] w fun r w' => r = .returned (.bool true) ∧ Below w.heap.size w w' := by
  go_enter Try.func3, Try.ntmps3
  go_wp2_with fail
  refine (alive20 _).mono ?_
  rintro e0 w0 ⟨rfl, hb0⟩
  go_wp2
  go_ret
  exact ⟨rfl, hb0⟩
theorem over_d (n d : Int) (h0 : 0 ≤ n) (h1 : n ≤ 150) (h2 : 0 ≤ d) (h3 : 150 < d) (w : World) :
    Calls Try.prog 3 #[.int .i64 n, .int .i64 d] w fun r w' => r = .returned (.bool true) ∧ Below w.heap.size w w' := by
  go_enter Try.func3, Try.ntmps3
  go_wp2_with fail
  refine (alive20 _).mono ?_
  rintro e0 w0 ⟨rfl, hb0⟩
  go_wp2
  go_ret
  exact ⟨rfl, hb0⟩
theorem bounds_row (n d : Int) (w : World) (_h0 : (Lit.int .i64 n).wf = true) (_h1 : (Lit.int .i64 d).wf = true) :
    Calls Try.prog 3 #[.int .i64 n, .int .i64 d] w fun r w' => r = .returned (.bool true) ∧ Below w.heap.size w w' := by
  by_cases h1 : n < 0
  · exact over_a n d h1 w
  · by_cases h2 : 150 < n
    · exact over_b n d (by omega) h2 w
    · by_cases h3 : d < 0
      · exact over_c n d (by omega) (by omega) h3 w
      · by_cases h4 : 150 < d
        · exact over_d n d (by omega) (by omega) (by omega) h4 w
        · have h := bounds_live n.toNat d.toNat (by omega) (by omega) w
          rw [show ((n.toNat : Nat) : Int) = n by omega, show ((d.toNat : Nat) : Int) = d by omega] at h
          exact h
end Go.Proofs.Ytjjjinpmflghmaa.Keys
