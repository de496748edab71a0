/- The walk of KeysPlay. Conditions: those in each theorem. -/
import Derived.Test.YtjjjinpmflghmaaKeyOp
import Derived.OpenShut
namespace Go.Proofs.Ytjjjinpmflghmaa.Keys
open Go.RowKit Go.Proofs.Ytjjjinpmflghmaa.Mem Go.Proofs.Ytjjjinpmflghmaa.Row Go.Proofs.Ytjjjinpmflghmaa.Obj Go.Proofs.Ytjjjinpmflghmaa.Opens Go.Proofs.YtjjjinpmflghmaaW.PrintWords Go.Proofs.YtjjjinpmflghmaaW.PrintMore Go.Proofs.YtjjjinpmflghmaaW.PrintLast Go.Proofs.Ytjjjinpmflghmaa.PKeysPlay
open Go.Proofs.Ytjjjinpmflghmaa.BookEv (BK LS foot mem_foot Own Src Lent)
set_option linter.unusedVariables false
set_option linter.unusedSimpArgs false
attribute [local go_sem high] eqA38
/-- What holds behind i acts. -/
structure SI (i : Nat) (S : KS) : Prop where
  lr : S.lr = S.lo
  br : S.br = S.bo
  lq : S.lq = S.li
  aq : S.aq = S.ai
  o40 : S.lo.length ≤ 40
  i40 : S.li.length ≤ 40
  b0 : 0 ≤ S.bo
  a0 : 0 ≤ S.ai
  b1 : S.bo + S.lo.length ≤ 40 * (i : Int)
  a1 : S.ai + S.li.length ≤ 40 * (i : Int)
  k : S.L.length ≤ i
def S0 (w : World) : KS := ⟨.slice none 0 0, [], 0, .slice none 0 0, [], 0, none, 0, [], 0, none, 0, [], 0, .slice none 0 0, .slice none 0 0, [], [], [], w⟩
theorem KP.init (w w0 : World) (hb : Below w.heap.size w w0) : KP w w0.heap.size (w0.heap.size + 1) (w0.heap.size + 1 + 1) (w0.heap.size + 1 + 1 + 1) (w0.heap.size + 1 + 1 + 1 + 1) (S0 w)
    (((((w0.alloc (.cells #[.slice none 0 0, .int .i64 0, .int .i64 0] 33)).alloc (.cells #[.slice none 0 0, .int .i64 0, .int .i64 0] 36)).alloc (.cells #[.slice none 0 0, .int .i64 0] 66)).alloc (.cells #[.slice none 0 0, .int .i64 0] 69)).alloc (.cells (BookEv.bookCells (.slice none 0 0) (.slice none 0 0)) 80)) := by
  have b1 := Blk.new w0 33 #[.slice none 0 0, .int .i64 0, .int .i64 0]
  have b2 := Blk.new (w0.alloc (.cells #[.slice none 0 0, .int .i64 0, .int .i64 0] 33)) 36 #[.slice none 0 0, .int .i64 0, .int .i64 0]
  have b3 := Blk.new ((w0.alloc (.cells #[.slice none 0 0, .int .i64 0, .int .i64 0] 33)).alloc (.cells #[.slice none 0 0, .int .i64 0, .int .i64 0] 36)) 66 #[.slice none 0 0, .int .i64 0]
  have b4 := Blk.new (((w0.alloc (.cells #[.slice none 0 0, .int .i64 0, .int .i64 0] 33)).alloc (.cells #[.slice none 0 0, .int .i64 0, .int .i64 0] 36)).alloc (.cells #[.slice none 0 0, .int .i64 0] 66)) 69 #[.slice none 0 0, .int .i64 0]
  have b5 := Blk.new ((((w0.alloc (.cells #[.slice none 0 0, .int .i64 0, .int .i64 0] 33)).alloc (.cells #[.slice none 0 0, .int .i64 0, .int .i64 0] 36)).alloc (.cells #[.slice none 0 0, .int .i64 0] 66)).alloc (.cells #[.slice none 0 0, .int .i64 0] 69)) 80 (BookEv.bookCells (.slice none 0 0) (.slice none 0 0))
  simp only [World.size_alloc] at b2 b3 b4 b5
  have hs := hb.size
  refine ⟨⟨(((b1.alloc _).alloc _).alloc _).alloc _, own_nil _ _ _ _⟩, ⟨((b2.alloc _).alloc _).alloc _, own_nil _ _ _ _⟩, ⟨(b3.alloc _).alloc _, ⟨rfl, .inl rfl⟩, Nat.le_refl _, fun x hx => by cases hx⟩, ⟨b4.alloc _, ⟨rfl, .inl rfl⟩, Nat.le_refl _, fun x hx => by cases hx⟩, BK.new b5, ?_, below_alloc (below_alloc (below_alloc (below_alloc (below_alloc hb _) _) _) _) _, rfl, fun b hb => by cases hb⟩
  have key : ∀ (i : Nat) (f : List Nat), [w0.heap.size :: ([] : List Nat), (w0.heap.size + 1) :: [], (w0.heap.size + 1 + 1) :: [], (w0.heap.size + 1 + 1 + 1) :: [], [w0.heap.size + 1 + 1 + 1 + 1], []][i]? = some f → ∀ b ∈ f, b = w0.heap.size + i ∧ i < 5 := by
    intro i f hf b hb
    match i, hf with
    | 0, hf => simp at hf; subst hf; simp at hb; omega
    | 1, hf => simp at hf; subst hf; simp at hb; omega
    | 2, hf => simp at hf; subst hf; simp at hb; omega
    | 3, hf => simp at hf; subst hf; simp at hb; omega
    | 4, hf => simp at hf; subst hf; simp at hb; omega
    | 5, hf => simp at hf; subst hf; simp at hb
    | n + 6, hf => simp at hf
  exact ⟨fun f hf b hb => by
    obtain ⟨i, hi⟩ := List.getElem?_of_mem hf
    have := key i f hi b hb
    simp only [World.size_alloc]
    omega, fun i j f f' hf hf' hij b hb hb2 => by
    have h1 := key i f hf b hb
    have h2 := key j f' hf' b hb2
    omega⟩
set_option maxHeartbeats 16000000 in
set_option maxRecDepth 100000 in
theorem kplays_live (A0 : Option Addr) (c0 : Nat) (l : List S82) (w : World) (hC : Kd.C k82 w A0 l.length l) (hc0 : l.length ≤ c0) (hw : ∀ x ∈ l, WfOp x) (k1 : Nat) (hL : pontoonlaw20_Light.f k1 l = some true) (h60 : l.length ≤ 60) (h400 : ∀ x ∈ l, x.f2.length ≤ 400) :
    Calls Try.prog 6 #[.slice A0 l.length c0] w fun r w' => r = .returned (.bool true) ∧ Below w.heap.size w w' := by
  have HC := Aside0.mk hC
  have HC0 := Aside0.mk hc0
  have HWF := Aside0.mk hw
  have HL := Aside0.mk hL
  have H400 := Aside0.mk h400
  obtain ⟨N, hN⟩ : ∃ N, N = l.length := ⟨_, rfl⟩
  have HN := Aside0.mk hN
  have h60N : N ≤ 60 := by omega
  clear hC hc0 hw hL h400
  go_enter Try.func6, Try.ntmps6
  go_wp2_with fail
  refine (pontoonlaw20_Light.calls k1 A0 c0 l true w HC.out HC0.out HL.out).mono ?_
  rintro e0 w0 ⟨rfl, hb0⟩
  have HB0 := Aside0.mk hb0
  clear hb0 h60
  rw [← hN]
  clear hN
  go_wp2_with fail
  refine (alive20 _).mono ?_
  rintro e1 w1 ⟨rfl, hb1⟩
  have HB1 := Aside0.mk (below_step HB0.out hb1)
  clear hb1 HB0
  have HP0 := Aside0.mk (KP.init w w1 HB1.out)
  go_upto_block 0 with (fail)
  go_wp2_with fail
  obtain ⟨WB, hWB⟩ : ∃ WB, WB = ((((w1.alloc (.cells #[.slice none 0 0, .int .i64 0, .int .i64 0] 33)).alloc (.cells #[.slice none 0 0, .int .i64 0, .int .i64 0] 36)).alloc (.cells #[.slice none 0 0, .int .i64 0] 66)).alloc (.cells #[.slice none 0 0, .int .i64 0] 69)).alloc (.cells (BookEv.bookCells (.slice none 0 0) (.slice none 0 0)) 80) := ⟨_, rfl⟩
  rw [← hWB] at HP0
  change _ ; simp only [show ((((w1.alloc (.cells #[.slice none 0 0, .int .i64 0, .int .i64 0] 33)).alloc (.cells #[.slice none 0 0, .int .i64 0, .int .i64 0] 36)).alloc (.cells #[.slice none 0 0, .int .i64 0] 66)).alloc (.cells #[.slice none 0 0, .int .i64 0] 69)).alloc (.cells #[.slice none 0 0, .slice none 0 0, .slice none 0 0, .slice none 0 0, .slice none 0 0, .slice none 0 0, .slice none 0 0, .slice none 0 0, .slice none 0 0, .slice none 0 0, .slice none 0 0, .slice none 0 0, .slice none 0 0, .slice none 0 0, .slice none 0 0, .slice none 0 0] 80) = WB from hWB.symm]
  clear hWB HB1
  obtain ⟨go, hgo⟩ : ∃ g, g = w1.heap.size := ⟨_, rfl⟩
  rw [← hgo] at HP0 ⊢
  clear hgo
  obtain ⟨gi, hgi⟩ : ∃ g, g = go + 1 := ⟨_, rfl⟩
  rw [← hgi] at HP0 ⊢
  clear hgi
  obtain ⟨gr, hgr⟩ : ∃ g, g = gi + 1 := ⟨_, rfl⟩
  rw [← hgr] at HP0 ⊢
  clear hgr
  obtain ⟨gq, hgq⟩ : ∃ g, g = gr + 1 := ⟨_, rfl⟩
  rw [← hgq] at HP0 ⊢
  clear hgq
  obtain ⟨gb, hgb⟩ : ∃ g, g = gq + 1 := ⟨_, rfl⟩
  rw [← hgb] at HP0 ⊢
  clear hgb
  go_loopg [8] N (fun kq v8 wr => ∃ (i : Nat) (S : KS), v8 = .int .i64 (i : Int) ∧ Aside0 (i ≤ N ∧ kq = N - i) ∧ Aside0 (SI i S) ∧ Aside0 (KP w go gi gr gq gb S wr))
  case atStart => exact ⟨0, S0 w, rfl, ⟨Nat.zero_le _, rfl⟩, ⟨⟨rfl, rfl, rfl, rfl, by simp [S0], by simp [S0], by simp [S0], by simp [S0], by simp [S0], by simp [S0], by simp [S0]⟩⟩, HP0⟩
  case round =>
    obtain ⟨i, S, rfl, HI, HS, HK⟩ := hrel
    clear HP0
    have hi0 : (0 : Int) ≤ (i : Int) := Int.natCast_nonneg _
    by_cases hlt : i < N
    · have hltI : (i : Int) < (N : Int) := by omega
      obtain ⟨x, hx⟩ : ∃ x, l[i]? = some x := ⟨l[i]'(by rw [← HN.out]; exact hlt), by simp⟩
      have hxm := List.mem_of_getElem? hx
      have hl4 := H400.out x hxm
      rw [← evs_len] at hl4
      have HX := Aside0.mk (HWF.out x hxm)
      obtain ⟨ad, At, ct, rfl, z0, z1, z2, hct, hT⟩ := op_at HC.out hx
      obtain ⟨es, hes⟩ : ∃ es, es = evs x.f2 := ⟨_, rfl⟩
      rw [← hes] at z2 hct hT hl4
      clear hes hx hxm
      have y0 := pw_cell_below HK.out.bel z0
      have y1 := pw_cell_below HK.out.bel z1
      have y2 := pw_cell_below HK.out.bel z2
      have HT := Aside0.mk hT
      have HCT := Aside0.mk hct
      have HL4 := Aside0.mk hl4
      clear z0 z1 z2 hT hct hl4
      have HXB := Aside0.mk (Blk.new wr 82 #[.int .i64 x.f0, .int .i64 x.f1, .slice At es.length ct])
      have HXB0 := Aside0.mk (below_alloc (Below.refl wr.heap.size wr) (.cells #[.int .i64 x.f0, .int .i64 x.f1, .slice At es.length ct] 82))
      have HTW := Aside0.mk ((HK.out.src0 HT.out).below HXB0.out)
      go_wp2_with fail
      refine (BookEv.lent_calls At es.length ct es _ HTW.out HCT.out (by have := HL4.out; omega)).mono ?_
      rintro e2 w2 ⟨gm, cm, rfl, hlent, hb2⟩
      have HLE := Aside0.mk hlent
      obtain ⟨gx, hgx⟩ : ∃ gx, gx = wr.heap.size := ⟨_, rfl⟩
      have HGM := Aside0.mk (show gx < gm ∧ gm < w2.heap.size by
        have h1 := hlent.1
        have h2 := hlent.lt
        simp only [World.size_alloc] at h1
        omega)
      have HK2 := Aside0.mk (HK.out.more (below_step HXB0.out hb2) [gx, gm] (fun b hb => by
        have h1 := HGM.out
        simp at hb
        rcases hb with rfl | rfl <;> omega))
      have HXB2 := Aside0.mk (HXB.out.below' hb2)
      rw [← hgx] at HXB2 ⊢
      clear hb2 y0 y1 y2 HXB HXB0 HTW hlent hgx
      have HS2 := Aside0.mk (show SI i { S with X := [gx, gm], W := w2 } from { HS.out with })
      obtain ⟨T, hT⟩ : ∃ T : KS, T = { S with X := [gx, gm], W := w2 } := ⟨_, rfl⟩
      have HW := Aside0.mk (show T.W = w2 ∧ gx ∈ T.X ∧ gm ∈ T.X by rw [hT]; simp)
      rw [← hT] at HK2 HS2
      clear hT HK HS
      have q0 : w2.cell? ⟨gx, 0, none⟩ = some (.int .i64 x.f0) := (HXB2.out.cell 0).trans rfl
      go_upto_block 2 with (fail)
      clear q0
      obtain ⟨K, hK⟩ : ∃ K, K = x.f0 := ⟨_, rfl⟩
      rw [← hK] at HXB2 ⊢
      clear hK
      obtain ⟨n, hn⟩ : ∃ n, n = x.f1 := ⟨_, rfl⟩
      have HNB := Aside0.mk (show -9223372036854775808 ≤ n ∧ n ≤ 9223372036854775807 by rw [hn]; exact bounds_i64 HX.out)
      rw [← hn] at HXB2
      clear hn HX
      have HXC := Aside0.mk (show T.W.cell? ⟨gx, 0, none⟩ = some (.int .i64 K) ∧ T.W.cell? ⟨gx, 1, none⟩ = some (.int .i64 n) ∧ T.W.cell? ⟨gx, 2, none⟩ = some (.slice At es.length ct) by
        rw [HW.out.1]
        exact ⟨(HXB2.out.cell 0).trans rfl, (HXB2.out.cell 1).trans rfl, (HXB2.out.cell 2).trans rfl⟩)
      have HLW := Aside0.mk (show Lent T.W _ gm cm es by rw [HW.out.1]; exact HLE.out)
      clear HXB2 HLE
      go_cut [11] from 42 to 224 (fun v11 wc => ∃ S' : KS, v11 = .bool true ∧ Aside0 (S'.W = T.W ∧ S'.X = T.X) ∧ Aside0 (SI (i + 1) S') ∧ Aside0 (KP w go gi gr gq gb S' wc))
      case first =>
        have q1 : w2.cell? ⟨gx, 1, none⟩ = some (.int .i64 n) := HK2.out.xcell HW.out.2.1 HXC.out.2.1
        have q2 : w2.cell? ⟨gx, 2, none⟩ = some (.slice At es.length ct) := HK2.out.xcell HW.out.2.1 HXC.out.2.2
        by_cases hk1 : K = 1
        · skip
          as_aux_lemma =>
            -- @blk k1
            subst hk1
            have hA := addE_len es T.lo.length HS2.out.o40
            have hb1 := HS2.out.b1
            have hiN : (i : Int) < 60 := by omega
            have hR : ∀ w3 vo3, KP w go gi gr gq gb { T with vo := vo3, lo := T.lo ++ addE T.lo.length es } w3 → Calls Try.prog 26 #[.pointer (some ⟨gr, 0, none⟩), .slice At es.length ct] w3 fun r w' => r = .returned (.int .i64 ((addE T.lo.length es).length : Int)) ∧ ∃ S', Aside0 (S'.W = T.W ∧ S'.X = T.X) ∧ Aside0 (SI (i + 1) S') ∧ Aside0 (KP w go gi gr gq gb S' w') := by
              intro w3 vo3 h3
              have h4 := h3.radd_ (h3.src0 HT.out) (fun x hx hne => by
                subst hx
                have h5 := src_ne HT.out hne
                have h6 := h3.sep.ge 2 rfl gr (by simp)
                omega) HCT.out (by dsimp only; rw [HS2.out.lr]; exact HS2.out.o40) (by have := HL4.out; omega)
              dsimp only at h4
              rw [HS2.out.lr] at h4
              refine h4.mono ?_
              rintro r w4 ⟨rfl, Ar', cr', h5⟩
              refine ⟨rfl, _, ?_, ?_, ⟨h5⟩⟩
              · exact ⟨rfl, rfl⟩
              · exact ⟨{ HS2.out with lr := rfl, o40 := by simpa using hA, b1 := by simp only [List.length_append]; push_cast; omega, a1 := by have := HS2.out.a1; push_cast; omega, k := Nat.le_succ_of_le HS2.out.k }⟩
            have HR := Aside0.mk hR
            have HKD := Aside0.mk (HK2.out.below (below_drew (Below.refl w2.heap.size w2)))
            have HAD := Aside0.mk (HKD.out.add_ HW.out.2.2 HLW.out HS2.out.b0 (by omega) HS2.out.o40 (by have := HL4.out; omega))
            clear hR hA hb1 hiN q1
            go_upto_region 19 with (fail)
            go_region_law (first
              | (refine step_call (by kernel_rfl) 11 _ (by kernel_rfl) HAD.out ?_; rintro r3 w3 ⟨rfl, vo3, hk3⟩; refine ⟨_, rfl, ?_⟩; have HK3 := Aside0.mk hk3; have p2 : w3.cell? ⟨gx, 2, none⟩ = some (.slice At es.length ct) := hk3.xcell HW.out.2.1 HXC.out.2.2; clear hk3)
              | (refine step_call (by kernel_rfl) 26 _ (by kernel_rfl) (HR.out _ _ HK3.out) ?_; rintro r4 w4 ⟨rfl, S4, HX4, HS4, HK4⟩; refine ⟨_, rfl, ?_⟩))
            all_goals
              go_wp2
              go_meet
              case rel => exact ⟨S4, rfl, HX4, HS4, HK4⟩
            -- @end
        by_cases hk2 : K = 2
        · skip
          as_aux_lemma =>
            -- @blk k2
            subst hk2
            have hb1 := HS2.out.b1
            have hgl := gone_le T.bo T.lo n
            have ho4 := HS2.out.o40
            have hR : ∀ w3 vo3, KP w go gi gr gq gb { T with vo := vo3, lo := T.lo.drop (gone T.bo T.lo n), bo := T.bo + (gone T.bo T.lo n : Nat) } w3 → Calls Try.prog 27 #[.pointer (some ⟨gr, 0, none⟩), .int .i64 n] w3 fun r w' => r = .returned (.int .i64 (gone T.bo T.lo n : Nat)) ∧ ∃ S', Aside0 (S'.W = T.W ∧ S'.X = T.X) ∧ Aside0 (SI (i + 1) S') ∧ Aside0 (KP w go gi gr gq gb S' w') := by
              intro w3 vo3 h3
              have h4 := h3.rack_ n (by dsimp only; rw [HS2.out.br]; exact HS2.out.b0) (by dsimp only; rw [HS2.out.br, HS2.out.lr]; omega) (by dsimp only; rw [HS2.out.lr]; exact HS2.out.o40)
              dsimp only at h4
              rw [HS2.out.lr, HS2.out.br] at h4
              refine h4.mono ?_
              rintro r w4 ⟨rfl, Ar', cr', h5⟩
              refine ⟨rfl, _, ?_, ?_, ⟨h5⟩⟩
              · exact ⟨rfl, rfl⟩
              · have hb0 := HS2.out.b0
                exact ⟨{ HS2.out with lr := rfl, br := rfl, o40 := by simp only [List.length_drop]; omega, b0 := by dsimp only; omega, b1 := by simp only [List.length_drop]; omega, a1 := by have := HS2.out.a1; push_cast; omega, k := Nat.le_succ_of_le HS2.out.k }⟩
            have HR := Aside0.mk hR
            have HKD := Aside0.mk (HK2.out.below (below_drew (Below.refl w2.heap.size w2)))
            have HAD := Aside0.mk (HKD.out.ack_ n HS2.out.b0 (by omega) HS2.out.o40)
            clear hR hb1 hgl ho4 q2
            go_upto_region 21 with (fail)
            go_region_law (first
              | (refine step_call (by kernel_rfl) 15 _ (by kernel_rfl) HAD.out ?_; rintro r3 w3 ⟨rfl, vo3, hk3⟩; refine ⟨_, rfl, ?_⟩; have HK3 := Aside0.mk hk3; have p1 : w3.cell? ⟨gx, 1, none⟩ = some (.int .i64 n) := hk3.xcell HW.out.2.1 HXC.out.2.1; clear hk3)
              | (refine step_call (by kernel_rfl) 27 _ (by kernel_rfl) (HR.out _ _ HK3.out) ?_; rintro r4 w4 ⟨rfl, S4, HX4, HS4, HK4⟩; refine ⟨_, rfl, ?_⟩))
            all_goals
              go_wp2
              go_meet
              case rel => exact ⟨S4, rfl, HX4, HS4, HK4⟩
            -- @end
        by_cases hk3 : K = 3
        · skip
          as_aux_lemma =>
            -- @blk k3
            subst hk3
            have hb1 := HS2.out.b1
            have ho4 := HS2.out.o40
            have htl := told_le T.lo n
            have hwa := HK2.out.wait_ n HS2.out.b0 (by omega) HS2.out.o40
            obtain ⟨L3, hL3⟩ : ∃ L3, L3 = T.lo.take (told T.lo n) := ⟨_, rfl⟩
            have hl3 : told T.lo n = L3.length := by rw [hL3, List.length_take]; omega
            have HL3 := Aside0.mk (And.intro hL3 hl3)
            have h340 : L3.length ≤ 40 := by omega
            rw [← hL3] at hwa
            have HWA := Aside0.mk hwa
            clear q2 hwa htl hL3 hl3
            go_wp2_with fail
            refine HWA.out.mono ?_
            rintro r3 w3 ⟨⟨v3, rfl, ho3⟩, hb3⟩
            have HO3 := Aside0.mk ho3
            have HB3 := Aside0.mk hb3
            have HK3 := Aside0.mk (HK2.out.below hb3)
            have p1 : w3.cell? ⟨gx, 1, none⟩ = some (.int .i64 n) := HK3.out.xcell HW.out.2.1 HXC.out.2.1
            have hrw := HK3.out.rwait_ n (by rw [HS2.out.br]; exact HS2.out.b0) (by rw [HS2.out.br, HS2.out.lr]; omega) (by rw [HS2.out.lr]; exact HS2.out.o40)
            rw [HS2.out.br, HS2.out.lr, ← HL3.out.1, HL3.out.2] at hrw
            have HRW := Aside0.mk hrw
            clear ho3 hb3 HWA hrw q1
            go_wp2_with fail
            refine HRW.out.mono ?_
            rintro r4 w4 ⟨⟨A4, c4, rfl, hs4, hc4, hA4⟩, hb4⟩
            have HS4 := Aside0.mk hs4
            have HC4 := Aside0.mk hc4
            have HA4 := Aside0.mk hA4
            have HB4 := Aside0.mk (HB3.out.trans (hb4.mono HB3.out.size))
            have HO4 := Aside0.mk (HO3.out.below hb4)
            obtain ⟨A3, c3, he3, hlc3, hsrc3, hbk3⟩ := HO4.out.src
            subst he3
            have HLC3 := Aside0.mk hlc3
            have HKE := Aside0.mk (HK2.out.kept HB4.out (t := .slice A3 L3.length c3) (l := L3) HO4.out (by omega) (by have := HS2.out.k; omega))
            clear hs4 hc4 hA4 hb4 p1 hlc3 hsrc3 hbk3 HRW HO3 HB3 HK3
            go_wp2_with fail
            refine HKE.out.mono ?_
            rintro r5 w5 ⟨rfl, vx5, vw5, c5, hk5, ho5⟩
            obtain ⟨T5, hT5⟩ : ∃ T5 : KS, T5 = { T with vx := vx5, vw := vw5, L := T.L ++ [(.slice A3 L3.length c3, L3)], Lw := T.Lw ++ [(c5, L3)] } := ⟨_, rfl⟩
            have HT5 := Aside0.mk (show T5.lo = T.lo ∧ T5.bo = T.bo ∧ T5.lr = T.lr ∧ T5.br = T.br ∧ T5.li = T.li ∧ T5.ai = T.ai ∧ T5.lq = T.lq ∧ T5.aq = T.aq ∧ T5.Ar = T.Ar ∧ T5.W = T.W ∧ T5.X = T.X ∧ T5.L.length = T.L.length + 1 by rw [hT5]; simp)
            have HF5 := Aside0.mk (show ∀ k, (Value.slice A3 L3.length c3).ownBlock = some k → k ∈ foot gb T5.vx T5.vw T5.L T5.Lw from fun k hk => by
              rw [hT5]
              exact mem_foot.2 (.inr (.inr (.inr (.inl ⟨(.slice A3 L3.length c3, L3), by simp, hk⟩)))))
            rw [← hT5] at hk5
            have HO5 := Aside0.mk ho5
            have hw5 := hk5.wsrc (A := A4) (most := n) (by
              obtain ⟨e1, e2, e3, e4, e5, e6, e7, e8, e9, e10, e11, e12⟩ := HT5.out
              rw [e9, e3, HS2.out.lr]
              exact HA4.out.imp id (fun h => by rw [HL3.out.2]; exact h))
            rw [HT5.out.2.2.1, HS2.out.lr, ← HL3.out.1, HL3.out.2] at hw5
            have HW5 := Aside0.mk hw5
            have HK5 := Aside0.mk hk5
            obtain ⟨A3', c3', he3, hlc3, hsrc3, hbk3⟩ := ho5.src
            obtain ⟨rfl, rfl⟩ : A3 = A3' ∧ c3 = c3' := by injection he3 with h1 _ h2; exact ⟨h1, h2⟩
            have HSRC3 := Aside0.mk hsrc3
            have HLC3 := Aside0.mk hlc3
            clear hT5 hk5 ho5 hw5 he3 hlc3 hsrc3 hbk3 HKE HO4
            go_wp2_with fail
            refine (BookEv.same_calls A3 L3.length c3 A4 L3.length c4 L3 w5 HSRC3.out HLC3.out HW5.out HC4.out (by omega)).mono ?_
            rintro e6 w6 ⟨rfl, n6, hw6⟩
            have hb6 : Below w5.heap.size w5 w6 := by rw [← hw6]; exact below_dr w5 n6
            have HK6 := Aside0.mk (HK5.out.below hb6)
            have HO6 := Aside0.mk (HO5.out.below hb6)
            obtain ⟨first, hfirst⟩ : ∃ f, f = told1 T.bo T.lo := ⟨_, rfl⟩
            have hf0 : 0 ≤ first ∧ first ≤ 3000 := by
              have h1 := HS2.out.b0
              rw [hfirst]; unfold told1; split <;> omega
            rw [← hfirst]
            have ha1 := HS2.out.a1
            have hi4 := HS2.out.i40
            have hTL := takeE_len first L3 0 T.li.length (T.ai + T.li.length) hi4
            have htk := HK6.out.takeO (first := first) HO6.out HF5.out (by rw [HT5.out.2.2.2.2.2.1]; exact HS2.out.a0) (by rw [HT5.out.2.2.2.2.2.1, HT5.out.2.2.2.2.1]; omega) (by rw [HT5.out.2.2.2.2.1]; exact hi4) (by omega) (by omega) (by omega)
            rw [HT5.out.2.2.2.2.2.1, HT5.out.2.2.2.2.1] at htk
            have HTK := Aside0.mk htk
            have hR : ∀ w7 vi7, KP w go gi gr gq gb { T5 with vi := vi7, li := T.li ++ takeE first 0 T.li.length (T.ai + T.li.length) L3, ai := T.ai } w7 → Calls Try.prog 32 #[.pointer (some ⟨gq, 0, none⟩), .int .i64 first, .slice A4 L3.length c4] w7 fun r w' => r = .returned (.int .i64 (T.ai + T.li.length + ((takeE first 0 T.li.length (T.ai + T.li.length) L3).length : Int))) ∧ ∃ S', Aside0 (S'.W = T.W ∧ S'.X = T.X) ∧ Aside0 (SI (i + 1) S') ∧ Aside0 (KP w go gi gr gq gb S' w') := by
              intro w7 vi7 h7
              obtain ⟨e1, e2, e3, e4, e5, e6, e7, e8, e9, e10, e11, e12⟩ := HT5.out
              have hs7 := h7.wsrc (A := A4) (most := n) (by
                dsimp only
                rw [e9, e3, HS2.out.lr]
                exact HA4.out.imp id (fun h => by rw [HL3.out.2]; exact h))
              dsimp only at hs7
              rw [e3, HS2.out.lr, ← HL3.out.1, HL3.out.2] at hs7
              have h4 := h7.rtake_ (first := first) (c := c4) hs7 (fun x hx hne => by
                rcases HA4.out with h5 | h5
                · rw [h5] at hx
                  have h6 := h7.sep.dis 2 3 _ _ rfl rfl (by decide) x.block (List.mem_cons_of_mem _ (bo_mem (by dsimp only; rw [e9]; exact hx)))
                  exact fun e => h6 (by rw [e]; simp)
                · exact absurd (List.length_eq_zero_iff.1 h5) hne) HC4.out (by dsimp only; rw [e8, HS2.out.aq]; exact HS2.out.a0) (by dsimp only; rw [e8, HS2.out.aq]; have := HS2.out.a0; omega) (by dsimp only; rw [e7, HS2.out.lq]; exact HS2.out.i40) (by omega) (by omega) (by omega)
              dsimp only at h4
              rw [e7, e8, HS2.out.lq, HS2.out.aq] at h4
              refine h4.mono ?_
              rintro r w8 ⟨rfl, Aq', cq', h5⟩
              refine ⟨by rw [List.length_append]; push_cast; congr 2; omega, _, ?_, ?_, ⟨h5⟩⟩
              · exact ⟨e10, e11⟩
              · exact ⟨⟨by show T5.lr = T5.lo; rw [e1, e3, HS2.out.lr], by show T5.br = T5.bo; rw [e2, e4, HS2.out.br], rfl, rfl, by show T5.lo.length ≤ 40; rw [e1]; exact HS2.out.o40, by simpa using hTL, by show 0 ≤ T5.bo; rw [e2]; exact HS2.out.b0, HS2.out.a0, by show T5.bo + (T5.lo.length : Int) ≤ _; rw [e1, e2]; push_cast; omega, by simp only [List.length_append]; push_cast; omega, by show T5.L.length ≤ i + 1; rw [e12]; exact Nat.succ_le_succ HS2.out.k⟩⟩
            have HR := Aside0.mk hR
            clear hw6 hb6 hfirst hf0 hTL htk hR ha1 hi4 hb1 ho4 HK5 HO5
            go_wp2_with fail
            refine HTK.out.mono ?_
            rintro r7 w7 ⟨rfl, vi7, hk7⟩
            have HR7 := Aside0.mk (HR.out w7 vi7 hk7)
            clear hk7 HR HTK
            go_wp2_with fail
            refine HR7.out.mono ?_
            rintro r8 w8 ⟨rfl, S8, HX8, HS8, HK8⟩
            go_wp2
            go_meet
            case rel => exact ⟨S8, rfl, HX8, HS8, HK8⟩
            -- @end
        by_cases hk4 : K = 4
        · skip
          as_aux_lemma =>
            -- @blk k4
            subst hk4
            have ha1 := HS2.out.a1
            have hi4 := HS2.out.i40
            by_cases hn1 : n < -1000
            · go_wp2
              go_ret
              exact ⟨rfl, HK2.out.bel⟩
            by_cases hn2 : 1099511627776 < n
            · go_wp2
              go_ret
              exact ⟨rfl, HK2.out.bel⟩
            have hT := takeE_len n es 0 T.li.length (T.ai + T.li.length) HS2.out.i40
            have hR : ∀ w3 vi3, KP w go gi gr gq gb { T with vi := vi3, li := T.li ++ takeE n 0 T.li.length (T.ai + T.li.length) es } w3 → Calls Try.prog 32 #[.pointer (some ⟨gq, 0, none⟩), .int .i64 n, .slice At es.length ct] w3 fun r w' => r = .returned (.int .i64 (T.ai + T.li.length + ((takeE n 0 T.li.length (T.ai + T.li.length) es).length : Int))) ∧ ∃ S', Aside0 (S'.W = T.W ∧ S'.X = T.X) ∧ Aside0 (SI (i + 1) S') ∧ Aside0 (KP w go gi gr gq gb S' w') := by
              intro w3 vo3 h3
              have h4 := h3.rtake_ (first := n) (h3.src0 HT.out) (fun x hx hne => by
                subst hx
                have h5 := src_ne HT.out hne
                have h6 := h3.sep.ge 3 rfl gq (by simp)
                omega) HCT.out (by dsimp only; rw [HS2.out.aq]; exact HS2.out.a0) (by dsimp only; rw [HS2.out.aq]; have := HS2.out.a0; omega) (by dsimp only; rw [HS2.out.lq]; exact HS2.out.i40) (by have := HL4.out; omega) (by omega) (by omega)
              dsimp only at h4
              rw [HS2.out.lq, HS2.out.aq] at h4
              refine h4.mono ?_
              rintro r w4 ⟨rfl, Ar', cr', h5⟩
              refine ⟨by rw [List.length_append]; push_cast; congr 2; omega, _, ?_, ?_, ⟨h5⟩⟩
              · exact ⟨rfl, rfl⟩
              · exact ⟨{ HS2.out with lq := rfl, aq := rfl, i40 := by simpa using hT, a1 := by simp only [List.length_append]; push_cast; omega, b1 := by have := HS2.out.b1; push_cast; omega, k := Nat.le_succ_of_le HS2.out.k }⟩
            have HR := Aside0.mk hR
            have HKD := Aside0.mk (HK2.out.below (below_drew (Below.refl w2.heap.size w2)))
            have HAD := Aside0.mk (HKD.out.take_ (first := n) (c := cm) (HKD.out.xlent HW.out.2.2 HLW.out).src (HKD.out.sep.dis 5 1 _ _ rfl rfl (by decide) gm HW.out.2.2) HS2.out.a0 (by omega) HS2.out.i40 (by have := HL4.out; omega) (by omega) (by omega))
            clear hR hT ha1 hi4
            go_upto_region 30 with (fail)
            have XQ0 := Aside0.mk (And.intro (And.intro (show w2.drew.cell? ⟨gx, 1, none⟩ = some (.int .i64 n) from q1) (show w2.drew.cell? ⟨gx, 2, none⟩ = some (.slice At es.length ct) from q2)) trivial)
            clear q1 q2
            refine wp_region_held_drew (S := fun w' => w'.cell? ⟨gx, 1, none⟩ = some (.int .i64 n) ∧ w'.cell? ⟨gx, 2, none⟩ = some (.slice At es.length ct)) (by kernel_rfl) (by exact XQ0.out.1) (fun hHeld => ?_)
            refine takeH (i := 0) (d := 157) (v := (.pointer (some ⟨gi, 0, none⟩))) rfl rfl (by kernel_rfl) (by kernel_rfl) (by kernel_rfl) (fun _ _ _ h => h) (Or.inl ⟨by kernel_rfl, by intro w hSw; (try dsimp only at hSw); go_simp; done⟩) (by assumption) ?_
            try simp only [List.setIfInBounds_toArray, List.set_cons_zero, List.set_cons_succ]
            refine takeH (i := 1) (d := 158) (v := (.pointer (some ⟨gx, 1, none⟩))) rfl rfl (by kernel_rfl) (by kernel_rfl) (by kernel_rfl) (fun _ _ _ h => h) (Or.inl ⟨by kernel_rfl, by intro w hSw; (try dsimp only at hSw); go_simp; done⟩) (by assumption) ?_
            try simp only [List.setIfInBounds_toArray, List.set_cons_zero, List.set_cons_succ]
            refine takeH (i := 2) (d := 159) (v := (.int .i64 n)) rfl rfl (by kernel_rfl) (by kernel_rfl) (by kernel_rfl) (fun _ _ _ h => h) (Or.inl ⟨by kernel_rfl, by intro w hSw; (try dsimp only at hSw); have c0 := hSw.1; go_simp; done⟩) (by assumption) ?_
            try simp only [List.setIfInBounds_toArray, List.set_cons_zero, List.set_cons_succ]
            refine takeH (i := 3) (d := 160) (v := (.slice (some ⟨gm, 0, none⟩) es.length cm)) rfl rfl (by kernel_rfl) (by kernel_rfl) (by kernel_rfl) (fun _ _ _ h => h) (Or.inl ⟨by kernel_rfl, by intro w hSw; (try dsimp only at hSw); go_simp; done⟩) (by assumption) ?_
            try simp only [List.setIfInBounds_toArray, List.set_cons_zero, List.set_cons_succ]
            refine takeH (i := 5) (d := 162) (v := (.pointer (some ⟨gq, 0, none⟩))) rfl rfl (by kernel_rfl) (by kernel_rfl) (by kernel_rfl) (fun _ _ _ h => h) (Or.inl ⟨by kernel_rfl, by intro w hSw; (try dsimp only at hSw); go_simp; done⟩) (by assumption) ?_
            try simp only [List.setIfInBounds_toArray, List.set_cons_zero, List.set_cons_succ]
            refine takeH (i := 6) (d := 163) (v := (.pointer (some ⟨gx, 1, none⟩))) rfl rfl (by kernel_rfl) (by kernel_rfl) (by kernel_rfl) (fun _ _ _ h => h) (Or.inl ⟨by kernel_rfl, by intro w hSw; (try dsimp only at hSw); go_simp; done⟩) (by assumption) ?_
            try simp only [List.setIfInBounds_toArray, List.set_cons_zero, List.set_cons_succ]
            refine takeH (i := 7) (d := 164) (v := (.int .i64 n)) rfl rfl (by kernel_rfl) (by kernel_rfl) (by kernel_rfl) (fun _ _ _ h => h) (Or.inl ⟨by kernel_rfl, by intro w hSw; (try dsimp only at hSw); have c0 := hSw.1; go_simp; done⟩) (by assumption) ?_
            try simp only [List.setIfInBounds_toArray, List.set_cons_zero, List.set_cons_succ]
            refine takeH (i := 8) (d := 165) (v := (.pointer (some ⟨gx, 2, none⟩))) rfl rfl (by kernel_rfl) (by kernel_rfl) (by kernel_rfl) (fun _ _ _ h => h) (Or.inl ⟨by kernel_rfl, by intro w hSw; (try dsimp only at hSw); go_simp; done⟩) (by assumption) ?_
            try simp only [List.setIfInBounds_toArray, List.set_cons_zero, List.set_cons_succ]
            refine takeH (i := 9) (d := 166) (v := (.slice At es.length ct)) rfl rfl (by kernel_rfl) (by kernel_rfl) (by kernel_rfl) (fun _ _ _ h => h) (Or.inl ⟨by kernel_rfl, by intro w hSw; (try dsimp only at hSw); have c0 := hSw.2; go_simp; done⟩) (by assumption) ?_
            try simp only [List.setIfInBounds_toArray, List.set_cons_zero, List.set_cons_succ]
            refine wpAnyH_ready (rs := [4]) (by kernel_rfl) (by simp) ?_
            refine AllReadyH.cons (o := { dst := some 161, op := Op.call { callee := Callee.value (Operand.func 12), args := #[Operand.tmp 157, Operand.tmp 159, Operand.tmp 160], argTypes := #[34, 3, 24] }, type := 3, pos := "law.go:107", after := #[{ on := 0, ground := Ground.data }, { on := 2, ground := Ground.data }, { on := 3, ground := Ground.data }], guard := none }) rfl (fun K hK => ?_) AllReadyH.nil
            rw [if_pos (by kernel_rfl)]
            go_simp
            refine (HAD.out).mono ?_
            rintro e1 w1 ⟨rfl, vo1, hk1⟩
            have XQ1 := Aside0.mk (And.intro (And.intro (hk1.xcell HW.out.2.1 HXC.out.2.1) (hk1.xcell HW.out.2.1 HXC.out.2.2)) hk1)
            clear hk1
            clear hHeld
            refine hK.out _ _ (XQ1.out.1) (fun hHeld => ?_)
            clear hK K
            try simp only [Act.put, List.setIfInBounds_toArray, List.set_cons_zero, List.set_cons_succ]
            refine wpAnyH_ready (rs := [10]) (by kernel_rfl) (by simp) ?_
            refine AllReadyH.cons (o := { dst := some 167, op := Op.call { callee := Callee.value (Operand.func 32), args := #[Operand.tmp 162, Operand.tmp 164, Operand.tmp 166], argTypes := #[67, 3, 24] }, type := 3, pos := "law.go:107", after := #[{ on := 5, ground := Ground.data }, { on := 7, ground := Ground.data }, { on := 9, ground := Ground.data }, { on := 4, ground := Ground.chain }], guard := none }) rfl (fun K hK => ?_) AllReadyH.nil
            rw [if_pos (by kernel_rfl)]
            go_simp
            refine (HR.out _ _ XQ1.out.2).mono ?_
            rintro e2 w2 ⟨rfl, S4, HX4, HS4, HK4⟩
            have XQ2 := Aside0.mk (And.intro (And.intro (HK4.out.xcell (by rw [HX4.out.2]; exact HW.out.2.1) (by rw [HX4.out.1]; exact HXC.out.2.1)) (HK4.out.xcell (by rw [HX4.out.2]; exact HW.out.2.1) (by rw [HX4.out.1]; exact HXC.out.2.2))) trivial)
            clear hHeld
            refine hK.out _ _ (XQ2.out.1) (fun hHeld => ?_)
            clear hK K
            try simp only [Act.put, List.setIfInBounds_toArray, List.set_cons_zero, List.set_cons_succ]
            refine takeH (i := 11) (d := 168) (v := (.bool true)) rfl rfl (by kernel_rfl) (by kernel_rfl) (by kernel_rfl) (fun _ _ _ h => h) (Or.inl ⟨by kernel_rfl, by intro w hSw; (try dsimp only at hSw); go_simp; done⟩) (by assumption) ?_
            try simp only [List.setIfInBounds_toArray, List.set_cons_zero, List.set_cons_succ]
            refine takeH (i := 12) (d := 11) (v := (.bool true)) rfl rfl (by kernel_rfl) (by kernel_rfl) (by kernel_rfl) (fun _ _ _ h => h) (Or.inl ⟨by kernel_rfl, by intro w hSw; (try dsimp only at hSw); go_simp; done⟩) (by assumption) ?_
            try simp only [List.setIfInBounds_toArray, List.set_cons_zero, List.set_cons_succ]
            refine wpAnyH_done (by kernel_rfl) ?_ _
            clear hHeld
            go_wp2_with fail
            go_meet
            case rel => exact ⟨S4, rfl, HX4, HS4, HK4⟩
            -- @end
        skip
        as_aux_lemma =>
          have ha1 := HS2.out.a1
          have hi4 := HS2.out.i40
          have hiN : (i : Int) < 60 := by omega
          clear q1 q2
          cases hli : T.li with
          | nil =>
            have HNX := Aside0.mk (HK2.out.next_none hli)
            have HLI := Aside0.mk hli
            clear hli ha1 hi4
            go_wp2_with fail
            refine HNX.out.mono ?_
            rintro r3 w3 ⟨rfl, hb3⟩
            have HK3 := Aside0.mk ((HK2.out.below hb3).below (below_alloc (Below.refl _ _) (.cells #[.int .i64 0, .string ⟨#[]⟩, .int .i64 0, .int .i64 0] 38)))
            have HE := Aside0.mk (Blk.new w3 38 #[.int .i64 0, .string ⟨#[]⟩, .int .i64 0, .int .i64 0])
            have c0 : (w3.alloc (.cells #[.int .i64 0, .string ⟨#[]⟩, .int .i64 0, .int .i64 0] 38)).cell? ⟨gq, 0, none⟩ = some (.slice T.Aq 0 T.cq) := (HK3.out.q.blk.cell 0).trans (by rw [HS2.out.lq, HLI.out]; rfl)
            clear hb3
            go_wp2
            go_meet
            case rel => exact ⟨T, rfl, ⟨rfl, rfl⟩, ⟨{ HS2.out with b1 := by have := HS2.out.b1; push_cast; omega, a1 := by have := HS2.out.a1; push_cast; omega, k := Nat.le_succ_of_le HS2.out.k }⟩, HK3⟩
          | cons e l' =>
            have HNX := Aside0.mk (HK2.out.next_some hli HS2.out.a0 (by omega) hi4)
            have HLI := Aside0.mk hli
            clear hli ha1 hi4
            go_wp2_with fail
            refine HNX.out.mono ?_
            rintro r3 w3 ⟨rfl, vi3, hk3⟩
            have HK3 := Aside0.mk (hk3.below (below_alloc (Below.refl _ _) (.cells #[.int .i64 e.k, .string e.s, .int .i64 e.x, .int .i64 e.y] 38)))
            have HE := Aside0.mk (Blk.new w3 38 #[.int .i64 e.k, .string e.s, .int .i64 e.x, .int .i64 e.y])
            unfold E4.val
            have hsrc := HK3.out.q.src
            dsimp only at hsrc
            rw [HS2.out.lq, HLI.out] at hsrc
            obtain ⟨adq, hadq⟩ : ∃ adq, T.Aq = some adq := by
              rcases hsrc.2 with h2 | ⟨ad, h2, _⟩
              · simp at h2
              · exact ⟨ad, h2⟩
            rw [hadq] at hsrc
            obtain ⟨s0, s1, s2, s3⟩ := src_four hsrc (i := 0) (e := e) rfl
            have c0 : (w3.alloc (.cells #[.int .i64 e.k, .string e.s, .int .i64 e.x, .int .i64 e.y] 38)).cell? ⟨gq, 0, none⟩ = some (.slice (some adq) (l'.length + 1) T.cq) := (HK3.out.q.blk.cell 0).trans (by dsimp only; rw [HS2.out.lq, HLI.out, hadq]; rfl)
            have e0 : (w3.alloc (.cells #[.int .i64 e.k, .string e.s, .int .i64 e.x, .int .i64 e.y] 38)).cell? ⟨w3.heap.size, 0, none⟩ = some (.int .i64 e.k) := (HE.out.cell 0).trans rfl
            have e1 : (w3.alloc (.cells #[.int .i64 e.k, .string e.s, .int .i64 e.x, .int .i64 e.y] 38)).cell? ⟨w3.heap.size, 1, none⟩ = some (.string e.s) := (HE.out.cell 1).trans rfl
            have e2 : (w3.alloc (.cells #[.int .i64 e.k, .string e.s, .int .i64 e.x, .int .i64 e.y] 38)).cell? ⟨w3.heap.size, 2, none⟩ = some (.int .i64 e.x) := (HE.out.cell 2).trans rfl
            have e3 : (w3.alloc (.cells #[.int .i64 e.k, .string e.s, .int .i64 e.x, .int .i64 e.y] 38)).cell? ⟨w3.heap.size, 3, none⟩ = some (.int .i64 e.y) := (HE.out.cell 3).trans rfl
            have hl0 : ¬ ((l'.length : Int) + 1 = 0) := by omega
            have hlp : (0 : Int) < (l'.length : Int) + 1 := by omega
            clear hk3 hsrc
            have t0 : (w3.alloc (.cells #[.int .i64 e.k, .string e.s, .int .i64 e.x, .int .i64 e.y] 38)).cell? adq = some (.int .i64 e.k) := s0
            have t1 : (w3.alloc (.cells #[.int .i64 e.k, .string e.s, .int .i64 e.x, .int .i64 e.y] 38)).cell? ⟨adq.block, adq.off + 1, none⟩ = some (.string e.s) := s1
            have t2 : (w3.alloc (.cells #[.int .i64 e.k, .string e.s, .int .i64 e.x, .int .i64 e.y] 38)).cell? ⟨adq.block, adq.off + 2, none⟩ = some (.int .i64 e.x) := s2
            have t3 : (w3.alloc (.cells #[.int .i64 e.k, .string e.s, .int .i64 e.x, .int .i64 e.y] 38)).cell? ⟨adq.block, adq.off + 3, none⟩ = some (.int .i64 e.y) := s3
            clear s0 s1 s2 s3
            go_upto_region 16 with (fail)
            go_quiet (fail)
            have HKq := Aside0.mk (HK3.out.below (below_dr _ nq))
            have HNQ := Aside0.mk (HKq.out.rnext_ (e := e) (l := l') (by dsimp only; rw [HS2.out.lq, HLI.out]) (by dsimp only; rw [HS2.out.aq]; exact HS2.out.a0) (by dsimp only; rw [HS2.out.aq]; have := HS2.out.a1; omega) (by dsimp only; rw [HS2.out.lq]; exact HS2.out.i40))
            clear c0 e0 e1 e2 e3 t0 t1 t2 t3 hl0 hlp
            go_wp2_with fail
            refine HNQ.out.mono ?_
            rintro r5 w5 ⟨rfl, Aq5, cq5, hk5⟩
            go_wp2
            go_meet
            case rel =>
              refine ⟨_, rfl, ?_, ?_, ⟨hk5⟩⟩
              · exact ⟨rfl, rfl⟩
              · exact ⟨{ HS2.out with lq := rfl, aq := by show T.aq + 1 = T.ai + 1; rw [HS2.out.aq], i40 := by have := HS2.out.i40; rw [HLI.out] at this; simp at this; show l'.length ≤ 40; omega, a0 := by have := HS2.out.a0; show 0 ≤ T.ai + 1; omega, b1 := by have := HS2.out.b1; push_cast; omega, a1 := by have := HS2.out.a1; rw [HLI.out] at this; simp only [List.length_cons] at this; show T.ai + 1 + (l'.length : Int) ≤ _; push_cast at this ⊢; omega, k := Nat.le_succ_of_le HS2.out.k }⟩
      case rest =>
        as_aux_lemma =>
          obtain ⟨S', rfl, HX', HS', HK'⟩ := hcut
          clear HK2 HS2
          have hWX := HX'.out
          have q2 : wc.cell? ⟨gx, 2, none⟩ = some (.slice At es.length ct) := HK'.out.xcell (by rw [hWX.2]; exact HW.out.2.1) (by rw [hWX.1]; exact HXC.out.2.2)
          have r1 : wc.cell? ⟨gr, 1, none⟩ = some (.int .i64 S'.bo) := (HK'.out.r.blk.cell 1).trans (by rw [HS'.out.br]; rfl)
          have p1 : wc.cell? ⟨gq, 1, none⟩ = some (.int .i64 S'.ai) := (HK'.out.q.blk.cell 1).trans (by rw [HS'.out.aq]; rfl)
          have p0 : wc.cell? ⟨gq, 0, none⟩ = some (.slice S'.Aq S'.li.length S'.cq) := (HK'.out.q.blk.cell 0).trans (by rw [HS'.out.lq]; rfl)
          have hb1 := HS'.out.b1
          have ha1 := HS'.out.a1
          have hb0 := HS'.out.b0
          have ha0 := HS'.out.a0
          have hl40 := HS'.out.o40
          have hi40 := HS'.out.i40
          have HKn := fun n => HK'.out.below (below_dr wc n)
          have QT := Aside0.mk (fun n => (top_calls go S'.vo S'.lo _ _ _ (HKn n).o).mono (fun r w' h => (⟨h.1, n, h.2.symm⟩ : r = Ending.returned _ ∧ ∃ m, w' = wc.drewN m)))
          have QA := Aside0.mk (fun n => (acked_calls go S'.vo S'.lo _ _ _ (HKn n).o).mono (fun r w' h => (⟨h.1, n, h.2.symm⟩ : r = Ending.returned _ ∧ ∃ m, w' = wc.drewN m)))
          have QD := Aside0.mk (fun n => (done_calls gi S'.vi S'.li _ _ _ (HKn n).i).mono (fun r w' h => (⟨h.1, n, h.2.symm⟩ : r = Ending.returned _ ∧ ∃ m, w' = wc.drewN m)))
          have QG := Aside0.mk (fun n => (got_calls gi S'.vi S'.li _ _ _ (HKn n).i).mono (fun r w' h => (⟨h.1, n, h.2.symm⟩ : r = Ending.returned _ ∧ ∃ m, w' = wc.drewN m)))
          have QL := Aside0.mk (fun n => (len_calls gi S'.vi S'.li _ _ _ (HKn n).i).mono (fun r w' h => (⟨h.1, n, h.2.symm⟩ : r = Ending.returned _ ∧ ∃ m, w' = wc.drewN m)))
          have QRT := Aside0.mk (fun n => (rtop_quiet (HKn n).r (by rw [HS'.out.br]; exact hb0) (by rw [HS'.out.br]; omega) (by rw [HS'.out.lr]; omega)).mono (fun r w' h => (by
            obtain ⟨h1, m, h2⟩ := h
            rw [HS'.out.br, HS'.out.lr] at h1
            exact ⟨h1, n + m, by rw [← h2, World.drewN_drewN]⟩ : r = Ending.returned (.int .i64 (S'.bo + S'.lo.length)) ∧ ∃ m, w' = wc.drewN m)))
          have QRG := Aside0.mk (fun n => (rgot_quiet (HKn n).q (by rw [HS'.out.aq]; exact ha0) (by rw [HS'.out.aq]; omega) (by rw [HS'.out.lq]; omega)).mono (fun r w' h => (by
            obtain ⟨h1, m, h2⟩ := h
            rw [HS'.out.aq, HS'.out.lq] at h1
            exact ⟨h1, n + m, by rw [← h2, World.drewN_drewN]⟩ : r = Ending.returned (.int .i64 (S'.ai + S'.li.length)) ∧ ∃ m, w' = wc.drewN m)))
          have QS := Aside0.mk (fun n => (BookEv.stays_calls _ gm cm At es.length ct es _ ((HKn n).xlent (by rw [hWX.2]; exact HW.out.2.2) (by rw [hWX.1]; exact HLW.out)) ((HKn n).src0 HT.out) HCT.out (by have := HL4.out; omega)).mono (fun r w' h => (by
            obtain ⟨h1, m, h2⟩ := h
            exact ⟨h1, n + m, by rw [← h2, World.drewN_drewN]⟩ : r = Ending.returned (.bool true) ∧ ∃ m, w' = wc.drewN m)))
          clear HKn hWX hb1 ha1 hb0 ha0 hl40
          have hliI : ¬ (40 < (S'.li.length : Int)) := by omega
          go_upto_region 31 with (fail)
          go_quiet (first | exact QT.out _ | exact QA.out _ | exact QD.out _ | exact QG.out _ | exact QL.out _ | exact QRT.out _ | exact QRG.out _ | exact QS.out _)
          go_wp2
          go_roundg (N - (i + 1))
          case rel => exact ⟨i + 1, S', by simp, ⟨by omega, rfl⟩, HS', ⟨HK'.out.below (below_dr wc nq)⟩⟩
          case measure => have := HI.out; omega
    · have hltI : ¬ (i : Int) < (N : Int) := by omega
      as_aux_lemma =>
        go_wp2_with fail
        refine (wait0 3 _).mono ?_
        rintro e1 w1 ⟨rfl, rfl⟩
        go_wp2_with fail
        refine (next0 _).mono ?_
        rintro e2 w2 ⟨rfl, hb2⟩
        have HK3 := Aside0.mk ((HK.out.below hb2).below (below_alloc (Below.refl _ _) (.cells #[.int .i64 0, .string ⟨#[]⟩, .int .i64 0, .int .i64 0] 38)))
        clear hb2 HK
        go_wp2_with fail
        refine (add0 _ _).mono ?_
        rintro e3 w3 ⟨rfl, rfl⟩
        go_wp2_with fail
        refine (ack0 1 (by decide) _).mono ?_
        rintro e4 w4 ⟨rfl, rfl⟩
        go_wp2_with fail
        refine (top0 _).mono ?_
        rintro e5 w5 ⟨rfl, rfl⟩
        go_wp2_with fail
        refine (acked0 _).mono ?_
        rintro e6 w6 ⟨rfl, rfl⟩
        go_wp2_with fail
        refine (take0 1 _ _).mono ?_
        rintro e7 w7 ⟨rfl, rfl⟩
        go_wp2_with fail
        refine (done0 _).mono ?_
        rintro e8 w8 ⟨rfl, rfl⟩
        go_wp2_with fail
        refine (got0 _).mono ?_
        rintro e9 w9 ⟨rfl, rfl⟩
        go_wp2_with fail
        refine (len0 _).mono ?_
        rintro e10 w10 ⟨rfl, rfl⟩
        have HK9 := Aside0.mk ((HK3.out.below (below_alloc (Below.refl _ _) (.cells #[.int .i64 1, .string ⟨#[97]⟩, .int .i64 0, .int .i64 0] 38))).below (below_alloc (Below.refl _ _) (.cells #[.int .i64 1, .string ⟨#[97]⟩, .int .i64 0, .int .i64 0] 38)))
        go_wp2_with fail
        refine (BookEv.apart_calls _ _ S.vx S.vw S.L S.Lw HK9.out.bk HK9.out.same).mono ?_
        rintro e12 w12 ⟨rfl, ho⟩
        have HB12 := Aside0.mk (HK9.out.bel.trans (ho.toBelow HK9.out.bel.size (fun b hb => HK9.out.sep.ge 4 rfl b hb)))
        clear ho
        go_wp2
        go_ret
        exact ⟨rfl, HB12.out⟩
set_option maxHeartbeats 2000000 in
set_option maxRecDepth 100000 in
theorem kplays_over (A0 : Option Addr) (c0 : Nat) (l : List S82) (w : World) (hC : Kd.C k82 w A0 l.length l) (hc0 : l.length ≤ c0) (k1 : Nat) (hL : pontoonlaw20_Light.f k1 l = some false) :
    Calls Try.prog 6 #[.slice A0 l.length c0] w fun r w' => r = .returned (.bool true) ∧ Below w.heap.size w w' := by
  have HC := Aside0.mk hC
  have HC0 := Aside0.mk hc0
  have HL := Aside0.mk hL
  clear hC hc0 hL
  go_enter Try.func6, Try.ntmps6
  go_wp2_with fail
  refine (pontoonlaw20_Light.calls k1 A0 c0 l false w HC.out HC0.out HL.out).mono ?_
  rintro e0 w0 ⟨rfl, hb0⟩
  have HB0 := Aside0.mk hb0
  clear hb0
  go_wp2_with fail
  refine (alive20 _).mono ?_
  rintro e1 w1 ⟨rfl, hb1⟩
  have HB1 := Aside0.mk (below_step HB0.out hb1)
  clear hb1
  go_wp2
  go_ret
  exact ⟨rfl, HB1.out⟩
/-- KeysPlay of whatever comes in. -/
theorem kplays_row (A0 : Option Addr) (c0 : Nat) (l : List S82) (w : World) (hC : Kd.C k82 w A0 l.length l ∧ ∀ x ∈ l, WfOp x) (hc0 : l.length ≤ c0) :
    Calls Try.prog 6 #[.slice A0 l.length c0] w fun r w' => r = .returned (.bool true) ∧ Below w.heap.size w w' := by
  obtain ⟨k, b, hb, hb2⟩ := light_ok l hC.1.2.1
  cases b with
  | false => exact kplays_over A0 c0 l w hC.1 hc0 k hb
  | true => exact kplays_live A0 c0 l w hC.1 hc0 hC.2 k hb (hb2 rfl).1 (hb2 rfl).2
end Go.Proofs.Ytjjjinpmflghmaa.Keys
