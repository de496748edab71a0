/- The document's Add and Take of events. Conditions: those in each theorem. -/
import Derived.Test.YtjjjinpmflghmaaRefK
import Derived.Test.YtjjjinpmflghmaaMC
import Derived.Test.YtjjjinpmflghmaaPRefEv
namespace Go.Proofs.Ytjjjinpmflghmaa.Keys
open Go.RowKit Go.Proofs.Ytjjjinpmflghmaa.Mem Go.Proofs.Ytjjjinpmflghmaa.Row Go.Proofs.YtjjjinpmflghmaaW.PrintWords Go.Proofs.YtjjjinpmflghmaaW.PrintMore Go.Proofs.YtjjjinpmflghmaaW.PrintLast Go.Proofs.Ytjjjinpmflghmaa.PKeysPlay
set_option linter.unusedVariables false
set_option linter.unusedSimpArgs false
theorem ref_some (e : E4) : pontoonref19_Event.f e.k e.s e.x e.y = some (okE e) := by
  unfold okE PKeysBounds.keys_Valid.f pontoonref19_Event.f pontoonref12_Ends.f mn mx
  simp only [Option.bind_some]
  repeat' split
  all_goals first
    | rfl
    | omega
    | (simp; omega)
    | (simp only [Option.getD_some]; congr 1; rw [Bool.eq_iff_iff]; simp; omega)
theorem refEv_calls (e : E4) (w : World) : Calls Try.prog 66 #[e.val] w fun r w' => r = .returned (.bool (okE e)) ∧ Below w.heap.size w w' :=
  pontoonref19_Event.calls e.k e.s e.x e.y (okE e) w (ref_some e)
/-- An append whose run is known, as one step of a region that draws: for go_region_law. -/
theorem step_append_of {P : Program} {ops : Array Oper} {o : Oper} {a : Act} {w w' : World} {v' : Value} {K : Act → World → Prop} {Q : Exit → Act → World → Prop} {E : Prop} (hw : Region.wanted o (yielded ops a.tmps) = true) (s x : Operand) (t : TypeId) (y z : Value)
    (ho : o.op = .call { callee := .builtin .append, args := #[s, x], argTypes := #[t, t] }) (hs : a.eval s = y) (hx : a.eval x = z)
    (hr : (Builtin.append_ #[t, t] o.type #[y, z]).run P w = .ok v' w') (h : K (a.put o.dst v') w') :
    if Region.wanted o (yielded ops a.tmps) = true then Oper.wp P o a w K Q else E := by
  rw [if_pos hw]
  unfold Oper.wp execOp
  simp only [ho, resolve, invoke, builtin, Sem.run_bind, Sem.run_pure, Result.andThen_ok, List.map_toArray, List.map_cons, List.map_nil, hs, hx, hr]
  exact h
theorem add_at (ad : Addr) (m j : Nat) (hj : 0 < j) : ad.add (m + j) = ⟨(ad.add m).block, (ad.add m).off + j, none⟩ := by
  unfold Addr.add
  rw [if_neg (by omega)]
  split
  · rename_i h; subst h; simp
  · simp [Nat.add_assoc]
theorem src_four {w : World} {ad : Addr} {es : List E4} (h : BookEv.Src w (some ad) es.length es) {i : Nat} {e : E4} (he : es[i]? = some e) :
    w.cell? (ad.add (i * 4)) = some (.int .i64 e.k) ∧ w.cell? ⟨(ad.add (i * 4)).block, (ad.add (i * 4)).off + 1, none⟩ = some (.string e.s) ∧ w.cell? ⟨(ad.add (i * 4)).block, (ad.add (i * 4)).off + 2, none⟩ = some (.int .i64 e.x) ∧ w.cell? ⟨(ad.add (i * 4)).block, (ad.add (i * 4)).off + 3, none⟩ = some (.int .i64 e.y) := by
  have hi := (List.getElem?_eq_some_iff.1 he).1
  rcases h.2 with h0 | ⟨ad', h1, h2⟩
  · omega
  · injection h1 with h1
    subst h1
    have key : ∀ j, j < 4 → (BookEv.fl es)[i * 4 + j]? = (BookEv.vals e)[j]? := fun j hj => fl_at BookEv.vals_len he (by omega)
    rw [← add_at _ _ 1 (by omega), ← add_at _ _ 2 (by omega), ← add_at _ _ 3 (by omega)]
    exact ⟨h2 (i * 4 + 0) _ (key 0 (by omega)), h2 _ _ (key 1 (by omega)), h2 _ _ (key 2 (by omega)), h2 _ _ (key 3 (by omega))⟩
/-- The literal that holds one event. -/
abbrev litE (e : E4) : Obj := .cells #[.int .i64 e.k, .string e.s, .int .i64 e.x, .int .i64 e.y] 38
theorem app_lit (W W1 : World) (B g n : Nat) (v : Value) (l : List E4) (e : E4) (hB : Below B W W1) (hBs : B ≤ W1.heap.size) (ho : W1.ownsRow B 38 4 v n (BookEv.fl l)) (hb : Blk W1 g 38 #[.int .i64 e.k, .string e.s, .int .i64 e.x, .int .i64 e.y]) (hn : n ≤ 100000) :
    ∃ v' w', (Builtin.append_ #[24, 24] 24 #[v, .slice (some ⟨g, 0, none⟩) 1 1]).run Try.prog W1 = .ok v' w' ∧ w'.ownsRow B 38 4 v' (n + 1) (BookEv.fl (l ++ [e])) ∧ Below B W w' := by
  obtain ⟨iC, hiC, hz0, hz1, hz2⟩ := info_parts BookEv.infoE
  obtain ⟨v', w2, hr, ho2, hg, _, _⟩ := run_append_two (P := Try.prog) W1 B 24 24 38 iC _ 4 40 Try.underlying24 hiC hz0 hz1 hz2 rfl (by decide) v n _ ho ⟨g, 0, none⟩ 1 1 (BookEv.vals e) rfl (fun j u hj => by
    rw [BookEv.add0]
    exact (hb.cell j).trans (by simpa [BookEv.vals, E4.cells] using hj)) (BookEv.vals_one e) (by decide) (by unfold maxLen; omega) (by omega) hBs
  refine ⟨v', w2, hr, ?_, hB.grown hg hBs (own_base ho)⟩
  rw [BookEv.fl_app]
  simpa [BookEv.fl] using ho2
theorem app_a (W : World) (A : Option Addr) (n c : Nat) (l : List E4) (e : E4) (hs : BookEv.Src W A n l) (hc : n ≤ c) (hn : n ≤ 100000) :
    ∃ v4 w4, (Builtin.append_ #[24, 24] 24 #[.slice none 0 0, .slice A n c]).run Try.prog W = .ok v4 w4 ∧ Below W.heap.size W w4 ∧
      ∃ v7 w7, (Builtin.append_ #[24, 24] 24 #[v4, .slice (some ⟨w4.heap.size, 0, none⟩) 1 1]).run Try.prog (w4.alloc (litE e)) = .ok v7 w7 ∧ w7.ownsRow W.heap.size 38 4 v7 (n + 1) (BookEv.fl (l ++ [e])) ∧ Below W.heap.size W w7 := by
  obtain ⟨v4, w4, hr4, ho4, hb4⟩ := BookEv.copy_run A n c l W hs hc hn
  obtain ⟨v7, w7, hr7, ho7, hb7⟩ := app_lit W (w4.alloc (litE e)) W.heap.size w4.heap.size n v4 l e (hb4.alloc hb4.size _) (by have := hb4.size; simp; omega) (ho4.alloc _) (Blk.new _ _ _) hn
  exact ⟨v4, w4, hr4, hb4, v7, w7, hr7, ho7, hb7⟩
theorem app_b (W : World) (A : Option Addr) (n c : Nat) (l : List E4) (e : E4) (hs : BookEv.Src W A n l) (hc : n ≤ c) (hn : n ≤ 100000) :
    ∃ v5 w5, (Builtin.append_ #[24, 24] 24 #[.slice none 0 0, .slice A n c]).run Try.prog (W.alloc (litE e)) = .ok v5 w5 ∧ Below W.heap.size W w5 ∧
      ∃ v6 w6, (Builtin.append_ #[24, 24] 24 #[v5, .slice (some ⟨W.heap.size, 0, none⟩) 1 1]).run Try.prog w5 = .ok v6 w6 ∧ w6.ownsRow W.heap.size 38 4 v6 (n + 1) (BookEv.fl (l ++ [e])) ∧ Below W.heap.size W w6 := by
  have hbl : Below W.heap.size W (W.alloc (litE e)) := below_alloc (Below.refl _ _) _
  obtain ⟨v5, w5, hr5, ho5, hb5⟩ := BookEv.copy_run A n c l (W.alloc (litE e)) (hs.below hbl) hc hn
  have hB5 : Below W.heap.size W w5 := hbl.trans (hb5.mono (by simp))
  obtain ⟨v6, w6, hr6, ho6, hb6⟩ := app_lit W w5 W.heap.size W.heap.size n v5 l e hB5 hB5.size (own_weaken ho5 (by simp)) ((Blk.new W 38 _).below' hb5) hn
  exact ⟨v5, w5, hr5, hB5, v6, w6, hr6, ho6, hb6⟩
theorem IsR.grown {w w1 : World} {g T c A1c : Nat} {A A1 : Option Addr} {l l2 : List E4} {a : Int} (h : IsR w g T A c l a) (hb : Below w.heap.size w w1) (ho : w1.ownsRow w.heap.size 38 4 (.slice A1 l2.length A1c) l2.length (BookEv.fl l2)) :
    IsR (w1.setCell ⟨g, 0, none⟩ (.slice A1 l2.length A1c)) g T A1 A1c l2 a ∧ Only [g] w (w1.setCell ⟨g, 0, none⟩ (.slice A1 l2.length A1c)) ∧ ∀ x, A1 = some x → w.heap.size ≤ x.block := by
  have ho' : BookEv.Own w1 w.heap.size (.slice A1 l2.length A1c) l2 := ho
  obtain ⟨A2, c2, he, hlc, hsrc, hbk⟩ := ho'.src
  obtain ⟨rfl, rfl⟩ : A1 = A2 ∧ A1c = c2 := by injection he with h1 _ h2; exact ⟨h1, h2⟩
  have hx : ∀ x, A1 = some x → w.heap.size ≤ x.block := fun x hx => own_base ho _ (hbk x hx)
  have hne : ∀ x, A1 = some x → x.block ≠ g := fun x h1 h2 => by
    have h3 := hx x h1
    have h4 := h.blk.lt
    omega
  exact ⟨⟨(h.blk.below' hb).set_ 0 _, hsrc.only ((Only.refl [g] w1).setCell _ _ (.inl (by simp))) (fun x h1 => by simpa using hne x h1), hlc, hne⟩, (Only.of_below [g] hb).setCell _ _ (.inl (by simp)), hx⟩
set_option maxHeartbeats 4000000 in
set_option maxRecDepth 100000 in
theorem radd_calls (g : Nat) (A : Option Addr) (c : Nat) (l es : List E4) (a : Int) (ad : Addr) (ce n : Nat) (w : World) (h : IsR w g 66 A c l a) (hn : es.length = n) (hsrc : BookEv.Src w (some ad) es.length es) (hce : n ≤ ce) (hg : ad.block ≠ g) (hl : l.length ≤ 40) (hnl : n ≤ 100000) :
    Calls Try.prog 26 #[.pointer (some ⟨g, 0, none⟩), .slice (some ad) n ce] w fun r w' => r = .returned (.int .i64 ((addE l.length es).length : Int)) ∧ ∃ A' c', Aside0 (IsR w' g 66 A' c' (l ++ addE l.length es) a) ∧ Aside0 (Only [g] w w') ∧ Aside0 (Whence w A A' l (l ++ addE l.length es)) := by
  have HN := Aside0.mk hn
  have HSRC := Aside0.mk hsrc
  have HG := Aside0.mk hg
  have HR0 := Aside0.mk h
  clear h hn hsrc hg
  go_enter Try.func26, Try.ntmps26
  go_wp2_with fail
  go_loopg [5] n (fun kq v5 wr => ∃ (i : Nat) (A' : Option Addr) (c' : Nat), v5 = .int .i64 (i : Int) ∧ Aside0 (i ≤ n ∧ kq = n - i ∧ addE l.length es = es.take i ++ addE (l.length + i) (es.drop i)) ∧ Aside0 (IsR wr g 66 A' c' (l ++ es.take i) a) ∧ Aside0 (Only [g] w wr) ∧ Aside0 (Whence w A A' l (l ++ es.take i)))
  case atStart => exact ⟨0, A, c, rfl, ⟨Nat.zero_le _, rfl, by simp⟩, ⟨by simpa using HR0.out⟩, ⟨Only.refl _ _⟩, ⟨.inl ⟨rfl, by simp⟩⟩⟩
  case round =>
    obtain ⟨i, A', c', rfl, ⟨hi, hkq, hadd⟩, HR, HO, HA'⟩ := hrel
    have HK := Aside0.mk hkq
    have HA := Aside0.mk hadd
    have hi0 : (0 : Int) ≤ (i : Int) := Int.natCast_nonneg _
    clear hkq hadd
    by_cases hlt : i < n
    · obtain ⟨e, he⟩ : ∃ e, es[i]? = some e := ⟨es[i]'(by have := HN.out; omega), by simp⟩
      have HE := Aside0.mk he
      have hiI : (i : Int) < (n : Int) := by omega
      obtain ⟨q0, q1, q2, q3⟩ := src_four (HSRC.out.only HO.out (fun x hx => by injection hx with hx; rw [← hx]; simpa using HG.out)) he
      clear he
      go_wp2_with fail
      refine (refEv_calls e _).mono ?_
      rintro e2 w2 ⟨rfl, hb2⟩
      have HR2 := Aside0.mk (HR.out.below hb2)
      have HO2 := Aside0.mk (HO.out.below hb2)
      have hli : (l ++ es.take i).length = l.length + i := by have := HN.out; simp; omega
      have hq : w2.cell? ⟨g, 0, none⟩ = some (.slice A' (l.length + i) c') := (HR2.out.blk.cell 0).trans (by rw [hli]; rfl)
      clear hb2 HR HO q0 q1 q2 q3
      cases hok : okE e with
      | false =>
        go_wp2
        go_ret
        obtain ⟨hE, hL⟩ := add_end HA.out (by rw [drop_at HE.out]; exact add_stop (.inl hok)) (by have := HN.out; omega)
        rw [hE, hL]
        exact ⟨rfl, A', c', HR2, HO2, HA'⟩
      | true =>
        by_cases hroom : l.length + i < 40
        · have hroomI : (l.length : Int) + (i : Int) < 40 := by omega
          have HRD := Aside0.mk (HR2.out.below (below_drew (Below.refl w2.heap.size w2)))
          have hsD := HRD.out.src
          have hlc := HRD.out.lc
          rw [hli] at hsD hlc
          have hl2 : (l ++ es.take i ++ [e]).length = l.length + i + 1 := by simp only [List.length_append, List.length_singleton] at hli ⊢; omega
          obtain ⟨v4, w4, hr4, hb4, v7, w7, hr7, ho7, hb7⟩ := app_a w2.drew A' (l.length + i) c' (l ++ es.take i) e hsD hlc (by omega)
          obtain ⟨v5, w5, hr5, hb5, v6, w6, hr6, ho6, hb6⟩ := app_b w2.drew A' (l.length + i) c' (l ++ es.take i) e hsD hlc (by omega)
          obtain ⟨A7, C7, rfl⟩ := row_sl ho7
          obtain ⟨A6, C6, rfl⟩ := row_sl ho6
          have HSR2 := HSRC.out.only HO2.out (fun x hx => by injection hx with hx; rw [← hx]; simpa using HG.out)
          obtain ⟨q0, q1, q2, q3⟩ := src_four HSR2 HE.out
          obtain ⟨p0, p1, p2, p3⟩ := src_four (HSR2.below ((below_drew (Below.refl w2.heap.size w2)).trans (hb4.mono (Nat.le_refl _)))) HE.out
          have hqb : (w2.alloc (.cells #[.int .i64 e.k, .string e.s, .int .i64 e.x, .int .i64 e.y] 38)).cell? ⟨g, 0, none⟩ = some (.slice A' (l.length + i) c') := ((HR2.out.blk.alloc _).cell 0).trans (by rw [hli]; rfl)
          have hqa : (w2.drew.alloc (litE e)).cell? ⟨g, 0, none⟩ = some (.slice A' (l.length + i) c') := ((HRD.out.blk.alloc _).cell 0).trans (by rw [hli]; rfl)
          have c7 : w7.cell? ⟨g, 0, none⟩ = some (.slice A' (l.length + i) c') := ((HRD.out.blk.below' hb7).cell 0).trans (by rw [hli]; rfl)
          have c6 : w6.cell? ⟨g, 0, none⟩ = some (.slice A' (l.length + i) c') := ((HRD.out.blk.below' hb6).cell 0).trans (by rw [hli]; rfl)
          have f7 := (HRD.out.blk.below' hb7).frozen 0
          have f6 := (HRD.out.blk.below' hb6).frozen 0
          have HG7 := Aside0.mk (HRD.out.grown (l2 := l ++ es.take i ++ [e]) (A1 := A7) (A1c := C7) hb7 (by rw [hl2]; exact ho7))
          have HG6 := Aside0.mk (HRD.out.grown (l2 := l ++ es.take i ++ [e]) (A1 := A6) (A1c := C6) hb6 (by rw [hl2]; exact ho6))
          have HR4 := Aside0.mk hr4
          have HR5 := Aside0.mk hr5
          have HR6 := Aside0.mk hr6
          have HR7 := Aside0.mk hr7
          have hE1 : l ++ es.take i ++ [e] = l ++ es.take (i + 1) := by rw [take_at HE.out, List.append_assoc]
          have HADD := Aside0.mk (show addE l.length es = es.take (i + 1) ++ addE (l.length + (i + 1)) (es.drop (i + 1)) by
            rw [HA.out, drop_at HE.out, take_at HE.out]
            conv => lhs; rw [addE, if_pos ⟨hok, hroom⟩]
            simp [Nat.add_assoc])
          rw [hl2, hE1] at HG7 HG6
          clear hE1
          clear hr4 hr5 hr6 hr7 ho6 ho7 hb4 hb5 hb6 hb7 hsD HSR2 hl2 hli hlc
          go_upto_region 3 with (fail)
          go_region_law (first
            | refine step_append_of (by kernel_rfl) (.const (.slice none 0 0)) (.tmp 29) 24 _ _ rfl rfl rfl HR4.out ?_
            | refine step_append_of (by kernel_rfl) (.const (.slice none 0 0)) (.tmp 29) 24 _ _ rfl rfl rfl HR5.out ?_
            | refine step_append_of (by kernel_rfl) (.tmp 30) (.tmp 35) 24 _ _ rfl rfl rfl HR7.out ?_
            | refine step_append_of (by kernel_rfl) (.tmp 30) (.tmp 35) 24 _ _ rfl rfl rfl HR6.out ?_)
          all_goals
            go_wp2
            go_roundg (n - (i + 1))
            case measure => have := HK.out; omega
            case rel => first
              | exact ⟨i + 1, A7, C7, by go_num, ⟨by omega, rfl, HADD.out⟩, ⟨HG7.out.1⟩, ⟨HO2.out.drew.trans HG7.out.2.1⟩, ⟨.inr ⟨by rw [take_at HE.out]; simp, fun x hx => Nat.le_trans HO2.out.size (HG7.out.2.2 x hx)⟩⟩⟩
              | exact ⟨i + 1, A6, C6, by go_num, ⟨by omega, rfl, HADD.out⟩, ⟨HG6.out.1⟩, ⟨HO2.out.drew.trans HG6.out.2.1⟩, ⟨.inr ⟨by rw [take_at HE.out]; simp, fun x hx => Nat.le_trans HO2.out.size (HG6.out.2.2 x hx)⟩⟩⟩
        · have hroomI : ¬ (l.length : Int) + (i : Int) < 40 := by omega
          go_wp2
          go_ret
          obtain ⟨hE, hL⟩ := add_end HA.out (by rw [drop_at HE.out]; exact add_stop (.inr hroom)) (by have := HN.out; omega)
          rw [hE, hL]
          exact ⟨rfl, A', c', HR2, HO2, HA'⟩
    · have hiI : ¬ (i : Int) < (n : Int) := by omega
      go_wp2
      go_ret
      obtain ⟨hE, hL⟩ := add_end HA.out (by rw [List.drop_of_length_le (by have := HN.out; omega)]; rfl) (by have := HN.out; omega)
      rw [hE, hL]
      exact ⟨rfl, A', ⟨c', HR⟩, HO, HA'⟩
end Go.Proofs.Ytjjjinpmflghmaa.Keys
