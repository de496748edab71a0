/- The walk of HostPlays. Conditions: those in each theorem. -/
import Derived.Test.YtmdhiimgeocgeaaHostS
import Derived.OpenShut
namespace Go.Proofs.Ytmdhiimgeocgeaa.Host
open Go.RowKit Go.Proofs.Ytmdhiimgeocgeaa.Mem Go.Proofs.Ytmdhiimgeocgeaa.Row Go.Proofs.Ytmdhiimgeocgeaa.Tally Go.Proofs.Ytmdhiimgeocgeaa.Obj Go.Proofs.Ytmdhiimgeocgeaa.Opens Go.Proofs.YtmdhiimgeocgeaaW.PrintWords Go.Proofs.YtmdhiimgeocgeaaW.PrintMore Go.Proofs.YtmdhiimgeocgeaaW.PrintLast Go.Proofs.Ytmdhiimgeocgeaa.PHostPlays
open Go.Proofs.Ytmdhiimgeocgeaa.BookTx (BK LS foot mem_foot Own)
attribute [local go_sem] min2_i max2_i max_two min_two
set_option linter.unusedVariables false
set_option linter.unusedSimpArgs false
/-- What holds of the numbers behind i calls. -/
structure HQ (i : Nat) (on : Bool) (said : ByteArray) (b : Bool) (hr room tries : Int) (hl : List ByteArray) (L : LS) : Prop where
  t0 : 0 ≤ tries
  t1 : tries ≤ i
  n : hl.length ≤ i
  z : ∀ x ∈ hl, x.size ≤ 300 * i
  s : said.size ≤ 20000
  o : on = true → hl ≠ []
  b : b = decide (0 ≤ room)
  r : 0 ≤ room → hr = room
  r0 : 0 ≤ hr
  r1 : hr ≤ 9223372036854775807
  r2 : -1 ≤ room
  r3 : room ≤ 9223372036854775807
  k : L.length ≤ i
theorem HQ.up {i : Nat} {on : Bool} {said : ByteArray} {b : Bool} {hr room tries : Int} {hl : List ByteArray} {L : LS} (h : HQ i on said b hr room tries hl L) : HQ (i + 1) on said b hr room tries hl L :=
  ⟨h.t0, by have := h.t1; omega, by have := h.n; omega, fun x hx => by have := h.z x hx; omega, h.s, h.o, h.b, h.r, h.r0, h.r1, h.r2, h.r3, by have := h.k; omega⟩
theorem HQ.con {i : Nat} {on : Bool} {said : ByteArray} {b : Bool} {hr room tries : Int} {hl : List ByteArray} {L : LS} (h : HQ i on said b hr room tries hl L) : HQ (i + 1) true said b hr room (tries + 1) (hl ++ [⟨#[]⟩]) L := by
  have h0 := h.t0
  have h1 := h.t1
  have h2 := h.n
  refine { h.up with t0 := by omega, t1 := by omega, n := by simp; omega, z := fun y hy => ?_, o := fun _ => by simp }
  rcases List.mem_append.1 hy with hy | hy
  · have := h.z y hy
    omega
  · rw [List.mem_singleton.1 hy]
    exact Nat.zero_le _
theorem HQ.said_ {i : Nat} {on : Bool} {said said' : ByteArray} {b : Bool} {hr room tries : Int} {hl : List ByteArray} {L : LS} (h : HQ i on said b hr room tries hl L) (hs : said'.size ≤ 20000) : HQ (i + 1) on said' b hr room tries hl L := { h.up with s := hs }
theorem HQ.wrote {i n : Nat} {on : Bool} {said : ByteArray} {b : Bool} {hr room tries : Int} {l : List ByteArray} {y s : ByteArray} {L : LS} (h : HQ i on said b hr room tries (l ++ [y]) L) (hs : s.size ≤ 300) (hn : (n : Int) ≤ s.size) (hr2 : 0 ≤ room → (n : Int) ≤ room) (hr3 : 0 ≤ room → (n : Int) ≤ hr) :
    HQ (i + 1) on said b (if b then hr - (n : Int) else hr) (if b then room - (n : Int) else room) tries (l ++ [y ++ s.extract 0 n]) L := by
  have h1 := h.r0
  have h2 := h.r1
  have h3 := h.r2
  have h4 := h.r3
  have hz := h.z y (by simp)
  have hb := h.b
  have hr1 := h.r
  have hn0 : (0 : Int) ≤ (n : Int) := Int.natCast_nonneg _
  have hlen := h.n
  refine { h.up with z := fun x hx => ?_, o := fun _ => by simp, n := by simp at hlen ⊢; omega, b := ?_, r := fun hh => ?_, r0 := ?_, r1 := ?_, r2 := ?_, r3 := ?_ }
  · rcases List.mem_append.1 hx with hx | hx
    · have := h.z x (by simp [hx])
      omega
    · rw [List.mem_singleton.1 hx, ByteArray.size_append]
      have : (s.extract 0 n).size ≤ 300 := by simp; omega
      omega
  all_goals
    by_cases hp : 0 ≤ room
    · have e : b = true := by rw [hb]; simpa using hp
      simp only [e, if_true] at *
      have := hr1 hp
      have := hr2 hp
      first | omega | (symm; exact decide_eq_true (by omega))
    · have e : b = false := by rw [hb]; simpa using hp
      simp only [e] at *
      first | omega | (symm; exact decide_eq_false (by simpa using hp)) | (simp at *; omega)
theorem fs_fl (l : List ByteArray) : fs l = BookTx.fl l := by
  unfold fs BookTx.fl
  induction l with
  | nil => rfl
  | cons a l ih => rw [List.map_cons, List.flatMap_cons, ih]; rfl
theorem C_src {w : World} {A : Option Addr} {n : Nat} {l : List ByteArray} (h : Kd.string.C w A n l) : BookTx.Src w A n l := by
  obtain ⟨h1, _, h2⟩ := h
  refine ⟨h1, ?_⟩
  by_cases h0 : n = 0
  · exact .inl h0
  · obtain ⟨ad, hA, hc⟩ := h2 (by omega)
    refine .inr ⟨ad, hA, fun j v hv => ?_⟩
    have hj : j < l.length := by
      have := (List.getElem?_eq_some_iff.1 hv).1
      rw [BookTx.fl_len] at this
      omega
    obtain ⟨c, _, hK, hcell⟩ := hc j _ (List.getElem?_eq_getElem hj)
    have hK' : c = [Value.string l[j]] := hK
    subst hK'
    have h3 := hcell 0 _ rfl
    have h4 := fl_at BookTx.vals_len (List.getElem?_eq_getElem hj) (j := 0) (by decide)
    rw [Nat.mul_one, Nat.add_zero] at h4
    have h5 : v = .string l[j] := by
      have h6 : (BookTx.fl l)[j]? = some (.string l[j]) := h4.trans rfl
      rw [hv] at h6
      injection h6
    have h7 : w.cell? (ad.add (j * 1 + 0)) = some (.string l[j]) := h3
    rw [Nat.mul_one, Nat.add_zero] at h7
    rw [h5]
    exact h7
theorem takeH {P : Program} {md : Region.Mode} {ops : Array Oper} {Q : Exit → Act → World → Prop} {S : World → Prop} {i d : Nat} {oi : Oper} {v : Value} {fuel : Nat} {listed : Array Bool} {a : Act} {w : World} (hi : ops[i]? = some oi) (hd : oi.dst = some d)
    (hs : Region.noSelect ops = true) (hf : Region.free md ops listed i = true) (hr : (Region.ready md ops listed).contains i = true)
    (hQ : ∀ c a w, Q (.panic c) (a.put oi.dst v) w → Q (.panic c) a w) (hy : YieldsIf P ops S oi v a) (hS : S w)
    (h : wpAnyH P md ops Q S fuel (listed.setIfInBounds i true) { a with tmps := a.tmps.setIfInBounds d v } w) : wpAnyH P md ops Q S (fuel + 1) listed a w :=
  wpAnyH_take hi hs hf hr hQ hy hS (by rw [hd]; exact h)
/-- A call's own copy stays. -/
theorem blk_turn {w w' : World} {g gx : Nat} {hv hv' : Value} {h : HS} {cs : Array Value} (hx : Blk w gx 61 cs) (k : IsHost w g hv h) (t : Turn g hv w w' hv') : Blk w' gx 61 cs :=
  hx.only t.o (fun hm => by
    rcases List.mem_cons.1 hm with rfl | hm
    · exact hx.ne_ k.blk (by decide) rfl
    · exact own_ne k.row hx (by decide) (show hv.ownBlock = some gx by simpa using hm).symm)
theorem HP.init (w w0 : World) (hb : Below w.heap.size w w0) : HP w w0.heap.size (w0.heap.size + 1) (.slice none 0 0) ⟨false, false, ⟨#[]⟩, false, 0, [], 0⟩ (.slice none 0 0) [] (.slice none 0 0) (.slice none 0 0) [] []
    ((w0.alloc (.cells #[.bool false, .bool false, .string ⟨#[]⟩, .bool false, .int .i64 0, .slice none 0 0, .int .i64 0] 48)).alloc (.cells (BookTx.bookCells (.slice none 0 0) (.slice none 0 0)) 59)) := by
  have b1 := Blk.new w0 48 #[.bool false, .bool false, .string ⟨#[]⟩, .bool false, .int .i64 0, .slice none 0 0, .int .i64 0]
  have b2 := Blk.new (w0.alloc (.cells #[.bool false, .bool false, .string ⟨#[]⟩, .bool false, .int .i64 0, .slice none 0 0, .int .i64 0] 48)) 59 (BookTx.bookCells (.slice none 0 0) (.slice none 0 0))
  rw [World.size_alloc] at b2
  have hs := hb.size
  refine ⟨⟨b1.alloc _, own_nil _ _ _ _⟩, BK.new b2, own_nil _ _ _ _, ⟨fun f hf b hb => ?_, fun i j f f' hf hf' hij b hb hb2 => ?_⟩, below_alloc (below_alloc hb _) _, rfl⟩
  · simp [foot, Value.ownBlock] at hf
    rcases hf with rfl | rfl | rfl
    · simp at hb; subst hb; simp; omega
    · simp at hb; subst hb; simp; omega
    · simp at hb
  · match i, j, hf, hf' with
    | 0, 1, hf, hf' => simp [foot, Value.ownBlock] at hf hf'; subst hf hf'; simp at hb hb2; omega
    | 1, 0, hf, hf' => simp [foot, Value.ownBlock] at hf hf'; subst hf hf'; simp at hb hb2; omega
    | 2, _, hf, _ => simp [Value.ownBlock] at hf; subst hf; simp at hb
    | 0, 2, _, hf' => simp [Value.ownBlock] at hf'; subst hf'; simp at hb2
    | 1, 2, _, hf' => simp [Value.ownBlock] at hf'; subst hf'; simp at hb2
    | 0, 0, _, _ => exact absurd rfl hij
    | 1, 1, _, _ => exact absurd rfl hij
set_option maxHeartbeats 16000000 in
set_option maxRecDepth 100000 in
theorem hplays_live (A0 : Option Addr) (c0 : Nat) (l : List HOp) (w : World) (hC : Kd.C kHop w A0 l.length l) (hw : ∀ x ∈ l, WfHop x) (hl80 : l.length ≤ 80) :
    Calls Try.prog 6 #[.slice A0 l.length c0] w fun r w' => r = .returned (.bool true) ∧ Below w.heap.size w w' := by
  have HC := Aside0.mk hC
  have HWF := Aside0.mk hw
  have hl80I : ¬ (80 < (l.length : Int)) := by omega
  obtain ⟨N, hN⟩ : ∃ N, N = l.length := ⟨_, rfl⟩
  have HN := Aside0.mk hN
  rw [← hN] at hl80I hl80 ⊢
  clear hC hw hN
  go_enter Try.func6, Try.ntmps6
  go_wp2_with fail
  refine (alive25 _).mono ?_
  rintro e0 w0 ⟨rfl, hb0⟩
  have HB0 := Aside0.mk hb0
  clear hb0
  have HP0 := Aside0.mk (HP.init w w0 HB0.out)
  go_upto_block 0 with (fail)
  go_wp2_with fail
  obtain ⟨WB, hWB⟩ : ∃ WB, WB = (w0.alloc (.cells #[.bool false, .bool false, .string ⟨#[]⟩, .bool false, .int .i64 0, .slice none 0 0, .int .i64 0] 48)).alloc (.cells (BookTx.bookCells (.slice none 0 0) (.slice none 0 0)) 59) := ⟨_, rfl⟩
  rw [← hWB] at HP0
  change _ ; simp only [show (w0.alloc (.cells #[.bool false, .bool false, .string ⟨#[]⟩, .bool false, .int .i64 0, .slice none 0 0, .int .i64 0] 48)).alloc (.cells #[.slice none 0 0, .slice none 0 0, .slice none 0 0, .slice none 0 0, .slice none 0 0, .slice none 0 0, .slice none 0 0, .slice none 0 0, .slice none 0 0, .slice none 0 0, .slice none 0 0, .slice none 0 0, .slice none 0 0, .slice none 0 0, .slice none 0 0, .slice none 0 0] 59) = WB from hWB.symm]
  clear hWB HB0
  obtain ⟨g, hg⟩ : ∃ g, g = w0.heap.size := ⟨_, rfl⟩
  rw [← hg] at HP0 ⊢
  clear hg
  go_loopg [4, 5, 6, 7, 8, 9, 11] N (fun kq v4 v5 v6 v7 v8 v9 v11 wr => ∃ (i : Nat) (lis on : Bool) (said : ByteArray) (room tries : Int) (hl : List ByteArray) (A9 : Option Addr) (c9 : Nat) (b : Bool) (hr : Int) (hv vx vw : Value) (L Lw : LS), v4 = .bool lis ∧ v5 = .bool on ∧ v6 = .string said ∧ v7 = .int .i64 room ∧ v8 = .int .i64 tries ∧ v9 = .slice A9 hl.length c9 ∧ v11 = .int .i64 (i : Int) ∧ Aside0 (i ≤ N ∧ kq = N - i) ∧ Aside0 (HQ i on said b hr room tries hl L) ∧ Aside0 (HP w g (g + 1) hv ⟨lis, on, said, b, hr, hl, tries⟩ (.slice A9 hl.length c9) hl vx vw L Lw wr))
  case atStart => exact ⟨0, false, false, ⟨#[]⟩, -1, 0, [], none, 0, false, 0, _, _, _, [], [], rfl, rfl, rfl, rfl, rfl, rfl, rfl, ⟨Nat.zero_le _, rfl⟩, ⟨⟨by decide, by decide, by decide, by simp, by decide, by simp, by decide, by decide, by decide, by decide, by decide, by decide, by decide⟩⟩, HP0⟩
  case round =>
    obtain ⟨i, lis, on, said, room, tries, hl, A9, c9, b, hr, hv, vx, vw, L, Lw, rfl, rfl, rfl, rfl, rfl, rfl, rfl, HI, HQQ, HPP⟩ := hrel
    clear HP0
    have hi0 : (0 : Int) ≤ (i : Int) := Int.natCast_nonneg _
    by_cases hlt : i < N
    · have hltI : (i : Int) < (N : Int) := by omega
      obtain ⟨x, hx⟩ : ∃ x, l[i]? = some x := ⟨l[i]'(by rw [← HN.out]; exact hlt), by simp⟩
      have hxm := List.mem_of_getElem? hx
      obtain ⟨ad, At, ct, rfl, z0, z1, z2, z3, hct, hT⟩ := hop_at HC.out hx
      have y0 := pw_cell_below HPP.out.bel z0
      have y1 := pw_cell_below HPP.out.bel z1
      have y2 := pw_cell_below HPP.out.bel z2
      have y3 := pw_cell_below HPP.out.bel z3
      clear z0 z1 z2 z3
      have HT := Aside0.mk hT
      have HX := Aside0.mk (HWF.out x hxm)
      have HXI := Aside0.mk hx
      clear hx hxm hT
      have HBL := Aside0.mk HPP.out.bel
      by_cases h300 : x.s.size ≤ 300
      · have h300I : ¬ (300 < (x.s.size : Int)) := by omega
        obtain ⟨bs, hbs, hbs2⟩ := short_ok 10 300 x.t (by omega) (by omega)
        have HBS := Aside0.mk hbs
        have HBS2 := Aside0.mk hbs2
        clear hbs hbs2
        have HXB := Aside0.mk (Blk.new wr 61 #[.int .i64 x.k, .int .i64 x.n, .string x.s, .slice At x.t.length ct])
        have HP1 := Aside0.mk (HPP.out.below (below_alloc (Below.refl _ _) (.cells #[.int .i64 x.k, .int .i64 x.n, .string x.s, .slice At x.t.length ct] 61)))
        go_wp2_with fail
        refine (pontoonbook_Short.calls _ 10 300 At ct x.t bs _ (Kd.C_below HT.out HP1.out.bel) hct HBS.out).mono ?_
        rintro e2 w2 ⟨rfl, hb2⟩
        have HP2 := Aside0.mk (HP1.out.below hb2)
        have HXB2 := Aside0.mk (HXB.out.below' hb2)
        clear hb2 y0 y1 y2 y3 HP1 HXB
        obtain ⟨gx, hgx⟩ : ∃ gx, gx = wr.heap.size := ⟨_, rfl⟩
        rw [← hgx] at HXB2 ⊢
        clear hgx
        cases bs with
        | false =>
          go_wp2
          go_ret
          exact ⟨rfl, HP2.out.bel⟩
        | true =>
          obtain ⟨hT1, hT2⟩ := HBS2.out rfl
          have HTT := Aside0.mk (And.intro hT1 hT2)
          clear hT1 hT2
          have q0 : w2.cell? ⟨gx, 0, none⟩ = some (.int .i64 x.k) := (HXB2.out.cell 0).trans rfl
          go_upto_block 2 with (fail)
          clear q0
          obtain ⟨K, hK⟩ : ∃ K, K = x.k := ⟨_, rfl⟩
          rw [← hK] at HXB2 ⊢
          clear hK
          go_cut [4, 5, 6, 7, 8, 9, 13] from 34 to 223 (fun v4 v5 v6 v7 v8 v9 v13 wc => ∃ (lis on : Bool) (said : ByteArray) (room tries : Int) (hl : List ByteArray) (A9 : Option Addr) (c9 : Nat) (b : Bool) (hr : Int) (hv : Value), v4 = .bool lis ∧ v5 = .bool on ∧ v6 = .string said ∧ v7 = .int .i64 room ∧ v8 = .int .i64 tries ∧ v9 = .slice A9 hl.length c9 ∧ v13 = .bool true ∧ Aside0 (HQ (i + 1) on said b hr room tries hl L) ∧ Aside0 (HP w g (g + 1) hv ⟨lis, on, said, b, hr, hl, tries⟩ (.slice A9 hl.length c9) hl vx vw L Lw wc))
          case first =>
            obtain ⟨hn0, hn1⟩ := bounds_i64 HX.out
            by_cases hk1 : K = 1
            · skip
              as_aux_lemma =>
                -- @done
                subst hk1
                have q1 : w2.cell? ⟨gx, 1, none⟩ = some (.int .i64 x.n) := (HXB2.out.cell 1).trans rfl
                go_wp2_with fail
                refine (listen_calls _ _ HP2.out.k).mono ?_
                rintro e3 w3 ⟨rfl, k3, t3⟩
                have HP3 := Aside0.mk (HP2.out.turn k3 t3)
                clear k3 t3 q1
                go_wp2
                go_meet
                case rel => exact ⟨_, on, said, room, tries, hl, A9, c9, b, hr, hv, rfl, rfl, rfl, rfl, rfl, rfl, rfl, ⟨HQQ.out.up⟩, HP3⟩
                -- @end
            by_cases hk3 : K = 3
            · skip
              as_aux_lemma =>
                -- @done
                subst hk3
                go_wp2_with fail
                refine (break_calls _ HP2.out.k).mono ?_
                rintro e3 w3 ⟨rfl, k3, t3⟩
                have HP3 := Aside0.mk (HP2.out.turn k3 t3)
                clear k3 t3
                go_wp2
                go_meet
                case rel => exact ⟨lis, false, ⟨#[]⟩, room, tries, hl, A9, c9, b, hr, hv, rfl, rfl, rfl, rfl, rfl, rfl, rfl, ⟨{ HQQ.out.up with s := by decide, o := fun h => by cases h }⟩, HP3⟩
                -- @end
            by_cases hk6 : K = 6
            · skip
              as_aux_lemma =>
                -- @done
                subst hk6
                have q1 : w2.cell? ⟨gx, 1, none⟩ = some (.int .i64 x.n) := (HXB2.out.cell 1).trans rfl
                go_wp2_with fail
                refine (room_calls _ _ HP2.out.k).mono ?_
                rintro e3 w3 ⟨rfl, k3, t3⟩
                have HP3 := Aside0.mk (HP2.out.turn k3 t3)
                have q1 : w3.cell? ⟨gx, 1, none⟩ = some (.int .i64 x.n) := ((blk_turn HXB2.out HP2.out.k t3).cell 1).trans rfl
                clear k3 t3
                go_wp2
                go_meet
                case rel => exact ⟨lis, on, said, max x.n (-1), tries, hl, A9, c9, decide (0 ≤ x.n), max x.n 0, hv, rfl, rfl, rfl, rfl, rfl, rfl, rfl, ⟨{ HQQ.out.up with b := decide_eq_decide.mpr ⟨fun h => by omega, fun h => by omega⟩, r := fun h => by omega, r0 := by omega, r1 := by omega, r2 := by omega, r3 := by omega }⟩, HP3⟩
                -- @end
            by_cases hk2 : K = 2
            · skip
              as_aux_lemma =>
                -- @done
                subst hk2
                have hq := HQQ.out
                have ht0 := hq.t0
                have ht1 := hq.t1
                have htb : tries ≤ 1000000000000 := by omega
                clear hq
                by_cases hcan : (lis && !on) = true
                · obtain ⟨rfl, rfl⟩ : lis = true ∧ on = false := by simpa using hcan
                  clear hcan
                  go_wp2_with fail
                  refine (connect_yes _ HP2.out.k ht0 htb (by have := HQQ.out.n; simp only; omega) rfl rfl).mono ?_
                  rintro e3 w3 ⟨rfl, hv3, k3, t3⟩
                  have HP3 := Aside0.mk (HP2.out.turn k3 t3)
                  clear k3 t3
                  obtain ⟨A4, c4, he4, hlc4, hsrc4, _⟩ := HP3.out.hd.src
                  obtain ⟨rfl, rfl⟩ : A9 = A4 ∧ c9 = c4 := by injection he4 with h1 _ h2; exact ⟨h1, h2⟩
                  obtain ⟨v4, w4, hr4, ho4, hb4⟩ := BookTx.copy_run A9 hl.length c9 hl w3 hsrc4 hlc4 (by have := HQQ.out.n; omega)
                  obtain ⟨A5, c5, rfl⟩ := row_sl ho4
                  have HR4 := Aside0.mk hr4
                  have HO4 := Aside0.mk ho4
                  have HB4 := Aside0.mk hb4
                  clear he4 hlc4 hsrc4 hr4 ho4 hb4
                  go_wp2_with (first | (at_builtin; refine Aside0.out ?_))
                  refine ⟨?_⟩
                  refine BookTx.append_of rfl (.const (.slice none 0 0)) (.tmp 115) 22 22 (.slice none 0 0) (.slice A9 hl.length c9) rfl rfl rfl HR4.out ?_
                  go_wp2_with (first | (at_builtin; refine Aside0.out ?_))
                  refine ⟨?_⟩
                  refine print_append_cells (w0 := w3) (W := w4) w3.heap.size rfl (.tmp 116) (.tmp 117) 22 9 _ 1 16 rfl Try.underlying22 infoS rfl (by decide) (by decide) (.slice A5 hl.length c5) hl.length (BookTx.fl hl) [.string ⟨#[]⟩] rfl rfl rfl (fs_one [⟨#[]⟩]) HO4.out HB4.out HB4.out.size (by have := HQQ.out.n; omega) ?_
                  intro v6 w6 ho6 hB6 hg6 hb6
                  obtain ⟨A6, c6, rfl⟩ := row_sl ho6
                  have HL6 := Aside0.mk (show HP w g (g + 1) hv3 ⟨true, true, said, b, hr, hl ++ [⟨#[]⟩], tries + 1⟩ (.slice A6 (hl ++ [ByteArray.mk #[]]).length c6) (hl ++ [⟨#[]⟩]) vx vw L Lw w6 from HP3.out.list hB6 (by
                    unfold BookTx.Own
                    rw [BookTx.fl_app, show (hl ++ [ByteArray.mk #[]]).length = hl.length + 1 by simp]
                    exact ho6))
                  have hln : hl.length + 1 = (hl ++ [ByteArray.mk #[]]).length := by simp
                  have HLN := Aside0.mk hln
                  clear ho6 hB6 hg6 hb6 hln
                  go_wp2
                  go_meet
                  case rel => exact ⟨true, true, said, room, tries + 1, hl ++ [⟨#[]⟩], A6, c6, b, hr, hv3, rfl, rfl, rfl, rfl, rfl, by rw [HLN.out], rfl, ⟨HQQ.out.con⟩, HL6⟩
                · have hcan2 : (lis && !on) = false := by simpa using hcan
                  have hcc : (lis && !on) = false := hcan2
                  have HCC := Aside0.mk hcc
                  clear hcan hcan2 hcc
                  cases lis with
                  | false =>
                    go_wp2_with fail
                    refine (connect_no _ HP2.out.k ht0 htb HCC.out).mono ?_
                    rintro e3 w3 ⟨rfl, k3, t3⟩
                    have HP3 := Aside0.mk (HP2.out.turn k3 t3)
                    clear k3 t3
                    go_wp2
                    go_meet
                    case rel => exact ⟨false, on, said, room, tries + 1, hl, A9, c9, b, hr, hv, rfl, rfl, rfl, rfl, rfl, rfl, rfl, ⟨{ HQQ.out.up with t0 := by omega, t1 := by omega }⟩, HP3⟩
                  | true =>
                    obtain rfl : on = true := by have := HCC.out; simpa using this
                    go_wp2_with fail
                    refine (connect_no _ HP2.out.k ht0 htb HCC.out).mono ?_
                    rintro e3 w3 ⟨rfl, k3, t3⟩
                    have HP3 := Aside0.mk (HP2.out.turn k3 t3)
                    clear k3 t3
                    go_wp2
                    go_meet
                    case rel => exact ⟨true, true, said, room, tries + 1, hl, A9, c9, b, hr, hv, rfl, rfl, rfl, rfl, rfl, rfl, rfl, ⟨{ HQQ.out.up with t0 := by omega, t1 := by omega }⟩, HP3⟩
                -- @end
            by_cases hk4 : K = 4
            · skip
              as_aux_lemma =>
                -- @done
                subst hk4
                have hsrcT : BookTx.Src w2 At x.t.length x.t := C_src (Kd.C_below HT.out HP2.out.bel)
                obtain ⟨j, hj⟩ : ∃ j, j = joinS x.t := ⟨_, rfl⟩
                have hjs : j.size ≤ 300 := by rw [hj, sumS_eq]; exact HTT.out.2
                have HJ := Aside0.mk hj
                have hT10 := HTT.out.1
                have q3 : w2.cell? ⟨gx, 3, none⟩ = some (.slice At x.t.length ct) := (HXB2.out.cell 3).trans rfl
                clear hj
                go_wp2_with fail
                refine (BookTx.lent_calls At x.t.length ct x.t w2 hsrcT hct (by omega)).mono ?_
                rintro e3 w3 ⟨gm, cm, rfl, hL3, hb3⟩
                have HP3 := Aside0.mk (HP2.out.below hb3)
                have HX3 := Aside0.mk (HXB2.out.below' hb3)
                have HL3 := Aside0.mk hL3
                have HLT := Aside0.mk (show ∀ k, hv.ownBlock = some k → k < gm from fun k hk => Nat.lt_of_lt_of_le (own_lt HP2.out.k.row k hk) hL3.1)
                have HGM := Aside0.mk (show g < gm from Nat.lt_of_lt_of_le HP2.out.k.blk.lt hL3.1)
                have q3 : w3.cell? ⟨gx, 3, none⟩ = some (.slice At x.t.length ct) := (HX3.out.cell 3).trans rfl
                have hcm := hL3.2.1
                clear hb3 hL3 hsrcT
                go_wp2_with fail
                refine (pontoonbook_Join.calls _ At ct x.t (joinS x.t) _ (Kd.C_below HT.out HP3.out.bel) hct (join_ok x.t (by omega) (by have := HTT.out.2; omega))).mono ?_
                rw [← HJ.out]
                rintro e4 w4 ⟨rfl, hd4⟩
                have HP4 := Aside0.mk (HP3.out.below hd4.below)
                have HX4 := Aside0.mk (HX3.out.below' hd4.below)
                have HL4 := Aside0.mk (HL3.out.below hd4.below)
                clear hd4 q3
                have hs0 := HQQ.out.s
                by_cases hon : on = true
                · subst hon
                  by_cases hfit : said.size + j.size ≤ 20000
                  · have hfitI : (said.size : Int) + (j.size : Int) ≤ 20000 := by omega
                    have HCAN := Aside0.mk (show (HS.mk lis true said b hr hl tries).can j = true by simp [HS.can, hfit])
                    have hsay := say_calls (some ⟨gm, 0, none⟩) cm x.t w4 HP4.out.k (fun W hW => join_calls gm 0 cm x.t W (fun j' y hy => by
                      have hs := (HL4.out.below hW).src
                      rcases hs.2 with h0 | ⟨ad2, h1, h2⟩
                      · have := (List.getElem?_eq_some_iff.1 hy).1; omega
                      · injection h1 with h1
                        subst h1
                        have h3 := h2 j' (.string y) (by
                          have h4 := fl_at BookTx.vals_len hy (j := 0) (by decide)
                          rw [Nat.mul_one, Nat.add_zero] at h4
                          exact h4.trans rfl)
                        rw [BookTx.add0] at h3
                        rw [Nat.zero_add]
                        exact h3) (HL4.out.below hW).lt (by omega) (by omega) (by rw [← HJ.out]; omega)) (by have := HQQ.out.s; simp only; omega) (by rw [← HJ.out]; omega)
                    rw [← HJ.out, HCAN.out, if_pos rfl] at hsay
                    go_wp2_with fail
                    refine hsay.mono ?_
                    clear hsay
                    rintro e5 w5 ⟨rfl, k5, t5⟩
                    have HP5 := Aside0.mk (HP4.out.turn k5 t5)
                    have HX5 := Aside0.mk (blk_turn HX4.out HP4.out.k t5)
                    have HL5 := Aside0.mk (HL4.out.only t5.o (fun hm => by
                      rcases List.mem_cons.1 hm with h1 | h1
                      · have := HGM.out; omega
                      · have := HLT.out gm (by simpa using h1); omega))
                    clear k5 t5
                    have q3 : w5.cell? ⟨gx, 3, none⟩ = some (.slice At x.t.length ct) := (HX5.out.cell 3).trans rfl
                    go_wp2_with fail
                    refine (BookTx.stays_calls _ gm cm At x.t.length ct x.t w5 HL5.out (C_src (Kd.C_below HT.out HP5.out.bel)) hct (by omega)).mono ?_
                    rintro e6 w6 ⟨rfl, n6, hw6⟩
                    have HP6 := Aside0.mk (HP5.out.below (show Below w5.heap.size w5 w6 by rw [← hw6]; exact BookTx.below_dn w5 n6))
                    clear q3 hw6
                    go_wp2
                    go_meet
                    case rel => exact ⟨lis, true, said ++ j, room, tries, hl, A9, c9, b, hr, hv, rfl, rfl, rfl, rfl, rfl, rfl, rfl, ⟨HQQ.out.said_ (by rw [ByteArray.size_append]; exact hfit)⟩, HP6⟩
                  · have hfitI : (20000 : Int) < (said.size : Int) + (j.size : Int) := by omega
                    have hfd : decide ((said.size : Int) + (j.size : Int) ≤ 20000) = false := decide_eq_false (by omega)
                    have HCAN := Aside0.mk (show (HS.mk lis true said b hr hl tries).can j = false by simp [HS.can, hfit])
                    have hsay := say_calls (some ⟨gm, 0, none⟩) cm x.t w4 HP4.out.k (fun W hW => join_calls gm 0 cm x.t W (fun j' y hy => by
                      have hs := (HL4.out.below hW).src
                      rcases hs.2 with h0 | ⟨ad2, h1, h2⟩
                      · have := (List.getElem?_eq_some_iff.1 hy).1; omega
                      · injection h1 with h1
                        subst h1
                        have h3 := h2 j' (.string y) (by
                          have h4 := fl_at BookTx.vals_len hy (j := 0) (by decide)
                          rw [Nat.mul_one, Nat.add_zero] at h4
                          exact h4.trans rfl)
                        rw [BookTx.add0] at h3
                        rw [Nat.zero_add]
                        exact h3) (HL4.out.below hW).lt (by omega) (by omega) (by rw [← HJ.out]; omega)) (by have := HQQ.out.s; simp only; omega) (by rw [← HJ.out]; omega)
                    rw [← HJ.out, HCAN.out, if_neg (by simp)] at hsay
                    go_wp2_with fail
                    refine hsay.mono ?_
                    clear hsay
                    rintro e5 w5 ⟨rfl, k5, t5⟩
                    have HP5 := Aside0.mk (HP4.out.turn k5 t5)
                    have HX5 := Aside0.mk (blk_turn HX4.out HP4.out.k t5)
                    have HL5 := Aside0.mk (HL4.out.only t5.o (fun hm => by
                      rcases List.mem_cons.1 hm with h1 | h1
                      · have := HGM.out; omega
                      · have := HLT.out gm (by simpa using h1); omega))
                    clear k5 t5
                    have q3 : w5.cell? ⟨gx, 3, none⟩ = some (.slice At x.t.length ct) := (HX5.out.cell 3).trans rfl
                    go_wp2_with fail
                    refine (BookTx.stays_calls _ gm cm At x.t.length ct x.t w5 HL5.out (C_src (Kd.C_below HT.out HP5.out.bel)) hct (by omega)).mono ?_
                    rintro e6 w6 ⟨rfl, n6, hw6⟩
                    have HP6 := Aside0.mk (HP5.out.below (show Below w5.heap.size w5 w6 by rw [← hw6]; exact BookTx.below_dn w5 n6))
                    clear q3 hw6
                    go_wp2
                    go_meet
                    case rel => exact ⟨lis, true, said, room, tries, hl, A9, c9, b, hr, hv, rfl, rfl, rfl, rfl, rfl, rfl, rfl, ⟨HQQ.out.up⟩, HP6⟩
                · have hon2 : on = false := by simpa using hon
                  subst hon2
                  clear hon
                  have HCAN := Aside0.mk (show (HS.mk lis false said b hr hl tries).can j = false by simp [HS.can])
                  have hsay := say_calls (some ⟨gm, 0, none⟩) cm x.t w4 HP4.out.k (fun W hW => join_calls gm 0 cm x.t W (fun j' y hy => by
                    have hs := (HL4.out.below hW).src
                    rcases hs.2 with h0 | ⟨ad2, h1, h2⟩
                    · have := (List.getElem?_eq_some_iff.1 hy).1; omega
                    · injection h1 with h1
                      subst h1
                      have h3 := h2 j' (.string y) (by
                        have h4 := fl_at BookTx.vals_len hy (j := 0) (by decide)
                        rw [Nat.mul_one, Nat.add_zero] at h4
                        exact h4.trans rfl)
                      rw [BookTx.add0] at h3
                      rw [Nat.zero_add]
                      exact h3) (HL4.out.below hW).lt (by omega) (by omega) (by rw [← HJ.out]; omega)) (by have := HQQ.out.s; simp only; omega) (by rw [← HJ.out]; omega)
                  rw [← HJ.out, HCAN.out, if_neg (by simp)] at hsay
                  go_wp2_with fail
                  refine hsay.mono ?_
                  clear hsay
                  rintro e5 w5 ⟨rfl, k5, t5⟩
                  have HP5 := Aside0.mk (HP4.out.turn k5 t5)
                  have HX5 := Aside0.mk (blk_turn HX4.out HP4.out.k t5)
                  have HL5 := Aside0.mk (HL4.out.only t5.o (fun hm => by
                    rcases List.mem_cons.1 hm with h1 | h1
                    · have := HGM.out; omega
                    · have := HLT.out gm (by simpa using h1); omega))
                  clear k5 t5
                  have q3 : w5.cell? ⟨gx, 3, none⟩ = some (.slice At x.t.length ct) := (HX5.out.cell 3).trans rfl
                  go_wp2_with fail
                  refine (BookTx.stays_calls _ gm cm At x.t.length ct x.t w5 HL5.out (C_src (Kd.C_below HT.out HP5.out.bel)) hct (by omega)).mono ?_
                  rintro e6 w6 ⟨rfl, n6, hw6⟩
                  have HP6 := Aside0.mk (HP5.out.below (show Below w5.heap.size w5 w6 by rw [← hw6]; exact BookTx.below_dn w5 n6))
                  clear q3 hw6
                  go_wp2
                  go_meet
                  case rel => exact ⟨lis, false, said, room, tries, hl, A9, c9, b, hr, hv, rfl, rfl, rfl, rfl, rfl, rfl, rfl, ⟨HQQ.out.up⟩, HP6⟩
                -- @end
            by_cases hk5 : K = 5
            · skip
              as_aux_lemma =>
                -- @blk k5
                subst hk5
                have q1 : w2.cell? ⟨gx, 1, none⟩ = some (.int .i64 x.n) := (HXB2.out.cell 1).trans rfl
                obtain ⟨p, hp⟩ : ∃ p, p = pk said x.n := ⟨_, rfl⟩
                have hpm : min (max x.n 0) (said.size : Int) = (p : Int) := by rw [hp]; unfold pk; omega
                have hps : p ≤ said.size := by rw [hp]; unfold pk; omega
                have hpI : (p : Int) ≤ (said.size : Int) := by omega
                have hp0 : (0 : Int) ≤ (p : Int) := Int.natCast_nonneg _
                have HPK := Aside0.mk hp
                have hs0 := HQQ.out.s
                have hsI : (said.size : Int) ≤ 20000 := by omega
                have hpe : ∀ W : World, IsHost W g hv ⟨lis, on, said, b, hr, hl, tries⟩ → Calls Try.prog 28 #[.pointer (some ⟨g, 0, none⟩), .int .i64 x.n] W fun r w' => r = .returned (.string (said.extract 0 p)) ∧ Below W.heap.size W w' := by
                  intro W hW
                  rw [hp]
                  exact peek_calls x.n W hW (by simp only; omega)
                have hrd : ∀ W : World, IsHost W g hv ⟨lis, on, said, b, hr, hl, tries⟩ → Calls Try.prog 29 #[.pointer (some ⟨g, 0, none⟩), .int .i64 x.n] W fun r w' => r = .returned (.string (said.extract 0 p)) ∧ IsHost w' g hv ⟨lis, on, said.extract p said.size, b, hr, hl, tries⟩ ∧ Turn g hv W w' hv := by
                  intro W hW
                  rw [hp]
                  exact read_calls x.n W hW (by simp only; omega)
                have HPE := Aside0.mk hpe
                have HRD := Aside0.mk hrd
                have HKD := Aside0.mk (HP2.out.k.below (below_drew (Below.refl w2.heap.size w2)))
                clear hp hpe hrd
                go_upto_region 48 with (fail)
                have XQ0 := Aside0.mk (And.intro (HXB2.out.below' (below_drew (Below.refl w2.heap.size w2))) (HP2.out.below (below_drew (Below.refl w2.heap.size w2))))
                clear HXB2 HP2 HKD q1
                refine wp_region_held_drew (S := fun w' => Blk w' gx 61 #[.int .i64 5, .int .i64 x.n, .string x.s, .slice At x.t.length ct] ∧ ((HP w g (g + 1) hv ⟨lis, on, said, b, hr, hl, tries⟩ (.slice A9 hl.length c9) hl vx vw L Lw w') ∨ HP w g (g + 1) hv ⟨lis, on, said.extract p said.size, b, hr, hl, tries⟩ (.slice A9 hl.length c9) hl vx vw L Lw w')) (by kernel_rfl) (by exact ⟨XQ0.out.1, .inl XQ0.out.2⟩) (fun hHeld => ?_)
                refine takeH (i := 0) (d := 163) (v := (.pointer (some ⟨g, 0, none⟩))) rfl rfl (by kernel_rfl) (by kernel_rfl) (by kernel_rfl) (fun _ _ _ h => h) (Or.inl ⟨by kernel_rfl, by intro w hSw; (try dsimp only at hSw); go_simp; done⟩) (by assumption) ?_
                try simp only [List.setIfInBounds_toArray, List.set_cons_zero, List.set_cons_succ]
                refine takeH (i := 1) (d := 164) (v := (.pointer (some ⟨gx, 1, none⟩))) rfl rfl (by kernel_rfl) (by kernel_rfl) (by kernel_rfl) (fun _ _ _ h => h) (Or.inl ⟨by kernel_rfl, by intro w hSw; (try dsimp only at hSw); go_simp; done⟩) (by assumption) ?_
                try simp only [List.setIfInBounds_toArray, List.set_cons_zero, List.set_cons_succ]
                refine takeH (i := 2) (d := 165) (v := (.int .i64 x.n)) rfl rfl (by kernel_rfl) (by kernel_rfl) (by kernel_rfl) (fun _ _ _ h => h) (Or.inl ⟨by kernel_rfl, by intro w hSw; (try dsimp only at hSw); have c0 := (hSw.1.cell 1).trans (show _ = some (Value.int .i64 x.n) from rfl); go_simp; done⟩) (by assumption) ?_
                try simp only [List.setIfInBounds_toArray, List.set_cons_zero, List.set_cons_succ]
                refine takeH (i := 4) (d := 167) (v := (.string said)) rfl rfl (by kernel_rfl) (by kernel_rfl) (by kernel_rfl) (fun _ _ _ h => h) (Or.inl ⟨by kernel_rfl, by intro w hSw; (try dsimp only at hSw); go_simp; done⟩) (by assumption) ?_
                try simp only [List.setIfInBounds_toArray, List.set_cons_zero, List.set_cons_succ]
                refine takeH (i := 5) (d := 168) (v := (.int .i64 (p : Int))) rfl rfl (by kernel_rfl) (by kernel_rfl) (by kernel_rfl) (fun _ _ _ h => h) (Or.inl ⟨by kernel_rfl, by intro w hSw; (try dsimp only at hSw); go_simp; done⟩) (by assumption) ?_
                try simp only [List.setIfInBounds_toArray, List.set_cons_zero, List.set_cons_succ]
                refine takeH (i := 6) (d := 169) (v := (.string (said.extract 0 p))) rfl rfl (by kernel_rfl) (by kernel_rfl) (by kernel_rfl) (fun _ _ _ h => h) (Or.inl ⟨by kernel_rfl, by intro w hSw; (try dsimp only at hSw); go_simp; done⟩) (by assumption) ?_
                try simp only [List.setIfInBounds_toArray, List.set_cons_zero, List.set_cons_succ]
                refine wpAnyH_ready (rs := [3]) (by kernel_rfl) (by simp) ?_
                refine AllReadyH.cons (o := { dst := some 166, op := Op.call { callee := Callee.value (Operand.func 28), args := #[Operand.tmp 163, Operand.tmp 165], argTypes := #[39, 3] }, type := 9, pos := "law.go:72", after := #[{ on := 0, ground := Ground.data }, { on := 2, ground := Ground.data }], guard := none }) rfl (fun K hK => ?_) AllReadyH.nil
                rw [if_pos (by kernel_rfl)]
                go_simp
                refine (HPE.out _ XQ0.out.2.k).mono ?_
                rintro e1 w1 ⟨rfl, hb1⟩
                have XQ1 := Aside0.mk (And.intro (XQ0.out.1.below' hb1) (XQ0.out.2.below hb1))
                clear hb1
                clear hHeld
                refine hK.out _ _ (⟨XQ1.out.1, .inl XQ1.out.2⟩) (fun hHeld => ?_)
                clear hK K
                try simp only [Act.put, List.setIfInBounds_toArray, List.set_cons_zero, List.set_cons_succ]
                refine takeH (i := 7) (d := 170) (v := (.bool true)) rfl rfl (by kernel_rfl) (by kernel_rfl) (by kernel_rfl) (fun _ _ _ h => h) (Or.inl ⟨by kernel_rfl, by intro w hSw; (try dsimp only at hSw); go_simp; done⟩) (by assumption) ?_
                try simp only [List.setIfInBounds_toArray, List.set_cons_zero, List.set_cons_succ]
                refine takeH (i := 8) (d := 171) (v := (.bool true)) rfl rfl (by kernel_rfl) (by kernel_rfl) (by kernel_rfl) (fun _ _ _ h => h) (Or.inl ⟨by kernel_rfl, by intro w hSw; (try dsimp only at hSw); go_simp; done⟩) (by assumption) ?_
                try simp only [List.setIfInBounds_toArray, List.set_cons_zero, List.set_cons_succ]
                refine takeH (i := 9) (d := 172) (v := (.pointer (some ⟨g, 0, none⟩))) rfl rfl (by kernel_rfl) (by kernel_rfl) (by kernel_rfl) (fun _ _ _ h => h) (Or.inl ⟨by kernel_rfl, by intro w hSw; (try dsimp only at hSw); go_simp; done⟩) (by assumption) ?_
                try simp only [List.setIfInBounds_toArray, List.set_cons_zero, List.set_cons_succ]
                refine takeH (i := 10) (d := 173) (v := (.pointer (some ⟨gx, 1, none⟩))) rfl rfl (by kernel_rfl) (by kernel_rfl) (by kernel_rfl) (fun _ _ _ h => h) (Or.inl ⟨by kernel_rfl, by intro w hSw; (try dsimp only at hSw); go_simp; done⟩) (by assumption) ?_
                try simp only [List.setIfInBounds_toArray, List.set_cons_zero, List.set_cons_succ]
                refine takeH (i := 11) (d := 174) (v := (.int .i64 x.n)) rfl rfl (by kernel_rfl) (by kernel_rfl) (by kernel_rfl) (fun _ _ _ h => h) (Or.inl ⟨by kernel_rfl, by intro w hSw; (try dsimp only at hSw); have c0 := (hSw.1.cell 1).trans (show _ = some (Value.int .i64 x.n) from rfl); go_simp; done⟩) (by assumption) ?_
                try simp only [List.setIfInBounds_toArray, List.set_cons_zero, List.set_cons_succ]
                refine takeH (i := 13) (d := 176) (v := (.string said)) rfl rfl (by kernel_rfl) (by kernel_rfl) (by kernel_rfl) (fun _ _ _ h => h) (Or.inl ⟨by kernel_rfl, by intro w hSw; (try dsimp only at hSw); go_simp; done⟩) (by assumption) ?_
                try simp only [List.setIfInBounds_toArray, List.set_cons_zero, List.set_cons_succ]
                refine takeH (i := 14) (d := 177) (v := (.int .i64 (p : Int))) rfl rfl (by kernel_rfl) (by kernel_rfl) (by kernel_rfl) (fun _ _ _ h => h) (Or.inl ⟨by kernel_rfl, by intro w hSw; (try dsimp only at hSw); go_simp; done⟩) (by assumption) ?_
                try simp only [List.setIfInBounds_toArray, List.set_cons_zero, List.set_cons_succ]
                refine takeH (i := 15) (d := 178) (v := (.string (said.extract 0 p))) rfl rfl (by kernel_rfl) (by kernel_rfl) (by kernel_rfl) (fun _ _ _ h => h) (Or.inl ⟨by kernel_rfl, by intro w hSw; (try dsimp only at hSw); go_simp; done⟩) (by assumption) ?_
                try simp only [List.setIfInBounds_toArray, List.set_cons_zero, List.set_cons_succ]
                refine wpAnyH_ready (rs := [12]) (by kernel_rfl) (by simp) ?_
                refine AllReadyH.cons (o := { dst := some 175, op := Op.call { callee := Callee.value (Operand.func 29), args := #[Operand.tmp 172, Operand.tmp 174], argTypes := #[39, 3] }, type := 9, pos := "law.go:72", after := #[{ on := 9, ground := Ground.data }, { on := 11, ground := Ground.data }, { on := 8, ground := Ground.chain }, { on := 8, ground := Ground.guard }], guard := some (8, true) }) rfl (fun K hK => ?_) AllReadyH.nil
                rw [if_pos (by kernel_rfl)]
                go_simp
                refine (HRD.out _ XQ1.out.2.k).mono ?_
                rintro e2 w2 ⟨rfl, k2, t2⟩
                have XQ2 := Aside0.mk (And.intro (blk_turn XQ1.out.1 XQ1.out.2.k t2) (XQ1.out.2.turn k2 t2))
                clear k2 t2
                clear hHeld
                refine hK.out _ _ (⟨XQ2.out.1, .inr XQ2.out.2⟩) (fun hHeld => ?_)
                clear hK K
                try simp only [Act.put, List.setIfInBounds_toArray, List.set_cons_zero, List.set_cons_succ]
                refine takeH (i := 16) (d := 179) (v := (.bool true)) rfl rfl (by kernel_rfl) (by kernel_rfl) (by kernel_rfl) (fun _ _ _ h => h) (Or.inl ⟨by kernel_rfl, by intro w hSw; (try dsimp only at hSw); go_simp; done⟩) (by assumption) ?_
                try simp only [List.setIfInBounds_toArray, List.set_cons_zero, List.set_cons_succ]
                refine takeH (i := 17) (d := 180) (v := (.bool true)) rfl rfl (by kernel_rfl) (by kernel_rfl) (by kernel_rfl) (fun _ _ _ h => h) (Or.inl ⟨by kernel_rfl, by intro w hSw; (try dsimp only at hSw); go_simp; done⟩) (by assumption) ?_
                try simp only [List.setIfInBounds_toArray, List.set_cons_zero, List.set_cons_succ]
                refine takeH (i := 18) (d := 13) (v := (.bool true)) rfl rfl (by kernel_rfl) (by kernel_rfl) (by kernel_rfl) (fun _ _ _ h => h) (Or.inl ⟨by kernel_rfl, by intro w hSw; (try dsimp only at hSw); go_simp; done⟩) (by assumption) ?_
                try simp only [List.setIfInBounds_toArray, List.set_cons_zero, List.set_cons_succ]
                refine wpAnyH_done (by kernel_rfl) ?_ _
                have XF := XQ2
                clear hHeld
                go_wp2_with fail
                go_meet
                case rel => exact ⟨lis, on, said.extract p said.size, room, tries, hl, A9, c9, b, hr, hv, rfl, rfl, rfl, rfl, rfl, rfl, rfl, ⟨HQQ.out.said_ (by simp; omega)⟩, ⟨XF.out.2⟩⟩
                -- @end
            skip
            as_aux_lemma =>
              have q2 : w2.cell? ⟨gx, 2, none⟩ = some (.string x.s) := (HXB2.out.cell 2).trans rfl
              cases on with
              | false =>
                go_wp2_with fail
                refine (write_down x.s _ HP2.out.k rfl).mono ?_
                rintro e3 w3 ⟨rfl, rfl⟩
                go_wp2
                go_meet
                case rel => exact ⟨lis, false, said, room, tries, hl, A9, c9, b, hr, hv, rfl, rfl, rfl, rfl, rfl, rfl, rfl, ⟨HQQ.out.up⟩, HP2⟩
              | true =>
                have hne := HQQ.out.o rfl
                obtain ⟨l', y, hE⟩ : ∃ l' y, hl = l' ++ [y] := ⟨hl.dropLast, hl.getLast hne, (List.dropLast_concat_getLast _).symm⟩
                have HE := Aside0.mk hE
                have hlen : hl.length = l'.length + 1 := by rw [hE]; simp
                have hyz : y.size ≤ 300 * i := HQQ.out.z y (by rw [hE]; simp)
                have hln := HQQ.out.n
                obtain ⟨t, ht⟩ : ∃ t, t = (HS.mk lis true said b hr hl tries).takes x.s.size := ⟨_, rfl⟩
                have hts : t ≤ x.s.size := by rw [ht]; simp only [HS.takes]; split <;> omega
                have htr : 0 ≤ room → min (x.s.size : Int) room = (t : Int) ∧ (t : Int) ≤ hr := by
                  intro h0
                  have e1 : b = true := by rw [HQQ.out.b]; exact decide_eq_true h0
                  have e2 := HQQ.out.r h0
                  rw [ht]; simp only [HS.takes, e1, if_true]; omega
                have htn : ¬ 0 ≤ room → t = x.s.size := by
                  intro h0
                  have e1 : b = false := by rw [HQQ.out.b]; exact decide_eq_false h0
                  rw [ht]; simp [HS.takes, e1]
                have HT0 := Aside0.mk ht
                have HTR := Aside0.mk htr
                have HTN := Aside0.mk htn
                have hrm := HQQ.out.r2
                have hrM := HQQ.out.r3
                have ht0 : (0 : Int) ≤ (t : Int) := Int.natCast_nonneg _
                have htsI : (t : Int) ≤ (x.s.size : Int) := by omega
                have HROOM := Aside0.mk HQQ.out.b
                have HLEN := Aside0.mk hlen
                clear hne hE ht htr htn hlen
                go_upto_if 61 with (fail)
                go_cut [7, 19] from 56 to 185 (fun v7 v19 wc => ∃ room2 : Int, v7 = .int .i64 room2 ∧ v19 = .int .i64 (t : Int) ∧ w2 = wc ∧ Aside0 (room2 = if b then room - (t : Int) else room))
                case first =>
                  by_cases h0 : 0 ≤ room
                  · have hmin := (HTR.out h0).1
                    have htr2 : (t : Int) ≤ room := by omega
                    have hrb : room - (t : Int) ≤ room := by omega
                    go_wp2
                    go_meet
                    case rel => exact ⟨_, rfl, rfl, rfl, ⟨by rw [HROOM.out, decide_eq_true h0]; rfl⟩⟩
                  · have h00 : room < 0 := by omega
                    obtain rfl := HTN.out h0
                    go_wp2
                    go_meet
                    case rel => exact ⟨_, rfl, rfl, rfl, ⟨by rw [HROOM.out, decide_eq_false (show ¬ 0 ≤ room by omega)]; rfl⟩⟩
                case rest =>
                  obtain ⟨room2, rfl, rfl, rfl, HR2⟩ := hcut
                  obtain ⟨A4, c4, he4, hlc4, hsrc4, _⟩ := HP2.out.hd.src
                  obtain ⟨rfl, rfl⟩ : A9 = A4 ∧ c9 = c4 := by injection he4 with h1 _ h2; exact ⟨h1, h2⟩
                  obtain ⟨v4, w4, hr4, ho4, hb4⟩ := BookTx.copy_run A9 hl.length c9 hl w2 hsrc4 hlc4 (by omega)
                  have HP4 := Aside0.mk (HP2.out.list hb4 ho4)
                  have HX4 := Aside0.mk (HXB2.out.below' hb4)
                  have q2 : w4.cell? ⟨gx, 2, none⟩ = some (.string x.s) := (HX4.out.cell 2).trans rfl
                  have hrow : w4.ownsRow w2.heap.size 9 1 v4 hl.length (BookTx.fl hl) := ho4
                  rcases row_form hrow with ⟨_, h2, _⟩ | ⟨bh, ch, rfl, h3, h4, _, h6, h7, h8⟩
                  · have := HLEN.out; omega
                  · obtain ⟨m, hm⟩ : ∃ m, m = l'.length := ⟨_, rfl⟩
                    have cy : w4.cell? ⟨bh, m, none⟩ = some (.string y) := h7 m _ (by rw [hm, HE.out, ← fs_fl]; simp [fs])
                    have fy := h8 m
                    have HR4 := Aside0.mk hr4
                    have HROW := Aside0.mk hrow
                    obtain ⟨n9, hn9⟩ : ∃ n9, n9 = hl.length := ⟨_, rfl⟩
                    have HN9 := Aside0.mk hn9
                    have HM := Aside0.mk hm
                    have hlen := HLEN.out
                    rw [← hn9] at HR4 HROW HP4 HP2 hlen h3 ⊢
                    rw [← hm] at hlen
                    have hN1 : (n9 : Int) - 1 = (m : Int) := by omega
                    have hm0 : (0 : Int) ≤ (m : Int) := Int.natCast_nonneg _
                    have hmN : (m : Int) < (n9 : Int) := by omega
                    have hmw : IntKind.i64.wrap ((n9 : Int) - 1) = (m : Int) := by rw [hN1]; exact IntWalk.i64_in _ (by omega)
                    have hmNn : m < n9 := by omega
                    clear he4 hlc4 hsrc4 hr4 ho4 hb4 hrow h7 h8 hm hN1 hlen hn9
                    go_wp2_with (first | (at_builtin; refine Aside0.out ?_))
                    refine ⟨?_⟩
                    refine BookTx.append_of rfl (.const (.slice none 0 0)) (.tmp 68) 22 22 (.slice none 0 0) (.slice A9 n9 c9) rfl rfl rfl HR4.out ?_
                    obtain ⟨W5, hW5⟩ : ∃ W5, W5 = (w4.setCell ⟨bh, m, none⟩ (.string (y ++ x.s.extract 0 t))).drew := ⟨_, rfl⟩
                    have hrow2 := row_set (j := m) HROW.out (.string (y ++ x.s.extract 0 t))
                    have hset : (BookTx.fl hl).set m (.string (y ++ x.s.extract 0 t)) = BookTx.fl (l' ++ [y ++ x.s.extract 0 t]) := by
                      rw [HM.out, HE.out, ← fs_fl, ← fs_fl]
                      simp [fs]
                    rw [hset] at hrow2
                    have hlen2 : (l' ++ [y ++ x.s.extract 0 t]).length = n9 := by rw [HN9.out, HLEN.out]; simp
                    have HL2 := Aside0.mk hlen2
                    have ho5 : Only [bh] w4 W5 := by rw [hW5]; exact ((Only.refl _ _).setCell _ _ (.inl (by simp))).drew
                    have HP5 := Aside0.mk (show HP w g (g + 1) hv ⟨lis, true, said, b, hr, hl, tries⟩ (.slice (some ⟨bh, 0, none⟩) n9 ch) (l' ++ [y ++ x.s.extract 0 t]) vx vw L Lw W5 from HP4.out.listSet (ho5.mono (by simp [Value.ownBlock])) (by
                      unfold BookTx.Own
                      rw [hlen2, hW5]
                      exact row_zero (pw_own_below hrow2 (below_drew (Below.refl _ _)))))
                    have hgx : gx ≠ bh := fun e => own_ne HROW.out HX4.out (by decide) (by rw [e]; rfl)
                    have HX5 := Aside0.mk (HX4.out.only ho5 (by simpa using hgx))
                    have q5 : W5.cell? ⟨gx, 2, none⟩ = some (.string x.s) := (HX5.out.cell 2).trans rfl
                    have hwu := write_up x.s l' y W5 HP5.out.k rfl HE.out (by have := HLEN.out; have := HQQ.out.n; omega) (by omega) (by omega) HQQ.out.r0 HQQ.out.r1
                    rw [← HT0.out] at hwu
                    have HWU := Aside0.mk hwu
                    have hW5' := hW5.symm
                    clear hrow2 hset hlen2 ho5 hgx hwu hW5
                    go_upto_region 24 with (fail)
                    go_region
                    clear hW5'
                    go_wp2_with fail
                    refine HWU.out.mono ?_
                    rintro e6 w6 ⟨rfl, k6, t6⟩
                    have HP6 := Aside0.mk (HP5.out.turn k6 t6)
                    clear k6 t6
                    go_wp2
                    go_meet
                    case rel => exact ⟨lis, true, said, room2, tries, l' ++ [y ++ x.s.extract 0 t], some ⟨bh, 0, none⟩, ch, b, if b then hr - (t : Int) else hr, hv, rfl, rfl, rfl, rfl, rfl, by rw [HL2.out], rfl, ⟨by
                      rw [HR2.out]
                      exact (HE.out ▸ HQQ.out).wrote (by omega) (by omega) (fun h0 => by have := (HTR.out h0).1; omega) (fun h0 => (HTR.out h0).2)⟩, by
                      rw [HL2.out]
                      exact HP6⟩
          case rest =>
            -- @blk rest
            obtain ⟨lis, on, said, room, tries, hl, A9, c9, b, hr, hv, rfl, rfl, rfl, rfl, rfl, rfl, rfl, HQ3, HP3⟩ := hcut
            clear HPP HP2 HXB2
            have hq := HQ3.out
            have hnl := hq.n
            have hs0 := hq.s
            have hpk : said.extract 0 (pk said 1073741824) = said := by
              rw [show pk said 1073741824 = said.size by unfold pk; omega]
              exact extract_all _
            have HPK := Aside0.mk hpk
            clear hpk hq
            go_wp2_with fail
            refine (heard_calls _ HP3.out.k (by simp only; omega)).mono ?_
            rintro e4 w4 ⟨⟨v4, rfl, ho4⟩, hb4⟩
            obtain ⟨A4, c4, rfl⟩ := row_sl ho4
            have HO4 := Aside0.mk (show Own w4 wc.heap.size (.slice A4 hl.length c4) hl by unfold BookTx.Own; rw [← fs_fl]; exact ho4)
            have HB4 := Aside0.mk hb4
            clear ho4 hb4
            go_wp2_with fail
            refine (HP3.out.kept HB4.out (t := .slice A4 hl.length c4) (l := hl) HO4.out (by omega) (by have := HQ3.out.k; omega)).mono ?_
            rintro e5 w5 ⟨rfl, vx5, vw5, c5, HP5, HT5⟩
            have HP5 := Aside0.mk HP5
            have HT5 := Aside0.mk HT5
            clear HB4 HO4
            go_wp2_with fail
            refine (up_calls _ HP5.out.k).mono ?_
            rintro e6 w6 ⟨rfl, rfl⟩
            go_wp2_with fail
            refine (tries_calls _ HP5.out.k).mono ?_
            rintro e7 w7 ⟨rfl, rfl⟩
            go_wp2_with fail
            refine (peek_calls 1073741824 _ HP5.out.k (by simp only; omega)).mono ?_
            simp only [HPK.out]
            rintro e8 w8 ⟨rfl, hb8⟩
            have HP8 := Aside0.mk (HP5.out.below hb8)
            have HT8 := Aside0.mk (HT5.out.below hb8)
            clear hb8
            obtain ⟨A9', c9', he9, hlc9, hsrc9, _⟩ := HP8.out.hd.src
            obtain ⟨rfl, rfl⟩ : A9 = A9' ∧ c9 = c9' := by injection he9 with h1 _ h2; exact ⟨h1, h2⟩
            obtain ⟨A4', c4', he4, hlc4, hsrc4, _⟩ := HT8.out.src
            obtain ⟨rfl, rfl⟩ : A4 = A4' ∧ c4 = c4' := by injection he4 with h1 _ h2; exact ⟨h1, h2⟩
            have HS4 := Aside0.mk hsrc4
            have HS9 := Aside0.mk hsrc9
            clear he9 he4 hsrc4 hsrc9
            go_wp2_with fail
            refine (BookTx.same_calls A4 hl.length c4 A9 hl.length c9 hl _ HS4.out hlc4 HS9.out hlc9 (by omega)).mono ?_
            rintro e9 w9 ⟨rfl, n9, hw9⟩
            have HP9 := Aside0.mk (HP8.out.below (show Below w8.heap.size w8 w9 by rw [← hw9]; exact BookTx.below_dn w8 n9))
            clear hw9
            go_wp2
            go_roundg (N - (i + 1))
            case rel => exact ⟨i + 1, lis, on, said, room, tries, hl, A9, c9, b, hr, hv, vx5, vw5, L ++ [(.slice A4 hl.length c4, hl)], Lw ++ [(c5, hl)], rfl, rfl, rfl, rfl, rfl, rfl, by simp, ⟨by omega, rfl⟩, ⟨{ HQ3.out with k := by have := HQ3.out.k; have := HQQ.out.k; simp; omega }⟩, HP9⟩
            case measure => have := HI.out; omega
            -- @end
      · have h300I : (300 : Int) < (x.s.size : Int) := by omega
        go_wp2
        go_ret
        exact ⟨rfl, below_alloc HBL.out _⟩
    · have hltI : ¬ (i : Int) < (N : Int) := by omega
      have HB9 := Aside0.mk HPP.out.bel
      -- @blk fin
      go_wp2_with fail
      refine (listen0 true _).mono ?_
      have hcc : (ByteArray.mk #[] ++ ByteArray.mk #[]).toList = [] := List.isEmpty_iff.1 (empty_isEmpty (by rw [ByteArray.size_append]; rfl))
      rintro e1 w1 ⟨rfl, rfl⟩
      go_wp2_with fail
      refine (break0 _).mono ?_
      rintro e2 w2 ⟨rfl, rfl⟩
      go_wp2_with fail
      refine (room0 3 _).mono ?_
      rintro e3 w3 ⟨rfl, rfl⟩
      go_wp2_with fail
      refine (connect0 _).mono ?_
      rintro e4 w4 ⟨rfl, rfl⟩
      go_wp2_with fail
      refine (up0 _).mono ?_
      rintro e5 w5 ⟨rfl, rfl⟩
      go_wp2_with fail
      refine (say0 ⟨#[97]⟩ _ (by decide)).mono ?_
      rintro e6 w6 ⟨rfl, hb6⟩
      have HP6 := Aside0.mk (HPP.out.below hb6)
      clear hb6 HPP
      go_wp2_with fail
      refine (peek0 1 _).mono ?_
      rintro e7 w7 ⟨rfl, rfl⟩
      go_wp2_with fail
      refine (read0 1 _).mono ?_
      rintro e8 w8 ⟨rfl, rfl⟩
      go_wp2_with fail
      refine (write0 ⟨#[97]⟩ _).mono ?_
      rintro e9 w9 ⟨rfl, rfl⟩
      go_wp2_with fail
      refine (tries0 _).mono ?_
      rintro e10 w10 ⟨rfl, rfl⟩
      go_wp2_with fail
      refine (heard0 _).mono ?_
      rintro e11 w11 ⟨rfl, rfl⟩
      go_wp2_with fail
      refine (BookTx.apart_calls _ _ vx vw L Lw HP6.out.bk HP6.out.same).mono ?_
      rintro e12 w12 ⟨rfl, ho⟩
      have HB12 := Aside0.mk (HP6.out.bel.trans (ho.toBelow HP6.out.bel.size (fun b hb => HP6.out.sep.ge 1 rfl b hb)))
      clear ho
      go_wp2
      go_ret
      exact ⟨rfl, HB12.out⟩
      -- @end
end Go.Proofs.Ytmdhiimgeocgeaa.Host
