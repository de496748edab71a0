/- Each call of KeysPlay over all that lies beside each other. Conditions: those in each theorem. -/
import Derived.Test.YtjjjinpmflghmaaKeyP
namespace Go.Proofs.Ytjjjinpmflghmaa.Keys
open Go.RowKit Go.Proofs.Ytjjjinpmflghmaa.Mem Go.Proofs.Ytjjjinpmflghmaa.Row Go.Proofs.YtjjjinpmflghmaaW.PrintWords Go.Proofs.YtjjjinpmflghmaaW.PrintMore Go.Proofs.YtjjjinpmflghmaaW.PrintLast
open Go.Proofs.Ytjjjinpmflghmaa.BookEv (BK LS foot mem_foot Own Src Lent)
set_option linter.unusedVariables false
set_option linter.unusedSimpArgs false
theorem addE_len : ∀ (es : List E4) (m : Nat), m ≤ 40 → m + (addE m es).length ≤ 40
  | [], m, h => by simpa [addE] using h
  | e :: es, m, h => by
    unfold addE
    split
    · rename_i h1
      have := addE_len es (m + 1) (by omega)
      simp only [List.length_cons]
      omega
    · simpa using h
theorem takeE_len (first : Int) : ∀ (es : List E4) (k : Int) (m : Nat) (d : Int), m ≤ 40 → m + (takeE first k m d es).length ≤ 40
  | [], k, m, d, h => by simpa [takeE] using h
  | e :: es, k, m, d, h => by
    unfold takeE
    split
    · simpa using h
    · split
      · exact takeE_len first es (k + 1) m d h
      · split
        · rename_i h1
          have := takeE_len first es (k + 1) (m + 1) (d + 1) (by omega)
          simp only [List.length_cons]
          omega
        · simpa using h
theorem fl_fe : ∀ l : List E4, BookEv.fl l = fe l
  | [] => rfl
  | e :: l => by
    show BookEv.vals e ++ BookEv.fl l = _
    rw [fl_fe l]
    rfl
theorem rtop_quiet {w : World} {g c : Nat} {A : Option Addr} {l : List E4} {a : Int} (h : IsR w g 66 A c l a) (h0 : 0 ≤ a) (h1 : a ≤ 4611686018427387904) (hl : l.length ≤ 1000) :
    Calls Try.prog 35 #[.pointer (some ⟨g, 0, none⟩)] w fun r w' => r = .returned (.int .i64 (a + l.length)) ∧ ∃ n, w.drewN n = w' := by
  have c0 : w.cell? ⟨g, 0, none⟩ = some (.slice A l.length c) := (h.blk.cell 0).trans rfl
  have c1 : w.cell? ⟨g, 1, none⟩ = some (.int .i64 a) := (h.blk.cell 1).trans rfl
  have hw : IntKind.i64.wrap (a + (l.length : Int)) = a + (l.length : Int) := IntWalk.i64_in _ (by omega)
  clear h
  go_enter Try.func35, Try.ntmps35
  go_upto_region 1 with (fail)
  go_region
  go_wp2
  go_ret
  exact ⟨rfl, 1, rfl⟩
theorem rgot_quiet {w : World} {g c : Nat} {A : Option Addr} {l : List E4} {a : Int} (h : IsR w g 69 A c l a) (h0 : 0 ≤ a) (h1 : a ≤ 4611686018427387904) (hl : l.length ≤ 1000) :
    Calls Try.prog 39 #[.pointer (some ⟨g, 0, none⟩)] w fun r w' => r = .returned (.int .i64 (a + l.length)) ∧ ∃ n, w.drewN n = w' := by
  have c0 : w.cell? ⟨g, 0, none⟩ = some (.slice A l.length c) := (h.blk.cell 0).trans rfl
  have c1 : w.cell? ⟨g, 1, none⟩ = some (.int .i64 a) := (h.blk.cell 1).trans rfl
  have hw : IntKind.i64.wrap (a + (l.length : Int)) = a + (l.length : Int) := IntWalk.i64_in _ (by omega)
  clear h
  go_enter Try.func39, Try.ntmps39
  go_upto_region 1 with (fail)
  go_region
  go_wp2
  go_ret
  exact ⟨rfl, 1, rfl⟩
set_option maxHeartbeats 1000000 in
theorem radd_zero (g : Nat) (A : Option Addr) (c : Nat) (w : World) :
    Calls Try.prog 26 #[.pointer (some ⟨g, 0, none⟩), .slice A 0 c] w fun r w' => r = .returned (.int .i64 0) ∧ w = w' := by
  go_enter Try.func26, Try.ntmps26
  go_wp2
  refine wp_loop_rounds 1 ?_
  rw [rounds_succ]
  go_wp2
  go_ret
  exact ⟨rfl, rfl⟩
set_option maxHeartbeats 1000000 in
theorem rtake_zero (g : Nat) (A : Option Addr) (c : Nat) (A' : Option Addr) (c' : Nat) (l : List E4) (a first : Int) (w : World) (h : IsR w g 69 A' c' l a) (h0 : 0 ≤ a) (h1 : a ≤ 4611686018427387904) (hl : l.length ≤ 1000) :
    Calls Try.prog 32 #[.pointer (some ⟨g, 0, none⟩), .int .i64 first, .slice A 0 c] w fun r w' => r = .returned (.int .i64 (a + l.length)) ∧ ∃ n, w.drewN n = w' := by
  have HR := Aside0.mk h
  clear h
  go_enter Try.func32, Try.ntmps32
  go_wp2
  refine wp_loop_rounds 1 ?_
  rw [rounds_succ]
  go_wp2_with fail
  refine (rgot_quiet HR.out h0 h1 hl).mono ?_
  rintro e1 w1 ⟨rfl, n, rfl⟩
  go_wp2
  go_ret
  exact ⟨rfl, n, rfl⟩
set_option maxHeartbeats 1000000 in
theorem take_zero (g : Nat) (v : Value) (l : List E4) (a b first : Int) (A : Option Addr) (c : Nat) (w : World) (h : IsQ w g 36 v l a b) : Calls Try.prog 12 #[.pointer (some ⟨g, 0, none⟩), .int .i64 first, .slice A 0 c] w fun r w' => r = .returned (.int .i64 b) ∧ w = w' := by
  have hn := eql_pin ⟨g, 0, none⟩
  have HQ := Aside0.mk h
  clear h
  go_enter Try.func12, Try.ntmps12
  go_wp2
  refine wp_loop_rounds 1 ?_
  rw [rounds_succ]
  go_wp2_with fail
  refine (now_calls g 2 b w ((HQ.out.blk.cell 2).trans rfl)).mono ?_
  rintro e1 w1 ⟨rfl, rfl⟩
  go_wp2
  go_ret
  exact ⟨rfl, rfl⟩
section
variable {w0 w : World} {go gi gr gq gb : Nat} {S : KS}
theorem below_dr (w : World) (n : Nat) : Below w.heap.size w (w.drewN n) := ⟨rfl, rfl, rfl, Nat.le_refl _, fun _ _ => rfl⟩
/-- Add at the sender of what was lent. -/
theorem KP.add_ (H : KP w0 go gi gr gq gb S w) {gm c : Nat} {es : List E4} {B : Nat} (hm : gm ∈ S.X) (hs : Lent S.W B gm c es) (h0 : 0 ≤ S.bo) (h1 : S.bo + S.lo.length ≤ 1000000) (hl : S.lo.length ≤ 40) (hn : es.length ≤ 100000) :
    Calls Try.prog 11 #[.pointer (some ⟨go, 0, none⟩), .slice (some ⟨gm, 0, none⟩) es.length c] w fun r w' => r = .returned (.int .i64 ((addE S.lo.length es).length : Int)) ∧ ∃ vo', KP w0 go gi gr gq gb { S with vo := vo', lo := S.lo ++ addE S.lo.length es } w' := by
  have d := H.sep.dis 5 0 _ _ rfl rfl (by decide) gm hm
  have hsrc := (H.xlent hm hs).src
  refine (add_calls go S.vo S.lo es _ _ gm c es.length w H.o rfl (fun j u hj => ?_) (fun e => d (by simp [e])) (fun e => d (by simp [← e])) (by omega) (by omega) hl hn).mono ?_
  · rcases hsrc.2 with h2 | ⟨ad, h2, h3⟩
    · rw [List.eq_nil_of_length_eq_zero h2] at hj
      simp [fe] at hj
    · injection h2 with h2
      subst h2
      have := h3 j u (by rw [← hj, fl_fe])
      rwa [BookEv.add0] at this
  · rintro r w1 ⟨rfl, A', c', hq, ht⟩
    exact ⟨rfl, _, H.setO hq ht (by rw [List.length_append]; push_cast; omega)⟩
theorem KP.take_ (H : KP w0 go gi gr gq gb S w) {gm c : Nat} {es : List E4} {first : Int} (hsrc : Src w (some ⟨gm, 0, none⟩) es.length es) (hd : gm ∉ gi :: S.vi.ownBlock.toList) (h0 : 0 ≤ S.ai) (h1 : S.ai + S.li.length ≤ 1000000) (hl : S.li.length ≤ 40) (hn : es.length ≤ 100000) (hf1 : -2000000000000 ≤ first) (hf2 : first ≤ 2000000000000) :
    Calls Try.prog 12 #[.pointer (some ⟨gi, 0, none⟩), .int .i64 first, .slice (some ⟨gm, 0, none⟩) es.length c] w fun r w' => r = .returned (.int .i64 (S.ai + S.li.length + ((takeE first 0 S.li.length (S.ai + S.li.length) es).length : Int))) ∧ ∃ vi', KP w0 go gi gr gq gb { S with vi := vi', li := S.li ++ takeE first 0 S.li.length (S.ai + S.li.length) es } w' := by
  refine (take_calls gi S.vi S.li es _ _ first gm c es.length w H.i rfl (fun j u hj => ?_) (fun e => hd (by simp [e])) (fun e => hd (by simp [← e])) (by omega) (by omega) hl hn hf1 hf2).mono ?_
  · rcases hsrc.2 with h2 | ⟨ad, h2, h3⟩
    · rw [List.eq_nil_of_length_eq_zero h2] at hj
      simp [fe] at hj
    · injection h2 with h2
      subst h2
      have := h3 j u (by rw [← hj, fl_fe])
      rwa [BookEv.add0] at this
  · rintro r w1 ⟨rfl, A', c', hq, ht⟩
    exact ⟨rfl, _, H.setI hq ht (by rw [List.length_append]; push_cast; omega)⟩
theorem src_ne {w : World} {ad : Addr} {es : List E4} (h : Src w (some ad) es.length es) (hn : es ≠ []) : ad.block < w.heap.size := src_lt h hn _ (bo_mem rfl)
/-- Add of the document's sender, of what came in. -/
theorem KP.radd_ (H : KP w0 go gi gr gq gb S w) {A : Option Addr} {c : Nat} {es : List E4} (hs : Src w A es.length es) (hd : ∀ x, A = some x → es ≠ [] → x.block ≠ gr) (hc : es.length ≤ c) (hl : S.lr.length ≤ 40) (hn : es.length ≤ 100000) :
    Calls Try.prog 26 #[.pointer (some ⟨gr, 0, none⟩), .slice A es.length c] w fun r w' => r = .returned (.int .i64 ((addE S.lr.length es).length : Int)) ∧ ∃ Ar' cr', KP w0 go gi gr gq gb { S with Ar := Ar', cr := cr', lr := S.lr ++ addE S.lr.length es } w' := by
  cases es with
  | nil =>
    refine (radd_zero gr A c w).mono ?_
    rintro r w1 ⟨rfl, rfl⟩
    refine ⟨rfl, S.Ar, S.cr, ?_⟩
    simpa [addE] using H
  | cons e es =>
    rcases hs.2 with h2 | ⟨ad, rfl, _⟩
    · simp at h2
    refine (radd_calls gr S.Ar S.cr S.lr (e :: es) S.br ad c _ w H.r rfl hs hc (hd ad rfl (by simp)) hl hn).mono ?_
    rintro r w1 ⟨rfl, A', c', ⟨hr⟩, ⟨ho⟩, ⟨hA⟩⟩
    exact ⟨rfl, A', c', H.setR hr ho (by
      rcases hA with h | h
      · exact .inl (fun b hb => by rw [← h.1]; exact hb)
      · exact .inr h)⟩
/-- Take of the document's taker. -/
theorem KP.rtake_ (H : KP w0 go gi gr gq gb S w) {A : Option Addr} {c : Nat} {es : List E4} {first : Int} (hs : Src w A es.length es) (hd : ∀ x, A = some x → es ≠ [] → x.block ≠ gq) (hc : es.length ≤ c) (h0 : 0 ≤ S.aq) (h1 : S.aq ≤ 1000000) (hl : S.lq.length ≤ 40) (hn : es.length ≤ 100000) (hf1 : -2000000000000 ≤ first) (hf2 : first ≤ 2000000000000) :
    Calls Try.prog 32 #[.pointer (some ⟨gq, 0, none⟩), .int .i64 first, .slice A es.length c] w fun r w' => r = .returned (.int .i64 (S.aq + ((S.lq ++ takeE first 0 S.lq.length (S.aq + S.lq.length) es).length : Int))) ∧ ∃ Aq' cq', KP w0 go gi gr gq gb { S with Aq := Aq', cq := cq', lq := S.lq ++ takeE first 0 S.lq.length (S.aq + S.lq.length) es } w' := by
  cases es with
  | nil =>
    refine (rtake_zero gq A c S.Aq S.cq S.lq S.aq first w H.q h0 (by omega) (by omega)).mono ?_
    rintro r w1 ⟨rfl, n, rfl⟩
    refine ⟨by simp [takeE], S.Aq, S.cq, ?_⟩
    simpa [takeE] using H.below (below_dr w n)
  | cons e es =>
    rcases hs.2 with h2 | ⟨ad, rfl, _⟩
    · simp at h2
    refine (rtake_calls gq S.Aq S.cq S.lq (e :: es) S.aq first ad c _ w H.q rfl hs hc (hd ad rfl (by simp)) h0 (by omega) hl hn hf1 hf2).mono ?_
    rintro r w1 ⟨rfl, A', c', ⟨hr⟩, ⟨ho⟩, ⟨hA⟩⟩
    exact ⟨rfl, A', c', H.setQ hr ho (by
      rcases hA with h | h
      · exact .inl (fun b hb => by rw [← h.1]; exact hb)
      · exact .inr h)⟩
/-- How many an acknowledgement says. -/
def gone (b : Int) (l : List E4) (n : Int) : Nat := if n ≤ b ∨ b + l.length < n then 0 else (n - b).toNat
theorem gone_le (b : Int) (l : List E4) (n : Int) : gone b l n ≤ l.length := by
  unfold gone
  split <;> omega
theorem KP.ack_ (H : KP w0 go gi gr gq gb S w) (n : Int) (h0 : 0 ≤ S.bo) (h1 : S.bo + S.lo.length ≤ 1000000) (hl : S.lo.length ≤ 40) :
    Calls Try.prog 15 #[.pointer (some ⟨go, 0, none⟩), .int .i64 n] w fun r w' => r = .returned (.int .i64 (gone S.bo S.lo n : Nat)) ∧ ∃ vo', KP w0 go gi gr gq gb { S with vo := vo', lo := S.lo.drop (gone S.bo S.lo n), bo := S.bo + (gone S.bo S.lo n : Nat) } w' := by
  by_cases hn : n ≤ S.bo ∨ S.bo + S.lo.length < n
  · have hg : gone S.bo S.lo n = 0 := if_pos hn
    rw [hg]
    refine (ack_no go S.vo S.lo _ _ n w H.o hn).mono ?_
    rintro r w1 ⟨rfl, rfl⟩
    exact ⟨rfl, S.vo, by simpa using H⟩
  · have hg : gone S.bo S.lo n = (n - S.bo).toNat := if_neg hn
    have hgI : ((n - S.bo).toNat : Int) = n - S.bo := by omega
    rw [hg, hgI]
    refine (ack_calls go S.vo S.lo _ _ n w H.o (by omega) h0 (by omega) (by omega) (by omega) (by omega)).mono ?_
    rintro r w1 ⟨rfl, v', hq, ht⟩
    have e : S.bo + (n - S.bo) = n := by omega
    rw [e]
    exact ⟨rfl, v', H.setO hq ht (by rw [List.length_drop]; omega)⟩
theorem KP.rack_ (H : KP w0 go gi gr gq gb S w) (n : Int) (h0 : 0 ≤ S.br) (h1 : S.br + S.lr.length ≤ 1000000) (hl : S.lr.length ≤ 40) :
    Calls Try.prog 27 #[.pointer (some ⟨gr, 0, none⟩), .int .i64 n] w fun r w' => r = .returned (.int .i64 (gone S.br S.lr n : Nat)) ∧ ∃ Ar' cr', KP w0 go gi gr gq gb { S with Ar := Ar', cr := cr', lr := S.lr.drop (gone S.br S.lr n), br := S.br + (gone S.br S.lr n : Nat) } w' := by
  by_cases hn : n ≤ S.br
  · have hg : gone S.br S.lr n = 0 := if_pos (.inl hn)
    rw [hg]
    refine (rack_low n w H.r hn).mono ?_
    rintro r w1 ⟨rfl, hb⟩
    exact ⟨rfl, S.Ar, S.cr, by simpa using H.below hb⟩
  by_cases hn2 : S.br + S.lr.length < n
  · have hg : gone S.br S.lr n = 0 := if_pos (.inr hn2)
    rw [hg]
    refine (rack_high n w H.r h0 (by omega) (by omega) hn2).mono ?_
    rintro r w1 ⟨rfl, hb⟩
    exact ⟨rfl, S.Ar, S.cr, by simpa using H.below hb⟩
  · have hg : gone S.br S.lr n = (n - S.br).toNat := if_neg (by omega)
    obtain ⟨k, hk⟩ : ∃ k : Nat, (k : Int) = n - S.br := ⟨(n - S.br).toNat, by omega⟩
    have hkN : (n - S.br).toNat = k := by omega
    have e : n = S.br + k := by omega
    rw [hg, hkN]
    obtain ⟨ad, hA⟩ : ∃ ad, S.Ar = some ad := by
      rcases H.r.src.2 with h2 | ⟨ad, h2, _⟩
      · omega
      · exact ⟨ad, h2⟩
    have HR := H.r
    rw [hA] at HR
    rw [e]
    refine (rack_yes k ad w HR h0 (by omega) (by omega) (by omega) (by omega)).mono ?_
    rintro r w1 ⟨rfl, A', c', hr, ho, hA'⟩
    exact ⟨rfl, A', c', H.setR hr ho (.inl (fun b hb => by
      obtain ⟨x, rfl, rfl⟩ := mem_bo hb
      rw [hA' x rfl, hA]
      exact bo_mem rfl))⟩
/-- How many events are told. -/
def told (l : List E4) (most : Int) : Nat := (min (max most 0) (l.length : Int)).toNat
theorem told_le (l : List E4) (most : Int) : told l most ≤ l.length := by unfold told; omega
theorem told_eq (l : List E4) (most : Int) : min (max most 0) (l.length : Int) = (told l most : Int) := by unfold told; omega
/-- The number of the first event that is told. -/
def told1 (b : Int) (l : List E4) : Int := if l = [] then 0 else b + 1
theorem KP.wait_ (H : KP w0 go gi gr gq gb S w) (most : Int) (h0 : 0 ≤ S.bo) (h1 : S.bo + S.lo.length ≤ 1000000) (hl : S.lo.length ≤ 40) :
    Calls Try.prog 28 #[.pointer (some ⟨go, 0, none⟩), .int .i64 most] w fun r w' => (∃ v', r = .returned (.tuple #[.int .i64 (told1 S.bo S.lo), v']) ∧ Own w' w.heap.size v' (S.lo.take (told S.lo most))) ∧ Below w.heap.size w w' := by
  have ht := told_eq S.lo most
  have hle := told_le S.lo most
  cases hlo : S.lo with
  | nil =>
    have HO := H.o
    rw [hlo] at HO
    refine (wait_none go S.vo _ _ most w HO).mono ?_
    rintro r w1 ⟨rfl, rfl⟩
    exact ⟨⟨.slice none 0 0, by simp [told1], by simpa using Own.nil w w.heap.size⟩, Below.refl _ _⟩
  | cons e l =>
    have HO := H.o
    rw [hlo] at HO ht hle hl h1
    rcases own_form HO.row with ⟨_, h3⟩ | ⟨gb', c, hv, h3, _⟩
    · simp at h3
    rw [hv] at HO
    refine (wait_some go gb' c (told (e :: l) most) (e :: l) _ _ most w HO (by simp) h3 (by omega) h0 (by omega) ht hle).mono ?_
    rintro r w1 ⟨⟨v', rfl, ho⟩, hb⟩
    refine ⟨⟨v', by simp [told1], ?_⟩, hb⟩
    unfold BookEv.Own
    rw [List.length_take, Nat.min_eq_left hle, fl_fe]
    exact ho
theorem KP.rwait_ (H : KP w0 go gi gr gq gb S w) (most : Int) (h0 : 0 ≤ S.br) (h1 : S.br + S.lr.length ≤ 1000000) (hl : S.lr.length ≤ 40) :
    Calls Try.prog 29 #[.pointer (some ⟨gr, 0, none⟩), .int .i64 most] w fun r w' => (∃ A c, r = .returned (.tuple #[.int .i64 (told1 S.br S.lr), .slice A (told S.lr most) c]) ∧ Src w A (told S.lr most) (S.lr.take (told S.lr most)) ∧ told S.lr most ≤ c ∧ (A = S.Ar ∨ told S.lr most = 0)) ∧ Below w.heap.size w w' := by
  have ht := told_eq S.lr most
  have hle := told_le S.lr most
  by_cases hlr : S.lr = []
  · have HR := H.r
    rw [hlr] at HR
    have e0 : told S.lr most = 0 := by rw [hlr] at hle ⊢; simpa using hle
    rw [e0, hlr]
    refine (rwait_none most w HR).mono ?_
    rintro r w1 ⟨rfl, hb⟩
    exact ⟨⟨none, 0, by simp [told1], ⟨rfl, .inl rfl⟩, Nat.le_refl _, .inr rfl⟩, hb⟩
  · refine (rwait_some most _ w H.r hlr h0 (by omega) (by omega) ht).mono ?_
    rintro r w1 ⟨rfl, hb⟩
    refine ⟨⟨S.Ar, S.cr, by simp [told1, hlr], ⟨by rw [List.length_take, Nat.min_eq_left hle], ?_⟩, Nat.le_trans hle H.r.lc, .inl rfl⟩, hb⟩
    rcases H.r.src.2 with h2 | ⟨ad, h2, h3⟩
    · exact .inl (by omega)
    · refine .inr ⟨ad, h2, fun j u hj => h3 j u ?_⟩
      have hjl := (List.getElem?_eq_some_iff.1 hj).1
      rw [BookEv.fl_len, List.length_take, Nat.min_eq_left hle] at hjl
      have := fl_take BookEv.vals_len (told S.lr most) S.lr
      have e2 : BookEv.fl (S.lr.take (told S.lr most)) = (BookEv.fl S.lr).take (told S.lr most * 4) := this.symm
      rw [e2, List.getElem?_take, if_pos hjl] at hj
      exact hj
theorem KP.wsrc (H : KP w0 go gi gr gq gb S w) {A : Option Addr} {most : Int} (hA : A = S.Ar ∨ told S.lr most = 0) : Src w A (told S.lr most) (S.lr.take (told S.lr most)) := by
  have hle := told_le S.lr most
  refine ⟨by rw [List.length_take, Nat.min_eq_left hle], ?_⟩
  rcases hA with rfl | h0
  · rcases H.r.src.2 with h2 | ⟨ad, h2, h3⟩
    · exact .inl (by omega)
    · refine .inr ⟨ad, h2, fun j u hj => h3 j u ?_⟩
      have hjl := (List.getElem?_eq_some_iff.1 hj).1
      rw [BookEv.fl_len, List.length_take, Nat.min_eq_left hle] at hjl
      have e2 : BookEv.fl (S.lr.take (told S.lr most)) = (BookEv.fl S.lr).take (told S.lr most * 4) := (fl_take BookEv.vals_len (told S.lr most) S.lr).symm
      rw [e2, List.getElem?_take, if_pos hjl] at hj
      exact hj
  · exact .inl h0
/-- Take of a list that the book has. -/
theorem KP.takeO (H : KP w0 go gi gr gq gb S w) {A : Option Addr} {c : Nat} {es : List E4} {first : Int} (ho : Own w 0 (.slice A es.length c) es) (hf : ∀ k, (Value.slice A es.length c).ownBlock = some k → k ∈ foot gb S.vx S.vw S.L S.Lw) (h0 : 0 ≤ S.ai) (h1 : S.ai + S.li.length ≤ 1000000) (hl : S.li.length ≤ 40) (hn : es.length ≤ 100000) (hf1 : -2000000000000 ≤ first) (hf2 : first ≤ 2000000000000) :
    Calls Try.prog 12 #[.pointer (some ⟨gi, 0, none⟩), .int .i64 first, .slice A es.length c] w fun r w' => r = .returned (.int .i64 (S.ai + S.li.length + ((takeE first 0 S.li.length (S.ai + S.li.length) es).length : Int))) ∧ ∃ vi', KP w0 go gi gr gq gb { S with vi := vi', li := S.li ++ takeE first 0 S.li.length (S.ai + S.li.length) es } w' := by
  rcases row_form ho with ⟨h2, h3, _⟩ | ⟨b, c', h2, _⟩
  · obtain rfl := List.eq_nil_of_length_eq_zero h3
    refine (take_zero gi S.vi S.li _ _ first A c w H.i).mono ?_
    rintro r w1 ⟨rfl, rfl⟩
    exact ⟨by simp [takeE], S.vi, by simpa [takeE] using H⟩
  · injection h2 with h2 _ h3
    subst h2 h3
    obtain ⟨A2, c2, he, _, hsrc, _⟩ := ho.src
    injection he with he
    subst he
    exact H.take_ hsrc (H.sep.dis 4 1 _ _ rfl rfl (by decide) b (hf b rfl)) h0 h1 hl hn hf1 hf2
/-- The first event that is kept goes. -/
theorem KP.next_none (H : KP w0 go gi gr gq gb S w) (hl : S.li = []) :
    Calls Try.prog 14 #[.pointer (some ⟨gi, 0, none⟩)] w fun r w' => r = .returned (.tuple #[.agg #[.int .i64 0, .string ⟨#[]⟩, .int .i64 0, .int .i64 0], .bool false]) ∧ Below w.heap.size w w' := by
  have HI := H.i
  rw [hl] at HI
  exact Keys.next_none gi S.vi _ _ w HI
theorem KP.next_some (H : KP w0 go gi gr gq gb S w) {e : E4} {l : List E4} (hli : S.li = e :: l) (h0 : 0 ≤ S.ai) (h1 : S.ai + S.li.length ≤ 1000000) (hl : S.li.length ≤ 40) :
    Calls Try.prog 14 #[.pointer (some ⟨gi, 0, none⟩)] w fun r w' => r = .returned (.tuple #[e.val, .bool true]) ∧ ∃ vi', KP w0 go gi gr gq gb { S with vi := vi', li := l, ai := S.ai + 1 } w' := by
  have HI := H.i
  rw [hli] at HI hl h1
  simp only [List.length_cons] at hl h1
  refine (Keys.next_some gi S.vi e l _ _ w HI h0 (by omega) (by omega)).mono ?_
  rintro r w1 ⟨rfl, v', hq, ht⟩
  exact ⟨rfl, v', H.setI hq ht (by simp only [List.length_cons]; push_cast; omega)⟩
theorem KP.rnext_ (H : KP w0 go gi gr gq gb S w) {e : E4} {l : List E4} (hlq : S.lq = e :: l) (h0 : 0 ≤ S.aq) (h1 : S.aq ≤ 1000000) (hl : S.lq.length ≤ 40) :
    Calls Try.prog 33 #[.pointer (some ⟨gq, 0, none⟩)] w fun r w' => r = .returned (.tuple #[]) ∧ ∃ Aq' cq', KP w0 go gi gr gq gb { S with Aq := Aq', cq := cq', lq := l, aq := S.aq + 1 } w' := by
  have HQ := H.q
  rw [hlq] at HQ hl
  simp only [List.length_cons] at hl
  obtain ⟨ad, hA⟩ : ∃ ad, S.Aq = some ad := by
    rcases HQ.src.2 with h2 | ⟨ad, h2, _⟩
    · simp at h2
    · exact ⟨ad, h2⟩
  rw [hA] at HQ
  refine (rnext_calls e ad w HQ h0 (by omega) (by omega)).mono ?_
  rintro r w1 ⟨rfl, A', c', hr, ho, hA'⟩
  exact ⟨rfl, A', c', H.setQ hr ho (.inl (fun b hb => by
    obtain ⟨x, rfl, rfl⟩ := mem_bo hb
    rw [hA' x rfl, hA]
    exact bo_mem rfl))⟩
end
end Go.Proofs.Ytjjjinpmflghmaa.Keys
