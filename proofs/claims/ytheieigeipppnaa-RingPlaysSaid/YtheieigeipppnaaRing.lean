/- What the methods of a ring.Ring come to: the bytes that wait. Conditions: those in each theorem. -/
import Derived.Test.YtheieigeipppnaaIn
import Derived.Test.YtheieigeipppnaaShelf
namespace Go.Proofs.Ytheieigeipppnaa.Obj
open Go.RowKit Go.Proofs.YtheieigeipppnaaW.PrintWords Go.Proofs.YtheieigeipppnaaW.PrintMore
attribute [local go_sem] max2_int min2_int max_two min_two
theorem eql_ring (a : Addr) (w : World) : Sem.run Try.prog (binOp .eql 23 (.pointer (some a)) (.pointer none)) w = .ok (.bool false) w := by kernel_rfl
/-- A ring at block g: its room, and what waits. -/
def IsRing (w : World) (g : Nat) (room : Nat) (b : ByteArray) : Prop := w.heap[g]? = some (.cells #[.int .i64 (room : Int), .string b] 71 (0, 0))
theorem IsRing.below {g : Nat} {w w' : World} {room : Nat} {b : ByteArray} (h : IsRing w g room b) (hb : Below w.heap.size w w') : IsRing w' g room b := (hb.block g (blk_lt h)).trans h
theorem IsRing.alloc {g : Nat} {w : World} {room : Nat} {b : ByteArray} (h : IsRing w g room b) (o : Obj) : IsRing (w.alloc o) g room b := h.below (below_alloc (Below.refl _ _) o)
theorem IsRing.set1 {g : Nat} {w : World} {room : Nat} {b : ByteArray} (h : IsRing w g room b) (b' : ByteArray) : IsRing (w.setCell ⟨g, 1, none⟩ (.string b')) g room b' := (blk_set h 1 _).trans rfl
theorem IsRing.drewN {g : Nat} {w : World} {room : Nat} {b : ByteArray} (h : IsRing w g room b) (n : Nat) : IsRing (w.drewN n) g room b := h

/-- The room that New makes. -/
def roomOf (room : Int) : Nat := if room < 0 then 0 else if 100000 < room then 100000 else room.toNat
theorem rnew_calls (room : Int) (w : World) : Calls Try.prog 14 #[.int .i64 room] w fun r w' => r = .returned (.pointer (some ⟨w.heap.size, 0, none⟩)) ∧ w.alloc (.cells #[.int .i64 ((roomOf room : Nat) : Int), .string ⟨#[]⟩] 71) = w' := by
  by_cases h0 : room < 0
  · rw [show roomOf room = 0 by simp [roomOf, h0]]
    go_enter Try.func14, Try.ntmps14
    go_wp2
    go_ret
    exact ⟨rfl, rfl⟩
  · by_cases h1 : 100000 < room
    · rw [show roomOf room = 100000 by simp [roomOf, h0, h1]]
      go_enter Try.func14, Try.ntmps14
      go_wp2
      go_ret
      exact ⟨rfl, rfl⟩
    · rw [show ((roomOf room : Nat) : Int) = room by simp only [roomOf]; rw [if_neg h0, if_neg h1]; omega]
      go_enter Try.func14, Try.ntmps14
      go_wp2
      go_ret
      exact ⟨rfl, rfl⟩
theorem rall_calls (g room : Nat) (b : ByteArray) (w : World) (h : IsRing w g room b) : Calls Try.prog 52 #[.pointer (some ⟨g, 0, none⟩)] w fun r w' => r = .returned (.string b) ∧ w = w' := by
  have c1 : w.cell? ⟨g, 1, none⟩ = some (.string b) := (blk_cell h 1).trans rfl
  have hn := eql_ring ⟨g, 0, none⟩
  clear h
  go_enter Try.func52, Try.ntmps52
  go_wp2
  go_ret
  exact ⟨rfl, rfl⟩
theorem rlen_calls (g room : Nat) (b : ByteArray) (w : World) (h : IsRing w g room b) : Calls Try.prog 17 #[.pointer (some ⟨g, 0, none⟩)] w fun r w' => r = .returned (.int .i64 b.size) ∧ w = w' := by
  go_enter Try.func17, Try.ntmps17
  go_wp2_with (go_at_call 52; refine (rall_calls g room b _ h).mono ?_; rintro e1 w1 ⟨rfl, rfl⟩)
  go_ret
  exact ⟨rfl, rfl⟩
theorem rroom_calls (g room : Nat) (b : ByteArray) (w : World) (h : IsRing w g room b) (h0 : b.size ≤ room) (h1 : room ≤ 100000) : Calls Try.prog 28 #[.pointer (some ⟨g, 0, none⟩)] w fun r w' => r = .returned (.int .i64 ((room : Int) - b.size)) ∧ ∃ n, w.drewN n = w' := by
  have c0 : w.cell? ⟨g, 0, none⟩ = some (.int .i64 room) := (blk_cell h 0).trans rfl
  have c1 : w.cell? ⟨g, 1, none⟩ = some (.string b) := (blk_cell h 1).trans rfl
  have hn := eql_ring ⟨g, 0, none⟩
  have hw : IntKind.i64.wrap ((room : Int) - (b.size : Int)) = (room : Int) - (b.size : Int) := IntWalk.i64_in _ (by omega)
  clear h
  go_enter Try.func28, Try.ntmps28
  go_wp2
  go_quiet (fail)
  go_wp2
  go_ret
  exact ⟨rfl, _, rfl⟩
/-- The first n bytes. -/
def rPeek (b : ByteArray) (n : Int) : ByteArray := if n < 0 then ⟨#[]⟩ else if (b.size : Int) < n then b else b.extract 0 n.toNat
theorem rPeek_size (b : ByteArray) (n : Int) : (rPeek b n).size ≤ b.size := by
  unfold rPeek
  split
  · exact Nat.zero_le _
  · split
    · exact Nat.le_refl _
    · simp
      omega
theorem rpeek_calls (g room : Nat) (b : ByteArray) (n : Int) (w : World) (h : IsRing w g room b) (hs : b.size ≤ 100000) :
    Calls Try.prog 27 #[.pointer (some ⟨g, 0, none⟩), .int .i64 n] w fun r w' => r = .returned (.string (rPeek b n)) ∧ Below w.heap.size w w' := by
  by_cases h0 : n < 0
  · rw [show rPeek b n = ⟨#[]⟩ by simp [rPeek, h0]]
    go_enter Try.func27, Try.ntmps27
    go_wp2_with (first | (go_at_call 52; refine (rall_calls g room b _ h).mono ?_; rintro e1 w1 ⟨rfl, rfl⟩) | (go_at_call 17; refine (rlen_calls g room b _ h).mono ?_; rintro e1 w1 ⟨rfl, rfl⟩) | (go_at_call 51; refine (clone_calls _ _ (by decide)).mono ?_; rintro e1 w1 ⟨rfl, hb⟩))
    all_goals
      go_ret
      exact ⟨rfl, hb⟩
  · by_cases h1 : (b.size : Int) < n
    · rw [show rPeek b n = b by simp [rPeek, h0, h1]]
      go_enter Try.func27, Try.ntmps27
      go_wp2_with (first | (go_at_call 52; refine (rall_calls g room b _ h).mono ?_; rintro e1 w1 ⟨rfl, rfl⟩) | (go_at_call 17; refine (rlen_calls g room b _ h).mono ?_; rintro e1 w1 ⟨rfl, rfl⟩) | (go_at_call 51; refine (clone_calls _ _ (by omega)).mono ?_; rintro e1 w1 ⟨rfl, hb⟩))
      go_ret
      exact ⟨rfl, hb⟩
    · obtain ⟨m, rfl⟩ := Int.eq_ofNat_of_zero_le (show 0 ≤ n by omega)
      rw [show rPeek b (m : Int) = b.extract 0 m by simp only [rPeek]; rw [if_neg h0, if_neg h1, Int.toNat_natCast]]
      go_enter Try.func27, Try.ntmps27
      go_wp2_with (first | (go_at_call 52; refine (rall_calls g room b _ h).mono ?_; rintro e1 w1 ⟨rfl, rfl⟩) | (go_at_call 17; refine (rlen_calls g room b _ h).mono ?_; rintro e1 w1 ⟨rfl, rfl⟩) | (go_at_call 51; refine (clone_calls _ _ (by simp; omega)).mono ?_; rintro e1 w1 ⟨rfl, hb⟩))
      go_ret
      exact ⟨rfl, hb⟩
/-- What waits behind a Take. -/
def rDrop (b : ByteArray) (n : Int) : ByteArray := b.extract (rPeek b n).size b.size
theorem empty_isEmpty {s : ByteArray} (h : s.size = 0) : s.toList.isEmpty = true := by
  rw [ByteArray.toList_eq, List.isEmpty_iff, ← List.length_eq_zero_iff, Array.length_toList]
  exact h
theorem ne_isEmpty {s : ByteArray} (h : s.size ≠ 0) : s.toList.isEmpty = false := by
  rw [List.isEmpty_eq_false_iff, ← List.length_pos_iff, ByteArray.toList_eq, Array.length_toList]
  have : s.data.size = s.size := rfl
  omega
theorem extract_all (b : ByteArray) : b.extract 0 b.size = b := by
  apply ByteArray.ext
  have : b.size = b.data.size := rfl
  rw [ByteArray.data_extract, this]
  simp
set_option maxHeartbeats 1000000 in
theorem rtake_calls (g room : Nat) (b : ByteArray) (n : Int) (w : World) (h : IsRing w g room b) (hs : b.size ≤ 100000) :
    Calls Try.prog 16 #[.pointer (some ⟨g, 0, none⟩), .int .i64 n] w fun r w' => r = .returned (.string (rPeek b n)) ∧ IsRing w' g room (rDrop b n) ∧ Fg g w w' := by
  have hle := rPeek_size b n
  have HI := Aside0.mk h
  clear h
  obtain ⟨p, hp⟩ : ∃ p, p = rPeek b n := ⟨_, rfl⟩
  have HD := Aside0.mk (show rDrop b n = b.extract p.size b.size by rw [hp]; rfl)
  have HP := Aside0.mk hp
  rw [← hp] at hle ⊢
  by_cases hz : p.size = 0
  · have hpe := empty_isEmpty hz
    have hDe : rDrop b n = b := by rw [HD.out, hz, extract_all]
    rw [hDe]
    clear hz hDe hp
    go_enter Try.func16, Try.ntmps16
    go_wp2_with fail
    refine (rpeek_calls g room b n _ HI.out hs).mono ?_
    rw [← HP.out]
    rintro e1 w1 ⟨rfl, hb⟩
    have HB := Aside0.mk hb
    clear hb
    go_wp2
    go_ret
    exact ⟨rfl, HI.out.below HB.out, Fg.below HB.out⟩
  · have hpe := ne_isEmpty hz
    rw [HD.out]
    clear hz hp
    go_enter Try.func16, Try.ntmps16
    go_wp2_with fail
    refine (rpeek_calls g room b n _ HI.out hs).mono ?_
    rw [← HP.out]
    rintro e1 w1 ⟨rfl, hb⟩
    have HI1 := Aside0.mk (HI.out.below hb)
    have c1 : w1.cell? ⟨g, 1, none⟩ = some (.string b) := (blk_cell HI1.out 1).trans rfl
    have HB := Aside0.mk hb
    clear hb
    go_wp2_with fail
    refine (clone_calls _ _ (by simp; omega)).mono ?_
    rintro e2 w2 ⟨rfl, hb⟩
    have HI2 := Aside0.mk (HI1.out.below hb)
    have c2 : w2.cell? ⟨g, 1, none⟩ = some (.string b) := (blk_cell HI2.out 1).trans rfl
    have f2 := blk_frozen HI2.out 1
    have HB2 := Aside0.mk hb
    clear hb c1
    go_wp2
    go_ret
    exact ⟨rfl, HI2.out.set1 _, ((Fg.below HB.out).trans (Fg.below HB2.out)).trans (Fg.set _ _ _ _)⟩
theorem rclear_calls (g room : Nat) (b : ByteArray) (w : World) (h : IsRing w g room b) (hs : b.size ≤ 100000) :
    Calls Try.prog 33 #[.pointer (some ⟨g, 0, none⟩)] w fun r w' => r = .returned (.int .i64 b.size) ∧ IsRing w' g room (rDrop b b.size) ∧ Fg g w w' := by
  have hp : rPeek b (b.size : Int) = b := by
    simp only [rPeek]
    rw [if_neg (by omega), if_neg (by omega), Int.toNat_natCast, extract_all]
  have HP := Aside0.mk hp
  have HI := Aside0.mk h
  clear h hp
  go_enter Try.func33, Try.ntmps33
  go_wp2_with fail
  refine (rlen_calls g room b _ HI.out).mono ?_
  rintro e1 w1 ⟨rfl, rfl⟩
  go_wp2_with fail
  refine (rtake_calls g room b _ _ HI.out hs).mono ?_
  rw [HP.out]
  rintro e2 w2 ⟨rfl, hI, hF⟩
  have HI2 := Aside0.mk hI
  have HF := Aside0.mk hF
  clear hI hF
  go_wp2
  go_ret
  exact ⟨rfl, HI2.out, HF.out⟩

/-- Texts, one behind the other. -/
def joinS (ss : List ByteArray) : ByteArray := ⟨(Lib.join (ss.map (·.data.toList)) (ByteArray.mk #[]).data.toList).toArray⟩
theorem ret_i64' {a b : Int} (h : a = b) : Ending.returned (.int .i64 a) = Ending.returned (.int .i64 b) := by rw [h]
/-- What Put takes. -/
def rPut (room : Nat) (b j : ByteArray) : ByteArray := if room - b.size < j.size then j.extract 0 (room - b.size) else j
theorem rPut_size (room : Nat) (b j : ByteArray) (h : b.size ≤ room) : b.size + (rPut room b j).size ≤ room := by
  unfold rPut
  split
  · simp
    omega
  · omega
set_option maxHeartbeats 1000000 in
theorem rput_calls (g o bk c room : Nat) (b : ByteArray) (ss : List ByteArray) (w : World) (h : IsRing w g room b) (h0 : b.size ≤ room) (h1 : room ≤ 100000)
    (hcells : ∀ (j : Nat) x, ss[j]? = some x → w.cell? ⟨bk, o + j, none⟩ = some (.string x)) (hbk : bk < w.heap.size) (hcap : ss.length ≤ c) (hN : ss.length ≤ 140737488355328) (hj : (joinS ss).size ≤ 140737488355328) :
    Calls Try.prog 15 #[.pointer (some ⟨g, 0, none⟩), .slice (some ⟨bk, o, none⟩) ss.length c] w fun r w' => r = .returned (.int .i64 (rPut room b (joinS ss)).size) ∧ IsRing w' g room (b ++ rPut room b (joinS ss)) ∧ Fg g w w' := by
  have hn := eql_ring ⟨g, 0, none⟩
  have HI := Aside0.mk h
  have HC := Aside0.mk hcells
  have hps := rPut_size room b (joinS ss) h0
  have HJL := Aside0.mk (show (Lib.join (ss.map (·.data.toList)) (ByteArray.mk #[]).data.toList).length ≤ 140737488355328 from hj)
  obtain ⟨j, hjj⟩ : ∃ j, j = joinS ss := ⟨_, rfl⟩
  have HJ := Aside0.mk (show j = ⟨(Lib.join (ss.map (·.data.toList)) (ByteArray.mk #[]).data.toList).toArray⟩ from hjj)
  rw [← hjj] at hj hps ⊢
  clear h hcells hjj
  by_cases hr : room - b.size < j.size
  · have hpe : rPut room b j = j.extract 0 (room - b.size) := by simp [rPut, hr]
    have hx : (j.extract 0 (room - b.size)).size = room - b.size := by simp; omega
    have hri : (room : Int) - (b.size : Int) < (j.size : Int) := by omega
    rw [hpe] at hps ⊢
    have HX := Aside0.mk hx
    clear hpe hx
    go_enter Try.func15, Try.ntmps15
    go_wp2_with fail
    refine (Try.strings_Join bk o c ss ⟨#[]⟩ _ HC.out hbk hN hcap HJL.out).mono ?_
    rw [← HJ.out]
    rintro e1 w1 ⟨rfl, hb⟩
    have HI1 := Aside0.mk (HI.out.below hb)
    have HB := Aside0.mk hb
    clear hb
    go_wp2_with fail
    refine (rroom_calls g room b _ HI1.out h0 h1).mono ?_
    rintro e2 w2 ⟨rfl, n2, rfl⟩
    have c1 : (w1.drewN n2).cell? ⟨g, 1, none⟩ = some (.string b) := (blk_cell HI1.out 1).trans rfl
    have f1 : (w1.drewN n2).frozen? ⟨g, 1, none⟩ = false := blk_frozen HI1.out 1
    go_wp2
    go_ret
    exact ⟨ret_i64' (by simp), IsRing.set1 (w := w1.drewN n2) HI1.out _, ((Fg.below HB.out).drewN n2).trans (Fg.set _ _ _ _)⟩
  · have hpe : rPut room b j = j := by simp [rPut, hr]
    have hri : (j.size : Int) ≤ (room : Int) - (b.size : Int) := by omega
    rw [hpe] at hps ⊢
    clear hpe
    go_enter Try.func15, Try.ntmps15
    go_wp2_with fail
    refine (Try.strings_Join bk o c ss ⟨#[]⟩ _ HC.out hbk hN hcap HJL.out).mono ?_
    rw [← HJ.out]
    rintro e1 w1 ⟨rfl, hb⟩
    have HI1 := Aside0.mk (HI.out.below hb)
    have HB := Aside0.mk hb
    clear hb
    go_wp2_with fail
    refine (rroom_calls g room b _ HI1.out h0 h1).mono ?_
    rintro e2 w2 ⟨rfl, n2, rfl⟩
    have c1 : (w1.drewN n2).cell? ⟨g, 1, none⟩ = some (.string b) := (blk_cell HI1.out 1).trans rfl
    have f1 : (w1.drewN n2).frozen? ⟨g, 1, none⟩ = false := blk_frozen HI1.out 1
    go_wp2
    go_ret
    exact ⟨rfl, IsRing.set1 (w := w1.drewN n2) HI1.out _, ((Fg.below HB.out).drewN n2).trans (Fg.set _ _ _ _)⟩

/-- Does all of it fit? What waits then. -/
def rAllOk (room : Nat) (b j : ByteArray) : Bool := decide (j.size ≤ room - b.size)
def rAllV (room : Nat) (b j : ByteArray) : ByteArray := if j.size ≤ room - b.size then b ++ j else b
def ko_ (k : Nat) (ss : List ByteArray) : Nat := ss.length - (k + 1)
theorem sumS_eq (ss : List ByteArray) : (joinS ss).size = (ss.map ByteArray.size).sum := by
  have h : ∀ l : List (List UInt8), (Lib.join l []).length = (l.map List.length).sum := by
    intro l
    cases l with
    | nil => rfl
    | cons x l =>
      rw [Lib.join_cons]
      simp [Lib.joinTail, List.length_flatten]
  have e : (joinS ss).size = (Lib.join (ss.map (·.data.toList)) (ByteArray.mk #[]).data.toList).length := rfl
  rw [e]
  show (Lib.join (ss.map (·.data.toList)) []).length = _
  rw [h, List.map_map]
  rfl
set_option maxHeartbeats 2000000 in
theorem rall2_calls (g o bk c room : Nat) (b : ByteArray) (ss : List ByteArray) (w : World) (h : IsRing w g room b) (h0 : b.size ≤ room) (h1 : room ≤ 100000)
    (hcells : ∀ (j : Nat) x, ss[j]? = some x → w.cell? ⟨bk, o + j, none⟩ = some (.string x)) (hbk : bk < w.heap.size) (hcap : ss.length ≤ c) (hN : ss.length ≤ 140737488355328) (hj : (joinS ss).size ≤ 140737488355328) :
    Calls Try.prog 29 #[.pointer (some ⟨g, 0, none⟩), .slice (some ⟨bk, o, none⟩) ss.length c] w fun r w' => r = .returned (.bool (rAllOk room b (joinS ss))) ∧ IsRing w' g room (rAllV room b (joinS ss)) ∧ Fg g w w' := by
  have hn := eql_ring ⟨g, 0, none⟩
  have HI := Aside0.mk h
  have HC := Aside0.mk hcells
  have HJ := Aside0.mk hj
  have HS := Aside0.mk (sumS_eq ss)
  clear h hcells hj
  go_enter Try.func29, Try.ntmps29
  go_wp2
  go_loopg [5, 10] ss.length (fun kq v5 v10 wr => ∃ (k : Nat), v10 = .int .i64 k ∧ v5 = .int .i64 (((ss.take k).map ByteArray.size).sum : Nat) ∧ Aside0 (k ≤ ss.length ∧ kq = ss.length - k) ∧ Aside0 (w = wr))
  case atStart => exact ⟨0, rfl, by simp, ⟨Nat.zero_le _, rfl⟩, ⟨rfl⟩⟩
  case round =>
    obtain ⟨k, rfl, rfl, ⟨hk, hkq⟩, ⟨rfl⟩⟩ := hrel
    have HQ := Aside0.mk hkq
    clear hkq
    by_cases hlt : k < ss.length
    · obtain ⟨x, hxk⟩ : ∃ x, ss[k]? = some x := ⟨ss[k], by simp [hlt]⟩
      have hc := HC.out k x hxk
      have ht : (ss.take (k + 1)) = ss.take k ++ [x] := by
        obtain ⟨hk', rfl⟩ := List.getElem?_eq_some_iff.1 hxk
        exact List.take_succ_eq_append_getElem hk'
      have hsum : ((ss.take (k + 1)).map ByteArray.size).sum ≤ (ss.map ByteArray.size).sum := by
        have e : (ss.map ByteArray.size).sum = ((ss.take (k + 1)).map ByteArray.size).sum + ((ss.drop (k + 1)).map ByteArray.size).sum := by
          rw [← List.sum_append, ← List.map_append, List.take_append_drop]
        omega
      rw [ht] at hsum
      simp only [List.map_append, List.sum_append, List.map_cons, List.map_nil, List.sum_cons, List.sum_nil, Nat.add_zero] at hsum
      obtain ⟨z, hz⟩ : ∃ z, z = ((ss.take k).map ByteArray.size).sum := ⟨_, rfl⟩
      have hzb : z + x.size ≤ 140737488355328 := by rw [hz]; have := HS.out; have := HJ.out; omega
      rw [← hz]
      have HT := Aside0.mk ht
      have HZ := Aside0.mk hz
      clear hxk ht hsum hz
      go_wp2
      go_roundg (ko_ k ss)
      case measure => have := HQ.out; unfold ko_; omega
      case rel => exact ⟨k + 1, by go_num, by rw [HT.out]; simp [HZ.out], ⟨by omega, by unfold ko_; omega⟩, ⟨rfl⟩⟩
    · obtain rfl : k = ss.length := by omega
      rw [List.take_of_length_le (Nat.le_refl _), ← HS.out]
      obtain ⟨z, hz⟩ : ∃ z, z = (joinS ss).size := ⟨_, rfl⟩
      have HZ := Aside0.mk hz
      rw [← hz]
      clear hz
      by_cases hfit : z ≤ room - b.size
      · have hfi : (z : Int) ≤ (room : Int) - (b.size : Int) := by omega
        have HFIT := Aside0.mk hfit
        clear hfit
        go_wp2_with fail
        refine (rroom_calls g room b _ HI.out h0 h1).mono ?_
        rintro e2 w2 ⟨rfl, n2, rfl⟩
        go_wp2_with fail
        refine (rput_calls g o bk c room b ss (w.drewN n2) HI.out h0 h1 (fun j x hx => HC.out j x hx) hbk hcap hN HJ.out).mono ?_
        have hp : rPut room b (joinS ss) = joinS ss := by
          have := HFIT.out
          have := HZ.out
          unfold rPut
          rw [if_neg (by omega)]
        rw [hp]
        clear hp
        rintro e3 w3 ⟨rfl, hI3, hF3⟩
        have HI3 := Aside0.mk hI3
        have HF3 := Aside0.mk hF3
        clear hI3 hF3
        go_wp2
        go_ret
        have hf : (joinS ss).size ≤ room - b.size := by have := HFIT.out; have := HZ.out; omega
        rw [show rAllOk room b (joinS ss) = true from decide_eq_true hf, show rAllV room b (joinS ss) = b ++ joinS ss from if_pos hf]
        exact ⟨rfl, HI3.out, ((Fg.refl g w).drewN n2).trans HF3.out⟩
      · have hfi : (room : Int) - (b.size : Int) < (z : Int) := by omega
        have HFIT := Aside0.mk hfit
        clear hfit
        go_wp2_with fail
        refine (rroom_calls g room b _ HI.out h0 h1).mono ?_
        rintro e2 w2 ⟨rfl, n2, rfl⟩
        go_wp2
        go_ret
        have hf : ¬ (joinS ss).size ≤ room - b.size := by have := HFIT.out; have := HZ.out; omega
        rw [show rAllOk room b (joinS ss) = false from decide_eq_false hf, show rAllV room b (joinS ss) = b from if_neg hf]
        exact ⟨rfl, HI.out, (Fg.refl g w).drewN n2⟩
end Go.Proofs.Ytheieigeipppnaa.Obj
