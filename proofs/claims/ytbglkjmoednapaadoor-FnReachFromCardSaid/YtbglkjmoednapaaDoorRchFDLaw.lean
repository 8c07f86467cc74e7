/-
  FnReachFrom: drawn edges and a number: the program's answer is the reference's; from each reached number no other ones are reached; a number that reaches itself is on a cycle.
-/
import Derived.Test.YtbglkjmoednapaaDoorDrawEx
import Derived.Test.YtbglkjmoednapaaDoorLaid
import Derived.Test.YtbglkjmoednapaaDoorEdgeF
import Derived.Test.YtbglkjmoednapaaDoorCycI
import Derived.Test.YtbglkjmoednapaaDoorRchW
import Derived.Test.YtbglkjmoednapaaDoorSameI
import Derived.Lib.LaidTab
import Derived.Stop.LaidErr
namespace Go.Proofs.YtbglkjmoednapaaDoor
set_option linter.unusedSimpArgs false
set_option linter.unusedVariables false
set_option maxRecDepth 100000
open Go.ChangeShapes Go.WideShapes Go.ChangeAt Go.RowKit Go.Joins Go.Shelf

theorem tab_laid {W : World} (h : laidMet Tryd.prog Rows.fnReachFromRow.laid W) : TabAt (Tryd.lays727_ren.g 1) Lib.deBruijn64tab W := by
  have h2 : laidMet Tryd.prog (("math/bits.deBruijn64tab", Lib.tabData .u8 (Lib.deBruijn64tab.map Int.ofNat)) :: _) W := h.tail
  have hT := Lib.tabIs_of_head (show Tryd.prog.globalNamed "math/bits.deBruijn64tab" = some 1 by kernel_rfl) (show _ = some 77 by kernel_rfl) Tryd.underlying77 Tryd.underlying5 (by kernel_rfl) (by kernel_rfl) h2
  have e0 : Tryd.lays727_ren.g 1 = 1 := by kernel_rfl
  rw [e0]
  intro j hj
  have := hT.cell (show Tryd.prog.globalNamed "math/bits.deBruijn64tab" = some 1 by kernel_rfl) j (by simpa using hj)
  rw [this]
  have e2 : (Lib.deBruijn64tab.map Int.ofNat).getD j 0 = ((Lib.deBruijn64tab.getD j 0 : Nat) : Int) := by
    simp only [List.getD, List.getElem?_map]
    cases Lib.deBruijn64tab[j]? <;> rfl
  rw [e2]
theorem rch_path {m : Nat} {L : List T3} (hm : m ≤ 6) (hL : EdM m L) {f k : Nat} (hf : f < m) (hk : k < m) : rchP m L f k = true ↔ Relation.TransGen (Ed L) f k := by
  have h6 := edM_ed6 hm hL
  have hE : Bit (rowsOf [1, 2, 3, 4] L) = Ed L := bit_ed h6 (fun e => ⟨fun he => ⟨he, by obtain ⟨_, _, _, _, _, h1, h2⟩ := hL e he; simp; omega⟩, fun h => h.1⟩)
  rw [← rch_bit hm hL hf hk, ← hE, ← clo_iff (rowsOf_low [1, 2, 3, 4] L h6)]
  exact ⟨fun h => ⟨by omega, h⟩, fun h => h.2⟩
theorem rchV_mem {many : Int} {L : List T3} {q v : Int} (h : v ∈ rchV many L q) : ∃ m f k : Nat, many = m ∧ m ≤ 6 ∧ q = f ∧ v = k ∧ f < m ∧ k < m ∧ EdM m L ∧ edgesValid many L = true ∧ Relation.TransGen (Ed L) f k := by
  unfold rchV at h
  split at h
  · rename_i hc
    obtain ⟨m, rfl, hm, _, hval⟩ := edgesValid_iff hc.1
    have hb := hc.2
    simp only [inB, Bool.and_eq_true, decide_eq_true_eq] at hb
    obtain ⟨f, rfl⟩ := Int.eq_ofNat_of_zero_le hb.1
    simp only [Int.toNat_natCast, rchT, List.mem_map, List.mem_filter, List.mem_range] at h
    obtain ⟨k, ⟨hk, hp⟩, rfl⟩ := h
    exact ⟨m, f, k, rfl, hm, rfl, rfl, by omega, hk, hval, hc.1, (rch_path hm hval (by omega) hk).1 hp⟩
  · cases h
theorem rchV_of {m f k : Nat} {L : List T3} (hm : m ≤ 6) (hL : EdM m L) (hv : edgesValid m L = true) (hf : f < m) (hk : k < m) (h : Relation.TransGen (Ed L) f k) : (k : Int) ∈ rchV m L f := by
  unfold rchV
  rw [if_pos ⟨hv, by simp [inB]; omega⟩]
  simp only [Int.toNat_natCast, rchT, List.mem_map, List.mem_filter, List.mem_range]
  exact ⟨k, ⟨hk, (rch_path hm hL hf hk).2 h⟩, rfl⟩
theorem rch_facts {many : Int} {L : List T3} {q v : Int} (h : v ∈ rchV many L q) : ∃ m k : Nat, many = m ∧ m ≤ 6 ∧ v = k ∧ k < m ∧ (∀ u ∈ rchV many L v, ∃ j : Nat, u = j ∧ j < m ∧ u ∈ rchV many L q) ∧ (v = q → 0 < (cycV many L).length) := by
  obtain ⟨m, f, k, rfl, hm, rfl, rfl, hf, hk, hval, hv, ht⟩ := rchV_mem h
  refine ⟨m, k, rfl, hm, rfl, hk, fun u hu => ?_, fun e => ?_⟩
  · obtain ⟨m', f', k', e1, _, e2, rfl, _, hk', _, _, ht'⟩ := rchV_mem hu
    have e1 : m = m' := by omega
    have e2 : k = f' := by omega
    subst e1 e2
    exact ⟨k', rfl, hk', rchV_of hm hval hv hf hk' (Relation.TransGen.trans ht ht')⟩
  · have e : k = f := by omega
    subst e
    unfold cycV
    rw [if_pos hv, Int.toNat_natCast]
    exact (cycR_iff hval).2 ⟨k, hk, ht⟩
/-- six bools -/
def boolA (f : Nat → Bool) : Array Value := #[.bool (f 0), .bool (f 1), .bool (f 2), .bool (f 3), .bool (f 4), .bool (f 5)]
theorem boolA_get (f : Nat → Bool) {i : Nat} (hi : i < 6) : (boolA f)[i]? = some (.bool (f i)) := by
  obtain rfl | rfl | rfl | rfl | rfl | rfl : i = 0 ∨ i = 1 ∨ i = 2 ∨ i = 3 ∨ i = 4 ∨ i = 5 := by omega
  all_goals rfl
theorem boolA_set (f g : Nat → Bool) {i : Nat} (hi : i < 6) (hg : ∀ j, j < 6 → g j = if j = i then true else f j) : (boolA f).setIfInBounds i (.bool true) = boolA g := by
  apply Array.ext_getElem?
  intro j
  rw [Array.getElem?_setIfInBounds]
  by_cases hj : j < 6
  · rw [boolA_get _ hj, boolA_get _ hj, hg j hj]
    by_cases e : i = j
    · subst e
      rw [if_pos rfl, if_pos (by show i < 6; omega), if_pos rfl]
    · rw [if_neg e, if_neg (fun h => e h.symm)]
  · have h1 : ∀ g, (boolA g)[j]? = none := fun g => Array.getElem?_eq_none (by show 6 ≤ j; omega)
    rw [h1, h1]
    split
    · rename_i e
      omega
    · rfl
def hasT (L : List Int) (k : Nat) : Nat → Bool := fun i => decide ((i : Int) ∈ L.take k)
theorem hasT_step {L : List Int} {k a : Nat} (h : L[k]? = some (a : Int)) (ha : a < 6) : (boolA (hasT L k)).setIfInBounds a (.bool true) = boolA (hasT L (k + 1)) := by
  refine boolA_set _ _ ha (fun j _ => ?_)
  unfold hasT
  rw [List.take_add_one, h]
  by_cases e : j = a
  · subst e
    simp
  · rw [if_neg e]
    have : ¬ (j : Int) = a := by omega
    simp [this]
theorem infoBool : (Tryd.prog.info? 4).map (fun i => (i.zero, i.size, i.bytes)) = some (some (.bool false), 1, 1) := by kernel_rfl
theorem mkB6 (W : World) : (Instr.makeSlice 29 (.int .i64 6) (.int .i64 6)).run Tryd.prog W = .ok (.slice (some ⟨W.heap.size, 0, none⟩) 6 6) (W.alloc (.cells #[.bool false, .bool false, .bool false, .bool false, .bool false, .bool false] 4)) := by
  obtain ⟨i0, hi, hz0, hz1, hz2⟩ := info_parts infoBool
  have h := run_make_rowN (P := Tryd.prog) 29 4 i0 _ Tryd.underlying29 hi hz0 .i64 .i64 6 6 (by omega) (by rw [hz2]; omega) (by omega) W
  rw [hz1, show madeCells (Value.bool false).cells (6 * 1) = #[.bool false, .bool false, .bool false, .bool false, .bool false, .bool false] from by kernel_rfl] at h
  exact h
set_option maxHeartbeats 8000000 in
theorem FnReachFrom_c (xs : List Int) (A : Option Addr) (c : Nat) (w : World) (hx : Byts Any w A xs) (wf : Law.wfL Law.wfU8 xs) (hc : xs.length ≤ c) (hT : TabAt (Tryd.lays727_ren.g 1) Lib.deBruijn64tab w) :
    Calls Tryd.prog 3 #[.slice A xs.length c] w fun e w' => e = .returned (.bool true) ∧ Ext w w' := by
  by_cases hl : 1048576 < xs.length
  · go_enter Tryd.func3, Tryd.ntmps3
    go_wp2
    go_ret
    exact ⟨rfl, by (repeat' (first | (with_reducible exact Below.refl _ _) | (with_reducible refine Below.mono (by assumption) ?_) | (with_reducible refine Below.trans ?_ (Below.mono (by assumption) ?_)) | (with_reducible refine Below.alloc ?_ ?_ _) | (with_reducible refine Below.drew ?_) | (with_reducible refine below_drewN ?_ _) | (with_reducible refine Below.setCell ?_ ?_ _) | (simp only [World.size_alloc, World.size_setCell, World.size_drew, size_drewN]; omega) | omega))⟩
  have HW : Hid (∀ x ∈ xs, 0 ≤ x ∧ x ≤ 255) := Lib.hid wf.2
  have hmk := mkB6
  have HT := Lib.hid hT
  clear hT
  go_enter Tryd.func3, Tryd.ntmps3
  go_wp2_with (fail)
  go_at_call 5
  refine (DrawReachFrom_c xs A c _ (hx.ext (by (repeat' (first | (with_reducible exact Below.refl _ _) | (with_reducible refine Below.mono (by assumption) ?_) | (with_reducible refine Below.trans ?_ (Below.mono (by assumption) ?_)) | (with_reducible refine Below.alloc ?_ ?_ _) | (with_reducible refine Below.drew ?_) | (with_reducible refine below_drewN ?_ _) | (with_reducible refine Below.setCell ?_ ?_ _) | (simp only [World.size_alloc, World.size_setCell, World.size_drew, size_drewN]; omega) | omega)))) HW.out hc).mono ?_
  rintro e w1 ⟨m, E, A2, c2, q, rfl, hx2, hm1, hm2, hl2, hq1, hq2, hb⟩
  obtain ⟨hc, hf, hz, hs⟩ := bcell hb
  (try simp only [World.size_alloc, World.size_setCell, World.size_drew, size_drewN] at hs); (first | have l0 := Nat.lt_of_lt_of_le l0 (show _ ≤ w1.heap.size by omega) | have l0 : w.heap.size < w1.heap.size := (by omega) | skip); (try have l0e := Nat.le_of_lt l0); (try have l0f := Nat.le_add_right_of_le (k := 1) l0e); (try have l1 := Nat.lt_of_lt_of_le l1 (show _ ≤ w1.heap.size by omega)); (try have l1e := Nat.le_of_lt l1); (try have l1f := Nat.le_add_right_of_le (k := 1) l1e); (try have l2 := Nat.lt_of_lt_of_le l2 (show _ ≤ w1.heap.size by omega)); (try have l2e := Nat.le_of_lt l2); (try have l2f := Nat.le_add_right_of_le (k := 1) l2e); (try have l3 := Nat.lt_of_lt_of_le l3 (show _ ≤ w1.heap.size by omega)); (try have l3e := Nat.le_of_lt l3); (try have l3f := Nat.le_add_right_of_le (k := 1) l3e)
  have E1 := Lib.hid (show Ext w w1 from hb)
  have hon : E.length ≤ 1048576 := by omega
  have HC := Lib.hid (fun v w hx hT => implReachFrom_c m E v Any A2 c2 w hx hon hT)
  have HD := Lib.hid (fun w hx => specReachFrom_c m E q Any A2 c2 w hx hon)
  have CY := Lib.hid (fun w hx => implCycleOf_c m E Any A2 c2 w hx hon)
  have HF := Lib.hid (fun v (h : v ∈ rchV m E q) => rch_facts h)
  have HRL := Lib.hid (fun v => rchV_len m E v)
  have HX := Lib.hid (show Ops Any w1 A2 E from SlAt.mono hx2 (fun _ _ _ => trivial) (fun _ _ h => h))
  clear hx2 hb hc hf hz
  obtain ⟨X, hX⟩ : ∃ X, rchV m E q = X := ⟨_, rfl⟩
  have hXl : X.length ≤ 6 := by rw [← hX]; exact HRL.out q
  have HXq := Lib.hid hX
  have HC0 : Hid (∀ w, Ops Any w A2 E → TabAt (Tryd.lays727_ren.g 1) Lib.deBruijn64tab w → Calls Tryd.prog 6 #[.int .i64 m, .slice A2 E.length c2, .int .i64 q] w (FreshI X w)) := Lib.hid (by rw [← hX]; exact fun w hx hT => HC.out q w hx hT)
  have HD0 : Hid (∀ w, Ops Any w A2 E → Calls Tryd.prog 8 #[.int .i64 m, .slice A2 E.length c2, .int .i64 q] w (FreshI X w)) := Lib.hid (by rw [← hX]; exact HD.out)
  clear HD hX
  go_wp2_with (fail)
  go_at_call 6
  refine (HC0.out _ HX.out (tab_ext HT.out E1.out)).mono ?_
  rintro e w2 ⟨A3, c3, rfl, hI3, hf3, hb⟩
  obtain ⟨hc, hf, hz, hs⟩ := bcell hb
  (try simp only [World.size_alloc, World.size_setCell, World.size_drew, size_drewN] at hs); (first | have l0 := Nat.lt_of_lt_of_le l0 (show _ ≤ w2.heap.size by omega) | have l0 : w.heap.size < w2.heap.size := (by omega) | skip); (try have l0e := Nat.le_of_lt l0); (try have l0f := Nat.le_add_right_of_le (k := 1) l0e); (try have l1 := Nat.lt_of_lt_of_le l1 (show _ ≤ w2.heap.size by omega)); (try have l1e := Nat.le_of_lt l1); (try have l1f := Nat.le_add_right_of_le (k := 1) l1e); (try have l2 := Nat.lt_of_lt_of_le l2 (show _ ≤ w2.heap.size by omega)); (try have l2e := Nat.le_of_lt l2); (try have l2f := Nat.le_add_right_of_le (k := 1) l2e); (try have l3 := Nat.lt_of_lt_of_le l3 (show _ ≤ w2.heap.size by omega)); (try have l3e := Nat.le_of_lt l3); (try have l3f := Nat.le_add_right_of_le (k := 1) l3e)
  have E12 := Lib.hid (show Ext w1 w2 from hb)
  have HI2 := Lib.hid hI3
  clear hb hc hf hz hf3 hI3
  go_wp2_with (fail)
  go_at_call 8
  refine (HD0.out _ (HX.out.ext E12.out)).mono ?_
  rintro e w3 ⟨A4, c4, rfl, hI4, hf4, hb⟩
  obtain ⟨hc, hf, hz, hs⟩ := bcell hb
  (try simp only [World.size_alloc, World.size_setCell, World.size_drew, size_drewN] at hs); (first | have l0 := Nat.lt_of_lt_of_le l0 (show _ ≤ w3.heap.size by omega) | have l0 : w.heap.size < w3.heap.size := (by omega) | skip); (try have l0e := Nat.le_of_lt l0); (try have l0f := Nat.le_add_right_of_le (k := 1) l0e); (try have l1 := Nat.lt_of_lt_of_le l1 (show _ ≤ w3.heap.size by omega)); (try have l1e := Nat.le_of_lt l1); (try have l1f := Nat.le_add_right_of_le (k := 1) l1e); (try have l2 := Nat.lt_of_lt_of_le l2 (show _ ≤ w3.heap.size by omega)); (try have l2e := Nat.le_of_lt l2); (try have l2f := Nat.le_add_right_of_le (k := 1) l2e); (try have l3 := Nat.lt_of_lt_of_le l3 (show _ ≤ w3.heap.size by omega)); (try have l3e := Nat.le_of_lt l3); (try have l3f := Nat.le_add_right_of_le (k := 1) l3e)
  have E13 := Lib.hid (E12.out.tr hb)
  have HI3 := Lib.hid (Ints.ext HI2.out hb)
  clear HC0 HD0 hb hc hf hz hf4 HI2
  go_wp2_with (fail)
  go_at_call 7
  refine (sameInts_c X _ _ _ _ _ _ _ HI3.out hI4 (by omega)).mono ?_
  rintro e w4 ⟨rfl, hb⟩
  obtain ⟨hc, hf, hz, hs⟩ := bcell hb
  (try simp only [World.size_alloc, World.size_setCell, World.size_drew, size_drewN] at hs); (first | have l0 := Nat.lt_of_lt_of_le l0 (show _ ≤ w4.heap.size by omega) | have l0 : w.heap.size < w4.heap.size := (by omega) | skip); (try have l0e := Nat.le_of_lt l0); (try have l0f := Nat.le_add_right_of_le (k := 1) l0e); (try have l1 := Nat.lt_of_lt_of_le l1 (show _ ≤ w4.heap.size by omega)); (try have l1e := Nat.le_of_lt l1); (try have l1f := Nat.le_add_right_of_le (k := 1) l1e); (try have l2 := Nat.lt_of_lt_of_le l2 (show _ ≤ w4.heap.size by omega)); (try have l2e := Nat.le_of_lt l2); (try have l2f := Nat.le_add_right_of_le (k := 1) l2e); (try have l3 := Nat.lt_of_lt_of_le l3 (show _ ≤ w4.heap.size by omega)); (try have l3e := Nat.le_of_lt l3); (try have l3f := Nat.le_add_right_of_le (k := 1) l3e)
  have E14 := Lib.hid (E13.out.tr hb)
  have E4 := Lib.hid (E1.out.tr E14.out)
  have HI4 := Lib.hid (Ints.ext HI3.out hb)
  have HX4 := Lib.hid (HX.out.ext E14.out)
  clear hI4 HI3 HX hb hc hf hz
  go_wp2
  have hB0 : Blk (w4.alloc (.cells #[.bool false, .bool false, .bool false, .bool false, .bool false, .bool false] 4)) w4.heap.size 4 (boolA (hasT X 0)) := Blk.new w4 _ _
  have HB0 := Lib.hid hB0
  clear hB0
  go_loopw [8] (fun i wr => ∃ k : Nat, k ≤ X.length ∧ i = .int .i64 k ∧ Blk wr w4.heap.size 4 (boolA (hasT X k)) ∧ Ext w4 wr) (fun i _ => X.length - (intOf i).toNat)
  case atStart => exact ⟨0, Nat.zero_le _, rfl, HB0.out, by (repeat' (first | (with_reducible exact Below.refl _ _) | (with_reducible refine Below.mono (by assumption) ?_) | (with_reducible refine Below.trans ?_ (Below.mono (by assumption) ?_)) | (with_reducible refine Below.alloc ?_ ?_ _) | (with_reducible refine Below.drew ?_) | (with_reducible refine below_drewN ?_ _) | (with_reducible refine Below.setCell ?_ ?_ _) | (simp only [World.size_alloc, World.size_setCell, World.size_drew, size_drewN]; omega) | omega))⟩
  case round =>
    obtain ⟨k, hk, rfl, hB, hE⟩ := hrel
    have HE := Lib.hid hE
    have HB := Lib.hid hB
    have hgl := hB.lt
    have hfz := hB.frozen
    clear HB0 hE
    by_cases hlt : k < X.length
    · obtain ⟨v, b, off, hxk, rfl, _, hb0, cv⟩ := (Ints.ext HI4.out HE.out).at_ hlt
      obtain ⟨m', a, rfl, hm6, rfl, ha, _, _⟩ := HF.out v (by rw [HXq.out]; exact List.mem_of_getElem? hxk)
      have hca := (hB.cell a).trans (boolA_get _ (by omega))
      have hst := hasT_step hxk (by omega)
      have hput := hB.set_ a (.bool true)
      rw [hst] at hput
      have HPut := Lib.hid hput
      have HEx := Lib.hid (grown_new HE.out (Nat.le_refl _) (show wr.grownBy (wr.setCell ⟨w4.heap.size, a, none⟩ (.bool true)) (some w4.heap.size) from grown_set _))
      have f1 : decide ((a : Int) < 0) = false := decide_eq_false (by omega)
      have f2 : decide ((m' : Int) ≤ (a : Int)) = false := decide_eq_false (by omega)
      have f2n : decide (m' ≤ a) = false := decide_eq_false (by omega)
      have f2p : (m' ≤ a) = False := eq_false (by omega)
      have f3 : (a : Int) < 6 := by omega
      have f3n : a < 6 := by omega
      clear hput hst hxk hB
      go_wp2
      go_roundw
      case measure => simp [intOf]; omega
      case rel => exact ⟨k + 1, by omega, by go_num, HPut.out, HEx.out⟩
    · obtain rfl : k = X.length := by omega
      clear hB hlt hk
      obtain ⟨wp, rfl⟩ : ∃ wp : World, wp = wr := ⟨_, rfl⟩
      go_wp2
      go_loopw [9] (fun i wx => ∃ k : Nat, k ≤ X.length ∧ i = .int .i64 k ∧ Ext wp wx) (fun i _ => X.length - (intOf i).toNat)
      · exact ⟨0, Nat.zero_le _, rfl, Below.refl _ _⟩
      · obtain ⟨k, hk, rfl, hEx⟩ := hrel
        have HEx := Lib.hid hEx
        have HE4x := Lib.hid (HE.out.tr hEx)
        clear hEx
        by_cases hlt : k < X.length
        · obtain ⟨v, b, off, hxk, rfl, _, hb0, cv⟩ := (Ints.ext HI4.out HE4x.out).at_ hlt
          obtain ⟨m', a, rfl, hm6, rfl, ha, hcl, hcy⟩ := HF.out v (by rw [HXq.out]; exact List.mem_of_getElem? hxk)
          have HCl := Lib.hid hcl
          have HCy := Lib.hid hcy
          have hYl := HRL.out a
          clear hxk hcl hcy
          go_wp2_with (fail)
          go_at_call 6
          refine (HC.out a _ (HX4.out.ext HE4x.out) (tab_ext HT.out (E4.out.tr HE4x.out))).mono ?_
          rintro e w5 ⟨A5, c5, rfl, hI5, hf5, hb⟩
          obtain ⟨hc, hf, hz, hs⟩ := bcell hb
          (try simp only [World.size_alloc, World.size_setCell, World.size_drew, size_drewN] at hs); (first | have l0 := Nat.lt_of_lt_of_le l0 (show _ ≤ w5.heap.size by omega) | have l0 : w.heap.size < w5.heap.size := (by omega) | skip); (try have l0e := Nat.le_of_lt l0); (try have l0f := Nat.le_add_right_of_le (k := 1) l0e); (try have l1 := Nat.lt_of_lt_of_le l1 (show _ ≤ w5.heap.size by omega)); (try have l1e := Nat.le_of_lt l1); (try have l1f := Nat.le_add_right_of_le (k := 1) l1e); (try have l2 := Nat.lt_of_lt_of_le l2 (show _ ≤ w5.heap.size by omega)); (try have l2e := Nat.le_of_lt l2); (try have l2f := Nat.le_add_right_of_le (k := 1) l2e); (try have l3 := Nat.lt_of_lt_of_le l3 (show _ ≤ w5.heap.size by omega)); (try have l3e := Nat.le_of_lt l3); (try have l3f := Nat.le_add_right_of_le (k := 1) l3e)
          have HEx5 := Lib.hid (HEx.out.tr hb)
          have HE45 := Lib.hid (HE4x.out.tr hb)
          have HI5 := Lib.hid hI5
          have cv5 := Ext.keep hb hb0 cv
          clear hb hc hf hz hf5 hI5
          generalize rchV (m' : Int) E (a : Int) = Y at HI5 HCl hYl
          go_wp2
          go_loopw [11] (fun i wy => ∃ j : Nat, j ≤ Y.length ∧ i = .int .i64 j ∧ Ext w5 wy) (fun i _ => Y.length - (intOf i).toNat)
          · exact ⟨0, Nat.zero_le _, rfl, Below.refl _ _⟩
          · obtain ⟨j, hj, rfl, hEy⟩ := hrel
            have HEy := Lib.hid hEy
            have HExy := Lib.hid (HEx5.out.tr hEy)
            clear hEy
            by_cases hlj : j < Y.length
            · obtain ⟨u, b2, off2, hyk, rfl, _, hb2, cu⟩ := (Ints.ext HI5.out HEy.out).at_ hlj
              obtain ⟨b', rfl, hbm, hmem⟩ := HCl.out u (List.mem_of_getElem? hyk)
              rw [HXq.out] at hmem
              have hcb := HExy.out.keep hgl ((HB.out.cell b').trans (boolA_get _ (by omega)))
              have hht : hasT X X.length b' = true := by
                unfold hasT
                rw [List.take_length]
                exact decide_eq_true hmem
              rw [hht] at hcb
              have f1 : decide ((b' : Int) < 0) = false := decide_eq_false (by omega)
              have f2 : decide ((m' : Int) ≤ (b' : Int)) = false := decide_eq_false (by omega)
              have f2n : decide (m' ≤ b') = false := decide_eq_false (by omega)
              have f2p : (m' ≤ b') = False := eq_false (by omega)
              have f3 : (b' : Int) < 6 := by omega
              have f3n : b' < 6 := by omega
              clear hyk hmem hht
              go_wp2
              go_roundw
              case measure => simp [intOf]; omega
              case rel => exact ⟨j + 1, by omega, by go_num, HEy.out⟩
            · obtain rfl : j = Y.length := by omega
              have hb5 : b < w5.heap.size := by
                rcases Nat.lt_or_ge b w5.heap.size with h' | h'
                · exact h'
                · simp [World.cell?, Array.getElem?_eq_none h'] at cv5
              have cv6 := HEy.out.keep hb5 cv5
              have HE46 := Lib.hid (HE45.out.tr HEy.out)
              by_cases hq : (a : Int) = q
              · have hcl0 := HCy.out hq
                have hqb : ((a : Int) == q) = true := by simpa using hq
                have CY0 := CY.out
                generalize cycV (m' : Int) E = CL at CY0 hcl0
                have hz0 : ((CL.length : Int) == 0) = false := beq_eq_false_iff_ne.2 (by omega)
                have CY0 := Lib.hid CY0
                clear hq
                go_wp2_with (fail)
                go_at_call 9
                refine (CY0.out _ (HX4.out.ext HE46.out)).mono ?_
                rintro e w8 ⟨A8, c8, rfl, _, _, hb⟩
                obtain ⟨hc, hf, hz, hs⟩ := bcell hb
                (try simp only [World.size_alloc, World.size_setCell, World.size_drew, size_drewN] at hs); (first | have l0 := Nat.lt_of_lt_of_le l0 (show _ ≤ w8.heap.size by omega) | have l0 : w.heap.size < w8.heap.size := (by omega) | skip); (try have l0e := Nat.le_of_lt l0); (try have l0f := Nat.le_add_right_of_le (k := 1) l0e); (try have l1 := Nat.lt_of_lt_of_le l1 (show _ ≤ w8.heap.size by omega)); (try have l1e := Nat.le_of_lt l1); (try have l1f := Nat.le_add_right_of_le (k := 1) l1e); (try have l2 := Nat.lt_of_lt_of_le l2 (show _ ≤ w8.heap.size by omega)); (try have l2e := Nat.le_of_lt l2); (try have l2f := Nat.le_add_right_of_le (k := 1) l2e); (try have l3 := Nat.lt_of_lt_of_le l3 (show _ ≤ w8.heap.size by omega)); (try have l3e := Nat.le_of_lt l3); (try have l3f := Nat.le_add_right_of_le (k := 1) l3e)
                go_wp2
                go_roundw
                case measure => simp [intOf]; omega
                case rel => exact ⟨k + 1, by omega, by go_num, HExy.out.tr hb⟩
              · have hqb : ((a : Int) == q) = false := by simpa using hq
                clear hq
                go_wp2
                go_roundw
                case measure => simp [intOf]; omega
                case rel => exact ⟨k + 1, by omega, by go_num, HExy.out⟩
        · obtain rfl : k = X.length := by omega
          go_wp2_with (fail)
          go_at_call 10
          refine (alive_c _).mono ?_
          rintro e w9 ⟨rfl, hb⟩
          obtain ⟨hc, hf, hz, hs⟩ := bcell hb
          (try simp only [World.size_alloc, World.size_setCell, World.size_drew, size_drewN] at hs); (first | have l0 := Nat.lt_of_lt_of_le l0 (show _ ≤ w9.heap.size by omega) | have l0 : w.heap.size < w9.heap.size := (by omega) | skip); (try have l0e := Nat.le_of_lt l0); (try have l0f := Nat.le_add_right_of_le (k := 1) l0e); (try have l1 := Nat.lt_of_lt_of_le l1 (show _ ≤ w9.heap.size by omega)); (try have l1e := Nat.le_of_lt l1); (try have l1f := Nat.le_add_right_of_le (k := 1) l1e); (try have l2 := Nat.lt_of_lt_of_le l2 (show _ ≤ w9.heap.size by omega)); (try have l2e := Nat.le_of_lt l2); (try have l2f := Nat.le_add_right_of_le (k := 1) l2e); (try have l3 := Nat.lt_of_lt_of_le l3 (show _ ≤ w9.heap.size by omega)); (try have l3e := Nat.le_of_lt l3); (try have l3f := Nat.le_add_right_of_le (k := 1) l3e)
          go_wp2
          go_ret
          exact ⟨rfl, (E4.out.tr HE4x.out).tr hb⟩

theorem FnReachFrom_reads (os : Os) {H : Type} (enc : TypeId × Value → H) : ∃ places, DataW.whole enc Tryd.prog ((Law.laidWorld os).forCall (fun _ _ => 0) ⟨#[], #[.slice none 0 0], []⟩).memory Tryd.f3.params.toList Rows.fnReachFromSpec.vars false (#[.slice none 0 0] : Array Value).toList 8 = some ([.nil], [], places) :=
  ⟨[], by kernel_rfl⟩
theorem FnReachFrom_laid (os : Os) : laidMet Tryd.prog Rows.fnReachFromRow.laid ((Law.laidWorld os).forCall (fun _ _ => 0) ⟨#[], #[.slice none 0 0], []⟩).memory :=
  laidMet_of_run' 8 (by kernel_rfl) (by kernel_rfl)
set_option maxRecDepth 100000 in
theorem FnReachFrom_lifted (os : Os) (started : os.Started) (H : Type) (enc : TypeId × Value → H) (F : Stop.Interp) :
    ReturnsInHanded {} Tryd.checked os 3 .any ((OpenSpec.ofChange Rows.fnReachFromSpec).preRow enc Tryd.prog Tryd.f3 Rows.fnReachFromRow.domain false Rows.fnReachFromRow.laid) (((OpenSpec.ofChange Rows.fnReachFromSpec).at F).post enc Tryd.prog Tryd.f3 false true false false) := by
  obtain ⟨places, hx⟩ := FnReachFrom_reads os enc
  refine returnsInHanded_of_row (C := Tryd.checked) (s := OpenSpec.ofChange Rows.fnReachFromSpec) Law.own started (by kernel_rfl) Tryd.func3
    (witness_row_at (enc := enc) (C := Tryd.checked) false (Law.laidWorld os) #[.slice none 0 0] rfl (by kernel_rfl) (by kernel_rfl) (by kernel_rfl)
      (OpenSpec.preRow_of_cond 8 hx (by kernel_rfl) (fun k hk => by cases hk) (by kernel_rfl) (FnReachFrom_laid os))) ?_
  intro W base args ds gs before hval0 hW _ _ _ hLaid _ _
  have hval : ∀ (j : Nat) t v, Tryd.f3.params[j]? = some t → args[j]? = some v → Value.okWide Tryd.prog W .any base t v := hval0
  have hW' := hW
  obtain ⟨p, q, hA0, hV, rfl, hfz, hnd⟩ := hW
  have hA : DataW.TrodAll enc Tryd.prog W 0 (fun _ => true) true Tryd.f3.params.toList args.toList ds p := hA0
  rw [Tryd.params3] at hA hval
  obtain ⟨v0, vs0, d0, ds0, p0, q0, hargs, hds, rfl, h0, r0⟩ := trodAll_cons hA
  obtain ⟨rfl, rfl, rfl⟩ := trodAll_nil r0
  obtain rfl : args = #[v0] := by cases args; simp_all
  subst hds
  obtain ⟨x0, A0, c0, rfl, hO0, wf0⟩ := Law.open_bytes Tryd.underlying22 Tryd.underlying5 (by kernel_rfl) (hval 0 22 v0 rfl rfl) h0
  refine (FnReachFrom_c x0 A0 c0 W hO0 wf0 (Law.bytes_cap Tryd.underlying22 (hval 0 22 _ rfl rfl)) (tab_laid hLaid)).mono fun e W' ⟨he, hb⟩ => ?_
  subst he
  refine ⟨_, rfl, Law.post_true Law.laidOut ?_ rfl rfl Tryd.underlying4 ⟨rfl, rfl, rfl⟩ hW' hb⟩
  intro t ht
  rw [Tryd.params3] at ht
  simp only [List.mem_cons, List.not_mem_nil, or_false] at ht
  first | (rcases ht with rfl <;> exact ⟨by kernel_rfl, of_decide_eq_true (by kernel_rfl)⟩)

theorem FnReachFrom_holds : Rows.FnReachFromSaid :=
  OpenClaim.holds_of_cond 3 Tryd.f3 rfl rfl rfl rfl rfl rfl rfl ⟨rfl, rfl, rfl, rfl, rfl⟩ rfl rfl rfl rfl rfl (by kernel_rfl) Tryd.func3 (by kernel_rfl)
    (of_decide_eq_true (by kernel_rfl)) (by unfold Func.isWrapper; first | (rw [if_pos (by decide +kernel)]; kernel_rfl) | (rw [if_neg (by decide +kernel)]; exact ⟨rfl, rfl⟩))
    (fun os started H enc _ F => by rw [OpenClaim.pre_eq_preRow]; exact FnReachFrom_lifted os started H enc F)
theorem FnReachFrom_plain (f : FuncId) (fn : Func) (hf : Tryd.pinned.checked.prog.funcNamed Rows.fnReachFromRow.func = some f) (hfn : Tryd.pinned.checked.prog.funcs[f]? = some fn) :
    false = Tryd.pinned.checked.prog.looks [] ∧ ∀ (j : Nat) t, fn.params[j]? = some t → Tryd.pinned.checked.prog.wantsStandIn t = false := by
  obtain rfl : f = 3 := Option.some.inj ((show Tryd.prog.funcNamed Rows.fnReachFromRow.func = some 3 by kernel_rfl).symm.trans hf) |>.symm
  obtain rfl : fn = Tryd.f3 := (Option.some.inj (Tryd.func3.symm.trans hfn)).symm
  refine ⟨by kernel_rfl, fun j t ht => ?_⟩
  rw [Tryd.params3] at ht
  have hm := Array.mem_of_getElem? ht
  simp only [List.mem_toArray, List.mem_cons, List.not_mem_nil, or_false] at hm
  rcases hm with rfl
  · exact (show Tryd.prog.wantsStandIn 22 = false by kernel_rfl)
theorem FnReachFrom_card : Rows.FnReachFromCardSaid :=
  Claim7.holds_tied_plain_at .later [] _ _ _ _ FnReachFrom_holds (fun _ h => by cases h) (by kernel_rfl) (fun _ h => by cases h) fnReachFrom_row_tie rfl ⟨rfl, rfl⟩ (by kernel_rfl) rfl FnReachFrom_plain (by kernel_rfl)

end Go.Proofs.YtbglkjmoednapaaDoor
