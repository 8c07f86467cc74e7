/-
  FnTopOrder: drawn edges: the program's answer is the reference's; all numbers are there once, and every edge leads forward.
-/
import Derived.Test.YtgoolakphehabaaDoorDrawEd
import Derived.Test.YtgoolakphehabaaDoorLaid
import Derived.Test.YtgoolakphehabaaDoorTop
import Derived.Test.YtgoolakphehabaaDoorFar
import Derived.Test.YtgoolakphehabaaDoorSameI
namespace Go.Proofs.YtgoolakphehabaaDoor
set_option linter.unusedSimpArgs false
set_option linter.unusedVariables false
set_option maxRecDepth 100000
open Go.ChangeShapes Go.WideShapes Go.ChangeAt Go.RowKit Go.Joins

/-- what holds of an order in the making -/
structure TopI (m : Nat) (L : List T3) (out : List Int) (g r : Nat) : Prop where
  lt : ∀ v ∈ out, 0 ≤ v ∧ v < m
  bits : ∀ a : Nat, a < m → (g.testBit a = true ↔ (a : Int) ∈ out)
  dist : ∀ (i j : Nat) u v, i < j → out[i]? = some u → out[j]? = some v → u ≠ v
  fwd : ∀ (j : Nat) b, out[j]? = some b → ∀ e ∈ L, e.b = b → ∃ i, i < j ∧ out[i]? = some e.a
  many : r ≤ cnt (fun a => (a : Int) ∈ out) m
theorem topI {m : Nat} {L : List T3} (hm : m ≤ 6) (hL : ∀ e ∈ L, 0 ≤ e.a ∧ e.a < m) : ∀ r out g, topT m (topFreeS L) r = some (out, g) → TopI m L out g r := by
  intro r
  induction r with
  | zero =>
    intro out g h
    cases h
    exact ⟨(fun v hv => by cases hv), (fun a _ => by simp), (fun i j u v _ h => by simp at h), (fun j b h => by simp at h), Nat.zero_le _⟩
  | succ r ih =>
    intro out g h
    unfold topT at h
    cases hr : topT m (topFreeS L) r with
    | none => rw [hr] at h; cases h
    | some x =>
      obtain ⟨o, g0⟩ := x
      rw [hr] at h
      simp only at h
      cases hn : topNext (topFreeS L g0) m with
      | none => rw [hn] at h; cases h
      | some i =>
        rw [hn] at h
        cases h
        obtain ⟨I1, I2, I3, I4, I5⟩ := ih o g0 hr
        obtain ⟨hi, hp⟩ := topNext_some hn
        simp only [topFreeS, Bool.and_eq_true, Bool.not_eq_true', List.all_eq_true, Bool.or_eq_true, decide_eq_true_eq] at hp
        have hlow := topT_low hm r o g0 hr
        have hni : ¬ (i : Int) ∈ o := fun hmem => by
          have := (I2 i hi).2 hmem
          rw [hp.1] at this
          cases this
        refine ⟨fun v hv => ?_, fun a ha => ?_, fun i' j u v hij hu hv => ?_, fun j b hb e he heb => ?_, ?_⟩
        · rcases List.mem_append.1 hv with hv | hv
          · exact I1 v hv
          · obtain rfl := List.mem_singleton.1 hv
            omega
        · rw [orN_bit hlow (shlN_lt (by omega)), shlN_bit (by omega), Bool.or_eq_true, I2 a ha, decide_eq_true_eq, List.mem_append, List.mem_singleton]
          constructor
          · rintro (h | h)
            · exact .inl h
            · exact .inr (by omega)
          · rintro (h | h)
            · exact .inl h
            · exact .inr (by omega)
        · rcases Nat.lt_or_ge j o.length with hj | hj
          · rw [List.getElem?_append_left hj] at hv
            rw [List.getElem?_append_left (by omega)] at hu
            exact I3 i' j u v hij hu hv
          · rw [List.getElem?_append_right hj] at hv
            have hz : j - o.length = 0 := by
              cases hx : j - o.length with
              | zero => rfl
              | succ n => rw [hx] at hv; simp at hv
            rw [hz] at hv
            obtain rfl : (i : Int) = v := by simpa using hv
            rw [List.getElem?_append_left (by omega)] at hu
            intro he
            exact hni (he ▸ List.mem_of_getElem? hu)
        · rcases Nat.lt_or_ge j o.length with hj | hj
          · rw [List.getElem?_append_left hj] at hb
            obtain ⟨i', h1, h2⟩ := I4 j b hb e he heb
            exact ⟨i', h1, by rw [List.getElem?_append_left (by omega)]; exact h2⟩
          · rw [List.getElem?_append_right hj] at hb
            have hz : j - o.length = 0 := by
              cases hx : j - o.length with
              | zero => rfl
              | succ n => rw [hx] at hb; simp at hb
            rw [hz] at hb
            obtain rfl : (i : Int) = b := by simpa using hb
            have hea := hL e he
            have h1 := hp.2 e he
            rcases h1 with h1 | h1
            · exact absurd heb h1
            · have h2 := (I2 e.a.toNat (by omega)).1 h1
              obtain ⟨i', hi'⟩ := List.getElem?_of_mem h2
              have hl := (List.getElem?_eq_some_iff.1 hi').1
              exact ⟨i', by omega, by rw [List.getElem?_append_left hl, hi']; congr 1; omega⟩
        · have := cnt_lt (p := fun a : Nat => (a : Int) ∈ o) (q := fun a : Nat => (a : Int) ∈ o ++ [(i : Int)]) (fun v h => List.mem_append_left _ h) (v := i) (by simp) hni hi
          omega
theorem top_all {m : Nat} {L : List T3} {out : List Int} {g : Nat} (h : TopI m L out g m) (a : Nat) (ha : a < m) : (a : Int) ∈ out := by
  refine Classical.byContradiction fun hn => ?_
  have h1 := cnt_lt (p := fun a : Nat => (a : Int) ∈ out) (q := fun _ => True) (fun v _ => trivial) (v := a) trivial hn ha
  have h2 := cnt_le (fun _ : Nat => True) m
  have h3 := h.many
  omega
/-- the places of the first k numbers -/
def plT (out : List Int) : Nat → (Nat → Int)
  | 0 => fun _ => 0
  | k + 1 => match out[k]? with
    | some v => updI (plT out k) v.toNat ((k : Int) + 1)
    | none => plT out k
theorem plT_at {out : List Int} (hd : ∀ (i j : Nat) u v, i < j → out[i]? = some u → out[j]? = some v → u ≠ v) (h0 : ∀ v ∈ out, 0 ≤ v) (k : Nat) : ∀ (i : Nat) v, i < k → out[i]? = some v → plT out k v.toNat = (i : Int) + 1 := by
  induction k with
  | zero => intro i v h; omega
  | succ k ih =>
    intro i v hi hv
    unfold plT
    cases hk : out[k]? with
    | none =>
      simp only
      refine ih i v ?_ hv
      rcases Nat.lt_or_ge i k with h | h
      · exact h
      · obtain rfl : i = k := by omega
        rw [hk] at hv
        cases hv
    | some u =>
      simp only
      rcases Nat.lt_or_ge i k with h | h
      · rw [updI_other]
        · exact ih i v h hv
        · have h1 := hd i k v u h hv hk
          have h2 := h0 v (List.mem_of_getElem? hv)
          have h3 := h0 u (List.mem_of_getElem? hk)
          omega
      · obtain rfl : i = k := by omega
        rw [hk] at hv
        cases hv
        rw [updI_same]
theorem Own1.put {w : World} {base g n c i : Nat} {e : TypeId} {xs : List Int} (h : Own1 w base e (.slice (some ⟨g, 0, none⟩) n c) xs) (hi : i < xs.length) (y : Int) :
    Own1 (w.setCell ⟨g, i, none⟩ (.int .i64 y)) base e (.slice (some ⟨g, 0, none⟩) n c) (xs.set i y) := by
  unfold Own1 at h ⊢
  rw [List.length_set]
  refine ⟨by simp [flat1], ?_⟩
  rcases h.2 with ⟨hv, hn⟩ | ⟨g', cap, cur, hv, hb, hg, hle, hm, hs, ht⟩
  · cases hv
  · cases hv
    refine .inr ⟨g, c, cur.setIfInBounds i (.int .i64 y), rfl, hb, Blk.set_ (show Blk w g e cur from hg) i _, hle, hm, by simpa using hs, ?_⟩
    rw [Array.toList_setIfInBounds, List.take_set, ht]
    simp [flat1, List.map_set]
theorem Own1.lit6 (w : World) {base : Nat} {e : TypeId} (hb : base ≤ w.heap.size) : Own1 (w.alloc (.cells #[.int .i64 0, .int .i64 0, .int .i64 0, .int .i64 0, .int .i64 0, .int .i64 0] e)) base e (.slice (some ⟨w.heap.size, 0, none⟩) 6 6) (fl 6 (plT [] 0)) := by
  unfold Own1
  exact ⟨rfl, .inr ⟨w.heap.size, 6, _, rfl, hb, heap_alloc_new w _, Nat.le_refl _, by unfold maxLen; omega, rfl, rfl⟩⟩
theorem mk6 (W : World) : (Instr.makeSlice 31 (.int .i64 6) (.int .i64 6)).run Tryd.prog W = .ok (.slice (some ⟨W.heap.size, 0, none⟩) 6 6) (W.alloc (.cells #[.int .i64 0, .int .i64 0, .int .i64 0, .int .i64 0, .int .i64 0, .int .i64 0] 3)) := by
  obtain ⟨i0, hi, hz0, hz1, hz2⟩ := info_parts infoInt
  have h := run_make_rowN (P := Tryd.prog) 31 3 i0 _ Tryd.underlying31 hi hz0 .i64 .i64 6 6 (by omega) (by rw [hz2]; omega) (by omega) W
  rw [hz1, show madeCells (Value.int IntKind.i64 0).cells (6 * 1) = #[.int .i64 0, .int .i64 0, .int .i64 0, .int .i64 0, .int .i64 0, .int .i64 0] from by kernel_rfl] at h
  exact h
/-- the facts that the law's loops look at -/
theorem top_facts {many : Int} {L : List T3} (hv : (topV many L).2 = true) : ∃ m : Nat, many = m ∧ m ≤ 6 ∧ (topV many L).1.length = m ∧ (∀ v ∈ (topV many L).1, 0 ≤ v ∧ v < m) ∧
    (∀ (i j : Nat) u v, i < j → (topV many L).1[i]? = some u → (topV many L).1[j]? = some v → u ≠ v) ∧ (∀ a : Nat, a < m → (a : Int) ∈ (topV many L).1) ∧
    (∀ e ∈ L, 0 ≤ e.a ∧ e.a < m ∧ 0 ≤ e.b ∧ e.b < m ∧ ∃ i j : Nat, i < j ∧ (topV many L).1[i]? = some e.a ∧ (topV many L).1[j]? = some e.b) := by
  unfold topV at hv ⊢
  by_cases he : edgesValid many L = true
  · rw [if_pos he] at hv ⊢
    obtain ⟨m, rfl, hm, _, ha⟩ := edgesValid_iff he
    simp only [Int.toNat_natCast] at hv ⊢
    unfold topR at hv ⊢
    cases hq : topT m (topFreeS L) m with
    | none => rw [hq] at hv; cases hv
    | some x =>
      obtain ⟨out, g⟩ := x
      simp only
      have hI := topI hm (fun e he => by have := ha e he; omega) m out g hq
      have hall := top_all hI
      refine ⟨m, rfl, hm, topT_len m out g hq, hI.lt, hI.dist, hall, fun e he => ?_⟩
      have h1 := ha e he
      refine ⟨by omega, by omega, by omega, by omega, ?_⟩
      have h2 := hall e.b.toNat (by omega)
      rw [show ((e.b.toNat : Nat) : Int) = e.b by omega] at h2
      obtain ⟨j, hj⟩ := List.getElem?_of_mem h2
      obtain ⟨i, hi, hi2⟩ := hI.fwd j e.b hj e he rfl
      exact ⟨i, j, hi, hi2, hj⟩
  · rw [if_neg he] at hv
    cases hv
theorem top_none {many : Int} {L : List T3} (hv : (topV many L).2 = false) : (topV many L).1 = [] := by
  unfold topV at hv ⊢
  split at hv
  · rename_i he
    rw [if_pos he]
    unfold topR at hv ⊢
    split at hv
    · cases hv
    · rfl
  · rename_i he
    rw [if_neg he]
theorem plT_succ {out : List Int} {k : Nat} {v : Int} (h : out[k]? = some v) : plT out (k + 1) = updI (plT out k) v.toNat ((k : Int) + 1) := by
  conv => lhs; unfold plT
  rw [h]
set_option maxHeartbeats 4000000 in
theorem FnTopOrder_c (xs : List Int) (A : Option Addr) (c : Nat) (w : World) (hx : Byts Any w A xs) (wf : Law.wfL Law.wfU8 xs) (hc : xs.length ≤ c) :
    Calls Tryd.prog 4 #[.slice A xs.length c] w fun e w' => e = .returned (.bool true) ∧ Ext w w' := by
  by_cases hl : 1048576 < xs.length
  · go_enter Tryd.func4, Tryd.ntmps4
    go_wp2
    go_ret
    exact ⟨rfl, by (repeat' (first | (with_reducible exact Below.refl _ _) | (with_reducible refine Below.mono (by assumption) ?_) | (with_reducible refine Below.trans ?_ (Below.mono (by assumption) ?_)) | (with_reducible refine Below.alloc ?_ ?_ _) | (with_reducible refine Below.drew ?_) | (with_reducible refine below_drewN ?_ _) | (with_reducible refine Below.setCell ?_ ?_ _) | (simp only [World.size_alloc, World.size_setCell, World.size_drew, size_drewN]; omega) | omega))⟩
  have HW : Hid (∀ x ∈ xs, 0 ≤ x ∧ x ≤ 255) := Lib.hid wf.2
  have hmk := mk6
  go_enter Tryd.func4, Tryd.ntmps4
  go_wp2_with (fail)
  go_at_call 11
  refine (DrawTopOrder_c xs A c _ (hx.ext (by (repeat' (first | (with_reducible exact Below.refl _ _) | (with_reducible refine Below.mono (by assumption) ?_) | (with_reducible refine Below.trans ?_ (Below.mono (by assumption) ?_)) | (with_reducible refine Below.alloc ?_ ?_ _) | (with_reducible refine Below.drew ?_) | (with_reducible refine below_drewN ?_ _) | (with_reducible refine Below.setCell ?_ ?_ _) | (simp only [World.size_alloc, World.size_setCell, World.size_drew, size_drewN]; omega) | omega)))) HW.out hc).mono ?_
  rintro e w1 ⟨m, E, A2, c2, rfl, hx2, hn2, hm1, hm2, hl2, hb⟩
  obtain ⟨hc, hf, hz, hs⟩ := bcell hb
  (try simp only [World.size_alloc, World.size_setCell, World.size_drew, size_drewN] at hs); (first | have l0 := Nat.lt_of_lt_of_le l0 (show _ ≤ w1.heap.size by omega) | have l0 : w.heap.size < w1.heap.size := (by omega) | skip); (try have l0e := Nat.le_of_lt l0); (try have l0f := Nat.le_add_right_of_le (k := 1) l0e); (try have l1 := Nat.lt_of_lt_of_le l1 (show _ ≤ w1.heap.size by omega)); (try have l1e := Nat.le_of_lt l1); (try have l1f := Nat.le_add_right_of_le (k := 1) l1e); (try have l2 := Nat.lt_of_lt_of_le l2 (show _ ≤ w1.heap.size by omega)); (try have l2e := Nat.le_of_lt l2); (try have l2f := Nat.le_add_right_of_le (k := 1) l2e); (try have l3 := Nat.lt_of_lt_of_le l3 (show _ ≤ w1.heap.size by omega)); (try have l3e := Nat.le_of_lt l3); (try have l3f := Nat.le_add_right_of_le (k := 1) l3e)
  have E1 := Lib.hid (show Ext w w1 from hb)
  have hon : E.length ≤ 1048576 := by omega
  have C := fun w hx => implTopOrder_c m E Any A2 c2 w hx hon
  have D := fun w hx => specTopOrder_c m E Any A2 c2 w hx hon
  have F := fun h => top_facts (many := m) (L := E) h
  have G := fun h => top_none (many := m) (L := E) h
  generalize topV m E = V at C D F G
  obtain ⟨L, r⟩ := V
  simp only at F G
  have HC := Lib.hid C
  have HD := Lib.hid D
  have HF := Lib.hid F
  have HGn := Lib.hid G
  have HX := Lib.hid (show Ops Any w1 A2 E from SlAt.mono hx2 (fun _ _ _ => trivial) (fun _ _ h => h))
  clear C D F G hx2 hb hc hf hz hn2
  go_wp2_with (fail)
  go_at_call 12
  refine (HC.out _ HX.out).mono ?_
  rintro e w2 ⟨A3, c3, rfl, hI3, hf3, hb⟩
  obtain ⟨hc, hf, hz, hs⟩ := bcell hb
  (try simp only [World.size_alloc, World.size_setCell, World.size_drew, size_drewN] at hs); (first | have l0 := Nat.lt_of_lt_of_le l0 (show _ ≤ w2.heap.size by omega) | have l0 : w.heap.size < w2.heap.size := (by omega) | skip); (try have l0e := Nat.le_of_lt l0); (try have l0f := Nat.le_add_right_of_le (k := 1) l0e); (try have l1 := Nat.lt_of_lt_of_le l1 (show _ ≤ w2.heap.size by omega)); (try have l1e := Nat.le_of_lt l1); (try have l1f := Nat.le_add_right_of_le (k := 1) l1e); (try have l2 := Nat.lt_of_lt_of_le l2 (show _ ≤ w2.heap.size by omega)); (try have l2e := Nat.le_of_lt l2); (try have l2f := Nat.le_add_right_of_le (k := 1) l2e); (try have l3 := Nat.lt_of_lt_of_le l3 (show _ ≤ w2.heap.size by omega)); (try have l3e := Nat.le_of_lt l3); (try have l3f := Nat.le_add_right_of_le (k := 1) l3e)
  have E12 := Lib.hid (show Ext w1 w2 from hb)
  have HI2 := Lib.hid hI3
  clear hb hc hf hz hf3 hI3
  go_wp2_with (fail)
  go_at_call 13
  refine (HD.out _ (HX.out.ext E12.out)).mono ?_
  rintro e w3 ⟨A4, c4, rfl, hI4, hf4, hb⟩
  obtain ⟨hc, hf, hz, hs⟩ := bcell hb
  (try simp only [World.size_alloc, World.size_setCell, World.size_drew, size_drewN] at hs); (first | have l0 := Nat.lt_of_lt_of_le l0 (show _ ≤ w3.heap.size by omega) | have l0 : w.heap.size < w3.heap.size := (by omega) | skip); (try have l0e := Nat.le_of_lt l0); (try have l0f := Nat.le_add_right_of_le (k := 1) l0e); (try have l1 := Nat.lt_of_lt_of_le l1 (show _ ≤ w3.heap.size by omega)); (try have l1e := Nat.le_of_lt l1); (try have l1f := Nat.le_add_right_of_le (k := 1) l1e); (try have l2 := Nat.lt_of_lt_of_le l2 (show _ ≤ w3.heap.size by omega)); (try have l2e := Nat.le_of_lt l2); (try have l2f := Nat.le_add_right_of_le (k := 1) l2e); (try have l3 := Nat.lt_of_lt_of_le l3 (show _ ≤ w3.heap.size by omega)); (try have l3e := Nat.le_of_lt l3); (try have l3f := Nat.le_add_right_of_le (k := 1) l3e)
  have E13 := Lib.hid (E12.out.tr hb)
  have HI3 := Lib.hid (Ints.ext HI2.out hb)
  have hL6 : L.length ≤ 1048576 := by
    cases r with
    | true =>
      obtain ⟨m', _, h6, hlen, _⟩ := HF.out rfl
      omega
    | false => rw [HGn.out rfl]; simp
  clear HC HD hb hc hf hz hf4 HI2
  go_wp2_with (fail)
  go_at_call 14
  refine (sameInts_c L _ _ _ _ _ _ _ HI3.out hI4 hL6).mono ?_
  rintro e w4 ⟨rfl, hb⟩
  obtain ⟨hc, hf, hz, hs⟩ := bcell hb
  (try simp only [World.size_alloc, World.size_setCell, World.size_drew, size_drewN] at hs); (first | have l0 := Nat.lt_of_lt_of_le l0 (show _ ≤ w4.heap.size by omega) | have l0 : w.heap.size < w4.heap.size := (by omega) | skip); (try have l0e := Nat.le_of_lt l0); (try have l0f := Nat.le_add_right_of_le (k := 1) l0e); (try have l1 := Nat.lt_of_lt_of_le l1 (show _ ≤ w4.heap.size by omega)); (try have l1e := Nat.le_of_lt l1); (try have l1f := Nat.le_add_right_of_le (k := 1) l1e); (try have l2 := Nat.lt_of_lt_of_le l2 (show _ ≤ w4.heap.size by omega)); (try have l2e := Nat.le_of_lt l2); (try have l2f := Nat.le_add_right_of_le (k := 1) l2e); (try have l3 := Nat.lt_of_lt_of_le l3 (show _ ≤ w4.heap.size by omega)); (try have l3e := Nat.le_of_lt l3); (try have l3f := Nat.le_add_right_of_le (k := 1) l3e)
  have E14 := Lib.hid (E13.out.tr hb)
  have E4 := Lib.hid (E1.out.tr E14.out)
  have HI4 := Lib.hid (Ints.ext HI3.out hb)
  have HX4 := Lib.hid (HX.out.ext E14.out)
  clear hI4 HI3 HX hb hc hf hz
  cases r
  · have hL0 := HGn.out rfl
    subst hL0
    go_wp2_with (fail)
    go_at_call 10
    refine (alive_c _).mono ?_
    rintro e w9 ⟨rfl, hb⟩
    obtain ⟨hc, hf, hz, hs⟩ := bcell hb
    (try simp only [World.size_alloc, World.size_setCell, World.size_drew, size_drewN] at hs); (first | have l0 := Nat.lt_of_lt_of_le l0 (show _ ≤ w9.heap.size by omega) | have l0 : w.heap.size < w9.heap.size := (by omega) | skip); (try have l0e := Nat.le_of_lt l0); (try have l0f := Nat.le_add_right_of_le (k := 1) l0e); (try have l1 := Nat.lt_of_lt_of_le l1 (show _ ≤ w9.heap.size by omega)); (try have l1e := Nat.le_of_lt l1); (try have l1f := Nat.le_add_right_of_le (k := 1) l1e); (try have l2 := Nat.lt_of_lt_of_le l2 (show _ ≤ w9.heap.size by omega)); (try have l2e := Nat.le_of_lt l2); (try have l2f := Nat.le_add_right_of_le (k := 1) l2e); (try have l3 := Nat.lt_of_lt_of_le l3 (show _ ≤ w9.heap.size by omega)); (try have l3e := Nat.le_of_lt l3); (try have l3f := Nat.le_add_right_of_le (k := 1) l3e)
    go_wp2
    go_ret
    exact ⟨rfl, E4.out.tr hb⟩
  · obtain ⟨m', rfl, hm6, hlen, hrange, hdist, hall, hedge⟩ := HF.out rfl
    have HLen := Lib.hid hlen
    have HRange := Lib.hid hrange
    have HAll := Lib.hid hall
    have HEdge := Lib.hid hedge
    have HPl := Lib.hid (fun k i v h1 h2 => plT_at hdist (fun v hv => (hrange v hv).1) k i v h1 h2)
    have hLm : L.length ≤ 6 := by omega
    clear hlen hrange hdist hall hedge HF HGn
    go_wp2
    have hO0 : Own1 (w4.alloc (.cells #[.int .i64 0, .int .i64 0, .int .i64 0, .int .i64 0, .int .i64 0, .int .i64 0] 3)) w4.heap.size 3 (.slice (some ⟨w4.heap.size, 0, none⟩) 6 6) (fl 6 (plT L 0)) := Own1.lit6 w4 (Nat.le_refl _)
    have HO0 := Lib.hid hO0
    clear hO0
    go_loopw [10] (fun i wr => ∃ k : Nat, k ≤ L.length ∧ i = .int .i64 k ∧ Own1 wr w4.heap.size 3 (.slice (some ⟨w4.heap.size, 0, none⟩) 6 6) (fl 6 (plT L k)) ∧ Ext w4 wr) (fun i _ => L.length - (intOf i).toNat)
    case atStart => exact ⟨0, Nat.zero_le _, rfl, HO0.out, by (repeat' (first | (with_reducible exact Below.refl _ _) | (with_reducible refine Below.mono (by assumption) ?_) | (with_reducible refine Below.trans ?_ (Below.mono (by assumption) ?_)) | (with_reducible refine Below.alloc ?_ ?_ _) | (with_reducible refine Below.drew ?_) | (with_reducible refine below_drewN ?_ _) | (with_reducible refine Below.setCell ?_ ?_ _) | (simp only [World.size_alloc, World.size_setCell, World.size_drew, size_drewN]; omega) | omega))⟩
    case round =>
      obtain ⟨k, hk, rfl, hO, hE⟩ := hrel
      have hE0 := Lib.hid hE
      have HO := Lib.hid hO
      obtain ⟨A9, c9, hv9, hI9, hf9⟩ := hO.form
      rw [fl_len] at hv9
      simp only [Value.slice.injEq, true_and] at hv9
      obtain ⟨rfl, rfl⟩ := hv9
      obtain ⟨_, hgl, hfz⟩ := hf9 _ rfl
      have hgl : w4.heap.size < wr.heap.size := hgl
      have hfz : ∀ o, wr.frozen? ⟨w4.heap.size, o, none⟩ = false := hfz
      have hcell : ∀ i, i < 6 → wr.cell? ⟨w4.heap.size, i, none⟩ = some (.int .i64 (plT L k i)) := fun i hi => by
        obtain ⟨x, b, off, hx, e, _, _, hc⟩ := hI9.at_ (i := i) (by rw [fl_len]; exact hi)
        cases e
        rw [fl_get hi] at hx
        cases hx
        simpa using hc
      have HCell := Lib.hid hcell
      clear hO hI9 hf9 hcell
      by_cases hlt : k < L.length
      · obtain ⟨v, b, off, hxk, rfl, _, hb0, cv⟩ := (Ints.ext HI4.out hE).at_ hlt
        have hr0 := HRange.out v (List.mem_of_getElem? hxk)
        obtain ⟨a, rfl⟩ := Int.eq_ofNat_of_zero_le hr0.1
        have ha : a < m' := by omega
        have hca := HCell.out a (by omega)
        have f1 : decide ((a : Int) < 0) = false := decide_eq_false (by omega)
        have f2 : decide ((m' : Int) ≤ (a : Int)) = false := decide_eq_false (by omega)
        have f2n : decide (m' ≤ a) = false := decide_eq_false (by omega)
        have f2p : (m' ≤ a) = False := eq_false (by omega)
        have f3 : (a : Int) < 6 := by omega
        have f3n : a < 6 := by omega
        have hput := HO.out.put (i := a) (by rw [fl_len]; omega) ((k : Int) + 1)
        rw [fl_set (by omega)] at hput
        have hps := plT_succ hxk
        simp only [Int.toNat_natCast] at hps
        rw [← hps] at hput
        have HPut := Lib.hid hput
        have HEx := Lib.hid (grown_new hE (Nat.le_refl _) (show wr.grownBy (wr.setCell ⟨w4.heap.size, a, none⟩ (.int .i64 ((k : Int) + 1))) (some w4.heap.size) from grown_set _))
        clear hput hps hE hxk hr0
        go_wp2
        go_roundw
        case measure => simp [intOf]; omega
        case rel => exact ⟨k + 1, by omega, by go_num, HPut.out, HEx.out⟩
      · obtain rfl : k = L.length := by omega
        clear hlt hE hk
        obtain ⟨wp, rfl⟩ : ∃ wp : World, wp = wr := ⟨_, rfl⟩
        go_wp2
        go_loopw [11] (fun i wx => ∃ k : Nat, k ≤ m' ∧ i = .int .i64 k ∧ Ext wp wx) (fun i _ => m' - (intOf i).toNat)
        · exact ⟨0, Nat.zero_le _, rfl, Below.refl _ _⟩
        · obtain ⟨k, hk, rfl, hEx⟩ := hrel
          have hEx0 := Lib.hid hEx
          by_cases hlt : k < m'
          · obtain ⟨i, hi⟩ := List.getElem?_of_mem (HAll.out k hlt)
            have hil := (List.getElem?_eq_some_iff.1 hi).1
            have hp := HPl.out L.length i k hil hi
            simp only [Int.toNat_natCast] at hp
            have hcx := hEx.keep hgl (HCell.out k (by omega))
            rw [hp] at hcx
            have f1 : (((i : Int) + 1) == 0) = false := beq_eq_false_iff_ne.2 (by omega)
            have f2 : (k : Int) < m' := by omega
            have f3 : (k : Int) < 6 := by omega
            have f3n : k < 6 := by omega
            clear hEx hi hp
            go_wp2
            go_roundw
            case measure => simp [intOf]; omega
            case rel => exact ⟨k + 1, by omega, by go_num, hEx0.out⟩
          · obtain rfl : k = m' := by omega
            clear hlt hk hEx
            go_wp2
            go_loopw [12] (fun i wy => ∃ j : Nat, j ≤ E.length ∧ i = .int .i64 j ∧ Ext wp wy) (fun i _ => E.length - (intOf i).toNat)
            · exact ⟨0, Nat.zero_le _, rfl, hEx0.out⟩
            · obtain ⟨j, hj, rfl, hEy⟩ := hrel
              have hEy0 := Lib.hid hEy
              by_cases hlj : j < E.length
              · obtain ⟨x0, x1, x2, b, off, hxk, rfl, _, hb0, c0, c1, c2'⟩ := (HX4.out.ext (hE0.out.tr hEy)).at_ hlj
                obtain ⟨ha0, ha1, hb1, hb2, i1, i2, hlt2, hi1, hi2⟩ := HEdge.out _ (List.mem_of_getElem? hxk)
                simp only at ha0 ha1 hb1 hb2 hi1 hi2
                obtain ⟨a, rfl⟩ := Int.eq_ofNat_of_zero_le ha0
                obtain ⟨b', rfl⟩ := Int.eq_ofNat_of_zero_le hb1
                have p1 := HPl.out L.length i1 a (List.getElem?_eq_some_iff.1 hi1).1 hi1
                have p2 := HPl.out L.length i2 b' (List.getElem?_eq_some_iff.1 hi2).1 hi2
                simp only [Int.toNat_natCast] at p1 p2
                have d1 := hEy.keep hgl (HCell.out a (by omega))
                have d2 := hEy.keep hgl (HCell.out b' (by omega))
                rw [p1] at d1
                rw [p2] at d2
                obtain ⟨u, hu⟩ : ∃ u, (i1 : Int) + 1 = u := ⟨_, rfl⟩
                obtain ⟨v, hv⟩ : ∃ v, (i2 : Int) + 1 = v := ⟨_, rfl⟩
                rw [hu] at d1
                rw [hv] at d2
                have f1 : decide (v ≤ u) = false := decide_eq_false (by omega)
                have f2 : (a : Int) < 6 := by omega
                have f2n : a < 6 := by omega
                have f3 : (b' : Int) < 6 := by omega
                have f3n : b' < 6 := by omega
                have f4 : (j : Int) < E.length := by omega
                clear hEy hxk hi1 hi2 p1 p2 hu hv
                go_wp2
                go_big_quiet (fail)
                go_wp2
                go_roundw
                case measure => simp [intOf]; omega
                case rel => exact ⟨j + 1, by omega, by go_num, below_drewN hEy0.out _⟩
              · obtain rfl : j = E.length := by omega
                have hf : (((L.length : Nat) : Int) == (k : Int)) = true := by simp; have := HLen.out; omega
                clear hEy
                go_wp2
                go_ret
                exact ⟨ret_bool (by first | rfl | (have := HLen.out; simp [this])), (E4.out.tr hE0.out).tr hEy0.out⟩

theorem FnTopOrder_reads (os : Os) {H : Type} (enc : TypeId × Value → H) : ∃ places, DataW.whole enc Tryd.prog ((Law.laidWorld os).forCall (fun _ _ => 0) ⟨#[], #[.slice none 0 0], []⟩).memory Tryd.f4.params.toList Rows.fnTopOrderSpec.vars false (#[.slice none 0 0] : Array Value).toList 8 = some ([.nil], [], places) :=
  ⟨[], by kernel_rfl⟩
theorem FnTopOrder_laid (os : Os) : laidMet Tryd.prog Rows.fnTopOrderRow.laid ((Law.laidWorld os).forCall (fun _ _ => 0) ⟨#[], #[.slice none 0 0], []⟩).memory :=
  laidMet_of_run' 8 (by kernel_rfl) (by kernel_rfl)
set_option maxRecDepth 100000 in
theorem FnTopOrder_lifted (os : Os) (started : os.Started) (H : Type) (enc : TypeId × Value → H) (F : Stop.Interp) :
    ReturnsInHanded {} Tryd.checked os 4 .any ((OpenSpec.ofChange Rows.fnTopOrderSpec).preRow enc Tryd.prog Tryd.f4 Rows.fnTopOrderRow.domain false Rows.fnTopOrderRow.laid) (((OpenSpec.ofChange Rows.fnTopOrderSpec).at F).post enc Tryd.prog Tryd.f4 false true false false) := by
  obtain ⟨places, hx⟩ := FnTopOrder_reads os enc
  refine returnsInHanded_of_row (C := Tryd.checked) (s := OpenSpec.ofChange Rows.fnTopOrderSpec) Law.own started (by kernel_rfl) Tryd.func4
    (witness_row_at (enc := enc) (C := Tryd.checked) false (Law.laidWorld os) #[.slice none 0 0] rfl (by kernel_rfl) (by kernel_rfl) (by kernel_rfl)
      (OpenSpec.preRow_of_cond 8 hx (by kernel_rfl) (fun k hk => by cases hk) (by kernel_rfl) (FnTopOrder_laid os))) ?_
  intro W base args ds gs before hval0 hW _ _ _ hLaid _ _
  have hval : ∀ (j : Nat) t v, Tryd.f4.params[j]? = some t → args[j]? = some v → Value.okWide Tryd.prog W .any base t v := hval0
  have hW' := hW
  obtain ⟨p, q, hA0, hV, rfl, hfz, hnd⟩ := hW
  have hA : DataW.TrodAll enc Tryd.prog W 0 (fun _ => true) true Tryd.f4.params.toList args.toList ds p := hA0
  rw [Tryd.params4] at hA hval
  obtain ⟨v0, vs0, d0, ds0, p0, q0, hargs, hds, rfl, h0, r0⟩ := trodAll_cons hA
  obtain ⟨rfl, rfl, rfl⟩ := trodAll_nil r0
  obtain rfl : args = #[v0] := by cases args; simp_all
  subst hds
  obtain ⟨x0, A0, c0, rfl, hO0, wf0⟩ := Law.open_bytes Tryd.underlying22 Tryd.underlying5 (by kernel_rfl) (hval 0 22 v0 rfl rfl) h0
  refine (FnTopOrder_c x0 A0 c0 W hO0 wf0 (Law.bytes_cap Tryd.underlying22 (hval 0 22 _ rfl rfl))).mono fun e W' ⟨he, hb⟩ => ?_
  subst he
  refine ⟨_, rfl, Law.post_true Law.laidOut ?_ rfl rfl Tryd.underlying4 ⟨rfl, rfl, rfl⟩ hW' hb⟩
  intro t ht
  rw [Tryd.params4] at ht
  simp only [List.mem_cons, List.not_mem_nil, or_false] at ht
  first | (rcases ht with rfl <;> exact ⟨by kernel_rfl, of_decide_eq_true (by kernel_rfl)⟩)

theorem FnTopOrder_holds : Rows.FnTopOrderSaid :=
  OpenClaim.holds_of_cond 4 Tryd.f4 rfl rfl rfl rfl rfl rfl rfl ⟨rfl, rfl, rfl, rfl, rfl⟩ rfl rfl rfl rfl rfl (by kernel_rfl) Tryd.func4 (by kernel_rfl)
    (of_decide_eq_true (by kernel_rfl)) (by unfold Func.isWrapper; first | (rw [if_pos (by decide +kernel)]; kernel_rfl) | (rw [if_neg (by decide +kernel)]; exact ⟨rfl, rfl⟩))
    (fun os started H enc _ F => by rw [OpenClaim.pre_eq_preRow]; exact FnTopOrder_lifted os started H enc F)
theorem FnTopOrder_plain (f : FuncId) (fn : Func) (hf : Tryd.pinned.checked.prog.funcNamed Rows.fnTopOrderRow.func = some f) (hfn : Tryd.pinned.checked.prog.funcs[f]? = some fn) :
    false = Tryd.pinned.checked.prog.looks [] ∧ ∀ (j : Nat) t, fn.params[j]? = some t → Tryd.pinned.checked.prog.wantsStandIn t = false := by
  obtain rfl : f = 4 := Option.some.inj ((show Tryd.prog.funcNamed Rows.fnTopOrderRow.func = some 4 by kernel_rfl).symm.trans hf) |>.symm
  obtain rfl : fn = Tryd.f4 := (Option.some.inj (Tryd.func4.symm.trans hfn)).symm
  refine ⟨by kernel_rfl, fun j t ht => ?_⟩
  rw [Tryd.params4] at ht
  have hm := Array.mem_of_getElem? ht
  simp only [List.mem_toArray, List.mem_cons, List.not_mem_nil, or_false] at hm
  rcases hm with rfl
  · exact (show Tryd.prog.wantsStandIn 22 = false by kernel_rfl)
theorem FnTopOrder_card : Rows.FnTopOrderCardSaid :=
  Claim7.holds_tied_plain_at .later [] _ _ _ _ FnTopOrder_holds (fun _ h => by cases h) (by kernel_rfl) (fun _ h => by cases h) fnTopOrder_row_tie rfl ⟨rfl, rfl⟩ (by kernel_rfl) rfl FnTopOrder_plain (by kernel_rfl)

end Go.Proofs.YtgoolakphehabaaDoor
