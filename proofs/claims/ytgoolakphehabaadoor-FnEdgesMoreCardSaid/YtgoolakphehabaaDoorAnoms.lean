/-
  Contracts of AnomaliesOf, the reference's and the program's.
-/
import Derived.Test.YtgoolakphehabaaDoorAnom
namespace Go.Proofs.YtgoolakphehabaaDoor
set_option linter.unusedSimpArgs false
set_option linter.unusedVariables false
set_option maxRecDepth 100000
open Go.RowKit

theorem Own1.cut {w : World} {base : Nat} {e : TypeId} {v : Value} {xs : List Int} (h : Own1 w base e v xs) : ∃ A c, v = .slice A xs.length c ∧ xs.length ≤ c ∧ c ≤ maxLen ∧ (A = none → xs.length = 0 ∧ c = 0) ∧ ∀ a, A = some a → ∃ g, a = ⟨g, 0, none⟩ := by
  rcases h.2 with ⟨rfl, hn⟩ | ⟨g, cap, cur, rfl, hb, hg, hle, hm, hs, ht⟩
  · exact ⟨none, 0, by rw [hn], by omega, by omega, fun _ => ⟨hn, rfl⟩, fun a ha => by cases ha⟩
  · exact ⟨_, cap, rfl, hle, hm, (fun h => by cases h), fun a ha => by cases ha; exact ⟨g, rfl⟩⟩

/-- the anomalies among the first k -/
def anoT (many : Int) (L : List T3) : Nat → List Int
  | 0 => []
  | k + 1 => if hasV many L ((k : Int) + 1) = true then anoT many L k ++ [(k : Int) + 1] else anoT many L k
def anoV (many : Int) (L : List T3) : List Int := anoT many L 4
theorem anoT_len (many : Int) (L : List T3) (k : Nat) : (anoT many L k).length ≤ k := by
  induction k with
  | zero => exact Nat.le_refl _
  | succ k ih =>
    unfold anoT
    split
    · rw [List.length_append, List.length_singleton]; omega
    · omega
theorem anoV_bad {many : Int} {L : List T3} (h : edgesValid many L = false) : anoV many L = [] := by
  have : ∀ k, anoT many L k = [] := by
    intro k
    induction k with
    | zero => rfl
    | succ k ih =>
      unfold anoT
      rw [if_neg (by unfold hasV; rw [h]; simp)]
      exact ih
  exact this 4

set_option maxHeartbeats 2000000 in
theorem specAnomaliesOf_c (many : Int) (L : List T3) (S : Nat → Prop) (A : Option Addr) (c : Nat) (w : World) (hx : Ops S w A L) (hn : L.length ≤ 1048576) :
    Calls Tryd.prog 20 #[.int .i64 many, .slice A L.length c] w (FreshI (anoV many L) w) := by
  have CH := fun kind w hx => specHasAnomaly_c many L S A c kind w hx hn
  have hst := fun k => show anoT many L (k + 1) = if hasV many L ((k : Int) + 1) = true then anoT many L k ++ [(k : Int) + 1] else anoT many L k from rfl
  have CH := Lib.hid CH
  have HS := Lib.hid hst
  clear hst
  go_enter Tryd.func20, Tryd.ntmps20
  go_wp2
  have hO : Own1 (w.alloc (.cells #[] 3)) w.heap.size 3 (.slice (some ⟨w.heap.size, 0, none⟩) 0 0) (anoT many L 0) := Own1.made w _ 0 rfl (by omega) (by omega) (by simp)
  have HO := Lib.hid hO
  clear hO
  go_loopw [5, 6] (fun v i wr => ∃ k : Nat, k ≤ 4 ∧ i = .int .i64 ((k : Int) + 1) ∧ Own1 wr w.heap.size 3 v (anoT many L k) ∧ Ext w wr) (fun _ i _ => 5 - (intOf i).toNat)
  case atStart => exact ⟨0, Nat.zero_le _, rfl, HO.out, by (repeat' (first | (with_reducible exact Below.refl _ _) | (with_reducible refine Below.mono (by assumption) ?_) | (with_reducible refine Below.trans ?_ (Below.mono (by assumption) ?_)) | (with_reducible refine Below.alloc ?_ ?_ _) | (with_reducible refine Below.drew ?_) | (with_reducible refine below_drewN ?_ _) | (with_reducible refine Below.setCell ?_ ?_ _) | (simp only [World.size_alloc, World.size_setCell, World.size_drew, size_drewN]; omega) | omega))⟩
  case round =>
    obtain ⟨k, hk, rfl, hown, hE⟩ := hrel
    have hEz := hE.size
    have hal := anoT_len many L k
    clear HO
    by_cases hlt : k < 4
    · have C1 := fun w hx => CH.out ((k : Int) + 1) w hx
      have hs := HS.out k
      cases hb : hasV many L ((k : Int) + 1) with
      | true =>
        rw [hb] at C1
        rw [hb, if_pos rfl] at hs
        have C1 := Lib.hid C1
        have HS1 := Lib.hid hs
        clear hs hb
        go_wp2_with (fail)
        go_at_call 17
        refine (C1.out _ (hx.ext hE)).mono ?_
        rintro e w1 ⟨rfl, hb⟩
        obtain ⟨hc, hf, hz, hs⟩ := bcell hb
        (try simp only [World.size_alloc, World.size_setCell, World.size_drew, size_drewN] at hs); (first | have l0 := Nat.lt_of_lt_of_le l0 (show _ ≤ w1.heap.size by omega) | have l0 : w.heap.size < w1.heap.size := (by omega) | skip); (try have l0e := Nat.le_of_lt l0); (try have l0f := Nat.le_add_right_of_le (k := 1) l0e); (try have l1 := Nat.lt_of_lt_of_le l1 (show _ ≤ w1.heap.size by omega)); (try have l1e := Nat.le_of_lt l1); (try have l1f := Nat.le_add_right_of_le (k := 1) l1e); (try have l2 := Nat.lt_of_lt_of_le l2 (show _ ≤ w1.heap.size by omega)); (try have l2e := Nat.le_of_lt l2); (try have l2f := Nat.le_add_right_of_le (k := 1) l2e); (try have l3 := Nat.lt_of_lt_of_le l3 (show _ ≤ w1.heap.size by omega)); (try have l3e := Nat.le_of_lt l3); (try have l3f := Nat.le_add_right_of_le (k := 1) l3e)
        have e1 := hE.tr hb
        have hown1 := hown.ext hb
        clear hown hc hf hz hs hb
        have hz1 := e1.size
        go_wp2_with (at_builtin; refine wpList_append1 _ rfl _ _ 31 rfl w.heap.size 3 Tryd.underlying31 infoInt rfl _ (anoT many L k) rfl (hown1.ext (by (repeat' (first | (with_reducible exact Below.refl _ _) | (with_reducible refine Below.mono (by assumption) ?_) | (with_reducible refine Below.trans ?_ (Below.mono (by assumption) ?_)) | (with_reducible refine Below.alloc ?_ ?_ _) | (with_reducible refine Below.drew ?_) | (with_reducible refine below_drewN ?_ _) | (with_reducible refine Below.setCell ?_ ?_ _) | (simp only [World.size_alloc, World.size_setCell, World.size_drew, size_drewN]; omega) | omega)))) _ ((k : Int) + 1) rfl ?_ ?_ ?_ ?_)
        all_goals try (first | omega | (simp only [World.size_alloc]; omega) | (go_simp; done))
        intro v' w' hown' hgrow
        rw [← HS1.out] at hown'
        have hE2 : Ext w w' := Below.grown (w := w1.alloc (.cells #[.int .i64 ((k : Int) + 1)] 3)) (by (repeat' (first | (with_reducible exact Below.refl _ _) | (with_reducible refine Below.mono (by assumption) ?_) | (with_reducible refine Below.trans ?_ (Below.mono (by assumption) ?_)) | (with_reducible refine Below.alloc ?_ ?_ _) | (with_reducible refine Below.drew ?_) | (with_reducible refine below_drewN ?_ _) | (with_reducible refine Below.setCell ?_ ?_ _) | (simp only [World.size_alloc, World.size_setCell, World.size_drew, size_drewN]; omega) | omega))) hgrow (by simp only [World.size_alloc]; omega) (fun g hg => own1_block hown1 g hg)
        clear hown1 hgrow
        go_wp2
        go_roundw
        case measure => simp [intOf]; omega
        case rel => exact ⟨k + 1, by omega, by go_num, hown', hE2⟩
      | false =>
        rw [hb] at C1
        rw [hb, if_neg (by simp)] at hs
        have C1 := Lib.hid C1
        have HS1 := Lib.hid hs
        clear hs hb
        go_wp2_with (fail)
        go_at_call 17
        refine (C1.out _ (hx.ext hE)).mono ?_
        rintro e w1 ⟨rfl, hb⟩
        obtain ⟨hc, hf, hz, hs⟩ := bcell hb
        (try simp only [World.size_alloc, World.size_setCell, World.size_drew, size_drewN] at hs); (first | have l0 := Nat.lt_of_lt_of_le l0 (show _ ≤ w1.heap.size by omega) | have l0 : w.heap.size < w1.heap.size := (by omega) | skip); (try have l0e := Nat.le_of_lt l0); (try have l0f := Nat.le_add_right_of_le (k := 1) l0e); (try have l1 := Nat.lt_of_lt_of_le l1 (show _ ≤ w1.heap.size by omega)); (try have l1e := Nat.le_of_lt l1); (try have l1f := Nat.le_add_right_of_le (k := 1) l1e); (try have l2 := Nat.lt_of_lt_of_le l2 (show _ ≤ w1.heap.size by omega)); (try have l2e := Nat.le_of_lt l2); (try have l2f := Nat.le_add_right_of_le (k := 1) l2e); (try have l3 := Nat.lt_of_lt_of_le l3 (show _ ≤ w1.heap.size by omega)); (try have l3e := Nat.le_of_lt l3); (try have l3f := Nat.le_add_right_of_le (k := 1) l3e)
        have e1 := hE.tr hb
        have hown1 := hown.ext hb
        clear hown hc hf hz hs hb
        go_wp2
        exact ⟨⟨k + 1, by omega, by go_num, by rw [HS1.out]; exact hown1, e1⟩, by simp [intOf]; omega⟩
    · obtain rfl : k = 4 := by omega
      have hfr := hown.fresh (Nat.le_refl _) hE
      go_wp2
      go_ret
      exact hfr

set_option maxHeartbeats 2000000 in
theorem implAnomaliesOf_c (many : Int) (L : List T3) (S : Nat → Prop) (A : Option Addr) (c : Nat) (w : World) (hx : Ops S w A L) (hn : L.length ≤ 1048576) :
    Calls Tryd.prog 19 #[.int .i64 many, .slice A L.length c] w (FreshI (anoV many L) w) := by
  have CV := fun w hx => implEdgesValid_c many L S A c w hx hn
  cases hv : edgesValid many L with
  | false =>
    rw [anoV_bad hv]
    rw [hv] at CV
    have CV := Lib.hid CV
    clear hv
    go_enter Tryd.func19, Tryd.ntmps19
    go_wp2_with (fail)
    go_at_call 8
    refine (CV.out _ (hx.ext (by (repeat' (first | (with_reducible exact Below.refl _ _) | (with_reducible refine Below.mono (by assumption) ?_) | (with_reducible refine Below.trans ?_ (Below.mono (by assumption) ?_)) | (with_reducible refine Below.alloc ?_ ?_ _) | (with_reducible refine Below.drew ?_) | (with_reducible refine below_drewN ?_ _) | (with_reducible refine Below.setCell ?_ ?_ _) | (simp only [World.size_alloc, World.size_setCell, World.size_drew, size_drewN]; omega) | omega))))).mono ?_
    rintro e w1 ⟨rfl, hb⟩
    obtain ⟨hc, hf, hz, hs⟩ := bcell hb
    (try simp only [World.size_alloc, World.size_setCell, World.size_drew, size_drewN] at hs); (first | have l0 := Nat.lt_of_lt_of_le l0 (show _ ≤ w1.heap.size by omega) | have l0 : w.heap.size < w1.heap.size := (by omega) | skip); (try have l0e := Nat.le_of_lt l0); (try have l0f := Nat.le_add_right_of_le (k := 1) l0e); (try have l1 := Nat.lt_of_lt_of_le l1 (show _ ≤ w1.heap.size by omega)); (try have l1e := Nat.le_of_lt l1); (try have l1f := Nat.le_add_right_of_le (k := 1) l1e); (try have l2 := Nat.lt_of_lt_of_le l2 (show _ ≤ w1.heap.size by omega)); (try have l2e := Nat.le_of_lt l2); (try have l2f := Nat.le_add_right_of_le (k := 1) l2e); (try have l3 := Nat.lt_of_lt_of_le l3 (show _ ≤ w1.heap.size by omega)); (try have l3e := Nat.le_of_lt l3); (try have l3f := Nat.le_add_right_of_le (k := 1) l3e)
    go_wp2
    go_ret
    exact ⟨none, 0, rfl, SlAt.nil, (fun a ha => by cases ha), hb⟩
  | true =>
    rw [hv] at CV
    have CH := fun kind w hx => implHasAnomaly_c many L S A c kind w hx hn
    have hst := fun k => show anoT many L (k + 1) = if hasV many L ((k : Int) + 1) = true then anoT many L k ++ [(k : Int) + 1] else anoT many L k from rfl
    obtain ⟨i0, hi, hz0, hz1, hz2⟩ := info_parts infoInt
    have hmk : ∀ W, (Instr.makeSlice 31 (.int .i64 0) (.int .i64 4)).run Tryd.prog W = .ok (.slice (some ⟨W.heap.size, 0, none⟩) 0 4) (W.alloc (.cells (madeCells (Value.int .i64 0).cells (4 * 1)) 3)) := fun W => by
      have hq := run_make_rowN (P := Tryd.prog) 31 3 i0 _ Tryd.underlying31 hi hz0 .i64 .i64 0 4 (Nat.zero_le _) (by rw [hz2]; omega) (by omega) W
      rw [hz1] at hq
      exact hq
    have CV := Lib.hid CV
    have CH := Lib.hid CH
    have HS := Lib.hid hst
    clear hst hv
    go_enter Tryd.func19, Tryd.ntmps19
    go_wp2_with (fail)
    go_at_call 8
    refine (CV.out _ (hx.ext (by (repeat' (first | (with_reducible exact Below.refl _ _) | (with_reducible refine Below.mono (by assumption) ?_) | (with_reducible refine Below.trans ?_ (Below.mono (by assumption) ?_)) | (with_reducible refine Below.alloc ?_ ?_ _) | (with_reducible refine Below.drew ?_) | (with_reducible refine below_drewN ?_ _) | (with_reducible refine Below.setCell ?_ ?_ _) | (simp only [World.size_alloc, World.size_setCell, World.size_drew, size_drewN]; omega) | omega))))).mono ?_
    rintro e w1 ⟨rfl, hb⟩
    obtain ⟨hc, hf, hz, hs⟩ := bcell hb
    (try simp only [World.size_alloc, World.size_setCell, World.size_drew, size_drewN] at hs); (first | have l0 := Nat.lt_of_lt_of_le l0 (show _ ≤ w1.heap.size by omega) | have l0 : w.heap.size < w1.heap.size := (by omega) | skip); (try have l0e := Nat.le_of_lt l0); (try have l0f := Nat.le_add_right_of_le (k := 1) l0e); (try have l1 := Nat.lt_of_lt_of_le l1 (show _ ≤ w1.heap.size by omega)); (try have l1e := Nat.le_of_lt l1); (try have l1f := Nat.le_add_right_of_le (k := 1) l1e); (try have l2 := Nat.lt_of_lt_of_le l2 (show _ ≤ w1.heap.size by omega)); (try have l2e := Nat.le_of_lt l2); (try have l2f := Nat.le_add_right_of_le (k := 1) l2e); (try have l3 := Nat.lt_of_lt_of_le l3 (show _ ≤ w1.heap.size by omega)); (try have l3e := Nat.le_of_lt l3); (try have l3f := Nat.le_add_right_of_le (k := 1) l3e)
    have e1 : Ext w w1 := hb
    have z1 := e1.size
    clear hc hf hz hs hb
    go_wp2
    have hO : Own1 (w1.alloc (.cells (madeCells #[Value.int .i64 0] 4) 3)) w1.heap.size 3 (.slice (some ⟨w1.heap.size, 0, none⟩) 0 4) (anoT many L 0) := Own1.made w1 _ 4 rfl (by omega) (by omega) (by simp [madeCells])
    have HO := Lib.hid hO
    clear hO hmk
    go_loopw [5, 6] (fun v i wr => ∃ k : Nat, k ≤ 4 ∧ i = .int .i64 ((k : Int) + 1) ∧ Own1 wr w1.heap.size 3 v (anoT many L k) ∧ Ext w1 wr) (fun _ i _ => 5 - (intOf i).toNat)
    case atStart => exact ⟨0, Nat.zero_le _, rfl, HO.out, by (repeat' (first | (with_reducible exact Below.refl _ _) | (with_reducible refine Below.mono (by assumption) ?_) | (with_reducible refine Below.trans ?_ (Below.mono (by assumption) ?_)) | (with_reducible refine Below.alloc ?_ ?_ _) | (with_reducible refine Below.drew ?_) | (with_reducible refine below_drewN ?_ _) | (with_reducible refine Below.setCell ?_ ?_ _) | (simp only [World.size_alloc, World.size_setCell, World.size_drew, size_drewN]; omega) | omega))⟩
    case round =>
      obtain ⟨k, hk, rfl, hown, hE⟩ := hrel
      have hEz := hE.size
      have hal := anoT_len many L k
      clear HO
      by_cases hlt : k < 4
      · have C1 := fun w hx => CH.out ((k : Int) + 1) w hx
        have hs := HS.out k
        cases hb : hasV many L ((k : Int) + 1) with
        | true =>
          rw [hb] at C1
          rw [hb, if_pos rfl] at hs
          have C1 := Lib.hid C1
          have HS1 := Lib.hid hs
          clear hs hb
          go_wp2_with (fail)
          go_at_call 16
          refine (C1.out _ (hx.ext (e1.tr hE))).mono ?_
          rintro e w2 ⟨rfl, hb⟩
          obtain ⟨hc, hf, hz, hs⟩ := bcell hb
          (try simp only [World.size_alloc, World.size_setCell, World.size_drew, size_drewN] at hs); (first | have l0 := Nat.lt_of_lt_of_le l0 (show _ ≤ w2.heap.size by omega) | have l0 : w.heap.size < w2.heap.size := (by omega) | skip); (try have l0e := Nat.le_of_lt l0); (try have l0f := Nat.le_add_right_of_le (k := 1) l0e); (try have l1 := Nat.lt_of_lt_of_le l1 (show _ ≤ w2.heap.size by omega)); (try have l1e := Nat.le_of_lt l1); (try have l1f := Nat.le_add_right_of_le (k := 1) l1e); (try have l2 := Nat.lt_of_lt_of_le l2 (show _ ≤ w2.heap.size by omega)); (try have l2e := Nat.le_of_lt l2); (try have l2f := Nat.le_add_right_of_le (k := 1) l2e); (try have l3 := Nat.lt_of_lt_of_le l3 (show _ ≤ w2.heap.size by omega)); (try have l3e := Nat.le_of_lt l3); (try have l3f := Nat.le_add_right_of_le (k := 1) l3e)
          have e2 := hE.tr hb
          have hown1 := hown.ext hb
          clear hown hc hf hz hs hb
          have hz1 := e2.size
          go_wp2_with (at_builtin; refine wpList_append1 _ rfl _ _ 31 rfl w1.heap.size 3 Tryd.underlying31 infoInt rfl _ (anoT many L k) rfl (hown1.ext (by (repeat' (first | (with_reducible exact Below.refl _ _) | (with_reducible refine Below.mono (by assumption) ?_) | (with_reducible refine Below.trans ?_ (Below.mono (by assumption) ?_)) | (with_reducible refine Below.alloc ?_ ?_ _) | (with_reducible refine Below.drew ?_) | (with_reducible refine below_drewN ?_ _) | (with_reducible refine Below.setCell ?_ ?_ _) | (simp only [World.size_alloc, World.size_setCell, World.size_drew, size_drewN]; omega) | omega)))) _ ((k : Int) + 1) rfl ?_ ?_ ?_ ?_)
          all_goals try (first | omega | (simp only [World.size_alloc]; omega) | (go_simp; done))
          intro v' w' hown' hgrow
          rw [← HS1.out] at hown'
          have hE2 : Ext w1 w' := Below.grown (w := w2.alloc (.cells #[.int .i64 ((k : Int) + 1)] 3)) (by (repeat' (first | (with_reducible exact Below.refl _ _) | (with_reducible refine Below.mono (by assumption) ?_) | (with_reducible refine Below.trans ?_ (Below.mono (by assumption) ?_)) | (with_reducible refine Below.alloc ?_ ?_ _) | (with_reducible refine Below.drew ?_) | (with_reducible refine below_drewN ?_ _) | (with_reducible refine Below.setCell ?_ ?_ _) | (simp only [World.size_alloc, World.size_setCell, World.size_drew, size_drewN]; omega) | omega))) hgrow (by simp only [World.size_alloc]; omega) (fun g hg => own1_block hown1 g hg)
          clear hown1 hgrow
          go_wp2
          go_roundw
          case measure => simp [intOf]; omega
          case rel => exact ⟨k + 1, by omega, by go_num, hown', hE2⟩
        | false =>
          rw [hb] at C1
          rw [hb, if_neg (by simp)] at hs
          have C1 := Lib.hid C1
          have HS1 := Lib.hid hs
          clear hs hb
          go_wp2_with (fail)
          go_at_call 16
          refine (C1.out _ (hx.ext (e1.tr hE))).mono ?_
          rintro e w2 ⟨rfl, hb⟩
          obtain ⟨hc, hf, hz, hs⟩ := bcell hb
          (try simp only [World.size_alloc, World.size_setCell, World.size_drew, size_drewN] at hs); (first | have l0 := Nat.lt_of_lt_of_le l0 (show _ ≤ w2.heap.size by omega) | have l0 : w.heap.size < w2.heap.size := (by omega) | skip); (try have l0e := Nat.le_of_lt l0); (try have l0f := Nat.le_add_right_of_le (k := 1) l0e); (try have l1 := Nat.lt_of_lt_of_le l1 (show _ ≤ w2.heap.size by omega)); (try have l1e := Nat.le_of_lt l1); (try have l1f := Nat.le_add_right_of_le (k := 1) l1e); (try have l2 := Nat.lt_of_lt_of_le l2 (show _ ≤ w2.heap.size by omega)); (try have l2e := Nat.le_of_lt l2); (try have l2f := Nat.le_add_right_of_le (k := 1) l2e); (try have l3 := Nat.lt_of_lt_of_le l3 (show _ ≤ w2.heap.size by omega)); (try have l3e := Nat.le_of_lt l3); (try have l3f := Nat.le_add_right_of_le (k := 1) l3e)
          have e2 := hE.tr hb
          have hown1 := hown.ext hb
          clear hown hc hf hz hs hb
          go_wp2
          exact ⟨⟨k + 1, by omega, by go_num, by rw [HS1.out]; exact hown1, e2⟩, by simp [intOf]; omega⟩
      · obtain rfl : k = 4 := by omega
        have hav : anoT many L 4 = anoV many L := rfl
        rw [hav] at hown hal
        clear hav
        have hE0 := e1.tr hE
        have hfr := hown.fresh (w := w) z1 hE0
        generalize hR : anoV many L = R at hown hal hfr
        have HR := Lib.hid hR
        clear hR
        obtain ⟨A', c', rfl, hle', hm', hA0, hA1⟩ := hown.cut
        unfold maxLen at hm'
        obtain ⟨A2, c2, he2, hA2, hf2, _⟩ := hfr
        rcases A' with _ | a
        · obtain ⟨h0, rfl⟩ := hA0 rfl
          obtain rfl : R = [] := List.eq_nil_of_length_eq_zero h0
          clear hA2 hf2 he2 hown
          go_wp2
          go_ret
          rw [HR.out]
          exact ⟨none, _, rfl, SlAt.nil, (fun a ha => by cases ha), hE0⟩
        · obtain ⟨g, rfl⟩ := hA1 a rfl
          cases he2
          have HA := Lib.hid hA2
          have HF := Lib.hid hf2
          clear hA2 hf2
          go_wp2
          go_ret
          rw [HR.out]
          exact ⟨_, _, rfl, HA.out, HF.out, hE0⟩
end Go.Proofs.YtgoolakphehabaaDoor
