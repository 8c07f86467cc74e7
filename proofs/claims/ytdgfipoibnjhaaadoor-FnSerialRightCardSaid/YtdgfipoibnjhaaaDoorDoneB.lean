/-
  The numbers of committed transactions, of any history, in a slice of the call's own that has a block.
-/
import Derived.Test.YtdgfipoibnjhaaaDoorDone
import Derived.Test.YtdgfipoibnjhaaaDoorGFndO29
namespace Go.Proofs.YtdgfipoibnjhaaaDoor
set_option linter.unusedSimpArgs false
set_option linter.unusedVariables false
set_option maxRecDepth 100000
open Go.RowKit

set_option maxHeartbeats 2000000 in
theorem specDoneTxns_b (h : List TxnT) (S : Nat → Prop) (A : Option Addr) (c : Nat) (w : World) (hx : Txns S w A h) (hsm : Small h) :
    Calls Tryd.prog 50 #[.slice A h.length c] w fun e w' => ∃ v, e = .returned v ∧ Own1 w' w.heap.size 3 v (if histv h = true then dnT h h.length else []) ∧ HasB v ∧ Ext w w' := by
  have C := fun w hx => specHistoryValid_c h S A c w hx hsm
  have hn := hsm.len
  cases hv : histv h with
  | false =>
    rw [hv] at C
    have C := Lib.hid C
    rw [if_neg (by simp)]
    go_enter Tryd.func50, Tryd.ntmps50
    go_wp2
    have hO : Own1 (w.alloc (.cells #[] 3)) w.heap.size 3 (.slice (some ⟨w.heap.size, 0, none⟩) 0 0) [] := Own1.made w _ 0 rfl (by omega) (by omega) (by simp)
    go_loopw [3, 4] (fun v i wr => v = .slice (some ⟨w.heap.size, 0, none⟩) 0 0 ∧ i = .int .i64 0 ∧ Own1 wr w.heap.size 3 v [] ∧ Ext w wr) (fun _ i _ => 0)
    case atStart => exact ⟨rfl, rfl, hO, by (repeat' (first | (with_reducible exact Below.refl _ _) | (with_reducible refine Below.mono (by assumption) ?_) | (with_reducible refine Below.trans ?_ (Below.mono (by assumption) ?_)) | (with_reducible refine Below.alloc ?_ ?_ _) | (with_reducible refine Below.drew ?_) | (with_reducible refine below_drewN ?_ _) | (with_reducible refine Below.setCell ?_ ?_ _) | (simp only [World.size_alloc, World.size_setCell, World.size_drew, size_drewN]; omega) | omega))⟩
    case round =>
      obtain ⟨rfl, rfl, hown, hE⟩ := hrel
      have HOw := Lib.hid hown
      clear hO hown
      by_cases hlt : 0 < h.length
      · have hki : (0 : Int) < h.length := by omega
        go_wp2_with (fail)
        go_at_call 26
        refine (C.out _ (hx.ext hE)).mono ?_
        rintro e w1 ⟨rfl, hb⟩
        obtain ⟨hc, hf, hz, hs⟩ := bcell hb
        (try simp only [World.size_alloc, World.size_setCell, World.size_drew, size_drewN] at hs); (first | have l0 := Nat.lt_of_lt_of_le l0 (show _ ≤ w1.heap.size by omega) | have l0 : w.heap.size < w1.heap.size := (by omega) | skip); (try have l0e := Nat.le_of_lt l0); (try have l0f := Nat.le_add_right_of_le (k := 1) l0e); (try have l1 := Nat.lt_of_lt_of_le l1 (show _ ≤ w1.heap.size by omega)); (try have l1e := Nat.le_of_lt l1); (try have l1f := Nat.le_add_right_of_le (k := 1) l1e); (try have l2 := Nat.lt_of_lt_of_le l2 (show _ ≤ w1.heap.size by omega)); (try have l2e := Nat.le_of_lt l2); (try have l2f := Nat.le_add_right_of_le (k := 1) l2e); (try have l3 := Nat.lt_of_lt_of_le l3 (show _ ≤ w1.heap.size by omega)); (try have l3e := Nat.le_of_lt l3); (try have l3f := Nat.le_add_right_of_le (k := 1) l3e)
        have e1 := hE.tr hb
        have HO1 := Lib.hid (HOw.out.ext hb)
        clear hb hc hf hz
        go_wp2
        go_ret
        exact ⟨_, rfl, HO1.out, ⟨_, rfl⟩, e1⟩
      · have hki : ¬ ((0 : Int) < h.length) := by omega
        go_wp2
        go_ret
        exact ⟨_, rfl, HOw.out, ⟨_, rfl⟩, hE⟩
  | true =>
    rw [hv] at C
    have C := Lib.hid C
    rw [if_pos rfl]
    go_enter Tryd.func50, Tryd.ntmps50
    go_wp2
    have hO : Own1 (w.alloc (.cells #[] 3)) w.heap.size 3 (.slice (some ⟨w.heap.size, 0, none⟩) 0 0) (dnT h 0) := Own1.made w _ 0 rfl (by omega) (by omega) (by simp)
    go_loopw [3, 4] (fun v i wr => ∃ k : Nat, k ≤ h.length ∧ i = .int .i64 k ∧ Own1 wr w.heap.size 3 v (dnT h k) ∧ HasB v ∧ Ext w wr) (fun _ i _ => h.length - (intOf i).toNat)
    case atStart => exact ⟨0, Nat.zero_le _, rfl, hO, ⟨_, rfl⟩, by (repeat' (first | (with_reducible exact Below.refl _ _) | (with_reducible refine Below.mono (by assumption) ?_) | (with_reducible refine Below.trans ?_ (Below.mono (by assumption) ?_)) | (with_reducible refine Below.alloc ?_ ?_ _) | (with_reducible refine Below.drew ?_) | (with_reducible refine below_drewN ?_ _) | (with_reducible refine Below.setCell ?_ ?_ _) | (simp only [World.size_alloc, World.size_setCell, World.size_drew, size_drewN]; omega) | omega))⟩
    case round =>
      obtain ⟨k, hk, rfl, hown, hvb, hE⟩ := hrel
      have hEz := hE.size
      clear hO
      have HVb := Lib.hid hvb
      clear hvb
      by_cases hlt : k < h.length
      · have hE9 := hE
        go_wp2_with (fail)
        go_at_call 26
        refine (C.out _ (hx.ext hE)).mono ?_
        rintro e w1 ⟨rfl, hb⟩
        obtain ⟨hc, hf, hz, hs⟩ := bcell hb
        (try simp only [World.size_alloc, World.size_setCell, World.size_drew, size_drewN] at hs); (first | have l0 := Nat.lt_of_lt_of_le l0 (show _ ≤ w1.heap.size by omega) | have l0 : w.heap.size < w1.heap.size := (by omega) | skip); (try have l0e := Nat.le_of_lt l0); (try have l0f := Nat.le_add_right_of_le (k := 1) l0e); (try have l1 := Nat.lt_of_lt_of_le l1 (show _ ≤ w1.heap.size by omega)); (try have l1e := Nat.le_of_lt l1); (try have l1f := Nat.le_add_right_of_le (k := 1) l1e); (try have l2 := Nat.lt_of_lt_of_le l2 (show _ ≤ w1.heap.size by omega)); (try have l2e := Nat.le_of_lt l2); (try have l2f := Nat.le_add_right_of_le (k := 1) l2e); (try have l3 := Nat.lt_of_lt_of_le l3 (show _ ≤ w1.heap.size by omega)); (try have l3e := Nat.le_of_lt l3); (try have l3f := Nat.le_add_right_of_le (k := 1) l3e)
        have e1 := hE.tr hb
        have hown1 := hown.ext hb
        have hz1 := e1.size
        clear hown
        obtain ⟨s, ops, d, A', cap, b, off, hxk, rfl, _, hb0, hOp, c0, c1, c2⟩ := (hx.ext e1).at_ hlt
        have hst := dnT_succ hxk
        have hdl := dnT_len h k
        have HS := Lib.hid hst
        clear hxk hst
        cases d with
        | false =>
          go_wp2
          exact ⟨⟨k + 1, by omega, by go_num, by rw [HS.out]; exact hown1, HVb.out, e1⟩, by simp [intOf]; omega⟩
        | true =>
          go_wp2_with (at_builtin; refine wpList_append1_at _ rfl _ _ 41 rfl w.heap.size 3 Tryd.underlying41 info1 rfl _ (dnT h k) rfl (hown1.ext (by (repeat' (first | (with_reducible exact Below.refl _ _) | (with_reducible refine Below.mono (by assumption) ?_) | (with_reducible refine Below.trans ?_ (Below.mono (by assumption) ?_)) | (with_reducible refine Below.alloc ?_ ?_ _) | (with_reducible refine Below.drew ?_) | (with_reducible refine below_drewN ?_ _) | (with_reducible refine Below.setCell ?_ ?_ _) | (simp only [World.size_alloc, World.size_setCell, World.size_drew, size_drewN]; omega) | omega)))) _ k rfl ?_ ?_ ?_ ?_)
          all_goals try (first | omega | (simp only [World.size_alloc]; omega) | (go_simp; done))
          · intro v' w' hown' hgrow hat
            have hE2 : Ext w w' := Below.grown (e1.tr (by (repeat' (first | (with_reducible exact Below.refl _ _) | (with_reducible refine Below.mono (by assumption) ?_) | (with_reducible refine Below.trans ?_ (Below.mono (by assumption) ?_)) | (with_reducible refine Below.alloc ?_ ?_ _) | (with_reducible refine Below.drew ?_) | (with_reducible refine below_drewN ?_ _) | (with_reducible refine Below.setCell ?_ ?_ _) | (simp only [World.size_alloc, World.size_setCell, World.size_drew, size_drewN]; omega) | omega)))) hgrow (by first | omega | (simp only [World.size_alloc]; omega)) (fun g hg => (own1_block hown1 g hg))
            have HVb2 := Lib.hid (show HasB v' from by
              rcases hat with e | e
              · unfold HasB; rw [e]; exact HVb.out
              · exact ⟨_, e⟩)
            clear hown1 hat
            go_wp2
            go_roundw
            case measure => simp [intOf]; omega
            case rel => exact ⟨k + 1, by omega, by go_num, by rw [HS.out]; exact hown', HVb2.out, hE2⟩
      · obtain rfl : k = h.length := by omega
        have HF := Lib.hid (And.intro hown hE)
        clear hown hE
        go_wp2
        go_ret
        exact ⟨_, rfl, HF.out.1, HVb.out, HF.out.2⟩
end Go.Proofs.YtdgfipoibnjhaaaDoor
