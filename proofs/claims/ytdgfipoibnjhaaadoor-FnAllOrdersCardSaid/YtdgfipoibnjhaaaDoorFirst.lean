/-
  Contracts of FirstOrders, the reference's and the program's.
-/
import Derived.Test.YtdgfipoibnjhaaaDoorInst
import Derived.Test.YtdgfipoibnjhaaaDoorLstO
import Derived.Test.YtdgfipoibnjhaaaDoorOwnH
namespace Go.Proofs.YtdgfipoibnjhaaaDoor
set_option linter.unusedSimpArgs false
set_option linter.unusedVariables false
set_option maxRecDepth 100000
open Go.RowKit

def firstV (h : List TxnT) : List (List Int) := if histv h = true then [instd h 0, instd h 1, instd h 2] else []
theorem firstV_small (h : List TxnT) : SmallR (firstV h) := by
  unfold firstV
  split
  · have h0 := instd_len h 0
    have h1 := instd_len h 1
    have h2 := instd_len h 2
    unfold SmallR tot
    simp only [List.map_cons, List.map_nil, List.sum_cons, List.sum_nil, List.length_cons, List.length_nil]
    omega
  · unfold SmallR tot
    simp
/-- the first k orders -/
def firstT (h : List TxnT) (k : Nat) : List (List Int) := (List.range k).map fun i : Nat => instd h ((i : Nat) : Int)
theorem firstT_succ (h : List TxnT) (k : Nat) : firstT h (k + 1) = firstT h k ++ [instd h (k : Int)] := by simp [firstT, List.range_succ]
theorem infoRow : (Tryd.prog.info? 41).map (fun i => (i.zero, i.size, i.bytes)) = some (some (.slice none 0 0), 1, 24) := by kernel_rfl
theorem rows_nil (w w' : World) (hE : Ext w w') : FreshRR [] w (.returned (.slice none 0 0)) w' := ⟨none, 0, fun _ => none, rfl, ⟨(fun i x hx => by simp at hx), (fun i j a b _ hj => by simp at hj)⟩, hE⟩

set_option maxHeartbeats 4000000 in
theorem implFirstOrders_c (h : List TxnT) (S : Nat → Prop) (A : Option Addr) (c : Nat) (w : World) (hx : Txns S w A h) (hsm : Small h) :
    Calls Tryd.prog 23 #[.slice A h.length c] w (FreshRR (firstV h) w) := by
  have CV := fun w hx => implHistoryValid_c h S A c w hx hsm
  have CI := Lib.hid (fun (k : Nat) w hx => implInstalled_c h S A c (k : Int) w hx hsm)
  have HL := Lib.hid (fun (k : Int) => instd_len h k)
  unfold firstV
  have HX := Lib.hid hx
  cases hv : histv h with
  | false =>
    rw [if_neg (by simp)]
    rw [hv] at CV
    have HCV := Lib.hid CV
    clear CV hv hx
    go_enter Tryd.func23, Tryd.ntmps23
    go_wp2_with (fail)
    go_at_call 36
    refine (HCV.out _ (HX.out.ext (by (repeat' (first | (with_reducible exact Below.refl _ _) | (with_reducible refine Below.mono (by assumption) ?_) | (with_reducible refine Below.trans ?_ (Below.mono (by assumption) ?_)) | (with_reducible refine Below.alloc ?_ ?_ _) | (with_reducible refine Below.drew ?_) | (with_reducible refine below_drewN ?_ _) | (with_reducible refine Below.setCell ?_ ?_ _) | (simp only [World.size_alloc, World.size_setCell, World.size_drew, size_drewN]; omega) | omega))))).mono ?_
    rintro e w1 ⟨rfl, hb⟩
    obtain ⟨hc, hf, hz, hs⟩ := bcell hb
    (try simp only [World.size_alloc, World.size_setCell, World.size_drew, size_drewN] at hs); (first | have l0 := Nat.lt_of_lt_of_le l0 (show _ ≤ w1.heap.size by omega) | have l0 : w.heap.size < w1.heap.size := (by omega) | skip); (try have l0e := Nat.le_of_lt l0); (try have l0f := Nat.le_add_right_of_le (k := 1) l0e); (try have l1 := Nat.lt_of_lt_of_le l1 (show _ ≤ w1.heap.size by omega)); (try have l1e := Nat.le_of_lt l1); (try have l1f := Nat.le_add_right_of_le (k := 1) l1e); (try have l2 := Nat.lt_of_lt_of_le l2 (show _ ≤ w1.heap.size by omega)); (try have l2e := Nat.le_of_lt l2); (try have l2f := Nat.le_add_right_of_le (k := 1) l2e); (try have l3 := Nat.lt_of_lt_of_le l3 (show _ ≤ w1.heap.size by omega)); (try have l3e := Nat.le_of_lt l3); (try have l3f := Nat.le_add_right_of_le (k := 1) l3e)
    go_wp2
    go_ret
    exact rows_nil _ _ (by (repeat' (first | (with_reducible exact Below.refl _ _) | (with_reducible refine Below.mono (by assumption) ?_) | (with_reducible refine Below.trans ?_ (Below.mono (by assumption) ?_)) | (with_reducible refine Below.alloc ?_ ?_ _) | (with_reducible refine Below.drew ?_) | (with_reducible refine below_drewN ?_ _) | (with_reducible refine Below.setCell ?_ ?_ _) | (simp only [World.size_alloc, World.size_setCell, World.size_drew, size_drewN]; omega) | omega)))
  | true =>
    rw [if_pos rfl]
    rw [hv] at CV
    have HCV := Lib.hid CV
    have hmk : ∀ W : World, (Instr.makeSlice 37 (.int .i64 0) (.int .i64 3)).run Tryd.prog W = .ok (.slice (some ⟨W.heap.size, 0, none⟩) 0 3) (W.alloc (.cells #[.slice none 0 0, .slice none 0 0, .slice none 0 0] 41)) := fun W => by
      obtain ⟨i0, hi, hz0, hz1, hz2⟩ := info_parts infoRow
      have hq := run_make_rowN (P := Tryd.prog) 37 41 i0 _ Tryd.underlying37 hi hz0 .i64 .i64 0 3 (by omega) (by rw [hz2]; omega) (by omega) W
      rw [hz1, show madeCells (Value.slice none 0 0).cells (3 * 1) = #[.slice none 0 0, .slice none 0 0, .slice none 0 0] from by kernel_rfl] at hq
      exact hq
    clear CV hv hx
    go_enter Tryd.func23, Tryd.ntmps23
    go_wp2_with (fail)
    go_at_call 36
    refine (HCV.out _ (HX.out.ext (by (repeat' (first | (with_reducible exact Below.refl _ _) | (with_reducible refine Below.mono (by assumption) ?_) | (with_reducible refine Below.trans ?_ (Below.mono (by assumption) ?_)) | (with_reducible refine Below.alloc ?_ ?_ _) | (with_reducible refine Below.drew ?_) | (with_reducible refine below_drewN ?_ _) | (with_reducible refine Below.setCell ?_ ?_ _) | (simp only [World.size_alloc, World.size_setCell, World.size_drew, size_drewN]; omega) | omega))))).mono ?_
    rintro e w1 ⟨rfl, hb⟩
    obtain ⟨hc, hf, hz, hs⟩ := bcell hb
    (try simp only [World.size_alloc, World.size_setCell, World.size_drew, size_drewN] at hs); (first | have l0 := Nat.lt_of_lt_of_le l0 (show _ ≤ w1.heap.size by omega) | have l0 : w.heap.size < w1.heap.size := (by omega) | skip); (try have l0e := Nat.le_of_lt l0); (try have l0f := Nat.le_add_right_of_le (k := 1) l0e); (try have l1 := Nat.lt_of_lt_of_le l1 (show _ ≤ w1.heap.size by omega)); (try have l1e := Nat.le_of_lt l1); (try have l1f := Nat.le_add_right_of_le (k := 1) l1e); (try have l2 := Nat.lt_of_lt_of_le l2 (show _ ≤ w1.heap.size by omega)); (try have l2e := Nat.le_of_lt l2); (try have l2f := Nat.le_add_right_of_le (k := 1) l2e); (try have l3 := Nat.lt_of_lt_of_le l3 (show _ ≤ w1.heap.size by omega)); (try have l3e := Nat.le_of_lt l3); (try have l3f := Nat.le_add_right_of_le (k := 1) l3e)
    have e1 : Ext w w1 := by (repeat' (first | (with_reducible exact Below.refl _ _) | (with_reducible refine Below.mono (by assumption) ?_) | (with_reducible refine Below.trans ?_ (Below.mono (by assumption) ?_)) | (with_reducible refine Below.alloc ?_ ?_ _) | (with_reducible refine Below.drew ?_) | (with_reducible refine below_drewN ?_ _) | (with_reducible refine Below.setCell ?_ ?_ _) | (simp only [World.size_alloc, World.size_setCell, World.size_drew, size_drewN]; omega) | omega))
    have E1 := Lib.hid e1
    clear hc hf hz hb e1
    go_wp2
    have hO : OwnR (w1.alloc (.cells #[.slice none 0 0, .slice none 0 0, .slice none 0 0] 41)) w1.heap.size (.slice (some ⟨w1.heap.size, 0, none⟩) 0 3) [] := OwnR.made w1 _ 3 (Nat.le_refl _) (by omega) rfl
    have HO := Lib.hid hO
    clear hO hmk
    go_loopw [3, 9] (fun v i wr => ∃ (k : Nat) (ps : List PR), k ≤ 3 ∧ i = .int .i64 k ∧ ps.map PR.xs = firstT h k ∧ OwnR wr w1.heap.size v ps ∧ Ext w1 wr) (fun _ i _ => 3 - (intOf i).toNat)
    case atStart => exact ⟨0, [], by omega, rfl, rfl, HO.out, by (repeat' (first | (with_reducible exact Below.refl _ _) | (with_reducible refine Below.mono (by assumption) ?_) | (with_reducible refine Below.trans ?_ (Below.mono (by assumption) ?_)) | (with_reducible refine Below.alloc ?_ ?_ _) | (with_reducible refine Below.drew ?_) | (with_reducible refine below_drewN ?_ _) | (with_reducible refine Below.setCell ?_ ?_ _) | (simp only [World.size_alloc, World.size_setCell, World.size_drew, size_drewN]; omega) | omega))⟩
    case round =>
      obtain ⟨k, ps, hk, rfl, hpm, hown, hE⟩ := hrel
      have HPM := Lib.hid hpm
      have HOw := Lib.hid hown
      have HE := Lib.hid hE
      have hpl : ps.length = k := by
        have := congrArg List.length hpm
        simpa [firstT] using this
      have hpl3 : ps.length ≤ 3 := by omega
      have hez := hE.size
      clear HO hpm hown hE hpl
      by_cases hlt : k < 3
      · have hki : (k : Int) < 3 := by omega
        go_wp2_with (fail)
        go_at_call 43
        refine (CI.out k _ (HX.out.ext (E1.out.tr HE.out))).mono ?_
        rintro e w2 ⟨A2, c2, rfl, hI, hfr, hb⟩
        obtain ⟨hc, hf, hz, hs⟩ := bcell hb
        (try simp only [World.size_alloc, World.size_setCell, World.size_drew, size_drewN] at hs); (first | have l0 := Nat.lt_of_lt_of_le l0 (show _ ≤ w2.heap.size by omega) | have l0 : w.heap.size < w2.heap.size := (by omega) | skip); (try have l0e := Nat.le_of_lt l0); (try have l0f := Nat.le_add_right_of_le (k := 1) l0e); (try have l1 := Nat.lt_of_lt_of_le l1 (show _ ≤ w2.heap.size by omega)); (try have l1e := Nat.le_of_lt l1); (try have l1f := Nat.le_add_right_of_le (k := 1) l1e); (try have l2 := Nat.lt_of_lt_of_le l2 (show _ ≤ w2.heap.size by omega)); (try have l2e := Nat.le_of_lt l2); (try have l2f := Nat.le_add_right_of_le (k := 1) l2e); (try have l3 := Nat.lt_of_lt_of_le l3 (show _ ≤ w2.heap.size by omega)); (try have l3e := Nat.le_of_lt l3); (try have l3f := Nat.le_add_right_of_le (k := 1) l3e)
        have hnew := HOw.out.new (c := c2) (by omega) hI hfr
        have how2 := HOw.out.ext hb
        have HE2 := Lib.hid (HE.out.tr hb)
        have HN := Lib.hid hnew
        have HO2 := Lib.hid how2
        have hz2 := hb.size
        clear hI hfr hnew how2 hc hf hz hb hs
        have hlitc : (w2.alloc (.cells #[.slice A2 (instd h (k : Int)).length c2] 41)).cell? ⟨w2.heap.size, 0, none⟩ = some (PR.cell ⟨A2, c2, instd h (k : Int)⟩) := ((Blk.new w2 41 _).cell 0).trans rfl
        have HLc := Lib.hid hlitc
        clear hlitc
        go_wp2_with (at_builtin; go_loud (refine wpList_appendR _ rfl _ _ 37 rfl Tryd.underlying37 infoRow rfl _ ps rfl (B := w1.heap.size) (HO2.out.ext (by (repeat' (first | (with_reducible exact Below.refl _ _) | (with_reducible refine Below.mono (by assumption) ?_) | (with_reducible refine Below.trans ?_ (Below.mono (by assumption) ?_)) | (with_reducible refine Below.alloc ?_ ?_ _) | (with_reducible refine Below.drew ?_) | (with_reducible refine below_drewN ?_ _) | (with_reducible refine Below.setCell ?_ ?_ _) | (simp only [World.size_alloc, World.size_setCell, World.size_drew, size_drewN]; omega) | omega)))) ⟨A2, c2, instd h (k : Int)⟩ (HN.out.1.ext (by (repeat' (first | (with_reducible exact Below.refl _ _) | (with_reducible refine Below.mono (by assumption) ?_) | (with_reducible refine Below.trans ?_ (Below.mono (by assumption) ?_)) | (with_reducible refine Below.alloc ?_ ?_ _) | (with_reducible refine Below.drew ?_) | (with_reducible refine below_drewN ?_ _) | (with_reducible refine Below.setCell ?_ ?_ _) | (simp only [World.size_alloc, World.size_setCell, World.size_drew, size_drewN]; omega) | omega)))) HN.out.2.1 HN.out.2.2 _ rfl HLc.out (by omega) ?_ ?_))
        · simp only [World.size_alloc]; omega
        · intro v' w' hown' hgrow
          have hE9 : Ext w1 w' := Below.grown (HE2.out.tr (show Ext w2 (w2.alloc (.cells #[.slice A2 (instd h (k : Int)).length c2] 41)) by (repeat' (first | (with_reducible exact Below.refl _ _) | (with_reducible refine Below.mono (by assumption) ?_) | (with_reducible refine Below.trans ?_ (Below.mono (by assumption) ?_)) | (with_reducible refine Below.alloc ?_ ?_ _) | (with_reducible refine Below.drew ?_) | (with_reducible refine below_drewN ?_ _) | (with_reducible refine Below.setCell ?_ ?_ _) | (simp only [World.size_alloc, World.size_setCell, World.size_drew, size_drewN]; omega) | omega)))) hgrow (by simp only [World.size_alloc]; omega) (fun g hg => (HO2.out.lt g hg).1)
          have HO9 := Lib.hid hown'
          have HE9 := Lib.hid hE9
          clear hown' hgrow hE9
          go_wp2
          go_roundw
          case measure => simp [intOf]; omega
          case rel => exact ⟨k + 1, _, by omega, by go_num, by rw [List.map_append, HPM.out, firstT_succ]; rfl, HO9.out, HE9.out⟩
      · obtain rfl : k = 3 := by omega
        have hfr := HOw.out.fresh (w := w) (by have := E1.out.size; omega) (E1.out.tr HE.out)
        rw [HPM.out] at hfr
        have HF := Lib.hid (show FreshRR [instd h 0, instd h 1, instd h 2] w (.returned u3) wr from hfr)
        clear hfr
        go_wp2
        go_ret
        exact HF.out
set_option maxHeartbeats 4000000 in
theorem specFirstOrders_c (h : List TxnT) (S : Nat → Prop) (A : Option Addr) (c : Nat) (w : World) (hx : Txns S w A h) (hcap : CapN w A h.length) (hsm : Small h) :
    Calls Tryd.prog 25 #[.slice A h.length c] w (FreshRR (firstV h) w) := by
  have CV := fun A c w hx => specHistoryValid_c h Any A c w hx hsm
  have CI := Lib.hid (fun A c (k : Nat) w hx => specInstalled_c h Any A c (k : Int) w hx hsm)
  have CO := Lib.hid (fun w hx hcap => l1OwnTxnList_c h S A c w hx hcap hsm)
  unfold firstV
  have HX := Lib.hid hx
  have HCP := Lib.hid hcap
  clear hx hcap
  cases hv : histv h with
  | false =>
    rw [if_neg (by simp)]
    rw [hv] at CV
    have HCV := Lib.hid CV
    clear CV hv
    go_enter Tryd.func25, Tryd.ntmps25
    go_wp2_with (fail)
    go_at_call 56
    refine (CO.out _ (HX.out.ext (by (repeat' (first | (with_reducible exact Below.refl _ _) | (with_reducible refine Below.mono (by assumption) ?_) | (with_reducible refine Below.trans ?_ (Below.mono (by assumption) ?_)) | (with_reducible refine Below.alloc ?_ ?_ _) | (with_reducible refine Below.drew ?_) | (with_reducible refine below_drewN ?_ _) | (with_reducible refine Below.setCell ?_ ?_ _) | (simp only [World.size_alloc, World.size_setCell, World.size_drew, size_drewN]; omega) | omega)))) (HCP.out.ext (by (repeat' (first | (with_reducible exact Below.refl _ _) | (with_reducible refine Below.mono (by assumption) ?_) | (with_reducible refine Below.trans ?_ (Below.mono (by assumption) ?_)) | (with_reducible refine Below.alloc ?_ ?_ _) | (with_reducible refine Below.drew ?_) | (with_reducible refine below_drewN ?_ _) | (with_reducible refine Below.setCell ?_ ?_ _) | (simp only [World.size_alloc, World.size_setCell, World.size_drew, size_drewN]; omega) | omega))))).mono ?_
    rintro e w1 ⟨A1, c1, rfl, hT, _, hb⟩
    obtain ⟨hc, hf, hz, hs⟩ := bcell hb
    (try simp only [World.size_alloc, World.size_setCell, World.size_drew, size_drewN] at hs); (first | have l0 := Nat.lt_of_lt_of_le l0 (show _ ≤ w1.heap.size by omega) | have l0 : w.heap.size < w1.heap.size := (by omega) | skip); (try have l0e := Nat.le_of_lt l0); (try have l0f := Nat.le_add_right_of_le (k := 1) l0e); (try have l1 := Nat.lt_of_lt_of_le l1 (show _ ≤ w1.heap.size by omega)); (try have l1e := Nat.le_of_lt l1); (try have l1f := Nat.le_add_right_of_le (k := 1) l1e); (try have l2 := Nat.lt_of_lt_of_le l2 (show _ ≤ w1.heap.size by omega)); (try have l2e := Nat.le_of_lt l2); (try have l2f := Nat.le_add_right_of_le (k := 1) l2e); (try have l3 := Nat.lt_of_lt_of_le l3 (show _ ≤ w1.heap.size by omega)); (try have l3e := Nat.le_of_lt l3); (try have l3f := Nat.le_add_right_of_le (k := 1) l3e)
    have HT := Lib.hid (show Txns Any w1 A1 h from SlAt.mono hT (fun _ _ _ => trivial) (fun x us hh => mono_txn (fun _ _ _ => trivial) x us hh))
    have e1 : Ext w w1 := by (repeat' (first | (with_reducible exact Below.refl _ _) | (with_reducible refine Below.mono (by assumption) ?_) | (with_reducible refine Below.trans ?_ (Below.mono (by assumption) ?_)) | (with_reducible refine Below.alloc ?_ ?_ _) | (with_reducible refine Below.drew ?_) | (with_reducible refine below_drewN ?_ _) | (with_reducible refine Below.setCell ?_ ?_ _) | (simp only [World.size_alloc, World.size_setCell, World.size_drew, size_drewN]; omega) | omega))
    have E1 := Lib.hid e1
    clear hT hc hf hz hb e1
    go_wp2
    have HO := Lib.hid (OwnR.made w1 (B := w1.heap.size) #[] 0 (Nat.le_refl _) (by omega) rfl)
    go_loopw [3, 4] (fun v i wr => i = .int .i64 0 ∧ OwnR wr w1.heap.size v [] ∧ Ext w1 wr) (fun _ i _ => 0)
    case atStart => exact ⟨rfl, HO.out, by (repeat' (first | (with_reducible exact Below.refl _ _) | (with_reducible refine Below.mono (by assumption) ?_) | (with_reducible refine Below.trans ?_ (Below.mono (by assumption) ?_)) | (with_reducible refine Below.alloc ?_ ?_ _) | (with_reducible refine Below.drew ?_) | (with_reducible refine below_drewN ?_ _) | (with_reducible refine Below.setCell ?_ ?_ _) | (simp only [World.size_alloc, World.size_setCell, World.size_drew, size_drewN]; omega) | omega))⟩
    case round =>
      obtain ⟨rfl, hown, hE⟩ := hrel
      have HOw := Lib.hid hown
      have HE := Lib.hid hE
      clear HO hown hE
      go_wp2_with (fail)
      go_at_call 26
      refine (HCV.out _ _ _ (HT.out.ext HE.out)).mono ?_
      rintro e w2 ⟨rfl, hb⟩
      obtain ⟨hc, hf, hz, hs⟩ := bcell hb
      (try simp only [World.size_alloc, World.size_setCell, World.size_drew, size_drewN] at hs); (first | have l0 := Nat.lt_of_lt_of_le l0 (show _ ≤ w2.heap.size by omega) | have l0 : w.heap.size < w2.heap.size := (by omega) | skip); (try have l0e := Nat.le_of_lt l0); (try have l0f := Nat.le_add_right_of_le (k := 1) l0e); (try have l1 := Nat.lt_of_lt_of_le l1 (show _ ≤ w2.heap.size by omega)); (try have l1e := Nat.le_of_lt l1); (try have l1f := Nat.le_add_right_of_le (k := 1) l1e); (try have l2 := Nat.lt_of_lt_of_le l2 (show _ ≤ w2.heap.size by omega)); (try have l2e := Nat.le_of_lt l2); (try have l2f := Nat.le_add_right_of_le (k := 1) l2e); (try have l3 := Nat.lt_of_lt_of_le l3 (show _ ≤ w2.heap.size by omega)); (try have l3e := Nat.le_of_lt l3); (try have l3f := Nat.le_add_right_of_le (k := 1) l3e)
      have hfr := (HOw.out.ext hb).fresh (w := w) (by have := E1.out.size; omega) (E1.out.tr (HE.out.tr hb))
      have HF := Lib.hid (show FreshRR [] w (.returned u3) w2 from hfr)
      clear hfr
      go_wp2
      go_ret
      exact HF.out
  | true =>
    rw [if_pos rfl]
    rw [hv] at CV
    have HCV := Lib.hid CV
    clear CV hv
    go_enter Tryd.func25, Tryd.ntmps25
    go_wp2_with (fail)
    go_at_call 56
    refine (CO.out _ (HX.out.ext (by (repeat' (first | (with_reducible exact Below.refl _ _) | (with_reducible refine Below.mono (by assumption) ?_) | (with_reducible refine Below.trans ?_ (Below.mono (by assumption) ?_)) | (with_reducible refine Below.alloc ?_ ?_ _) | (with_reducible refine Below.drew ?_) | (with_reducible refine below_drewN ?_ _) | (with_reducible refine Below.setCell ?_ ?_ _) | (simp only [World.size_alloc, World.size_setCell, World.size_drew, size_drewN]; omega) | omega)))) (HCP.out.ext (by (repeat' (first | (with_reducible exact Below.refl _ _) | (with_reducible refine Below.mono (by assumption) ?_) | (with_reducible refine Below.trans ?_ (Below.mono (by assumption) ?_)) | (with_reducible refine Below.alloc ?_ ?_ _) | (with_reducible refine Below.drew ?_) | (with_reducible refine below_drewN ?_ _) | (with_reducible refine Below.setCell ?_ ?_ _) | (simp only [World.size_alloc, World.size_setCell, World.size_drew, size_drewN]; omega) | omega))))).mono ?_
    rintro e w1 ⟨A1, c1, rfl, hT, _, hb⟩
    obtain ⟨hc, hf, hz, hs⟩ := bcell hb
    (try simp only [World.size_alloc, World.size_setCell, World.size_drew, size_drewN] at hs); (first | have l0 := Nat.lt_of_lt_of_le l0 (show _ ≤ w1.heap.size by omega) | have l0 : w.heap.size < w1.heap.size := (by omega) | skip); (try have l0e := Nat.le_of_lt l0); (try have l0f := Nat.le_add_right_of_le (k := 1) l0e); (try have l1 := Nat.lt_of_lt_of_le l1 (show _ ≤ w1.heap.size by omega)); (try have l1e := Nat.le_of_lt l1); (try have l1f := Nat.le_add_right_of_le (k := 1) l1e); (try have l2 := Nat.lt_of_lt_of_le l2 (show _ ≤ w1.heap.size by omega)); (try have l2e := Nat.le_of_lt l2); (try have l2f := Nat.le_add_right_of_le (k := 1) l2e); (try have l3 := Nat.lt_of_lt_of_le l3 (show _ ≤ w1.heap.size by omega)); (try have l3e := Nat.le_of_lt l3); (try have l3f := Nat.le_add_right_of_le (k := 1) l3e)
    have HT := Lib.hid (show Txns Any w1 A1 h from SlAt.mono hT (fun _ _ _ => trivial) (fun x us hh => mono_txn (fun _ _ _ => trivial) x us hh))
    have e1 : Ext w w1 := by (repeat' (first | (with_reducible exact Below.refl _ _) | (with_reducible refine Below.mono (by assumption) ?_) | (with_reducible refine Below.trans ?_ (Below.mono (by assumption) ?_)) | (with_reducible refine Below.alloc ?_ ?_ _) | (with_reducible refine Below.drew ?_) | (with_reducible refine below_drewN ?_ _) | (with_reducible refine Below.setCell ?_ ?_ _) | (simp only [World.size_alloc, World.size_setCell, World.size_drew, size_drewN]; omega) | omega))
    have E1 := Lib.hid e1
    clear hT hc hf hz hb e1
    go_wp2
    have HO := Lib.hid (OwnR.made w1 (B := w1.heap.size) #[] 0 (Nat.le_refl _) (by omega) rfl)
    go_loopw [3, 4] (fun v i wr => ∃ (k : Nat) (ps : List PR), k ≤ 3 ∧ i = .int .i64 k ∧ ps.map PR.xs = firstT h k ∧ OwnR wr w1.heap.size v ps ∧ Ext w1 wr) (fun _ i _ => 3 - (intOf i).toNat)
    case atStart => exact ⟨0, [], by omega, rfl, rfl, HO.out, by (repeat' (first | (with_reducible exact Below.refl _ _) | (with_reducible refine Below.mono (by assumption) ?_) | (with_reducible refine Below.trans ?_ (Below.mono (by assumption) ?_)) | (with_reducible refine Below.alloc ?_ ?_ _) | (with_reducible refine Below.drew ?_) | (with_reducible refine below_drewN ?_ _) | (with_reducible refine Below.setCell ?_ ?_ _) | (simp only [World.size_alloc, World.size_setCell, World.size_drew, size_drewN]; omega) | omega))⟩
    case round =>
      obtain ⟨k, ps, hk, rfl, hpm, hown, hE⟩ := hrel
      have HPM := Lib.hid hpm
      have HOw := Lib.hid hown
      have HE := Lib.hid hE
      have hpl : ps.length = k := by
        have := congrArg List.length hpm
        simpa [firstT] using this
      have hpl3 : ps.length ≤ 3 := by omega
      have hez := hE.size
      clear HO hpm hown hE hpl
      by_cases hlt : k < 3
      · have hki : (k : Int) ≤ 2 := by omega
        have hki2 : decide ((k : Int) ≤ 2) = true := decide_eq_true (by omega)
        go_wp2_with (fail)
        go_at_call 26
        refine (HCV.out _ _ _ (HT.out.ext HE.out)).mono ?_
        rintro e w3 ⟨rfl, hb⟩
        obtain ⟨hc, hf, hz, hs⟩ := bcell hb
        (try simp only [World.size_alloc, World.size_setCell, World.size_drew, size_drewN] at hs); (first | have l0 := Nat.lt_of_lt_of_le l0 (show _ ≤ w3.heap.size by omega) | have l0 : w.heap.size < w3.heap.size := (by omega) | skip); (try have l0e := Nat.le_of_lt l0); (try have l0f := Nat.le_add_right_of_le (k := 1) l0e); (try have l1 := Nat.lt_of_lt_of_le l1 (show _ ≤ w3.heap.size by omega)); (try have l1e := Nat.le_of_lt l1); (try have l1f := Nat.le_add_right_of_le (k := 1) l1e); (try have l2 := Nat.lt_of_lt_of_le l2 (show _ ≤ w3.heap.size by omega)); (try have l2e := Nat.le_of_lt l2); (try have l2f := Nat.le_add_right_of_le (k := 1) l2e); (try have l3 := Nat.lt_of_lt_of_le l3 (show _ ≤ w3.heap.size by omega)); (try have l3e := Nat.le_of_lt l3); (try have l3f := Nat.le_add_right_of_le (k := 1) l3e)
        have HO1 := Lib.hid (HOw.out.ext hb)
        have HE1 := Lib.hid (HE.out.tr hb)
        have hz3 := hb.size
        clear hc hf hz hb hs
        go_wp2_with (fail)
        go_at_call 46
        refine (CI.out _ _ k _ (HT.out.ext HE1.out)).mono ?_
        rintro e w2 ⟨A2, c2, rfl, hI, hfr, hb⟩
        obtain ⟨hc, hf, hz, hs⟩ := bcell hb
        (try simp only [World.size_alloc, World.size_setCell, World.size_drew, size_drewN] at hs); (first | have l0 := Nat.lt_of_lt_of_le l0 (show _ ≤ w2.heap.size by omega) | have l0 : w.heap.size < w2.heap.size := (by omega) | skip); (try have l0e := Nat.le_of_lt l0); (try have l0f := Nat.le_add_right_of_le (k := 1) l0e); (try have l1 := Nat.lt_of_lt_of_le l1 (show _ ≤ w2.heap.size by omega)); (try have l1e := Nat.le_of_lt l1); (try have l1f := Nat.le_add_right_of_le (k := 1) l1e); (try have l2 := Nat.lt_of_lt_of_le l2 (show _ ≤ w2.heap.size by omega)); (try have l2e := Nat.le_of_lt l2); (try have l2f := Nat.le_add_right_of_le (k := 1) l2e); (try have l3 := Nat.lt_of_lt_of_le l3 (show _ ≤ w2.heap.size by omega)); (try have l3e := Nat.le_of_lt l3); (try have l3f := Nat.le_add_right_of_le (k := 1) l3e)
        have hnew := HO1.out.new (c := c2) (by omega) hI hfr
        have how2 := HO1.out.ext hb
        have HE2 := Lib.hid (HE1.out.tr hb)
        have HN := Lib.hid hnew
        have HO2 := Lib.hid how2
        have hz2 := hb.size
        clear hI hfr hnew how2 hc hf hz hb hs
        have hlitc : (w2.alloc (.cells #[.slice A2 (instd h (k : Int)).length c2] 41)).cell? ⟨w2.heap.size, 0, none⟩ = some (PR.cell ⟨A2, c2, instd h (k : Int)⟩) := ((Blk.new w2 41 _).cell 0).trans rfl
        have HLc := Lib.hid hlitc
        clear hlitc
        go_wp2_with (at_builtin; go_loud (refine wpList_appendR _ rfl _ _ 37 rfl Tryd.underlying37 infoRow rfl _ ps rfl (B := w1.heap.size) (HO2.out.ext (by (repeat' (first | (with_reducible exact Below.refl _ _) | (with_reducible refine Below.mono (by assumption) ?_) | (with_reducible refine Below.trans ?_ (Below.mono (by assumption) ?_)) | (with_reducible refine Below.alloc ?_ ?_ _) | (with_reducible refine Below.drew ?_) | (with_reducible refine below_drewN ?_ _) | (with_reducible refine Below.setCell ?_ ?_ _) | (simp only [World.size_alloc, World.size_setCell, World.size_drew, size_drewN]; omega) | omega)))) ⟨A2, c2, instd h (k : Int)⟩ (HN.out.1.ext (by (repeat' (first | (with_reducible exact Below.refl _ _) | (with_reducible refine Below.mono (by assumption) ?_) | (with_reducible refine Below.trans ?_ (Below.mono (by assumption) ?_)) | (with_reducible refine Below.alloc ?_ ?_ _) | (with_reducible refine Below.drew ?_) | (with_reducible refine below_drewN ?_ _) | (with_reducible refine Below.setCell ?_ ?_ _) | (simp only [World.size_alloc, World.size_setCell, World.size_drew, size_drewN]; omega) | omega)))) HN.out.2.1 HN.out.2.2 _ rfl HLc.out (by omega) ?_ ?_))
        · simp only [World.size_alloc]; omega
        · intro v' w' hown' hgrow
          have hE9 : Ext w1 w' := Below.grown (HE2.out.tr (show Ext w2 (w2.alloc (.cells #[.slice A2 (instd h (k : Int)).length c2] 41)) by (repeat' (first | (with_reducible exact Below.refl _ _) | (with_reducible refine Below.mono (by assumption) ?_) | (with_reducible refine Below.trans ?_ (Below.mono (by assumption) ?_)) | (with_reducible refine Below.alloc ?_ ?_ _) | (with_reducible refine Below.drew ?_) | (with_reducible refine below_drewN ?_ _) | (with_reducible refine Below.setCell ?_ ?_ _) | (simp only [World.size_alloc, World.size_setCell, World.size_drew, size_drewN]; omega) | omega)))) hgrow (by simp only [World.size_alloc]; omega) (fun g hg => (HO2.out.lt g hg).1)
          have HO9 := Lib.hid hown'
          have HE9 := Lib.hid hE9
          clear hown' hgrow hE9
          go_wp2
          go_roundw
          case measure => simp [intOf]; omega
          case rel => exact ⟨k + 1, _, by omega, by go_num, by rw [List.map_append, HPM.out, firstT_succ]; rfl, HO9.out, HE9.out⟩
      · obtain rfl : k = 3 := by omega
        have hfr := HOw.out.fresh (w := w) (by have := E1.out.size; omega) (E1.out.tr HE.out)
        rw [HPM.out] at hfr
        have HF := Lib.hid (show FreshRR [instd h 0, instd h 1, instd h 2] w (.returned u3) wr from hfr)
        clear hfr
        go_wp2
        go_ret
        exact HF.out
end Go.Proofs.YtdgfipoibnjhaaaDoor
