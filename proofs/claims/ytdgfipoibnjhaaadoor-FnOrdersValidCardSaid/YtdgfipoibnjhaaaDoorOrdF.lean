/-
  FirstOrders in rows of the call's own.
-/
import Derived.Test.YtdgfipoibnjhaaaDoorOrdS
namespace Go.Proofs.YtdgfipoibnjhaaaDoor
set_option linter.unusedSimpArgs false
set_option linter.unusedVariables false
set_option maxRecDepth 100000
open Go.RowKit

theorem specInstalled_io (h : List TxnT) (S : Nat → Prop) (A : Option Addr) (c : Nat) (k : Nat) (w : World) (hx : Txns S w A h) (hsm : Small h) (hv : histv h = true) (hk : k < 3) :
    Calls Tryd.prog 46 #[.slice A h.length c, .int .i64 (k : Int)] w fun e w' => ∃ v, e = .returned v ∧ Own1 w' w.heap.size 3 v (instd h (k : Int)) ∧ Ext w w' ∧ HasB v := by
  have hkb : inB (k : Int) 0 2 = true := by unfold inB; simp; omega
  have e : instd h (k : Int) = inT h (k : Int) h.length := by unfold instd; rw [if_pos ⟨hv, hkb⟩]
  rw [e]
  exact specInstalled_o h S A c (k : Int) w hx hsm hv hkb
set_option maxHeartbeats 4000000 in
theorem specFirstOrders_o (h : List TxnT) (S : Nat → Prop) (A : Option Addr) (c : Nat) (w : World) (hx : Txns S w A h) (hcap : CapN w A h.length) (hsm : Small h) :
    Calls Tryd.prog 25 #[.slice A h.length c] w fun e w' => ∃ v ps, e = .returned v ∧ OwnS w' w.heap.size v ps ∧ ps.map PR.xs = firstV h ∧ Ext w w' ∧ ∀ p ∈ ps, HasB p.cell := by
  have CV := fun A c w hx => specHistoryValid_c h Any A c w hx hsm
  have CI := Lib.hid (fun A c (k : Nat) w hx hv hk => specInstalled_io h Any A c k w hx hsm hv hk)
  have CO := Lib.hid (fun w hx hcap => l1OwnTxnList_c h S A c w hx hcap hsm)
  unfold firstV
  have HX := Lib.hid hx
  have HCP := Lib.hid hcap
  clear hx hcap
  cases hv : histv h with
  | false =>
    rw [if_neg (by simp)]
    rw [hv] at CV
    have HCV := Lib.hid CV
    clear CV hv
    go_enter Tryd.func25, Tryd.ntmps25
    go_wp2_with (fail)
    go_at_call 56
    refine (CO.out _ (HX.out.ext (by (repeat' (first | (with_reducible exact Below.refl _ _) | (with_reducible refine Below.mono (by assumption) ?_) | (with_reducible refine Below.trans ?_ (Below.mono (by assumption) ?_)) | (with_reducible refine Below.alloc ?_ ?_ _) | (with_reducible refine Below.drew ?_) | (with_reducible refine below_drewN ?_ _) | (with_reducible refine Below.setCell ?_ ?_ _) | (simp only [World.size_alloc, World.size_setCell, World.size_drew, size_drewN]; omega) | omega)))) (HCP.out.ext (by (repeat' (first | (with_reducible exact Below.refl _ _) | (with_reducible refine Below.mono (by assumption) ?_) | (with_reducible refine Below.trans ?_ (Below.mono (by assumption) ?_)) | (with_reducible refine Below.alloc ?_ ?_ _) | (with_reducible refine Below.drew ?_) | (with_reducible refine below_drewN ?_ _) | (with_reducible refine Below.setCell ?_ ?_ _) | (simp only [World.size_alloc, World.size_setCell, World.size_drew, size_drewN]; omega) | omega))))).mono ?_
    rintro e w1 ⟨A1, c1, rfl, hT, _, hb⟩
    obtain ⟨hc, hf, hz, hs⟩ := bcell hb
    (try simp only [World.size_alloc, World.size_setCell, World.size_drew, size_drewN] at hs); (first | have l0 := Nat.lt_of_lt_of_le l0 (show _ ≤ w1.heap.size by omega) | have l0 : w.heap.size < w1.heap.size := (by omega) | skip); (try have l0e := Nat.le_of_lt l0); (try have l0f := Nat.le_add_right_of_le (k := 1) l0e); (try have l1 := Nat.lt_of_lt_of_le l1 (show _ ≤ w1.heap.size by omega)); (try have l1e := Nat.le_of_lt l1); (try have l1f := Nat.le_add_right_of_le (k := 1) l1e); (try have l2 := Nat.lt_of_lt_of_le l2 (show _ ≤ w1.heap.size by omega)); (try have l2e := Nat.le_of_lt l2); (try have l2f := Nat.le_add_right_of_le (k := 1) l2e); (try have l3 := Nat.lt_of_lt_of_le l3 (show _ ≤ w1.heap.size by omega)); (try have l3e := Nat.le_of_lt l3); (try have l3f := Nat.le_add_right_of_le (k := 1) l3e)
    have HT := Lib.hid (show Txns Any w1 A1 h from SlAt.mono hT (fun _ _ _ => trivial) (fun x us hh => mono_txn (fun _ _ _ => trivial) x us hh))
    have e1 : Ext w w1 := by (repeat' (first | (with_reducible exact Below.refl _ _) | (with_reducible refine Below.mono (by assumption) ?_) | (with_reducible refine Below.trans ?_ (Below.mono (by assumption) ?_)) | (with_reducible refine Below.alloc ?_ ?_ _) | (with_reducible refine Below.drew ?_) | (with_reducible refine below_drewN ?_ _) | (with_reducible refine Below.setCell ?_ ?_ _) | (simp only [World.size_alloc, World.size_setCell, World.size_drew, size_drewN]; omega) | omega))
    have E1 := Lib.hid e1
    clear hT hc hf hz hb e1
    go_wp2
    have HO := Lib.hid (OwnS.made w1 (B := w1.heap.size) #[] 0 (Nat.le_refl _) (by omega) rfl)
    go_loopw [3, 4] (fun v i wr => i = .int .i64 0 ∧ OwnS wr w1.heap.size v [] ∧ Ext w1 wr) (fun _ i _ => 0)
    case atStart => exact ⟨rfl, HO.out, by (repeat' (first | (with_reducible exact Below.refl _ _) | (with_reducible refine Below.mono (by assumption) ?_) | (with_reducible refine Below.trans ?_ (Below.mono (by assumption) ?_)) | (with_reducible refine Below.alloc ?_ ?_ _) | (with_reducible refine Below.drew ?_) | (with_reducible refine below_drewN ?_ _) | (with_reducible refine Below.setCell ?_ ?_ _) | (simp only [World.size_alloc, World.size_setCell, World.size_drew, size_drewN]; omega) | omega))⟩
    case round =>
      obtain ⟨rfl, hown, hE⟩ := hrel
      have HOw := Lib.hid hown
      have HE := Lib.hid hE
      clear HO hown hE
      go_wp2_with (fail)
      go_at_call 26
      refine (HCV.out _ _ _ (HT.out.ext HE.out)).mono ?_
      rintro e w2 ⟨rfl, hb⟩
      obtain ⟨hc, hf, hz, hs⟩ := bcell hb
      (try simp only [World.size_alloc, World.size_setCell, World.size_drew, size_drewN] at hs); (first | have l0 := Nat.lt_of_lt_of_le l0 (show _ ≤ w2.heap.size by omega) | have l0 : w.heap.size < w2.heap.size := (by omega) | skip); (try have l0e := Nat.le_of_lt l0); (try have l0f := Nat.le_add_right_of_le (k := 1) l0e); (try have l1 := Nat.lt_of_lt_of_le l1 (show _ ≤ w2.heap.size by omega)); (try have l1e := Nat.le_of_lt l1); (try have l1f := Nat.le_add_right_of_le (k := 1) l1e); (try have l2 := Nat.lt_of_lt_of_le l2 (show _ ≤ w2.heap.size by omega)); (try have l2e := Nat.le_of_lt l2); (try have l2f := Nat.le_add_right_of_le (k := 1) l2e); (try have l3 := Nat.lt_of_lt_of_le l3 (show _ ≤ w2.heap.size by omega)); (try have l3e := Nat.le_of_lt l3); (try have l3f := Nat.le_add_right_of_le (k := 1) l3e)
      have HF := Lib.hid (show OwnS w2 w.heap.size u3 [] ∧ Ext w w2 from ⟨(HOw.out.ext hb).below (by have := E1.out.size; omega), E1.out.tr (HE.out.tr hb)⟩)
      go_wp2
      go_ret
      exact ⟨_, _, rfl, HF.out.1, rfl, HF.out.2, fun p hp => by cases hp⟩
  | true =>
    rw [if_pos rfl]
    have HV := Lib.hid hv
    rw [hv] at CV
    have HCV := Lib.hid CV
    clear CV hv
    go_enter Tryd.func25, Tryd.ntmps25
    go_wp2_with (fail)
    go_at_call 56
    refine (CO.out _ (HX.out.ext (by (repeat' (first | (with_reducible exact Below.refl _ _) | (with_reducible refine Below.mono (by assumption) ?_) | (with_reducible refine Below.trans ?_ (Below.mono (by assumption) ?_)) | (with_reducible refine Below.alloc ?_ ?_ _) | (with_reducible refine Below.drew ?_) | (with_reducible refine below_drewN ?_ _) | (with_reducible refine Below.setCell ?_ ?_ _) | (simp only [World.size_alloc, World.size_setCell, World.size_drew, size_drewN]; omega) | omega)))) (HCP.out.ext (by (repeat' (first | (with_reducible exact Below.refl _ _) | (with_reducible refine Below.mono (by assumption) ?_) | (with_reducible refine Below.trans ?_ (Below.mono (by assumption) ?_)) | (with_reducible refine Below.alloc ?_ ?_ _) | (with_reducible refine Below.drew ?_) | (with_reducible refine below_drewN ?_ _) | (with_reducible refine Below.setCell ?_ ?_ _) | (simp only [World.size_alloc, World.size_setCell, World.size_drew, size_drewN]; omega) | omega))))).mono ?_
    rintro e w1 ⟨A1, c1, rfl, hT, _, hb⟩
    obtain ⟨hc, hf, hz, hs⟩ := bcell hb
    (try simp only [World.size_alloc, World.size_setCell, World.size_drew, size_drewN] at hs); (first | have l0 := Nat.lt_of_lt_of_le l0 (show _ ≤ w1.heap.size by omega) | have l0 : w.heap.size < w1.heap.size := (by omega) | skip); (try have l0e := Nat.le_of_lt l0); (try have l0f := Nat.le_add_right_of_le (k := 1) l0e); (try have l1 := Nat.lt_of_lt_of_le l1 (show _ ≤ w1.heap.size by omega)); (try have l1e := Nat.le_of_lt l1); (try have l1f := Nat.le_add_right_of_le (k := 1) l1e); (try have l2 := Nat.lt_of_lt_of_le l2 (show _ ≤ w1.heap.size by omega)); (try have l2e := Nat.le_of_lt l2); (try have l2f := Nat.le_add_right_of_le (k := 1) l2e); (try have l3 := Nat.lt_of_lt_of_le l3 (show _ ≤ w1.heap.size by omega)); (try have l3e := Nat.le_of_lt l3); (try have l3f := Nat.le_add_right_of_le (k := 1) l3e)
    have HT := Lib.hid (show Txns Any w1 A1 h from SlAt.mono hT (fun _ _ _ => trivial) (fun x us hh => mono_txn (fun _ _ _ => trivial) x us hh))
    have e1 : Ext w w1 := by (repeat' (first | (with_reducible exact Below.refl _ _) | (with_reducible refine Below.mono (by assumption) ?_) | (with_reducible refine Below.trans ?_ (Below.mono (by assumption) ?_)) | (with_reducible refine Below.alloc ?_ ?_ _) | (with_reducible refine Below.drew ?_) | (with_reducible refine below_drewN ?_ _) | (with_reducible refine Below.setCell ?_ ?_ _) | (simp only [World.size_alloc, World.size_setCell, World.size_drew, size_drewN]; omega) | omega))
    have E1 := Lib.hid e1
    clear hT hc hf hz hb e1
    go_wp2
    have HO := Lib.hid (OwnS.made w1 (B := w1.heap.size) #[] 0 (Nat.le_refl _) (by omega) rfl)
    go_loopw [3, 4] (fun v i wr => ∃ (k : Nat) (ps : List PR), k ≤ 3 ∧ i = .int .i64 k ∧ ps.map PR.xs = firstT h k ∧ OwnS wr w1.heap.size v ps ∧ Ext w1 wr ∧ ∀ p ∈ ps, HasB p.cell) (fun _ i _ => 3 - (intOf i).toNat)
    case atStart => exact ⟨0, [], by omega, rfl, rfl, HO.out, by (repeat' (first | (with_reducible exact Below.refl _ _) | (with_reducible refine Below.mono (by assumption) ?_) | (with_reducible refine Below.trans ?_ (Below.mono (by assumption) ?_)) | (with_reducible refine Below.alloc ?_ ?_ _) | (with_reducible refine Below.drew ?_) | (with_reducible refine below_drewN ?_ _) | (with_reducible refine Below.setCell ?_ ?_ _) | (simp only [World.size_alloc, World.size_setCell, World.size_drew, size_drewN]; omega) | omega)), fun p hp => by cases hp⟩
    case round =>
      obtain ⟨k, ps, hk, rfl, hpm, hown, hE, hpb⟩ := hrel
      have HPb := Lib.hid hpb
      clear hpb
      have HPM := Lib.hid hpm
      have HOw := Lib.hid hown
      have HE := Lib.hid hE
      have hpl : ps.length = k := by
        have := congrArg List.length hpm
        simpa [firstT] using this
      have hpl3 : ps.length ≤ 3 := by omega
      have hez := hE.size
      clear HO hpm hown hE hpl
      by_cases hlt : k < 3
      · have hki : (k : Int) ≤ 2 := by omega
        have hki2 : decide ((k : Int) ≤ 2) = true := decide_eq_true (by omega)
        go_wp2_with (fail)
        go_at_call 26
        refine (HCV.out _ _ _ (HT.out.ext HE.out)).mono ?_
        rintro e w3 ⟨rfl, hb⟩
        obtain ⟨hc, hf, hz, hs⟩ := bcell hb
        (try simp only [World.size_alloc, World.size_setCell, World.size_drew, size_drewN] at hs); (first | have l0 := Nat.lt_of_lt_of_le l0 (show _ ≤ w3.heap.size by omega) | have l0 : w.heap.size < w3.heap.size := (by omega) | skip); (try have l0e := Nat.le_of_lt l0); (try have l0f := Nat.le_add_right_of_le (k := 1) l0e); (try have l1 := Nat.lt_of_lt_of_le l1 (show _ ≤ w3.heap.size by omega)); (try have l1e := Nat.le_of_lt l1); (try have l1f := Nat.le_add_right_of_le (k := 1) l1e); (try have l2 := Nat.lt_of_lt_of_le l2 (show _ ≤ w3.heap.size by omega)); (try have l2e := Nat.le_of_lt l2); (try have l2f := Nat.le_add_right_of_le (k := 1) l2e); (try have l3 := Nat.lt_of_lt_of_le l3 (show _ ≤ w3.heap.size by omega)); (try have l3e := Nat.le_of_lt l3); (try have l3f := Nat.le_add_right_of_le (k := 1) l3e)
        have HO1 := Lib.hid (HOw.out.ext hb)
        have HE1 := Lib.hid (HE.out.tr hb)
        have hz3 := hb.size
        clear hc hf hz hb hs
        go_wp2_with (fail)
        go_at_call 46
        refine (CI.out _ _ k _ (HT.out.ext HE1.out) HV.out hlt).mono ?_
        rintro e w2 ⟨v2, rfl, hI, hb, hvb⟩
        obtain ⟨hc, hf, hz, hs⟩ := bcell hb
        (try simp only [World.size_alloc, World.size_setCell, World.size_drew, size_drewN] at hs); (first | have l0 := Nat.lt_of_lt_of_le l0 (show _ ≤ w2.heap.size by omega) | have l0 : w.heap.size < w2.heap.size := (by omega) | skip); (try have l0e := Nat.le_of_lt l0); (try have l0f := Nat.le_add_right_of_le (k := 1) l0e); (try have l1 := Nat.lt_of_lt_of_le l1 (show _ ≤ w2.heap.size by omega)); (try have l1e := Nat.le_of_lt l1); (try have l1f := Nat.le_add_right_of_le (k := 1) l1e); (try have l2 := Nat.lt_of_lt_of_le l2 (show _ ≤ w2.heap.size by omega)); (try have l2e := Nat.le_of_lt l2); (try have l2f := Nat.le_add_right_of_le (k := 1) l2e); (try have l3 := Nat.lt_of_lt_of_le l3 (show _ ≤ w2.heap.size by omega)); (try have l3e := Nat.le_of_lt l3); (try have l3f := Nat.le_add_right_of_le (k := 1) l3e)
        obtain ⟨A2, c2, rfl, _, _⟩ := hI.form
        have HVb := Lib.hid (show HasB (PR.cell ⟨A2, c2, instd h (k : Int)⟩) from hvb)
        clear hvb
        have hdis : ∀ q ∈ ps, ∀ b, (Value.slice A2 (instd h (k : Int)).length c2).ownBlock = some b → q.cell.ownBlock ≠ some b := fun q hq b hb1 hb2 => by
          have h1 := (hI.lt b hb1).1
          have h2 := (((HO1.out.own q hq).lt) b hb2).2
          omega
        have how2 := HO1.out.ext hb
        have hI1 := Own1.below hI (show w1.heap.size ≤ w3.heap.size by have := HE1.out.size; omega)
        have hRI := OwnS.rowIn (p := ⟨A2, c2, instd h (k : Int)⟩) hI1
        have hdA : ∀ a, A2 = some a → some a.block ≠ u3.ownBlock := fun a ha e => by
          subst ha
          have h1 := (hI.lt a.block rfl).1
          have h2 := ((World.ownsRow.lt HO1.out.out) a.block e.symm).2
          omega
        have hdB : ∀ q ∈ ps, ∀ a b, A2 = some a → q.A = some b → b.block ≠ a.block := fun q hq a b ha hb1 e => by
          subst ha
          exact hdis q hq a.block rfl (by unfold PR.cell; rw [hb1]; simp [Value.ownBlock, e])
        have HE2 := Lib.hid (HE1.out.tr hb)
        have HN := Lib.hid (show _ ∧ _ ∧ _ from ⟨hRI, hdA, hdB⟩)
        have HI1 := Lib.hid hI1
        have HDs := Lib.hid hdis
        have HO2 := Lib.hid how2
        have hz2 := hb.size
        clear hI hRI hdA hdB hI1 hdis how2 hc hf hz hb hs
        have hlitc : (w2.alloc (.cells #[.slice A2 (instd h (k : Int)).length c2] 41)).cell? ⟨w2.heap.size, 0, none⟩ = some (PR.cell ⟨A2, c2, instd h (k : Int)⟩) := ((Blk.new w2 41 _).cell 0).trans rfl
        have HLc := Lib.hid hlitc
        clear hlitc
        go_wp2_with (at_builtin; go_loud (refine wpList_appendR _ rfl _ _ 37 rfl Tryd.underlying37 infoRow rfl _ ps rfl (B := w1.heap.size) (HO2.out.toR.ext (by (repeat' (first | (with_reducible exact Below.refl _ _) | (with_reducible refine Below.mono (by assumption) ?_) | (with_reducible refine Below.trans ?_ (Below.mono (by assumption) ?_)) | (with_reducible refine Below.alloc ?_ ?_ _) | (with_reducible refine Below.drew ?_) | (with_reducible refine below_drewN ?_ _) | (with_reducible refine Below.setCell ?_ ?_ _) | (simp only [World.size_alloc, World.size_setCell, World.size_drew, size_drewN]; omega) | omega)))) ⟨A2, c2, instd h (k : Int)⟩ (HN.out.1.ext (by (repeat' (first | (with_reducible exact Below.refl _ _) | (with_reducible refine Below.mono (by assumption) ?_) | (with_reducible refine Below.trans ?_ (Below.mono (by assumption) ?_)) | (with_reducible refine Below.alloc ?_ ?_ _) | (with_reducible refine Below.drew ?_) | (with_reducible refine below_drewN ?_ _) | (with_reducible refine Below.setCell ?_ ?_ _) | (simp only [World.size_alloc, World.size_setCell, World.size_drew, size_drewN]; omega) | omega)))) HN.out.2.1 HN.out.2.2 _ rfl HLc.out (by omega) ?_ ?_))
        · simp only [World.size_alloc]; omega
        · intro v' w' hown' hgrow
          have hE9 : Ext w1 w' := Below.grown (HE2.out.tr (show Ext w2 (w2.alloc (.cells #[.slice A2 (instd h (k : Int)).length c2] 41)) by (repeat' (first | (with_reducible exact Below.refl _ _) | (with_reducible refine Below.mono (by assumption) ?_) | (with_reducible refine Below.trans ?_ (Below.mono (by assumption) ?_)) | (with_reducible refine Below.alloc ?_ ?_ _) | (with_reducible refine Below.drew ?_) | (with_reducible refine below_drewN ?_ _) | (with_reducible refine Below.setCell ?_ ?_ _) | (simp only [World.size_alloc, World.size_setCell, World.size_drew, size_drewN]; omega) | omega)))) hgrow (by simp only [World.size_alloc]; omega) (fun g hg => (World.ownsRow.lt HO2.out.out g hg).1)
          have HO9 := Lib.hid (OwnS.snoc (HO2.out.ext (show Ext w2 (w2.alloc (.cells #[.slice A2 (instd h (k : Int)).length c2] 41)) by (repeat' (first | (with_reducible exact Below.refl _ _) | (with_reducible refine Below.mono (by assumption) ?_) | (with_reducible refine Below.trans ?_ (Below.mono (by assumption) ?_)) | (with_reducible refine Below.alloc ?_ ?_ _) | (with_reducible refine Below.drew ?_) | (with_reducible refine below_drewN ?_ _) | (with_reducible refine Below.setCell ?_ ?_ _) | (simp only [World.size_alloc, World.size_setCell, World.size_drew, size_drewN]; omega) | omega)))) (p := ⟨A2, c2, instd h (k : Int)⟩) (HI1.out.ext (by (repeat' (first | (with_reducible exact Below.refl _ _) | (with_reducible refine Below.mono (by assumption) ?_) | (with_reducible refine Below.trans ?_ (Below.mono (by assumption) ?_)) | (with_reducible refine Below.alloc ?_ ?_ _) | (with_reducible refine Below.drew ?_) | (with_reducible refine below_drewN ?_ _) | (with_reducible refine Below.setCell ?_ ?_ _) | (simp only [World.size_alloc, World.size_setCell, World.size_drew, size_drewN]; omega) | omega)))) HDs.out hown' hgrow)
          have HE9 := Lib.hid hE9
          clear hown' hgrow hE9
          go_wp2
          go_roundw
          case measure => simp [intOf]; omega
          case rel => exact ⟨k + 1, _, by omega, by go_num, by rw [List.map_append, HPM.out, firstT_succ]; rfl, HO9.out, HE9.out, fun p hp => by
            rcases List.mem_append.1 hp with hp | hp
            · exact HPb.out p hp
            · obtain rfl := List.mem_singleton.1 hp
              exact HVb.out⟩
      · obtain rfl : k = 3 := by omega
        have HF := Lib.hid (show OwnS wr w.heap.size u3 ps ∧ ps.map PR.xs = [instd h 0, instd h 1, instd h 2] ∧ Ext w wr ∧ ∀ p ∈ ps, HasB p.cell from ⟨HOw.out.below (by have := E1.out.size; omega), HPM.out, E1.out.tr HE.out, HPb.out⟩)
        go_wp2
        go_ret
        exact ⟨_, _, rfl, HF.out.1, HF.out.2.1, HF.out.2.2⟩
end Go.Proofs.YtdgfipoibnjhaaaDoor
