/-
  Contracts of drawn operations.
-/
import Derived.Test.YtmbdacfgmiielaaGreatDoorOrdS
import Derived.Test.YtmbdacfgmiielaaGreatDoorGInts6
import Derived.Test.YtmbdacfgmiielaaGreatDoorGWr8
import Derived.Deep.Draws
import Derived.Shelf.Strconv.Itoa3
import Derived.Test.YtmbdacfgmiielaaGreatDoorDraw
/-
  FirstOrders in rows of the call's own.
-/
namespace Go.Proofs.YtmbdacfgmiielaaGreatDoor
set_option linter.unusedSimpArgs false
set_option linter.unusedVariables false
set_option maxRecDepth 100000
open Go.RowKit

theorem specInstalled_io (h : List TxnT) (S : Nat → Prop) (A : Option Addr) (c : Nat) (k : Nat) (w : World) (hx : Txns S w A h) (hsm : Small h) (hv : histv h = true) (hk : k < 3) :
    Calls Tryz.prog 35 #[.slice A h.length c, .int .i64 (k : Int)] w fun e w' => ∃ v, e = .returned v ∧ Own1 w' w.heap.size 3 v (instd h (k : Int)) ∧ Ext w w' ∧ HasB v := by
  have hkb : inB (k : Int) 0 2 = true := by unfold inB; simp; omega
  have e : instd h (k : Int) = inT h (k : Int) h.length := by unfold instd; rw [if_pos ⟨hv, hkb⟩]
  rw [e]
  exact specInstalled_o h S A c (k : Int) w hx hsm hv hkb
set_option maxHeartbeats 4000000 in
theorem specFirstOrders_o (h : List TxnT) (S : Nat → Prop) (A : Option Addr) (c : Nat) (w : World) (hx : Txns S w A h) (hcap : CapN w A h.length) (hsm : Small h) :
    Calls Tryz.prog 53 #[.slice A h.length c] w fun e w' => ∃ v ps, e = .returned v ∧ OwnS w' w.heap.size v ps ∧ ps.map PR.xs = firstV h ∧ Ext w w' ∧ ∀ p ∈ ps, HasB p.cell := by
  have CV := fun A c w hx => specHistoryValid_c h Any A c w hx hsm
  have CI := Lib.hid (fun A c (k : Nat) w hx hv hk => specInstalled_io h Any A c k w hx hsm hv hk)
  have CO := Lib.hid (fun w hx hcap => l1OwnTxnList_c h S A c w hx hcap hsm)
  unfold firstV
  have HX := Lib.hid hx
  have HCP := Lib.hid hcap
  clear hx hcap
  cases hv : histv h with
  | false =>
    rw [if_neg (by simp)]
    rw [hv] at CV
    have HCV := Lib.hid CV
    clear CV hv
    go_enter Tryz.func53, Tryz.ntmps53
    go_wp2_with (fail)
    go_at_call 84
    refine (CO.out _ (HX.out.ext (by (repeat' (first | (with_reducible exact Below.refl _ _) | (with_reducible refine Below.mono (by assumption) ?_) | (with_reducible refine Below.trans ?_ (Below.mono (by assumption) ?_)) | (with_reducible refine Below.alloc ?_ ?_ _) | (with_reducible refine Below.drew ?_) | (with_reducible refine below_drewN ?_ _) | (with_reducible refine Below.setCell ?_ ?_ _) | (simp only [World.size_alloc, World.size_setCell, World.size_drew, size_drewN]; omega) | omega)))) (HCP.out.ext (by (repeat' (first | (with_reducible exact Below.refl _ _) | (with_reducible refine Below.mono (by assumption) ?_) | (with_reducible refine Below.trans ?_ (Below.mono (by assumption) ?_)) | (with_reducible refine Below.alloc ?_ ?_ _) | (with_reducible refine Below.drew ?_) | (with_reducible refine below_drewN ?_ _) | (with_reducible refine Below.setCell ?_ ?_ _) | (simp only [World.size_alloc, World.size_setCell, World.size_drew, size_drewN]; omega) | omega))))).mono ?_
    rintro e w1 ⟨A1, c1, rfl, hT, _, hb⟩
    obtain ⟨hc, hf, hz, hs⟩ := bcell hb
    (try simp only [World.size_alloc, World.size_setCell, World.size_drew, size_drewN] at hs); (first | have l0 := Nat.lt_of_lt_of_le l0 (show _ ≤ w1.heap.size by omega) | have l0 : w.heap.size < w1.heap.size := (by omega) | skip); (try have l0e := Nat.le_of_lt l0); (try have l0f := Nat.le_add_right_of_le (k := 1) l0e); (try have l1 := Nat.lt_of_lt_of_le l1 (show _ ≤ w1.heap.size by omega)); (try have l1e := Nat.le_of_lt l1); (try have l1f := Nat.le_add_right_of_le (k := 1) l1e); (try have l2 := Nat.lt_of_lt_of_le l2 (show _ ≤ w1.heap.size by omega)); (try have l2e := Nat.le_of_lt l2); (try have l2f := Nat.le_add_right_of_le (k := 1) l2e); (try have l3 := Nat.lt_of_lt_of_le l3 (show _ ≤ w1.heap.size by omega)); (try have l3e := Nat.le_of_lt l3); (try have l3f := Nat.le_add_right_of_le (k := 1) l3e)
    have HT := Lib.hid (show Txns Any w1 A1 h from SlAt.mono hT (fun _ _ _ => trivial) (fun x us hh => mono_txn (fun _ _ _ => trivial) x us hh))
    have e1 : Ext w w1 := by (repeat' (first | (with_reducible exact Below.refl _ _) | (with_reducible refine Below.mono (by assumption) ?_) | (with_reducible refine Below.trans ?_ (Below.mono (by assumption) ?_)) | (with_reducible refine Below.alloc ?_ ?_ _) | (with_reducible refine Below.drew ?_) | (with_reducible refine below_drewN ?_ _) | (with_reducible refine Below.setCell ?_ ?_ _) | (simp only [World.size_alloc, World.size_setCell, World.size_drew, size_drewN]; omega) | omega))
    have E1 := Lib.hid e1
    clear hT hc hf hz hb e1
    go_wp2
    have HO := Lib.hid (OwnS.made w1 (B := w1.heap.size) #[] 0 (Nat.le_refl _) (by omega) rfl)
    go_loopw [3, 4] (fun v i wr => i = .int .i64 0 ∧ OwnS wr w1.heap.size v [] ∧ Ext w1 wr) (fun _ i _ => 0)
    case atStart => exact ⟨rfl, HO.out, by (repeat' (first | (with_reducible exact Below.refl _ _) | (with_reducible refine Below.mono (by assumption) ?_) | (with_reducible refine Below.trans ?_ (Below.mono (by assumption) ?_)) | (with_reducible refine Below.alloc ?_ ?_ _) | (with_reducible refine Below.drew ?_) | (with_reducible refine below_drewN ?_ _) | (with_reducible refine Below.setCell ?_ ?_ _) | (simp only [World.size_alloc, World.size_setCell, World.size_drew, size_drewN]; omega) | omega))⟩
    case round =>
      obtain ⟨rfl, hown, hE⟩ := hrel
      have HOw := Lib.hid hown
      have HE := Lib.hid hE
      clear HO hown hE
      go_wp2_with (fail)
      go_at_call 36
      refine (HCV.out _ _ _ (HT.out.ext HE.out)).mono ?_
      rintro e w2 ⟨rfl, hb⟩
      obtain ⟨hc, hf, hz, hs⟩ := bcell hb
      (try simp only [World.size_alloc, World.size_setCell, World.size_drew, size_drewN] at hs); (first | have l0 := Nat.lt_of_lt_of_le l0 (show _ ≤ w2.heap.size by omega) | have l0 : w.heap.size < w2.heap.size := (by omega) | skip); (try have l0e := Nat.le_of_lt l0); (try have l0f := Nat.le_add_right_of_le (k := 1) l0e); (try have l1 := Nat.lt_of_lt_of_le l1 (show _ ≤ w2.heap.size by omega)); (try have l1e := Nat.le_of_lt l1); (try have l1f := Nat.le_add_right_of_le (k := 1) l1e); (try have l2 := Nat.lt_of_lt_of_le l2 (show _ ≤ w2.heap.size by omega)); (try have l2e := Nat.le_of_lt l2); (try have l2f := Nat.le_add_right_of_le (k := 1) l2e); (try have l3 := Nat.lt_of_lt_of_le l3 (show _ ≤ w2.heap.size by omega)); (try have l3e := Nat.le_of_lt l3); (try have l3f := Nat.le_add_right_of_le (k := 1) l3e)
      have HF := Lib.hid (show OwnS w2 w.heap.size u3 [] ∧ Ext w w2 from ⟨(HOw.out.ext hb).below (by have := E1.out.size; omega), E1.out.tr (HE.out.tr hb)⟩)
      go_wp2
      go_ret
      exact ⟨_, _, rfl, HF.out.1, rfl, HF.out.2, fun p hp => by cases hp⟩
  | true =>
    rw [if_pos rfl]
    have HV := Lib.hid hv
    rw [hv] at CV
    have HCV := Lib.hid CV
    clear CV hv
    go_enter Tryz.func53, Tryz.ntmps53
    go_wp2_with (fail)
    go_at_call 84
    refine (CO.out _ (HX.out.ext (by (repeat' (first | (with_reducible exact Below.refl _ _) | (with_reducible refine Below.mono (by assumption) ?_) | (with_reducible refine Below.trans ?_ (Below.mono (by assumption) ?_)) | (with_reducible refine Below.alloc ?_ ?_ _) | (with_reducible refine Below.drew ?_) | (with_reducible refine below_drewN ?_ _) | (with_reducible refine Below.setCell ?_ ?_ _) | (simp only [World.size_alloc, World.size_setCell, World.size_drew, size_drewN]; omega) | omega)))) (HCP.out.ext (by (repeat' (first | (with_reducible exact Below.refl _ _) | (with_reducible refine Below.mono (by assumption) ?_) | (with_reducible refine Below.trans ?_ (Below.mono (by assumption) ?_)) | (with_reducible refine Below.alloc ?_ ?_ _) | (with_reducible refine Below.drew ?_) | (with_reducible refine below_drewN ?_ _) | (with_reducible refine Below.setCell ?_ ?_ _) | (simp only [World.size_alloc, World.size_setCell, World.size_drew, size_drewN]; omega) | omega))))).mono ?_
    rintro e w1 ⟨A1, c1, rfl, hT, _, hb⟩
    obtain ⟨hc, hf, hz, hs⟩ := bcell hb
    (try simp only [World.size_alloc, World.size_setCell, World.size_drew, size_drewN] at hs); (first | have l0 := Nat.lt_of_lt_of_le l0 (show _ ≤ w1.heap.size by omega) | have l0 : w.heap.size < w1.heap.size := (by omega) | skip); (try have l0e := Nat.le_of_lt l0); (try have l0f := Nat.le_add_right_of_le (k := 1) l0e); (try have l1 := Nat.lt_of_lt_of_le l1 (show _ ≤ w1.heap.size by omega)); (try have l1e := Nat.le_of_lt l1); (try have l1f := Nat.le_add_right_of_le (k := 1) l1e); (try have l2 := Nat.lt_of_lt_of_le l2 (show _ ≤ w1.heap.size by omega)); (try have l2e := Nat.le_of_lt l2); (try have l2f := Nat.le_add_right_of_le (k := 1) l2e); (try have l3 := Nat.lt_of_lt_of_le l3 (show _ ≤ w1.heap.size by omega)); (try have l3e := Nat.le_of_lt l3); (try have l3f := Nat.le_add_right_of_le (k := 1) l3e)
    have HT := Lib.hid (show Txns Any w1 A1 h from SlAt.mono hT (fun _ _ _ => trivial) (fun x us hh => mono_txn (fun _ _ _ => trivial) x us hh))
    have e1 : Ext w w1 := by (repeat' (first | (with_reducible exact Below.refl _ _) | (with_reducible refine Below.mono (by assumption) ?_) | (with_reducible refine Below.trans ?_ (Below.mono (by assumption) ?_)) | (with_reducible refine Below.alloc ?_ ?_ _) | (with_reducible refine Below.drew ?_) | (with_reducible refine below_drewN ?_ _) | (with_reducible refine Below.setCell ?_ ?_ _) | (simp only [World.size_alloc, World.size_setCell, World.size_drew, size_drewN]; omega) | omega))
    have E1 := Lib.hid e1
    clear hT hc hf hz hb e1
    go_wp2
    have HO := Lib.hid (OwnS.made w1 (B := w1.heap.size) #[] 0 (Nat.le_refl _) (by omega) rfl)
    go_loopw [3, 4] (fun v i wr => ∃ (k : Nat) (ps : List PR), k ≤ 3 ∧ i = .int .i64 k ∧ ps.map PR.xs = firstT h k ∧ OwnS wr w1.heap.size v ps ∧ Ext w1 wr ∧ ∀ p ∈ ps, HasB p.cell) (fun _ i _ => 3 - (intOf i).toNat)
    case atStart => exact ⟨0, [], by omega, rfl, rfl, HO.out, by (repeat' (first | (with_reducible exact Below.refl _ _) | (with_reducible refine Below.mono (by assumption) ?_) | (with_reducible refine Below.trans ?_ (Below.mono (by assumption) ?_)) | (with_reducible refine Below.alloc ?_ ?_ _) | (with_reducible refine Below.drew ?_) | (with_reducible refine below_drewN ?_ _) | (with_reducible refine Below.setCell ?_ ?_ _) | (simp only [World.size_alloc, World.size_setCell, World.size_drew, size_drewN]; omega) | omega)), fun p hp => by cases hp⟩
    case round =>
      obtain ⟨k, ps, hk, rfl, hpm, hown, hE, hpb⟩ := hrel
      have HPb := Lib.hid hpb
      clear hpb
      have HPM := Lib.hid hpm
      have HOw := Lib.hid hown
      have HE := Lib.hid hE
      have hpl : ps.length = k := by
        have := congrArg List.length hpm
        simpa [firstT] using this
      have hpl3 : ps.length ≤ 3 := by omega
      have hez := hE.size
      clear HO hpm hown hE hpl
      by_cases hlt : k < 3
      · have hki : (k : Int) ≤ 2 := by omega
        have hki2 : decide ((k : Int) ≤ 2) = true := decide_eq_true (by omega)
        go_wp2_with (fail)
        go_at_call 36
        refine (HCV.out _ _ _ (HT.out.ext HE.out)).mono ?_
        rintro e w3 ⟨rfl, hb⟩
        obtain ⟨hc, hf, hz, hs⟩ := bcell hb
        (try simp only [World.size_alloc, World.size_setCell, World.size_drew, size_drewN] at hs); (first | have l0 := Nat.lt_of_lt_of_le l0 (show _ ≤ w3.heap.size by omega) | have l0 : w.heap.size < w3.heap.size := (by omega) | skip); (try have l0e := Nat.le_of_lt l0); (try have l0f := Nat.le_add_right_of_le (k := 1) l0e); (try have l1 := Nat.lt_of_lt_of_le l1 (show _ ≤ w3.heap.size by omega)); (try have l1e := Nat.le_of_lt l1); (try have l1f := Nat.le_add_right_of_le (k := 1) l1e); (try have l2 := Nat.lt_of_lt_of_le l2 (show _ ≤ w3.heap.size by omega)); (try have l2e := Nat.le_of_lt l2); (try have l2f := Nat.le_add_right_of_le (k := 1) l2e); (try have l3 := Nat.lt_of_lt_of_le l3 (show _ ≤ w3.heap.size by omega)); (try have l3e := Nat.le_of_lt l3); (try have l3f := Nat.le_add_right_of_le (k := 1) l3e)
        have HO1 := Lib.hid (HOw.out.ext hb)
        have HE1 := Lib.hid (HE.out.tr hb)
        have hz3 := hb.size
        clear hc hf hz hb hs
        go_wp2_with (fail)
        go_at_call 35
        refine (CI.out _ _ k _ (HT.out.ext HE1.out) HV.out hlt).mono ?_
        rintro e w2 ⟨v2, rfl, hI, hb, hvb⟩
        obtain ⟨hc, hf, hz, hs⟩ := bcell hb
        (try simp only [World.size_alloc, World.size_setCell, World.size_drew, size_drewN] at hs); (first | have l0 := Nat.lt_of_lt_of_le l0 (show _ ≤ w2.heap.size by omega) | have l0 : w.heap.size < w2.heap.size := (by omega) | skip); (try have l0e := Nat.le_of_lt l0); (try have l0f := Nat.le_add_right_of_le (k := 1) l0e); (try have l1 := Nat.lt_of_lt_of_le l1 (show _ ≤ w2.heap.size by omega)); (try have l1e := Nat.le_of_lt l1); (try have l1f := Nat.le_add_right_of_le (k := 1) l1e); (try have l2 := Nat.lt_of_lt_of_le l2 (show _ ≤ w2.heap.size by omega)); (try have l2e := Nat.le_of_lt l2); (try have l2f := Nat.le_add_right_of_le (k := 1) l2e); (try have l3 := Nat.lt_of_lt_of_le l3 (show _ ≤ w2.heap.size by omega)); (try have l3e := Nat.le_of_lt l3); (try have l3f := Nat.le_add_right_of_le (k := 1) l3e)
        obtain ⟨A2, c2, rfl, _, _⟩ := hI.form
        have HVb := Lib.hid (show HasB (PR.cell ⟨A2, c2, instd h (k : Int)⟩) from hvb)
        clear hvb
        have hdis : ∀ q ∈ ps, ∀ b, (Value.slice A2 (instd h (k : Int)).length c2).ownBlock = some b → q.cell.ownBlock ≠ some b := fun q hq b hb1 hb2 => by
          have h1 := (hI.lt b hb1).1
          have h2 := (((HO1.out.own q hq).lt) b hb2).2
          omega
        have how2 := HO1.out.ext hb
        have hI1 := Own1.below hI (show w1.heap.size ≤ w3.heap.size by have := HE1.out.size; omega)
        have hRI := OwnS.rowIn (p := ⟨A2, c2, instd h (k : Int)⟩) hI1
        have hdA : ∀ a, A2 = some a → some a.block ≠ u3.ownBlock := fun a ha e => by
          subst ha
          have h1 := (hI.lt a.block rfl).1
          have h2 := ((World.ownsRow.lt HO1.out.out) a.block e.symm).2
          omega
        have hdB : ∀ q ∈ ps, ∀ a b, A2 = some a → q.A = some b → b.block ≠ a.block := fun q hq a b ha hb1 e => by
          subst ha
          exact hdis q hq a.block rfl (by unfold PR.cell; rw [hb1]; simp [Value.ownBlock, e])
        have HE2 := Lib.hid (HE1.out.tr hb)
        have HN := Lib.hid (show _ ∧ _ ∧ _ from ⟨hRI, hdA, hdB⟩)
        have HI1 := Lib.hid hI1
        have HDs := Lib.hid hdis
        have HO2 := Lib.hid how2
        have hz2 := hb.size
        clear hI hRI hdA hdB hI1 hdis how2 hc hf hz hb hs
        have hlitc : (w2.alloc (.cells #[.slice A2 (instd h (k : Int)).length c2] 49)).cell? ⟨w2.heap.size, 0, none⟩ = some (PR.cell ⟨A2, c2, instd h (k : Int)⟩) := ((Blk.new w2 49 _).cell 0).trans rfl
        have HLc := Lib.hid hlitc
        clear hlitc
        go_wp2_with (at_builtin; go_loud (refine wpList_appendR _ rfl _ _ 24 rfl Tryz.underlying24 infoRow rfl _ ps rfl (B := w1.heap.size) (HO2.out.toR.ext (by (repeat' (first | (with_reducible exact Below.refl _ _) | (with_reducible refine Below.mono (by assumption) ?_) | (with_reducible refine Below.trans ?_ (Below.mono (by assumption) ?_)) | (with_reducible refine Below.alloc ?_ ?_ _) | (with_reducible refine Below.drew ?_) | (with_reducible refine below_drewN ?_ _) | (with_reducible refine Below.setCell ?_ ?_ _) | (simp only [World.size_alloc, World.size_setCell, World.size_drew, size_drewN]; omega) | omega)))) ⟨A2, c2, instd h (k : Int)⟩ (HN.out.1.ext (by (repeat' (first | (with_reducible exact Below.refl _ _) | (with_reducible refine Below.mono (by assumption) ?_) | (with_reducible refine Below.trans ?_ (Below.mono (by assumption) ?_)) | (with_reducible refine Below.alloc ?_ ?_ _) | (with_reducible refine Below.drew ?_) | (with_reducible refine below_drewN ?_ _) | (with_reducible refine Below.setCell ?_ ?_ _) | (simp only [World.size_alloc, World.size_setCell, World.size_drew, size_drewN]; omega) | omega)))) HN.out.2.1 HN.out.2.2 _ rfl HLc.out (by omega) ?_ ?_))
        · simp only [World.size_alloc]; omega
        · intro v' w' hown' hgrow
          have hE9 : Ext w1 w' := Below.grown (HE2.out.tr (show Ext w2 (w2.alloc (.cells #[.slice A2 (instd h (k : Int)).length c2] 49)) by (repeat' (first | (with_reducible exact Below.refl _ _) | (with_reducible refine Below.mono (by assumption) ?_) | (with_reducible refine Below.trans ?_ (Below.mono (by assumption) ?_)) | (with_reducible refine Below.alloc ?_ ?_ _) | (with_reducible refine Below.drew ?_) | (with_reducible refine below_drewN ?_ _) | (with_reducible refine Below.setCell ?_ ?_ _) | (simp only [World.size_alloc, World.size_setCell, World.size_drew, size_drewN]; omega) | omega)))) hgrow (by simp only [World.size_alloc]; omega) (fun g hg => (World.ownsRow.lt HO2.out.out g hg).1)
          have HO9 := Lib.hid (OwnS.snoc (HO2.out.ext (show Ext w2 (w2.alloc (.cells #[.slice A2 (instd h (k : Int)).length c2] 49)) by (repeat' (first | (with_reducible exact Below.refl _ _) | (with_reducible refine Below.mono (by assumption) ?_) | (with_reducible refine Below.trans ?_ (Below.mono (by assumption) ?_)) | (with_reducible refine Below.alloc ?_ ?_ _) | (with_reducible refine Below.drew ?_) | (with_reducible refine below_drewN ?_ _) | (with_reducible refine Below.setCell ?_ ?_ _) | (simp only [World.size_alloc, World.size_setCell, World.size_drew, size_drewN]; omega) | omega)))) (p := ⟨A2, c2, instd h (k : Int)⟩) (HI1.out.ext (by (repeat' (first | (with_reducible exact Below.refl _ _) | (with_reducible refine Below.mono (by assumption) ?_) | (with_reducible refine Below.trans ?_ (Below.mono (by assumption) ?_)) | (with_reducible refine Below.alloc ?_ ?_ _) | (with_reducible refine Below.drew ?_) | (with_reducible refine below_drewN ?_ _) | (with_reducible refine Below.setCell ?_ ?_ _) | (simp only [World.size_alloc, World.size_setCell, World.size_drew, size_drewN]; omega) | omega)))) HDs.out hown' hgrow)
          have HE9 := Lib.hid hE9
          clear hown' hgrow hE9
          go_wp2
          go_roundw
          case measure => simp [intOf]; omega
          case rel => exact ⟨k + 1, _, by omega, by go_num, by rw [List.map_append, HPM.out, firstT_succ]; rfl, HO9.out, HE9.out, fun p hp => by
            rcases List.mem_append.1 hp with hp | hp
            · exact HPb.out p hp
            · obtain rfl := List.mem_singleton.1 hp
              exact HVb.out⟩
      · obtain rfl : k = 3 := by omega
        have HF := Lib.hid (show OwnS wr w.heap.size u3 ps ∧ ps.map PR.xs = [instd h 0, instd h 1, instd h 2] ∧ Ext w wr ∧ ∀ p ∈ ps, HasB p.cell from ⟨HOw.out.below (by have := E1.out.size; omega), HPM.out, E1.out.tr HE.out, HPb.out⟩)
        go_wp2
        go_ret
        exact ⟨_, _, rfl, HF.out.1, HF.out.2.1, HF.out.2.2⟩
end Go.Proofs.YtmbdacfgmiielaaGreatDoor
/-
  Appends of whole slices of numbers inside regions that draw.
-/
namespace Go.Proofs.YtmbdacfgmiielaaGreatDoor
set_option linter.unusedSimpArgs false
set_option linter.unusedVariables false
set_option maxRecDepth 100000
open Go.RowKit

/-- append of a slice of numbers, inside a region that draws -/
theorem step_app1n {ops : Array Oper} {o : Oper} {a : Act} {w : World} {K : Act → World → Prop} {Q : Exit → Act → World → Prop} {E : Prop} (hg : o.guard = none) (s x : Operand)
    (hop : o.op = Op.call { callee := Callee.builtin Builtin.append, args := #[s, x], argTypes := #[49, 49] }) (base : Nat) (v : Value) (hs : a.eval s = v) (xs : List Int) (hown : Own1 w base 3 v xs) (ad : Addr) (m c : Nat) (ys : List Int) (hx : a.eval x = .slice (some ad) m c) (hm : m = ys.length)
    (hnews : ∀ j y, ys[j]? = some y → w.cell? (ad.add j) = some (.int .i64 y)) (hl : xs.length + ys.length ≤ 1048576) (hbase : base ≤ w.heap.size)
    (hK : ∀ v' w', Own1 w' base 3 v' (xs ++ ys) → w.grownBy w' v.ownBlock → (v'.ownBlock = v.ownBlock ∨ v'.ownBlock = some w.heap.size) → K (a.put o.dst v') w') :
    if Region.wanted o (yielded ops a.tmps) = true then Oper.wp Tryz.prog o a w K Q else E := by
  obtain ⟨i0, hi, hz0, hz1, hz2⟩ := info_parts info1
  subst hm
  have hw : Region.wanted o (yielded ops a.tmps) = true := by simp [Region.wanted, hg]
  rw [if_pos hw]
  obtain ⟨v', w', hr, h2, h3, _, h5⟩ := run_append_own_at (P := Tryz.prog) w base 49 o.type 3 i0 _ 1 8 Tryz.underlying49 hi hz0 hz1 hz2 rfl (by decide) v xs.length (flat1 xs) hown ad ys.length c (flat1 ys) (by simp [flat1]) (fun j u hu => by
    simp only [flat1, List.getElem?_map] at hu
    cases hy : ys[j]? with
    | none => rw [hy] at hu; cases hu
    | some y =>
      rw [hy] at hu
      cases hu
      exact hnews j y hy) (fun u hu => by
    simp only [flat1, List.mem_map] at hu
    obtain ⟨x, _, rfl⟩ := hu
    rfl) (by unfold maxLen; omega) (by omega) hbase
  unfold Oper.wp execOp
  simp only [hop, resolve, invoke, builtin, Sem.run_bind, Sem.run_pure, Result.andThen_ok, List.map_toArray, List.map_cons, List.map_nil, hs, hx, hr]
  refine hK _ _ ?_ h3 h5
  unfold Own1
  rw [show flat1 (xs ++ ys) = flat1 xs ++ flat1 ys by simp [flat1], List.length_append]
  exact h2
theorem ints_add {S : Nat → Prop} {w : World} {b off : Nat} {xs : List Int} (h : Ints S w (some ⟨b, off, none⟩) xs) : ∀ j y, xs[j]? = some y → w.cell? (Addr.add ⟨b, off, none⟩ j) = some (.int .i64 y) := by
  intro j y hy
  obtain ⟨y', b', off', hy', e, _, _, hc⟩ := h.at_ (i := j) (List.getElem?_eq_some_iff.1 hy).1
  rw [hy] at hy'
  cases hy'
  cases e
  rw [← hc]
  unfold Addr.add
  split
  · rename_i h0
    have h0 : j = 0 := by simpa using h0
    subst h0
    rfl
  · rfl
theorem news_ext {w w' : World} (hE : Ext w w') {b off : Nat} (hb : b < w.heap.size) {ys : List Int} (h : ∀ j y, ys[j]? = some y → w.cell? (Addr.add ⟨b, off, none⟩ j) = some (.int .i64 y)) : ∀ j y, ys[j]? = some y → w'.cell? (Addr.add ⟨b, off, none⟩ j) = some (.int .i64 y) := fun j y hj =>
  by
    have h1 := h j y hj
    rw [← h1]
    apply hE.cell
    unfold Addr.add
    split <;> exact hb
end Go.Proofs.YtmbdacfgmiielaaGreatDoor
/-
  Contracts of an operation's text; the operation w0=5.
-/
namespace Go.Proofs.YtmbdacfgmiielaaGreatDoor
set_option linter.unusedSimpArgs false
set_option linter.unusedVariables false
set_option maxRecDepth 100000
open Go.RowKit Go.Shelf

def Tryz.lays171_ren : Go.Shelf.Ren := ⟨fun | 171 => 67 | 243 => 92 | 246 => 119 | 283 => 139 | 284 => 140 | 285 => 141 | 286 => 142 | 129 => 117 | 317 => 148 | 318 => 149 | 319 => 150 | 320 => 151 | 337 => 154 | 338 => 155 | n => n, fun | 3 => 3 | 9 => 9 | 2 => 2 | 4 => 4 | 171 => 148 | 0 => 0 | 53 => 131 | 37 => 22 | 5 => 5 | 173 => 150 | 212 => 159 | 51 => 129 | 20 => 20 | 213 => 160 | 46 => 102 | 232 => 164 | 233 => 165 | n => n, fun | 17 => 0 | 18 => 1 | 19 => 2 | n => n⟩
theorem Tryz.lays171 : Go.Proofs.Lays.n171 Tryz.prog Tryz.lays171_ren := {
  mixed := by kernel_rfl
  f129 := Tryz.func117.trans (congrArg some (by kernel_rfl))
  f171 := Tryz.func67.trans (congrArg some (by kernel_rfl))
  f243 := Tryz.func92.trans (congrArg some (by kernel_rfl))
  f246 := Tryz.func119.trans (congrArg some (by kernel_rfl))
  f283 := Tryz.func139.trans (congrArg some (by kernel_rfl))
  f284 := Tryz.func140.trans (congrArg some (by kernel_rfl))
  f285 := Tryz.func141.trans (congrArg some (by kernel_rfl))
  f286 := Tryz.func142.trans (congrArg some (by kernel_rfl))
  f317 := Tryz.func148.trans (congrArg some (by kernel_rfl))
  f318 := Tryz.func149.trans (congrArg some (by kernel_rfl))
  f319 := Tryz.func150.trans (congrArg some (by kernel_rfl))
  f320 := Tryz.func151.trans (congrArg some (by kernel_rfl))
  f337 := Tryz.func154.trans (congrArg some (by kernel_rfl))
  f338 := Tryz.func155.trans (congrArg some (by kernel_rfl))
  t0 := Tryz.underlying0
  a0 := Tryz.isAgg0
  z0 := Tryz.sizeOf0
  v0 := Tryz.zeroValue0
  t2 := Tryz.underlying2
  a2 := Tryz.isAgg2
  z2 := Tryz.sizeOf2
  v2 := Tryz.zeroValue2
  t3 := Tryz.underlying3
  a3 := Tryz.isAgg3
  z3 := Tryz.sizeOf3
  v3 := Tryz.zeroValue3
  t4 := Tryz.underlying4
  a4 := Tryz.isAgg4
  z4 := Tryz.sizeOf4
  v4 := Tryz.zeroValue4
  t5 := Tryz.underlying5
  a5 := Tryz.isAgg5
  z5 := Tryz.sizeOf5
  v5 := Tryz.zeroValue5
  t9 := Tryz.underlying9
  a9 := Tryz.isAgg9
  z9 := Tryz.sizeOf9
  v9 := Tryz.zeroValue9
  t20 := Tryz.underlying20
  a20 := Tryz.isAgg20
  z20 := Tryz.sizeOf20
  v20 := Tryz.zeroValue20
  t37 := Tryz.underlying22
  a37 := Tryz.isAgg22
  z37 := Tryz.sizeOf22
  v37 := Tryz.zeroValue22
  t46 := Tryz.underlying102
  a46 := Tryz.isAgg102
  z46 := Tryz.sizeOf102
  v46 := Tryz.zeroValue102
  t51 := Tryz.underlying129
  a51 := Tryz.isAgg129
  z51 := Tryz.sizeOf129
  v51 := Tryz.zeroValue129
  t53 := Tryz.underlying131
  a53 := Tryz.isAgg131
  z53 := Tryz.sizeOf131
  v53 := Tryz.zeroValue131
  t171 := Tryz.underlying148
  a171 := Tryz.isAgg148
  z171 := Tryz.sizeOf148
  v171 := Tryz.zeroValue148
  t173 := Tryz.underlying150
  a173 := Tryz.isAgg150
  z173 := Tryz.sizeOf150
  v173 := Tryz.zeroValue150
  t212 := Tryz.underlying159
  a212 := Tryz.isAgg159
  z212 := Tryz.sizeOf159
  v212 := Tryz.zeroValue159
  t213 := Tryz.underlying160
  a213 := Tryz.isAgg160
  z213 := Tryz.sizeOf160
  t232 := Tryz.underlying164
  a232 := Tryz.isAgg164
  z232 := Tryz.sizeOf164
  v232 := Tryz.zeroValue164
  t233 := Tryz.underlying165
  a233 := Tryz.isAgg165
  z233 := Tryz.sizeOf165
  v233 := Tryz.zeroValue165
  g17 := by kernel_rfl
  g18 := by kernel_rfl
  g19 := by kernel_rfl }
theorem itoa_c (i : Nat) (hi : i < 100) (w : World) : Calls Tryz.prog 67 #[.int .i64 i] w fun e w' => e = .returned (.string ⟨(Lib.decDigits i).toArray⟩) ∧ Ext w w' :=
  (Any.strconv_Itoa_small Tryz.lays171 i hi w).mono fun _ _ ⟨h, hw⟩ => ⟨h, by rw [hw]; exact Below.refl _ _⟩
/-- a kind's letter -/
def letr (k : Int) : ByteArray := if k == 2 then ⟨#[119]⟩ else ⟨#[114]⟩
theorem letter_c (k y v : Int) (w : World) : Calls Tryz.prog 66 #[.agg #[.int .i64 k, .int .i64 y, .int .i64 v]] w fun e w' => e = .returned (.string (letr k)) ∧ Ext w w' := by
  by_cases h : k = 2
  · have e : (k == 2) = true := by simpa using h
    go_enter Tryz.func66, Tryz.ntmps66
    go_wp2
    go_ret
    exact ⟨by simp [letr, h], by (repeat' (first | (with_reducible exact Below.refl _ _) | (with_reducible refine Below.mono (by assumption) ?_) | (with_reducible refine Below.trans ?_ (Below.mono (by assumption) ?_)) | (with_reducible refine Below.alloc ?_ ?_ _) | (with_reducible refine Below.drew ?_) | (with_reducible refine below_drewN ?_ _) | (with_reducible refine Below.setCell ?_ ?_ _) | (simp only [World.size_alloc, World.size_setCell, World.size_drew, size_drewN]; omega) | omega))⟩
  · have e : (k == 2) = false := by simpa using h
    go_enter Tryz.func66, Tryz.ntmps66
    go_wp2
    go_ret
    exact ⟨by simp [letr, h], by (repeat' (first | (with_reducible exact Below.refl _ _) | (with_reducible refine Below.mono (by assumption) ?_) | (with_reducible refine Below.trans ?_ (Below.mono (by assumption) ?_)) | (with_reducible refine Below.alloc ?_ ?_ _) | (with_reducible refine Below.drew ?_) | (with_reducible refine below_drewN ?_ _) | (with_reducible refine Below.setCell ?_ ?_ _) | (simp only [World.size_alloc, World.size_setCell, World.size_drew, size_drewN]; omega) | omega))⟩
theorem dec_size {i : Nat} (h : i < 100) : ByteArray.size ⟨(Lib.decDigits i).toArray⟩ ≤ 2 := by
  by_cases h1 : i < 10
  · rw [Lib.decDigits_one h1]
    exact (show 1 ≤ 2 by omega)
  · rw [Lib.decDigits_two h1 h]
    exact Nat.le_refl 2
/-- an operation's text -/
def optx (o : T3) : ByteArray := if opv o then letr o.a ++ ⟨(Lib.decDigits o.b.toNat).toArray⟩ ++ ⟨#[61]⟩ ++ ⟨(Lib.decDigits o.c.toNat).toArray⟩ else ⟨#[]⟩
theorem opText_c (o : T3) (w : World) : Calls Tryz.prog 37 #[.agg #[.int .i64 o.a, .int .i64 o.b, .int .i64 o.c]] w fun e w' => e = .returned (.string (optx o)) ∧ Ext w w' := by
  obtain ⟨k, y, v⟩ := o
  by_cases h : opv ⟨k, y, v⟩ = true
  · have hbd : 0 ≤ y ∧ y < 100 ∧ 0 ≤ v ∧ v < 100 := by
      have h2 := h
      simp only [opv, inB, Bool.and_eq_true, decide_eq_true_eq] at h2
      omega
    obtain ⟨y, rfl⟩ := Int.eq_ofNat_of_zero_le hbd.1
    obtain ⟨v, rfl⟩ := Int.eq_ofNat_of_zero_le hbd.2.2.1
    have C1 : Hid (∀ w, Calls Tryz.prog 66 #[.agg #[.int .i64 k, .int .i64 y, .int .i64 v]] w fun e w' => e = .returned (.string (letr k)) ∧ Ext w w') := Lib.hid (letter_c k y v)
    have C2 : Hid (∀ w, Calls Tryz.prog 67 #[.int .i64 y] w fun e w' => e = .returned (.string ⟨(Lib.decDigits y).toArray⟩) ∧ Ext w w') := Lib.hid (itoa_c y (by omega))
    have C3 : Hid (∀ w, Calls Tryz.prog 67 #[.int .i64 v] w fun e w' => e = .returned (.string ⟨(Lib.decDigits v).toArray⟩) ∧ Ext w w') := Lib.hid (itoa_c v (by omega))
    have g1 : (letr k).size ≤ 1 := by unfold letr; split <;> exact Nat.le_refl 1
    have g2 : ByteArray.size ⟨(Lib.decDigits y).toArray⟩ ≤ 2 := dec_size (by omega)
    have g3 : ByteArray.size ⟨(Lib.decDigits v).toArray⟩ ≤ 2 := dec_size (by omega)
    have hopt : optx ⟨k, y, v⟩ = letr k ++ ⟨(Lib.decDigits y).toArray⟩ ++ ⟨#[61]⟩ ++ ⟨(Lib.decDigits v).toArray⟩ := by simp only [optx, h, if_true]; rfl
    have HO := Lib.hid hopt
    clear hopt
    generalize letr k = L at C1 g1 HO
    generalize (⟨(Lib.decDigits y).toArray⟩ : ByteArray) = D1 at C2 g2 HO
    generalize (⟨(Lib.decDigits v).toArray⟩ : ByteArray) = D2 at C3 g3 HO
    have e1 : (9223372036854775807 < L.size + D1.size) = False := eq_false (by omega)
    have i1 : (L.size + D1.size > 9223372036854775807) = False := eq_false (by omega)
    have e2 : (9223372036854775807 < L.size + D1.size + 1) = False := eq_false (by omega)
    have i2 : (L.size + D1.size + 1 > 9223372036854775807) = False := eq_false (by omega)
    have e3 : (9223372036854775807 < L.size + D1.size + 1 + D2.size) = False := eq_false (by omega)
    have i3 : (L.size + D1.size + 1 + D2.size > 9223372036854775807) = False := eq_false (by omega)
    go_enter Tryz.func37, Tryz.ntmps37
    go_wp2_with (first | (go_at_call 65; refine (implOpValid_c k y v _).mono ?_; rintro e wi ⟨rfl, hb⟩; obtain ⟨hc, hf, hz, hs⟩ := bcell hb; (try simp only [World.size_alloc, World.size_setCell, World.size_drew, size_drewN] at hs); (first | have l0 := Nat.lt_of_lt_of_le l0 (show _ ≤ wi.heap.size by omega) | have l0 : w.heap.size < wi.heap.size := (by omega) | skip); (try have l0e := Nat.le_of_lt l0); (try have l0f := Nat.le_add_right_of_le (k := 1) l0e); (try have l1 := Nat.lt_of_lt_of_le l1 (show _ ≤ wi.heap.size by omega)); (try have l1e := Nat.le_of_lt l1); (try have l1f := Nat.le_add_right_of_le (k := 1) l1e); (try have l2 := Nat.lt_of_lt_of_le l2 (show _ ≤ wi.heap.size by omega)); (try have l2e := Nat.le_of_lt l2); (try have l2f := Nat.le_add_right_of_le (k := 1) l2e); (try have l3 := Nat.lt_of_lt_of_le l3 (show _ ≤ wi.heap.size by omega)); (try have l3e := Nat.le_of_lt l3); (try have l3f := Nat.le_add_right_of_le (k := 1) l3e)))
    obtain ⟨q0, q1, q2⟩ := box3 (show Ext (w.alloc (.cells #[.int .i64 k, .int .i64 y, .int .i64 v] 54)) wi by (repeat' (first | (with_reducible exact Below.refl _ _) | (with_reducible refine Below.mono (by assumption) ?_) | (with_reducible refine Below.trans ?_ (Below.mono (by assumption) ?_)) | (with_reducible refine Below.alloc ?_ ?_ _) | (with_reducible refine Below.drew ?_) | (with_reducible refine below_drewN ?_ _) | (with_reducible refine Below.setCell ?_ ?_ _) | (simp only [World.size_alloc, World.size_setCell, World.size_drew, size_drewN]; omega) | omega)))
    have l0d : w.heap.size < wi.heap.size := l0
    have hy := hbd.2.1
    have hv := hbd.2.2.2
    refine wp_region_held_drew (S := fun W => W.cell? ⟨w.heap.size, 0, none⟩ = some (.int .i64 k) ∧ W.cell? ⟨w.heap.size, 1, none⟩ = some (.int .i64 y) ∧ W.cell? ⟨w.heap.size, 2, none⟩ = some (.int .i64 v)) (by kernel_rfl) ⟨q0, q1, q2⟩ (fun hHeld => ?_)
    refine wpAnyH_take (i := 0) (oi := ?_) (v := ?_) ?_ ?_ ?_ ?_ ?_ ?_ hHeld ?_
    rotate_left 2
    · (simp only [List.getElem?_toArray, List.getElem?_cons_succ, List.getElem?_cons_zero]; rfl)
    · kernel_rfl
    · kernel_rfl
    · kernel_rfl
    · exact fun _ _ _ h => h
    · refine Or.inl ⟨by rfl, ?_⟩
      (intro w hSw; (try dsimp only at hSw); go_simp; try (with_reducible rfl))
    try simp only [Act.put, List.setIfInBounds_toArray, List.set_cons_zero, List.set_cons_succ]
    refine wpAnyH_take (i := 2) (oi := ?_) (v := ?_) ?_ ?_ ?_ ?_ ?_ ?_ hHeld ?_
    rotate_left 2
    · (simp only [List.getElem?_toArray, List.getElem?_cons_succ, List.getElem?_cons_zero]; rfl)
    · kernel_rfl
    · kernel_rfl
    · kernel_rfl
    · exact fun _ _ _ h => h
    · refine Or.inl ⟨by rfl, ?_⟩
      (intro w hSw; (try dsimp only at hSw); go_simp; try (with_reducible rfl))
    try simp only [Act.put, List.setIfInBounds_toArray, List.set_cons_zero, List.set_cons_succ]
    refine wpAnyH_take (i := 3) (oi := ?_) (v := ?_) ?_ ?_ ?_ ?_ ?_ ?_ hHeld ?_
    rotate_left 2
    · (simp only [List.getElem?_toArray, List.getElem?_cons_succ, List.getElem?_cons_zero]; rfl)
    · kernel_rfl
    · kernel_rfl
    · kernel_rfl
    · exact fun _ _ _ h => h
    · refine Or.inl ⟨by rfl, ?_⟩
      (intro w hSw; (try dsimp only at hSw); go_simp; try (with_reducible rfl))
    try simp only [Act.put, List.setIfInBounds_toArray, List.set_cons_zero, List.set_cons_succ]
    refine wpAnyH_take (i := 7) (oi := ?_) (v := ?_) ?_ ?_ ?_ ?_ ?_ ?_ hHeld ?_
    rotate_left 2
    · (simp only [List.getElem?_toArray, List.getElem?_cons_succ, List.getElem?_cons_zero]; rfl)
    · kernel_rfl
    · kernel_rfl
    · kernel_rfl
    · exact fun _ _ _ h => h
    · refine Or.inl ⟨by rfl, ?_⟩
      (intro w hSw; (try dsimp only at hSw); go_simp; try (with_reducible rfl))
    try simp only [Act.put, List.setIfInBounds_toArray, List.set_cons_zero, List.set_cons_succ]
    refine wpAnyH_take (i := 8) (oi := ?_) (v := ?_) ?_ ?_ ?_ ?_ ?_ ?_ hHeld ?_
    rotate_left 2
    · (simp only [List.getElem?_toArray, List.getElem?_cons_succ, List.getElem?_cons_zero]; rfl)
    · kernel_rfl
    · kernel_rfl
    · kernel_rfl
    · exact fun _ _ _ h => h
    · refine Or.inl ⟨by rfl, ?_⟩
      (intro w hSw; (try dsimp only at hSw); go_simp; try (with_reducible rfl))
    try simp only [Act.put, List.setIfInBounds_toArray, List.set_cons_zero, List.set_cons_succ]
    refine wpAnyH_ready (rs := [1]) (by kernel_rfl) (by simp) ?_
    refine AllReadyH.cons rfl (fun K hK => ?_) AllReadyH.nil
    go_simp
    go_at_call 66
    refine (C1.out _).mono ?_
    rintro e w4 ⟨rfl, hb4⟩
    have k4 : Ext wi w4 := by (repeat' (first | (with_reducible exact Below.refl _ _) | (with_reducible refine Below.mono (by assumption) ?_) | (with_reducible refine Below.trans ?_ (Below.mono (by assumption) ?_)) | (with_reducible refine Below.alloc ?_ ?_ _) | (with_reducible refine Below.drew ?_) | (with_reducible refine below_drewN ?_ _) | (with_reducible refine Below.setCell ?_ ?_ _) | (simp only [World.size_alloc, World.size_setCell, World.size_drew, size_drewN]; omega) | omega))
    go_wp2_with (fail)
    clear hHeld
    refine hK.out _ _ ⟨k4.keep l0d q0, k4.keep l0d q1, k4.keep l0d q2⟩ (fun hHeld => ?_)
    clear hK K
    try simp only [Act.put, List.setIfInBounds_toArray, List.set_cons_zero, List.set_cons_succ]
    refine wpAnyH_ready (rs := [4]) (by kernel_rfl) (by simp) ?_
    refine AllReadyH.cons rfl (fun K hK => ?_) AllReadyH.nil
    go_simp
    go_at_call 67
    refine (C2.out _).mono ?_
    rintro e w5 ⟨rfl, hb5⟩
    have k5 : Ext wi w5 := k4.tr hb5
    go_wp2_with (fail)
    clear hHeld
    refine hK.out _ _ ⟨k5.keep l0d q0, k5.keep l0d q1, k5.keep l0d q2⟩ (fun hHeld => ?_)
    clear hK K
    try simp only [Act.put, List.setIfInBounds_toArray, List.set_cons_zero, List.set_cons_succ]
    refine wpAnyH_take (i := 5) (oi := ?_) (v := ?_) ?_ ?_ ?_ ?_ ?_ ?_ hHeld ?_
    rotate_left 2
    · (simp only [List.getElem?_toArray, List.getElem?_cons_succ, List.getElem?_cons_zero]; rfl)
    · kernel_rfl
    · kernel_rfl
    · kernel_rfl
    · exact fun _ _ _ h => h
    · refine Or.inl ⟨by rfl, ?_⟩
      (intro w hSw; (try dsimp only at hSw); go_simp; try (with_reducible rfl))
    try simp only [Act.put, List.setIfInBounds_toArray, List.set_cons_zero, List.set_cons_succ]
    refine wpAnyH_take (i := 6) (oi := ?_) (v := ?_) ?_ ?_ ?_ ?_ ?_ ?_ hHeld ?_
    rotate_left 2
    · (simp only [List.getElem?_toArray, List.getElem?_cons_succ, List.getElem?_cons_zero]; rfl)
    · kernel_rfl
    · kernel_rfl
    · kernel_rfl
    · exact fun _ _ _ h => h
    · refine Or.inl ⟨by rfl, ?_⟩
      (intro w hSw; (try dsimp only at hSw); go_simp; try (with_reducible rfl))
    try simp only [Act.put, List.setIfInBounds_toArray, List.set_cons_zero, List.set_cons_succ]
    refine wpAnyH_ready (rs := [9]) (by kernel_rfl) (by simp) ?_
    refine AllReadyH.cons rfl (fun K hK => ?_) AllReadyH.nil
    go_simp
    go_at_call 67
    refine (C3.out _).mono ?_
    rintro e w6 ⟨rfl, hb6⟩
    have k6 : Ext wi w6 := k5.tr hb6
    go_wp2_with (fail)
    clear hHeld
    refine hK.out _ _ ⟨k6.keep l0d q0, k6.keep l0d q1, k6.keep l0d q2⟩ (fun hHeld => ?_)
    clear hK K
    try simp only [Act.put, List.setIfInBounds_toArray, List.set_cons_zero, List.set_cons_succ]
    refine wpAnyH_take (i := 10) (oi := ?_) (v := ?_) ?_ ?_ ?_ ?_ ?_ ?_ hHeld ?_
    rotate_left 2
    · (simp only [List.getElem?_toArray, List.getElem?_cons_succ, List.getElem?_cons_zero]; rfl)
    · kernel_rfl
    · kernel_rfl
    · kernel_rfl
    · exact fun _ _ _ h => h
    · refine Or.inl ⟨by rfl, ?_⟩
      (intro w hSw; (try dsimp only at hSw); go_simp; try (with_reducible rfl))
    try simp only [Act.put, List.setIfInBounds_toArray, List.set_cons_zero, List.set_cons_succ]
    refine wpAnyH_take (i := 11) (oi := ?_) (v := ?_) ?_ ?_ ?_ ?_ ?_ ?_ hHeld ?_
    rotate_left 2
    · (simp only [List.getElem?_toArray, List.getElem?_cons_succ, List.getElem?_cons_zero]; rfl)
    · kernel_rfl
    · kernel_rfl
    · kernel_rfl
    · exact fun _ _ _ h => h
    · refine Or.inl ⟨by rfl, ?_⟩
      (intro w hSw; (try dsimp only at hSw); go_simp; try (with_reducible rfl))
    try simp only [Act.put, List.setIfInBounds_toArray, List.set_cons_zero, List.set_cons_succ]
    refine wpAnyH_done (by kernel_rfl) ?_ _
    go_wp2
    go_ret
    exact ⟨by rw [HO.out]; rfl, (show Ext w wi by (repeat' (first | (with_reducible exact Below.refl _ _) | (with_reducible refine Below.mono (by assumption) ?_) | (with_reducible refine Below.trans ?_ (Below.mono (by assumption) ?_)) | (with_reducible refine Below.alloc ?_ ?_ _) | (with_reducible refine Below.drew ?_) | (with_reducible refine below_drewN ?_ _) | (with_reducible refine Below.setCell ?_ ?_ _) | (simp only [World.size_alloc, World.size_setCell, World.size_drew, size_drewN]; omega) | omega))).tr k6⟩
  · have hopt : optx ⟨k, y, v⟩ = ⟨#[]⟩ := by simp only [optx, h]; rfl
    have HO := Lib.hid hopt
    clear hopt
    go_enter Tryz.func37, Tryz.ntmps37
    go_wp2_with (first | (go_at_call 65; refine (implOpValid_c k y v _).mono ?_; rintro e w1 ⟨rfl, hb⟩; obtain ⟨hc, hf, hz, hs⟩ := bcell hb; (try simp only [World.size_alloc, World.size_setCell, World.size_drew, size_drewN] at hs); (first | have l0 := Nat.lt_of_lt_of_le l0 (show _ ≤ w1.heap.size by omega) | have l0 : w.heap.size < w1.heap.size := (by omega) | skip); (try have l0e := Nat.le_of_lt l0); (try have l0f := Nat.le_add_right_of_le (k := 1) l0e); (try have l1 := Nat.lt_of_lt_of_le l1 (show _ ≤ w1.heap.size by omega)); (try have l1e := Nat.le_of_lt l1); (try have l1f := Nat.le_add_right_of_le (k := 1) l1e); (try have l2 := Nat.lt_of_lt_of_le l2 (show _ ≤ w1.heap.size by omega)); (try have l2e := Nat.le_of_lt l2); (try have l2f := Nat.le_add_right_of_le (k := 1) l2e); (try have l3 := Nat.lt_of_lt_of_le l3 (show _ ≤ w1.heap.size by omega)); (try have l3e := Nat.le_of_lt l3); (try have l3f := Nat.le_add_right_of_le (k := 1) l3e)))
    go_ret
    exact ⟨by rw [HO.out]; rfl, by (repeat' (first | (with_reducible exact Below.refl _ _) | (with_reducible refine Below.mono (by assumption) ?_) | (with_reducible refine Below.trans ?_ (Below.mono (by assumption) ?_)) | (with_reducible refine Below.alloc ?_ ?_ _) | (with_reducible refine Below.drew ?_) | (with_reducible refine below_drewN ?_ _) | (with_reducible refine Below.setCell ?_ ?_ _) | (simp only [World.size_alloc, World.size_setCell, World.size_drew, size_drewN]; omega) | omega))⟩
theorem alive_c (w : World) : Calls Tryz.prog 11 #[] w fun e w' => e = .returned (.bool true) ∧ Ext w w' := by
  have ho : optx ⟨2, 0, 5⟩ = ⟨#[119, 48, 61, 53]⟩ := by
    have d0 : Lib.decDigits 0 = [48] := Lib.decDigits_one (by omega)
    have d5 : Lib.decDigits 5 = [53] := Lib.decDigits_one (by omega)
    have hv : opv ⟨2, 0, 5⟩ = true := by decide
    simp only [optx, hv, if_true]
    rw [show (0 : Int).toNat = 0 from rfl, show (5 : Int).toNat = 5 from rfl, d0, d5]
    decide
  have C : Hid (∀ w, Calls Tryz.prog 37 #[.agg #[.int .i64 2, .int .i64 0, .int .i64 5]] w fun e w' => e = .returned (.string ⟨#[119, 48, 61, 53]⟩) ∧ Ext w w') := Lib.hid (fun w => by
    have := opText_c ⟨2, 0, 5⟩ w
    rw [ho] at this
    exact this)
  go_enter Tryz.func11, Tryz.ntmps11
  go_wp2_with (fail)
  go_at_call 37
  refine (C.out _).mono ?_
  rintro e w1 ⟨rfl, hb⟩
  obtain ⟨hc, hf, hz, hs⟩ := bcell hb
  (try simp only [World.size_alloc, World.size_setCell, World.size_drew, size_drewN] at hs); (first | have l0 := Nat.lt_of_lt_of_le l0 (show _ ≤ w1.heap.size by omega) | have l0 : w.heap.size < w1.heap.size := (by omega) | skip); (try have l0e := Nat.le_of_lt l0); (try have l0f := Nat.le_add_right_of_le (k := 1) l0e); (try have l1 := Nat.lt_of_lt_of_le l1 (show _ ≤ w1.heap.size by omega)); (try have l1e := Nat.le_of_lt l1); (try have l1f := Nat.le_add_right_of_le (k := 1) l1e); (try have l2 := Nat.lt_of_lt_of_le l2 (show _ ≤ w1.heap.size by omega)); (try have l2e := Nat.le_of_lt l2); (try have l2f := Nat.le_add_right_of_le (k := 1) l2e); (try have l3 := Nat.lt_of_lt_of_le l3 (show _ ≤ w1.heap.size by omega)); (try have l3e := Nat.le_of_lt l3); (try have l3f := Nat.le_add_right_of_le (k := 1) l3e)
  go_wp2
  go_ret
  exact ⟨rfl, by (repeat' (first | (with_reducible exact Below.refl _ _) | (with_reducible refine Below.mono (by assumption) ?_) | (with_reducible refine Below.trans ?_ (Below.mono (by assumption) ?_)) | (with_reducible refine Below.alloc ?_ ?_ _) | (with_reducible refine Below.drew ?_) | (with_reducible refine below_drewN ?_ _) | (with_reducible refine Below.setCell ?_ ?_ _) | (simp only [World.size_alloc, World.size_setCell, World.size_drew, size_drewN]; omega) | omega))⟩
end Go.Proofs.YtmbdacfgmiielaaGreatDoor
namespace Go.Proofs.YtmbdacfgmiielaaGreatDoor
set_option linter.unusedSimpArgs false
set_option linter.unusedVariables false
set_option maxRecDepth 100000
open Go.RowKit

theorem grown_new {w w1 w2 : World} {r : Nat} (hE : Ext w w1) (hr : w.heap.size ≤ r) (h : w1.grownBy w2 (some r)) : Ext w w2 :=
  ⟨h.os.trans hE.os, h.tape.trans hE.tape, h.output.trans hE.output, Nat.le_trans hE.size h.size, fun k hk => (h.block k (Nat.lt_of_lt_of_le hk hE.size) (fun e => by have := Option.some.inj e; omega)).trans (hE.block k hk)⟩
end Go.Proofs.YtmbdacfgmiielaaGreatDoor
