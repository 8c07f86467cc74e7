/-
  FnReadsRight: a drawn history: the program's answer is the reference's; where reads are right there are no bad ones; a valid history's last writes alone read right.
-/
import Derived.Test.YtciadlhencgjmaaDoorDrawHd
import Derived.Test.YtciadlhencgjmaaDoorLaid
import Derived.Test.YtciadlhencgjmaaDoorRR
import Derived.Test.YtciadlhencgjmaaDoorRRS
import Derived.Test.YtciadlhencgjmaaDoorRRdW
import Derived.Test.YtciadlhencgjmaaDoorLwO
import Derived.Deep.CutRange
import Derived.Deep.CutBlock
import Derived.Deep.RegionHeld3
namespace Go.Proofs.YtciadlhencgjmaaDoor
set_option linter.unusedSimpArgs false
set_option linter.unusedVariables false
set_option maxRecDepth 100000
open Go.ChangeShapes Go.WideShapes Go.ChangeAt Go.RowKit Go.Joins

theorem txns_anyR {B : Nat} {w : World} {A : Option Addr} {h : List TxnT} (hx : Txns (fun b => B ≤ b) w A h) : Txns Any w A h := SlAt.mono hx (fun _ _ _ => trivial) (mono_txn (fun _ _ _ => trivial))
theorem lwH_take {H : List TxnT} {k : Nat} {t : TxnT} (h : H[k]? = some t) : lwH (H.take (k + 1)) = lwH (H.take k) ++ [lwT t] := by
  unfold lwH
  rw [List.take_add_one, h]
  simp
set_option maxHeartbeats 4000000 in
theorem FnReadsRight_c (xs : List Int) (A : Option Addr) (c : Nat) (w : World) (hx : Byts Any w A xs) (wf : Law.wfL Law.wfU8 xs) (hc : xs.length ≤ c) :
    Calls Tryd.prog 7 #[.slice A xs.length c] w fun e w' => e = .returned (.bool true) ∧ Ext w w' := by
  by_cases hl : 1048576 < xs.length
  · go_enter Tryd.func7, Tryd.ntmps7
    go_wp2
    go_ret
    exact ⟨rfl, by (repeat' (first | (with_reducible exact Below.refl _ _) | (with_reducible refine Below.mono (by assumption) ?_) | (with_reducible refine Below.trans ?_ (Below.mono (by assumption) ?_)) | (with_reducible refine Below.alloc ?_ ?_ _) | (with_reducible refine Below.drew ?_) | (with_reducible refine below_drewN ?_ _) | (with_reducible refine Below.setCell ?_ ?_ _) | (simp only [World.size_alloc, World.size_setCell, World.size_drew, size_drewN]; omega) | omega))⟩
  have HW : Hid (∀ x ∈ xs, 0 ≤ x ∧ x ≤ 255) := Lib.hid wf.2
  go_enter Tryd.func7, Tryd.ntmps7
  go_wp2_with (fail)
  go_at_call 26
  refine (DrawReadsRight_c xs A c _ (hx.ext (by (repeat' (first | (with_reducible exact Below.refl _ _) | (with_reducible refine Below.mono (by assumption) ?_) | (with_reducible refine Below.trans ?_ (Below.mono (by assumption) ?_)) | (with_reducible refine Below.alloc ?_ ?_ _) | (with_reducible refine Below.drew ?_) | (with_reducible refine below_drewN ?_ _) | (with_reducible refine Below.setCell ?_ ?_ _) | (simp only [World.size_alloc, World.size_setCell, World.size_drew, size_drewN]; omega) | omega)))) HW.out hc).mono ?_
  rintro e w1 ⟨ps, lim, vo, rfl, hT, hl8, hps, hb⟩
  obtain ⟨hc, hf, hz, hs⟩ := bcell hb
  (try simp only [World.size_alloc, World.size_setCell, World.size_drew, size_drewN] at hs); (first | have l0 := Nat.lt_of_lt_of_le l0 (show _ ≤ w1.heap.size by omega) | have l0 : w.heap.size < w1.heap.size := (by omega) | skip); (try have l0e := Nat.le_of_lt l0); (try have l0f := Nat.le_add_right_of_le (k := 1) l0e); (try have l1 := Nat.lt_of_lt_of_le l1 (show _ ≤ w1.heap.size by omega)); (try have l1e := Nat.le_of_lt l1); (try have l1f := Nat.le_add_right_of_le (k := 1) l1e); (try have l2 := Nat.lt_of_lt_of_le l2 (show _ ≤ w1.heap.size by omega)); (try have l2e := Nat.le_of_lt l2); (try have l2f := Nat.le_add_right_of_le (k := 1) l2e); (try have l3 := Nat.lt_of_lt_of_le l3 (show _ ≤ w1.heap.size by omega)); (try have l3e := Nat.le_of_lt l3); (try have l3f := Nat.le_add_right_of_le (k := 1) l3e)
  have hcap0 := hT
  obtain ⟨A2, c2, rfl, hc2, hx2⟩ := hT.read
  have hcap := hcap0.caps
  rw [show ps.length = (ps.map PT.txn).length by simp] at hcap
  have hsm := small_map hl8 hps
  have e1 : Ext w w1 := by (repeat' (first | (with_reducible exact Below.refl _ _) | (with_reducible refine Below.mono (by assumption) ?_) | (with_reducible refine Below.trans ?_ (Below.mono (by assumption) ?_)) | (with_reducible refine Below.alloc ?_ ?_ _) | (with_reducible refine Below.drew ?_) | (with_reducible refine below_drewN ?_ _) | (with_reducible refine Below.setCell ?_ ?_ _) | (simp only [World.size_alloc, World.size_setCell, World.size_drew, size_drewN]; omega) | omega))
  have HX := Lib.hid (txns_anyR hx2)
  have HC := Lib.hid hcap
  clear hT hcap0 hx2 hps hcap hc hf hz hb hx
  generalize ps.map PT.txn = H at HX HC hsm hc2 ⊢
  have hsl := hsm.small
  have hl8' := hsm.1
  have CI : Hid (∀ W, Txns Any W A2 H → Caps W A2 H.length → Calls Tryd.prog 27 #[.slice A2 H.length c2] W fun e w' => e = .returned (.bool (rrI H)) ∧ Ext W w') := Lib.hid (fun W h1 h2 => implReadsRight_c H Any A2 c2 W h1 hsl h2)
  have CS : Hid (∀ W, Txns Any W A2 H → Calls Tryd.prog 28 #[.slice A2 H.length c2] W fun e w' => e = .returned (.bool (rrI H)) ∧ Ext W w') := Lib.hid (fun W h1 => specReadsRight_c H Any A2 c2 W h1 hsl)
  have CH : Hid (∀ W, Txns Any W A2 H → Calls Tryd.prog 30 #[.slice A2 H.length c2] W fun e w' => e = .returned (.bool (histv H)) ∧ Ext W w') := Lib.hid (fun W h1 => implHistoryValid_c H Any A2 c2 W h1 hsl)
  have CB : Hid (∀ q W, Txns Any W A2 H → Calls Tryd.prog 22 #[.slice A2 H.length c2, .int .i64 q] W (FreshP (bads H q) W)) := Lib.hid (fun q W h1 => implBadReads_c H Any A2 c2 q W h1 hsl)
  have hrb : rrI H = true → ∀ q : Nat, 1 ≤ q → q ≤ 4 → bads H q = [] := fun hr q h1 h4 => by
    cases hq : bads H q with
    | nil => rfl
    | cons a l =>
      exfalso
      have := rrI_bad (noBad_not (h := H) (q := q) (by omega) (by omega) (by rw [hq]; simp))
      rw [hr] at this
      cases this
  have hrv : histv H = false → rrI H = false := fun hv => by unfold rrI; rw [hv]; rfl
  have hlw : histv H = true → rrI (lwH H) = true := rrI_lw
  generalize hRR : rrI H = RR at CI CS hrb hrv
  have HRB := Lib.hid hrb
  generalize hHV : histv H = HV at CH hrv hlw
  have HRV := Lib.hid hrv
  have HLW := Lib.hid hlw
  clear hrb hrv hlw hRR hHV
  go_wp2_with (fail)
  go_at_call 27
  refine (CI.out _ (HX.out.ext (by (repeat' (first | (with_reducible exact Below.refl _ _) | (with_reducible refine Below.mono (by assumption) ?_) | (with_reducible refine Below.trans ?_ (Below.mono (by assumption) ?_)) | (with_reducible refine Below.alloc ?_ ?_ _) | (with_reducible refine Below.drew ?_) | (with_reducible refine below_drewN ?_ _) | (with_reducible refine Below.setCell ?_ ?_ _) | (simp only [World.size_alloc, World.size_setCell, World.size_drew, size_drewN]; omega) | omega)))) (HC.out.ext (by (repeat' (first | (with_reducible exact Below.refl _ _) | (with_reducible refine Below.mono (by assumption) ?_) | (with_reducible refine Below.trans ?_ (Below.mono (by assumption) ?_)) | (with_reducible refine Below.alloc ?_ ?_ _) | (with_reducible refine Below.drew ?_) | (with_reducible refine below_drewN ?_ _) | (with_reducible refine Below.setCell ?_ ?_ _) | (simp only [World.size_alloc, World.size_setCell, World.size_drew, size_drewN]; omega) | omega))))).mono ?_
  rintro e w2 ⟨rfl, hb⟩
  obtain ⟨hc, hf, hz, hs⟩ := bcell hb
  (try simp only [World.size_alloc, World.size_setCell, World.size_drew, size_drewN] at hs); (first | have l0 := Nat.lt_of_lt_of_le l0 (show _ ≤ w2.heap.size by omega) | have l0 : w.heap.size < w2.heap.size := (by omega) | skip); (try have l0e := Nat.le_of_lt l0); (try have l0f := Nat.le_add_right_of_le (k := 1) l0e); (try have l1 := Nat.lt_of_lt_of_le l1 (show _ ≤ w2.heap.size by omega)); (try have l1e := Nat.le_of_lt l1); (try have l1f := Nat.le_add_right_of_le (k := 1) l1e); (try have l2 := Nat.lt_of_lt_of_le l2 (show _ ≤ w2.heap.size by omega)); (try have l2e := Nat.le_of_lt l2); (try have l2f := Nat.le_add_right_of_le (k := 1) l2e); (try have l3 := Nat.lt_of_lt_of_le l3 (show _ ≤ w2.heap.size by omega)); (try have l3e := Nat.le_of_lt l3); (try have l3f := Nat.le_add_right_of_le (k := 1) l3e)
  have d2 : Ext w1 w2 := by (repeat' (first | (with_reducible exact Below.refl _ _) | (with_reducible refine Below.mono (by assumption) ?_) | (with_reducible refine Below.trans ?_ (Below.mono (by assumption) ?_)) | (with_reducible refine Below.alloc ?_ ?_ _) | (with_reducible refine Below.drew ?_) | (with_reducible refine below_drewN ?_ _) | (with_reducible refine Below.setCell ?_ ?_ _) | (simp only [World.size_alloc, World.size_setCell, World.size_drew, size_drewN]; omega) | omega))
  clear hc hf hz hb
  go_wp2_with (fail)
  go_at_call 28
  refine (CS.out _ (HX.out.ext (d2.tr (by (repeat' (first | (with_reducible exact Below.refl _ _) | (with_reducible refine Below.mono (by assumption) ?_) | (with_reducible refine Below.trans ?_ (Below.mono (by assumption) ?_)) | (with_reducible refine Below.alloc ?_ ?_ _) | (with_reducible refine Below.drew ?_) | (with_reducible refine below_drewN ?_ _) | (with_reducible refine Below.setCell ?_ ?_ _) | (simp only [World.size_alloc, World.size_setCell, World.size_drew, size_drewN]; omega) | omega)))))).mono ?_
  rintro e w3 ⟨rfl, hb⟩
  obtain ⟨hc, hf, hz, hs⟩ := bcell hb
  (try simp only [World.size_alloc, World.size_setCell, World.size_drew, size_drewN] at hs); (first | have l0 := Nat.lt_of_lt_of_le l0 (show _ ≤ w3.heap.size by omega) | have l0 : w.heap.size < w3.heap.size := (by omega) | skip); (try have l0e := Nat.le_of_lt l0); (try have l0f := Nat.le_add_right_of_le (k := 1) l0e); (try have l1 := Nat.lt_of_lt_of_le l1 (show _ ≤ w3.heap.size by omega)); (try have l1e := Nat.le_of_lt l1); (try have l1f := Nat.le_add_right_of_le (k := 1) l1e); (try have l2 := Nat.lt_of_lt_of_le l2 (show _ ≤ w3.heap.size by omega)); (try have l2e := Nat.le_of_lt l2); (try have l2f := Nat.le_add_right_of_le (k := 1) l2e); (try have l3 := Nat.lt_of_lt_of_le l3 (show _ ≤ w3.heap.size by omega)); (try have l3e := Nat.le_of_lt l3); (try have l3f := Nat.le_add_right_of_le (k := 1) l3e)
  have d3 := d2.tr (show Ext w2 w3 by (repeat' (first | (with_reducible exact Below.refl _ _) | (with_reducible refine Below.mono (by assumption) ?_) | (with_reducible refine Below.trans ?_ (Below.mono (by assumption) ?_)) | (with_reducible refine Below.alloc ?_ ?_ _) | (with_reducible refine Below.drew ?_) | (with_reducible refine below_drewN ?_ _) | (with_reducible refine Below.setCell ?_ ?_ _) | (simp only [World.size_alloc, World.size_setCell, World.size_drew, size_drewN]; omega) | omega)))
  clear hc hf hz hb
  cases RR with
  | false =>
    go_wp2
    go_loopw [5] (fun i wr => i = .int .i64 1 ∧ Ext w1 wr) (fun _ _ => 0)
    case atStart => exact ⟨rfl, d3⟩
    case round =>
      obtain ⟨rfl, hE⟩ := hrel
      obtain ⟨wo, rfl⟩ : ∃ wo : World, wo = wr := ⟨_, rfl⟩
      have HE4 := Lib.hid (show Ext w1 wo from hE)
      have hz14 : w1.heap.size ≤ wo.heap.size := (HE4.out).size
      go_wp2_with (fail)
      have hO0 : OwnT (wo.alloc (.cells #[] 35)) wo.heap.size wo.heap.size (.slice (some ⟨wo.heap.size, 0, none⟩) 0 0) [] := OwnT.made0 wo (Nat.le_refl _)
      have HO0 := Lib.hid hO0
      clear hO0
      go_loopw [6, 7] (fun v i wr => ∃ (k : Nat) (qs : List PT) (lim' : Nat), k ≤ H.length ∧ i = .int .i64 k ∧ OwnT wr wo.heap.size lim' v qs ∧ lim' ≤ wr.heap.size ∧ qs.map PT.txn = lwH (H.take k) ∧ qs.length = k ∧ Ext wo wr) (fun _ i _ => H.length - (intOf i).toNat)
      case atStart => exact ⟨0, [], _, Nat.zero_le _, rfl, HO0.out, by simp, rfl, rfl, by (repeat' (first | (with_reducible exact Below.refl _ _) | (with_reducible refine Below.mono (by assumption) ?_) | (with_reducible refine Below.trans ?_ (Below.mono (by assumption) ?_)) | (with_reducible refine Below.alloc ?_ ?_ _) | (with_reducible refine Below.drew ?_) | (with_reducible refine below_drewN ?_ _) | (with_reducible refine Below.setCell ?_ ?_ _) | (simp only [World.size_alloc, World.size_setCell, World.size_drew, size_drewN]; omega) | omega))⟩
      case round =>
        obtain ⟨k, qs, lim', hk, rfl, hOT, hlim, hqm, hql, hE5⟩ := hrel
        have hz5 := hE5.size
        by_cases hlt : k < H.length
        · obtain ⟨s, ops, d, A', cap, b, off, hxk, hA2, _, hb0, hOp, c0, c1, c2'⟩ := HX.out.at_ hlt
          have hon := hsl.ops hxk
          simp only at hon
          have hE15 := (HE4.out).tr hE5
          have f0 := hE15.keep hb0 c0
          have f1 := hE15.keep hb0 c1
          have f2 := hE15.keep hb0 c2'
          have hlb : b < wr.heap.size := by have := hE15.size; omega
          have htk := lwH_take hxk
          rw [← hqm] at htk
          have HTK := Lib.hid htk
          have HOT := Lib.hid hOT
          have CL : Hid (∀ W, Ops Any W A' ops → Calls Tryd.prog 29 #[.agg #[.int .i64 s, .slice A' ops.length cap, .bool d]] W fun e w' => ∃ v, e = .returned v ∧ Own3 w' W.heap.size 25 v (if txnv ⟨s, ops, d⟩ = true then lwsTo ops 3 else []) ∧ Ext W w') := Lib.hid (fun W h => implLWO_c ⟨s, ops, d⟩ Any A' cap W h hon)
          have HLT : Hid (lwT ⟨s, ops, d⟩ = ⟨s, (if txnv ⟨s, ops, d⟩ = true then lwsTo ops 3 else []), d⟩) := Lib.hid rfl
          generalize (if txnv ⟨s, ops, d⟩ = true then lwsTo ops 3 else []) = LW at CL HLT
          clear hxk htk hqm hOT
          subst hA2
          go_upto_block 3 with (fail)
          go_cut [6] from 32 to 56 (fun v W => ∃ (lim2 : Nat) (A5 : Option Addr) (c5 : Nat), OwnT W wo.heap.size lim2 v (qs ++ [⟨s, A5, c5, LW, d⟩]) ∧ lim2 ≤ W.heap.size ∧ Ext wo W)
          case first =>
            go_upto_region 16 with (fail)
            have hn1000 : qs.length ≤ 1000 := by omega
            go_region_held3 (fun W => W.cell? ⟨b, off + k * 3, none⟩ = some (.int .i64 s) ∧ W.cell? ⟨b, off + k * 3 + 1, none⟩ = some (.slice A' ops.length cap) ∧ W.cell? ⟨b, off + k * 3 + 2, none⟩ = some (.bool d))
              (first | go_keep | exact ⟨hE9.keep hlb f0, hE9.keep hlb f1, hE9.keep hlb f2⟩ | exact ⟨(HE4.out.tr hE10).keep hb0 c0, (HE4.out.tr hE10).keep hb0 c1, (HE4.out.tr hE10).keep hb0 c2'⟩)
              (first
                | (go_at_call 29; with_reducible refine (CL.out _ (hOp.ext (hE15.tr (by (repeat' (first | (with_reducible exact Below.refl _ _) | (with_reducible refine Below.mono (by assumption) ?_) | (with_reducible refine Below.trans ?_ (Below.mono (by assumption) ?_)) | (with_reducible refine Below.alloc ?_ ?_ _) | (with_reducible refine Below.drew ?_) | (with_reducible refine below_drewN ?_ _) | (with_reducible refine Below.setCell ?_ ?_ _) | (simp only [World.size_alloc, World.size_setCell, World.size_drew, size_drewN]; omega) | omega)))))).mono ?_; rintro e w9 ⟨v9, rfl, hO9, hb9⟩
                   have hE9 : Ext wr w9 := Ext.tr (by (repeat' (first | (with_reducible exact Below.refl _ _) | (with_reducible refine Below.mono (by assumption) ?_) | (with_reducible refine Below.trans ?_ (Below.mono (by assumption) ?_)) | (with_reducible refine Below.alloc ?_ ?_ _) | (with_reducible refine Below.drew ?_) | (with_reducible refine below_drewN ?_ _) | (with_reducible refine Below.setCell ?_ ?_ _) | (simp only [World.size_alloc, World.size_setCell, World.size_drew, size_drewN]; omega) | omega))) hb9
                   clear hb9
                   obtain ⟨A5, c5, rfl, hx5, hf5⟩ := hO9.form)
                | (refine step_appT rfl (.tmp 38) (.tmp 55) rfl wo.heap.size _ rfl qs.length qs (HOT.out.ext (hE9.tr (by (repeat' (first | (with_reducible exact Below.refl _ _) | (with_reducible refine Below.mono (by assumption) ?_) | (with_reducible refine Below.trans ?_ (Below.mono (by assumption) ?_)) | (with_reducible refine Below.alloc ?_ ?_ _) | (with_reducible refine Below.drew ?_) | (with_reducible refine below_drewN ?_ _) | (with_reducible refine Below.setCell ?_ ?_ _) | (simp only [World.size_alloc, World.size_setCell, World.size_drew, size_drewN]; omega) | omega))))).1 _ ⟨s, A5, c5, LW, d⟩ rfl
                     (by first | exact box_atW (W0 := w9) (t := 35) rfl (Below.refl _ _)) hn1000 (by have := hE9.size; simp only [World.size_alloc]; omega) ?_
                   intro v10 w10 hrow hg10
                   have hE10 : Ext wo w10 := Below.grown (w := w9.alloc (.cells #[.int .i64 s, .slice A5 LW.length c5, .bool d] 35)) ((hE5.tr hE9).tr (by (repeat' (first | (with_reducible exact Below.refl _ _) | (with_reducible refine Below.mono (by assumption) ?_) | (with_reducible refine Below.trans ?_ (Below.mono (by assumption) ?_)) | (with_reducible refine Below.alloc ?_ ?_ _) | (with_reducible refine Below.drew ?_) | (with_reducible refine below_drewN ?_ _) | (with_reducible refine Below.setCell ?_ ?_ _) | (simp only [World.size_alloc, World.size_setCell, World.size_drew, size_drewN]; omega) | omega)))) hg10 (by have := hE9.size; simp only [World.size_alloc]; omega) (fun g hg => (own_at (HOT.out.ext (hE9.tr (by (repeat' (first | (with_reducible exact Below.refl _ _) | (with_reducible refine Below.mono (by assumption) ?_) | (with_reducible refine Below.trans ?_ (Below.mono (by assumption) ?_)) | (with_reducible refine Below.alloc ?_ ?_ _) | (with_reducible refine Below.drew ?_) | (with_reducible refine below_drewN ?_ _) | (with_reducible refine Below.setCell ?_ ?_ _) | (simp only [World.size_alloc, World.size_setCell, World.size_drew, size_drewN]; omega) | omega))))).1 hg).1)))
            all_goals
              go_wp2_with (fail)
              go_meet
              have hz9 := hE9.size
              have hEb : Ext w9 (w9.alloc (.cells #[.int .i64 s, .slice A5 LW.length c5, .bool d] 35)) := by (repeat' (first | (with_reducible exact Below.refl _ _) | (with_reducible refine Below.mono (by assumption) ?_) | (with_reducible refine Below.trans ?_ (Below.mono (by assumption) ?_)) | (with_reducible refine Below.alloc ?_ ?_ _) | (with_reducible refine Below.drew ?_) | (with_reducible refine below_drewN ?_ _) | (with_reducible refine Below.setCell ?_ ?_ _) | (simp only [World.size_alloc, World.size_setCell, World.size_drew, size_drewN]; omega) | omega))
              refine ⟨_, A5, c5, (HOT.out.ext (hE9.tr hEb)).more (p := ⟨s, A5, c5, LW, d⟩) ((hO9.below (by simp only [World.size_drew]; omega)).ext hEb) (fun a ha => by have := (hf5 a ha).2.1; simp only [World.size_alloc]; omega) (by simp only [World.size_alloc]; omega) hrow hg10, hg10.size, hE10⟩
          case rest =>
            obtain ⟨lim2, A5, c5, hOT2, hlim2, hE6⟩ := hcut
            go_wp2
            refine ⟨⟨k + 1, qs ++ [⟨s, A5, c5, LW, d⟩], lim2, by omega, by go_num, hOT2, hlim2, ?_, by simp [hql], hE6⟩, by simp [intOf]; omega⟩
            rw [List.map_append, HTK.out, HLT.out]
            rfl
        · obtain rfl : k = H.length := by omega
          have hqm : List.map PT.txn qs = lwH H := by simpa using hqm
          have hE15 := (HE4.out).tr hE5
          obtain ⟨A9, c9, hv9, hc9, hx9⟩ := hOT.read
          subst hv9
          rw [List.length_map] at hOT
          have hcp := hOT.caps
          rw [show qs.length = (qs.map PT.txn).length by simp] at hcp
          have hx9' := txns_anyR hx9
          rw [hqm] at hcp hx9' ⊢
          have HXW := Lib.hid hx9'
          have HCW := Lib.hid hcp
          have HXH := Lib.hid (HX.out.ext hE15)
          have HEW := Lib.hid (show Ext w wr from e1.tr hE15)
          have hsw : Small (lwH H) := by
            have h2 := total_small (h := lwH H) (fun t ht => by
              obtain ⟨t0, _, rfl⟩ := List.mem_map.1 ht
              have := lwsTo_len t0.ops 3
              simp only [lwT]
              split <;> simp <;> omega)
            have h3 : (lwH H).length = H.length := by simp [lwH]
            unfold Small
            omega
          generalize hHW : lwH H = HWR at HXW HCW HLW hsw ⊢
          clear hx9 hx9' hcp hOT hlim hqm hql hHW
          cases HV with
          | false =>
            go_wp2_with (fail)
            go_at_call 30
            refine (CH.out _ HXH.out).mono ?_
            rintro e w6 ⟨rfl, hb⟩
            obtain ⟨hc, hf, hz, hs⟩ := bcell hb
            (try simp only [World.size_alloc, World.size_setCell, World.size_drew, size_drewN] at hs); (first | have l0 := Nat.lt_of_lt_of_le l0 (show _ ≤ w6.heap.size by omega) | have l0 : w.heap.size < w6.heap.size := (by omega) | skip); (try have l0e := Nat.le_of_lt l0); (try have l0f := Nat.le_add_right_of_le (k := 1) l0e); (try have l1 := Nat.lt_of_lt_of_le l1 (show _ ≤ w6.heap.size by omega)); (try have l1e := Nat.le_of_lt l1); (try have l1f := Nat.le_add_right_of_le (k := 1) l1e); (try have l2 := Nat.lt_of_lt_of_le l2 (show _ ≤ w6.heap.size by omega)); (try have l2e := Nat.le_of_lt l2); (try have l2f := Nat.le_add_right_of_le (k := 1) l2e); (try have l3 := Nat.lt_of_lt_of_le l3 (show _ ≤ w6.heap.size by omega)); (try have l3e := Nat.le_of_lt l3); (try have l3f := Nat.le_add_right_of_le (k := 1) l3e)
            have HE6 := Lib.hid (HEW.out.tr hb)
            clear hc hf hz hb
            go_wp2_with (fail)
            go_at_call 25
            refine (alive_c _).mono ?_
            rintro e w9 ⟨rfl, hb⟩
            obtain ⟨hc, hf, hz, hs⟩ := bcell hb
            (try simp only [World.size_alloc, World.size_setCell, World.size_drew, size_drewN] at hs); (first | have l0 := Nat.lt_of_lt_of_le l0 (show _ ≤ w9.heap.size by omega) | have l0 : w.heap.size < w9.heap.size := (by omega) | skip); (try have l0e := Nat.le_of_lt l0); (try have l0f := Nat.le_add_right_of_le (k := 1) l0e); (try have l1 := Nat.lt_of_lt_of_le l1 (show _ ≤ w9.heap.size by omega)); (try have l1e := Nat.le_of_lt l1); (try have l1f := Nat.le_add_right_of_le (k := 1) l1e); (try have l2 := Nat.lt_of_lt_of_le l2 (show _ ≤ w9.heap.size by omega)); (try have l2e := Nat.le_of_lt l2); (try have l2f := Nat.le_add_right_of_le (k := 1) l2e); (try have l3 := Nat.lt_of_lt_of_le l3 (show _ ≤ w9.heap.size by omega)); (try have l3e := Nat.le_of_lt l3); (try have l3f := Nat.le_add_right_of_le (k := 1) l3e)
            go_wp2
            go_ret
            exact ⟨rfl, HE6.out.tr hb⟩
          | true =>
            go_wp2_with (fail)
            go_at_call 30
            refine (CH.out _ HXH.out).mono ?_
            rintro e w6 ⟨rfl, hb⟩
            obtain ⟨hc, hf, hz, hs⟩ := bcell hb
            (try simp only [World.size_alloc, World.size_setCell, World.size_drew, size_drewN] at hs); (first | have l0 := Nat.lt_of_lt_of_le l0 (show _ ≤ w6.heap.size by omega) | have l0 : w.heap.size < w6.heap.size := (by omega) | skip); (try have l0e := Nat.le_of_lt l0); (try have l0f := Nat.le_add_right_of_le (k := 1) l0e); (try have l1 := Nat.lt_of_lt_of_le l1 (show _ ≤ w6.heap.size by omega)); (try have l1e := Nat.le_of_lt l1); (try have l1f := Nat.le_add_right_of_le (k := 1) l1e); (try have l2 := Nat.lt_of_lt_of_le l2 (show _ ≤ w6.heap.size by omega)); (try have l2e := Nat.le_of_lt l2); (try have l2f := Nat.le_add_right_of_le (k := 1) l2e); (try have l3 := Nat.lt_of_lt_of_le l3 (show _ ≤ w6.heap.size by omega)); (try have l3e := Nat.le_of_lt l3); (try have l3f := Nat.le_add_right_of_le (k := 1) l3e)
            have HE6 := Lib.hid (HEW.out.tr hb)
            have HB6 := Lib.hid hb
            clear hc hf hz hb
            have CW : Hid (∀ W, Txns Any W A9 HWR → Caps W A9 HWR.length → Calls Tryd.prog 27 #[.slice A9 HWR.length c9] W fun e w' => e = .returned (.bool true) ∧ Ext W w') := Lib.hid (fun W h1 h2 => by
              have := implReadsRight_c HWR Any A9 c9 W h1 hsw h2
              rw [HLW.out (by simp)] at this
              exact this)
            go_wp2_with (fail)
            go_at_call 27
            refine (CW.out _ (HXW.out.ext HB6.out) (HCW.out.ext HB6.out)).mono ?_
            rintro e w7 ⟨rfl, hb⟩
            obtain ⟨hc, hf, hz, hs⟩ := bcell hb
            (try simp only [World.size_alloc, World.size_setCell, World.size_drew, size_drewN] at hs); (first | have l0 := Nat.lt_of_lt_of_le l0 (show _ ≤ w7.heap.size by omega) | have l0 : w.heap.size < w7.heap.size := (by omega) | skip); (try have l0e := Nat.le_of_lt l0); (try have l0f := Nat.le_add_right_of_le (k := 1) l0e); (try have l1 := Nat.lt_of_lt_of_le l1 (show _ ≤ w7.heap.size by omega)); (try have l1e := Nat.le_of_lt l1); (try have l1f := Nat.le_add_right_of_le (k := 1) l1e); (try have l2 := Nat.lt_of_lt_of_le l2 (show _ ≤ w7.heap.size by omega)); (try have l2e := Nat.le_of_lt l2); (try have l2f := Nat.le_add_right_of_le (k := 1) l2e); (try have l3 := Nat.lt_of_lt_of_le l3 (show _ ≤ w7.heap.size by omega)); (try have l3e := Nat.le_of_lt l3); (try have l3f := Nat.le_add_right_of_le (k := 1) l3e)
            have HE7 := Lib.hid (HE6.out.tr hb)
            have HB7 := Lib.hid (HB6.out.tr hb)
            clear hc hf hz hb
            go_wp2_with (fail)
            go_at_call 25
            refine (alive_c _).mono ?_
            rintro e w9 ⟨rfl, hb⟩
            obtain ⟨hc, hf, hz, hs⟩ := bcell hb
            (try simp only [World.size_alloc, World.size_setCell, World.size_drew, size_drewN] at hs); (first | have l0 := Nat.lt_of_lt_of_le l0 (show _ ≤ w9.heap.size by omega) | have l0 : w.heap.size < w9.heap.size := (by omega) | skip); (try have l0e := Nat.le_of_lt l0); (try have l0f := Nat.le_add_right_of_le (k := 1) l0e); (try have l1 := Nat.lt_of_lt_of_le l1 (show _ ≤ w9.heap.size by omega)); (try have l1e := Nat.le_of_lt l1); (try have l1f := Nat.le_add_right_of_le (k := 1) l1e); (try have l2 := Nat.lt_of_lt_of_le l2 (show _ ≤ w9.heap.size by omega)); (try have l2e := Nat.le_of_lt l2); (try have l2f := Nat.le_add_right_of_le (k := 1) l2e); (try have l3 := Nat.lt_of_lt_of_le l3 (show _ ≤ w9.heap.size by omega)); (try have l3e := Nat.le_of_lt l3); (try have l3f := Nat.le_add_right_of_le (k := 1) l3e)
            go_wp2
            go_ret
            exact ⟨rfl, HE7.out.tr hb⟩

  | true =>
    have hHV : HV = true := by
      cases hh : HV with
      | true => rfl
      | false => exact absurd (HRV.out hh) (by simp)
    go_wp2
    go_loopw [5] (fun i wr => ∃ q : Nat, 1 ≤ q ∧ q ≤ 5 ∧ i = .int .i64 q ∧ Ext w1 wr) (fun i _ => 5 - (intOf i).toNat)
    case atStart => exact ⟨1, by omega, by omega, rfl, d3⟩
    case round =>
      obtain ⟨q, hq1, hq5, rfl, hE⟩ := hrel
      by_cases h4 : q ≤ 4
      · have hbn := HRB.out (by simp) q hq1 h4
        have CBq : Hid (∀ W, Txns Any W A2 H → Calls Tryd.prog 22 #[.slice A2 H.length c2, .int .i64 q] W (FreshP [] W)) := Lib.hid (fun W h1 => by have := CB.out q W h1; rw [hbn] at this; exact this)
        clear hbn
        go_wp2_with (fail)
        go_at_call 22
        refine (CBq.out _ (HX.out.ext hE)).mono ?_
        rintro e w4 ⟨A3, c3, rfl, _, _, hb⟩
        obtain ⟨hc, hf, hz, hs⟩ := bcell hb
        (try simp only [World.size_alloc, World.size_setCell, World.size_drew, size_drewN] at hs); (first | have l0 := Nat.lt_of_lt_of_le l0 (show _ ≤ w4.heap.size by omega) | have l0 : w.heap.size < w4.heap.size := (by omega) | skip); (try have l0e := Nat.le_of_lt l0); (try have l0f := Nat.le_add_right_of_le (k := 1) l0e); (try have l1 := Nat.lt_of_lt_of_le l1 (show _ ≤ w4.heap.size by omega)); (try have l1e := Nat.le_of_lt l1); (try have l1f := Nat.le_add_right_of_le (k := 1) l1e); (try have l2 := Nat.lt_of_lt_of_le l2 (show _ ≤ w4.heap.size by omega)); (try have l2e := Nat.le_of_lt l2); (try have l2f := Nat.le_add_right_of_le (k := 1) l2e); (try have l3 := Nat.lt_of_lt_of_le l3 (show _ ≤ w4.heap.size by omega)); (try have l3e := Nat.le_of_lt l3); (try have l3f := Nat.le_add_right_of_le (k := 1) l3e)
        have d4 := hE.tr hb
        clear hc hf hz hb
        go_wp2
        exact ⟨⟨q + 1, by omega, by omega, by go_num, d4⟩, by simp [intOf]; omega⟩
      · have hq : ((q : Nat) : Int) = 5 := by omega
        rw [hq]
        obtain ⟨wo, rfl⟩ : ∃ wo : World, wo = wr := ⟨_, rfl⟩
        have HE4 := Lib.hid (show Ext w1 wo from hE)
        have hz14 : w1.heap.size ≤ wo.heap.size := (HE4.out).size
        go_wp2_with (fail)
        have hO0 : OwnT (wo.alloc (.cells #[] 35)) wo.heap.size wo.heap.size (.slice (some ⟨wo.heap.size, 0, none⟩) 0 0) [] := OwnT.made0 wo (Nat.le_refl _)
        have HO0 := Lib.hid hO0
        clear hO0
        go_loopw [6, 7] (fun v i wr => ∃ (k : Nat) (qs : List PT) (lim' : Nat), k ≤ H.length ∧ i = .int .i64 k ∧ OwnT wr wo.heap.size lim' v qs ∧ lim' ≤ wr.heap.size ∧ qs.map PT.txn = lwH (H.take k) ∧ qs.length = k ∧ Ext wo wr) (fun _ i _ => H.length - (intOf i).toNat)
        case atStart => exact ⟨0, [], _, Nat.zero_le _, rfl, HO0.out, by simp, rfl, rfl, by (repeat' (first | (with_reducible exact Below.refl _ _) | (with_reducible refine Below.mono (by assumption) ?_) | (with_reducible refine Below.trans ?_ (Below.mono (by assumption) ?_)) | (with_reducible refine Below.alloc ?_ ?_ _) | (with_reducible refine Below.drew ?_) | (with_reducible refine below_drewN ?_ _) | (with_reducible refine Below.setCell ?_ ?_ _) | (simp only [World.size_alloc, World.size_setCell, World.size_drew, size_drewN]; omega) | omega))⟩
        case round =>
          obtain ⟨k, qs, lim', hk, rfl, hOT, hlim, hqm, hql, hE5⟩ := hrel
          have hz5 := hE5.size
          by_cases hlt : k < H.length
          · obtain ⟨s, ops, d, A', cap, b, off, hxk, hA2, _, hb0, hOp, c0, c1, c2'⟩ := HX.out.at_ hlt
            have hon := hsl.ops hxk
            simp only at hon
            have hE15 := (HE4.out).tr hE5
            have f0 := hE15.keep hb0 c0
            have f1 := hE15.keep hb0 c1
            have f2 := hE15.keep hb0 c2'
            have hlb : b < wr.heap.size := by have := hE15.size; omega
            have htk := lwH_take hxk
            rw [← hqm] at htk
            have HTK := Lib.hid htk
            have HOT := Lib.hid hOT
            have CL : Hid (∀ W, Ops Any W A' ops → Calls Tryd.prog 29 #[.agg #[.int .i64 s, .slice A' ops.length cap, .bool d]] W fun e w' => ∃ v, e = .returned v ∧ Own3 w' W.heap.size 25 v (if txnv ⟨s, ops, d⟩ = true then lwsTo ops 3 else []) ∧ Ext W w') := Lib.hid (fun W h => implLWO_c ⟨s, ops, d⟩ Any A' cap W h hon)
            have HLT : Hid (lwT ⟨s, ops, d⟩ = ⟨s, (if txnv ⟨s, ops, d⟩ = true then lwsTo ops 3 else []), d⟩) := Lib.hid rfl
            generalize (if txnv ⟨s, ops, d⟩ = true then lwsTo ops 3 else []) = LW at CL HLT
            clear hxk htk hqm hOT
            subst hA2
            go_upto_block 3 with (fail)
            go_cut [6] from 32 to 56 (fun v W => ∃ (lim2 : Nat) (A5 : Option Addr) (c5 : Nat), OwnT W wo.heap.size lim2 v (qs ++ [⟨s, A5, c5, LW, d⟩]) ∧ lim2 ≤ W.heap.size ∧ Ext wo W)
            case first =>
              go_upto_region 16 with (fail)
              have hn1000 : qs.length ≤ 1000 := by omega
              go_region_held3 (fun W => W.cell? ⟨b, off + k * 3, none⟩ = some (.int .i64 s) ∧ W.cell? ⟨b, off + k * 3 + 1, none⟩ = some (.slice A' ops.length cap) ∧ W.cell? ⟨b, off + k * 3 + 2, none⟩ = some (.bool d))
                (first | go_keep | exact ⟨hE9.keep hlb f0, hE9.keep hlb f1, hE9.keep hlb f2⟩ | exact ⟨(HE4.out.tr hE10).keep hb0 c0, (HE4.out.tr hE10).keep hb0 c1, (HE4.out.tr hE10).keep hb0 c2'⟩)
                (first
                  | (go_at_call 29; with_reducible refine (CL.out _ (hOp.ext (hE15.tr (by (repeat' (first | (with_reducible exact Below.refl _ _) | (with_reducible refine Below.mono (by assumption) ?_) | (with_reducible refine Below.trans ?_ (Below.mono (by assumption) ?_)) | (with_reducible refine Below.alloc ?_ ?_ _) | (with_reducible refine Below.drew ?_) | (with_reducible refine below_drewN ?_ _) | (with_reducible refine Below.setCell ?_ ?_ _) | (simp only [World.size_alloc, World.size_setCell, World.size_drew, size_drewN]; omega) | omega)))))).mono ?_; rintro e w9 ⟨v9, rfl, hO9, hb9⟩
                     have hE9 : Ext wr w9 := Ext.tr (by (repeat' (first | (with_reducible exact Below.refl _ _) | (with_reducible refine Below.mono (by assumption) ?_) | (with_reducible refine Below.trans ?_ (Below.mono (by assumption) ?_)) | (with_reducible refine Below.alloc ?_ ?_ _) | (with_reducible refine Below.drew ?_) | (with_reducible refine below_drewN ?_ _) | (with_reducible refine Below.setCell ?_ ?_ _) | (simp only [World.size_alloc, World.size_setCell, World.size_drew, size_drewN]; omega) | omega))) hb9
                     clear hb9
                     obtain ⟨A5, c5, rfl, hx5, hf5⟩ := hO9.form)
                  | (refine step_appT rfl (.tmp 38) (.tmp 55) rfl wo.heap.size _ rfl qs.length qs (HOT.out.ext (hE9.tr (by (repeat' (first | (with_reducible exact Below.refl _ _) | (with_reducible refine Below.mono (by assumption) ?_) | (with_reducible refine Below.trans ?_ (Below.mono (by assumption) ?_)) | (with_reducible refine Below.alloc ?_ ?_ _) | (with_reducible refine Below.drew ?_) | (with_reducible refine below_drewN ?_ _) | (with_reducible refine Below.setCell ?_ ?_ _) | (simp only [World.size_alloc, World.size_setCell, World.size_drew, size_drewN]; omega) | omega))))).1 _ ⟨s, A5, c5, LW, d⟩ rfl
                       (by first | exact box_atW (W0 := w9) (t := 35) rfl (Below.refl _ _)) hn1000 (by have := hE9.size; simp only [World.size_alloc]; omega) ?_
                     intro v10 w10 hrow hg10
                     have hE10 : Ext wo w10 := Below.grown (w := w9.alloc (.cells #[.int .i64 s, .slice A5 LW.length c5, .bool d] 35)) ((hE5.tr hE9).tr (by (repeat' (first | (with_reducible exact Below.refl _ _) | (with_reducible refine Below.mono (by assumption) ?_) | (with_reducible refine Below.trans ?_ (Below.mono (by assumption) ?_)) | (with_reducible refine Below.alloc ?_ ?_ _) | (with_reducible refine Below.drew ?_) | (with_reducible refine below_drewN ?_ _) | (with_reducible refine Below.setCell ?_ ?_ _) | (simp only [World.size_alloc, World.size_setCell, World.size_drew, size_drewN]; omega) | omega)))) hg10 (by have := hE9.size; simp only [World.size_alloc]; omega) (fun g hg => (own_at (HOT.out.ext (hE9.tr (by (repeat' (first | (with_reducible exact Below.refl _ _) | (with_reducible refine Below.mono (by assumption) ?_) | (with_reducible refine Below.trans ?_ (Below.mono (by assumption) ?_)) | (with_reducible refine Below.alloc ?_ ?_ _) | (with_reducible refine Below.drew ?_) | (with_reducible refine below_drewN ?_ _) | (with_reducible refine Below.setCell ?_ ?_ _) | (simp only [World.size_alloc, World.size_setCell, World.size_drew, size_drewN]; omega) | omega))))).1 hg).1)))
              all_goals
                go_wp2_with (fail)
                go_meet
                have hz9 := hE9.size
                have hEb : Ext w9 (w9.alloc (.cells #[.int .i64 s, .slice A5 LW.length c5, .bool d] 35)) := by (repeat' (first | (with_reducible exact Below.refl _ _) | (with_reducible refine Below.mono (by assumption) ?_) | (with_reducible refine Below.trans ?_ (Below.mono (by assumption) ?_)) | (with_reducible refine Below.alloc ?_ ?_ _) | (with_reducible refine Below.drew ?_) | (with_reducible refine below_drewN ?_ _) | (with_reducible refine Below.setCell ?_ ?_ _) | (simp only [World.size_alloc, World.size_setCell, World.size_drew, size_drewN]; omega) | omega))
                refine ⟨_, A5, c5, (HOT.out.ext (hE9.tr hEb)).more (p := ⟨s, A5, c5, LW, d⟩) ((hO9.below (by simp only [World.size_drew]; omega)).ext hEb) (fun a ha => by have := (hf5 a ha).2.1; simp only [World.size_alloc]; omega) (by simp only [World.size_alloc]; omega) hrow hg10, hg10.size, hE10⟩
            case rest =>
              obtain ⟨lim2, A5, c5, hOT2, hlim2, hE6⟩ := hcut
              go_wp2
              refine ⟨⟨k + 1, qs ++ [⟨s, A5, c5, LW, d⟩], lim2, by omega, by go_num, hOT2, hlim2, ?_, by simp [hql], hE6⟩, by simp [intOf]; omega⟩
              rw [List.map_append, HTK.out, HLT.out]
              rfl
          · obtain rfl : k = H.length := by omega
            have hqm : List.map PT.txn qs = lwH H := by simpa using hqm
            have hE15 := (HE4.out).tr hE5
            obtain ⟨A9, c9, hv9, hc9, hx9⟩ := hOT.read
            subst hv9
            rw [List.length_map] at hOT
            have hcp := hOT.caps
            rw [show qs.length = (qs.map PT.txn).length by simp] at hcp
            have hx9' := txns_anyR hx9
            rw [hqm] at hcp hx9' ⊢
            have HXW := Lib.hid hx9'
            have HCW := Lib.hid hcp
            have HXH := Lib.hid (HX.out.ext hE15)
            have HEW := Lib.hid (show Ext w wr from e1.tr hE15)
            have hsw : Small (lwH H) := by
              have h2 := total_small (h := lwH H) (fun t ht => by
                obtain ⟨t0, _, rfl⟩ := List.mem_map.1 ht
                have := lwsTo_len t0.ops 3
                simp only [lwT]
                split <;> simp <;> omega)
              have h3 : (lwH H).length = H.length := by simp [lwH]
              unfold Small
              omega
            generalize hHW : lwH H = HWR at HXW HCW HLW hsw ⊢
            clear hx9 hx9' hcp hOT hlim hqm hql hHW
            subst hHV
            go_wp2_with (fail)
            go_at_call 30
            refine (CH.out _ HXH.out).mono ?_
            rintro e w6 ⟨rfl, hb⟩
            obtain ⟨hc, hf, hz, hs⟩ := bcell hb
            (try simp only [World.size_alloc, World.size_setCell, World.size_drew, size_drewN] at hs); (first | have l0 := Nat.lt_of_lt_of_le l0 (show _ ≤ w6.heap.size by omega) | have l0 : w.heap.size < w6.heap.size := (by omega) | skip); (try have l0e := Nat.le_of_lt l0); (try have l0f := Nat.le_add_right_of_le (k := 1) l0e); (try have l1 := Nat.lt_of_lt_of_le l1 (show _ ≤ w6.heap.size by omega)); (try have l1e := Nat.le_of_lt l1); (try have l1f := Nat.le_add_right_of_le (k := 1) l1e); (try have l2 := Nat.lt_of_lt_of_le l2 (show _ ≤ w6.heap.size by omega)); (try have l2e := Nat.le_of_lt l2); (try have l2f := Nat.le_add_right_of_le (k := 1) l2e); (try have l3 := Nat.lt_of_lt_of_le l3 (show _ ≤ w6.heap.size by omega)); (try have l3e := Nat.le_of_lt l3); (try have l3f := Nat.le_add_right_of_le (k := 1) l3e)
            have HE6 := Lib.hid (HEW.out.tr hb)
            have HB6 := Lib.hid hb
            clear hc hf hz hb
            have CW : Hid (∀ W, Txns Any W A9 HWR → Caps W A9 HWR.length → Calls Tryd.prog 27 #[.slice A9 HWR.length c9] W fun e w' => e = .returned (.bool true) ∧ Ext W w') := Lib.hid (fun W h1 h2 => by
              have := implReadsRight_c HWR Any A9 c9 W h1 hsw h2
              rw [HLW.out (by simp)] at this
              exact this)
            go_wp2_with (fail)
            go_at_call 27
            refine (CW.out _ (HXW.out.ext HB6.out) (HCW.out.ext HB6.out)).mono ?_
            rintro e w7 ⟨rfl, hb⟩
            obtain ⟨hc, hf, hz, hs⟩ := bcell hb
            (try simp only [World.size_alloc, World.size_setCell, World.size_drew, size_drewN] at hs); (first | have l0 := Nat.lt_of_lt_of_le l0 (show _ ≤ w7.heap.size by omega) | have l0 : w.heap.size < w7.heap.size := (by omega) | skip); (try have l0e := Nat.le_of_lt l0); (try have l0f := Nat.le_add_right_of_le (k := 1) l0e); (try have l1 := Nat.lt_of_lt_of_le l1 (show _ ≤ w7.heap.size by omega)); (try have l1e := Nat.le_of_lt l1); (try have l1f := Nat.le_add_right_of_le (k := 1) l1e); (try have l2 := Nat.lt_of_lt_of_le l2 (show _ ≤ w7.heap.size by omega)); (try have l2e := Nat.le_of_lt l2); (try have l2f := Nat.le_add_right_of_le (k := 1) l2e); (try have l3 := Nat.lt_of_lt_of_le l3 (show _ ≤ w7.heap.size by omega)); (try have l3e := Nat.le_of_lt l3); (try have l3f := Nat.le_add_right_of_le (k := 1) l3e)
            have HE7 := Lib.hid (HE6.out.tr hb)
            have HB7 := Lib.hid (HB6.out.tr hb)
            clear hc hf hz hb
            go_wp2_with (fail)
            go_at_call 30
            refine (CH.out _ (HXH.out.ext HB7.out)).mono ?_
            rintro e w8 ⟨rfl, hb⟩
            obtain ⟨hc, hf, hz, hs⟩ := bcell hb
            (try simp only [World.size_alloc, World.size_setCell, World.size_drew, size_drewN] at hs); (first | have l0 := Nat.lt_of_lt_of_le l0 (show _ ≤ w8.heap.size by omega) | have l0 : w.heap.size < w8.heap.size := (by omega) | skip); (try have l0e := Nat.le_of_lt l0); (try have l0f := Nat.le_add_right_of_le (k := 1) l0e); (try have l1 := Nat.lt_of_lt_of_le l1 (show _ ≤ w8.heap.size by omega)); (try have l1e := Nat.le_of_lt l1); (try have l1f := Nat.le_add_right_of_le (k := 1) l1e); (try have l2 := Nat.lt_of_lt_of_le l2 (show _ ≤ w8.heap.size by omega)); (try have l2e := Nat.le_of_lt l2); (try have l2f := Nat.le_add_right_of_le (k := 1) l2e); (try have l3 := Nat.lt_of_lt_of_le l3 (show _ ≤ w8.heap.size by omega)); (try have l3e := Nat.le_of_lt l3); (try have l3f := Nat.le_add_right_of_le (k := 1) l3e)
            have HE8 := Lib.hid (HE7.out.tr hb)
            clear hc hf hz hb
            go_wp2_with (fail)
            go_at_call 25
            refine (alive_c _).mono ?_
            rintro e w9 ⟨rfl, hb⟩
            obtain ⟨hc, hf, hz, hs⟩ := bcell hb
            (try simp only [World.size_alloc, World.size_setCell, World.size_drew, size_drewN] at hs); (first | have l0 := Nat.lt_of_lt_of_le l0 (show _ ≤ w9.heap.size by omega) | have l0 : w.heap.size < w9.heap.size := (by omega) | skip); (try have l0e := Nat.le_of_lt l0); (try have l0f := Nat.le_add_right_of_le (k := 1) l0e); (try have l1 := Nat.lt_of_lt_of_le l1 (show _ ≤ w9.heap.size by omega)); (try have l1e := Nat.le_of_lt l1); (try have l1f := Nat.le_add_right_of_le (k := 1) l1e); (try have l2 := Nat.lt_of_lt_of_le l2 (show _ ≤ w9.heap.size by omega)); (try have l2e := Nat.le_of_lt l2); (try have l2f := Nat.le_add_right_of_le (k := 1) l2e); (try have l3 := Nat.lt_of_lt_of_le l3 (show _ ≤ w9.heap.size by omega)); (try have l3e := Nat.le_of_lt l3); (try have l3f := Nat.le_add_right_of_le (k := 1) l3e)
            go_wp2
            go_ret
            exact ⟨rfl, HE8.out.tr hb⟩

theorem FnReadsRight_reads (os : Os) {H : Type} (enc : TypeId × Value → H) : ∃ places, DataW.whole enc Tryd.prog ((Law.laidWorld os).forCall (fun _ _ => 0) ⟨#[], #[.slice none 0 0], []⟩).memory Tryd.f7.params.toList Rows.fnReadsRightSpec.vars false (#[.slice none 0 0] : Array Value).toList 8 = some ([.nil], [], places) :=
  ⟨[], by kernel_rfl⟩
theorem FnReadsRight_laid (os : Os) : laidMet Tryd.prog Rows.fnReadsRightRow.laid ((Law.laidWorld os).forCall (fun _ _ => 0) ⟨#[], #[.slice none 0 0], []⟩).memory :=
  laidMet_of_run' 8 (by kernel_rfl) (by kernel_rfl)
set_option maxRecDepth 100000 in
theorem FnReadsRight_lifted (os : Os) (started : os.Started) (H : Type) (enc : TypeId × Value → H) (F : Stop.Interp) :
    ReturnsInHanded {} Tryd.checked os 7 .any ((OpenSpec.ofChange Rows.fnReadsRightSpec).preRow enc Tryd.prog Tryd.f7 Rows.fnReadsRightRow.domain false Rows.fnReadsRightRow.laid) (((OpenSpec.ofChange Rows.fnReadsRightSpec).at F).post enc Tryd.prog Tryd.f7 false true false false) := by
  obtain ⟨places, hx⟩ := FnReadsRight_reads os enc
  refine returnsInHanded_of_row (C := Tryd.checked) (s := OpenSpec.ofChange Rows.fnReadsRightSpec) Law.own started (by kernel_rfl) Tryd.func7
    (witness_row_at (enc := enc) (C := Tryd.checked) false (Law.laidWorld os) #[.slice none 0 0] rfl (by kernel_rfl) (by kernel_rfl) (by kernel_rfl)
      (OpenSpec.preRow_of_cond 8 hx (by kernel_rfl) (fun k hk => by cases hk) (by kernel_rfl) (FnReadsRight_laid os))) ?_
  intro W base args ds gs before hval0 hW _ _ _ hLaid _ _
  have hval : ∀ (j : Nat) t v, Tryd.f7.params[j]? = some t → args[j]? = some v → Value.okWide Tryd.prog W .any base t v := hval0
  have hW' := hW
  obtain ⟨p, q, hA0, hV, rfl, hfz, hnd⟩ := hW
  have hA : DataW.TrodAll enc Tryd.prog W 0 (fun _ => true) true Tryd.f7.params.toList args.toList ds p := hA0
  rw [Tryd.params7] at hA hval
  obtain ⟨v0, vs0, d0, ds0, p0, q0, hargs, hds, rfl, h0, r0⟩ := trodAll_cons hA
  obtain ⟨rfl, rfl, rfl⟩ := trodAll_nil r0
  obtain rfl : args = #[v0] := by cases args; simp_all
  subst hds
  obtain ⟨x0, A0, c0, rfl, hO0, wf0⟩ := Law.open_bytes Tryd.underlying46 Tryd.underlying5 (by kernel_rfl) (hval 0 46 v0 rfl rfl) h0
  refine (FnReadsRight_c x0 A0 c0 W hO0 wf0 (Law.bytes_cap Tryd.underlying46 (hval 0 46 _ rfl rfl))).mono fun e W' ⟨he, hb⟩ => ?_
  subst he
  refine ⟨_, rfl, Law.post_true Law.laidOut ?_ rfl rfl Tryd.underlying4 ⟨rfl, rfl, rfl⟩ hW' hb⟩
  intro t ht
  rw [Tryd.params7] at ht
  simp only [List.mem_cons, List.not_mem_nil, or_false] at ht
  first | (rcases ht with rfl <;> exact ⟨by kernel_rfl, of_decide_eq_true (by kernel_rfl)⟩)

theorem FnReadsRight_holds : Rows.FnReadsRightSaid :=
  OpenClaim.holds_of_cond 7 Tryd.f7 rfl rfl rfl rfl rfl rfl rfl ⟨rfl, rfl, rfl, rfl, rfl⟩ rfl rfl rfl rfl rfl (by kernel_rfl) Tryd.func7 (by kernel_rfl)
    (of_decide_eq_true (by kernel_rfl)) (by unfold Func.isWrapper; first | (rw [if_pos (by decide +kernel)]; kernel_rfl) | (rw [if_neg (by decide +kernel)]; exact ⟨rfl, rfl⟩))
    (fun os started H enc _ F => by rw [OpenClaim.pre_eq_preRow]; exact FnReadsRight_lifted os started H enc F)
theorem FnReadsRight_plain (f : FuncId) (fn : Func) (hf : Tryd.pinned.checked.prog.funcNamed Rows.fnReadsRightRow.func = some f) (hfn : Tryd.pinned.checked.prog.funcs[f]? = some fn) :
    false = Tryd.pinned.checked.prog.looks [] ∧ ∀ (j : Nat) t, fn.params[j]? = some t → Tryd.pinned.checked.prog.wantsStandIn t = false := by
  obtain rfl : f = 7 := Option.some.inj ((show Tryd.prog.funcNamed Rows.fnReadsRightRow.func = some 7 by kernel_rfl).symm.trans hf) |>.symm
  obtain rfl : fn = Tryd.f7 := (Option.some.inj (Tryd.func7.symm.trans hfn)).symm
  refine ⟨by kernel_rfl, fun j t ht => ?_⟩
  rw [Tryd.params7] at ht
  have hm := Array.mem_of_getElem? ht
  simp only [List.mem_toArray, List.mem_cons, List.not_mem_nil, or_false] at hm
  rcases hm with rfl
  · exact (show Tryd.prog.wantsStandIn 46 = false by kernel_rfl)
theorem FnReadsRight_card : Rows.FnReadsRightCardSaid :=
  Claim7.holds_tied_plain_at .later [] _ _ _ _ FnReadsRight_holds (fun _ h => by cases h) (by kernel_rfl) (fun _ h => by cases h) fnReadsRight_row_tie rfl ⟨rfl, rfl⟩ (by kernel_rfl) rfl FnReadsRight_plain (by kernel_rfl)

end Go.Proofs.YtciadlhencgjmaaDoor
