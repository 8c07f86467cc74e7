/-
  FnSerialRight: a drawn history and an order: the program's answer is the reference's; without the last one an order is not right, if there is any; a history without reads is right in every order; with a right order the reads are right.
-/
import Derived.Test.YtdgfipoibnjhaaaDoorSerD
import Derived.Test.YtdgfipoibnjhaaaDoorSerQ
import Derived.Test.YtdgfipoibnjhaaaDoorLaid
import Derived.Test.YtdgfipoibnjhaaaDoorGAlive35
import Derived.Test.YtdgfipoibnjhaaaDoorRR
import Derived.Test.YtdgfipoibnjhaaaDoorLwO
import Derived.Deep.CutRange
import Derived.Deep.CutBlock
import Derived.Deep.RegionHeld3
namespace Go.Proofs.YtdgfipoibnjhaaaDoor
set_option linter.unusedSimpArgs false
set_option linter.unusedVariables false
set_option maxRecDepth 100000
open Go.ChangeShapes Go.WideShapes Go.ChangeAt Go.RowKit Go.Joins

theorem txns_anyR {B : Nat} {w : World} {A : Option Addr} {h : List TxnT} (hx : Txns (fun b => B ≤ b) w A h) : Txns Any w A h := SlAt.mono hx (fun _ _ _ => trivial) (mono_txn (fun _ _ _ => trivial))
theorem lwH_take {H : List TxnT} {k : Nat} {t : TxnT} (h : H[k]? = some t) : lwH (H.take (k + 1)) = lwH (H.take k) ++ [lwT t] := by
  unfold lwH
  rw [List.take_add_one, h]
  simp
theorem ints_takeS {S : Nat → Prop} {w : World} {A : Option Addr} {xs : List Int} (h : Ints S w A xs) (n : Nat) : Ints S w A (xs.take n) := fun i x hx => by
  have hi : i < (xs.take n).length := (List.getElem?_eq_some_iff.1 hx).1
  rw [List.length_take] at hi
  rw [List.getElem?_take_of_lt (by omega)] at hx
  exact h i x hx
set_option maxHeartbeats 8000000 in
theorem FnSerialRight_c (xs : List Int) (A : Option Addr) (c : Nat) (w : World) (hx : Byts Any w A xs) (wf : Law.wfL Law.wfU8 xs) (hc : xs.length ≤ c) :
    Calls Tryd.prog 5 #[.slice A xs.length c] w fun e w' => e = .returned (.bool true) ∧ Ext w w' := by
  by_cases hl : 1048576 < xs.length
  · go_enter Tryd.func5, Tryd.ntmps5
    go_wp2
    go_ret
    exact ⟨rfl, by (repeat' (first | (with_reducible exact Below.refl _ _) | (with_reducible refine Below.mono (by assumption) ?_) | (with_reducible refine Below.trans ?_ (Below.mono (by assumption) ?_)) | (with_reducible refine Below.alloc ?_ ?_ _) | (with_reducible refine Below.drew ?_) | (with_reducible refine below_drewN ?_ _) | (with_reducible refine Below.setCell ?_ ?_ _) | (simp only [World.size_alloc, World.size_setCell, World.size_drew, size_drewN]; omega) | omega))⟩
  have HW : Hid (∀ x ∈ xs, 0 ≤ x ∧ x ≤ 255) := Lib.hid wf.2
  go_enter Tryd.func5, Tryd.ntmps5
  go_wp2_with (fail)
  go_at_call 17
  refine (DrawSerialRight_c xs A c _ (hx.ext (by (repeat' (first | (with_reducible exact Below.refl _ _) | (with_reducible refine Below.mono (by assumption) ?_) | (with_reducible refine Below.trans ?_ (Below.mono (by assumption) ?_)) | (with_reducible refine Below.alloc ?_ ?_ _) | (with_reducible refine Below.drew ?_) | (with_reducible refine below_drewN ?_ _) | (with_reducible refine Below.setCell ?_ ?_ _) | (simp only [World.size_alloc, World.size_setCell, World.size_drew, size_drewN]; omega) | omega)))) HW.out hc).mono ?_
  rintro e w1 ⟨H, A2, c2, ns, B, d, rfl, hc2, hTx, hcap, hsm, hd, hI, hnl, hb⟩
  obtain ⟨hc, hf, hz, hs⟩ := bcell hb
  (try simp only [World.size_alloc, World.size_setCell, World.size_drew, size_drewN] at hs); (first | have l0 := Nat.lt_of_lt_of_le l0 (show _ ≤ w1.heap.size by omega) | have l0 : w.heap.size < w1.heap.size := (by omega) | skip); (try have l0e := Nat.le_of_lt l0); (try have l0f := Nat.le_add_right_of_le (k := 1) l0e); (try have l1 := Nat.lt_of_lt_of_le l1 (show _ ≤ w1.heap.size by omega)); (try have l1e := Nat.le_of_lt l1); (try have l1f := Nat.le_add_right_of_le (k := 1) l1e); (try have l2 := Nat.lt_of_lt_of_le l2 (show _ ≤ w1.heap.size by omega)); (try have l2e := Nat.le_of_lt l2); (try have l2f := Nat.le_add_right_of_le (k := 1) l2e); (try have l3 := Nat.lt_of_lt_of_le l3 (show _ ≤ w1.heap.size by omega)); (try have l3e := Nat.le_of_lt l3); (try have l3f := Nat.le_add_right_of_le (k := 1) l3e)
  have e1 : Ext w w1 := by (repeat' (first | (with_reducible exact Below.refl _ _) | (with_reducible refine Below.mono (by assumption) ?_) | (with_reducible refine Below.trans ?_ (Below.mono (by assumption) ?_)) | (with_reducible refine Below.alloc ?_ ?_ _) | (with_reducible refine Below.drew ?_) | (with_reducible refine below_drewN ?_ _) | (with_reducible refine Below.setCell ?_ ?_ _) | (simp only [World.size_alloc, World.size_setCell, World.size_drew, size_drewN]; omega) | omega))
  have hsl := hsm.small
  have hl8' := hsm.1
  have HX := Lib.hid (txns_anyR hTx)
  have HC := Lib.hid hcap
  have HI := Lib.hid (show Ints Any w1 B ns from SlAt.mono hI (fun _ _ _ => trivial) (fun _ _ h => h))
  have CI := fun W hx hi => implSerialRight_c H ns Any Any A2 B c2 d W hx hsl hi (by omega)
  have CS := fun W hx hi => specSerialRight_c H ns Any Any A2 B c2 d W hx hsl hi (by omega)
  have CT := fun W hx hi => implSerialRight_c H (ns.take (ns.length - 1)) Any Any A2 B c2 d W hx hsl hi (by rw [List.length_take]; omega)
  have CR := fun W hx hc => implReadsRight_c H Any A2 c2 W hx hsl hc
  have hsi := fun (hs : serV H ns = true) hn => ser_init hs hn
  have hsw := fun (hs : serV H ns = true) => ser_lw hs
  have hsr := fun (hs : serV H ns = true) => ser_reads hs
  clear hTx hcap hI hb hc hf hz
  cases hV : serV H ns with
  | false =>
    rw [hV] at CI CS
    have CI := Lib.hid CI
    have CS := Lib.hid CS
    clear hV hsi hsw hsr CT CR
    go_wp2_with (fail)
    go_at_call 18
    refine (CI.out _ HX.out HI.out).mono ?_
    rintro e w2 ⟨rfl, hb⟩
    obtain ⟨hc, hf, hz, hs⟩ := bcell hb
    (try simp only [World.size_alloc, World.size_setCell, World.size_drew, size_drewN] at hs); (first | have l0 := Nat.lt_of_lt_of_le l0 (show _ ≤ w2.heap.size by omega) | have l0 : w.heap.size < w2.heap.size := (by omega) | skip); (try have l0e := Nat.le_of_lt l0); (try have l0f := Nat.le_add_right_of_le (k := 1) l0e); (try have l1 := Nat.lt_of_lt_of_le l1 (show _ ≤ w2.heap.size by omega)); (try have l1e := Nat.le_of_lt l1); (try have l1f := Nat.le_add_right_of_le (k := 1) l1e); (try have l2 := Nat.lt_of_lt_of_le l2 (show _ ≤ w2.heap.size by omega)); (try have l2e := Nat.le_of_lt l2); (try have l2f := Nat.le_add_right_of_le (k := 1) l2e); (try have l3 := Nat.lt_of_lt_of_le l3 (show _ ≤ w2.heap.size by omega)); (try have l3e := Nat.le_of_lt l3); (try have l3f := Nat.le_add_right_of_le (k := 1) l3e)
    have E12 := Lib.hid (show Ext w1 w2 from hb)
    clear hb hc hf hz
    go_wp2_with (fail)
    go_at_call 19
    refine (CS.out _ (HX.out.ext E12.out) (HI.out.ext E12.out)).mono ?_
    rintro e w3 ⟨rfl, hb⟩
    obtain ⟨hc, hf, hz, hs⟩ := bcell hb
    (try simp only [World.size_alloc, World.size_setCell, World.size_drew, size_drewN] at hs); (first | have l0 := Nat.lt_of_lt_of_le l0 (show _ ≤ w3.heap.size by omega) | have l0 : w.heap.size < w3.heap.size := (by omega) | skip); (try have l0e := Nat.le_of_lt l0); (try have l0f := Nat.le_add_right_of_le (k := 1) l0e); (try have l1 := Nat.lt_of_lt_of_le l1 (show _ ≤ w3.heap.size by omega)); (try have l1e := Nat.le_of_lt l1); (try have l1f := Nat.le_add_right_of_le (k := 1) l1e); (try have l2 := Nat.lt_of_lt_of_le l2 (show _ ≤ w3.heap.size by omega)); (try have l2e := Nat.le_of_lt l2); (try have l2f := Nat.le_add_right_of_le (k := 1) l2e); (try have l3 := Nat.lt_of_lt_of_le l3 (show _ ≤ w3.heap.size by omega)); (try have l3e := Nat.le_of_lt l3); (try have l3f := Nat.le_add_right_of_le (k := 1) l3e)
    have E13 := Lib.hid (E12.out.tr hb)
    clear hb hc hf hz
    go_wp2_with (fail)
    go_at_call 13
    refine (alive_c _).mono ?_
    rintro e w9 ⟨rfl, hb⟩
    obtain ⟨hc, hf, hz, hs⟩ := bcell hb
    (try simp only [World.size_alloc, World.size_setCell, World.size_drew, size_drewN] at hs); (first | have l0 := Nat.lt_of_lt_of_le l0 (show _ ≤ w9.heap.size by omega) | have l0 : w.heap.size < w9.heap.size := (by omega) | skip); (try have l0e := Nat.le_of_lt l0); (try have l0f := Nat.le_add_right_of_le (k := 1) l0e); (try have l1 := Nat.lt_of_lt_of_le l1 (show _ ≤ w9.heap.size by omega)); (try have l1e := Nat.le_of_lt l1); (try have l1f := Nat.le_add_right_of_le (k := 1) l1e); (try have l2 := Nat.lt_of_lt_of_le l2 (show _ ≤ w9.heap.size by omega)); (try have l2e := Nat.le_of_lt l2); (try have l2f := Nat.le_add_right_of_le (k := 1) l2e); (try have l3 := Nat.lt_of_lt_of_le l3 (show _ ≤ w9.heap.size by omega)); (try have l3e := Nat.le_of_lt l3); (try have l3f := Nat.le_add_right_of_le (k := 1) l3e)
    go_wp2
    go_ret
    exact ⟨rfl, (e1.tr E13.out).tr hb⟩
  | true =>
    have HSi := Lib.hid (hsi hV)
    have HSw := Lib.hid (hsw hV)
    rw [hV] at CI CS
    rw [hsr hV] at CR
    have CI := Lib.hid CI
    have CS := Lib.hid CS
    have CR := Lib.hid CR
    have CT := Lib.hid CT
    clear hV hsi hsw hsr
    go_wp2_with (fail)
    go_at_call 18
    refine (CI.out _ HX.out HI.out).mono ?_
    rintro e w2 ⟨rfl, hb⟩
    obtain ⟨hc, hf, hz, hs⟩ := bcell hb
    (try simp only [World.size_alloc, World.size_setCell, World.size_drew, size_drewN] at hs); (first | have l0 := Nat.lt_of_lt_of_le l0 (show _ ≤ w2.heap.size by omega) | have l0 : w.heap.size < w2.heap.size := (by omega) | skip); (try have l0e := Nat.le_of_lt l0); (try have l0f := Nat.le_add_right_of_le (k := 1) l0e); (try have l1 := Nat.lt_of_lt_of_le l1 (show _ ≤ w2.heap.size by omega)); (try have l1e := Nat.le_of_lt l1); (try have l1f := Nat.le_add_right_of_le (k := 1) l1e); (try have l2 := Nat.lt_of_lt_of_le l2 (show _ ≤ w2.heap.size by omega)); (try have l2e := Nat.le_of_lt l2); (try have l2f := Nat.le_add_right_of_le (k := 1) l2e); (try have l3 := Nat.lt_of_lt_of_le l3 (show _ ≤ w2.heap.size by omega)); (try have l3e := Nat.le_of_lt l3); (try have l3f := Nat.le_add_right_of_le (k := 1) l3e)
    have E12 := Lib.hid (show Ext w1 w2 from hb)
    clear hb hc hf hz
    go_wp2_with (fail)
    go_at_call 19
    refine (CS.out _ (HX.out.ext E12.out) (HI.out.ext E12.out)).mono ?_
    rintro e w3 ⟨rfl, hb⟩
    obtain ⟨hc, hf, hz, hs⟩ := bcell hb
    (try simp only [World.size_alloc, World.size_setCell, World.size_drew, size_drewN] at hs); (first | have l0 := Nat.lt_of_lt_of_le l0 (show _ ≤ w3.heap.size by omega) | have l0 : w.heap.size < w3.heap.size := (by omega) | skip); (try have l0e := Nat.le_of_lt l0); (try have l0f := Nat.le_add_right_of_le (k := 1) l0e); (try have l1 := Nat.lt_of_lt_of_le l1 (show _ ≤ w3.heap.size by omega)); (try have l1e := Nat.le_of_lt l1); (try have l1f := Nat.le_add_right_of_le (k := 1) l1e); (try have l2 := Nat.lt_of_lt_of_le l2 (show _ ≤ w3.heap.size by omega)); (try have l2e := Nat.le_of_lt l2); (try have l2f := Nat.le_add_right_of_le (k := 1) l2e); (try have l3 := Nat.lt_of_lt_of_le l3 (show _ ≤ w3.heap.size by omega)); (try have l3e := Nat.le_of_lt l3); (try have l3f := Nat.le_add_right_of_le (k := 1) l3e)
    have HE4 := Lib.hid (E12.out.tr hb)
    have hz14 := HE4.out.size
    clear hb hc hf hz CI CS
    obtain ⟨wo, rfl⟩ : ∃ wo : World, wo = w3 := ⟨_, rfl⟩
    go_wp2_with (fail)
    have hO0 : OwnT (wo.alloc (.cells #[] 32)) wo.heap.size wo.heap.size (.slice (some ⟨wo.heap.size, 0, none⟩) 0 0) [] := OwnT.made0 wo (Nat.le_refl _)
    have HO0 := Lib.hid hO0
    clear hO0
    go_loopw [6, 7] (fun v i wr => ∃ (k : Nat) (qs : List PT) (lim' : Nat), k ≤ H.length ∧ i = .int .i64 k ∧ OwnT wr wo.heap.size lim' v qs ∧ lim' ≤ wr.heap.size ∧ qs.map PT.txn = lwH (H.take k) ∧ qs.length = k ∧ Ext wo wr) (fun _ i _ => H.length - (intOf i).toNat)
    case atStart => exact ⟨0, [], _, Nat.zero_le _, rfl, HO0.out, by simp, rfl, rfl, by (repeat' (first | (with_reducible exact Below.refl _ _) | (with_reducible refine Below.mono (by assumption) ?_) | (with_reducible refine Below.trans ?_ (Below.mono (by assumption) ?_)) | (with_reducible refine Below.alloc ?_ ?_ _) | (with_reducible refine Below.drew ?_) | (with_reducible refine below_drewN ?_ _) | (with_reducible refine Below.setCell ?_ ?_ _) | (simp only [World.size_alloc, World.size_setCell, World.size_drew, size_drewN]; omega) | omega))⟩
    case round =>
      obtain ⟨k, qs, lim', hk, rfl, hOT, hlim, hqm, hql, hE5⟩ := hrel
      have hz5 := hE5.size
      by_cases hlt : k < H.length
      · obtain ⟨s, ops, dd, A', cap, b, off, hxk, hA2, _, hb0, hOp, c0, c1, c2'⟩ := HX.out.at_ hlt
        have hon := hsl.ops hxk
        simp only at hon
        have hE15 := (HE4.out).tr hE5
        have f0 := hE15.keep hb0 c0
        have f1 := hE15.keep hb0 c1
        have f2 := hE15.keep hb0 c2'
        have hlb : b < wr.heap.size := by have := hE15.size; omega
        have htk := lwH_take hxk
        rw [← hqm] at htk
        have HTK := Lib.hid htk
        have HOT := Lib.hid hOT
        have CL : Hid (∀ W, Ops Any W A' ops → Calls Tryd.prog 20 #[.agg #[.int .i64 s, .slice A' ops.length cap, .bool dd]] W fun e w' => ∃ v, e = .returned v ∧ Own3 w' W.heap.size 34 v (if txnv ⟨s, ops, dd⟩ = true then lwsTo ops 3 else []) ∧ Ext W w') := Lib.hid (fun W h => implLWO_c ⟨s, ops, dd⟩ Any A' cap W h hon)
        have HLT : Hid (lwT ⟨s, ops, dd⟩ = ⟨s, (if txnv ⟨s, ops, dd⟩ = true then lwsTo ops 3 else []), dd⟩) := Lib.hid rfl
        generalize (if txnv ⟨s, ops, dd⟩ = true then lwsTo ops 3 else []) = LW at CL HLT
        clear hxk htk hqm hOT
        subst hA2
        go_upto_block 1 with (fail)
        go_cut [6] from 28 to 52 (fun v W => ∃ (lim2 : Nat) (A5 : Option Addr) (c5 : Nat), OwnT W wo.heap.size lim2 v (qs ++ [⟨s, A5, c5, LW, dd⟩]) ∧ lim2 ≤ W.heap.size ∧ Ext wo W)
        case first =>
          go_upto_region 13 with (fail)
          have hn1000 : qs.length ≤ 1000 := by omega
          go_region_held3 (fun W => W.cell? ⟨b, off + k * 3, none⟩ = some (.int .i64 s) ∧ W.cell? ⟨b, off + k * 3 + 1, none⟩ = some (.slice A' ops.length cap) ∧ W.cell? ⟨b, off + k * 3 + 2, none⟩ = some (.bool dd))
            (first | go_keep | exact ⟨hE9.keep hlb f0, hE9.keep hlb f1, hE9.keep hlb f2⟩ | exact ⟨(HE4.out.tr hE10).keep hb0 c0, (HE4.out.tr hE10).keep hb0 c1, (HE4.out.tr hE10).keep hb0 c2'⟩)
            (first
              | (go_at_call 20; with_reducible refine (CL.out _ (hOp.ext (hE15.tr (by (repeat' (first | (with_reducible exact Below.refl _ _) | (with_reducible refine Below.mono (by assumption) ?_) | (with_reducible refine Below.trans ?_ (Below.mono (by assumption) ?_)) | (with_reducible refine Below.alloc ?_ ?_ _) | (with_reducible refine Below.drew ?_) | (with_reducible refine below_drewN ?_ _) | (with_reducible refine Below.setCell ?_ ?_ _) | (simp only [World.size_alloc, World.size_setCell, World.size_drew, size_drewN]; omega) | omega)))))).mono ?_; rintro e w9 ⟨v9, rfl, hO9, hb9⟩
                 have hE9 : Ext wr w9 := Ext.tr (by (repeat' (first | (with_reducible exact Below.refl _ _) | (with_reducible refine Below.mono (by assumption) ?_) | (with_reducible refine Below.trans ?_ (Below.mono (by assumption) ?_)) | (with_reducible refine Below.alloc ?_ ?_ _) | (with_reducible refine Below.drew ?_) | (with_reducible refine below_drewN ?_ _) | (with_reducible refine Below.setCell ?_ ?_ _) | (simp only [World.size_alloc, World.size_setCell, World.size_drew, size_drewN]; omega) | omega))) hb9
                 clear hb9
                 obtain ⟨A5, c5, rfl, hx5, hf5⟩ := hO9.form)
              | (refine step_appT rfl (.tmp 34) (.tmp 51) rfl wo.heap.size _ rfl qs.length qs (HOT.out.ext (hE9.tr (by (repeat' (first | (with_reducible exact Below.refl _ _) | (with_reducible refine Below.mono (by assumption) ?_) | (with_reducible refine Below.trans ?_ (Below.mono (by assumption) ?_)) | (with_reducible refine Below.alloc ?_ ?_ _) | (with_reducible refine Below.drew ?_) | (with_reducible refine below_drewN ?_ _) | (with_reducible refine Below.setCell ?_ ?_ _) | (simp only [World.size_alloc, World.size_setCell, World.size_drew, size_drewN]; omega) | omega))))).1 _ ⟨s, A5, c5, LW, dd⟩ rfl
                   (by first | exact box_atW (W0 := w9) (t := 32) rfl (Below.refl _ _)) hn1000 (by have := hE9.size; simp only [World.size_alloc]; omega) ?_
                 intro v10 w10 hrow hg10
                 have hE10 : Ext wo w10 := Below.grown (w := w9.alloc (.cells #[.int .i64 s, .slice A5 LW.length c5, .bool dd] 32)) ((hE5.tr hE9).tr (by (repeat' (first | (with_reducible exact Below.refl _ _) | (with_reducible refine Below.mono (by assumption) ?_) | (with_reducible refine Below.trans ?_ (Below.mono (by assumption) ?_)) | (with_reducible refine Below.alloc ?_ ?_ _) | (with_reducible refine Below.drew ?_) | (with_reducible refine below_drewN ?_ _) | (with_reducible refine Below.setCell ?_ ?_ _) | (simp only [World.size_alloc, World.size_setCell, World.size_drew, size_drewN]; omega) | omega)))) hg10 (by have := hE9.size; simp only [World.size_alloc]; omega) (fun g hg => (own_at (HOT.out.ext (hE9.tr (by (repeat' (first | (with_reducible exact Below.refl _ _) | (with_reducible refine Below.mono (by assumption) ?_) | (with_reducible refine Below.trans ?_ (Below.mono (by assumption) ?_)) | (with_reducible refine Below.alloc ?_ ?_ _) | (with_reducible refine Below.drew ?_) | (with_reducible refine below_drewN ?_ _) | (with_reducible refine Below.setCell ?_ ?_ _) | (simp only [World.size_alloc, World.size_setCell, World.size_drew, size_drewN]; omega) | omega))))).1 hg).1)))
          all_goals
            go_wp2_with (fail)
            go_meet
            have hz9 := hE9.size
            have hEb : Ext w9 (w9.alloc (.cells #[.int .i64 s, .slice A5 LW.length c5, .bool dd] 32)) := by (repeat' (first | (with_reducible exact Below.refl _ _) | (with_reducible refine Below.mono (by assumption) ?_) | (with_reducible refine Below.trans ?_ (Below.mono (by assumption) ?_)) | (with_reducible refine Below.alloc ?_ ?_ _) | (with_reducible refine Below.drew ?_) | (with_reducible refine below_drewN ?_ _) | (with_reducible refine Below.setCell ?_ ?_ _) | (simp only [World.size_alloc, World.size_setCell, World.size_drew, size_drewN]; omega) | omega))
            refine ⟨_, A5, c5, (HOT.out.ext (hE9.tr hEb)).more (p := ⟨s, A5, c5, LW, dd⟩) ((hO9.below (by simp only [World.size_drew]; omega)).ext hEb) (fun a ha => by have := (hf5 a ha).2.1; simp only [World.size_alloc]; omega) (by simp only [World.size_alloc]; omega) hrow hg10, hg10.size, hE10⟩
        case rest =>
          obtain ⟨lim2, A5, c5, hOT2, hlim2, hE6⟩ := hcut
          go_wp2
          refine ⟨⟨k + 1, qs ++ [⟨s, A5, c5, LW, dd⟩], lim2, by omega, by go_num, hOT2, hlim2, ?_, by simp [hql], hE6⟩, by simp [intOf]; omega⟩
          rw [List.map_append, HTK.out, HLT.out]
          rfl
      · obtain rfl : k = H.length := by omega
        have hqm : List.map PT.txn qs = lwH H := by simpa using hqm
        have hE15 := (HE4.out).tr hE5
        obtain ⟨A9, c9, hv9, hc9, hx9⟩ := hOT.read
        subst hv9
        rw [List.length_map] at hOT
        have hx9' := txns_anyR hx9
        rw [hqm] at hx9' ⊢
        have HXW := Lib.hid hx9'
        have HXH := Lib.hid (HX.out.ext hE15)
        have HCH := Lib.hid (HC.out.ext hE15)
        have HIH := Lib.hid (HI.out.ext hE15)
        have HEW := Lib.hid (show Ext w wr from e1.tr hE15)
        have hsmw : Small (lwH H) := by
          have h2 := total_small (h := lwH H) (fun t ht => by
            obtain ⟨t0, _, rfl⟩ := List.mem_map.1 ht
            have := lwsTo_len t0.ops 3
            simp only [lwT]
            split <;> simp <;> omega)
          have h3 : (lwH H).length = H.length := by simp [lwH]
          unfold Small
          omega
        have CW := fun W hx hi => implSerialRight_c (lwH H) ns Any Any A9 B c9 d W hx hsmw hi (by omega)
        rw [HSw.out] at CW
        generalize hHW : lwH H = HWR at HXW hsmw CW ⊢
        have CW := Lib.hid CW
        clear hx9 hx9' hOT hlim hqm hql hHW HSw hlt hE5 hE15
        by_cases hn0 : ns.length = 0
        · have hnb : ((ns.length : Int) == 0) = true := by rw [hn0]; rfl
          have HN0 := Lib.hid hn0
          clear hn0
          go_wp2_with (fail)
          go_at_call 18
          refine (CW.out _ HXW.out HIH.out).mono ?_
          rintro e w6 ⟨rfl, hb⟩
          obtain ⟨hc, hf, hz, hs⟩ := bcell hb
          (try simp only [World.size_alloc, World.size_setCell, World.size_drew, size_drewN] at hs); (first | have l0 := Nat.lt_of_lt_of_le l0 (show _ ≤ w6.heap.size by omega) | have l0 : w.heap.size < w6.heap.size := (by omega) | skip); (try have l0e := Nat.le_of_lt l0); (try have l0f := Nat.le_add_right_of_le (k := 1) l0e); (try have l1 := Nat.lt_of_lt_of_le l1 (show _ ≤ w6.heap.size by omega)); (try have l1e := Nat.le_of_lt l1); (try have l1f := Nat.le_add_right_of_le (k := 1) l1e); (try have l2 := Nat.lt_of_lt_of_le l2 (show _ ≤ w6.heap.size by omega)); (try have l2e := Nat.le_of_lt l2); (try have l2f := Nat.le_add_right_of_le (k := 1) l2e); (try have l3 := Nat.lt_of_lt_of_le l3 (show _ ≤ w6.heap.size by omega)); (try have l3e := Nat.le_of_lt l3); (try have l3f := Nat.le_add_right_of_le (k := 1) l3e)
          have HE6 := Lib.hid (show Ext wr w6 from hb)
          clear hc hf hz hb
          go_wp2_with (fail)
          go_at_call 21
          refine (CR.out _ (HXH.out.ext HE6.out) (HCH.out.ext HE6.out)).mono ?_
          rintro e w7 ⟨rfl, hb⟩
          obtain ⟨hc, hf, hz, hs⟩ := bcell hb
          (try simp only [World.size_alloc, World.size_setCell, World.size_drew, size_drewN] at hs); (first | have l0 := Nat.lt_of_lt_of_le l0 (show _ ≤ w7.heap.size by omega) | have l0 : w.heap.size < w7.heap.size := (by omega) | skip); (try have l0e := Nat.le_of_lt l0); (try have l0f := Nat.le_add_right_of_le (k := 1) l0e); (try have l1 := Nat.lt_of_lt_of_le l1 (show _ ≤ w7.heap.size by omega)); (try have l1e := Nat.le_of_lt l1); (try have l1f := Nat.le_add_right_of_le (k := 1) l1e); (try have l2 := Nat.lt_of_lt_of_le l2 (show _ ≤ w7.heap.size by omega)); (try have l2e := Nat.le_of_lt l2); (try have l2f := Nat.le_add_right_of_le (k := 1) l2e); (try have l3 := Nat.lt_of_lt_of_le l3 (show _ ≤ w7.heap.size by omega)); (try have l3e := Nat.le_of_lt l3); (try have l3f := Nat.le_add_right_of_le (k := 1) l3e)
          go_wp2
          go_ret
          exact ⟨rfl, (HEW.out.tr HE6.out).tr hb⟩
        · have hnb : ((ns.length : Int) == 0) = false := beq_eq_false_iff_ne.2 (by omega)
          have CT2 : Hid (∀ W, Txns Any W A2 H → Ints Any W B (ns.take (ns.length - 1)) → Calls Tryd.prog 18 #[.slice A2 H.length c2, .slice B (ns.length - 1) d] W fun e w' => e = .returned (.bool false) ∧ Ext W w') := Lib.hid (fun W hx hi => by
            have := CT.out W hx hi
            rw [HSi.out (by omega), List.length_take, show min (ns.length - 1) ns.length = ns.length - 1 by omega] at this
            exact this)
          have hn1 : (0 : Int) ≤ (ns.length : Int) - 1 := by omega
          have hn2 : (ns.length : Int) - 1 ≤ (d : Int) := by omega
          have hn3 : ((ns.length : Int) - 1).toNat = ns.length - 1 := by omega
          clear hn0 CT
          go_wp2_with (fail)
          go_at_call 18
          refine (CT2.out _ HXH.out (ints_takeS HIH.out _)).mono ?_
          rintro e w5 ⟨rfl, hb⟩
          obtain ⟨hc, hf, hz, hs⟩ := bcell hb
          (try simp only [World.size_alloc, World.size_setCell, World.size_drew, size_drewN] at hs); (first | have l0 := Nat.lt_of_lt_of_le l0 (show _ ≤ w5.heap.size by omega) | have l0 : w.heap.size < w5.heap.size := (by omega) | skip); (try have l0e := Nat.le_of_lt l0); (try have l0f := Nat.le_add_right_of_le (k := 1) l0e); (try have l1 := Nat.lt_of_lt_of_le l1 (show _ ≤ w5.heap.size by omega)); (try have l1e := Nat.le_of_lt l1); (try have l1f := Nat.le_add_right_of_le (k := 1) l1e); (try have l2 := Nat.lt_of_lt_of_le l2 (show _ ≤ w5.heap.size by omega)); (try have l2e := Nat.le_of_lt l2); (try have l2f := Nat.le_add_right_of_le (k := 1) l2e); (try have l3 := Nat.lt_of_lt_of_le l3 (show _ ≤ w5.heap.size by omega)); (try have l3e := Nat.le_of_lt l3); (try have l3f := Nat.le_add_right_of_le (k := 1) l3e)
          have HE5 := Lib.hid (show Ext wr w5 from hb)
          clear hc hf hz hb
          go_wp2_with (fail)
          go_at_call 18
          refine (CW.out _ (HXW.out.ext HE5.out) (HIH.out.ext HE5.out)).mono ?_
          rintro e w6 ⟨rfl, hb⟩
          obtain ⟨hc, hf, hz, hs⟩ := bcell hb
          (try simp only [World.size_alloc, World.size_setCell, World.size_drew, size_drewN] at hs); (first | have l0 := Nat.lt_of_lt_of_le l0 (show _ ≤ w6.heap.size by omega) | have l0 : w.heap.size < w6.heap.size := (by omega) | skip); (try have l0e := Nat.le_of_lt l0); (try have l0f := Nat.le_add_right_of_le (k := 1) l0e); (try have l1 := Nat.lt_of_lt_of_le l1 (show _ ≤ w6.heap.size by omega)); (try have l1e := Nat.le_of_lt l1); (try have l1f := Nat.le_add_right_of_le (k := 1) l1e); (try have l2 := Nat.lt_of_lt_of_le l2 (show _ ≤ w6.heap.size by omega)); (try have l2e := Nat.le_of_lt l2); (try have l2f := Nat.le_add_right_of_le (k := 1) l2e); (try have l3 := Nat.lt_of_lt_of_le l3 (show _ ≤ w6.heap.size by omega)); (try have l3e := Nat.le_of_lt l3); (try have l3f := Nat.le_add_right_of_le (k := 1) l3e)
          have HE6 := Lib.hid (HE5.out.tr hb)
          clear hc hf hz hb
          go_wp2_with (fail)
          go_at_call 21
          refine (CR.out _ (HXH.out.ext HE6.out) (HCH.out.ext HE6.out)).mono ?_
          rintro e w7 ⟨rfl, hb⟩
          obtain ⟨hc, hf, hz, hs⟩ := bcell hb
          (try simp only [World.size_alloc, World.size_setCell, World.size_drew, size_drewN] at hs); (first | have l0 := Nat.lt_of_lt_of_le l0 (show _ ≤ w7.heap.size by omega) | have l0 : w.heap.size < w7.heap.size := (by omega) | skip); (try have l0e := Nat.le_of_lt l0); (try have l0f := Nat.le_add_right_of_le (k := 1) l0e); (try have l1 := Nat.lt_of_lt_of_le l1 (show _ ≤ w7.heap.size by omega)); (try have l1e := Nat.le_of_lt l1); (try have l1f := Nat.le_add_right_of_le (k := 1) l1e); (try have l2 := Nat.lt_of_lt_of_le l2 (show _ ≤ w7.heap.size by omega)); (try have l2e := Nat.le_of_lt l2); (try have l2f := Nat.le_add_right_of_le (k := 1) l2e); (try have l3 := Nat.lt_of_lt_of_le l3 (show _ ≤ w7.heap.size by omega)); (try have l3e := Nat.le_of_lt l3); (try have l3f := Nat.le_add_right_of_le (k := 1) l3e)
          go_wp2
          go_ret
          exact ⟨rfl, (HEW.out.tr HE6.out).tr hb⟩

theorem FnSerialRight_reads (os : Os) {H : Type} (enc : TypeId × Value → H) : ∃ places, DataW.whole enc Tryd.prog ((Law.laidWorld os).forCall (fun _ _ => 0) ⟨#[], #[.slice none 0 0], []⟩).memory Tryd.f5.params.toList Rows.fnSerialRightSpec.vars false (#[.slice none 0 0] : Array Value).toList 8 = some ([.nil], [], places) :=
  ⟨[], by kernel_rfl⟩
theorem FnSerialRight_laid (os : Os) : laidMet Tryd.prog Rows.fnSerialRightRow.laid ((Law.laidWorld os).forCall (fun _ _ => 0) ⟨#[], #[.slice none 0 0], []⟩).memory :=
  laidMet_of_run' 8 (by kernel_rfl) (by kernel_rfl)
set_option maxRecDepth 100000 in
theorem FnSerialRight_lifted (os : Os) (started : os.Started) (H : Type) (enc : TypeId × Value → H) (F : Stop.Interp) :
    ReturnsInHanded {} Tryd.checked os 5 .any ((OpenSpec.ofChange Rows.fnSerialRightSpec).preRow enc Tryd.prog Tryd.f5 Rows.fnSerialRightRow.domain false Rows.fnSerialRightRow.laid) (((OpenSpec.ofChange Rows.fnSerialRightSpec).at F).post enc Tryd.prog Tryd.f5 false true false false) := by
  obtain ⟨places, hx⟩ := FnSerialRight_reads os enc
  refine returnsInHanded_of_row (C := Tryd.checked) (s := OpenSpec.ofChange Rows.fnSerialRightSpec) Law.own started (by kernel_rfl) Tryd.func5
    (witness_row_at (enc := enc) (C := Tryd.checked) false (Law.laidWorld os) #[.slice none 0 0] rfl (by kernel_rfl) (by kernel_rfl) (by kernel_rfl)
      (OpenSpec.preRow_of_cond 8 hx (by kernel_rfl) (fun k hk => by cases hk) (by kernel_rfl) (FnSerialRight_laid os))) ?_
  intro W base args ds gs before hval0 hW _ _ _ hLaid _ _
  have hval : ∀ (j : Nat) t v, Tryd.f5.params[j]? = some t → args[j]? = some v → Value.okWide Tryd.prog W .any base t v := hval0
  have hW' := hW
  obtain ⟨p, q, hA0, hV, rfl, hfz, hnd⟩ := hW
  have hA : DataW.TrodAll enc Tryd.prog W 0 (fun _ => true) true Tryd.f5.params.toList args.toList ds p := hA0
  rw [Tryd.params5] at hA hval
  obtain ⟨v0, vs0, d0, ds0, p0, q0, hargs, hds, rfl, h0, r0⟩ := trodAll_cons hA
  obtain ⟨rfl, rfl, rfl⟩ := trodAll_nil r0
  obtain rfl : args = #[v0] := by cases args; simp_all
  subst hds
  obtain ⟨x0, A0, c0, rfl, hO0, wf0⟩ := Law.open_bytes Tryd.underlying22 Tryd.underlying5 (by kernel_rfl) (hval 0 22 v0 rfl rfl) h0
  refine (FnSerialRight_c x0 A0 c0 W hO0 wf0 (Law.bytes_cap Tryd.underlying22 (hval 0 22 _ rfl rfl))).mono fun e W' ⟨he, hb⟩ => ?_
  subst he
  refine ⟨_, rfl, Law.post_true Law.laidOut ?_ rfl rfl Tryd.underlying4 ⟨rfl, rfl, rfl⟩ hW' hb⟩
  intro t ht
  rw [Tryd.params5] at ht
  simp only [List.mem_cons, List.not_mem_nil, or_false] at ht
  first | (rcases ht with rfl <;> exact ⟨by kernel_rfl, of_decide_eq_true (by kernel_rfl)⟩)

theorem FnSerialRight_holds : Rows.FnSerialRightSaid :=
  OpenClaim.holds_of_cond 5 Tryd.f5 rfl rfl rfl rfl rfl rfl rfl ⟨rfl, rfl, rfl, rfl, rfl⟩ rfl rfl rfl rfl rfl (by kernel_rfl) Tryd.func5 (by kernel_rfl)
    (of_decide_eq_true (by kernel_rfl)) (by unfold Func.isWrapper; first | (rw [if_pos (by decide +kernel)]; kernel_rfl) | (rw [if_neg (by decide +kernel)]; exact ⟨rfl, rfl⟩))
    (fun os started H enc _ F => by rw [OpenClaim.pre_eq_preRow]; exact FnSerialRight_lifted os started H enc F)
theorem FnSerialRight_plain (f : FuncId) (fn : Func) (hf : Tryd.pinned.checked.prog.funcNamed Rows.fnSerialRightRow.func = some f) (hfn : Tryd.pinned.checked.prog.funcs[f]? = some fn) :
    false = Tryd.pinned.checked.prog.looks [] ∧ ∀ (j : Nat) t, fn.params[j]? = some t → Tryd.pinned.checked.prog.wantsStandIn t = false := by
  obtain rfl : f = 5 := Option.some.inj ((show Tryd.prog.funcNamed Rows.fnSerialRightRow.func = some 5 by kernel_rfl).symm.trans hf) |>.symm
  obtain rfl : fn = Tryd.f5 := (Option.some.inj (Tryd.func5.symm.trans hfn)).symm
  refine ⟨by kernel_rfl, fun j t ht => ?_⟩
  rw [Tryd.params5] at ht
  have hm := Array.mem_of_getElem? ht
  simp only [List.mem_toArray, List.mem_cons, List.not_mem_nil, or_false] at hm
  rcases hm with rfl
  · exact (show Tryd.prog.wantsStandIn 22 = false by kernel_rfl)
theorem FnSerialRight_card : Rows.FnSerialRightCardSaid :=
  Claim7.holds_tied_plain_at .later [] _ _ _ _ FnSerialRight_holds (fun _ h => by cases h) (by kernel_rfl) (fun _ h => by cases h) fnSerialRight_row_tie rfl ⟨rfl, rfl⟩ (by kernel_rfl) rfl FnSerialRight_plain (by kernel_rfl)

end Go.Proofs.YtdgfipoibnjhaaaDoor
