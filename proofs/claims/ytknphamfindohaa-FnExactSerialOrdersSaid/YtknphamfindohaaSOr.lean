/-
  Contracts of SerialOrders, the reference's and the program's.
-/
import Derived.Test.YtknphamfindohaaSer
import Derived.Test.YtknphamfindohaaFirst
namespace Go.Proofs.Ytknphamfindohaa
set_option linter.unusedSimpArgs false
set_option linter.unusedVariables false
set_option maxRecDepth 100000
open Go.RowKit

/-- the orders of values of a serial order -/
def soV (h : List TxnT) (ns : List Int) : List (List Int) := if serV h ns = true then [inD h 0 ns, inD h 1 ns, inD h 2 ns] else []
def soT (h : List TxnT) (ns : List Int) (k : Nat) : List (List Int) := (List.range k).map fun i : Nat => inD h ((i : Nat) : Int) ns
theorem soT_succ (h : List TxnT) (ns : List Int) (k : Nat) : soT h ns (k + 1) = soT h ns k ++ [inD h (k : Int) ns] := by simp [soT, List.range_succ]
theorem inD_len (h : List TxnT) (key : Int) (ns : List Int) : (inD h key ns).length ≤ 3 * ns.length := by
  unfold inD
  induction ns with
  | nil => simp
  | cons n ns ih =>
    rw [List.flatMap_cons, List.length_append, List.length_cons]
    refine Nat.le_trans (Nat.add_le_add (?_ : _ ≤ 3) ih) (by omega)
    split
    · exact Nat.le_trans (kvs_len _ _) (lwsTo_len _ 3)
    · simp
theorem serV_parts {h : List TxnT} {ns : List Int} (hs : serV h ns = true) : histv h = true ∧ l7v ns (dnT h h.length) = true ∧ ns.length ≤ 6 := by
  simp only [serV, Bool.and_eq_true] at hs
  refine ⟨hs.1, hs.2.1, ?_⟩
  have h1 := ((l7v_perm (dnT_nodup (h := h) h.length)).1 hs.2.1).length_eq
  have h2 := dnT_len h h.length
  have h3 := histv_len hs.1
  omega
theorem soV_small (h : List TxnT) (ns : List Int) : SmallR (soV h ns) := by
  unfold soV
  split
  · rename_i hs
    have h6 := (serV_parts hs).2.2
    have h0 := inD_len h 0 ns
    have h1 := inD_len h 1 ns
    have h2 := inD_len h 2 ns
    unfold SmallR tot
    simp only [List.map_cons, List.map_nil, List.sum_cons, List.sum_nil, List.length_cons, List.length_nil]
    omega
  · unfold SmallR tot
    simp

set_option maxHeartbeats 8000000 in
theorem specSerialOrders_c (h : List TxnT) (ns : List Int) (S S' : Nat → Prop) (A B : Option Addr) (c d : Nat) (w : World) (hx : Txns S w A h) (hcap : CapN w A h.length) (hsm : Small h) (hi : Ints S' w B ns) (hn : ns.length ≤ 1048576) :
    Calls Try.prog 30 #[.slice A h.length c, .slice B ns.length d] w (FreshRR (soV h ns) w) := by
  have CV := fun S A c w hx hi => specSerialRight_c h ns S S' A B c d w hx hsm hi hn
  have CO := Lib.hid (fun w hx hcap => l1OwnTxnList_c h S A c w hx hcap hsm)
  unfold soV
  have HX := Lib.hid hx
  have HI := Lib.hid hi
  have HCP := Lib.hid hcap
  clear hx hcap hi
  cases hv : serV h ns with
  | false =>
    rw [if_neg (by simp)]
    rw [hv] at CV
    have HCV := Lib.hid CV
    clear CV hv
    go_enter Try.func30, Try.ntmps30
    go_wp2_with (fail)
    go_at_call 34
    refine (CO.out _ (HX.out.ext (by (repeat' (first | (with_reducible exact Below.refl _ _) | (with_reducible refine Below.mono (by assumption) ?_) | (with_reducible refine Below.trans ?_ (Below.mono (by assumption) ?_)) | (with_reducible refine Below.alloc ?_ ?_ _) | (with_reducible refine Below.drew ?_) | (with_reducible refine below_drewN ?_ _) | (with_reducible refine Below.setCell ?_ ?_ _) | (simp only [World.size_alloc, World.size_setCell, World.size_drew, size_drewN]; omega) | omega)))) (HCP.out.ext (by (repeat' (first | (with_reducible exact Below.refl _ _) | (with_reducible refine Below.mono (by assumption) ?_) | (with_reducible refine Below.trans ?_ (Below.mono (by assumption) ?_)) | (with_reducible refine Below.alloc ?_ ?_ _) | (with_reducible refine Below.drew ?_) | (with_reducible refine below_drewN ?_ _) | (with_reducible refine Below.setCell ?_ ?_ _) | (simp only [World.size_alloc, World.size_setCell, World.size_drew, size_drewN]; omega) | omega))))).mono ?_
    rintro e w1 ⟨A1, c1, rfl, hT, _, hb⟩
    obtain ⟨hc, hf, hz, hs⟩ := bcell hb
    (try simp only [World.size_alloc, World.size_setCell, World.size_drew, size_drewN] at hs); (first | have l0 := Nat.lt_of_lt_of_le l0 (show _ ≤ w1.heap.size by omega) | have l0 : w.heap.size < w1.heap.size := (by omega) | skip); (try have l0e := Nat.le_of_lt l0); (try have l0f := Nat.le_add_right_of_le (k := 1) l0e); (try have l1 := Nat.lt_of_lt_of_le l1 (show _ ≤ w1.heap.size by omega)); (try have l1e := Nat.le_of_lt l1); (try have l1f := Nat.le_add_right_of_le (k := 1) l1e); (try have l2 := Nat.lt_of_lt_of_le l2 (show _ ≤ w1.heap.size by omega)); (try have l2e := Nat.le_of_lt l2); (try have l2f := Nat.le_add_right_of_le (k := 1) l2e); (try have l3 := Nat.lt_of_lt_of_le l3 (show _ ≤ w1.heap.size by omega)); (try have l3e := Nat.le_of_lt l3); (try have l3f := Nat.le_add_right_of_le (k := 1) l3e)
    have HT := Lib.hid (show Txns Any w1 A1 h from SlAt.mono hT (fun _ _ _ => trivial) (fun x us hh => mono_txn (fun _ _ _ => trivial) x us hh))
    have E1 := Lib.hid (show Ext w w1 by (repeat' (first | (with_reducible exact Below.refl _ _) | (with_reducible refine Below.mono (by assumption) ?_) | (with_reducible refine Below.trans ?_ (Below.mono (by assumption) ?_)) | (with_reducible refine Below.alloc ?_ ?_ _) | (with_reducible refine Below.drew ?_) | (with_reducible refine below_drewN ?_ _) | (with_reducible refine Below.setCell ?_ ?_ _) | (simp only [World.size_alloc, World.size_setCell, World.size_drew, size_drewN]; omega) | omega)))
    clear hT hc hf hz hb
    have HO := Lib.hid (OwnR.made w1 (B := w1.heap.size) #[] 0 (Nat.le_refl _) (by omega) rfl)
    have e2 : Ext w1 (w1.alloc (.cells #[] 40)) := by (repeat' (first | (with_reducible exact Below.refl _ _) | (with_reducible refine Below.mono (by assumption) ?_) | (with_reducible refine Below.trans ?_ (Below.mono (by assumption) ?_)) | (with_reducible refine Below.alloc ?_ ?_ _) | (with_reducible refine Below.drew ?_) | (with_reducible refine below_drewN ?_ _) | (with_reducible refine Below.setCell ?_ ?_ _) | (simp only [World.size_alloc, World.size_setCell, World.size_drew, size_drewN]; omega) | omega))
    have HE2 := Lib.hid e2
    clear e2
    go_wp2_with (fail)
    go_at_call 26
    refine (HCV.out _ _ _ _ (HT.out.ext HE2.out) (HI.out.ext (E1.out.tr HE2.out))).mono ?_
    rintro e w2 ⟨rfl, hb⟩
    obtain ⟨hc, hf, hz, hs⟩ := bcell hb
    (try simp only [World.size_alloc, World.size_setCell, World.size_drew, size_drewN] at hs); (first | have l0 := Nat.lt_of_lt_of_le l0 (show _ ≤ w2.heap.size by omega) | have l0 : w.heap.size < w2.heap.size := (by omega) | skip); (try have l0e := Nat.le_of_lt l0); (try have l0f := Nat.le_add_right_of_le (k := 1) l0e); (try have l1 := Nat.lt_of_lt_of_le l1 (show _ ≤ w2.heap.size by omega)); (try have l1e := Nat.le_of_lt l1); (try have l1f := Nat.le_add_right_of_le (k := 1) l1e); (try have l2 := Nat.lt_of_lt_of_le l2 (show _ ≤ w2.heap.size by omega)); (try have l2e := Nat.le_of_lt l2); (try have l2f := Nat.le_add_right_of_le (k := 1) l2e); (try have l3 := Nat.lt_of_lt_of_le l3 (show _ ≤ w2.heap.size by omega)); (try have l3e := Nat.le_of_lt l3); (try have l3f := Nat.le_add_right_of_le (k := 1) l3e)
    have hfr := (HO.out.ext hb).fresh (w := w) (by have := E1.out.size; omega) (E1.out.tr (HE2.out.tr hb))
    have HF := Lib.hid (show FreshRR [] w (.returned (.slice (some ⟨w1.heap.size, 0, none⟩) 0 0)) w2 from hfr)
    clear hfr
    go_wp2
    go_ret
    exact HF.out
  | true =>
    rw [if_pos rfl]
    rw [hv] at CV
    obtain ⟨hhv, hl7, hn6⟩ := serV_parts hv
    have HCV := Lib.hid CV
    have HHv := Lib.hid (histv_txn hhv)
    have HL7 := Lib.hid hl7
    have hsl := hsm.len
    have HOn := Lib.hid (fun k s ops d (hk : h[k]? = some (⟨s, ops, d⟩ : TxnT)) => (hsm.ops hk : ops.length ≤ 1048576))
    clear CV hv hhv hl7
    go_enter Try.func30, Try.ntmps30
    go_wp2_with (fail)
    go_at_call 34
    refine (CO.out _ (HX.out.ext (by (repeat' (first | (with_reducible exact Below.refl _ _) | (with_reducible refine Below.mono (by assumption) ?_) | (with_reducible refine Below.trans ?_ (Below.mono (by assumption) ?_)) | (with_reducible refine Below.alloc ?_ ?_ _) | (with_reducible refine Below.drew ?_) | (with_reducible refine below_drewN ?_ _) | (with_reducible refine Below.setCell ?_ ?_ _) | (simp only [World.size_alloc, World.size_setCell, World.size_drew, size_drewN]; omega) | omega)))) (HCP.out.ext (by (repeat' (first | (with_reducible exact Below.refl _ _) | (with_reducible refine Below.mono (by assumption) ?_) | (with_reducible refine Below.trans ?_ (Below.mono (by assumption) ?_)) | (with_reducible refine Below.alloc ?_ ?_ _) | (with_reducible refine Below.drew ?_) | (with_reducible refine below_drewN ?_ _) | (with_reducible refine Below.setCell ?_ ?_ _) | (simp only [World.size_alloc, World.size_setCell, World.size_drew, size_drewN]; omega) | omega))))).mono ?_
    rintro e w1 ⟨A1, c1, rfl, hT, _, hb⟩
    obtain ⟨hc, hf, hz, hs⟩ := bcell hb
    (try simp only [World.size_alloc, World.size_setCell, World.size_drew, size_drewN] at hs); (first | have l0 := Nat.lt_of_lt_of_le l0 (show _ ≤ w1.heap.size by omega) | have l0 : w.heap.size < w1.heap.size := (by omega) | skip); (try have l0e := Nat.le_of_lt l0); (try have l0f := Nat.le_add_right_of_le (k := 1) l0e); (try have l1 := Nat.lt_of_lt_of_le l1 (show _ ≤ w1.heap.size by omega)); (try have l1e := Nat.le_of_lt l1); (try have l1f := Nat.le_add_right_of_le (k := 1) l1e); (try have l2 := Nat.lt_of_lt_of_le l2 (show _ ≤ w1.heap.size by omega)); (try have l2e := Nat.le_of_lt l2); (try have l2f := Nat.le_add_right_of_le (k := 1) l2e); (try have l3 := Nat.lt_of_lt_of_le l3 (show _ ≤ w1.heap.size by omega)); (try have l3e := Nat.le_of_lt l3); (try have l3f := Nat.le_add_right_of_le (k := 1) l3e)
    have HT := Lib.hid (show Txns Any w1 A1 h from SlAt.mono hT (fun _ _ _ => trivial) (fun x us hh => mono_txn (fun _ _ _ => trivial) x us hh))
    have E1 := Lib.hid (show Ext w w1 by (repeat' (first | (with_reducible exact Below.refl _ _) | (with_reducible refine Below.mono (by assumption) ?_) | (with_reducible refine Below.trans ?_ (Below.mono (by assumption) ?_)) | (with_reducible refine Below.alloc ?_ ?_ _) | (with_reducible refine Below.drew ?_) | (with_reducible refine below_drewN ?_ _) | (with_reducible refine Below.setCell ?_ ?_ _) | (simp only [World.size_alloc, World.size_setCell, World.size_drew, size_drewN]; omega) | omega)))
    clear hT hc hf hz hb
    have HO := Lib.hid (OwnR.made w1 (B := w1.heap.size) #[] 0 (Nat.le_refl _) (by omega) rfl)
    have e2 : Ext w1 (w1.alloc (.cells #[] 40)) := by (repeat' (first | (with_reducible exact Below.refl _ _) | (with_reducible refine Below.mono (by assumption) ?_) | (with_reducible refine Below.trans ?_ (Below.mono (by assumption) ?_)) | (with_reducible refine Below.alloc ?_ ?_ _) | (with_reducible refine Below.drew ?_) | (with_reducible refine below_drewN ?_ _) | (with_reducible refine Below.setCell ?_ ?_ _) | (simp only [World.size_alloc, World.size_setCell, World.size_drew, size_drewN]; omega) | omega))
    have HE2 := Lib.hid e2
    clear e2
    go_wp2_with (fail)
    go_at_call 26
    refine (HCV.out _ _ _ _ (HT.out.ext HE2.out) (HI.out.ext (E1.out.tr HE2.out))).mono ?_
    rintro e w2 ⟨rfl, hb⟩
    obtain ⟨hc, hf, hz, hs⟩ := bcell hb
    (try simp only [World.size_alloc, World.size_setCell, World.size_drew, size_drewN] at hs); (first | have l0 := Nat.lt_of_lt_of_le l0 (show _ ≤ w2.heap.size by omega) | have l0 : w.heap.size < w2.heap.size := (by omega) | skip); (try have l0e := Nat.le_of_lt l0); (try have l0f := Nat.le_add_right_of_le (k := 1) l0e); (try have l1 := Nat.lt_of_lt_of_le l1 (show _ ≤ w2.heap.size by omega)); (try have l1e := Nat.le_of_lt l1); (try have l1f := Nat.le_add_right_of_le (k := 1) l1e); (try have l2 := Nat.lt_of_lt_of_le l2 (show _ ≤ w2.heap.size by omega)); (try have l2e := Nat.le_of_lt l2); (try have l2f := Nat.le_add_right_of_le (k := 1) l2e); (try have l3 := Nat.lt_of_lt_of_le l3 (show _ ≤ w2.heap.size by omega)); (try have l3e := Nat.le_of_lt l3); (try have l3f := Nat.le_add_right_of_le (k := 1) l3e)
    have HO2 := Lib.hid (HO.out.ext hb)
    have HE3 := Lib.hid (HE2.out.tr hb)
    clear hb hc hf hz hs HO HE2
    go_wp2
    go_loopw [5, 6] (fun v i wr => ∃ (k : Nat) (ps : List PR), k ≤ 3 ∧ i = .int .i64 k ∧ ps.map PR.xs = soT h ns k ∧ OwnR wr w1.heap.size v ps ∧ Ext w1 wr) (fun _ i _ => 3 - (intOf i).toNat)
    case atStart => exact ⟨0, [], by omega, rfl, rfl, HO2.out, HE3.out⟩
    case round =>
      obtain ⟨k, ps, hk, rfl, hpm, hown, hE⟩ := hrel
      have HPM := Lib.hid hpm
      have HOw := Lib.hid hown
      have HE := Lib.hid hE
      have hpl : ps.length = k := by
        have := congrArg List.length hpm
        simpa [soT] using this
      have hpl3 : ps.length ≤ 3 := by omega
      have hez := hE.size
      clear HO2 hpm hown hE hpl
      by_cases hlt : k < 3
      · have hki : (k : Int) ≤ 2 := by omega
        have hki2 : decide ((k : Int) ≤ 2) = true := decide_eq_true (by omega)
        obtain ⟨wk, rfl⟩ : ∃ wk : World, wk = wr := ⟨_, rfl⟩
        have HI0 := Lib.hid (show Own1 (wk.alloc (.cells #[] 3)) wk.heap.size 3 (.slice (some ⟨wk.heap.size, 0, none⟩) 0 0) (inD h (k : Int) (ns.take 0)) from Own1.made wk _ 0 rfl (by omega) (by omega) (by simp))
        go_wp2
        go_loopw [7, 8] (fun v i W => ∃ j : Nat, j ≤ ns.length ∧ i = .int .i64 j ∧ Own1 W wk.heap.size 3 v (inD h (k : Int) (ns.take j)) ∧ Ext wk W) (fun _ i _ => ns.length - (intOf i).toNat)
        case atStart => exact ⟨0, Nat.zero_le _, rfl, HI0.out, by (repeat' (first | (with_reducible exact Below.refl _ _) | (with_reducible refine Below.mono (by assumption) ?_) | (with_reducible refine Below.trans ?_ (Below.mono (by assumption) ?_)) | (with_reducible refine Below.alloc ?_ ?_ _) | (with_reducible refine Below.drew ?_) | (with_reducible refine below_drewN ?_ _) | (with_reducible refine Below.setCell ?_ ?_ _) | (simp only [World.size_alloc, World.size_setCell, World.size_drew, size_drewN]; omega) | omega))⟩
        case round =>
          obtain ⟨j, hj, rfl, hown1, hE1⟩ := hrel
          have HO1 := Lib.hid hown1
          have HEj := Lib.hid hE1
          have HEw := Lib.hid (HE.out.tr hE1)
          have hzj := hE1.size
          clear HI0 hown1 hE1
          by_cases hltj : j < ns.length
          · obtain ⟨n, b, off, hnk, rfl, _, hb0, c0⟩ := (HI.out.ext (E1.out.tr HEw.out)).at_ hltj
            obtain ⟨m, t, rfl, hml, htm, _⟩ := ser_mem HL7.out hnk
            obtain ⟨s, ops, dn, A', cap, b2, off2, hxk, rfl, _, hb20, hOp, d0, d1, d2⟩ := (HT.out.ext HEw.out).at_ hml
            have hon := HOn.out m s ops dn hxk
            have hV := Lib.hid (HHv.out _ (List.mem_of_getElem? hxk))
            have hsn : inD h (k : Int) (ns.take (j + 1)) = inD h (k : Int) (ns.take j) ++ kvs (k : Int) (lwsTo ops 3) := by
              rw [List.take_add_one, hnk]
              exact inD_snoc hxk
            have hll := lwsTo_len ops 3
            have hkl := kvs_len (k : Int) (lwsTo ops 3)
            have hil := inD_len h (k : Int) (ns.take j)
            rw [List.length_take] at hil
            have HS := Lib.hid hsn
            have hmi : (m : Int) < h.length := by omega
            have hji : (j : Int) < ns.length := by omega
            have HOp2 := Lib.hid hOp
            clear hnk htm hxk hsn hOp
            generalize hL : lwsTo ops 3 = L at hll hkl HS
            have HL := Lib.hid hL
            clear hL
            go_wp2_with (fail)
            go_at_call 54
            refine (specLastWrites_ok ⟨s, ops, dn⟩ _ _ _ _ (HOp2.out.ext (by (repeat' (first | (with_reducible exact Below.refl _ _) | (with_reducible refine Below.mono (by assumption) ?_) | (with_reducible refine Below.trans ?_ (Below.mono (by assumption) ?_)) | (with_reducible refine Below.alloc ?_ ?_ _) | (with_reducible refine Below.drew ?_) | (with_reducible refine below_drewN ?_ _) | (with_reducible refine Below.setCell ?_ ?_ _) | (simp only [World.size_alloc, World.size_setCell, World.size_drew, size_drewN]; omega) | omega)))) hon hV.out).mono ?_
            rintro e w5 ⟨A5, c5, rfl, hW, hf5, hb⟩
            obtain ⟨hc, hf, hz, hs⟩ := bcell hb
            (try simp only [World.size_alloc, World.size_setCell, World.size_drew, size_drewN] at hs); (first | have l0 := Nat.lt_of_lt_of_le l0 (show _ ≤ w5.heap.size by omega) | have l0 : w.heap.size < w5.heap.size := (by omega) | skip); (try have l0e := Nat.le_of_lt l0); (try have l0f := Nat.le_add_right_of_le (k := 1) l0e); (try have l1 := Nat.lt_of_lt_of_le l1 (show _ ≤ w5.heap.size by omega)); (try have l1e := Nat.le_of_lt l1); (try have l1f := Nat.le_add_right_of_le (k := 1) l1e); (try have l2 := Nat.lt_of_lt_of_le l2 (show _ ≤ w5.heap.size by omega)); (try have l2e := Nat.le_of_lt l2); (try have l2f := Nat.le_add_right_of_le (k := 1) l2e); (try have l3 := Nat.lt_of_lt_of_le l3 (show _ ≤ w5.heap.size by omega)); (try have l3e := Nat.le_of_lt l3); (try have l3f := Nat.le_add_right_of_le (k := 1) l3e)
            rw [HL.out] at hW
            simp only [HL.out]
            have HW := Lib.hid hW.within_hi
            have e5 := HEj.out.tr hb
            have HE5 := Lib.hid e5
            have HO5 := Lib.hid (HO1.out.ext hb)
            have hz5 := hb.size
            have hoffw := Lib.hid (Off.of_lt (lo := wr.heap.size) (hi := w5.heap.size) (own1_lt HO1.out))
            clear hc hf hz hs hb hW hf5 d0 d1 d2 c0 e5
            obtain ⟨wo, rfl⟩ : ∃ wo : World, wo = wr := ⟨_, rfl⟩
            go_wp2
            go_loopw [7, 10] (fun v i W => ∃ q : Nat, q ≤ L.length ∧ i = .int .i64 q ∧ Own1 W wk.heap.size 3 v (inD h (k : Int) (ns.take j) ++ kvs (k : Int) (L.take q)) ∧ Ext wk W ∧ Ops (fun b => wo.heap.size ≤ b ∧ b < w5.heap.size) W A5 L ∧ Off v wo.heap.size w5.heap.size ∧ w5.heap.size ≤ W.heap.size) (fun _ i _ => L.length - (intOf i).toNat)
            case atStart => exact ⟨0, Nat.zero_le _, rfl, by simpa [kvs] using HO5.out, HE5.out, HW.out, hoffw.out, Nat.le_refl _⟩
            case round =>
              obtain ⟨q, hq, rfl, hown6, hE6, hW6, hoffw6, hz62⟩ := hrel
              clear HO5 HW hoffw
              by_cases hlt2 : q < L.length
              · obtain ⟨x0, x1, x2, b2', off2', hyk, rfl, _, hb2, g0, g1, g2⟩ := hW6.at_ hlt2
                have hkt := kvs_take (key := (k : Int)) hyk
                have hkl2 := kvs_len (k : Int) (L.take q)
                rw [List.length_take] at hkl2
                have HK := Lib.hid hkt
                clear hyk hkt
                have hz60 := hE6.size
                go_wp2_with (at_builtin; refine wpList_append1_at _ rfl _ _ 40 rfl wk.heap.size 3 Try.underlying40 info1 rfl _ (inD h (k : Int) (ns.take j) ++ kvs (k : Int) (L.take q)) rfl (hown6.ext (by (repeat' (first | (with_reducible exact Below.refl _ _) | (with_reducible refine Below.mono (by assumption) ?_) | (with_reducible refine Below.trans ?_ (Below.mono (by assumption) ?_)) | (with_reducible refine Below.alloc ?_ ?_ _) | (with_reducible refine Below.drew ?_) | (with_reducible refine below_drewN ?_ _) | (with_reducible refine Below.setCell ?_ ?_ _) | (simp only [World.size_alloc, World.size_setCell, World.size_drew, size_drewN]; omega) | omega)))) _ x2 rfl ?_ ?_ ?_ ?_)
                case roundEnd =>
                  have hne : ¬ x1 = (k : Int) := by
                    have h9 : (x1 == (k : Int)) = false := by assumption
                    simpa using h9
                  exact ⟨⟨q + 1, by omega, by go_num, by rw [HK.out, if_neg hne]; exact hown6, hE6, hW6, hoffw6, hz62⟩, by simp [intOf]; omega⟩
                · omega
                · omega
                · intro v' w' hown' hgrow hat
                  have heq : x1 = (k : Int) := by
                    have h9 : (x1 == (k : Int)) = true := by assumption
                    simpa using h9
                  have hk2 := HK.out
                  rw [if_pos heq] at hk2
                  try rw [List.append_assoc] at hown'
                  rw [← hk2] at hown'
                  have hEb : Ext wr (wr.alloc (.cells #[.int .i64 x2] 3)) := by (repeat' (first | (with_reducible exact Below.refl _ _) | (with_reducible refine Below.mono (by assumption) ?_) | (with_reducible refine Below.trans ?_ (Below.mono (by assumption) ?_)) | (with_reducible refine Below.alloc ?_ ?_ _) | (with_reducible refine Below.drew ?_) | (with_reducible refine below_drewN ?_ _) | (with_reducible refine Below.setCell ?_ ?_ _) | (simp only [World.size_alloc, World.size_setCell, World.size_drew, size_drewN]; omega) | omega))
                  have hE7 : Ext wk w' := Below.grown (hE6.tr hEb) hgrow (hE6.tr hEb).size (fun g hg => own1_block hown6 g hg)
                  have hW7 := Ops.off (hW6.ext hEb) hgrow hoffw6
                  have hoffw7 := hoffw6.step hat (by first | omega | (simp only [World.size_alloc]; omega))
                  have hz7 := hgrow.size
                  simp only [World.size_alloc] at hz7
                  clear hk2 hown6 hW6 hgrow hat
                  go_wp2
                  go_roundw
                  case measure => simp [intOf]; omega
                  case rel => exact ⟨q + 1, by omega, by go_num, hown', hE7, hW7, hoffw7, by omega⟩
              · obtain rfl : q = L.length := by omega
                rw [List.take_length, ← HS.out] at hown6
                have HF6 := Lib.hid hown6
                have HE6 := Lib.hid hE6
                clear hown6 hE6 hW6
                go_wp2
                exact ⟨⟨j + 1, by omega, by go_num, HF6.out, HE6.out⟩, by simp [intOf]; omega⟩
          · obtain rfl : j = ns.length := by omega
            have ho := HO1.out
            rw [List.take_length] at ho
            obtain ⟨A2, c2, rfl, hI, hfr⟩ := ho.form
            have hnew := HOw.out.new (c := c2) (w1 := wr) (by omega) hI hfr
            have HN := Lib.hid hnew
            have HO2 := Lib.hid (HOw.out.ext HEj.out)
            have hlitc : (wr.alloc (.cells #[.slice A2 (inD h (k : Int) ns).length c2] 40)).cell? ⟨wr.heap.size, 0, none⟩ = some (PR.cell ⟨A2, c2, inD h (k : Int) ns⟩) := ((Blk.new wr 40 _).cell 0).trans rfl
            have HLc := Lib.hid hlitc
            clear hlitc hnew hI hfr ho HO1
            go_wp2_with (at_builtin; go_loud (refine wpList_appendR _ rfl _ _ 24 rfl Try.underlying24 infoRow rfl _ ps rfl (B := w1.heap.size) (HO2.out.ext (by (repeat' (first | (with_reducible exact Below.refl _ _) | (with_reducible refine Below.mono (by assumption) ?_) | (with_reducible refine Below.trans ?_ (Below.mono (by assumption) ?_)) | (with_reducible refine Below.alloc ?_ ?_ _) | (with_reducible refine Below.drew ?_) | (with_reducible refine below_drewN ?_ _) | (with_reducible refine Below.setCell ?_ ?_ _) | (simp only [World.size_alloc, World.size_setCell, World.size_drew, size_drewN]; omega) | omega)))) ⟨A2, c2, inD h (k : Int) ns⟩ (HN.out.1.ext (by (repeat' (first | (with_reducible exact Below.refl _ _) | (with_reducible refine Below.mono (by assumption) ?_) | (with_reducible refine Below.trans ?_ (Below.mono (by assumption) ?_)) | (with_reducible refine Below.alloc ?_ ?_ _) | (with_reducible refine Below.drew ?_) | (with_reducible refine below_drewN ?_ _) | (with_reducible refine Below.setCell ?_ ?_ _) | (simp only [World.size_alloc, World.size_setCell, World.size_drew, size_drewN]; omega) | omega)))) HN.out.2.1 HN.out.2.2 _ rfl HLc.out (by omega) ?_ ?_))
            · simp only [World.size_alloc]; omega
            · intro v' w' hown' hgrow
              have hE9 : Ext w1 w' := Below.grown (HEw.out.tr (show Ext wr (wr.alloc (.cells #[.slice A2 (inD h (k : Int) ns).length c2] 40)) by (repeat' (first | (with_reducible exact Below.refl _ _) | (with_reducible refine Below.mono (by assumption) ?_) | (with_reducible refine Below.trans ?_ (Below.mono (by assumption) ?_)) | (with_reducible refine Below.alloc ?_ ?_ _) | (with_reducible refine Below.drew ?_) | (with_reducible refine below_drewN ?_ _) | (with_reducible refine Below.setCell ?_ ?_ _) | (simp only [World.size_alloc, World.size_setCell, World.size_drew, size_drewN]; omega) | omega)))) hgrow (by simp only [World.size_alloc]; omega) (fun g hg => (HO2.out.lt g hg).1)
              have HO9 := Lib.hid hown'
              have HE9 := Lib.hid hE9
              clear hown' hgrow hE9
              go_wp2
              go_roundw
              case measure => simp [intOf]; omega
              case rel => exact ⟨k + 1, _, by omega, by go_num, by rw [List.map_append, HPM.out, soT_succ]; rfl, HO9.out, HE9.out⟩
      · obtain rfl : k = 3 := by omega
        have hfr := HOw.out.fresh (w := w) (by have := E1.out.size; omega) (E1.out.tr HE.out)
        rw [HPM.out] at hfr
        have HF := Lib.hid (show FreshRR [inD h 0 ns, inD h 1 ns, inD h 2 ns] w (.returned _) wr from hfr)
        clear hfr
        go_wp2
        go_ret
        exact HF.out
end Go.Proofs.Ytknphamfindohaa
