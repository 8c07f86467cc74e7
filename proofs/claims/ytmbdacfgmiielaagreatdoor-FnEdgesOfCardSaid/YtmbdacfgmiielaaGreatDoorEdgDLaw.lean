/-
  FnEdgesOf: a drawn history and orders: the program's edges are the reference's, valid ones between committed transactions; those of reads do not hang on the orders.
-/
import Derived.Test.YtmbdacfgmiielaaGreatDoorGOwnC23
import Derived.Test.YtmbdacfgmiielaaGreatDoorGOrdQ24
import Derived.Test.YtmbdacfgmiielaaGreatDoorGLaid52
import Derived.Test.YtmbdacfgmiielaaGreatDoorEdI
import Derived.Test.YtmbdacfgmiielaaGreatDoorEdSp
import Derived.Test.YtmbdacfgmiielaaGreatDoorGOrdF20
import Derived.BigQuiet
namespace Go.Proofs.YtmbdacfgmiielaaGreatDoor
set_option linter.unusedSimpArgs false
set_option linter.unusedVariables false
set_option maxRecDepth 100000
open Go.ChangeShapes Go.WideShapes Go.ChangeAt Go.RowKit Go.Joins

theorem edges_none {h : List TxnT} {R : List (List Int)} (hv : ordV h R = false) : edgesV h R = [] := by
  unfold edgesV
  rw [hv]
  rfl
set_option maxHeartbeats 8000000 in
theorem FnEdgesOf_c (xs : List Int) (A : Option Addr) (c : Nat) (w : World) (hx : Byts Any w A xs) (wf : Law.wfL Law.wfU8 xs) (hc : xs.length ≤ c) :
    Calls Tryz.prog 3 #[.slice A xs.length c] w fun e w' => e = .returned (.bool true) ∧ Ext w w' := by
  by_cases hl : 1048576 < xs.length
  · go_enter Tryz.func3, Tryz.ntmps3
    go_wp2
    go_ret
    exact ⟨rfl, by (repeat' (first | (with_reducible exact Below.refl _ _) | (with_reducible refine Below.mono (by assumption) ?_) | (with_reducible refine Below.trans ?_ (Below.mono (by assumption) ?_)) | (with_reducible refine Below.alloc ?_ ?_ _) | (with_reducible refine Below.drew ?_) | (with_reducible refine below_drewN ?_ _) | (with_reducible refine Below.setCell ?_ ?_ _) | (simp only [World.size_alloc, World.size_setCell, World.size_drew, size_drewN]; omega) | omega))⟩
  have HW : Hid (∀ x ∈ xs, 0 ≤ x ∧ x ≤ 255) := Lib.hid wf.2
  go_enter Tryz.func3, Tryz.ntmps3
  go_wp2_with (fail)
  go_at_call 6
  refine (DrawEdgesOf_c xs A c _ (hx.ext (by (repeat' (first | (with_reducible exact Below.refl _ _) | (with_reducible refine Below.mono (by assumption) ?_) | (with_reducible refine Below.trans ?_ (Below.mono (by assumption) ?_)) | (with_reducible refine Below.alloc ?_ ?_ _) | (with_reducible refine Below.drew ?_) | (with_reducible refine below_drewN ?_ _) | (with_reducible refine Below.setCell ?_ ?_ _) | (simp only [World.size_alloc, World.size_setCell, World.size_drew, size_drewN]; omega) | omega)))) HW.out hc).mono ?_
  rintro e w1 ⟨h, A2, c2, R, B, d, rfl, hc2, hTx, _, hsmall, hd, hRw, hso, hb⟩
  obtain ⟨hc, hf, hz, hs⟩ := bcell hb
  (try simp only [World.size_alloc, World.size_setCell, World.size_drew, size_drewN] at hs); (first | have l0 := Nat.lt_of_lt_of_le l0 (show _ ≤ w1.heap.size by omega) | have l0 : w.heap.size < w1.heap.size := (by omega) | skip); (try have l0e := Nat.le_of_lt l0); (try have l0f := Nat.le_add_right_of_le (k := 1) l0e); (try have l1 := Nat.lt_of_lt_of_le l1 (show _ ≤ w1.heap.size by omega)); (try have l1e := Nat.le_of_lt l1); (try have l1f := Nat.le_add_right_of_le (k := 1) l1e); (try have l2 := Nat.lt_of_lt_of_le l2 (show _ ≤ w1.heap.size by omega)); (try have l2e := Nat.le_of_lt l2); (try have l2f := Nat.le_add_right_of_le (k := 1) l2e); (try have l3 := Nat.lt_of_lt_of_le l3 (show _ ≤ w1.heap.size by omega)); (try have l3e := Nat.le_of_lt l3); (try have l3f := Nat.le_add_right_of_le (k := 1) l3e)
  have E1 := Lib.hid (show Ext w w1 from hb)
  have hsm := hsmall.small
  have hsl := hsm.len
  have hsr := hso.small
  have CE := fun w hx hr => implEdgesOf_c h R Any Any A2 B c2 d w hx hsm hr hsr
  have CS := fun w hx hr => specEdgesOf_c h R Any Any A2 B c2 d w hx hsm hr hsr
  have CF := Lib.hid (fun w hx => implFirstOrders_c h Any A2 c2 w hx hsm)
  have CG := Lib.hid (fun B d w hx hr => implEdgesOf_c h (firstV h) Any Any A2 B c2 d w hx hsm hr (firstV_small h))
  have CO := fun w hx hr => specOrdersValid_c h R Any Any A2 B c2 d w hx hsm hr hsr
  have CV := fun B d L w he hl => implEdgesValid_c (h.length : Int) L Any B d w he hl
  have hll := edgesV_len h R
  have HAt := fun i e => edges_at (h := h) (R := R) (i := i) (e := e)
  have HNo := fun hv => edges_none (h := h) (R := R) hv
  have HOk := fun hv => edges_ok (h := h) (R := R) hv
  have HCn := fun h1 h2 => cnt2_same (h := h) (R := R) (R' := firstV h) h1 h2
  obtain ⟨L, hL⟩ : ∃ L, edgesV h R = L := ⟨_, rfl⟩
  rw [hL] at CE CS hll HAt HNo HOk HCn
  have HX := Lib.hid (txns_anyO hTx)
  have HR := Lib.hid (rows_anyO hRw)
  have HCE := Lib.hid CE
  have HCS := Lib.hid CS
  have HAt := Lib.hid HAt
  clear CE CS hTx hRw hso hb hc hf hz hL
  go_wp2_with (fail)
  go_at_call 7
  refine (HCE.out _ HX.out HR.out).mono ?_
  rintro e w2 ⟨A3, c3, rfl, hI3, _, hb⟩
  obtain ⟨hc, hf, hz, hs⟩ := bcell hb
  (try simp only [World.size_alloc, World.size_setCell, World.size_drew, size_drewN] at hs); (first | have l0 := Nat.lt_of_lt_of_le l0 (show _ ≤ w2.heap.size by omega) | have l0 : w.heap.size < w2.heap.size := (by omega) | skip); (try have l0e := Nat.le_of_lt l0); (try have l0f := Nat.le_add_right_of_le (k := 1) l0e); (try have l1 := Nat.lt_of_lt_of_le l1 (show _ ≤ w2.heap.size by omega)); (try have l1e := Nat.le_of_lt l1); (try have l1f := Nat.le_add_right_of_le (k := 1) l1e); (try have l2 := Nat.lt_of_lt_of_le l2 (show _ ≤ w2.heap.size by omega)); (try have l2e := Nat.le_of_lt l2); (try have l2f := Nat.le_add_right_of_le (k := 1) l2e); (try have l3 := Nat.lt_of_lt_of_le l3 (show _ ≤ w2.heap.size by omega)); (try have l3e := Nat.le_of_lt l3); (try have l3f := Nat.le_add_right_of_le (k := 1) l3e)
  have E12 := Lib.hid (show Ext w1 w2 from hb)
  have HI2 := Lib.hid (show Ops Any w2 A3 L from SlAt.mono hI3 (fun _ _ _ => trivial) (fun _ _ h => h))
  clear hb hc hf hz hI3 HCE
  go_wp2_with (fail)
  go_at_call 9
  refine (HCS.out _ (HX.out.ext E12.out) (HR.out.ext E12.out)).mono ?_
  rintro e w3 ⟨A4, c4, rfl, hI4, _, hb⟩
  obtain ⟨hc, hf, hz, hs⟩ := bcell hb
  (try simp only [World.size_alloc, World.size_setCell, World.size_drew, size_drewN] at hs); (first | have l0 := Nat.lt_of_lt_of_le l0 (show _ ≤ w3.heap.size by omega) | have l0 : w.heap.size < w3.heap.size := (by omega) | skip); (try have l0e := Nat.le_of_lt l0); (try have l0f := Nat.le_add_right_of_le (k := 1) l0e); (try have l1 := Nat.lt_of_lt_of_le l1 (show _ ≤ w3.heap.size by omega)); (try have l1e := Nat.le_of_lt l1); (try have l1f := Nat.le_add_right_of_le (k := 1) l1e); (try have l2 := Nat.lt_of_lt_of_le l2 (show _ ≤ w3.heap.size by omega)); (try have l2e := Nat.le_of_lt l2); (try have l2f := Nat.le_add_right_of_le (k := 1) l2e); (try have l3 := Nat.lt_of_lt_of_le l3 (show _ ≤ w3.heap.size by omega)); (try have l3e := Nat.le_of_lt l3); (try have l3f := Nat.le_add_right_of_le (k := 1) l3e)
  have E13 := Lib.hid (E12.out.tr hb)
  have HI3 := Lib.hid (HI2.out.ext hb)
  clear HCS hb hc hf hz HI2
  go_wp2_with (fail)
  go_at_call 8
  refine (sameEdges_c L _ _ _ _ _ _ _ HI3.out hI4 (by omega)).mono ?_
  rintro e w4 ⟨rfl, hb⟩
  obtain ⟨hc, hf, hz, hs⟩ := bcell hb
  (try simp only [World.size_alloc, World.size_setCell, World.size_drew, size_drewN] at hs); (first | have l0 := Nat.lt_of_lt_of_le l0 (show _ ≤ w4.heap.size by omega) | have l0 : w.heap.size < w4.heap.size := (by omega) | skip); (try have l0e := Nat.le_of_lt l0); (try have l0f := Nat.le_add_right_of_le (k := 1) l0e); (try have l1 := Nat.lt_of_lt_of_le l1 (show _ ≤ w4.heap.size by omega)); (try have l1e := Nat.le_of_lt l1); (try have l1f := Nat.le_add_right_of_le (k := 1) l1e); (try have l2 := Nat.lt_of_lt_of_le l2 (show _ ≤ w4.heap.size by omega)); (try have l2e := Nat.le_of_lt l2); (try have l2f := Nat.le_add_right_of_le (k := 1) l2e); (try have l3 := Nat.lt_of_lt_of_le l3 (show _ ≤ w4.heap.size by omega)); (try have l3e := Nat.le_of_lt l3); (try have l3f := Nat.le_add_right_of_le (k := 1) l3e)
  have E14 := Lib.hid (E13.out.tr hb)
  have HI4 := Lib.hid (HI3.out.ext hb)
  have HX4 := Lib.hid (HX.out.ext E14.out)
  have HR4 := Lib.hid (HR.out.ext E14.out)
  have E4 := Lib.hid (E1.out.tr E14.out)
  clear hI4 HI3 HX HR hb hc hf hz
  cases hv : ordV h R with
  | false =>
    rw [hv] at CO
    have CO := Lib.hid CO
    obtain rfl := HNo hv
    clear HOk HCn HNo hv
    go_wp2_with (fail)
    go_at_call 10
    refine (CO.out _ HX4.out HR4.out).mono ?_
    rintro e w5 ⟨rfl, hb⟩
    obtain ⟨hc, hf, hz, hs⟩ := bcell hb
    (try simp only [World.size_alloc, World.size_setCell, World.size_drew, size_drewN] at hs); (first | have l0 := Nat.lt_of_lt_of_le l0 (show _ ≤ w5.heap.size by omega) | have l0 : w.heap.size < w5.heap.size := (by omega) | skip); (try have l0e := Nat.le_of_lt l0); (try have l0f := Nat.le_add_right_of_le (k := 1) l0e); (try have l1 := Nat.lt_of_lt_of_le l1 (show _ ≤ w5.heap.size by omega)); (try have l1e := Nat.le_of_lt l1); (try have l1f := Nat.le_add_right_of_le (k := 1) l1e); (try have l2 := Nat.lt_of_lt_of_le l2 (show _ ≤ w5.heap.size by omega)); (try have l2e := Nat.le_of_lt l2); (try have l2f := Nat.le_add_right_of_le (k := 1) l2e); (try have l3 := Nat.lt_of_lt_of_le l3 (show _ ≤ w5.heap.size by omega)); (try have l3e := Nat.le_of_lt l3); (try have l3f := Nat.le_add_right_of_le (k := 1) l3e)
    have E5 := Lib.hid (E4.out.tr hb)
    clear hb hc hf hz
    go_wp2_with (fail)
    go_at_call 11
    refine (alive_c _).mono ?_
    rintro e w9 ⟨rfl, hb⟩
    obtain ⟨hc, hf, hz, hs⟩ := bcell hb
    (try simp only [World.size_alloc, World.size_setCell, World.size_drew, size_drewN] at hs); (first | have l0 := Nat.lt_of_lt_of_le l0 (show _ ≤ w9.heap.size by omega) | have l0 : w.heap.size < w9.heap.size := (by omega) | skip); (try have l0e := Nat.le_of_lt l0); (try have l0f := Nat.le_add_right_of_le (k := 1) l0e); (try have l1 := Nat.lt_of_lt_of_le l1 (show _ ≤ w9.heap.size by omega)); (try have l1e := Nat.le_of_lt l1); (try have l1f := Nat.le_add_right_of_le (k := 1) l1e); (try have l2 := Nat.lt_of_lt_of_le l2 (show _ ≤ w9.heap.size by omega)); (try have l2e := Nat.le_of_lt l2); (try have l2f := Nat.le_add_right_of_le (k := 1) l2e); (try have l3 := Nat.lt_of_lt_of_le l3 (show _ ≤ w9.heap.size by omega)); (try have l3e := Nat.le_of_lt l3); (try have l3f := Nat.le_add_right_of_le (k := 1) l3e)
    go_wp2
    go_ret
    exact ⟨rfl, E5.out.tr hb⟩
  | true =>
    have hhv := (ord3 hv).hist
    rw [hv] at CO
    have CO := Lib.hid CO
    have hcn := HCn hv (first_ok hhv)
    have HV : Hid (∀ B d w, Ops Any w B L → Calls Tryz.prog 13 #[.int .i64 (h.length : Int), .slice B L.length d] w fun e w' => e = .returned (.bool true) ∧ Ext w w') := Lib.hid (fun B d w he => by
      have := CV B d L w he (by omega)
      rw [HOk hhv] at this
      exact this)
    clear HOk HCn HNo hv CV
    go_wp2_with (fail)
    go_at_call 10
    refine (CO.out _ HX4.out HR4.out).mono ?_
    rintro e w5 ⟨rfl, hb⟩
    obtain ⟨hc, hf, hz, hs⟩ := bcell hb
    (try simp only [World.size_alloc, World.size_setCell, World.size_drew, size_drewN] at hs); (first | have l0 := Nat.lt_of_lt_of_le l0 (show _ ≤ w5.heap.size by omega) | have l0 : w.heap.size < w5.heap.size := (by omega) | skip); (try have l0e := Nat.le_of_lt l0); (try have l0f := Nat.le_add_right_of_le (k := 1) l0e); (try have l1 := Nat.lt_of_lt_of_le l1 (show _ ≤ w5.heap.size by omega)); (try have l1e := Nat.le_of_lt l1); (try have l1f := Nat.le_add_right_of_le (k := 1) l1e); (try have l2 := Nat.lt_of_lt_of_le l2 (show _ ≤ w5.heap.size by omega)); (try have l2e := Nat.le_of_lt l2); (try have l2f := Nat.le_add_right_of_le (k := 1) l2e); (try have l3 := Nat.lt_of_lt_of_le l3 (show _ ≤ w5.heap.size by omega)); (try have l3e := Nat.le_of_lt l3); (try have l3f := Nat.le_add_right_of_le (k := 1) l3e)
    have E45 := Lib.hid (show Ext w4 w5 from hb)
    clear hb hc hf hz CO
    go_wp2_with (fail)
    go_at_call 12
    refine (CF.out _ (HX4.out.ext E45.out)).mono ?_
    rintro e w6 ⟨A6, c6, f6, rfl, hRI6, hb⟩
    obtain ⟨hc, hf, hz, hs⟩ := bcell hb
    (try simp only [World.size_alloc, World.size_setCell, World.size_drew, size_drewN] at hs); (first | have l0 := Nat.lt_of_lt_of_le l0 (show _ ≤ w6.heap.size by omega) | have l0 : w.heap.size < w6.heap.size := (by omega) | skip); (try have l0e := Nat.le_of_lt l0); (try have l0f := Nat.le_add_right_of_le (k := 1) l0e); (try have l1 := Nat.lt_of_lt_of_le l1 (show _ ≤ w6.heap.size by omega)); (try have l1e := Nat.le_of_lt l1); (try have l1f := Nat.le_add_right_of_le (k := 1) l1e); (try have l2 := Nat.lt_of_lt_of_le l2 (show _ ≤ w6.heap.size by omega)); (try have l2e := Nat.le_of_lt l2); (try have l2f := Nat.le_add_right_of_le (k := 1) l2e); (try have l3 := Nat.lt_of_lt_of_le l3 (show _ ≤ w6.heap.size by omega)); (try have l3e := Nat.le_of_lt l3); (try have l3f := Nat.le_add_right_of_le (k := 1) l3e)
    have E46 := Lib.hid (E45.out.tr hb)
    have HI6 := Lib.hid hRI6.rows
    clear hb hc hf hz CF hRI6
    have hl2 := edgesV_len h (firstV h)
    have CG := CG.out A6 c6
    obtain ⟨L2, hL2⟩ : ∃ L2, edgesV h (firstV h) = L2 := ⟨_, rfl⟩
    rw [hL2] at CG hcn hl2
    have CG := Lib.hid CG
    have HCN := Lib.hid hcn
    clear hL2 hcn
    go_wp2_with (fail)
    go_at_call 7
    refine (CG.out _ (HX4.out.ext E46.out) HI6.out).mono ?_
    rintro e w7 ⟨A7, c7, rfl, hI7, _, hb⟩
    obtain ⟨hc, hf, hz, hs⟩ := bcell hb
    (try simp only [World.size_alloc, World.size_setCell, World.size_drew, size_drewN] at hs); (first | have l0 := Nat.lt_of_lt_of_le l0 (show _ ≤ w7.heap.size by omega) | have l0 : w.heap.size < w7.heap.size := (by omega) | skip); (try have l0e := Nat.le_of_lt l0); (try have l0f := Nat.le_add_right_of_le (k := 1) l0e); (try have l1 := Nat.lt_of_lt_of_le l1 (show _ ≤ w7.heap.size by omega)); (try have l1e := Nat.le_of_lt l1); (try have l1f := Nat.le_add_right_of_le (k := 1) l1e); (try have l2 := Nat.lt_of_lt_of_le l2 (show _ ≤ w7.heap.size by omega)); (try have l2e := Nat.le_of_lt l2); (try have l2f := Nat.le_add_right_of_le (k := 1) l2e); (try have l3 := Nat.lt_of_lt_of_le l3 (show _ ≤ w7.heap.size by omega)); (try have l3e := Nat.le_of_lt l3); (try have l3f := Nat.le_add_right_of_le (k := 1) l3e)
    have E47 := Lib.hid (E46.out.tr hb)
    have HI7 := Lib.hid (show Ops Any w7 A7 L2 from SlAt.mono hI7 (fun _ _ _ => trivial) (fun _ _ h => h))
    have HX7 := Lib.hid (HX4.out.ext E47.out)
    have HI47 := Lib.hid (HI4.out.ext E47.out)
    have E7 := Lib.hid (E4.out.tr E47.out)
    clear hb hc hf hz hI7 CG HI6 E45 E46
    have HAc := Lib.hid (fun k => cnt2_le (L.take k))
    have HAd := Lib.hid (fun k => cnt2_le (L2.take k))
    go_wp2
    go_loopw [7, 9] (fun v i wr => ∃ k : Nat, k ≤ L.length ∧ i = .int .i64 k ∧ v = .int .i64 (cnt2 (L.take k) : Nat) ∧ Ext w7 wr) (fun _ i _ => L.length - (intOf i).toNat)
    case atStart => exact ⟨0, Nat.zero_le _, rfl, rfl, Below.refl _ _⟩
    case round =>
      obtain ⟨k, hk, rfl, rfl, hE⟩ := hrel
      have HE := Lib.hid hE
      by_cases hlt : k < L.length
      · obtain ⟨x0, x1, x2, b, off, hxk, rfl, _, hb0, c0, c1, c2'⟩ := (HI47.out.ext hE).at_ hlt
        obtain ⟨a, b', t, u, e, hta, htb, hdt, hdu⟩ := HAt.out k _ hxk
        simp only [T3.mk.injEq, and_true] at e
        obtain ⟨rfl, rfl⟩ := e
        have hta1 := (List.getElem?_eq_some_iff.1 hta).1
        have htb1 := (List.getElem?_eq_some_iff.1 htb).1
        obtain ⟨s, ops, d1, A', cap, b2, off2, hya, rfl, _, hb20, hO, d0, d1', d2⟩ := (HX7.out.ext hE).at_ (i := a) hta1
        obtain ⟨s', ops', d2', A'', cap', b3, off3, hyb, e', _, hb30, hO', e0, e1, e2⟩ := (HX7.out.ext hE).at_ (i := b') htb1
        simp only [Option.some.injEq, Addr.mk.injEq] at e'
        obtain ⟨rfl, rfl, _⟩ := e'
        rw [hta] at hya
        rw [htb] at hyb
        cases hya
        cases hyb
        simp only at hdt hdu
        subst hdt
        subst hdu
        have HTk := Lib.hid (cnt2_take hxk)
        have hcb := HAc.out k
        rw [List.length_take] at hcb
        clear hta htb hxk hO hO' hE
        have f1 : decide ((a : Int) < 0) = false := decide_eq_false (by omega)
        have f2 : decide ((h.length : Int) ≤ (a : Int)) = false := decide_eq_false (by omega)
        have f2n : decide (h.length ≤ a) = false := decide_eq_false (by omega)
        have g1 : decide ((b' : Int) < 0) = false := decide_eq_false (by omega)
        have f3 : decide ((h.length : Int) ≤ (b' : Int)) = false := decide_eq_false (by omega)
        have f3n : decide (h.length ≤ b') = false := decide_eq_false (by omega)
        have f4 : (k : Int) < L.length := by omega
        have f4a : (a : Int) < h.length := by omega
        have f4b : (b' : Int) < h.length := by omega
        generalize cnt2 (L.take k) = q at HTk hcb ⊢
        have hq : (q : Int) ≤ 144 := by omega
        by_cases hk2 : x2 = 2
        · have f5 : (x2 == 2) = true := by simpa using hk2
          rw [show (⟨(a : Int), (b' : Int), x2⟩ : T3).c = x2 from rfl, if_pos hk2] at HTk
          clear hk2
          go_wp2
          exact ⟨⟨k + 1, by omega, by go_num, by rw [HTk.out]; go_num, HE.out⟩, by simp [intOf]; omega⟩
        · have f5 : (x2 == 2) = false := by simpa using hk2
          rw [show (⟨(a : Int), (b' : Int), x2⟩ : T3).c = x2 from rfl, if_neg hk2] at HTk
          clear hk2
          go_wp2
          exact ⟨⟨k + 1, by omega, by go_num, by rw [HTk.out]; go_num, HE.out⟩, by simp [intOf]; omega⟩
      · obtain rfl : k = L.length := by omega
        rw [List.take_length]
        obtain ⟨w8, hw8⟩ : ∃ w8, w8 = wr := ⟨_, rfl⟩
        subst hw8
        have hLt := HAc.out L.length
        rw [List.take_length] at hLt
        clear hE hlt
        go_wp2
        go_loopw [8, 10] (fun v i wr => ∃ k : Nat, k ≤ L2.length ∧ i = .int .i64 k ∧ v = .int .i64 (cnt2 (L2.take k) : Nat) ∧ Ext w8 wr) (fun _ i _ => L2.length - (intOf i).toNat)
        case atStart => exact ⟨0, Nat.zero_le _, rfl, rfl, Below.refl _ _⟩
        case round =>
          obtain ⟨k, hk, rfl, rfl, hE9⟩ := hrel
          have HE9 := Lib.hid hE9
          by_cases hlt : k < L2.length
          · obtain ⟨x0, x1, x2, b, off, hxk, rfl, _, hb0, c0, c1, c2'⟩ := (HI7.out.ext (HE.out.tr hE9)).at_ hlt
            have HTk := Lib.hid (cnt2_take hxk)
            have hcb := HAd.out k
            rw [List.length_take] at hcb
            clear hxk hE9
            have f4 : (k : Int) < L2.length := by omega
            generalize cnt2 (L2.take k) = q at HTk hcb ⊢
            have hq : (q : Int) ≤ 144 := by omega
            by_cases hk2 : x2 = 2
            · have f5 : (x2 == 2) = true := by simpa using hk2
              rw [show (⟨x0, x1, x2⟩ : T3).c = x2 from rfl, if_pos hk2] at HTk
              clear hk2
              go_wp2
              exact ⟨⟨k + 1, by omega, by go_num, by rw [HTk.out]; go_num, HE9.out⟩, by simp [intOf]; omega⟩
            · have f5 : (x2 == 2) = false := by simpa using hk2
              rw [show (⟨x0, x1, x2⟩ : T3).c = x2 from rfl, if_neg hk2] at HTk
              clear hk2
              go_wp2
              exact ⟨⟨k + 1, by omega, by go_num, by rw [HTk.out]; go_num, HE9.out⟩, by simp [intOf]; omega⟩
          · obtain rfl : k = L2.length := by omega
            rw [List.take_length]
            have HE79 := Lib.hid (HE.out.tr HE9.out)
            have hcc : (((cnt2 L : Nat) : Int) == ((cnt2 L2 : Nat) : Int)) = true := by rw [HCN.out]; simp
            clear hE9 hlt
            generalize cnt2 L2 = q2 at hcc ⊢
            generalize cnt2 L = q1 at hcc hLt ⊢
            go_wp2_with (fail)
            go_at_call 13
            refine (HV.out _ _ _ (HI47.out.ext (HE79.out.tr (by (repeat' (first | (with_reducible exact Below.refl _ _) | (with_reducible refine Below.mono (by assumption) ?_) | (with_reducible refine Below.trans ?_ (Below.mono (by assumption) ?_)) | (with_reducible refine Below.alloc ?_ ?_ _) | (with_reducible refine Below.drew ?_) | (with_reducible refine below_drewN ?_ _) | (with_reducible refine Below.setCell ?_ ?_ _) | (simp only [World.size_alloc, World.size_setCell, World.size_drew, size_drewN]; omega) | omega)))))).mono ?_
            rintro e w10 ⟨rfl, hb⟩
            obtain ⟨hc, hf, hz, hs⟩ := bcell hb
            (try simp only [World.size_alloc, World.size_setCell, World.size_drew, size_drewN] at hs); (first | have l0 := Nat.lt_of_lt_of_le l0 (show _ ≤ w10.heap.size by omega) | have l0 : w.heap.size < w10.heap.size := (by omega) | skip); (try have l0e := Nat.le_of_lt l0); (try have l0f := Nat.le_add_right_of_le (k := 1) l0e); (try have l1 := Nat.lt_of_lt_of_le l1 (show _ ≤ w10.heap.size by omega)); (try have l1e := Nat.le_of_lt l1); (try have l1f := Nat.le_add_right_of_le (k := 1) l1e); (try have l2 := Nat.lt_of_lt_of_le l2 (show _ ≤ w10.heap.size by omega)); (try have l2e := Nat.le_of_lt l2); (try have l2f := Nat.le_add_right_of_le (k := 1) l2e); (try have l3 := Nat.lt_of_lt_of_le l3 (show _ ≤ w10.heap.size by omega)); (try have l3e := Nat.le_of_lt l3); (try have l3f := Nat.le_add_right_of_le (k := 1) l3e)
            go_wp2
            go_ret
            exact ⟨rfl, (E7.out.tr HE79.out).tr hb⟩

theorem FnEdgesOf_reads (os : Os) {H : Type} (enc : TypeId × Value → H) : ∃ places, DataW.whole enc Tryz.prog ((Law.laidWorld os).forCall (fun _ _ => 0) ⟨#[], #[.slice none 0 0], []⟩).memory Tryz.f3.params.toList Rows.fnEdgesOfSpec.vars false (#[.slice none 0 0] : Array Value).toList 8 = some ([.nil], [], places) :=
  ⟨[], by kernel_rfl⟩
theorem FnEdgesOf_laid (os : Os) : laidMet Tryz.prog Rows.fnEdgesOfRow.laid ((Law.laidWorld os).forCall (fun _ _ => 0) ⟨#[], #[.slice none 0 0], []⟩).memory :=
  laidMet_of_run' 8 (by kernel_rfl) (by kernel_rfl)
set_option maxRecDepth 100000 in
theorem FnEdgesOf_lifted (os : Os) (started : os.Started) (H : Type) (enc : TypeId × Value → H) (F : Stop.Interp) :
    ReturnsInHanded {} Tryz.checked os 3 .any ((OpenSpec.ofChange Rows.fnEdgesOfSpec).preRow enc Tryz.prog Tryz.f3 Rows.fnEdgesOfRow.domain false Rows.fnEdgesOfRow.laid) (((OpenSpec.ofChange Rows.fnEdgesOfSpec).at F).post enc Tryz.prog Tryz.f3 false true false false) := by
  obtain ⟨places, hx⟩ := FnEdgesOf_reads os enc
  refine returnsInHanded_of_row (C := Tryz.checked) (s := OpenSpec.ofChange Rows.fnEdgesOfSpec) Law.own started (by kernel_rfl) Tryz.func3
    (witness_row_at (enc := enc) (C := Tryz.checked) false (Law.laidWorld os) #[.slice none 0 0] rfl (by kernel_rfl) (by kernel_rfl) (by kernel_rfl)
      (OpenSpec.preRow_of_cond 8 hx (by kernel_rfl) (fun k hk => by cases hk) (by kernel_rfl) (FnEdgesOf_laid os))) ?_
  intro W base args ds gs before hval0 hW _ _ _ hLaid _ _
  have hval : ∀ (j : Nat) t v, Tryz.f3.params[j]? = some t → args[j]? = some v → Value.okWide Tryz.prog W .any base t v := hval0
  have hW' := hW
  obtain ⟨p, q, hA0, hV, rfl, hfz, hnd⟩ := hW
  have hA : DataW.TrodAll enc Tryz.prog W 0 (fun _ => true) true Tryz.f3.params.toList args.toList ds p := hA0
  rw [Tryz.params3] at hA hval
  obtain ⟨v0, vs0, d0, ds0, p0, q0, hargs, hds, rfl, h0, r0⟩ := trodAll_cons hA
  obtain ⟨rfl, rfl, rfl⟩ := trodAll_nil r0
  obtain rfl : args = #[v0] := by cases args; simp_all
  subst hds
  obtain ⟨x0, A0, c0, rfl, hO0, wf0⟩ := Law.open_bytes Tryz.underlying22 Tryz.underlying5 (by kernel_rfl) (hval 0 22 v0 rfl rfl) h0
  refine (FnEdgesOf_c x0 A0 c0 W hO0 wf0 (Law.bytes_cap Tryz.underlying22 (hval 0 22 _ rfl rfl))).mono fun e W' ⟨he, hb⟩ => ?_
  subst he
  refine ⟨_, rfl, Law.post_true Law.laidOut ?_ rfl rfl Tryz.underlying4 ⟨rfl, rfl, rfl⟩ hW' hb⟩
  intro t ht
  rw [Tryz.params3] at ht
  simp only [List.mem_cons, List.not_mem_nil, or_false] at ht
  first | (rcases ht with rfl <;> exact ⟨by kernel_rfl, of_decide_eq_true (by kernel_rfl)⟩)

theorem FnEdgesOf_holds : Rows.FnEdgesOfSaid :=
  OpenClaim.holds_of_cond 3 Tryz.f3 rfl rfl rfl rfl rfl rfl rfl ⟨rfl, rfl, rfl, rfl, rfl⟩ rfl rfl rfl rfl rfl (by kernel_rfl) Tryz.func3 (by kernel_rfl)
    (of_decide_eq_true (by kernel_rfl)) (by unfold Func.isWrapper; first | (rw [if_pos (by decide +kernel)]; kernel_rfl) | (rw [if_neg (by decide +kernel)]; exact ⟨rfl, rfl⟩))
    (fun os started H enc _ F => by rw [OpenClaim.pre_eq_preRow]; exact FnEdgesOf_lifted os started H enc F)
theorem FnEdgesOf_plain (f : FuncId) (fn : Func) (hf : Tryz.pinned.checked.prog.funcNamed Rows.fnEdgesOfRow.func = some f) (hfn : Tryz.pinned.checked.prog.funcs[f]? = some fn) :
    false = Tryz.pinned.checked.prog.looks [] ∧ ∀ (j : Nat) t, fn.params[j]? = some t → Tryz.pinned.checked.prog.wantsStandIn t = false := by
  obtain rfl : f = 3 := Option.some.inj ((show Tryz.prog.funcNamed Rows.fnEdgesOfRow.func = some 3 by kernel_rfl).symm.trans hf) |>.symm
  obtain rfl : fn = Tryz.f3 := (Option.some.inj (Tryz.func3.symm.trans hfn)).symm
  refine ⟨by kernel_rfl, fun j t ht => ?_⟩
  rw [Tryz.params3] at ht
  have hm := Array.mem_of_getElem? ht
  simp only [List.mem_toArray, List.mem_cons, List.not_mem_nil, or_false] at hm
  rcases hm with rfl
  · exact (show Tryz.prog.wantsStandIn 22 = false by kernel_rfl)
theorem FnEdgesOf_card : Rows.FnEdgesOfCardSaid :=
  Claim7.holds_tied_plain_at .later [] _ _ _ _ FnEdgesOf_holds (fun _ h => by cases h) (by kernel_rfl) (fun _ h => by cases h) fnEdgesOf_row_tie rfl ⟨rfl, rfl⟩ (by kernel_rfl) rfl FnEdgesOf_plain (by kernel_rfl)

end Go.Proofs.YtmbdacfgmiielaaGreatDoor
