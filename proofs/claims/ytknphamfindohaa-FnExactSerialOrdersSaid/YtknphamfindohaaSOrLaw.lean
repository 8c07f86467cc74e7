/-
  For every history and every list of numbers, the program's SerialOrders returns what the reference's returns, in memory of its own, and leaves its arguments as they were. No conditions.
-/
import Derived.Test.YtknphamfindohaaLaw
import Derived.Test.YtknphamfindohaaInsW
import Derived.Test.YtknphamfindohaaRowC
import Derived.OpenShut
import Derived.Deep.RegionWith
namespace Go.Proofs.Ytknphamfindohaa
set_option linter.unusedSimpArgs false
set_option linter.unusedVariables false
set_option maxRecDepth 100000
open Go.ChangeShapes Go.WideShapes Go.ChangeAt Go.RowKit Go.Joins

theorem any_txns2 {So Si : Nat → Prop} {w : World} {A : Option Addr} {xs : List TxnT} (h : Txns2 So Si w A xs) : Txns Any w A xs := h.txns (fun _ _ _ => trivial) (fun _ _ _ => trivial)

set_option maxHeartbeats 8000000 in
theorem FnExactSerialOrders_c (h : List TxnT) (A : Option Addr) (c : Nat) (ns : List Int) (B : Option Addr) (d : Nat) (w : World) (hx : Txns Any w A h) (wf : Law.wfL Law.wfTxn h) (hi : Ints Any w B ns) (wn : Law.wfL Law.wfI ns) :
    Calls Try.prog 7 #[.slice A h.length c, .slice B ns.length d] w fun e w' => e = .returned (.bool true) ∧ Ext w w' := by
  have hnl := wn.1
  unfold maxLen at hnl
  by_cases hn : 1048576 < ns.length
  · go_enter Try.func7, Try.ntmps7
    go_wp2
    go_ret
    exact ⟨rfl, Below.refl _ _⟩
  have hn' : ns.length ≤ 1048576 := by omega
  have C := Lib.hid (fun w hx => szTxnS2_c h Any A c w hx wf.1 (fun t ht => (wf.2 t ht).2.1))
  have HX := Lib.hid hx
  have HI := Lib.hid hi
  clear hx hi wf wn hn
  go_enter Try.func7, Try.ntmps7
  go_wp2_with (fail)
  go_at_call 8
  refine (C.out _ HX.out).mono ?_
  rintro e w1 ⟨r, rfl, (rfl | ⟨hr0, hr1, hsm⟩), hb⟩
  · go_wp2
    go_ret
    exact ⟨rfl, hb⟩
  · have E1 := Lib.hid (show Ext w w1 from hb)
    have HSm := Lib.hid hsm
    have hsl := hsm.len
    clear hb hsm C
    have CS := fun S S' A B c d w hx hcap hi => (specSerialOrders_c h ns S S' A B c d w hx hcap HSm.out hi hn').mono fun _ _ hh => hh.fr
    have CI := fun S S' A B c d w hx hi => (implSerialOrders_c h ns S S' A B c d w hx HSm.out hi hn').mono fun _ _ hh => hh.fr
    have hL : SmallR (soV h ns) := soV_small h ns
    generalize soV h ns = L at CS CI hL
    have CS := Lib.hid CS
    have CI := Lib.hid CI
    have hLt : tot L ≤ 1048576 := by unfold SmallR at hL; omega
    go_wp2_with (fail)
    go_at_call 10
    refine (toTxnSN_c h _ _ _ _ (HX.out.ext E1.out) HSm.out).mono ?_
    rintro e w2 ⟨A2, rfl, hA2, hN2, hb⟩
    obtain ⟨hc, hf, hz, hs⟩ := bcell hb
    (try simp only [World.size_alloc, World.size_setCell, World.size_drew, size_drewN] at hs); (first | have l0 := Nat.lt_of_lt_of_le l0 (show _ ≤ w2.heap.size by omega) | have l0 : w.heap.size < w2.heap.size := (by omega) | skip); (try have l0e := Nat.le_of_lt l0); (try have l0f := Nat.le_add_right_of_le (k := 1) l0e); (try have l1 := Nat.lt_of_lt_of_le l1 (show _ ≤ w2.heap.size by omega)); (try have l1e := Nat.le_of_lt l1); (try have l1f := Nat.le_add_right_of_le (k := 1) l1e); (try have l2 := Nat.lt_of_lt_of_le l2 (show _ ≤ w2.heap.size by omega)); (try have l2e := Nat.le_of_lt l2); (try have l2f := Nat.le_add_right_of_le (k := 1) l2e); (try have l3 := Nat.lt_of_lt_of_le l3 (show _ ≤ w2.heap.size by omega)); (try have l3e := Nat.le_of_lt l3); (try have l3f := Nat.le_add_right_of_le (k := 1) l3e)
    have E2 := Lib.hid (E1.out.tr hb)
    have HA2 := Lib.hid (any_txns2 hA2)
    have HN2 := Lib.hid hN2
    clear hA2 hN2 hb hc hf hz
    go_wp2_with (fail)
    go_at_call 27
    refine (toIntS_c ns _ _ _ _ (HI.out.ext E2.out) hn').mono ?_
    rintro e w3 ⟨rfl, hB3, hb⟩
    obtain ⟨hc, hf, hz, hs⟩ := bcell hb
    (try simp only [World.size_alloc, World.size_setCell, World.size_drew, size_drewN] at hs); (first | have l0 := Nat.lt_of_lt_of_le l0 (show _ ≤ w3.heap.size by omega) | have l0 : w.heap.size < w3.heap.size := (by omega) | skip); (try have l0e := Nat.le_of_lt l0); (try have l0f := Nat.le_add_right_of_le (k := 1) l0e); (try have l1 := Nat.lt_of_lt_of_le l1 (show _ ≤ w3.heap.size by omega)); (try have l1e := Nat.le_of_lt l1); (try have l1f := Nat.le_add_right_of_le (k := 1) l1e); (try have l2 := Nat.lt_of_lt_of_le l2 (show _ ≤ w3.heap.size by omega)); (try have l2e := Nat.le_of_lt l2); (try have l2f := Nat.le_add_right_of_le (k := 1) l2e); (try have l3 := Nat.lt_of_lt_of_le l3 (show _ ≤ w3.heap.size by omega)); (try have l3e := Nat.le_of_lt l3); (try have l3f := Nat.le_add_right_of_le (k := 1) l3e)
    have E3 := Lib.hid (E2.out.tr hb)
    have HA3 := Lib.hid (HA2.out.ext hb)
    have HN3 := Lib.hid (HN2.out.ext hb)
    have HB3 := Lib.hid hB3.1
    clear hB3 hb hc hf hz HA2 HN2
    go_wp2_with (fail)
    go_at_call 30
    refine (CS.out _ _ _ _ _ _ _ HA3.out HN3.out HB3.out).mono ?_
    rintro e w4 ⟨A4, c4, rfl, hW, hf4, hb⟩
    obtain ⟨hc, hf, hz, hs⟩ := bcell hb
    (try simp only [World.size_alloc, World.size_setCell, World.size_drew, size_drewN] at hs); (first | have l0 := Nat.lt_of_lt_of_le l0 (show _ ≤ w4.heap.size by omega) | have l0 : w.heap.size < w4.heap.size := (by omega) | skip); (try have l0e := Nat.le_of_lt l0); (try have l0f := Nat.le_add_right_of_le (k := 1) l0e); (try have l1 := Nat.lt_of_lt_of_le l1 (show _ ≤ w4.heap.size by omega)); (try have l1e := Nat.le_of_lt l1); (try have l1f := Nat.le_add_right_of_le (k := 1) l1e); (try have l2 := Nat.lt_of_lt_of_le l2 (show _ ≤ w4.heap.size by omega)); (try have l2e := Nat.le_of_lt l2); (try have l2f := Nat.le_add_right_of_le (k := 1) l2e); (try have l3 := Nat.lt_of_lt_of_le l3 (show _ ≤ w4.heap.size by omega)); (try have l3e := Nat.le_of_lt l3); (try have l3f := Nat.le_add_right_of_le (k := 1) l3e)
    have E4 := Lib.hid (E3.out.tr hb)
    have HW := Lib.hid hW
    clear hW hf4 hb hc hf hz HA3 HN3 HB3
    go_wp2_with (fail)
    go_at_call 10
    refine (toTxnS2_c h _ _ _ _ (HX.out.ext E4.out) HSm.out).mono ?_
    rintro e w5 ⟨lim5, rfl, hA5, hb⟩
    obtain ⟨hc, hf, hz, hs⟩ := bcell hb
    (try simp only [World.size_alloc, World.size_setCell, World.size_drew, size_drewN] at hs); (first | have l0 := Nat.lt_of_lt_of_le l0 (show _ ≤ w5.heap.size by omega) | have l0 : w.heap.size < w5.heap.size := (by omega) | skip); (try have l0e := Nat.le_of_lt l0); (try have l0f := Nat.le_add_right_of_le (k := 1) l0e); (try have l1 := Nat.lt_of_lt_of_le l1 (show _ ≤ w5.heap.size by omega)); (try have l1e := Nat.le_of_lt l1); (try have l1f := Nat.le_add_right_of_le (k := 1) l1e); (try have l2 := Nat.lt_of_lt_of_le l2 (show _ ≤ w5.heap.size by omega)); (try have l2e := Nat.le_of_lt l2); (try have l2f := Nat.le_add_right_of_le (k := 1) l2e); (try have l3 := Nat.lt_of_lt_of_le l3 (show _ ≤ w5.heap.size by omega)); (try have l3e := Nat.le_of_lt l3); (try have l3f := Nat.le_add_right_of_le (k := 1) l3e)
    have D5 := Lib.hid hb
    have z45 := hb.size
    have hlim : lim5 h.length ≤ w5.heap.size := by obtain ⟨_, _, hq⟩ := hA5; exact hq.2.2.2.1
    have HA5 := Lib.hid hA5
    clear hA5 hb hc hf hz
    go_wp2_with (fail)
    go_at_call 27
    refine (toIntS_c ns _ _ _ _ (HI.out.ext (E4.out.tr D5.out)) hn').mono ?_
    rintro e w6 ⟨rfl, hB6, hb⟩
    obtain ⟨hc, hf, hz, hs⟩ := bcell hb
    (try simp only [World.size_alloc, World.size_setCell, World.size_drew, size_drewN] at hs); (first | have l0 := Nat.lt_of_lt_of_le l0 (show _ ≤ w6.heap.size by omega) | have l0 : w.heap.size < w6.heap.size := (by omega) | skip); (try have l0e := Nat.le_of_lt l0); (try have l0f := Nat.le_add_right_of_le (k := 1) l0e); (try have l1 := Nat.lt_of_lt_of_le l1 (show _ ≤ w6.heap.size by omega)); (try have l1e := Nat.le_of_lt l1); (try have l1f := Nat.le_add_right_of_le (k := 1) l1e); (try have l2 := Nat.lt_of_lt_of_le l2 (show _ ≤ w6.heap.size by omega)); (try have l2e := Nat.le_of_lt l2); (try have l2f := Nat.le_add_right_of_le (k := 1) l2e); (try have l3 := Nat.lt_of_lt_of_le l3 (show _ ≤ w6.heap.size by omega)); (try have l3e := Nat.le_of_lt l3); (try have l3f := Nat.le_add_right_of_le (k := 1) l3e)
    have D6 := Lib.hid (D5.out.tr hb)
    have HA6 := Lib.hid (HA5.out.ext hb)
    have HB6 := Lib.hid hB6
    have z56 : w5.heap.size < w6.heap.size := (hB6.2 _ rfl).2.1
    clear hB6 hb hc hf hz HA5
    go_wp2_with (fail)
    go_at_call 31
    refine (CI.out _ _ _ _ _ _ _ (any_txns2 HA6.out.txns) HB6.out.1).mono ?_
    rintro e w7 ⟨A7, c7, rfl, hG0, hf7, hb⟩
    obtain ⟨hc, hf, hz, hs⟩ := bcell hb
    (try simp only [World.size_alloc, World.size_setCell, World.size_drew, size_drewN] at hs); (first | have l0 := Nat.lt_of_lt_of_le l0 (show _ ≤ w7.heap.size by omega) | have l0 : w.heap.size < w7.heap.size := (by omega) | skip); (try have l0e := Nat.le_of_lt l0); (try have l0f := Nat.le_add_right_of_le (k := 1) l0e); (try have l1 := Nat.lt_of_lt_of_le l1 (show _ ≤ w7.heap.size by omega)); (try have l1e := Nat.le_of_lt l1); (try have l1f := Nat.le_add_right_of_le (k := 1) l1e); (try have l2 := Nat.lt_of_lt_of_le l2 (show _ ≤ w7.heap.size by omega)); (try have l2e := Nat.le_of_lt l2); (try have l2f := Nat.le_add_right_of_le (k := 1) l2e); (try have l3 := Nat.lt_of_lt_of_le l3 (show _ ≤ w7.heap.size by omega)); (try have l3e := Nat.le_of_lt l3); (try have l3f := Nat.le_add_right_of_le (k := 1) l3e)
    have HG7 := Lib.hid (show RR w6.heap.size w7 A7 L from ⟨hG0, hf7⟩)
    have D7 := Lib.hid (D6.out.tr hb)
    have HA7 := Lib.hid (HA6.out.ext hb)
    have HB7 := Lib.hid (HB6.out.ext hb)
    clear hG0 hf7 hb hc hf hz HA6 HB6
    go_wp2_with (fail)
    go_at_call 12
    refine (eqIntSS_c L _ _ _ _ _ _ _ HG7.out.1 (HW.out.ext D7.out) hL).mono ?_
    rintro e w8 ⟨rfl, hb⟩
    obtain ⟨hc, hf, hz, hs⟩ := bcell hb
    (try simp only [World.size_alloc, World.size_setCell, World.size_drew, size_drewN] at hs); (first | have l0 := Nat.lt_of_lt_of_le l0 (show _ ≤ w8.heap.size by omega) | have l0 : w.heap.size < w8.heap.size := (by omega) | skip); (try have l0e := Nat.le_of_lt l0); (try have l0f := Nat.le_add_right_of_le (k := 1) l0e); (try have l1 := Nat.lt_of_lt_of_le l1 (show _ ≤ w8.heap.size by omega)); (try have l1e := Nat.le_of_lt l1); (try have l1f := Nat.le_add_right_of_le (k := 1) l1e); (try have l2 := Nat.lt_of_lt_of_le l2 (show _ ≤ w8.heap.size by omega)); (try have l2e := Nat.le_of_lt l2); (try have l2f := Nat.le_add_right_of_le (k := 1) l2e); (try have l3 := Nat.lt_of_lt_of_le l3 (show _ ≤ w8.heap.size by omega)); (try have l3e := Nat.le_of_lt l3); (try have l3f := Nat.le_add_right_of_le (k := 1) l3e)
    have D8 := Lib.hid (D7.out.tr hb)
    have HA8 := Lib.hid (HA7.out.ext hb)
    have HB8 := Lib.hid (HB7.out.ext hb)
    have HG8 := Lib.hid (HG7.out.ext hb)
    clear hb hc hf hz HA7 HB7 HG7
    go_wp2_with (fail)
    go_at_call 10
    refine (toTxnS2_c h _ _ _ _ (HX.out.ext (E4.out.tr D8.out)) HSm.out).mono ?_
    rintro e w9 ⟨lim9, rfl, hA9, hb⟩
    obtain ⟨hc, hf, hz, hs⟩ := bcell hb
    (try simp only [World.size_alloc, World.size_setCell, World.size_drew, size_drewN] at hs); (first | have l0 := Nat.lt_of_lt_of_le l0 (show _ ≤ w9.heap.size by omega) | have l0 : w.heap.size < w9.heap.size := (by omega) | skip); (try have l0e := Nat.le_of_lt l0); (try have l0f := Nat.le_add_right_of_le (k := 1) l0e); (try have l1 := Nat.lt_of_lt_of_le l1 (show _ ≤ w9.heap.size by omega)); (try have l1e := Nat.le_of_lt l1); (try have l1f := Nat.le_add_right_of_le (k := 1) l1e); (try have l2 := Nat.lt_of_lt_of_le l2 (show _ ≤ w9.heap.size by omega)); (try have l2e := Nat.le_of_lt l2); (try have l2f := Nat.le_add_right_of_le (k := 1) l2e); (try have l3 := Nat.lt_of_lt_of_le l3 (show _ ≤ w9.heap.size by omega)); (try have l3e := Nat.le_of_lt l3); (try have l3f := Nat.le_add_right_of_le (k := 1) l3e)
    have D9 := Lib.hid (D8.out.tr hb)
    have HA9 := Lib.hid (HA8.out.ext hb)
    have HA9n := Lib.hid (any_txns2 hA9.txns)
    have HB9 := Lib.hid (HB8.out.ext hb)
    have HG9 := Lib.hid (HG8.out.ext hb)
    clear hA9 hb hc hf hz HA8 HB8 HG8
    go_wp2_with (fail)
    go_at_call 13
    refine (eqTxnS_c h _ _ _ _ _ _ _ (any_txns2 HA9.out.txns) HA9n.out HSm.out).mono ?_
    rintro e w10 ⟨rfl, hb⟩
    obtain ⟨hc, hf, hz, hs⟩ := bcell hb
    (try simp only [World.size_alloc, World.size_setCell, World.size_drew, size_drewN] at hs); (first | have l0 := Nat.lt_of_lt_of_le l0 (show _ ≤ w10.heap.size by omega) | have l0 : w.heap.size < w10.heap.size := (by omega) | skip); (try have l0e := Nat.le_of_lt l0); (try have l0f := Nat.le_add_right_of_le (k := 1) l0e); (try have l1 := Nat.lt_of_lt_of_le l1 (show _ ≤ w10.heap.size by omega)); (try have l1e := Nat.le_of_lt l1); (try have l1f := Nat.le_add_right_of_le (k := 1) l1e); (try have l2 := Nat.lt_of_lt_of_le l2 (show _ ≤ w10.heap.size by omega)); (try have l2e := Nat.le_of_lt l2); (try have l2f := Nat.le_add_right_of_le (k := 1) l2e); (try have l3 := Nat.lt_of_lt_of_le l3 (show _ ≤ w10.heap.size by omega)); (try have l3e := Nat.le_of_lt l3); (try have l3f := Nat.le_add_right_of_le (k := 1) l3e)
    have D10 := Lib.hid (D9.out.tr hb)
    have HA10 := Lib.hid (HA9.out.ext hb)
    have HB10 := Lib.hid (HB9.out.ext hb)
    have HG10 := Lib.hid (HG9.out.ext hb)
    clear hb hc hf hz HA9 HA9n HB9 HG9
    go_wp2_with (fail)
    go_at_call 27
    refine (toIntS_c ns _ _ _ _ (HI.out.ext (E4.out.tr D10.out)) hn').mono ?_
    rintro e w11 ⟨rfl, hB11, hb⟩
    obtain ⟨hc, hf, hz, hs⟩ := bcell hb
    (try simp only [World.size_alloc, World.size_setCell, World.size_drew, size_drewN] at hs); (first | have l0 := Nat.lt_of_lt_of_le l0 (show _ ≤ w11.heap.size by omega) | have l0 : w.heap.size < w11.heap.size := (by omega) | skip); (try have l0e := Nat.le_of_lt l0); (try have l0f := Nat.le_add_right_of_le (k := 1) l0e); (try have l1 := Nat.lt_of_lt_of_le l1 (show _ ≤ w11.heap.size by omega)); (try have l1e := Nat.le_of_lt l1); (try have l1f := Nat.le_add_right_of_le (k := 1) l1e); (try have l2 := Nat.lt_of_lt_of_le l2 (show _ ≤ w11.heap.size by omega)); (try have l2e := Nat.le_of_lt l2); (try have l2f := Nat.le_add_right_of_le (k := 1) l2e); (try have l3 := Nat.lt_of_lt_of_le l3 (show _ ≤ w11.heap.size by omega)); (try have l3e := Nat.le_of_lt l3); (try have l3f := Nat.le_add_right_of_le (k := 1) l3e)
    have D11 := Lib.hid (D10.out.tr hb)
    have HA11 := Lib.hid (HA10.out.ext hb)
    have HB11 := Lib.hid (HB10.out.ext hb)
    have HB11n := Lib.hid hB11.1
    have HG11 := Lib.hid (HG10.out.ext hb)
    clear hB11 hb hc hf hz HA10 HB10 HG10
    go_wp2_with (fail)
    go_at_call 29
    refine (eqIntS_c ns _ _ _ _ _ _ _ HB11.out.1 HB11n.out hn').mono ?_
    rintro e w12 ⟨rfl, hb⟩
    obtain ⟨hc, hf, hz, hs⟩ := bcell hb
    (try simp only [World.size_alloc, World.size_setCell, World.size_drew, size_drewN] at hs); (first | have l0 := Nat.lt_of_lt_of_le l0 (show _ ≤ w12.heap.size by omega) | have l0 : w.heap.size < w12.heap.size := (by omega) | skip); (try have l0e := Nat.le_of_lt l0); (try have l0f := Nat.le_add_right_of_le (k := 1) l0e); (try have l1 := Nat.lt_of_lt_of_le l1 (show _ ≤ w12.heap.size by omega)); (try have l1e := Nat.le_of_lt l1); (try have l1f := Nat.le_add_right_of_le (k := 1) l1e); (try have l2 := Nat.lt_of_lt_of_le l2 (show _ ≤ w12.heap.size by omega)); (try have l2e := Nat.le_of_lt l2); (try have l2f := Nat.le_add_right_of_le (k := 1) l2e); (try have l3 := Nat.lt_of_lt_of_le l3 (show _ ≤ w12.heap.size by omega)); (try have l3e := Nat.le_of_lt l3); (try have l3f := Nat.le_add_right_of_le (k := 1) l3e)
    have D12 := Lib.hid (D11.out.tr hb)
    have HA12 := Lib.hid (HA11.out.ext hb)
    have HB12 := Lib.hid (HB11.out.ext hb)
    have HG12 := Lib.hid (HG11.out.ext hb)
    clear hb hc hf hz HA11 HB11 HB11n HG11
    go_wp2_with (fail)
    go_at_call 14
    refine (markTxnS_c h _ _ _ HA12.out HSm.out).mono ?_
    rintro e w13 ⟨k9, rfl, hk9, hk9b, hw13⟩
    have D13 := Lib.hid (Within.old D12.out hw13 (Nat.le_refl _))
    have HB13 := Lib.hid (HB12.out.within hw13 hlim)
    have HG13 := Lib.hid (HG12.out.within hw13 (by omega))
    clear hw13 HA12 HB12 HG12
    go_wp2_with (fail)
    go_at_call 32
    refine (markIntS_c ns _ _ _ (k9 : Int) _ HB13.out.1 (fun a ha => (HB13.out.2 a ha).2.2) hn' (by omega) (by omega)).mono ?_
    rintro e w14 ⟨rfl, _, hg14, _⟩
    have hw14 : Within w5.heap.size (w5.heap.size + 1) w13 w14 := Within.grown hg14 (fun g hg => by simp only [rowOf, Option.map_some, Option.some.injEq] at hg; omega)
    have D14 := Lib.hid (Within.old D13.out hw14 z45)
    have HG14 := Lib.hid (HG13.out.within hw14 (by omega))
    clear hw14 hg14 HB13 HG13
    have hlo14 : ((k9 : Int) + (ns.length : Nat) < 0) = False := by simp; omega
    go_wp2_with (fail)
    go_at_call 12
    refine (eqIntSS_c L _ _ _ _ _ _ _ HG14.out.1 (HW.out.ext D14.out) hL).mono ?_
    rintro e w15 ⟨rfl, hb⟩
    obtain ⟨hc, hf, hz, hs⟩ := bcell hb
    (try simp only [World.size_alloc, World.size_setCell, World.size_drew, size_drewN] at hs); (first | have l0 := Nat.lt_of_lt_of_le l0 (show _ ≤ w15.heap.size by omega) | have l0 : w.heap.size < w15.heap.size := (by omega) | skip); (try have l0e := Nat.le_of_lt l0); (try have l0f := Nat.le_add_right_of_le (k := 1) l0e); (try have l1 := Nat.lt_of_lt_of_le l1 (show _ ≤ w15.heap.size by omega)); (try have l1e := Nat.le_of_lt l1); (try have l1f := Nat.le_add_right_of_le (k := 1) l1e); (try have l2 := Nat.lt_of_lt_of_le l2 (show _ ≤ w15.heap.size by omega)); (try have l2e := Nat.le_of_lt l2); (try have l2f := Nat.le_add_right_of_le (k := 1) l2e); (try have l3 := Nat.lt_of_lt_of_le l3 (show _ ≤ w15.heap.size by omega)); (try have l3e := Nat.le_of_lt l3); (try have l3f := Nat.le_add_right_of_le (k := 1) l3e)
    have D15 := Lib.hid (D14.out.tr hb)
    have HG15 := Lib.hid (HG14.out.ext hb)
    clear hb hc hf hz HG14
    go_wp2_with (fail)
    refine (markRR L _ _ _ _ _ HG15.out hL (by omega) (by omega)).mono ?_
    rintro e w16 ⟨rfl, hM0, hw16⟩
    have HM16 := Lib.hid (hM0 rfl)
    have D16 := Lib.hid (Within.old D15.out hw16 (by omega))
    clear HG15 hw16 hM0
    have hne : (((1 : Int) + ((tot L : Nat) : Int)) != ((1 : Int) + ((tot L : Nat) : Int))) = false := by simp
    have hlo : ((1 : Int) + ((tot L : Nat) : Int) < 0) = False := by simp; omega
    go_wp2_with (fail)
    refine (heldRR L _ _ _ HM16.out hL).mono ?_
    rintro e w' ⟨rfl, rfl⟩
    go_wp2_with (fail)
    go_at_call 10
    refine (toTxnS2_c h _ _ _ _ (HX.out.ext (E4.out.tr D16.out)) HSm.out).mono ?_
    rintro e w17 ⟨lim17, rfl, hA17, hb⟩
    obtain ⟨hc, hf, hz, hs⟩ := bcell hb
    (try simp only [World.size_alloc, World.size_setCell, World.size_drew, size_drewN] at hs); (first | have l0 := Nat.lt_of_lt_of_le l0 (show _ ≤ w17.heap.size by omega) | have l0 : w.heap.size < w17.heap.size := (by omega) | skip); (try have l0e := Nat.le_of_lt l0); (try have l0f := Nat.le_add_right_of_le (k := 1) l0e); (try have l1 := Nat.lt_of_lt_of_le l1 (show _ ≤ w17.heap.size by omega)); (try have l1e := Nat.le_of_lt l1); (try have l1f := Nat.le_add_right_of_le (k := 1) l1e); (try have l2 := Nat.lt_of_lt_of_le l2 (show _ ≤ w17.heap.size by omega)); (try have l2e := Nat.le_of_lt l2); (try have l2f := Nat.le_add_right_of_le (k := 1) l2e); (try have l3 := Nat.lt_of_lt_of_le l3 (show _ ≤ w17.heap.size by omega)); (try have l3e := Nat.le_of_lt l3); (try have l3f := Nat.le_add_right_of_le (k := 1) l3e)
    have D17 := Lib.hid (D16.out.tr hb)
    have HM17 := Lib.hid (HM16.out.ext hb)
    have HA17 := Lib.hid (any_txns2 hA17.txns)
    clear hA17 hb hc hf hz HM16
    go_wp2_with (fail)
    go_at_call 27
    refine (toIntS_c ns _ _ _ _ (HI.out.ext (E4.out.tr D17.out)) hn').mono ?_
    rintro e w18 ⟨rfl, hB18, hb⟩
    obtain ⟨hc, hf, hz, hs⟩ := bcell hb
    (try simp only [World.size_alloc, World.size_setCell, World.size_drew, size_drewN] at hs); (first | have l0 := Nat.lt_of_lt_of_le l0 (show _ ≤ w18.heap.size by omega) | have l0 : w.heap.size < w18.heap.size := (by omega) | skip); (try have l0e := Nat.le_of_lt l0); (try have l0f := Nat.le_add_right_of_le (k := 1) l0e); (try have l1 := Nat.lt_of_lt_of_le l1 (show _ ≤ w18.heap.size by omega)); (try have l1e := Nat.le_of_lt l1); (try have l1f := Nat.le_add_right_of_le (k := 1) l1e); (try have l2 := Nat.lt_of_lt_of_le l2 (show _ ≤ w18.heap.size by omega)); (try have l2e := Nat.le_of_lt l2); (try have l2f := Nat.le_add_right_of_le (k := 1) l2e); (try have l3 := Nat.lt_of_lt_of_le l3 (show _ ≤ w18.heap.size by omega)); (try have l3e := Nat.le_of_lt l3); (try have l3f := Nat.le_add_right_of_le (k := 1) l3e)
    have D18 := Lib.hid (D17.out.tr hb)
    have HM18 := Lib.hid (HM17.out.ext hb)
    have HA18 := Lib.hid (HA17.out.ext hb)
    have HB18 := Lib.hid hB18.1
    clear hB18 hb hc hf hz HM17 HA17
    go_wp2_with (fail)
    go_at_call 31
    refine (CI.out _ _ _ _ _ _ _ HA18.out HB18.out).mono ?_
    rintro e w19 ⟨A19, c19, rfl, hH, _, hb⟩
    obtain ⟨hc, hf, hz, hs⟩ := bcell hb
    (try simp only [World.size_alloc, World.size_setCell, World.size_drew, size_drewN] at hs); (first | have l0 := Nat.lt_of_lt_of_le l0 (show _ ≤ w19.heap.size by omega) | have l0 : w.heap.size < w19.heap.size := (by omega) | skip); (try have l0e := Nat.le_of_lt l0); (try have l0f := Nat.le_add_right_of_le (k := 1) l0e); (try have l1 := Nat.lt_of_lt_of_le l1 (show _ ≤ w19.heap.size by omega)); (try have l1e := Nat.le_of_lt l1); (try have l1f := Nat.le_add_right_of_le (k := 1) l1e); (try have l2 := Nat.lt_of_lt_of_le l2 (show _ ≤ w19.heap.size by omega)); (try have l2e := Nat.le_of_lt l2); (try have l2f := Nat.le_add_right_of_le (k := 1) l2e); (try have l3 := Nat.lt_of_lt_of_le l3 (show _ ≤ w19.heap.size by omega)); (try have l3e := Nat.le_of_lt l3); (try have l3f := Nat.le_add_right_of_le (k := 1) l3e)
    have D19 := Lib.hid (D18.out.tr hb)
    have HM19 := Lib.hid (HM18.out.ext hb)
    have HH := Lib.hid hH
    clear hH hb hc hf hz HM18 HA18 HB18
    go_wp2_with (fail)
    go_at_call 12
    refine (eqIntSS_c L _ _ _ _ _ _ _ HH.out (HW.out.ext D19.out) hL).mono ?_
    rintro e w20 ⟨rfl, hb⟩
    obtain ⟨hc, hf, hz, hs⟩ := bcell hb
    (try simp only [World.size_alloc, World.size_setCell, World.size_drew, size_drewN] at hs); (first | have l0 := Nat.lt_of_lt_of_le l0 (show _ ≤ w20.heap.size by omega) | have l0 : w.heap.size < w20.heap.size := (by omega) | skip); (try have l0e := Nat.le_of_lt l0); (try have l0f := Nat.le_add_right_of_le (k := 1) l0e); (try have l1 := Nat.lt_of_lt_of_le l1 (show _ ≤ w20.heap.size by omega)); (try have l1e := Nat.le_of_lt l1); (try have l1f := Nat.le_add_right_of_le (k := 1) l1e); (try have l2 := Nat.lt_of_lt_of_le l2 (show _ ≤ w20.heap.size by omega)); (try have l2e := Nat.le_of_lt l2); (try have l2f := Nat.le_add_right_of_le (k := 1) l2e); (try have l3 := Nat.lt_of_lt_of_le l3 (show _ ≤ w20.heap.size by omega)); (try have l3e := Nat.le_of_lt l3); (try have l3f := Nat.le_add_right_of_le (k := 1) l3e)
    have D20 := Lib.hid (D19.out.tr hb)
    have HM20 := Lib.hid (HM19.out.ext hb)
    clear hb hc hf hz HM19 HH
    go_wp2_with (fail)
    refine (heldRR L _ _ _ HM20.out hL).mono ?_
    rintro e w' ⟨rfl, rfl⟩
    go_wp2
    go_ret
    exact ⟨rfl, E4.out.tr D20.out⟩

set_option maxRecDepth 100000 in
theorem FnExactSerialOrders_lifted (os : Os) (started : os.Started) (H : Type) (enc : TypeId × Value → H) :
    ReturnsInHanded {} Try.checked os 7 .any (Rows.fnExactSerialOrdersSpec.pre6 enc Try.prog Try.f7 Rows.fnExactSerialOrdersRow.domain false) (Rows.fnExactSerialOrdersSpec.post enc Try.prog Try.f7 false true false false) := by
  refine returnsInHanded_of_change (C := Try.checked) Law.own started (by kernel_rfl) Try.func7
    (ChangeSpec.witness6 (enc := enc) (C := Try.checked) false ⟨#[], #[.slice none 0 0, .slice none 0 0], []⟩ 8 (by kernel_rfl) (by kernel_rfl) (by kernel_rfl) (by kernel_rfl)) ?_
  intro W base args ds gs before hval0 hW _ _
  have hval : ∀ (j : Nat) t v, Try.f7.params[j]? = some t → args[j]? = some v → Value.okWide Try.prog W .any base t v := hval0
  have hW' := hW
  obtain ⟨p, q, hA0, hV, rfl, hfz, hnd⟩ := hW
  have hA : DataW.TrodAll enc Try.prog W 0 (fun _ => true) true Try.f7.params.toList args.toList ds p := hA0
  rw [Try.params7] at hA hval
  obtain ⟨v0, vs0, d0, ds0, p0, q0, hargs, hds, rfl, h0, r0⟩ := trodAll_cons hA
  obtain ⟨v1, vs1, d1, ds1, p1, q1, rfl, rfl, rfl, h1, r1⟩ := trodAll_cons r0
  obtain ⟨rfl, rfl, rfl⟩ := trodAll_nil r1
  obtain rfl : args = #[v0, v1] := by cases args; simp_all
  subst hds
  obtain ⟨x0, A0, c0, rfl, hO0, wf0⟩ := Law.open_txns Try.underlying22 Try.underlying50 (by kernel_rfl) (by kernel_rfl) Try.underlying3 Try.underlying48 Try.underlying4 Try.underlying96 (by kernel_rfl) (by kernel_rfl) Try.underlying3 Try.underlying3 Try.underlying3 (hval 0 22 v0 rfl rfl) h0
  obtain ⟨x1, A1, c1, rfl, hO1, wf1⟩ := Law.open_intsl Try.underlying40 Try.underlying3 (by kernel_rfl) (hval 1 40 v1 rfl rfl) h1
  refine (FnExactSerialOrders_c x0 A0 c0 x1 A1 c1 W hO0 wf0 hO1 wf1).mono fun e W' ⟨he, hb⟩ => ?_
  subst he
  refine ⟨_, rfl, Law.post_true Law.laidOut ?_ rfl rfl Try.underlying4 ⟨rfl, rfl, rfl⟩ hW' hb⟩
  intro t ht
  rw [Try.params7] at ht
  simp only [List.mem_cons, List.not_mem_nil, or_false] at ht
  first | (rcases ht with rfl | rfl <;> exact ⟨by kernel_rfl, of_decide_eq_true (by kernel_rfl)⟩)

theorem FnExactSerialOrders_holds : Rows.FnExactSerialOrdersSaid :=
  OpenClaim.holds_of_wide 7 Try.f7 rfl rfl rfl rfl rfl rfl rfl ⟨rfl, rfl, rfl, rfl, rfl⟩ rfl rfl rfl rfl rfl (by kernel_rfl) Try.func7 (by kernel_rfl)
    (of_decide_eq_true (by kernel_rfl)) (by unfold Func.isWrapper; first | (rw [if_pos (by decide +kernel)]; kernel_rfl) | (rw [if_neg (by decide +kernel)]; exact ⟨rfl, rfl⟩))
    (fun os started H enc _ => FnExactSerialOrders_lifted os started H enc)

end Go.Proofs.Ytknphamfindohaa
