/-
  For every history and all lists of orders, the program's EdgesOf returns what the reference's returns, in memory of its own, and leaves its arguments as they were. No conditions.
-/
import Derived.Test.YtdohbmegkkkchaaGreatLaw
import Derived.Test.YtdohbmegkkkchaaGreatEdI
import Derived.Test.YtdohbmegkkkchaaGreatEdSp
import Derived.Test.YtdohbmegkkkchaaGreatRowC
import Derived.Test.YtdohbmegkkkchaaGreatMarkR
import Derived.OpenShut
import Derived.Deep.RegionWith
namespace Go.Proofs.YtdohbmegkkkchaaGreat
set_option linter.unusedSimpArgs false
set_option linter.unusedVariables false
set_option maxRecDepth 100000
open Go.ChangeShapes Go.WideShapes Go.ChangeAt Go.RowKit Go.Joins

theorem any_txns2 {So Si : Nat → Prop} {w : World} {A : Option Addr} {xs : List TxnT} (h : Txns2 So Si w A xs) : Txns Any w A xs := h.txns (fun _ _ _ => trivial) (fun _ _ _ => trivial)

set_option maxHeartbeats 8000000 in
theorem FnExactEdgesOf_c (h : List TxnT) (A : Option Addr) (c : Nat) (R : List (List Int)) (B : Option Addr) (d : Nat) (w : World) (hx : Txns Any w A h) (wf : Law.wfL Law.wfTxn h) (hr : Rows2 Any w B R) (wr : Law.wfL (Law.wfL Law.wfI) R) :
    Calls Tryz.prog 3 #[.slice A h.length c, .slice B R.length d] w fun e w' => e = .returned (.bool true) ∧ Ext w w' := by
  have C := Lib.hid (fun w hx => szTxnS2_c h Any A c w hx wf.1 (fun t ht => (wf.2 t ht).2.1))
  have CR := Lib.hid (fun q w hx h0 h1 => szIntSS_c R Any B d q w hx wr.1 (fun l hl => (wr.2 l hl).1) h0 h1)
  have HX := Lib.hid hx
  have HR := Lib.hid hr
  clear hx hr wf wr
  go_enter Tryz.func3, Tryz.ntmps3
  go_wp2_with (fail)
  go_at_call 7
  refine (C.out _ HX.out).mono ?_
  rintro e w1 ⟨r, rfl, (rfl | ⟨hr0, hr1, hsm⟩), hb⟩
  · go_wp2
    go_ret
    exact ⟨rfl, hb⟩
  · have HE1 := Lib.hid (show Ext w w1 from hb)
    have HSm := Lib.hid hsm
    clear hb hsm C
    go_wp2_with (fail)
    go_at_call 8
    refine (CR.out r _ (HR.out.ext HE1.out) hr0 hr1).mono ?_
    rintro e w2 ⟨r2, rfl, (rfl | ⟨hr20, hr21, hsr⟩), hb⟩
    · go_wp2
      go_ret
      exact ⟨rfl, HE1.out.tr hb⟩
    · have E2 := Lib.hid (HE1.out.tr hb)
      have HSr := Lib.hid hsr
      have CS := fun S S' A B c d w hx hr => specEdgesOf_c h R S S' A B c d w hx HSm.out hr HSr.out
      have CI := fun S S' A B c d w hx hr => implEdgesOf_c h R S S' A B c d w hx HSm.out hr HSr.out
      have hL : (edgesV h R).length ≤ 1048576 := Nat.le_trans (edgesV_len h R) (by omega)
      generalize edgesV h R = L at CS CI hL
      have CS := Lib.hid CS
      have CI := Lib.hid CI
      have hRt : tot R ≤ 1048576 := by unfold SmallR at hsr; omega
      clear hb hsr CR HE1 hr0 hr1
      go_wp2_with (fail)
      go_at_call 10
      refine (toTxnS2_c h _ _ _ _ (HX.out.ext E2.out) HSm.out).mono ?_
      rintro e w3 ⟨lim3, rfl, hA3, hb⟩
      obtain ⟨hc, hf, hz, hs⟩ := bcell hb
      (try simp only [World.size_alloc, World.size_setCell, World.size_drew, size_drewN] at hs); (first | have l0 := Nat.lt_of_lt_of_le l0 (show _ ≤ w3.heap.size by omega) | have l0 : w.heap.size < w3.heap.size := (by omega) | skip); (try have l0e := Nat.le_of_lt l0); (try have l0f := Nat.le_add_right_of_le (k := 1) l0e); (try have l1 := Nat.lt_of_lt_of_le l1 (show _ ≤ w3.heap.size by omega)); (try have l1e := Nat.le_of_lt l1); (try have l1f := Nat.le_add_right_of_le (k := 1) l1e); (try have l2 := Nat.lt_of_lt_of_le l2 (show _ ≤ w3.heap.size by omega)); (try have l2e := Nat.le_of_lt l2); (try have l2f := Nat.le_add_right_of_le (k := 1) l2e); (try have l3 := Nat.lt_of_lt_of_le l3 (show _ ≤ w3.heap.size by omega)); (try have l3e := Nat.le_of_lt l3); (try have l3f := Nat.le_add_right_of_le (k := 1) l3e)
      have E3 := Lib.hid (E2.out.tr hb)
      have HA3 := Lib.hid (any_txns2 hA3.txns)
      clear hA3 hb hc hf hz
      go_wp2_with (fail)
      go_at_call 11
      refine (toIntSS_c R _ _ _ _ (HR.out.ext E3.out) HSr.out).mono ?_
      rintro e w4 ⟨B4, c4, rfl, hB4, _, hb⟩
      obtain ⟨hc, hf, hz, hs⟩ := bcell hb
      (try simp only [World.size_alloc, World.size_setCell, World.size_drew, size_drewN] at hs); (first | have l0 := Nat.lt_of_lt_of_le l0 (show _ ≤ w4.heap.size by omega) | have l0 : w.heap.size < w4.heap.size := (by omega) | skip); (try have l0e := Nat.le_of_lt l0); (try have l0f := Nat.le_add_right_of_le (k := 1) l0e); (try have l1 := Nat.lt_of_lt_of_le l1 (show _ ≤ w4.heap.size by omega)); (try have l1e := Nat.le_of_lt l1); (try have l1f := Nat.le_add_right_of_le (k := 1) l1e); (try have l2 := Nat.lt_of_lt_of_le l2 (show _ ≤ w4.heap.size by omega)); (try have l2e := Nat.le_of_lt l2); (try have l2f := Nat.le_add_right_of_le (k := 1) l2e); (try have l3 := Nat.lt_of_lt_of_le l3 (show _ ≤ w4.heap.size by omega)); (try have l3e := Nat.le_of_lt l3); (try have l3f := Nat.le_add_right_of_le (k := 1) l3e)
      have E4 := Lib.hid (E3.out.tr hb)
      have HB4 := Lib.hid hB4
      have HA4 := Lib.hid (HA3.out.ext hb)
      clear hB4 hb hc hf hz HA3
      go_wp2_with (fail)
      go_at_call 9
      refine (CS.out _ _ _ _ _ _ _ HA4.out HB4.out).mono ?_
      rintro e w5 ⟨A5, c5, rfl, hW, hf5, hb⟩
      obtain ⟨hc, hf, hz, hs⟩ := bcell hb
      (try simp only [World.size_alloc, World.size_setCell, World.size_drew, size_drewN] at hs); (first | have l0 := Nat.lt_of_lt_of_le l0 (show _ ≤ w5.heap.size by omega) | have l0 : w.heap.size < w5.heap.size := (by omega) | skip); (try have l0e := Nat.le_of_lt l0); (try have l0f := Nat.le_add_right_of_le (k := 1) l0e); (try have l1 := Nat.lt_of_lt_of_le l1 (show _ ≤ w5.heap.size by omega)); (try have l1e := Nat.le_of_lt l1); (try have l1f := Nat.le_add_right_of_le (k := 1) l1e); (try have l2 := Nat.lt_of_lt_of_le l2 (show _ ≤ w5.heap.size by omega)); (try have l2e := Nat.le_of_lt l2); (try have l2f := Nat.le_add_right_of_le (k := 1) l2e); (try have l3 := Nat.lt_of_lt_of_le l3 (show _ ≤ w5.heap.size by omega)); (try have l3e := Nat.le_of_lt l3); (try have l3f := Nat.le_add_right_of_le (k := 1) l3e)
      have E5 := Lib.hid (E4.out.tr hb)
      have HW := Lib.hid hW
      clear hW hf5 hb hc hf hz HA4 HB4
      go_wp2_with (fail)
      go_at_call 10
      refine (toTxnS2_c h _ _ _ _ (HX.out.ext E5.out) HSm.out).mono ?_
      rintro e w6 ⟨lim6, rfl, hA6, hb⟩
      obtain ⟨hc, hf, hz, hs⟩ := bcell hb
      (try simp only [World.size_alloc, World.size_setCell, World.size_drew, size_drewN] at hs); (first | have l0 := Nat.lt_of_lt_of_le l0 (show _ ≤ w6.heap.size by omega) | have l0 : w.heap.size < w6.heap.size := (by omega) | skip); (try have l0e := Nat.le_of_lt l0); (try have l0f := Nat.le_add_right_of_le (k := 1) l0e); (try have l1 := Nat.lt_of_lt_of_le l1 (show _ ≤ w6.heap.size by omega)); (try have l1e := Nat.le_of_lt l1); (try have l1f := Nat.le_add_right_of_le (k := 1) l1e); (try have l2 := Nat.lt_of_lt_of_le l2 (show _ ≤ w6.heap.size by omega)); (try have l2e := Nat.le_of_lt l2); (try have l2f := Nat.le_add_right_of_le (k := 1) l2e); (try have l3 := Nat.lt_of_lt_of_le l3 (show _ ≤ w6.heap.size by omega)); (try have l3e := Nat.le_of_lt l3); (try have l3f := Nat.le_add_right_of_le (k := 1) l3e)
      have D6 := Lib.hid hb
      have z56 := hb.size
      have hlim : lim6 h.length ≤ w6.heap.size := by obtain ⟨_, _, hq⟩ := hA6; exact hq.2.2.2.1
      have HA6 := Lib.hid hA6
      clear hA6 hb hc hf hz
      go_wp2_with (fail)
      go_at_call 11
      refine (toIntSS_c R _ _ _ _ (HR.out.ext (E5.out.tr D6.out)) HSr.out).mono ?_
      rintro e w7 ⟨B7, c7, rfl, _, ⟨f7, hB7⟩, hb⟩
      obtain ⟨hc, hf, hz, hs⟩ := bcell hb
      (try simp only [World.size_alloc, World.size_setCell, World.size_drew, size_drewN] at hs); (first | have l0 := Nat.lt_of_lt_of_le l0 (show _ ≤ w7.heap.size by omega) | have l0 : w.heap.size < w7.heap.size := (by omega) | skip); (try have l0e := Nat.le_of_lt l0); (try have l0f := Nat.le_add_right_of_le (k := 1) l0e); (try have l1 := Nat.lt_of_lt_of_le l1 (show _ ≤ w7.heap.size by omega)); (try have l1e := Nat.le_of_lt l1); (try have l1f := Nat.le_add_right_of_le (k := 1) l1e); (try have l2 := Nat.lt_of_lt_of_le l2 (show _ ≤ w7.heap.size by omega)); (try have l2e := Nat.le_of_lt l2); (try have l2f := Nat.le_add_right_of_le (k := 1) l2e); (try have l3 := Nat.lt_of_lt_of_le l3 (show _ ≤ w7.heap.size by omega)); (try have l3e := Nat.le_of_lt l3); (try have l3f := Nat.le_add_right_of_le (k := 1) l3e)
      have D7 := Lib.hid (D6.out.tr hb)
      have HA7 := Lib.hid (HA6.out.ext hb)
      have HUp := Lib.hid hB7.up
      have HB7 := Lib.hid hB7
      have z67 := hb.size
      clear hB7 hb hc hf hz HA6
      go_wp2_with (fail)
      go_at_call 12
      refine (CI.out _ _ _ _ _ _ _ (any_txns2 HA7.out.txns) HB7.out.rows).mono ?_
      rintro e w8 ⟨A8, c8, rfl, hG0, hf8, hb⟩
      obtain ⟨hc, hf, hz, hs⟩ := bcell hb
      (try simp only [World.size_alloc, World.size_setCell, World.size_drew, size_drewN] at hs); (first | have l0 := Nat.lt_of_lt_of_le l0 (show _ ≤ w8.heap.size by omega) | have l0 : w.heap.size < w8.heap.size := (by omega) | skip); (try have l0e := Nat.le_of_lt l0); (try have l0f := Nat.le_add_right_of_le (k := 1) l0e); (try have l1 := Nat.lt_of_lt_of_le l1 (show _ ≤ w8.heap.size by omega)); (try have l1e := Nat.le_of_lt l1); (try have l1f := Nat.le_add_right_of_le (k := 1) l1e); (try have l2 := Nat.lt_of_lt_of_le l2 (show _ ≤ w8.heap.size by omega)); (try have l2e := Nat.le_of_lt l2); (try have l2f := Nat.le_add_right_of_le (k := 1) l2e); (try have l3 := Nat.lt_of_lt_of_le l3 (show _ ≤ w8.heap.size by omega)); (try have l3e := Nat.le_of_lt l3); (try have l3f := Nat.le_add_right_of_le (k := 1) l3e)
      have HG8 := Lib.hid (show R3s w7.heap.size w8 A8 L from ⟨hG0, hf8⟩)
      have D8 := Lib.hid (D7.out.tr hb)
      have HA8 := Lib.hid (HA7.out.ext hb)
      have HB8 := Lib.hid (HB7.out.ext hb)
      clear hG0 hf8 hb hc hf hz HA7 HB7
      go_wp2_with (fail)
      go_at_call 13
      refine (eqEdgeS_c L _ _ _ _ _ _ _ HG8.out.1 (HW.out.ext D8.out) hL).mono ?_
      rintro e w9 ⟨rfl, hb⟩
      obtain ⟨hc, hf, hz, hs⟩ := bcell hb
      (try simp only [World.size_alloc, World.size_setCell, World.size_drew, size_drewN] at hs); (first | have l0 := Nat.lt_of_lt_of_le l0 (show _ ≤ w9.heap.size by omega) | have l0 : w.heap.size < w9.heap.size := (by omega) | skip); (try have l0e := Nat.le_of_lt l0); (try have l0f := Nat.le_add_right_of_le (k := 1) l0e); (try have l1 := Nat.lt_of_lt_of_le l1 (show _ ≤ w9.heap.size by omega)); (try have l1e := Nat.le_of_lt l1); (try have l1f := Nat.le_add_right_of_le (k := 1) l1e); (try have l2 := Nat.lt_of_lt_of_le l2 (show _ ≤ w9.heap.size by omega)); (try have l2e := Nat.le_of_lt l2); (try have l2f := Nat.le_add_right_of_le (k := 1) l2e); (try have l3 := Nat.lt_of_lt_of_le l3 (show _ ≤ w9.heap.size by omega)); (try have l3e := Nat.le_of_lt l3); (try have l3f := Nat.le_add_right_of_le (k := 1) l3e)
      have D9 := Lib.hid (D8.out.tr hb)
      have HA9 := Lib.hid (HA8.out.ext hb)
      have HB9 := Lib.hid (HB8.out.ext hb)
      have HG9 := Lib.hid (HG8.out.ext hb)
      clear hb hc hf hz HA8 HB8 HG8
      go_wp2_with (fail)
      go_at_call 10
      refine (toTxnS2_c h _ _ _ _ (HX.out.ext (E5.out.tr D9.out)) HSm.out).mono ?_
      rintro e w10 ⟨lim10, rfl, hA10, hb⟩
      obtain ⟨hc, hf, hz, hs⟩ := bcell hb
      (try simp only [World.size_alloc, World.size_setCell, World.size_drew, size_drewN] at hs); (first | have l0 := Nat.lt_of_lt_of_le l0 (show _ ≤ w10.heap.size by omega) | have l0 : w.heap.size < w10.heap.size := (by omega) | skip); (try have l0e := Nat.le_of_lt l0); (try have l0f := Nat.le_add_right_of_le (k := 1) l0e); (try have l1 := Nat.lt_of_lt_of_le l1 (show _ ≤ w10.heap.size by omega)); (try have l1e := Nat.le_of_lt l1); (try have l1f := Nat.le_add_right_of_le (k := 1) l1e); (try have l2 := Nat.lt_of_lt_of_le l2 (show _ ≤ w10.heap.size by omega)); (try have l2e := Nat.le_of_lt l2); (try have l2f := Nat.le_add_right_of_le (k := 1) l2e); (try have l3 := Nat.lt_of_lt_of_le l3 (show _ ≤ w10.heap.size by omega)); (try have l3e := Nat.le_of_lt l3); (try have l3f := Nat.le_add_right_of_le (k := 1) l3e)
      have D10 := Lib.hid (D9.out.tr hb)
      have HA10 := Lib.hid (HA9.out.ext hb)
      have HA10n := Lib.hid (any_txns2 hA10.txns)
      have HB10 := Lib.hid (HB9.out.ext hb)
      have HG10 := Lib.hid (HG9.out.ext hb)
      clear hA10 hb hc hf hz HA9 HB9 HG9
      go_wp2_with (fail)
      go_at_call 14
      refine (eqTxnS_c h _ _ _ _ _ _ _ (any_txns2 HA10.out.txns) HA10n.out HSm.out).mono ?_
      rintro e w11 ⟨rfl, hb⟩
      obtain ⟨hc, hf, hz, hs⟩ := bcell hb
      (try simp only [World.size_alloc, World.size_setCell, World.size_drew, size_drewN] at hs); (first | have l0 := Nat.lt_of_lt_of_le l0 (show _ ≤ w11.heap.size by omega) | have l0 : w.heap.size < w11.heap.size := (by omega) | skip); (try have l0e := Nat.le_of_lt l0); (try have l0f := Nat.le_add_right_of_le (k := 1) l0e); (try have l1 := Nat.lt_of_lt_of_le l1 (show _ ≤ w11.heap.size by omega)); (try have l1e := Nat.le_of_lt l1); (try have l1f := Nat.le_add_right_of_le (k := 1) l1e); (try have l2 := Nat.lt_of_lt_of_le l2 (show _ ≤ w11.heap.size by omega)); (try have l2e := Nat.le_of_lt l2); (try have l2f := Nat.le_add_right_of_le (k := 1) l2e); (try have l3 := Nat.lt_of_lt_of_le l3 (show _ ≤ w11.heap.size by omega)); (try have l3e := Nat.le_of_lt l3); (try have l3f := Nat.le_add_right_of_le (k := 1) l3e)
      have D11 := Lib.hid (D10.out.tr hb)
      have HA11 := Lib.hid (HA10.out.ext hb)
      have HB11 := Lib.hid (HB10.out.ext hb)
      have HG11 := Lib.hid (HG10.out.ext hb)
      clear hb hc hf hz HA10 HA10n HB10 HG10
      go_wp2_with (fail)
      go_at_call 11
      refine (toIntSS_c R _ _ _ _ (HR.out.ext (E5.out.tr D11.out)) HSr.out).mono ?_
      rintro e w12 ⟨B12, c12, rfl, hB12n, _, hb⟩
      obtain ⟨hc, hf, hz, hs⟩ := bcell hb
      (try simp only [World.size_alloc, World.size_setCell, World.size_drew, size_drewN] at hs); (first | have l0 := Nat.lt_of_lt_of_le l0 (show _ ≤ w12.heap.size by omega) | have l0 : w.heap.size < w12.heap.size := (by omega) | skip); (try have l0e := Nat.le_of_lt l0); (try have l0f := Nat.le_add_right_of_le (k := 1) l0e); (try have l1 := Nat.lt_of_lt_of_le l1 (show _ ≤ w12.heap.size by omega)); (try have l1e := Nat.le_of_lt l1); (try have l1f := Nat.le_add_right_of_le (k := 1) l1e); (try have l2 := Nat.lt_of_lt_of_le l2 (show _ ≤ w12.heap.size by omega)); (try have l2e := Nat.le_of_lt l2); (try have l2f := Nat.le_add_right_of_le (k := 1) l2e); (try have l3 := Nat.lt_of_lt_of_le l3 (show _ ≤ w12.heap.size by omega)); (try have l3e := Nat.le_of_lt l3); (try have l3f := Nat.le_add_right_of_le (k := 1) l3e)
      have D12 := Lib.hid (D11.out.tr hb)
      have HA12 := Lib.hid (HA11.out.ext hb)
      have HB12 := Lib.hid (HB11.out.ext hb)
      have HB12n := Lib.hid hB12n
      have HG12 := Lib.hid (HG11.out.ext hb)
      clear hB12n hb hc hf hz HA11 HB11 HG11
      go_wp2_with (fail)
      go_at_call 15
      refine (eqIntSS_c R _ _ _ _ _ _ _ HB12.out.rows HB12n.out HSr.out).mono ?_
      rintro e w13 ⟨rfl, hb⟩
      obtain ⟨hc, hf, hz, hs⟩ := bcell hb
      (try simp only [World.size_alloc, World.size_setCell, World.size_drew, size_drewN] at hs); (first | have l0 := Nat.lt_of_lt_of_le l0 (show _ ≤ w13.heap.size by omega) | have l0 : w.heap.size < w13.heap.size := (by omega) | skip); (try have l0e := Nat.le_of_lt l0); (try have l0f := Nat.le_add_right_of_le (k := 1) l0e); (try have l1 := Nat.lt_of_lt_of_le l1 (show _ ≤ w13.heap.size by omega)); (try have l1e := Nat.le_of_lt l1); (try have l1f := Nat.le_add_right_of_le (k := 1) l1e); (try have l2 := Nat.lt_of_lt_of_le l2 (show _ ≤ w13.heap.size by omega)); (try have l2e := Nat.le_of_lt l2); (try have l2f := Nat.le_add_right_of_le (k := 1) l2e); (try have l3 := Nat.lt_of_lt_of_le l3 (show _ ≤ w13.heap.size by omega)); (try have l3e := Nat.le_of_lt l3); (try have l3f := Nat.le_add_right_of_le (k := 1) l3e)
      have D13 := Lib.hid (D12.out.tr hb)
      have HA13 := Lib.hid (HA12.out.ext hb)
      have HB13 := Lib.hid (HB12.out.ext hb)
      have HG13 := Lib.hid (HG12.out.ext hb)
      clear hb hc hf hz HA12 HB12 HB12n HG12
      go_wp2_with (fail)
      go_at_call 16
      refine (markTxnS_c h _ _ _ HA13.out HSm.out).mono ?_
      rintro e w14 ⟨k9, rfl, hk9, hk9b, hw14⟩
      have D14 := Lib.hid (Within.old D13.out hw14 (Nat.le_refl _))
      have HB14 := Lib.hid (HB13.out.within hw14 hlim)
      have HG14 := Lib.hid (HG13.out.within hw14 (by omega))
      clear hw14 HA13 HB13 HG13
      go_wp2_with (fail)
      go_at_call 17
      refine (markIntSS_hi w7.heap.size R _ _ _ _ (k9 : Int) _ HB14.out HSr.out (by omega) (by omega) HUp.out).mono ?_
      rintro e w15 ⟨rfl, _, hw15⟩
      have D15 := Lib.hid (Within.old D14.out hw15 z56)
      have HG15 := Lib.hid (HG14.out.within hw15 (Nat.le_refl _))
      clear hw15 HB14 HG14
      have hlo15 : ((k9 : Int) + (tot R : Nat) < 0) = False := by simp; omega
      go_wp2_with (fail)
      go_at_call 13
      refine (eqEdgeS_c L _ _ _ _ _ _ _ HG15.out.1 (HW.out.ext D15.out) hL).mono ?_
      rintro e w16 ⟨rfl, hb⟩
      obtain ⟨hc, hf, hz, hs⟩ := bcell hb
      (try simp only [World.size_alloc, World.size_setCell, World.size_drew, size_drewN] at hs); (first | have l0 := Nat.lt_of_lt_of_le l0 (show _ ≤ w16.heap.size by omega) | have l0 : w.heap.size < w16.heap.size := (by omega) | skip); (try have l0e := Nat.le_of_lt l0); (try have l0f := Nat.le_add_right_of_le (k := 1) l0e); (try have l1 := Nat.lt_of_lt_of_le l1 (show _ ≤ w16.heap.size by omega)); (try have l1e := Nat.le_of_lt l1); (try have l1f := Nat.le_add_right_of_le (k := 1) l1e); (try have l2 := Nat.lt_of_lt_of_le l2 (show _ ≤ w16.heap.size by omega)); (try have l2e := Nat.le_of_lt l2); (try have l2f := Nat.le_add_right_of_le (k := 1) l2e); (try have l3 := Nat.lt_of_lt_of_le l3 (show _ ≤ w16.heap.size by omega)); (try have l3e := Nat.le_of_lt l3); (try have l3f := Nat.le_add_right_of_le (k := 1) l3e)
      have D16 := Lib.hid (D15.out.tr hb)
      have HG16 := Lib.hid (HG15.out.ext hb)
      clear hb hc hf hz HG15
      go_wp2_with (fail)
      refine (markREdgeS L _ _ _ _ _ HG16.out hL (by omega) (by omega)).mono ?_
      rintro e w17 ⟨rfl, hM0, hw17⟩
      have HM17 := Lib.hid (hM0 rfl)
      have D17 := Lib.hid (Within.old D16.out hw17 (by omega))
      clear HG16 hw17 hM0
      have hne : (((1 : Int) + 3 * ((L.length : Nat) : Int)) != ((1 : Int) + 3 * ((L.length : Nat) : Int))) = false := by simp
      have hlo : ((1 : Int) + 3 * ((L.length : Nat) : Int) < 0) = False := by simp; omega
      go_wp2_with (fail)
      refine (heldREdgeS L _ _ _ HM17.out hL).mono ?_
      rintro e w' ⟨rfl, rfl⟩
      go_wp2_with (fail)
      go_at_call 10
      refine (toTxnS2_c h _ _ _ _ (HX.out.ext (E5.out.tr D17.out)) HSm.out).mono ?_
      rintro e w18 ⟨lim18, rfl, hA18, hb⟩
      obtain ⟨hc, hf, hz, hs⟩ := bcell hb
      (try simp only [World.size_alloc, World.size_setCell, World.size_drew, size_drewN] at hs); (first | have l0 := Nat.lt_of_lt_of_le l0 (show _ ≤ w18.heap.size by omega) | have l0 : w.heap.size < w18.heap.size := (by omega) | skip); (try have l0e := Nat.le_of_lt l0); (try have l0f := Nat.le_add_right_of_le (k := 1) l0e); (try have l1 := Nat.lt_of_lt_of_le l1 (show _ ≤ w18.heap.size by omega)); (try have l1e := Nat.le_of_lt l1); (try have l1f := Nat.le_add_right_of_le (k := 1) l1e); (try have l2 := Nat.lt_of_lt_of_le l2 (show _ ≤ w18.heap.size by omega)); (try have l2e := Nat.le_of_lt l2); (try have l2f := Nat.le_add_right_of_le (k := 1) l2e); (try have l3 := Nat.lt_of_lt_of_le l3 (show _ ≤ w18.heap.size by omega)); (try have l3e := Nat.le_of_lt l3); (try have l3f := Nat.le_add_right_of_le (k := 1) l3e)
      have D18 := Lib.hid (D17.out.tr hb)
      have HM18 := Lib.hid (HM17.out.ext hb)
      have HA18 := Lib.hid (any_txns2 hA18.txns)
      clear hA18 hb hc hf hz HM17
      go_wp2_with (fail)
      go_at_call 11
      refine (toIntSS_c R _ _ _ _ (HR.out.ext (E5.out.tr D18.out)) HSr.out).mono ?_
      rintro e w19 ⟨B19, c19, rfl, hB19, _, hb⟩
      obtain ⟨hc, hf, hz, hs⟩ := bcell hb
      (try simp only [World.size_alloc, World.size_setCell, World.size_drew, size_drewN] at hs); (first | have l0 := Nat.lt_of_lt_of_le l0 (show _ ≤ w19.heap.size by omega) | have l0 : w.heap.size < w19.heap.size := (by omega) | skip); (try have l0e := Nat.le_of_lt l0); (try have l0f := Nat.le_add_right_of_le (k := 1) l0e); (try have l1 := Nat.lt_of_lt_of_le l1 (show _ ≤ w19.heap.size by omega)); (try have l1e := Nat.le_of_lt l1); (try have l1f := Nat.le_add_right_of_le (k := 1) l1e); (try have l2 := Nat.lt_of_lt_of_le l2 (show _ ≤ w19.heap.size by omega)); (try have l2e := Nat.le_of_lt l2); (try have l2f := Nat.le_add_right_of_le (k := 1) l2e); (try have l3 := Nat.lt_of_lt_of_le l3 (show _ ≤ w19.heap.size by omega)); (try have l3e := Nat.le_of_lt l3); (try have l3f := Nat.le_add_right_of_le (k := 1) l3e)
      have D19 := Lib.hid (D18.out.tr hb)
      have HM19 := Lib.hid (HM18.out.ext hb)
      have HA19 := Lib.hid (HA18.out.ext hb)
      have HB19 := Lib.hid hB19
      clear hB19 hb hc hf hz HM18 HA18
      go_wp2_with (fail)
      go_at_call 12
      refine (CI.out _ _ _ _ _ _ _ HA19.out HB19.out).mono ?_
      rintro e w20 ⟨A20, c20, rfl, hH, _, hb⟩
      obtain ⟨hc, hf, hz, hs⟩ := bcell hb
      (try simp only [World.size_alloc, World.size_setCell, World.size_drew, size_drewN] at hs); (first | have l0 := Nat.lt_of_lt_of_le l0 (show _ ≤ w20.heap.size by omega) | have l0 : w.heap.size < w20.heap.size := (by omega) | skip); (try have l0e := Nat.le_of_lt l0); (try have l0f := Nat.le_add_right_of_le (k := 1) l0e); (try have l1 := Nat.lt_of_lt_of_le l1 (show _ ≤ w20.heap.size by omega)); (try have l1e := Nat.le_of_lt l1); (try have l1f := Nat.le_add_right_of_le (k := 1) l1e); (try have l2 := Nat.lt_of_lt_of_le l2 (show _ ≤ w20.heap.size by omega)); (try have l2e := Nat.le_of_lt l2); (try have l2f := Nat.le_add_right_of_le (k := 1) l2e); (try have l3 := Nat.lt_of_lt_of_le l3 (show _ ≤ w20.heap.size by omega)); (try have l3e := Nat.le_of_lt l3); (try have l3f := Nat.le_add_right_of_le (k := 1) l3e)
      have D20 := Lib.hid (D19.out.tr hb)
      have HM20 := Lib.hid (HM19.out.ext hb)
      have HH := Lib.hid hH
      clear hH hb hc hf hz HM19 HA19 HB19
      go_wp2_with (fail)
      go_at_call 13
      refine (eqEdgeS_c L _ _ _ _ _ _ _ HH.out (HW.out.ext D20.out) hL).mono ?_
      rintro e w21 ⟨rfl, hb⟩
      obtain ⟨hc, hf, hz, hs⟩ := bcell hb
      (try simp only [World.size_alloc, World.size_setCell, World.size_drew, size_drewN] at hs); (first | have l0 := Nat.lt_of_lt_of_le l0 (show _ ≤ w21.heap.size by omega) | have l0 : w.heap.size < w21.heap.size := (by omega) | skip); (try have l0e := Nat.le_of_lt l0); (try have l0f := Nat.le_add_right_of_le (k := 1) l0e); (try have l1 := Nat.lt_of_lt_of_le l1 (show _ ≤ w21.heap.size by omega)); (try have l1e := Nat.le_of_lt l1); (try have l1f := Nat.le_add_right_of_le (k := 1) l1e); (try have l2 := Nat.lt_of_lt_of_le l2 (show _ ≤ w21.heap.size by omega)); (try have l2e := Nat.le_of_lt l2); (try have l2f := Nat.le_add_right_of_le (k := 1) l2e); (try have l3 := Nat.lt_of_lt_of_le l3 (show _ ≤ w21.heap.size by omega)); (try have l3e := Nat.le_of_lt l3); (try have l3f := Nat.le_add_right_of_le (k := 1) l3e)
      have D21 := Lib.hid (D20.out.tr hb)
      have HM21 := Lib.hid (HM20.out.ext hb)
      clear hb hc hf hz HM20 HH
      go_wp2_with (fail)
      refine (heldREdgeS L _ _ _ HM21.out hL).mono ?_
      rintro e w' ⟨rfl, rfl⟩
      go_wp2
      go_ret
      exact ⟨rfl, E5.out.tr D21.out⟩

set_option maxRecDepth 100000 in
theorem FnExactEdgesOf_lifted (os : Os) (started : os.Started) (H : Type) (enc : TypeId × Value → H) :
    ReturnsInHanded {} Tryz.checked os 3 .any (Rows.fnExactEdgesOfSpec.pre6 enc Tryz.prog Tryz.f3 Rows.fnExactEdgesOfRow.domain false) (Rows.fnExactEdgesOfSpec.post enc Tryz.prog Tryz.f3 false true false false) := by
  refine returnsInHanded_of_change (C := Tryz.checked) Law.own started (by kernel_rfl) Tryz.func3
    (ChangeSpec.witness6 (enc := enc) (C := Tryz.checked) false ⟨#[], #[.slice none 0 0, .slice none 0 0], []⟩ 8 (by kernel_rfl) (by kernel_rfl) (by kernel_rfl) (by kernel_rfl)) ?_
  intro W base args ds gs before hval0 hW _ _
  have hval : ∀ (j : Nat) t v, Tryz.f3.params[j]? = some t → args[j]? = some v → Value.okWide Tryz.prog W .any base t v := hval0
  have hW' := hW
  obtain ⟨p, q, hA0, hV, rfl, hfz, hnd⟩ := hW
  have hA : DataW.TrodAll enc Tryz.prog W 0 (fun _ => true) true Tryz.f3.params.toList args.toList ds p := hA0
  rw [Tryz.params3] at hA hval
  obtain ⟨v0, vs0, d0, ds0, p0, q0, hargs, hds, rfl, h0, r0⟩ := trodAll_cons hA
  obtain ⟨v1, vs1, d1, ds1, p1, q1, rfl, rfl, rfl, h1, r1⟩ := trodAll_cons r0
  obtain ⟨rfl, rfl, rfl⟩ := trodAll_nil r1
  obtain rfl : args = #[v0, v1] := by cases args; simp_all
  subst hds
  obtain ⟨x0, A0, c0, rfl, hO0, wf0⟩ := Law.open_txns Tryz.underlying22 Tryz.underlying45 (by kernel_rfl) (by kernel_rfl) Tryz.underlying3 Tryz.underlying43 Tryz.underlying4 Tryz.underlying107 (by kernel_rfl) (by kernel_rfl) Tryz.underlying3 Tryz.underlying3 Tryz.underlying3 (hval 0 22 v0 rfl rfl) h0
  obtain ⟨x1, A1, c1, rfl, hO1, wf1⟩ := Law.open_rows Tryz.underlying23 Tryz.underlying47 Tryz.underlying3 (by kernel_rfl) (by kernel_rfl) (hval 1 23 v1 rfl rfl) h1
  refine (FnExactEdgesOf_c x0 A0 c0 x1 A1 c1 W hO0 wf0 hO1 wf1).mono fun e W' ⟨he, hb⟩ => ?_
  subst he
  refine ⟨_, rfl, Law.post_true Law.laidOut ?_ rfl rfl Tryz.underlying4 ⟨rfl, rfl, rfl⟩ hW' hb⟩
  intro t ht
  rw [Tryz.params3] at ht
  simp only [List.mem_cons, List.not_mem_nil, or_false] at ht
  first | (rcases ht with rfl | rfl <;> exact ⟨by kernel_rfl, of_decide_eq_true (by kernel_rfl)⟩)

theorem FnExactEdgesOf_holds : Rows.FnExactEdgesOfSaid :=
  OpenClaim.holds_of_wide 3 Tryz.f3 rfl rfl rfl rfl rfl rfl rfl ⟨rfl, rfl, rfl, rfl, rfl⟩ rfl rfl rfl rfl rfl (by kernel_rfl) Tryz.func3 (by kernel_rfl)
    (of_decide_eq_true (by kernel_rfl)) (by unfold Func.isWrapper; first | (rw [if_pos (by decide +kernel)]; kernel_rfl) | (rw [if_neg (by decide +kernel)]; exact ⟨rfl, rfl⟩))
    (fun os started H enc _ => FnExactEdgesOf_lifted os started H enc)

end Go.Proofs.YtdohbmegkkkchaaGreat
