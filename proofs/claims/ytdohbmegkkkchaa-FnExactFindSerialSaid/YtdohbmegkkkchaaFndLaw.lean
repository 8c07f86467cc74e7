/-
  For every history, the program's FindSerial returns what the reference's returns, in memory of its own, and leaves its argument as it was. No conditions.
-/
import Derived.Test.YtdohbmegkkkchaaLaw
import Derived.Test.YtdohbmegkkkchaaFndG
import Derived.Test.YtdohbmegkkkchaaFndS
import Derived.Test.YtdohbmegkkkchaaRes
import Derived.OpenShut
import Derived.Deep.RegionWith
namespace Go.Proofs.Ytdohbmegkkkchaa
set_option linter.unusedSimpArgs false
set_option linter.unusedVariables false
set_option maxRecDepth 100000
open Go.ChangeShapes Go.WideShapes Go.ChangeAt Go.RowKit Go.Joins

theorem any_txns2 {So Si : Nat → Prop} {w : World} {A : Option Addr} {xs : List TxnT} (h : Txns2 So Si w A xs) : Txns Any w A xs := h.txns (fun _ _ _ => trivial) (fun _ _ _ => trivial)
theorem low_txns {w : World} {A : Option Addr} {xs : List TxnT} (h : Txns Any w A xs) : Txns (fun b => b < w.heap.size) w A xs := SlAt.mono h (fun _ _ hl => hl) (mono_txn (fun _ _ hl => hl))

theorem fnd_len (h : List TxnT) (all : List Int) : ∀ (n : Nat) (pre ys : List Int), fnd h all n pre = some ys → ys.length = pre.length + n
  | 0, pre, ys, e => by
    simp only [fnd, Option.some.injEq] at e
    rw [← e]; rfl
  | n + 1, pre, ys, e => by
    simp only [fnd] at e
    obtain ⟨x, _, hx⟩ := List.exists_of_findSome?_eq_some e
    split at hx
    · cases hx
    · split at hx
      · have := fnd_len h all n _ _ hx
        rw [this, List.length_append, List.length_singleton]
        omega
      · cases hx
theorem fnd_small (h : List TxnT) (hsm : Small h) : ((fndV h).getD []).length ≤ 1048576 := by
  have hsl := hsm.len
  have hdl := dnT_len h h.length
  cases e : fndV h with
  | none => simp
  | some ys =>
    unfold fndV at e
    split at e
    · have := fnd_len h _ _ _ _ e
      simp only [Option.getD_some, this, List.length_nil]
      omega
    · cases e
set_option maxHeartbeats 8000000 in
theorem FnExactFindSerial_c (h : List TxnT) (A : Option Addr) (c : Nat) (w : World) (hx : Txns Any w A h) (wf : Law.wfL Law.wfTxn h) :
    Calls Try.prog 3 #[.slice A h.length c] w fun e w' => e = .returned (.bool true) ∧ Ext w w' := by
  have C := Lib.hid (fun w hx => szTxnS_c h Any A c w hx wf.1 (fun t ht => (wf.2 t ht).2.1))
  have HX := Lib.hid hx
  clear hx wf
  go_enter Try.func3, Try.ntmps3
  go_wp2_with (fail)
  go_at_call 5
  refine (C.out _ HX.out).mono ?_
  rintro e w1 ⟨r, rfl, (rfl | ⟨hr0, hsm⟩), hb⟩
  · go_wp2
    go_ret
    exact ⟨rfl, hb⟩
  · have E1 := Lib.hid (show Ext w w1 from hb)
    have HSm := Lib.hid hsm
    clear hb hsm C
    have CS := fun A c w hx => specFindSerial_c h Any A c w hx HSm.out
    have CI := fun A c w hx => implFindSerial_c h w A c (low_txns hx) HSm.out
    have hL : ((fndV h).getD []).length ≤ 1048576 := fnd_small h HSm.out
    unfold FoundS at CS
    unfold FreshB at CI
    generalize (fndV h).getD [] = L at CS CI hL
    generalize (fndV h).isSome = b at CS CI
    have CS := Lib.hid CS
    have CI := Lib.hid CI
    have hbb : (b != b) = false := by cases b <;> rfl
    go_wp2_with (fail)
    go_at_call 7
    refine (toTxnS2_c h _ _ _ _ (HX.out.ext E1.out) HSm.out).mono ?_
    rintro e w2 ⟨lim2, rfl, hA2, hb⟩
    obtain ⟨hc, hf, hz, hs⟩ := bcell hb
    (try simp only [World.size_alloc, World.size_setCell, World.size_drew, size_drewN] at hs); (first | have l0 := Nat.lt_of_lt_of_le l0 (show _ ≤ w2.heap.size by omega) | have l0 : w.heap.size < w2.heap.size := (by omega) | skip); (try have l0e := Nat.le_of_lt l0); (try have l0f := Nat.le_add_right_of_le (k := 1) l0e); (try have l1 := Nat.lt_of_lt_of_le l1 (show _ ≤ w2.heap.size by omega)); (try have l1e := Nat.le_of_lt l1); (try have l1f := Nat.le_add_right_of_le (k := 1) l1e); (try have l2 := Nat.lt_of_lt_of_le l2 (show _ ≤ w2.heap.size by omega)); (try have l2e := Nat.le_of_lt l2); (try have l2f := Nat.le_add_right_of_le (k := 1) l2e); (try have l3 := Nat.lt_of_lt_of_le l3 (show _ ≤ w2.heap.size by omega)); (try have l3e := Nat.le_of_lt l3); (try have l3f := Nat.le_add_right_of_le (k := 1) l3e)
    have E2 := Lib.hid (E1.out.tr hb)
    have HA2 := Lib.hid (any_txns2 hA2.txns)
    clear hA2 hb hc hf hz
    go_wp2_with (fail)
    go_at_call 6
    refine (CS.out _ _ _ HA2.out).mono ?_
    rintro e w3 ⟨A3, c3, rfl, hW, hb⟩
    obtain ⟨hc, hf, hz, hs⟩ := bcell hb
    (try simp only [World.size_alloc, World.size_setCell, World.size_drew, size_drewN] at hs); (first | have l0 := Nat.lt_of_lt_of_le l0 (show _ ≤ w3.heap.size by omega) | have l0 : w.heap.size < w3.heap.size := (by omega) | skip); (try have l0e := Nat.le_of_lt l0); (try have l0f := Nat.le_add_right_of_le (k := 1) l0e); (try have l1 := Nat.lt_of_lt_of_le l1 (show _ ≤ w3.heap.size by omega)); (try have l1e := Nat.le_of_lt l1); (try have l1f := Nat.le_add_right_of_le (k := 1) l1e); (try have l2 := Nat.lt_of_lt_of_le l2 (show _ ≤ w3.heap.size by omega)); (try have l2e := Nat.le_of_lt l2); (try have l2f := Nat.le_add_right_of_le (k := 1) l2e); (try have l3 := Nat.lt_of_lt_of_le l3 (show _ ≤ w3.heap.size by omega)); (try have l3e := Nat.le_of_lt l3); (try have l3f := Nat.le_add_right_of_le (k := 1) l3e)
    have E3 := Lib.hid (E2.out.tr hb)
    have HW := Lib.hid hW
    clear hW hb hc hf hz HA2
    go_wp2_with (fail)
    go_at_call 7
    refine (toTxnS2_c h _ _ _ _ (HX.out.ext E3.out) HSm.out).mono ?_
    rintro e w4 ⟨lim4, rfl, hA4, hb⟩
    obtain ⟨hc, hf, hz, hs⟩ := bcell hb
    (try simp only [World.size_alloc, World.size_setCell, World.size_drew, size_drewN] at hs); (first | have l0 := Nat.lt_of_lt_of_le l0 (show _ ≤ w4.heap.size by omega) | have l0 : w.heap.size < w4.heap.size := (by omega) | skip); (try have l0e := Nat.le_of_lt l0); (try have l0f := Nat.le_add_right_of_le (k := 1) l0e); (try have l1 := Nat.lt_of_lt_of_le l1 (show _ ≤ w4.heap.size by omega)); (try have l1e := Nat.le_of_lt l1); (try have l1f := Nat.le_add_right_of_le (k := 1) l1e); (try have l2 := Nat.lt_of_lt_of_le l2 (show _ ≤ w4.heap.size by omega)); (try have l2e := Nat.le_of_lt l2); (try have l2f := Nat.le_add_right_of_le (k := 1) l2e); (try have l3 := Nat.lt_of_lt_of_le l3 (show _ ≤ w4.heap.size by omega)); (try have l3e := Nat.le_of_lt l3); (try have l3f := Nat.le_add_right_of_le (k := 1) l3e)
    have D4 := Lib.hid hb
    have z34 := hb.size
    have hlim : lim4 h.length ≤ w4.heap.size := by obtain ⟨_, _, hq⟩ := hA4; exact hq.2.2.2.1
    have HA4 := Lib.hid hA4
    clear hA4 hb hc hf hz
    go_wp2_with (fail)
    go_at_call 8
    refine (CI.out _ _ _ (any_txns2 HA4.out.txns)).mono ?_
    rintro e w5 ⟨A5, c5, rfl, hG0, hf5, hb⟩
    obtain ⟨hc, hf, hz, hs⟩ := bcell hb
    (try simp only [World.size_alloc, World.size_setCell, World.size_drew, size_drewN] at hs); (first | have l0 := Nat.lt_of_lt_of_le l0 (show _ ≤ w5.heap.size by omega) | have l0 : w.heap.size < w5.heap.size := (by omega) | skip); (try have l0e := Nat.le_of_lt l0); (try have l0f := Nat.le_add_right_of_le (k := 1) l0e); (try have l1 := Nat.lt_of_lt_of_le l1 (show _ ≤ w5.heap.size by omega)); (try have l1e := Nat.le_of_lt l1); (try have l1f := Nat.le_add_right_of_le (k := 1) l1e); (try have l2 := Nat.lt_of_lt_of_le l2 (show _ ≤ w5.heap.size by omega)); (try have l2e := Nat.le_of_lt l2); (try have l2f := Nat.le_add_right_of_le (k := 1) l2e); (try have l3 := Nat.lt_of_lt_of_le l3 (show _ ≤ w5.heap.size by omega)); (try have l3e := Nat.le_of_lt l3); (try have l3f := Nat.le_add_right_of_le (k := 1) l3e)
    have HG5 := Lib.hid (show RI w4.heap.size w5 A5 L from ⟨hG0, hf5⟩)
    have D5 := Lib.hid (D4.out.tr hb)
    have HA5 := Lib.hid (HA4.out.ext hb)
    clear hG0 hf5 hb hc hf hz HA4
    go_wp2_with (fail)
    go_at_call 9
    refine (eqIntS_c L _ _ _ _ _ _ _ HG5.out.1 (HW.out.ext D5.out) hL).mono ?_
    rintro e w6 ⟨rfl, hb⟩
    obtain ⟨hc, hf, hz, hs⟩ := bcell hb
    (try simp only [World.size_alloc, World.size_setCell, World.size_drew, size_drewN] at hs); (first | have l0 := Nat.lt_of_lt_of_le l0 (show _ ≤ w6.heap.size by omega) | have l0 : w.heap.size < w6.heap.size := (by omega) | skip); (try have l0e := Nat.le_of_lt l0); (try have l0f := Nat.le_add_right_of_le (k := 1) l0e); (try have l1 := Nat.lt_of_lt_of_le l1 (show _ ≤ w6.heap.size by omega)); (try have l1e := Nat.le_of_lt l1); (try have l1f := Nat.le_add_right_of_le (k := 1) l1e); (try have l2 := Nat.lt_of_lt_of_le l2 (show _ ≤ w6.heap.size by omega)); (try have l2e := Nat.le_of_lt l2); (try have l2f := Nat.le_add_right_of_le (k := 1) l2e); (try have l3 := Nat.lt_of_lt_of_le l3 (show _ ≤ w6.heap.size by omega)); (try have l3e := Nat.le_of_lt l3); (try have l3f := Nat.le_add_right_of_le (k := 1) l3e)
    have D6 := Lib.hid (D5.out.tr hb)
    have HA6 := Lib.hid (HA5.out.ext hb)
    have HG6 := Lib.hid (HG5.out.ext hb)
    clear hb hc hf hz HA5 HG5
    go_wp2_with (fail)
    go_at_call 7
    refine (toTxnS2_c h _ _ _ _ (HX.out.ext (E3.out.tr D6.out)) HSm.out).mono ?_
    rintro e w7 ⟨lim7, rfl, hA7, hb⟩
    obtain ⟨hc, hf, hz, hs⟩ := bcell hb
    (try simp only [World.size_alloc, World.size_setCell, World.size_drew, size_drewN] at hs); (first | have l0 := Nat.lt_of_lt_of_le l0 (show _ ≤ w7.heap.size by omega) | have l0 : w.heap.size < w7.heap.size := (by omega) | skip); (try have l0e := Nat.le_of_lt l0); (try have l0f := Nat.le_add_right_of_le (k := 1) l0e); (try have l1 := Nat.lt_of_lt_of_le l1 (show _ ≤ w7.heap.size by omega)); (try have l1e := Nat.le_of_lt l1); (try have l1f := Nat.le_add_right_of_le (k := 1) l1e); (try have l2 := Nat.lt_of_lt_of_le l2 (show _ ≤ w7.heap.size by omega)); (try have l2e := Nat.le_of_lt l2); (try have l2f := Nat.le_add_right_of_le (k := 1) l2e); (try have l3 := Nat.lt_of_lt_of_le l3 (show _ ≤ w7.heap.size by omega)); (try have l3e := Nat.le_of_lt l3); (try have l3f := Nat.le_add_right_of_le (k := 1) l3e)
    have D7 := Lib.hid (D6.out.tr hb)
    have HG7 := Lib.hid (HG6.out.ext hb)
    have HA67 := Lib.hid (HA6.out.ext hb)
    have HA7n := Lib.hid (any_txns2 hA7.txns)
    clear hA7 hb hc hf hz HA6 HG6
    go_wp2_with (fail)
    go_at_call 10
    refine (eqTxnS_c h _ _ _ _ _ _ _ (any_txns2 HA67.out.txns) HA7n.out HSm.out).mono ?_
    rintro e w8 ⟨rfl, hb⟩
    obtain ⟨hc, hf, hz, hs⟩ := bcell hb
    (try simp only [World.size_alloc, World.size_setCell, World.size_drew, size_drewN] at hs); (first | have l0 := Nat.lt_of_lt_of_le l0 (show _ ≤ w8.heap.size by omega) | have l0 : w.heap.size < w8.heap.size := (by omega) | skip); (try have l0e := Nat.le_of_lt l0); (try have l0f := Nat.le_add_right_of_le (k := 1) l0e); (try have l1 := Nat.lt_of_lt_of_le l1 (show _ ≤ w8.heap.size by omega)); (try have l1e := Nat.le_of_lt l1); (try have l1f := Nat.le_add_right_of_le (k := 1) l1e); (try have l2 := Nat.lt_of_lt_of_le l2 (show _ ≤ w8.heap.size by omega)); (try have l2e := Nat.le_of_lt l2); (try have l2f := Nat.le_add_right_of_le (k := 1) l2e); (try have l3 := Nat.lt_of_lt_of_le l3 (show _ ≤ w8.heap.size by omega)); (try have l3e := Nat.le_of_lt l3); (try have l3f := Nat.le_add_right_of_le (k := 1) l3e)
    have D8 := Lib.hid (D7.out.tr hb)
    have HG8 := Lib.hid (HG7.out.ext hb)
    have HA8 := Lib.hid (HA67.out.ext hb)
    clear hb hc hf hz HG7 HA67 HA7n
    go_wp2_with (fail)
    go_at_call 11
    refine (markTxnS_c h _ _ _ HA8.out HSm.out).mono ?_
    rintro e w9 ⟨k9, rfl, hk9, _, hw9⟩
    have D9 := Lib.hid (Within.old D8.out hw9 (Nat.le_refl _))
    have HG9 := Lib.hid (HG8.out.within hw9 hlim)
    clear hw9 HA8 HG8
    go_wp2_with (fail)
    go_at_call 9
    refine (eqIntS_c L _ _ _ _ _ _ _ HG9.out.1 (HW.out.ext D9.out) hL).mono ?_
    rintro e w10 ⟨rfl, hb⟩
    obtain ⟨hc, hf, hz, hs⟩ := bcell hb
    (try simp only [World.size_alloc, World.size_setCell, World.size_drew, size_drewN] at hs); (first | have l0 := Nat.lt_of_lt_of_le l0 (show _ ≤ w10.heap.size by omega) | have l0 : w.heap.size < w10.heap.size := (by omega) | skip); (try have l0e := Nat.le_of_lt l0); (try have l0f := Nat.le_add_right_of_le (k := 1) l0e); (try have l1 := Nat.lt_of_lt_of_le l1 (show _ ≤ w10.heap.size by omega)); (try have l1e := Nat.le_of_lt l1); (try have l1f := Nat.le_add_right_of_le (k := 1) l1e); (try have l2 := Nat.lt_of_lt_of_le l2 (show _ ≤ w10.heap.size by omega)); (try have l2e := Nat.le_of_lt l2); (try have l2f := Nat.le_add_right_of_le (k := 1) l2e); (try have l3 := Nat.lt_of_lt_of_le l3 (show _ ≤ w10.heap.size by omega)); (try have l3e := Nat.le_of_lt l3); (try have l3f := Nat.le_add_right_of_le (k := 1) l3e)
    have D10 := Lib.hid (D9.out.tr hb)
    have HG10 := Lib.hid (HG9.out.ext hb)
    clear hb hc hf hz HG9
    go_wp2_with (fail)
    go_at_call 12
    refine (markRI L _ _ _ _ _ HG10.out hL (by omega) (by omega)).mono ?_
    rintro e w11 ⟨rfl, hM0, hw11⟩
    have HM := Lib.hid (hM0 rfl)
    have D11 := Lib.hid (Within.old D10.out hw11 z34)
    clear HG10 hw11 hM0
    have hne : (((1 : Int) + ((L.length : Nat) : Int)) != ((1 : Int) + ((L.length : Nat) : Int))) = false := by simp
    have hlo : ((1 : Int) + ((L.length : Nat) : Int) < 0) = False := by simp; omega
    go_wp2_with (fail)
    go_at_call 13
    refine (heldRI L _ _ _ HM.out hL).mono ?_
    rintro e w' ⟨rfl, rfl⟩
    go_wp2_with (fail)
    go_at_call 7
    refine (toTxnS2_c h _ _ _ _ (HX.out.ext (E3.out.tr D11.out)) HSm.out).mono ?_
    rintro e w12 ⟨lim12, rfl, hA12, hb⟩
    obtain ⟨hc, hf, hz, hs⟩ := bcell hb
    (try simp only [World.size_alloc, World.size_setCell, World.size_drew, size_drewN] at hs); (first | have l0 := Nat.lt_of_lt_of_le l0 (show _ ≤ w12.heap.size by omega) | have l0 : w.heap.size < w12.heap.size := (by omega) | skip); (try have l0e := Nat.le_of_lt l0); (try have l0f := Nat.le_add_right_of_le (k := 1) l0e); (try have l1 := Nat.lt_of_lt_of_le l1 (show _ ≤ w12.heap.size by omega)); (try have l1e := Nat.le_of_lt l1); (try have l1f := Nat.le_add_right_of_le (k := 1) l1e); (try have l2 := Nat.lt_of_lt_of_le l2 (show _ ≤ w12.heap.size by omega)); (try have l2e := Nat.le_of_lt l2); (try have l2f := Nat.le_add_right_of_le (k := 1) l2e); (try have l3 := Nat.lt_of_lt_of_le l3 (show _ ≤ w12.heap.size by omega)); (try have l3e := Nat.le_of_lt l3); (try have l3f := Nat.le_add_right_of_le (k := 1) l3e)
    have D12 := Lib.hid (D11.out.tr hb)
    have HM12 := Lib.hid (HM.out.ext hb)
    have HA12 := Lib.hid (any_txns2 hA12.txns)
    clear hA12 hb hc hf hz HM
    go_wp2_with (fail)
    go_at_call 8
    refine (CI.out _ _ _ HA12.out).mono ?_
    rintro e w13 ⟨A13, c13, rfl, hH, hf13, hb⟩
    obtain ⟨hc, hf, hz, hs⟩ := bcell hb
    (try simp only [World.size_alloc, World.size_setCell, World.size_drew, size_drewN] at hs); (first | have l0 := Nat.lt_of_lt_of_le l0 (show _ ≤ w13.heap.size by omega) | have l0 : w.heap.size < w13.heap.size := (by omega) | skip); (try have l0e := Nat.le_of_lt l0); (try have l0f := Nat.le_add_right_of_le (k := 1) l0e); (try have l1 := Nat.lt_of_lt_of_le l1 (show _ ≤ w13.heap.size by omega)); (try have l1e := Nat.le_of_lt l1); (try have l1f := Nat.le_add_right_of_le (k := 1) l1e); (try have l2 := Nat.lt_of_lt_of_le l2 (show _ ≤ w13.heap.size by omega)); (try have l2e := Nat.le_of_lt l2); (try have l2f := Nat.le_add_right_of_le (k := 1) l2e); (try have l3 := Nat.lt_of_lt_of_le l3 (show _ ≤ w13.heap.size by omega)); (try have l3e := Nat.le_of_lt l3); (try have l3f := Nat.le_add_right_of_le (k := 1) l3e)
    have D13 := Lib.hid (D12.out.tr hb)
    have HM13 := Lib.hid (HM12.out.ext hb)
    have HH := Lib.hid hH
    clear hH hf13 hb hc hf hz HM12 HA12
    go_wp2_with (fail)
    go_at_call 9
    refine (eqIntS_c L _ _ _ _ _ _ _ HH.out (HW.out.ext D13.out) hL).mono ?_
    rintro e w14 ⟨rfl, hb⟩
    obtain ⟨hc, hf, hz, hs⟩ := bcell hb
    (try simp only [World.size_alloc, World.size_setCell, World.size_drew, size_drewN] at hs); (first | have l0 := Nat.lt_of_lt_of_le l0 (show _ ≤ w14.heap.size by omega) | have l0 : w.heap.size < w14.heap.size := (by omega) | skip); (try have l0e := Nat.le_of_lt l0); (try have l0f := Nat.le_add_right_of_le (k := 1) l0e); (try have l1 := Nat.lt_of_lt_of_le l1 (show _ ≤ w14.heap.size by omega)); (try have l1e := Nat.le_of_lt l1); (try have l1f := Nat.le_add_right_of_le (k := 1) l1e); (try have l2 := Nat.lt_of_lt_of_le l2 (show _ ≤ w14.heap.size by omega)); (try have l2e := Nat.le_of_lt l2); (try have l2f := Nat.le_add_right_of_le (k := 1) l2e); (try have l3 := Nat.lt_of_lt_of_le l3 (show _ ≤ w14.heap.size by omega)); (try have l3e := Nat.le_of_lt l3); (try have l3f := Nat.le_add_right_of_le (k := 1) l3e)
    have D14 := Lib.hid (D13.out.tr hb)
    have HM14 := Lib.hid (HM13.out.ext hb)
    clear hb hc hf hz HM13
    go_wp2_with (fail)
    go_at_call 13
    refine (heldRI L _ _ _ HM14.out hL).mono ?_
    rintro e w' ⟨rfl, rfl⟩
    go_wp2
    go_ret
    exact ⟨rfl, E3.out.tr D14.out⟩

set_option maxRecDepth 100000 in
theorem FnExactFindSerial_lifted (os : Os) (started : os.Started) (H : Type) (enc : TypeId × Value → H) :
    ReturnsInHanded {} Try.checked os 3 .any (Rows.fnExactFindSerialSpec.pre6 enc Try.prog Try.f3 Rows.fnExactFindSerialRow.domain false) (Rows.fnExactFindSerialSpec.post enc Try.prog Try.f3 false true false false) := by
  refine returnsInHanded_of_change (C := Try.checked) Law.own started (by kernel_rfl) Try.func3
    (ChangeSpec.witness6 (enc := enc) (C := Try.checked) false ⟨#[], #[.slice none 0 0], []⟩ 8 (by kernel_rfl) (by kernel_rfl) (by kernel_rfl) (by kernel_rfl)) ?_
  intro W base args ds gs before hval0 hW _ _
  have hval : ∀ (j : Nat) t v, Try.f3.params[j]? = some t → args[j]? = some v → Value.okWide Try.prog W .any base t v := hval0
  have hW' := hW
  obtain ⟨p, q, hA0, hV, rfl, hfz, hnd⟩ := hW
  have hA : DataW.TrodAll enc Try.prog W 0 (fun _ => true) true Try.f3.params.toList args.toList ds p := hA0
  rw [Try.params3] at hA hval
  obtain ⟨v0, vs0, d0, ds0, p0, q0, hargs, hds, rfl, h0, r0⟩ := trodAll_cons hA
  obtain ⟨rfl, rfl, rfl⟩ := trodAll_nil r0
  obtain rfl : args = #[v0] := by cases args; simp_all
  subst hds
  obtain ⟨x0, A0, c0, rfl, hO0, wf0⟩ := Law.open_txns Try.underlying22 Try.underlying41 (by kernel_rfl) (by kernel_rfl) Try.underlying3 Try.underlying39 Try.underlying4 Try.underlying84 (by kernel_rfl) (by kernel_rfl) Try.underlying3 Try.underlying3 Try.underlying3 (hval 0 22 v0 rfl rfl) h0
  refine (FnExactFindSerial_c x0 A0 c0 W hO0 wf0).mono fun e W' ⟨he, hb⟩ => ?_
  subst he
  refine ⟨_, rfl, Law.post_true Law.laidOut ?_ rfl rfl Try.underlying4 ⟨rfl, rfl, rfl⟩ hW' hb⟩
  intro t ht
  rw [Try.params3] at ht
  simp only [List.mem_cons, List.not_mem_nil, or_false] at ht
  first | (rcases ht with rfl <;> exact ⟨by kernel_rfl, of_decide_eq_true (by kernel_rfl)⟩)

theorem FnExactFindSerial_holds : Rows.FnExactFindSerialSaid :=
  OpenClaim.holds_of_wide 3 Try.f3 rfl rfl rfl rfl rfl rfl rfl ⟨rfl, rfl, rfl, rfl, rfl⟩ rfl rfl rfl rfl rfl (by kernel_rfl) Try.func3 (by kernel_rfl)
    (of_decide_eq_true (by kernel_rfl)) (by unfold Func.isWrapper; first | (rw [if_pos (by decide +kernel)]; kernel_rfl) | (rw [if_neg (by decide +kernel)]; exact ⟨rfl, rfl⟩))
    (fun os started H enc _ => FnExactFindSerial_lifted os started H enc)

end Go.Proofs.Ytdohbmegkkkchaa
