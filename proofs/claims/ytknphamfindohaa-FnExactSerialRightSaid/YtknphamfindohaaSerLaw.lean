/-
  For every history and every list of numbers, the program's SerialRight returns what the reference's returns, and leaves its arguments as they were. No conditions.
-/
import Derived.Test.YtknphamfindohaaLaw
import Derived.Test.YtknphamfindohaaSer
import Derived.Test.YtknphamfindohaaRowC
import Derived.OpenShut
import Derived.Deep.RegionWith
namespace Go.Proofs.Ytknphamfindohaa
set_option linter.unusedSimpArgs false
set_option linter.unusedVariables false
set_option maxRecDepth 100000
open Go.ChangeShapes Go.WideShapes Go.ChangeAt Go.RowKit Go.Joins

theorem any_txns2 {So Si : Nat → Prop} {w : World} {A : Option Addr} {xs : List TxnT} (h : Txns2 So Si w A xs) : Txns Any w A xs := h.txns (fun _ _ _ => trivial) (fun _ _ _ => trivial)

set_option maxHeartbeats 8000000 in
theorem FnExactSerialRight_c (h : List TxnT) (A : Option Addr) (c : Nat) (ns : List Int) (B : Option Addr) (d : Nat) (w : World) (hx : Txns Any w A h) (wf : Law.wfL Law.wfTxn h) (hi : Ints Any w B ns) (wn : Law.wfL Law.wfI ns) :
    Calls Try.prog 6 #[.slice A h.length c, .slice B ns.length d] w fun e w' => e = .returned (.bool true) ∧ Ext w w' := by
  have hnl := wn.1
  unfold maxLen at hnl
  by_cases hn : 1048576 < ns.length
  · go_enter Try.func6, Try.ntmps6
    go_wp2
    go_ret
    exact ⟨rfl, Below.refl _ _⟩
  have hn' : ns.length ≤ 1048576 := by omega
  have C := Lib.hid (fun w hx => szTxnS2_c h Any A c w hx wf.1 (fun t ht => (wf.2 t ht).2.1))
  have HX := Lib.hid hx
  have HI := Lib.hid hi
  clear hx hi wf wn hn
  go_enter Try.func6, Try.ntmps6
  go_wp2_with (fail)
  go_at_call 8
  refine (C.out _ HX.out).mono ?_
  rintro e w1 ⟨r, rfl, (rfl | ⟨hr0, hr1, hsm⟩), hb⟩
  · go_wp2
    go_ret
    exact ⟨rfl, hb⟩
  · have HE2 := Lib.hid (show Ext w w1 from hb)
    have HSm := Lib.hid hsm
    clear hb hsm C
    have CS := Lib.hid (fun S S' A B c d w hx hi => specSerialRight_c h ns S S' A B c d w hx HSm.out hi hn')
    have CI := Lib.hid (fun S S' A B c d w hx hi => implSerialRight_c h ns S S' A B c d w hx HSm.out hi hn')
    generalize serV h ns = V at CS CI
    have hbb : (V != V) = false := by simp
    go_wp2_with (fail)
    go_at_call 10
    refine (toTxnS_c h _ _ _ _ (HX.out.ext HE2.out) HSm.out).mono ?_
    rintro e w3 ⟨A3, rfl, hA3, hb⟩
    obtain ⟨hc, hf, hz, hs⟩ := bcell hb
    (try simp only [World.size_alloc, World.size_setCell, World.size_drew, size_drewN] at hs); (first | have l0 := Nat.lt_of_lt_of_le l0 (show _ ≤ w3.heap.size by omega) | have l0 : w.heap.size < w3.heap.size := (by omega) | skip); (try have l0e := Nat.le_of_lt l0); (try have l0f := Nat.le_add_right_of_le (k := 1) l0e); (try have l1 := Nat.lt_of_lt_of_le l1 (show _ ≤ w3.heap.size by omega)); (try have l1e := Nat.le_of_lt l1); (try have l1f := Nat.le_add_right_of_le (k := 1) l1e); (try have l2 := Nat.lt_of_lt_of_le l2 (show _ ≤ w3.heap.size by omega)); (try have l2e := Nat.le_of_lt l2); (try have l2f := Nat.le_add_right_of_le (k := 1) l2e); (try have l3 := Nat.lt_of_lt_of_le l3 (show _ ≤ w3.heap.size by omega)); (try have l3e := Nat.le_of_lt l3); (try have l3f := Nat.le_add_right_of_le (k := 1) l3e)
    have HA3 := Lib.hid (any_txns2 hA3)
    have HE3 := Lib.hid (HE2.out.tr hb)
    clear hA3 hb hc hf hz
    go_wp2_with (fail)
    go_at_call 27
    refine (toIntS_c ns _ _ _ _ (HI.out.ext HE3.out) hn').mono ?_
    rintro e w4 ⟨rfl, hB4, hb⟩
    obtain ⟨hc, hf, hz, hs⟩ := bcell hb
    (try simp only [World.size_alloc, World.size_setCell, World.size_drew, size_drewN] at hs); (first | have l0 := Nat.lt_of_lt_of_le l0 (show _ ≤ w4.heap.size by omega) | have l0 : w.heap.size < w4.heap.size := (by omega) | skip); (try have l0e := Nat.le_of_lt l0); (try have l0f := Nat.le_add_right_of_le (k := 1) l0e); (try have l1 := Nat.lt_of_lt_of_le l1 (show _ ≤ w4.heap.size by omega)); (try have l1e := Nat.le_of_lt l1); (try have l1f := Nat.le_add_right_of_le (k := 1) l1e); (try have l2 := Nat.lt_of_lt_of_le l2 (show _ ≤ w4.heap.size by omega)); (try have l2e := Nat.le_of_lt l2); (try have l2f := Nat.le_add_right_of_le (k := 1) l2e); (try have l3 := Nat.lt_of_lt_of_le l3 (show _ ≤ w4.heap.size by omega)); (try have l3e := Nat.le_of_lt l3); (try have l3f := Nat.le_add_right_of_le (k := 1) l3e)
    have HB4 := Lib.hid hB4.1
    have HA4 := Lib.hid (HA3.out.ext hb)
    have HE4 := Lib.hid (HE3.out.tr hb)
    clear hB4 hb hc hf hz HA3
    go_wp2_with (fail)
    go_at_call 26
    refine (CS.out _ _ _ _ _ _ _ HA4.out HB4.out).mono ?_
    rintro e w5 ⟨rfl, hb⟩
    obtain ⟨hc, hf, hz, hs⟩ := bcell hb
    (try simp only [World.size_alloc, World.size_setCell, World.size_drew, size_drewN] at hs); (first | have l0 := Nat.lt_of_lt_of_le l0 (show _ ≤ w5.heap.size by omega) | have l0 : w.heap.size < w5.heap.size := (by omega) | skip); (try have l0e := Nat.le_of_lt l0); (try have l0f := Nat.le_add_right_of_le (k := 1) l0e); (try have l1 := Nat.lt_of_lt_of_le l1 (show _ ≤ w5.heap.size by omega)); (try have l1e := Nat.le_of_lt l1); (try have l1f := Nat.le_add_right_of_le (k := 1) l1e); (try have l2 := Nat.lt_of_lt_of_le l2 (show _ ≤ w5.heap.size by omega)); (try have l2e := Nat.le_of_lt l2); (try have l2f := Nat.le_add_right_of_le (k := 1) l2e); (try have l3 := Nat.lt_of_lt_of_le l3 (show _ ≤ w5.heap.size by omega)); (try have l3e := Nat.le_of_lt l3); (try have l3f := Nat.le_add_right_of_le (k := 1) l3e)
    have HE5 := Lib.hid (HE4.out.tr hb)
    clear hb hc hf hz HA4 HB4
    go_wp2_with (fail)
    go_at_call 10
    refine (toTxnS_c h _ _ _ _ (HX.out.ext HE5.out) HSm.out).mono ?_
    rintro e w6 ⟨A6, rfl, hA6, hb⟩
    obtain ⟨hc, hf, hz, hs⟩ := bcell hb
    (try simp only [World.size_alloc, World.size_setCell, World.size_drew, size_drewN] at hs); (first | have l0 := Nat.lt_of_lt_of_le l0 (show _ ≤ w6.heap.size by omega) | have l0 : w.heap.size < w6.heap.size := (by omega) | skip); (try have l0e := Nat.le_of_lt l0); (try have l0f := Nat.le_add_right_of_le (k := 1) l0e); (try have l1 := Nat.lt_of_lt_of_le l1 (show _ ≤ w6.heap.size by omega)); (try have l1e := Nat.le_of_lt l1); (try have l1f := Nat.le_add_right_of_le (k := 1) l1e); (try have l2 := Nat.lt_of_lt_of_le l2 (show _ ≤ w6.heap.size by omega)); (try have l2e := Nat.le_of_lt l2); (try have l2f := Nat.le_add_right_of_le (k := 1) l2e); (try have l3 := Nat.lt_of_lt_of_le l3 (show _ ≤ w6.heap.size by omega)); (try have l3e := Nat.le_of_lt l3); (try have l3f := Nat.le_add_right_of_le (k := 1) l3e)
    have HA6 := Lib.hid (any_txns2 hA6)
    have HE6 := Lib.hid (HE5.out.tr hb)
    clear hA6 hb hc hf hz
    go_wp2_with (fail)
    go_at_call 27
    refine (toIntS_c ns _ _ _ _ (HI.out.ext HE6.out) hn').mono ?_
    rintro e w7 ⟨rfl, hB7, hb⟩
    obtain ⟨hc, hf, hz, hs⟩ := bcell hb
    (try simp only [World.size_alloc, World.size_setCell, World.size_drew, size_drewN] at hs); (first | have l0 := Nat.lt_of_lt_of_le l0 (show _ ≤ w7.heap.size by omega) | have l0 : w.heap.size < w7.heap.size := (by omega) | skip); (try have l0e := Nat.le_of_lt l0); (try have l0f := Nat.le_add_right_of_le (k := 1) l0e); (try have l1 := Nat.lt_of_lt_of_le l1 (show _ ≤ w7.heap.size by omega)); (try have l1e := Nat.le_of_lt l1); (try have l1f := Nat.le_add_right_of_le (k := 1) l1e); (try have l2 := Nat.lt_of_lt_of_le l2 (show _ ≤ w7.heap.size by omega)); (try have l2e := Nat.le_of_lt l2); (try have l2f := Nat.le_add_right_of_le (k := 1) l2e); (try have l3 := Nat.lt_of_lt_of_le l3 (show _ ≤ w7.heap.size by omega)); (try have l3e := Nat.le_of_lt l3); (try have l3f := Nat.le_add_right_of_le (k := 1) l3e)
    have HB7 := Lib.hid hB7.1
    have HA7 := Lib.hid (HA6.out.ext hb)
    have HE7 := Lib.hid (HE6.out.tr hb)
    clear hB7 hb hc hf hz HA6
    go_wp2_with (fail)
    go_at_call 28
    refine (CI.out _ _ _ _ _ _ _ HA7.out HB7.out).mono ?_
    rintro e w8 ⟨rfl, hb⟩
    obtain ⟨hc, hf, hz, hs⟩ := bcell hb
    (try simp only [World.size_alloc, World.size_setCell, World.size_drew, size_drewN] at hs); (first | have l0 := Nat.lt_of_lt_of_le l0 (show _ ≤ w8.heap.size by omega) | have l0 : w.heap.size < w8.heap.size := (by omega) | skip); (try have l0e := Nat.le_of_lt l0); (try have l0f := Nat.le_add_right_of_le (k := 1) l0e); (try have l1 := Nat.lt_of_lt_of_le l1 (show _ ≤ w8.heap.size by omega)); (try have l1e := Nat.le_of_lt l1); (try have l1f := Nat.le_add_right_of_le (k := 1) l1e); (try have l2 := Nat.lt_of_lt_of_le l2 (show _ ≤ w8.heap.size by omega)); (try have l2e := Nat.le_of_lt l2); (try have l2f := Nat.le_add_right_of_le (k := 1) l2e); (try have l3 := Nat.lt_of_lt_of_le l3 (show _ ≤ w8.heap.size by omega)); (try have l3e := Nat.le_of_lt l3); (try have l3f := Nat.le_add_right_of_le (k := 1) l3e)
    have HE8 := Lib.hid (HE7.out.tr hb)
    have HA8 := Lib.hid (HA7.out.ext hb)
    have HB8 := Lib.hid (HB7.out.ext hb)
    clear hb hc hf hz HA7 HB7
    go_wp2_with (fail)
    go_at_call 10
    refine (toTxnS_c h _ _ _ _ (HX.out.ext HE8.out) HSm.out).mono ?_
    rintro e w9 ⟨A9, rfl, hA9, hb⟩
    obtain ⟨hc, hf, hz, hs⟩ := bcell hb
    (try simp only [World.size_alloc, World.size_setCell, World.size_drew, size_drewN] at hs); (first | have l0 := Nat.lt_of_lt_of_le l0 (show _ ≤ w9.heap.size by omega) | have l0 : w.heap.size < w9.heap.size := (by omega) | skip); (try have l0e := Nat.le_of_lt l0); (try have l0f := Nat.le_add_right_of_le (k := 1) l0e); (try have l1 := Nat.lt_of_lt_of_le l1 (show _ ≤ w9.heap.size by omega)); (try have l1e := Nat.le_of_lt l1); (try have l1f := Nat.le_add_right_of_le (k := 1) l1e); (try have l2 := Nat.lt_of_lt_of_le l2 (show _ ≤ w9.heap.size by omega)); (try have l2e := Nat.le_of_lt l2); (try have l2f := Nat.le_add_right_of_le (k := 1) l2e); (try have l3 := Nat.lt_of_lt_of_le l3 (show _ ≤ w9.heap.size by omega)); (try have l3e := Nat.le_of_lt l3); (try have l3f := Nat.le_add_right_of_le (k := 1) l3e)
    have HA9 := Lib.hid (any_txns2 hA9)
    have HA89 := Lib.hid (HA8.out.ext hb)
    have HB89 := Lib.hid (HB8.out.ext hb)
    have HE9 := Lib.hid (HE8.out.tr hb)
    clear hA9 hb hc hf hz HA8 HB8
    go_wp2_with (fail)
    go_at_call 13
    refine (eqTxnS_c h _ _ _ _ _ _ _ HA89.out HA9.out HSm.out).mono ?_
    rintro e w10 ⟨rfl, hb⟩
    obtain ⟨hc, hf, hz, hs⟩ := bcell hb
    (try simp only [World.size_alloc, World.size_setCell, World.size_drew, size_drewN] at hs); (first | have l0 := Nat.lt_of_lt_of_le l0 (show _ ≤ w10.heap.size by omega) | have l0 : w.heap.size < w10.heap.size := (by omega) | skip); (try have l0e := Nat.le_of_lt l0); (try have l0f := Nat.le_add_right_of_le (k := 1) l0e); (try have l1 := Nat.lt_of_lt_of_le l1 (show _ ≤ w10.heap.size by omega)); (try have l1e := Nat.le_of_lt l1); (try have l1f := Nat.le_add_right_of_le (k := 1) l1e); (try have l2 := Nat.lt_of_lt_of_le l2 (show _ ≤ w10.heap.size by omega)); (try have l2e := Nat.le_of_lt l2); (try have l2f := Nat.le_add_right_of_le (k := 1) l2e); (try have l3 := Nat.lt_of_lt_of_le l3 (show _ ≤ w10.heap.size by omega)); (try have l3e := Nat.le_of_lt l3); (try have l3f := Nat.le_add_right_of_le (k := 1) l3e)
    have HB10 := Lib.hid (HB89.out.ext hb)
    have HE10 := Lib.hid (HE9.out.tr hb)
    clear hb hc hf hz HA89 HA9 HB89
    go_wp2_with (fail)
    go_at_call 27
    refine (toIntS_c ns _ _ _ _ (HI.out.ext HE10.out) hn').mono ?_
    rintro e w11 ⟨rfl, hB11, hb⟩
    obtain ⟨hc, hf, hz, hs⟩ := bcell hb
    (try simp only [World.size_alloc, World.size_setCell, World.size_drew, size_drewN] at hs); (first | have l0 := Nat.lt_of_lt_of_le l0 (show _ ≤ w11.heap.size by omega) | have l0 : w.heap.size < w11.heap.size := (by omega) | skip); (try have l0e := Nat.le_of_lt l0); (try have l0f := Nat.le_add_right_of_le (k := 1) l0e); (try have l1 := Nat.lt_of_lt_of_le l1 (show _ ≤ w11.heap.size by omega)); (try have l1e := Nat.le_of_lt l1); (try have l1f := Nat.le_add_right_of_le (k := 1) l1e); (try have l2 := Nat.lt_of_lt_of_le l2 (show _ ≤ w11.heap.size by omega)); (try have l2e := Nat.le_of_lt l2); (try have l2f := Nat.le_add_right_of_le (k := 1) l2e); (try have l3 := Nat.lt_of_lt_of_le l3 (show _ ≤ w11.heap.size by omega)); (try have l3e := Nat.le_of_lt l3); (try have l3f := Nat.le_add_right_of_le (k := 1) l3e)
    have HB11 := Lib.hid hB11.1
    have HB12 := Lib.hid (HB10.out.ext hb)
    have HE11 := Lib.hid (HE10.out.tr hb)
    clear hB11 hb hc hf hz HB10
    go_wp2_with (fail)
    go_at_call 29
    refine (eqIntS_c ns _ _ _ _ _ _ _ HB12.out HB11.out hn').mono ?_
    rintro e w12 ⟨rfl, hb⟩
    obtain ⟨hc, hf, hz, hs⟩ := bcell hb
    (try simp only [World.size_alloc, World.size_setCell, World.size_drew, size_drewN] at hs); (first | have l0 := Nat.lt_of_lt_of_le l0 (show _ ≤ w12.heap.size by omega) | have l0 : w.heap.size < w12.heap.size := (by omega) | skip); (try have l0e := Nat.le_of_lt l0); (try have l0f := Nat.le_add_right_of_le (k := 1) l0e); (try have l1 := Nat.lt_of_lt_of_le l1 (show _ ≤ w12.heap.size by omega)); (try have l1e := Nat.le_of_lt l1); (try have l1f := Nat.le_add_right_of_le (k := 1) l1e); (try have l2 := Nat.lt_of_lt_of_le l2 (show _ ≤ w12.heap.size by omega)); (try have l2e := Nat.le_of_lt l2); (try have l2f := Nat.le_add_right_of_le (k := 1) l2e); (try have l3 := Nat.lt_of_lt_of_le l3 (show _ ≤ w12.heap.size by omega)); (try have l3e := Nat.le_of_lt l3); (try have l3f := Nat.le_add_right_of_le (k := 1) l3e)
    go_wp2
    go_ret
    exact ⟨rfl, HE11.out.tr hb⟩

set_option maxRecDepth 100000 in
theorem FnExactSerialRight_lifted (os : Os) (started : os.Started) (H : Type) (enc : TypeId × Value → H) :
    ReturnsInHanded {} Try.checked os 6 .any (Rows.fnExactSerialRightSpec.pre6 enc Try.prog Try.f6 Rows.fnExactSerialRightRow.domain false) (Rows.fnExactSerialRightSpec.post enc Try.prog Try.f6 false true false false) := by
  refine returnsInHanded_of_change (C := Try.checked) Law.own started (by kernel_rfl) Try.func6
    (ChangeSpec.witness6 (enc := enc) (C := Try.checked) false ⟨#[], #[.slice none 0 0, .slice none 0 0], []⟩ 8 (by kernel_rfl) (by kernel_rfl) (by kernel_rfl) (by kernel_rfl)) ?_
  intro W base args ds gs before hval0 hW _ _
  have hval : ∀ (j : Nat) t v, Try.f6.params[j]? = some t → args[j]? = some v → Value.okWide Try.prog W .any base t v := hval0
  have hW' := hW
  obtain ⟨p, q, hA0, hV, rfl, hfz, hnd⟩ := hW
  have hA : DataW.TrodAll enc Try.prog W 0 (fun _ => true) true Try.f6.params.toList args.toList ds p := hA0
  rw [Try.params6] at hA hval
  obtain ⟨v0, vs0, d0, ds0, p0, q0, hargs, hds, rfl, h0, r0⟩ := trodAll_cons hA
  obtain ⟨v1, vs1, d1, ds1, p1, q1, rfl, rfl, rfl, h1, r1⟩ := trodAll_cons r0
  obtain ⟨rfl, rfl, rfl⟩ := trodAll_nil r1
  obtain rfl : args = #[v0, v1] := by cases args; simp_all
  subst hds
  obtain ⟨x0, A0, c0, rfl, hO0, wf0⟩ := Law.open_txns Try.underlying22 Try.underlying50 (by kernel_rfl) (by kernel_rfl) Try.underlying3 Try.underlying48 Try.underlying4 Try.underlying96 (by kernel_rfl) (by kernel_rfl) Try.underlying3 Try.underlying3 Try.underlying3 (hval 0 22 v0 rfl rfl) h0
  obtain ⟨x1, A1, c1, rfl, hO1, wf1⟩ := Law.open_intsl Try.underlying40 Try.underlying3 (by kernel_rfl) (hval 1 40 v1 rfl rfl) h1
  refine (FnExactSerialRight_c x0 A0 c0 x1 A1 c1 W hO0 wf0 hO1 wf1).mono fun e W' ⟨he, hb⟩ => ?_
  subst he
  refine ⟨_, rfl, Law.post_true Law.laidOut ?_ rfl rfl Try.underlying4 ⟨rfl, rfl, rfl⟩ hW' hb⟩
  intro t ht
  rw [Try.params6] at ht
  simp only [List.mem_cons, List.not_mem_nil, or_false] at ht
  first | (rcases ht with rfl | rfl <;> exact ⟨by kernel_rfl, of_decide_eq_true (by kernel_rfl)⟩)

theorem FnExactSerialRight_holds : Rows.FnExactSerialRightSaid :=
  OpenClaim.holds_of_wide 6 Try.f6 rfl rfl rfl rfl rfl rfl rfl ⟨rfl, rfl, rfl, rfl, rfl⟩ rfl rfl rfl rfl rfl (by kernel_rfl) Try.func6 (by kernel_rfl)
    (of_decide_eq_true (by kernel_rfl)) (by unfold Func.isWrapper; first | (rw [if_pos (by decide +kernel)]; kernel_rfl) | (rw [if_neg (by decide +kernel)]; exact ⟨rfl, rfl⟩))
    (fun os started H enc _ => FnExactSerialRight_lifted os started H enc)

end Go.Proofs.Ytknphamfindohaa
