/-
  For every transaction, the program's TxnValid returns what the reference's TxnValid returns, and leaves its argument as it was. No conditions.
-/
import Derived.Test.YtnnoobpkgkfdaaaEdgesValidLaw
namespace Go.Proofs.Ytnnoobpkgkfdaaa
set_option linter.unusedSimpArgs false
set_option linter.unusedVariables false
set_option maxRecDepth 100000
open Go.ChangeShapes Go.WideShapes Go.ChangeAt Go.RowKit Go.Joins

set_option maxHeartbeats 2000000 in
theorem FnExactTxnValid_c (t : TxnT) (A : Option Addr) (c : Nat) (w : World) (hx : Ops Any w A t.ops) (wf : Law.wfTxn t) :
    Calls Try.prog 6 #[.agg #[.int .i64 t.sess, .slice A t.ops.length c, .bool t.done]] w fun e w' => e = .returned (.bool true) ∧ Ext w w' := by
  have C := fun w => szTxn_c t.sess A t.ops.length c t.done 1048576 wf.2.1 (by omega) (by omega) w
  have hn : 0 ≤ szf 1048576 t.ops.length → t.ops.length ≤ 1048576 := szf_ok
  rcases szf_cases 1048576 t.ops.length with h | h
  · rw [h] at C
    have C := Lib.hid C
    clear hn h
    go_enter Try.func6, Try.ntmps6
    go_wp2_with (go_at_call 17; refine (C.out _).mono ?_; rintro e w1 ⟨rfl, hb⟩; obtain ⟨hc, hf, hz, hs⟩ := bcell hb; (try simp only [World.size_alloc, World.size_setCell, World.size_drew, size_drewN] at hs); (first | have l0 := Nat.lt_of_lt_of_le l0 (show _ ≤ w1.heap.size by omega) | have l0 : w.heap.size < w1.heap.size := (by omega) | skip); (try have l0e := Nat.le_of_lt l0); (try have l0f := Nat.le_add_right_of_le (k := 1) l0e); (try have l1 := Nat.lt_of_lt_of_le l1 (show _ ≤ w1.heap.size by omega)); (try have l1e := Nat.le_of_lt l1); (try have l1f := Nat.le_add_right_of_le (k := 1) l1e); (try have l2 := Nat.lt_of_lt_of_le l2 (show _ ≤ w1.heap.size by omega)); (try have l2e := Nat.le_of_lt l2); (try have l2f := Nat.le_add_right_of_le (k := 1) l2e); (try have l3 := Nat.lt_of_lt_of_le l3 (show _ ≤ w1.heap.size by omega)); (try have l3e := Nat.le_of_lt l3); (try have l3f := Nat.le_add_right_of_le (k := 1) l3e))
    go_ret
    exact ⟨rfl, by (repeat' (first | (with_reducible exact Below.refl _ _) | (with_reducible refine Below.trans ?_ (Below.mono (by assumption) ?_)) | (with_reducible refine Below.alloc ?_ ?_ _) | (with_reducible refine Below.drew ?_) | (with_reducible refine below_drewN ?_ _) | (with_reducible refine Below.setCell ?_ ?_ _) | (simp only [World.size_alloc, World.size_setCell, World.size_drew, size_drewN]; omega) | omega))⟩
  · have hn := hn h
    generalize szf 1048576 t.ops.length = r at C h
    have C := Lib.hid C
    go_enter Try.func6, Try.ntmps6
    go_wp2_with (first
      | (go_at_call 17; refine (C.out _).mono ?_; rintro e w1 ⟨rfl, hb⟩; obtain ⟨hc, hf, hz, hs⟩ := bcell hb; (try simp only [World.size_alloc, World.size_setCell, World.size_drew, size_drewN] at hs); (first | have l0 := Nat.lt_of_lt_of_le l0 (show _ ≤ w1.heap.size by omega) | have l0 : w.heap.size < w1.heap.size := (by omega) | skip); (try have l0e := Nat.le_of_lt l0); (try have l0f := Nat.le_add_right_of_le (k := 1) l0e); (try have l1 := Nat.lt_of_lt_of_le l1 (show _ ≤ w1.heap.size by omega)); (try have l1e := Nat.le_of_lt l1); (try have l1f := Nat.le_add_right_of_le (k := 1) l1e); (try have l2 := Nat.lt_of_lt_of_le l2 (show _ ≤ w1.heap.size by omega)); (try have l2e := Nat.le_of_lt l2); (try have l2f := Nat.le_add_right_of_le (k := 1) l2e); (try have l3 := Nat.lt_of_lt_of_le l3 (show _ ≤ w1.heap.size by omega)); (try have l3e := Nat.le_of_lt l3); (try have l3f := Nat.le_add_right_of_le (k := 1) l3e))
      | (go_at_call 19; refine (toTxn_c t _ _ _ _ (hx.ext (by (repeat' (first | (with_reducible exact Below.refl _ _) | (with_reducible refine Below.trans ?_ (Below.mono (by assumption) ?_)) | (with_reducible refine Below.alloc ?_ ?_ _) | (with_reducible refine Below.drew ?_) | (with_reducible refine below_drewN ?_ _) | (with_reducible refine Below.setCell ?_ ?_ _) | (simp only [World.size_alloc, World.size_setCell, World.size_drew, size_drewN]; omega) | omega)))) hn).mono ?_; rintro e wt ⟨A', rfl, hA', hf', hb⟩; obtain ⟨hc, hf, hz, hs⟩ := bcell hb; (try simp only [World.size_alloc, World.size_setCell, World.size_drew, size_drewN] at hs); (first | have l0 := Nat.lt_of_lt_of_le l0 (show _ ≤ wt.heap.size by omega) | have l0 : w.heap.size < wt.heap.size := (by omega) | skip); (try have l0e := Nat.le_of_lt l0); (try have l0f := Nat.le_add_right_of_le (k := 1) l0e); (try have l1 := Nat.lt_of_lt_of_le l1 (show _ ≤ wt.heap.size by omega)); (try have l1e := Nat.le_of_lt l1); (try have l1f := Nat.le_add_right_of_le (k := 1) l1e); (try have l2 := Nat.lt_of_lt_of_le l2 (show _ ≤ wt.heap.size by omega)); (try have l2e := Nat.le_of_lt l2); (try have l2f := Nat.le_add_right_of_le (k := 1) l2e); (try have l3 := Nat.lt_of_lt_of_le l3 (show _ ≤ wt.heap.size by omega)); (try have l3e := Nat.le_of_lt l3); (try have l3f := Nat.le_add_right_of_le (k := 1) l3e))
      | (go_at_call 18; refine (specTxnValid_c t _ _ _ _ hA' hn).mono ?_; rintro e w1 ⟨rfl, hb⟩; obtain ⟨hc, hf, hz, hs⟩ := bcell hb; (try simp only [World.size_alloc, World.size_setCell, World.size_drew, size_drewN] at hs); (first | have l0 := Nat.lt_of_lt_of_le l0 (show _ ≤ w1.heap.size by omega) | have l0 : w.heap.size < w1.heap.size := (by omega) | skip); (try have l0e := Nat.le_of_lt l0); (try have l0f := Nat.le_add_right_of_le (k := 1) l0e); (try have l1 := Nat.lt_of_lt_of_le l1 (show _ ≤ w1.heap.size by omega)); (try have l1e := Nat.le_of_lt l1); (try have l1f := Nat.le_add_right_of_le (k := 1) l1e); (try have l2 := Nat.lt_of_lt_of_le l2 (show _ ≤ w1.heap.size by omega)); (try have l2e := Nat.le_of_lt l2); (try have l2f := Nat.le_add_right_of_le (k := 1) l2e); (try have l3 := Nat.lt_of_lt_of_le l3 (show _ ≤ w1.heap.size by omega)); (try have l3e := Nat.le_of_lt l3); (try have l3f := Nat.le_add_right_of_le (k := 1) l3e))
      | (go_at_call 20; refine (implTxnValid_c t _ _ _ _ (hA'.ext (by (repeat' (first | (with_reducible exact Below.refl _ _) | (with_reducible refine Below.trans ?_ (Below.mono (by assumption) ?_)) | (with_reducible refine Below.alloc ?_ ?_ _) | (with_reducible refine Below.drew ?_) | (with_reducible refine below_drewN ?_ _) | (with_reducible refine Below.setCell ?_ ?_ _) | (simp only [World.size_alloc, World.size_setCell, World.size_drew, size_drewN]; omega) | omega)))) hn).mono ?_; rintro e wi ⟨rfl, hb⟩; obtain ⟨hc, hf, hz, hs⟩ := bcell hb; (try simp only [World.size_alloc, World.size_setCell, World.size_drew, size_drewN] at hs); (first | have l0 := Nat.lt_of_lt_of_le l0 (show _ ≤ wi.heap.size by omega) | have l0 : w.heap.size < wi.heap.size := (by omega) | skip); (try have l0e := Nat.le_of_lt l0); (try have l0f := Nat.le_add_right_of_le (k := 1) l0e); (try have l1 := Nat.lt_of_lt_of_le l1 (show _ ≤ wi.heap.size by omega)); (try have l1e := Nat.le_of_lt l1); (try have l1f := Nat.le_add_right_of_le (k := 1) l1e); (try have l2 := Nat.lt_of_lt_of_le l2 (show _ ≤ wi.heap.size by omega)); (try have l2e := Nat.le_of_lt l2); (try have l2f := Nat.le_add_right_of_le (k := 1) l2e); (try have l3 := Nat.lt_of_lt_of_le l3 (show _ ≤ wi.heap.size by omega)); (try have l3e := Nat.le_of_lt l3); (try have l3f := Nat.le_add_right_of_le (k := 1) l3e); have l1 : _ < wi.heap.size := hs))
    obtain ⟨q0, q1, q2⟩ := box3 (show Ext (w.alloc (.cells #[.int .i64 t.sess, .slice A t.ops.length c, .bool t.done] 38)) wi by (repeat' (first | (with_reducible exact Below.refl _ _) | (with_reducible refine Below.trans ?_ (Below.mono (by assumption) ?_)) | (with_reducible refine Below.alloc ?_ ?_ _) | (with_reducible refine Below.drew ?_) | (with_reducible refine below_drewN ?_ _) | (with_reducible refine Below.setCell ?_ ?_ _) | (simp only [World.size_alloc, World.size_setCell, World.size_drew, size_drewN]; omega) | omega)))
    obtain ⟨q3, q4, q5⟩ := box3 (show Ext (wt.alloc (.cells #[.int .i64 t.sess, .slice A' t.ops.length t.ops.length, .bool t.done] 43)) wi by (repeat' (first | (with_reducible exact Below.refl _ _) | (with_reducible refine Below.trans ?_ (Below.mono (by assumption) ?_)) | (with_reducible refine Below.alloc ?_ ?_ _) | (with_reducible refine Below.drew ?_) | (with_reducible refine below_drewN ?_ _) | (with_reducible refine Below.setCell ?_ ?_ _) | (simp only [World.size_alloc, World.size_setCell, World.size_drew, size_drewN]; omega) | omega)))
    have l0d : w.heap.size < wi.heap.size := l0
    have l1d : wt.heap.size < wi.heap.size := l1
    go_region_held3 (fun W => W.cell? ⟨w.heap.size, 0, none⟩ = some (.int .i64 t.sess) ∧ W.cell? ⟨w.heap.size, 1, none⟩ = some (.slice A t.ops.length c) ∧ W.cell? ⟨w.heap.size, 2, none⟩ = some (.bool t.done) ∧
        W.cell? ⟨wt.heap.size, 0, none⟩ = some (.int .i64 t.sess) ∧ W.cell? ⟨wt.heap.size, 1, none⟩ = some (.slice A' t.ops.length t.ops.length) ∧ W.cell? ⟨wt.heap.size, 2, none⟩ = some (.bool t.done)) (first | exact ⟨q0, q1, q2, q3, q4, q5⟩ | exact ⟨hb.keep l0d q0, hb.keep l0d q1, hb.keep l0d q2, hb.keep l1d q3, hb.keep l1d q4, hb.keep l1d q5⟩ | go_keep)
      (first
      | (go_at_call 19; refine (toTxn_c t _ _ _ _ (hx.ext (by (repeat' (first | (with_reducible exact Below.refl _ _) | (with_reducible refine Below.trans ?_ (Below.mono (by assumption) ?_)) | (with_reducible refine Below.alloc ?_ ?_ _) | (with_reducible refine Below.drew ?_) | (with_reducible refine below_drewN ?_ _) | (with_reducible refine Below.setCell ?_ ?_ _) | (simp only [World.size_alloc, World.size_setCell, World.size_drew, size_drewN]; omega) | omega)))) hn).mono ?_; rintro e w1 ⟨A', rfl, hA', hf', hb⟩; obtain ⟨hc, hf, hz, hs⟩ := bcell hb; (try simp only [World.size_alloc, World.size_setCell, World.size_drew, size_drewN] at hs); (first | have l0 := Nat.lt_of_lt_of_le l0 (show _ ≤ w1.heap.size by omega) | have l0 : w.heap.size < w1.heap.size := (by omega) | skip); (try have l0e := Nat.le_of_lt l0); (try have l0f := Nat.le_add_right_of_le (k := 1) l0e); (try have l1 := Nat.lt_of_lt_of_le l1 (show _ ≤ w1.heap.size by omega)); (try have l1e := Nat.le_of_lt l1); (try have l1f := Nat.le_add_right_of_le (k := 1) l1e); (try have l2 := Nat.lt_of_lt_of_le l2 (show _ ≤ w1.heap.size by omega)); (try have l2e := Nat.le_of_lt l2); (try have l2f := Nat.le_add_right_of_le (k := 1) l2e); (try have l3 := Nat.lt_of_lt_of_le l3 (show _ ≤ w1.heap.size by omega)); (try have l3e := Nat.le_of_lt l3); (try have l3f := Nat.le_add_right_of_le (k := 1) l3e))
      | (go_at_call 21; refine (eqTxn_c t _ _ _ _ _ _ _ (Ops.ext (by assumption) (by (repeat' (first | (with_reducible exact Below.refl _ _) | (with_reducible refine Below.trans ?_ (Below.mono (by assumption) ?_)) | (with_reducible refine Below.alloc ?_ ?_ _) | (with_reducible refine Below.drew ?_) | (with_reducible refine below_drewN ?_ _) | (with_reducible refine Below.setCell ?_ ?_ _) | (simp only [World.size_alloc, World.size_setCell, World.size_drew, size_drewN]; omega) | omega)))) (Ops.ext (by assumption) (by (repeat' (first | (with_reducible exact Below.refl _ _) | (with_reducible refine Below.trans ?_ (Below.mono (by assumption) ?_)) | (with_reducible refine Below.alloc ?_ ?_ _) | (with_reducible refine Below.drew ?_) | (with_reducible refine below_drewN ?_ _) | (with_reducible refine Below.setCell ?_ ?_ _) | (simp only [World.size_alloc, World.size_setCell, World.size_drew, size_drewN]; omega) | omega)))) hn).mono ?_; rintro e w1 ⟨rfl, hb⟩; obtain ⟨hc, hf, hz, hs⟩ := bcell hb; (try simp only [World.size_alloc, World.size_setCell, World.size_drew, size_drewN] at hs); (first | have l0 := Nat.lt_of_lt_of_le l0 (show _ ≤ w1.heap.size by omega) | have l0 : w.heap.size < w1.heap.size := (by omega) | skip); (try have l0e := Nat.le_of_lt l0); (try have l0f := Nat.le_add_right_of_le (k := 1) l0e); (try have l1 := Nat.lt_of_lt_of_le l1 (show _ ≤ w1.heap.size by omega)); (try have l1e := Nat.le_of_lt l1); (try have l1f := Nat.le_add_right_of_le (k := 1) l1e); (try have l2 := Nat.lt_of_lt_of_le l2 (show _ ≤ w1.heap.size by omega)); (try have l2e := Nat.le_of_lt l2); (try have l2f := Nat.le_add_right_of_le (k := 1) l2e); (try have l3 := Nat.lt_of_lt_of_le l3 (show _ ≤ w1.heap.size by omega)); (try have l3e := Nat.le_of_lt l3); (try have l3f := Nat.le_add_right_of_le (k := 1) l3e)))
    go_wp2
    go_ret
    exact ⟨rfl, by (repeat' (first | (with_reducible exact Below.refl _ _) | (with_reducible refine Below.trans ?_ (Below.mono (by assumption) ?_)) | (with_reducible refine Below.alloc ?_ ?_ _) | (with_reducible refine Below.drew ?_) | (with_reducible refine below_drewN ?_ _) | (with_reducible refine Below.setCell ?_ ?_ _) | (simp only [World.size_alloc, World.size_setCell, World.size_drew, size_drewN]; omega) | omega))⟩

set_option maxRecDepth 100000 in
theorem FnExactTxnValid_lifted (os : Os) (started : os.Started) (H : Type) (enc : TypeId × Value → H) :
    ReturnsInHanded {} Try.checked os 6 .any (Rows.fnExactTxnValidSpec.pre6 enc Try.prog Try.f6 Rows.fnExactTxnValidRow.domain false) (Rows.fnExactTxnValidSpec.post enc Try.prog Try.f6 false true false false) := by
  refine returnsInHanded_of_change (C := Try.checked) Law.own started (by kernel_rfl) Try.func6
    (ChangeSpec.witness6 (enc := enc) (C := Try.checked) false ⟨#[], #[.agg #[.int .i64 0, .slice none 0 0, .bool false]], []⟩ 8 (by kernel_rfl) (by kernel_rfl) (by kernel_rfl) (by kernel_rfl)) ?_
  intro W base args ds gs before hval0 hW _ _
  have hval : ∀ (j : Nat) t v, Try.f6.params[j]? = some t → args[j]? = some v → Value.okWide Try.prog W .any base t v := hval0
  have hW' := hW
  obtain ⟨p, q, hA0, hV, rfl, hfz, hnd⟩ := hW
  have hA : DataW.TrodAll enc Try.prog W 0 (fun _ => true) true Try.f6.params.toList args.toList ds p := hA0
  rw [Try.params6] at hA hval
  obtain ⟨v0, vs0, d0, ds0, p0, q0, hargs, hds, rfl, h0, r0⟩ := trodAll_cons hA
  obtain ⟨rfl, rfl, rfl⟩ := trodAll_nil r0
  obtain rfl : args = #[v0] := by cases args; simp_all
  subst hds
  obtain ⟨x0, A0, c0, rfl, hO0, wf0⟩ := Law.open_txn Try.underlying38 (by kernel_rfl) (by kernel_rfl) Try.underlying3 Try.underlying36 Try.underlying4 Try.underlying24 (by kernel_rfl) (by kernel_rfl) Try.underlying3 Try.underlying3 Try.underlying3 (hval 0 38 v0 rfl rfl) h0
  refine (FnExactTxnValid_c x0 A0 c0 W hO0 wf0).mono fun e W' ⟨he, hb⟩ => ?_
  subst he
  refine ⟨_, rfl, Law.post_true Law.laidOut ?_ rfl rfl Try.underlying4 ⟨rfl, rfl, rfl⟩ hW' hb⟩
  intro t ht
  rw [Try.params6] at ht
  simp only [List.mem_cons, List.not_mem_nil, or_false] at ht
  first | (rcases ht with rfl <;> exact ⟨by kernel_rfl, of_decide_eq_true (by kernel_rfl)⟩)

theorem FnExactTxnValid_holds : Rows.FnExactTxnValidSaid :=
  OpenClaim.holds_of_wide 6 Try.f6 rfl rfl rfl rfl rfl rfl rfl ⟨rfl, rfl, rfl, rfl, rfl⟩ rfl rfl rfl rfl rfl (by kernel_rfl) Try.func6 (by kernel_rfl)
    (of_decide_eq_true (by kernel_rfl)) (by unfold Func.isWrapper; first | (rw [if_pos (by decide +kernel)]; kernel_rfl) | (rw [if_neg (by decide +kernel)]; exact ⟨rfl, rfl⟩))
    (fun os started H enc _ => FnExactTxnValid_lifted os started H enc)

end Go.Proofs.Ytnnoobpkgkfdaaa
