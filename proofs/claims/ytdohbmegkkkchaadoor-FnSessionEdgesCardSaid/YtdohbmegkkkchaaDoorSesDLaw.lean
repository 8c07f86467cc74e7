/-
  FnSessionEdges: a drawn history: the program's answer is the reference's; every edge leads to a later transaction of the same session, at most one from each.
-/
import Derived.Test.YtdohbmegkkkchaaDoorDrawHd
import Derived.Test.YtdohbmegkkkchaaDoorLaid
import Derived.Test.YtdohbmegkkkchaaDoorSesI
import Derived.Test.YtdohbmegkkkchaaDoorSame
import Derived.BigQuiet
namespace Go.Proofs.YtdohbmegkkkchaaDoor
set_option linter.unusedSimpArgs false
set_option linter.unusedVariables false
set_option maxRecDepth 100000
open Go.ChangeShapes Go.WideShapes Go.ChangeAt Go.RowKit Go.Joins

/-- an edge in the list -/
theorem ses_at {h : List TxnT} {i : Nat} {e : T3} (he : (sesV h)[i]? = some e) : ∃ (a b : Nat) (t u : TxnT), e = ⟨a, b, 4⟩ ∧ a < b ∧ b < h.length ∧ h[a]? = some t ∧ h[b]? = some u ∧ t.sess = u.sess := by
  obtain ⟨a, b, rfl, _, hA⟩ := (sesV_mem h e).1 (List.mem_of_getElem? he)
  obtain ⟨t, u, h1, h2, _, _, h3⟩ := hA.2.1
  exact ⟨a, b, t, u, rfl, hA.1, (adj_lt hA).2, h1, h2, h3⟩
theorem ses_up {h : List TxnT} {i : Nat} {x y : T3} (hx : (sesV h)[i]? = some x) (hy : (sesV h)[i + 1]? = some y) : x.a < y.a := by
  obtain ⟨p, q⟩ := List.getElem?_eq_some_iff.1 hx
  obtain ⟨p', q'⟩ := List.getElem?_eq_some_iff.1 hy
  have h1 := (List.pairwise_iff_getElem.1 (sesV_pw h)) i (i + 1) p p' (by omega)
  rw [q, q'] at h1
  obtain ⟨a, b, rfl, _, hA⟩ := (sesV_mem h x).1 (List.mem_of_getElem? hx)
  obtain ⟨a', b', rfl, _, hB⟩ := (sesV_mem h y).1 (List.mem_of_getElem? hy)
  unfold ltE at h1
  simp only at h1 ⊢
  by_cases e : a = a'
  · subst e
    have := adj_one hA hB
    omega
  · omega
set_option maxHeartbeats 4000000 in
theorem FnSessionEdges_c (xs : List Int) (A : Option Addr) (c : Nat) (w : World) (hx : Byts Any w A xs) (wf : Law.wfL Law.wfU8 xs) (hc : xs.length ≤ c) :
    Calls Tryd.prog 3 #[.slice A xs.length c] w fun e w' => e = .returned (.bool true) ∧ Ext w w' := by
  by_cases hl : 1048576 < xs.length
  · go_enter Tryd.func3, Tryd.ntmps3
    go_wp2
    go_ret
    exact ⟨rfl, by (repeat' (first | (with_reducible exact Below.refl _ _) | (with_reducible refine Below.mono (by assumption) ?_) | (with_reducible refine Below.trans ?_ (Below.mono (by assumption) ?_)) | (with_reducible refine Below.alloc ?_ ?_ _) | (with_reducible refine Below.drew ?_) | (with_reducible refine below_drewN ?_ _) | (with_reducible refine Below.setCell ?_ ?_ _) | (simp only [World.size_alloc, World.size_setCell, World.size_drew, size_drewN]; omega) | omega))⟩
  have HW : Hid (∀ x ∈ xs, 0 ≤ x ∧ x ≤ 255) := Lib.hid wf.2
  go_enter Tryd.func3, Tryd.ntmps3
  go_wp2_with (fail)
  go_at_call 8
  refine ((DrawSessionEdges_c xs A c _ (hx.ext (by (repeat' (first | (with_reducible exact Below.refl _ _) | (with_reducible refine Below.mono (by assumption) ?_) | (with_reducible refine Below.trans ?_ (Below.mono (by assumption) ?_)) | (with_reducible refine Below.alloc ?_ ?_ _) | (with_reducible refine Below.drew ?_) | (with_reducible refine below_drewN ?_ _) | (with_reducible refine Below.setCell ?_ ?_ _) | (simp only [World.size_alloc, World.size_setCell, World.size_drew, size_drewN]; omega) | omega)))) HW.out hc).mono (fun _ _ h => h.read)).mono ?_
  rintro e w1 ⟨h, A2, c2, rfl, hc2, hTx, hsmall, hb⟩
  obtain ⟨hc, hf, hz, hs⟩ := bcell hb
  (try simp only [World.size_alloc, World.size_setCell, World.size_drew, size_drewN] at hs); (first | have l0 := Nat.lt_of_lt_of_le l0 (show _ ≤ w1.heap.size by omega) | have l0 : w.heap.size < w1.heap.size := (by omega) | skip); (try have l0e := Nat.le_of_lt l0); (try have l0f := Nat.le_add_right_of_le (k := 1) l0e); (try have l1 := Nat.lt_of_lt_of_le l1 (show _ ≤ w1.heap.size by omega)); (try have l1e := Nat.le_of_lt l1); (try have l1f := Nat.le_add_right_of_le (k := 1) l1e); (try have l2 := Nat.lt_of_lt_of_le l2 (show _ ≤ w1.heap.size by omega)); (try have l2e := Nat.le_of_lt l2); (try have l2f := Nat.le_add_right_of_le (k := 1) l2e); (try have l3 := Nat.lt_of_lt_of_le l3 (show _ ≤ w1.heap.size by omega)); (try have l3e := Nat.le_of_lt l3); (try have l3f := Nat.le_add_right_of_le (k := 1) l3e)
  have E1 := Lib.hid (show Ext w w1 from hb)
  have hsm := hsmall.small
  have hsl := hsm.len
  have C := fun w hx => implSessionEdges_c h Any A2 c2 w hx hsm
  have D := fun w hx => specSessionEdges_c h Any A2 c2 w hx hsm
  have F : ∀ (i : Nat) e, (if histv h = true then sesV h else [])[i]? = some e → (∃ (a b : Nat) (t u : TxnT), e = ⟨a, b, 4⟩ ∧ a < b ∧ b < h.length ∧ h[a]? = some t ∧ h[b]? = some u ∧ t.sess = u.sess) ∧ (∀ e', 0 < i → (if histv h = true then sesV h else [])[i - 1]? = some e' → e'.a < e.a) := by
    intro i e he
    split at he
    · rename_i hv
      refine ⟨ses_at he, fun e' h0 he' => ?_⟩
      rw [if_pos hv] at he'
      exact ses_up he' (by rw [show i - 1 + 1 = i by omega]; exact he)
    · simp at he
  have hil : (if histv h = true then sesV h else []).length ≤ 1048576 := by
    have := sesV_len h
    split
    · omega
    · simp
  obtain ⟨L, hL⟩ : ∃ L, (if histv h = true then sesV h else []) = L := ⟨_, rfl⟩
  rw [hL] at C D F hil
  have HC := Lib.hid C
  have HD := Lib.hid D
  have HF := Lib.hid F
  have HX := Lib.hid (txns_any hTx)
  clear C D F hTx hL hb hc hf hz
  go_wp2_with (fail)
  go_at_call 9
  refine (HC.out _ HX.out).mono ?_
  rintro e w2 ⟨A3, c3, rfl, hI3, hf3, hb⟩
  obtain ⟨hc, hf, hz, hs⟩ := bcell hb
  (try simp only [World.size_alloc, World.size_setCell, World.size_drew, size_drewN] at hs); (first | have l0 := Nat.lt_of_lt_of_le l0 (show _ ≤ w2.heap.size by omega) | have l0 : w.heap.size < w2.heap.size := (by omega) | skip); (try have l0e := Nat.le_of_lt l0); (try have l0f := Nat.le_add_right_of_le (k := 1) l0e); (try have l1 := Nat.lt_of_lt_of_le l1 (show _ ≤ w2.heap.size by omega)); (try have l1e := Nat.le_of_lt l1); (try have l1f := Nat.le_add_right_of_le (k := 1) l1e); (try have l2 := Nat.lt_of_lt_of_le l2 (show _ ≤ w2.heap.size by omega)); (try have l2e := Nat.le_of_lt l2); (try have l2f := Nat.le_add_right_of_le (k := 1) l2e); (try have l3 := Nat.lt_of_lt_of_le l3 (show _ ≤ w2.heap.size by omega)); (try have l3e := Nat.le_of_lt l3); (try have l3f := Nat.le_add_right_of_le (k := 1) l3e)
  have E12 := Lib.hid (show Ext w1 w2 from hb)
  have HI2 := Lib.hid hI3
  clear hb hc hf hz hf3 hI3
  go_wp2_with (fail)
  go_at_call 11
  refine (HD.out _ (HX.out.ext E12.out)).mono ?_
  rintro e w3 ⟨A4, c4, rfl, hI4, hf4, hb⟩
  obtain ⟨hc, hf, hz, hs⟩ := bcell hb
  (try simp only [World.size_alloc, World.size_setCell, World.size_drew, size_drewN] at hs); (first | have l0 := Nat.lt_of_lt_of_le l0 (show _ ≤ w3.heap.size by omega) | have l0 : w.heap.size < w3.heap.size := (by omega) | skip); (try have l0e := Nat.le_of_lt l0); (try have l0f := Nat.le_add_right_of_le (k := 1) l0e); (try have l1 := Nat.lt_of_lt_of_le l1 (show _ ≤ w3.heap.size by omega)); (try have l1e := Nat.le_of_lt l1); (try have l1f := Nat.le_add_right_of_le (k := 1) l1e); (try have l2 := Nat.lt_of_lt_of_le l2 (show _ ≤ w3.heap.size by omega)); (try have l2e := Nat.le_of_lt l2); (try have l2f := Nat.le_add_right_of_le (k := 1) l2e); (try have l3 := Nat.lt_of_lt_of_le l3 (show _ ≤ w3.heap.size by omega)); (try have l3e := Nat.le_of_lt l3); (try have l3f := Nat.le_add_right_of_le (k := 1) l3e)
  have E13 := Lib.hid (E12.out.tr hb)
  have HI3 := Lib.hid (HI2.out.ext hb)
  clear HC HD hb hc hf hz hf4 HI2
  go_wp2_with (fail)
  go_at_call 10
  refine (sameEdges_c L _ _ _ _ _ _ _ HI3.out hI4 hil).mono ?_
  rintro e w4 ⟨rfl, hb⟩
  obtain ⟨hc, hf, hz, hs⟩ := bcell hb
  (try simp only [World.size_alloc, World.size_setCell, World.size_drew, size_drewN] at hs); (first | have l0 := Nat.lt_of_lt_of_le l0 (show _ ≤ w4.heap.size by omega) | have l0 : w.heap.size < w4.heap.size := (by omega) | skip); (try have l0e := Nat.le_of_lt l0); (try have l0f := Nat.le_add_right_of_le (k := 1) l0e); (try have l1 := Nat.lt_of_lt_of_le l1 (show _ ≤ w4.heap.size by omega)); (try have l1e := Nat.le_of_lt l1); (try have l1f := Nat.le_add_right_of_le (k := 1) l1e); (try have l2 := Nat.lt_of_lt_of_le l2 (show _ ≤ w4.heap.size by omega)); (try have l2e := Nat.le_of_lt l2); (try have l2f := Nat.le_add_right_of_le (k := 1) l2e); (try have l3 := Nat.lt_of_lt_of_le l3 (show _ ≤ w4.heap.size by omega)); (try have l3e := Nat.le_of_lt l3); (try have l3f := Nat.le_add_right_of_le (k := 1) l3e)
  have E14 := Lib.hid (E13.out.tr hb)
  have E4 := Lib.hid (E1.out.tr E14.out)
  have HI4 := Lib.hid (HI3.out.ext hb)
  clear hI4 HI3 hb hc hf hz
  go_wp2
  go_loopw [5] (fun i wr => ∃ k : Nat, k ≤ L.length ∧ i = .int .i64 k ∧ Ext w4 wr) (fun i _ => L.length - (intOf i).toNat)
  case atStart => exact ⟨0, Nat.zero_le _, rfl, Below.refl _ _⟩
  case round =>
    obtain ⟨k, hk, rfl, hE⟩ := hrel
    have hE0 := Lib.hid hE
    by_cases hlt : k < L.length
    · obtain ⟨x0, x1, x2, b, off, hxk, rfl, _, hb0, c0, c1, c2⟩ := (HI4.out.ext hE).at_ hlt
      obtain ⟨⟨a, b', t, u, e, hab, hbl, hta, htb, hss⟩, hprev⟩ := HF.out k _ hxk
      simp only [T3.mk.injEq] at e
      obtain ⟨rfl, rfl, rfl⟩ := e
      obtain ⟨s, ops, d, A', cap, b2, off2, hya, rfl, _, hb20, hO, d0, d1, d2⟩ := (HX.out.ext (E14.out.tr hE)).at_ (i := a) (by omega)
      obtain ⟨s', ops', d', A'', cap', b3, off3, hyb, e', _, hb30, hO', d0', d1', d2'⟩ := (HX.out.ext (E14.out.tr hE)).at_ (i := b') hbl
      simp only [Option.some.injEq, Addr.mk.injEq] at e'
      obtain ⟨rfl, rfl, _⟩ := e'
      rw [hta] at hya
      rw [htb] at hyb
      cases hya
      cases hyb
      simp only at hss
      subst hss
      clear hta htb hxk hO hO'
      have f1 : decide ((a : Int) < 0) = false := decide_eq_false (by omega)
      have f2 : decide ((b' : Int) ≤ (a : Int)) = false := decide_eq_false (by omega)
      have f2n : decide (b' ≤ a) = false := decide_eq_false (by omega)
      have f3 : decide ((h.length : Int) ≤ (b' : Int)) = false := decide_eq_false (by omega)
      have f3n : decide (h.length ≤ b') = false := decide_eq_false (by omega)
      have f4 : (k : Int) < L.length := by omega
      have f4a : (a : Int) < h.length := by omega
      have f4b : (b' : Int) < h.length := by omega
      by_cases hk0 : k = 0
      · subst hk0
        clear hprev
        have f5 : decide ((0 : Int) < ((0 : Nat) : Int)) = false := rfl
        simp only [Nat.zero_mul, Nat.add_zero] at c0 c1 c2
        go_wp2
        refine wp_region_quiet_lit (by kernel_rfl) (by kernel_rfl) ?_
        simp only [List.append_eq, List.cons_append, List.nil_append]
        repeat (go_big_quiet_step (fail))
        refine wpQuiet_nil ?_
        rintro _ ⟨nq, rfl⟩
        go_wp2
        go_roundw
        case measure => simp [intOf]; omega
        case rel => exact ⟨1, by omega, by go_num, below_drewN hE0.out _⟩
      · obtain ⟨y0, y1, y2, b5, off5, hyk, e5, _, hb50, g0, g1, g2⟩ := (HI4.out.ext hE).at_ (i := k - 1) (by omega)
        simp only [Option.some.injEq, Addr.mk.injEq] at e5
        obtain ⟨rfl, rfl, _⟩ := e5
        have hlt2 := hprev _ (by omega) hyk
        simp only at hlt2
        have hcast : ((k : Int) - 1).toNat = k - 1 := by omega
        have f5 : decide ((0 : Int) < (k : Int)) = true := decide_eq_true (by omega)
        have f5n : decide (0 < k) = true := decide_eq_true (by omega)
        have f6 : decide ((a : Int) ≤ y0) = false := decide_eq_false (by omega)
        have f7 : (k : Int) - 1 < L.length := by omega
        have f8 : (0 : Int) ≤ (k : Int) - 1 := by omega
        clear hyk hprev hk0
        go_wp2
        refine wp_region_quiet_lit (by kernel_rfl) (by kernel_rfl) ?_
        simp only [List.append_eq, List.cons_append, List.nil_append]
        repeat (go_big_quiet_step (fail))
        refine wpQuiet_nil ?_
        rintro _ ⟨nq, rfl⟩
        go_wp2
        go_roundw
        case measure => simp [intOf]; omega
        case rel => exact ⟨k + 1, by omega, by go_num, below_drewN hE0.out _⟩
    · obtain rfl : k = L.length := by omega
      go_wp2_with (fail)
      go_at_call 12
      refine (alive_c _).mono ?_
      rintro e w9 ⟨rfl, hb⟩
      obtain ⟨hc, hf, hz, hs⟩ := bcell hb
      (try simp only [World.size_alloc, World.size_setCell, World.size_drew, size_drewN] at hs); (first | have l0 := Nat.lt_of_lt_of_le l0 (show _ ≤ w9.heap.size by omega) | have l0 : w.heap.size < w9.heap.size := (by omega) | skip); (try have l0e := Nat.le_of_lt l0); (try have l0f := Nat.le_add_right_of_le (k := 1) l0e); (try have l1 := Nat.lt_of_lt_of_le l1 (show _ ≤ w9.heap.size by omega)); (try have l1e := Nat.le_of_lt l1); (try have l1f := Nat.le_add_right_of_le (k := 1) l1e); (try have l2 := Nat.lt_of_lt_of_le l2 (show _ ≤ w9.heap.size by omega)); (try have l2e := Nat.le_of_lt l2); (try have l2f := Nat.le_add_right_of_le (k := 1) l2e); (try have l3 := Nat.lt_of_lt_of_le l3 (show _ ≤ w9.heap.size by omega)); (try have l3e := Nat.le_of_lt l3); (try have l3f := Nat.le_add_right_of_le (k := 1) l3e)
      go_wp2
      go_ret
      exact ⟨rfl, (E4.out.tr hE0.out).tr hb⟩

theorem FnSessionEdges_reads (os : Os) {H : Type} (enc : TypeId × Value → H) : ∃ places, DataW.whole enc Tryd.prog ((Law.laidWorld os).forCall (fun _ _ => 0) ⟨#[], #[.slice none 0 0], []⟩).memory Tryd.f3.params.toList Rows.fnSessionEdgesSpec.vars false (#[.slice none 0 0] : Array Value).toList 8 = some ([.nil], [], places) :=
  ⟨[], by kernel_rfl⟩
theorem FnSessionEdges_laid (os : Os) : laidMet Tryd.prog Rows.fnSessionEdgesRow.laid ((Law.laidWorld os).forCall (fun _ _ => 0) ⟨#[], #[.slice none 0 0], []⟩).memory :=
  laidMet_of_run' 8 (by kernel_rfl) (by kernel_rfl)
set_option maxRecDepth 100000 in
theorem FnSessionEdges_lifted (os : Os) (started : os.Started) (H : Type) (enc : TypeId × Value → H) (F : Stop.Interp) :
    ReturnsInHanded {} Tryd.checked os 3 .any ((OpenSpec.ofChange Rows.fnSessionEdgesSpec).preRow enc Tryd.prog Tryd.f3 Rows.fnSessionEdgesRow.domain false Rows.fnSessionEdgesRow.laid) (((OpenSpec.ofChange Rows.fnSessionEdgesSpec).at F).post enc Tryd.prog Tryd.f3 false true false false) := by
  obtain ⟨places, hx⟩ := FnSessionEdges_reads os enc
  refine returnsInHanded_of_row (C := Tryd.checked) (s := OpenSpec.ofChange Rows.fnSessionEdgesSpec) Law.own started (by kernel_rfl) Tryd.func3
    (witness_row_at (enc := enc) (C := Tryd.checked) false (Law.laidWorld os) #[.slice none 0 0] rfl (by kernel_rfl) (by kernel_rfl) (by kernel_rfl)
      (OpenSpec.preRow_of_cond 8 hx (by kernel_rfl) (fun k hk => by cases hk) (by kernel_rfl) (FnSessionEdges_laid os))) ?_
  intro W base args ds gs before hval0 hW _ _ _ hLaid _ _
  have hval : ∀ (j : Nat) t v, Tryd.f3.params[j]? = some t → args[j]? = some v → Value.okWide Tryd.prog W .any base t v := hval0
  have hW' := hW
  obtain ⟨p, q, hA0, hV, rfl, hfz, hnd⟩ := hW
  have hA : DataW.TrodAll enc Tryd.prog W 0 (fun _ => true) true Tryd.f3.params.toList args.toList ds p := hA0
  rw [Tryd.params3] at hA hval
  obtain ⟨v0, vs0, d0, ds0, p0, q0, hargs, hds, rfl, h0, r0⟩ := trodAll_cons hA
  obtain ⟨rfl, rfl, rfl⟩ := trodAll_nil r0
  obtain rfl : args = #[v0] := by cases args; simp_all
  subst hds
  obtain ⟨x0, A0, c0, rfl, hO0, wf0⟩ := Law.open_bytes Tryd.underlying22 Tryd.underlying5 (by kernel_rfl) (hval 0 22 v0 rfl rfl) h0
  refine (FnSessionEdges_c x0 A0 c0 W hO0 wf0 (Law.bytes_cap Tryd.underlying22 (hval 0 22 _ rfl rfl))).mono fun e W' ⟨he, hb⟩ => ?_
  subst he
  refine ⟨_, rfl, Law.post_true Law.laidOut ?_ rfl rfl Tryd.underlying4 ⟨rfl, rfl, rfl⟩ hW' hb⟩
  intro t ht
  rw [Tryd.params3] at ht
  simp only [List.mem_cons, List.not_mem_nil, or_false] at ht
  first | (rcases ht with rfl <;> exact ⟨by kernel_rfl, of_decide_eq_true (by kernel_rfl)⟩)

theorem FnSessionEdges_holds : Rows.FnSessionEdgesSaid :=
  OpenClaim.holds_of_cond 3 Tryd.f3 rfl rfl rfl rfl rfl rfl rfl ⟨rfl, rfl, rfl, rfl, rfl⟩ rfl rfl rfl rfl rfl (by kernel_rfl) Tryd.func3 (by kernel_rfl)
    (of_decide_eq_true (by kernel_rfl)) (by unfold Func.isWrapper; first | (rw [if_pos (by decide +kernel)]; kernel_rfl) | (rw [if_neg (by decide +kernel)]; exact ⟨rfl, rfl⟩))
    (fun os started H enc _ F => by rw [OpenClaim.pre_eq_preRow]; exact FnSessionEdges_lifted os started H enc F)
theorem FnSessionEdges_plain (f : FuncId) (fn : Func) (hf : Tryd.pinned.checked.prog.funcNamed Rows.fnSessionEdgesRow.func = some f) (hfn : Tryd.pinned.checked.prog.funcs[f]? = some fn) :
    false = Tryd.pinned.checked.prog.looks [] ∧ ∀ (j : Nat) t, fn.params[j]? = some t → Tryd.pinned.checked.prog.wantsStandIn t = false := by
  obtain rfl : f = 3 := Option.some.inj ((show Tryd.prog.funcNamed Rows.fnSessionEdgesRow.func = some 3 by kernel_rfl).symm.trans hf) |>.symm
  obtain rfl : fn = Tryd.f3 := (Option.some.inj (Tryd.func3.symm.trans hfn)).symm
  refine ⟨by kernel_rfl, fun j t ht => ?_⟩
  rw [Tryd.params3] at ht
  have hm := Array.mem_of_getElem? ht
  simp only [List.mem_toArray, List.mem_cons, List.not_mem_nil, or_false] at hm
  rcases hm with rfl
  · exact (show Tryd.prog.wantsStandIn 22 = false by kernel_rfl)
theorem FnSessionEdges_card : Rows.FnSessionEdgesCardSaid :=
  Claim7.holds_tied_plain_at .later [] _ _ _ _ FnSessionEdges_holds (fun _ h => by cases h) (by kernel_rfl) (fun _ h => by cases h) fnSessionEdges_row_tie rfl ⟨rfl, rfl⟩ (by kernel_rfl) rfl FnSessionEdges_plain (by kernel_rfl)

end Go.Proofs.YtdohbmegkkkchaaDoor
