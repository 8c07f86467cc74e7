/-
  The draw of an order of committed transactions.
-/
import Derived.Test.YtdgfipoibnjhaaaDoorFndS
import Derived.Test.YtdgfipoibnjhaaaDoorFndI
import Derived.Test.YtdgfipoibnjhaaaDoorGFndO29
import Derived.Test.YtdgfipoibnjhaaaDoorDoneB
import Derived.Test.YtdgfipoibnjhaaaDoorDrawHd
import Derived.Test.YtdgfipoibnjhaaaDoorGCaps37
import Derived.Deep.CutRange
import Derived.Deep.CutBlock
import Derived.Deep.QuietTactic
import Derived.BigQuiet
namespace Go.Proofs.YtdgfipoibnjhaaaDoor
set_option linter.unusedSimpArgs false
set_option linter.unusedVariables false
set_option maxRecDepth 100000
open Go.RowKit

/-- what the draw of an order keeps -/
structure Od (w : World) (r P : Nat) (v : Value) (ys : List Int) (W : World) : Prop where
  o : Own1 W w.heap.size 3 v ys
  rd : RdrB W r P
  gr : w.grownBy W (some r)
  lr : r < w.heap.size
theorem Od.more {w W : World} {r P P' : Nat} {v : Value} {ys : List Int} (h : Od w r P v ys W) (hp : P ≤ P') : Od w r P' v ys W := { h with rd := h.rd.mono hp }
theorem Od.ext {w W W' : World} {r P : Nat} {v : Value} {ys : List Int} (h : Od w r P v ys W) (hE : Ext W W') : Od w r P v ys W' := ⟨h.o.ext hE, h.rd.ext hE, grown_trans h.gr (grown_ext hE _), h.lr⟩
theorem Od.pick {w W W' : World} {r P P' : Nat} {v : Value} {ys : List Int} (h : Od w r P v ys W) (hG : W.grownBy W' (some r)) (hR : RdrB W' r P') : Od w r P' v ys W' := by
  have hlr := h.lr
  refine ⟨World.ownsRow.kept h.o hG ?_, hR, grown_trans h.gr hG, hlr⟩
  cases e : v.ownBlock with
  | none => exact .inl rfl
  | some g =>
    have := (World.ownsRow.lt h.o g e).1
    exact .inr (fun e => by have := Option.some.inj e; omega)
theorem Od.put {w W : World} {r P g n c j : Nat} {ys : List Int} (h : Od w r P (.slice (some ⟨g, 0, none⟩) n c) ys W) (hj : j < ys.length) (x : Int) : Od w r P (.slice (some ⟨g, 0, none⟩) n c) (ys.set j x) (W.setCell ⟨g, j, none⟩ (.int .i64 x)) := by
  have hlr := h.lr
  have hgb := (World.ownsRow.lt h.o g rfl).1
  have hg : W.grownBy (W.setCell ⟨g, j, none⟩ (.int .i64 x)) (some g) := grown_set _
  exact ⟨h.o.set_ hj x, h.rd.grown hg (fun g' e => by have := Option.some.inj e; omega), grown_sub h.gr hg (fun g' e => by have := Option.some.inj e; omega), hlr⟩
theorem Od.at_ {w W : World} {r P g n c j : Nat} {ys : List Int} {x : Int} (h : Od w r P (.slice (some ⟨g, 0, none⟩) n c) ys W) (hj : ys[j]? = some x) : W.cell? ⟨g, j, none⟩ = some (.int .i64 x) ∧ W.frozen? ⟨g, j, none⟩ = false := by
  have hjl := (List.getElem?_eq_some_iff.1 hj).1
  obtain ⟨A0, c0, hv, _⟩ := h.o.form
  simp only [Value.slice.injEq] at hv
  obtain ⟨rfl, rfl, rfl⟩ := hv
  refine ⟨?_, World.ownsRow.frozenAt h.o j⟩
  rw [World.ownsRow.cellAt h.o j (by simp; omega)]
  simp [flat1, hj]
theorem Od.app {w W W' : World} {r P : Nat} {v v' : Value} {ys zs : List Int} (h : Od w r P v ys W) (ho : Own1 W' w.heap.size 3 v' zs) (hg : W.grownBy W' v.ownBlock) : Od w r P v' zs W' := by
  have hlr := h.lr
  refine ⟨ho, h.rd.grown hg (fun g e => ?_), grown_sub h.gr hg (fun g e => (World.ownsRow.lt h.o g e).1), hlr⟩
  have := (World.ownsRow.lt h.o g e).1
  omega
/-- a drawn order -/
def DrawnL (w : World) (r P : Nat) (e : Ending) (W : World) : Prop := ∃ (ys : List Int) (A : Option Addr) (c : Nat), e = .returned (.slice A ys.length c) ∧ ys.length ≤ c ∧ Ints (fun b => w.heap.size ≤ b) W A ys ∧ ys.length ≤ 101 ∧ RdrB W r P ∧ w.grownBy W (some r)
theorem Od.fin {w W : World} {r P P' : Nat} {v : Value} {ys : List Int} (h : Od w r P v ys W) (hp : P ≤ P') (hl : ys.length ≤ 101) : DrawnL w r P' (.returned v) W := by
  obtain ⟨A, c, rfl, hI, hle⟩ := own1_capF h.o
  exact ⟨ys, A, c, rfl, hle, hI, hl, h.rd.mono hp, h.gr⟩
set_option maxHeartbeats 8000000 in
theorem l20Order_c (h : List TxnT) (lo : Nat) (A : Option Addr) (c : Nat) (r P : Nat) (w : World) (hx : Txns (fun b => lo ≤ b) w A h) (hlo : r < lo) (hsm : Small h) (hh : h.length ≤ 100) (hR : RdrB w r P) (hP : P ≤ 1000) :
    Calls Tryd.prog 47 #[.pointer (some ⟨r, 0, none⟩), .slice A h.length c] w (DrawnL w r (P + 5)) := by
  have CF := Lib.hid (fun w hx => specFindSerial_b h (fun b => lo ≤ b) A c w hx hsm)
  have CD := fun w hx => specDoneTxns_b h (fun b => lo ≤ b) A c w hx hsm
  have hdl : (if histv h = true then dnT h h.length else []).length ≤ 100 := by
    have := dnT_len h h.length
    split
    · omega
    · simp
  generalize (if histv h = true then dnT h h.length else []) = D at CD hdl
  have CD := Lib.hid CD
  have hfl : ((fndV h).getD []).length ≤ 100 := by
    cases e : fndV h with
    | none => simp
    | some ys =>
      have h1 := (fndV_ok e).2.1
      have h2 := ((l7v_perm (dnT_nodup (h := h) h.length)).1 h1).length_eq
      have h3 := dnT_len h h.length
      simp only [Option.getD_some]
      omega
  have hrl := hR.lt
  have HX := Lib.hid hx
  have HR := Lib.hid hR
  clear hx hR
  go_enter Tryd.func47, Tryd.ntmps47
  go_wp2_with (fail)
  go_at_call 86
  refine (CF.out _ (HX.out.ext (by (repeat' (first | (with_reducible exact Below.refl _ _) | (with_reducible refine Below.mono (by assumption) ?_) | (with_reducible refine Below.trans ?_ (Below.mono (by assumption) ?_)) | (with_reducible refine Below.alloc ?_ ?_ _) | (with_reducible refine Below.drew ?_) | (with_reducible refine below_drewN ?_ _) | (with_reducible refine Below.setCell ?_ ?_ _) | (simp only [World.size_alloc, World.size_setCell, World.size_drew, size_drewN]; omega) | omega))))).mono ?_
  rintro e w1 ⟨A2, c2, rfl, hI, hb, b2, o2, rfl⟩
  obtain ⟨hc, hf, hz, hs⟩ := bcell hb
  (try simp only [World.size_alloc, World.size_setCell, World.size_drew, size_drewN] at hs); (first | have l0 := Nat.lt_of_lt_of_le l0 (show _ ≤ w1.heap.size by omega) | have l0 : w.heap.size < w1.heap.size := (by omega) | skip); (try have l0e := Nat.le_of_lt l0); (try have l0f := Nat.le_add_right_of_le (k := 1) l0e); (try have l1 := Nat.lt_of_lt_of_le l1 (show _ ≤ w1.heap.size by omega)); (try have l1e := Nat.le_of_lt l1); (try have l1f := Nat.le_add_right_of_le (k := 1) l1e); (try have l2 := Nat.lt_of_lt_of_le l2 (show _ ≤ w1.heap.size by omega)); (try have l2e := Nat.le_of_lt l2); (try have l2f := Nat.le_add_right_of_le (k := 1) l2e); (try have l3 := Nat.lt_of_lt_of_le l3 (show _ ≤ w1.heap.size by omega)); (try have l3e := Nat.le_of_lt l3); (try have l3f := Nat.le_add_right_of_le (k := 1) l3e)
  have hE1 : Ext w w1 := by (repeat' (first | (with_reducible exact Below.refl _ _) | (with_reducible refine Below.mono (by assumption) ?_) | (with_reducible refine Below.trans ?_ (Below.mono (by assumption) ?_)) | (with_reducible refine Below.alloc ?_ ?_ _) | (with_reducible refine Below.drew ?_) | (with_reducible refine below_drewN ?_ _) | (with_reducible refine Below.setCell ?_ ?_ _) | (simp only [World.size_alloc, World.size_setCell, World.size_drew, size_drewN]; omega) | omega))
  have HE1 := Lib.hid hE1
  have HI := Lib.hid hI
  have HR1 := Lib.hid (HR.out.ext hE1)
  have hz1 := hE1.size
  generalize (fndV h).getD [] = F at HI hfl ⊢
  generalize (fndV h).isSome = ok
  clear hI hb hc hf hz hE1 CF
  go_upto_region 2 with (fail)
  go_cut [20] from 9 to 63 (fun v W => ∃ bb : Bool, v = .bool bb ∧ RdrB W r (P + 1) ∧ w1.grownBy W (some r))
  case first =>
    cases ok with
    | false =>
      go_wp2
      go_meet
      exact ⟨_, rfl, HR1.out.mono (by omega), grown_refl _ _⟩
    | true =>
      go_wp2_with (fail)
      go_at_call 65
      refine (pick_c r P 3 _ HR1.out (by omega) (by omega) (by omega)).mono ?_
      rintro e w2 ⟨z, rfl, hz3, hR2, hG2⟩
      obtain ⟨hc, hf, hz, hs⟩ := gcell hG2
      (try simp only [World.size_alloc, World.size_setCell, World.size_drew, size_drewN] at hs); (first | have l0 := Nat.lt_of_lt_of_le l0 (show _ ≤ w2.heap.size by omega) | have l0 : w.heap.size < w2.heap.size := (by omega) | skip); (try have l0e := Nat.le_of_lt l0); (try have l0f := Nat.le_add_right_of_le (k := 1) l0e); (try have l1 := Nat.lt_of_lt_of_le l1 (show _ ≤ w2.heap.size by omega)); (try have l1e := Nat.le_of_lt l1); (try have l1f := Nat.le_add_right_of_le (k := 1) l1e); (try have l2 := Nat.lt_of_lt_of_le l2 (show _ ≤ w2.heap.size by omega)); (try have l2e := Nat.le_of_lt l2); (try have l2f := Nat.le_add_right_of_le (k := 1) l2e); (try have l3 := Nat.lt_of_lt_of_le l3 (show _ ≤ w2.heap.size by omega)); (try have l3e := Nat.le_of_lt l3); (try have l3f := Nat.le_add_right_of_le (k := 1) l3e)
      go_wp2
      go_meet
      exact ⟨_, rfl, hR2, hG2⟩
  case rest =>
  obtain ⟨bb, rfl, hR2, hG2⟩ := hcut
  have HR2 := Lib.hid hR2
  have HG2 := Lib.hid hG2
  have HGw := Lib.hid (grown_trans (grown_ext HE1.out (some r)) hG2)
  have HI2 := Lib.hid (show Ints (fun b => w.heap.size ≤ b) wc (some ⟨b2, o2, none⟩) F from Ints.grown HI.out hG2 (fun b hb _ he => by have := Option.some.inj he; omega))
  have hzc := HGw.out.size
  have HXc := Lib.hid (txns_pick (HX.out.ext HE1.out) hG2 hlo)
  clear hR2 hG2 HI
  go_upto_if 20 with (fail)
  go_cut [5] from 9 to 63 (fun v W => ∃ (ys : List Int) (b o c : Nat), v = .slice (some ⟨b, o, none⟩) ys.length c ∧ Ints (fun b => w.heap.size ≤ b) W (some ⟨b, o, none⟩) ys ∧ ys.length ≤ 100 ∧ RdrB W r (P + 1) ∧ w.grownBy W (some r))
  case first =>
    cases bb with
    | false =>
      go_wp2
      go_meet
      exact ⟨F, b2, o2, c2, rfl, HI2.out, hfl, HR2.out, HGw.out⟩
    | true =>
      go_wp2_with (fail)
      go_at_call 50
      refine (CD.out _ HXc.out).mono ?_
      rintro e w3 ⟨v, rfl, hO, hvb, hb⟩
      obtain ⟨hc, hf, hz, hs⟩ := bcell hb
      (try simp only [World.size_alloc, World.size_setCell, World.size_drew, size_drewN] at hs); (first | have l0 := Nat.lt_of_lt_of_le l0 (show _ ≤ w3.heap.size by omega) | have l0 : w.heap.size < w3.heap.size := (by omega) | skip); (try have l0e := Nat.le_of_lt l0); (try have l0f := Nat.le_add_right_of_le (k := 1) l0e); (try have l1 := Nat.lt_of_lt_of_le l1 (show _ ≤ w3.heap.size by omega)); (try have l1e := Nat.le_of_lt l1); (try have l1f := Nat.le_add_right_of_le (k := 1) l1e); (try have l2 := Nat.lt_of_lt_of_le l2 (show _ ≤ w3.heap.size by omega)); (try have l2e := Nat.le_of_lt l2); (try have l2f := Nat.le_add_right_of_le (k := 1) l2e); (try have l3 := Nat.lt_of_lt_of_le l3 (show _ ≤ w3.heap.size by omega)); (try have l3e := Nat.le_of_lt l3); (try have l3f := Nat.le_add_right_of_le (k := 1) l3e)
      obtain ⟨A3, c3, rfl, hI3, hle3⟩ := own1_capF hO
      have HF := Lib.hid (show ∃ (ys : List Int) (b o c : Nat), Value.slice A3 D.length c3 = .slice (some ⟨b, o, none⟩) ys.length c ∧ Ints (fun b => w.heap.size ≤ b) w3 (some ⟨b, o, none⟩) ys ∧ ys.length ≤ 100 ∧ RdrB w3 r (P + 1) ∧ w.grownBy w3 (some r) from by
        obtain ⟨g3, hg3⟩ := hvb
        cases A3 with
        | none => cases hg3
        | some a =>
          rcases hO.2 with ⟨hv, _⟩ | ⟨g, cap, cur, hv, _⟩
          · cases hv
          · simp only [Value.slice.injEq, Option.some.injEq] at hv
            obtain ⟨rfl, _, _⟩ := hv
            exact ⟨D, g, 0, c3, rfl, SlAt.mono hI3 (fun b hb _ => Nat.le_trans hzc hb) (fun _ _ h => h), hdl, HR2.out.ext hb, grown_trans HGw.out (grown_ext hb _)⟩)
      clear hO hI3 hvb hb hc hf hz
      go_wp2
      go_meet
      exact HF.out
  case rest =>
  obtain ⟨ys, b, o, cc, rfl, hI, hyl, hR3, hG3⟩ := hcut
  have HI := Lib.hid hI
  have HR3 := Lib.hid hR3
  have HG3 := Lib.hid hG3
  have hz3 := hG3.size
  clear hI hR3 hG3 HI2 HR2 HGw HXc HR1 HE1 hzc hz1
  obtain ⟨wo, hwo⟩ : ∃ wo, wo = wc := ⟨_, rfl⟩
  subst hwo
  have hO : Own1 (wo.alloc (.cells #[] 3)) w.heap.size 3 (.slice (some ⟨wo.heap.size, 0, none⟩) 0 0) [] := Own1.made wo #[] 0 rfl hz3 (by omega) rfl
  have hOd : Od w r (P + 1) (.slice (some ⟨wo.heap.size, 0, none⟩) 0 0) [] (wo.alloc (.cells #[] 3)) := ⟨hO, HR3.out.ext (by (repeat' (first | (with_reducible exact Below.refl _ _) | (with_reducible refine Below.mono (by assumption) ?_) | (with_reducible refine Below.trans ?_ (Below.mono (by assumption) ?_)) | (with_reducible refine Below.alloc ?_ ?_ _) | (with_reducible refine Below.drew ?_) | (with_reducible refine below_drewN ?_ _) | (with_reducible refine Below.setCell ?_ ?_ _) | (simp only [World.size_alloc, World.size_setCell, World.size_drew, size_drewN]; omega) | omega))), grown_trans HG3.out (grown_ext (show Ext wo _ from by (repeat' (first | (with_reducible exact Below.refl _ _) | (with_reducible refine Below.mono (by assumption) ?_) | (with_reducible refine Below.trans ?_ (Below.mono (by assumption) ?_)) | (with_reducible refine Below.alloc ?_ ?_ _) | (with_reducible refine Below.drew ?_) | (with_reducible refine below_drewN ?_ _) | (with_reducible refine Below.setCell ?_ ?_ _) | (simp only [World.size_alloc, World.size_setCell, World.size_drew, size_drewN]; omega) | omega))) _), hrl⟩
  have HOd := Lib.hid hOd
  clear hO hOd
  go_wp2_with (at_builtin; go_loud (refine wpList_app1n _ rfl _ _ rfl w.heap.size _ [] rfl HOd.out.o (fun b => w.heap.size ≤ b) b o ys.length cc ys rfl rfl (HI.out.ext (by (repeat' (first | (with_reducible exact Below.refl _ _) | (with_reducible refine Below.mono (by assumption) ?_) | (with_reducible refine Below.trans ?_ (Below.mono (by assumption) ?_)) | (with_reducible refine Below.alloc ?_ ?_ _) | (with_reducible refine Below.drew ?_) | (with_reducible refine below_drewN ?_ _) | (with_reducible refine Below.setCell ?_ ?_ _) | (simp only [World.size_alloc, World.size_setCell, World.size_drew, size_drewN]; omega) | omega)))) ?_ ?_ ?_))
  · simp only [List.length_nil]; omega
  · simp only [World.size_alloc]; omega
  · intro v' w4 hown' hgrow hat
    have hOd4 := HOd.out.app hown' hgrow
    try rw [List.nil_append] at hOd4
    have hvb : HasB v' := by
      rcases hat with e | e
      · exact ⟨_, e.trans rfl⟩
      · exact ⟨_, e⟩
    obtain ⟨A4, c4, hv4, _, hle4⟩ := own1_capF hOd4.o
    subst hv4
    obtain ⟨g4, rfl⟩ : ∃ g4, A4 = some ⟨g4, 0, none⟩ := by
      obtain ⟨g3, hg3⟩ := hvb
      rcases hOd4.o.2 with ⟨hv, _⟩ | ⟨g, cap, cur, hv, _⟩
      · simp only [Value.slice.injEq] at hv
        rw [hv.1] at hg3
        cases hg3
      · simp only [Value.slice.injEq] at hv
        exact ⟨g, hv.1⟩
    have HOd4 := Lib.hid hOd4
    clear hown' hgrow hat hOd4 hvb HOd
    go_upto_region 5 with (fail)
    go_cut [33] from 9 to 63 (fun v W => ∃ bb : Bool, v = .bool bb ∧ (bb = true → 1 < ys.length) ∧ Od w r (P + 2) (.slice (some ⟨g4, 0, none⟩) ys.length c4) ys W)
    case first =>
      by_cases h1 : 1 < ys.length
      · have h1i : (1 : Int) < ys.length := by omega
        go_wp2_with (fail)
        go_at_call 65
        refine (pick_c r (P + 1) 3 _ HOd4.out.rd (by omega) (by omega) (by omega)).mono ?_
        rintro e w5 ⟨z, rfl, hz3', hR5, hG5⟩
        obtain ⟨hc, hf, hz, hs⟩ := gcell hG5
        (try simp only [World.size_alloc, World.size_setCell, World.size_drew, size_drewN] at hs); (first | have l0 := Nat.lt_of_lt_of_le l0 (show _ ≤ w5.heap.size by omega) | have l0 : w.heap.size < w5.heap.size := (by omega) | skip); (try have l0e := Nat.le_of_lt l0); (try have l0f := Nat.le_add_right_of_le (k := 1) l0e); (try have l1 := Nat.lt_of_lt_of_le l1 (show _ ≤ w5.heap.size by omega)); (try have l1e := Nat.le_of_lt l1); (try have l1f := Nat.le_add_right_of_le (k := 1) l1e); (try have l2 := Nat.lt_of_lt_of_le l2 (show _ ≤ w5.heap.size by omega)); (try have l2e := Nat.le_of_lt l2); (try have l2f := Nat.le_add_right_of_le (k := 1) l2e); (try have l3 := Nat.lt_of_lt_of_le l3 (show _ ≤ w5.heap.size by omega)); (try have l3e := Nat.le_of_lt l3); (try have l3f := Nat.le_add_right_of_le (k := 1) l3e)
        have HF := Lib.hid (HOd4.out.pick hG5 hR5)
        clear hR5 hG5 hc hf hz
        go_wp2
        go_meet
        exact ⟨_, rfl, fun _ => h1, HF.out⟩
      · have h1i : ¬ ((1 : Int) < ys.length) := by omega
        go_wp2
        go_meet
        exact ⟨false, rfl, (fun h => by cases h), HOd4.out.more (by omega)⟩
    case rest =>
    obtain ⟨bb, rfl, hbb, hod⟩ := hcut
    have HOd5 := Lib.hid hod
    clear hod HOd4
    go_upto_if 33 with (fail)
    go_cut [] from 7 to 63 (fun W => ∃ zs : List Int, zs.length = ys.length ∧ Od w r (P + 3) (.slice (some ⟨g4, 0, none⟩) ys.length c4) zs W)
    case first =>
      cases bb with
      | false =>
        go_wp2
        go_meet
        exact ⟨ys, rfl, HOd5.out.more (by omega)⟩
      | true =>
        have h1 := hbb rfl
        go_wp2_with (fail)
        go_at_call 65
        refine (pick_c r (P + 2) ((ys.length : Int) - 1) _ HOd5.out.rd (by omega) (by omega) (by omega)).mono ?_
        rintro e w6 ⟨z, rfl, hzl, hR6, hG6⟩
        obtain ⟨hc, hf, hz, hs⟩ := gcell hG6
        (try simp only [World.size_alloc, World.size_setCell, World.size_drew, size_drewN] at hs); (first | have l0 := Nat.lt_of_lt_of_le l0 (show _ ≤ w6.heap.size by omega) | have l0 : w.heap.size < w6.heap.size := (by omega) | skip); (try have l0e := Nat.le_of_lt l0); (try have l0f := Nat.le_add_right_of_le (k := 1) l0e); (try have l1 := Nat.lt_of_lt_of_le l1 (show _ ≤ w6.heap.size by omega)); (try have l1e := Nat.le_of_lt l1); (try have l1f := Nat.le_add_right_of_le (k := 1) l1e); (try have l2 := Nat.lt_of_lt_of_le l2 (show _ ≤ w6.heap.size by omega)); (try have l2e := Nat.le_of_lt l2); (try have l2f := Nat.le_add_right_of_le (k := 1) l2e); (try have l3 := Nat.lt_of_lt_of_le l3 (show _ ≤ w6.heap.size by omega)); (try have l3e := Nat.le_of_lt l3); (try have l3f := Nat.le_add_right_of_le (k := 1) l3e)
        have hzl := hzl (by omega)
        have hod6 := HOd5.out.pick hG6 hR6
        obtain ⟨x, hx0⟩ : ∃ x, ys[z]? = some x := ⟨ys[z]'(by omega), List.getElem?_eq_getElem _⟩
        obtain ⟨y, hy0⟩ : ∃ y, ys[z + 1]? = some y := ⟨ys[z + 1]'(by omega), List.getElem?_eq_getElem _⟩
        obtain ⟨d0, f0⟩ := hod6.at_ hx0
        obtain ⟨d1, f1⟩ := hod6.at_ hy0
        have hod7 := hod6.put (j := z) (by omega) y
        obtain ⟨d2, f2⟩ := hod7.at_ (j := z + 1) (x := y) (by rw [List.getElem?_set_ne (by omega)]; exact hy0)
        have hod8 := hod7.put (j := z + 1) (by rw [List.length_set]; omega) x
        have HOd8 := Lib.hid hod8
        have hk0 : (0 : Int) ≤ (z : Int) := by omega
        have hk1 : (z : Int) < (ys.length : Int) := by omega
        have hk2 : (0 : Int) ≤ (z : Int) + 1 := by omega
        have hk3 : (z : Int) + 1 < (ys.length : Int) := by omega
        clear hod6 hod7 hod8 hx0 hy0 hR6 hG6 hc hf hz
        go_upto_region 9 with (fail)
        generalize w6.setCell ⟨g4, z, none⟩ (.int .i64 y) = w7 at d2 f2 HOd8 ⊢
        go_wp2
        go_meet
        exact ⟨_, by simp, HOd8.out.more (by omega)⟩
    case rest =>
    obtain ⟨zs, hzl, hod⟩ := hcut
    have HOd6 := Lib.hid hod
    have HZl := Lib.hid hzl
    have hzs : zs.length ≤ 100 := by omega
    clear hod HOd5 hzl
    go_wp2_with (fail)
    go_at_call 72
    refine (odd_c r (P + 3) 9 _ HOd6.out.rd (by omega) (by omega) (by omega)).mono ?_
    rintro e w7 ⟨b9, rfl, hR7, hG7⟩
    obtain ⟨hc, hf, hz, hs⟩ := gcell hG7
    (try simp only [World.size_alloc, World.size_setCell, World.size_drew, size_drewN] at hs); (first | have l0 := Nat.lt_of_lt_of_le l0 (show _ ≤ w7.heap.size by omega) | have l0 : w.heap.size < w7.heap.size := (by omega) | skip); (try have l0e := Nat.le_of_lt l0); (try have l0f := Nat.le_add_right_of_le (k := 1) l0e); (try have l1 := Nat.lt_of_lt_of_le l1 (show _ ≤ w7.heap.size by omega)); (try have l1e := Nat.le_of_lt l1); (try have l1f := Nat.le_add_right_of_le (k := 1) l1e); (try have l2 := Nat.lt_of_lt_of_le l2 (show _ ≤ w7.heap.size by omega)); (try have l2e := Nat.le_of_lt l2); (try have l2f := Nat.le_add_right_of_le (k := 1) l2e); (try have l3 := Nat.lt_of_lt_of_le l3 (show _ ≤ w7.heap.size by omega)); (try have l3e := Nat.le_of_lt l3); (try have l3f := Nat.le_add_right_of_le (k := 1) l3e)
    have HOd7 := Lib.hid (HOd6.out.pick hG7 hR7)
    clear hR7 hG7 hc hf hz
    cases b9 with
    | false =>
      go_wp2
      go_ret
      exact HOd7.out.fin (by omega) (by omega)
    | true =>
      go_wp2_with (fail)
      go_at_call 65
      refine (pick_c r (P + 3 + 1) 7 _ HOd7.out.rd (by omega) (by omega) (by omega)).mono ?_
      rintro e w8 ⟨z, rfl, hzl, hR8, hG8⟩
      obtain ⟨hc, hf, hz, hs⟩ := gcell hG8
      (try simp only [World.size_alloc, World.size_setCell, World.size_drew, size_drewN] at hs); (first | have l0 := Nat.lt_of_lt_of_le l0 (show _ ≤ w8.heap.size by omega) | have l0 : w.heap.size < w8.heap.size := (by omega) | skip); (try have l0e := Nat.le_of_lt l0); (try have l0f := Nat.le_add_right_of_le (k := 1) l0e); (try have l1 := Nat.lt_of_lt_of_le l1 (show _ ≤ w8.heap.size by omega)); (try have l1e := Nat.le_of_lt l1); (try have l1f := Nat.le_add_right_of_le (k := 1) l1e); (try have l2 := Nat.lt_of_lt_of_le l2 (show _ ≤ w8.heap.size by omega)); (try have l2e := Nat.le_of_lt l2); (try have l2f := Nat.le_add_right_of_le (k := 1) l2e); (try have l3 := Nat.lt_of_lt_of_le l3 (show _ ≤ w8.heap.size by omega)); (try have l3e := Nat.le_of_lt l3); (try have l3f := Nat.le_add_right_of_le (k := 1) l3e)
      have hod8 := HOd7.out.pick hG8 hR8
      have hz8 := hod8.gr.size
      have HOd8 := Lib.hid (hod8.ext (show Ext w8 (w8.alloc (.cells #[.int .i64 z] 3)) by (repeat' (first | (with_reducible exact Below.refl _ _) | (with_reducible refine Below.mono (by assumption) ?_) | (with_reducible refine Below.trans ?_ (Below.mono (by assumption) ?_)) | (with_reducible refine Below.alloc ?_ ?_ _) | (with_reducible refine Below.drew ?_) | (with_reducible refine below_drewN ?_ _) | (with_reducible refine Below.setCell ?_ ?_ _) | (simp only [World.size_alloc, World.size_setCell, World.size_drew, size_drewN]; omega) | omega))))
      clear hod8 hR8 hG8 hc hf hz
      go_wp2_with (at_builtin; go_loud (refine wpList_append1_at _ rfl _ _ 41 rfl w.heap.size 3 Tryd.underlying41 info1 rfl _ zs rfl HOd8.out.o _ z rfl ?_ ?_ ?_ ?_))
      · first | (simp; done) | simp [World.cell?_alloc_new]
      · omega
      · simp only [World.size_alloc]; omega
      · intro v' w9 hown' hgrow hat
        have HF := Lib.hid ((HOd8.out.app hown' hgrow).fin (P' := P + 5) (by omega) (by rw [List.length_append, List.length_singleton]; omega))
        clear hown' hgrow hat
        go_wp2
        go_ret
        exact HF.out
/-- a drawn history and an order -/
def DrewS (w : World) (e : Ending) (w' : World) : Prop := ∃ (h : List TxnT) (A : Option Addr) (c : Nat) (ns : List Int) (B : Option Addr) (d : Nat), e = .returned (.tuple #[.slice A h.length c, .slice B ns.length d]) ∧ h.length ≤ c ∧ Txns (fun b => w.heap.size ≤ b) w' A h ∧ Caps w' A h.length ∧ SmallH h ∧ ns.length ≤ d ∧ Ints (fun b => w.heap.size ≤ b) w' B ns ∧ ns.length ≤ 101 ∧ Ext w w'
set_option maxHeartbeats 2000000 in
theorem DrawSerialRight_c (xs : List Int) (A : Option Addr) (c : Nat) (w : World) (h : Byts Any w A xs) (hv : ∀ x ∈ xs, 0 ≤ x ∧ x ≤ 255) (hc : xs.length ≤ c) :
    Calls Tryd.prog 17 #[.slice A xs.length c] w (DrewS w) := by
  go_enter Tryd.func17, Tryd.ntmps17
  go_wp2_with (fail)
  go_at_call 35
  refine (l20Open_c xs A c _ (h.ext (by (repeat' (first | (with_reducible exact Below.refl _ _) | (with_reducible refine Below.mono (by assumption) ?_) | (with_reducible refine Below.trans ?_ (Below.mono (by assumption) ?_)) | (with_reducible refine Below.alloc ?_ ?_ _) | (with_reducible refine Below.drew ?_) | (with_reducible refine below_drewN ?_ _) | (with_reducible refine Below.setCell ?_ ?_ _) | (simp only [World.size_alloc, World.size_setCell, World.size_drew, size_drewN]; omega) | omega)))) hv hc).mono ?_
  rintro e w1 ⟨r, rfl, hr, hR, hb⟩
  obtain ⟨hc, hf, hz, hs⟩ := bcell hb
  (try simp only [World.size_alloc, World.size_setCell, World.size_drew, size_drewN] at hs); (first | have l0 := Nat.lt_of_lt_of_le l0 (show _ ≤ w1.heap.size by omega) | have l0 : w.heap.size < w1.heap.size := (by omega) | skip); (try have l0e := Nat.le_of_lt l0); (try have l0f := Nat.le_add_right_of_le (k := 1) l0e); (try have l1 := Nat.lt_of_lt_of_le l1 (show _ ≤ w1.heap.size by omega)); (try have l1e := Nat.le_of_lt l1); (try have l1f := Nat.le_add_right_of_le (k := 1) l1e); (try have l2 := Nat.lt_of_lt_of_le l2 (show _ ≤ w1.heap.size by omega)); (try have l2e := Nat.le_of_lt l2); (try have l2f := Nat.le_add_right_of_le (k := 1) l2e); (try have l3 := Nat.lt_of_lt_of_le l3 (show _ ≤ w1.heap.size by omega)); (try have l3e := Nat.le_of_lt l3); (try have l3f := Nat.le_add_right_of_le (k := 1) l3e)
  have hb_1 := hb
  go_wp2_with (fail)
  go_at_call 34
  refine (l20History_c r 0 5 12 _ hR (by omega) (by omega) (by omega) (by omega)).mono ?_
  rintro e w2 ⟨ps, lim, vo, rfl, hT, hl, hps, hR2, hG⟩
  obtain ⟨hc, hf, hz, hs⟩ := gcell hG
  (try simp only [World.size_alloc, World.size_setCell, World.size_drew, size_drewN] at hs); (first | have l0 := Nat.lt_of_lt_of_le l0 (show _ ≤ w2.heap.size by omega) | have l0 : w.heap.size < w2.heap.size := (by omega) | skip); (try have l0e := Nat.le_of_lt l0); (try have l0f := Nat.le_add_right_of_le (k := 1) l0e); (try have l1 := Nat.lt_of_lt_of_le l1 (show _ ≤ w2.heap.size by omega)); (try have l1e := Nat.le_of_lt l1); (try have l1f := Nat.le_add_right_of_le (k := 1) l1e); (try have l2 := Nat.lt_of_lt_of_le l2 (show _ ≤ w2.heap.size by omega)); (try have l2e := Nat.le_of_lt l2); (try have l2f := Nat.le_add_right_of_le (k := 1) l2e); (try have l3 := Nat.lt_of_lt_of_le l3 (show _ ≤ w2.heap.size by omega)); (try have l3e := Nat.le_of_lt l3); (try have l3f := Nat.le_add_right_of_le (k := 1) l3e)
  obtain ⟨A2, c2, rfl, hc2, hx2⟩ := hT.read
  have hsm := small_map hl hps
  have hcc := hT.caps
  rw [show ps.length = (ps.map PT.txn).length by simp] at hcc
  clear hT
  generalize ps.map PT.txn = H at hx2 hsm hc2 hcc ⊢
  have hr1 := hR.lt
  have hr2 := hR2.lt
  have HG := Lib.hid hG
  have HX2 := Lib.hid hx2
  have HCC := Lib.hid hcc
  have HR2 := Lib.hid hR2
  have HB1 := Lib.hid hb_1
  have hz12 := hb_1.size
  have hz23 := hG.size
  have hsl := hsm.1
  clear hG hx2 hR2 hb_1 hb hR hc hf hz hcc
  go_wp2_with (fail)
  go_at_call 47
  refine (l20Order_c H w1.heap.size A2 c2 r _ _ HX2.out hr1 hsm.small (by omega) HR2.out (by omega)).mono ?_
  rintro e w3 ⟨ns, B, d, rfl, hd, hI, hnl, hR3, hG3⟩
  have HG3 := Lib.hid hG3
  have HI3 := Lib.hid hI
  have HX3 := Lib.hid (txns_pick HX2.out hG3 hr1)
  have HC3 := Lib.hid (caps_pick HX2.out HCC.out hG3 hr1)
  clear hG3 hI
  go_wp2
  go_ret2
  exact ⟨H, A2, c2, ns, B, d, rfl, hc2, txns_low HX3.out (by omega), HC3.out, hsm, hd, SlAt.mono HI3.out (fun b hb _ => by omega) (fun _ _ h => h), hnl, grown_new HB1.out hr (grown_trans HG.out HG3.out)⟩
end Go.Proofs.YtdgfipoibnjhaaaDoor
