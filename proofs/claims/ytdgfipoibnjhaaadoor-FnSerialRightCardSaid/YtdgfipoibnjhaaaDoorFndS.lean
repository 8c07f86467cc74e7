/-
  The reference's search for a serial order.
-/
import Derived.Test.YtdgfipoibnjhaaaDoorGFndP25
import Derived.Deep.RegionHeld3
import Derived.Deep.AppendLies
import Derived.Deep.CutRange
import Derived.Deep.CutBlock
namespace Go.Proofs.YtdgfipoibnjhaaaDoor
set_option linter.unusedSimpArgs false
set_option linter.unusedVariables false
set_option maxRecDepth 100000
open Go.RowKit

/-- what a search hands back -/
abbrev FoundS (r : Option (List Int)) (w : World) (e : Ending) (w' : World) : Prop := ∃ A c, e = .returned (.tuple #[.slice A (r.getD []).length c, .bool r.isSome]) ∧ Ints Any w' A (r.getD []) ∧ Ext w w'
/-- .. in a block from lo on -/
abbrev FoundB (lo : Nat) (r : Option (List Int)) (w : World) (e : Ending) (w' : World) : Prop := ∃ A c, e = .returned (.tuple #[.slice A (r.getD []).length c, .bool r.isSome]) ∧ Ints (fun b => lo ≤ b) w' A (r.getD []) ∧ Ext w w' ∧ ∃ b o, A = some ⟨b, o, none⟩
theorem ints_lo {S : Nat → Prop} {w : World} {b off lo : Nat} {xs : List Int} (h : Ints S w (some ⟨b, off, none⟩) xs) (hb : lo ≤ b) : Ints (fun b => lo ≤ b) w (some ⟨b, off, none⟩) xs := by
  intro i x hx
  obtain ⟨b', off', us, e, h1, h2, h3, h4, h5⟩ := h i x hx
  cases e
  exact ⟨b, off, us, rfl, hb, h2, h3, h4, h5⟩
set_option maxHeartbeats 8000000 in
theorem l12Find_c (h : List TxnT) (all : List Int) (hnd : all.Nodup) (hal : all.length ≤ 6) (hsm : Small h)
    (hm : ∀ n, n ∈ all → ∃ (m : Nat) (t : TxnT), n = m ∧ m < h.length ∧ h[m]? = some t ∧ (∀ o ∈ t.ops, opv o = true) ∧ t.ops.length ≤ 6) :
    ∀ (n : Nat) (pre : List Int) (S S1 S2 : Nat → Prop) (A : Option Addr) (bb ob : Nat) (C : Option Addr) (c d cc : Nat) (lo : Nat) (w : World), lo ≤ bb → lo ≤ w.heap.size → (left all pre).length = n → (∀ x ∈ pre, x ∈ all) → pre.length + n ≤ 12 → Txns S w A h → Ints S1 w (some ⟨bb, ob, none⟩) pre → Ints S2 w C (left all pre) → (left all pre).length ≤ cc →
    Calls Tryd.prog 106 #[.slice A h.length c, .slice (some ⟨bb, ob, none⟩) pre.length d, .slice C (left all pre).length cc] w (FoundB lo (fndR h all n pre) w) := by
  intro n
  induction n with
  | zero =>
    intro pre S S1 S2 A bb ob C c d cc lo w hlo1 hlo2 hn hpre hpl hx hi hl hcc
    have CR := fun w hx hi => l12Runs_c h pre S S1 A (some ⟨bb, ob, none⟩) c d w hx hsm hi (by omega) (fun k n hk => hm n (hpre n (List.mem_of_getElem? hk)))
    unfold fndR fnd
    cases hr : (runH h pre).isSome with
    | false =>
      rw [hr] at CR
      have CR := Lib.hid CR
      rw [if_neg (by simp)]
      clear hr
      go_enter Tryd.func106, Tryd.ntmps106
      go_wp2_with (fail)
      go_at_call 51
      refine (CR.out _ (hx.ext (by (repeat' (first | (with_reducible exact Below.refl _ _) | (with_reducible refine Below.mono (by assumption) ?_) | (with_reducible refine Below.trans ?_ (Below.mono (by assumption) ?_)) | (with_reducible refine Below.alloc ?_ ?_ _) | (with_reducible refine Below.drew ?_) | (with_reducible refine below_drewN ?_ _) | (with_reducible refine Below.setCell ?_ ?_ _) | (simp only [World.size_alloc, World.size_setCell, World.size_drew, size_drewN]; omega) | omega)))) (hi.ext (by (repeat' (first | (with_reducible exact Below.refl _ _) | (with_reducible refine Below.mono (by assumption) ?_) | (with_reducible refine Below.trans ?_ (Below.mono (by assumption) ?_)) | (with_reducible refine Below.alloc ?_ ?_ _) | (with_reducible refine Below.drew ?_) | (with_reducible refine below_drewN ?_ _) | (with_reducible refine Below.setCell ?_ ?_ _) | (simp only [World.size_alloc, World.size_setCell, World.size_drew, size_drewN]; omega) | omega))))).mono ?_
      rintro e w1 ⟨rfl, hb⟩
      obtain ⟨hc, hf, hz, hs⟩ := bcell hb
      (try simp only [World.size_alloc, World.size_setCell, World.size_drew, size_drewN] at hs); (first | have l0 := Nat.lt_of_lt_of_le l0 (show _ ≤ w1.heap.size by omega) | have l0 : w.heap.size < w1.heap.size := (by omega) | skip); (try have l0e := Nat.le_of_lt l0); (try have l0f := Nat.le_add_right_of_le (k := 1) l0e); (try have l1 := Nat.lt_of_lt_of_le l1 (show _ ≤ w1.heap.size by omega)); (try have l1e := Nat.le_of_lt l1); (try have l1f := Nat.le_add_right_of_le (k := 1) l1e); (try have l2 := Nat.lt_of_lt_of_le l2 (show _ ≤ w1.heap.size by omega)); (try have l2e := Nat.le_of_lt l2); (try have l2f := Nat.le_add_right_of_le (k := 1) l2e); (try have l3 := Nat.lt_of_lt_of_le l3 (show _ ≤ w1.heap.size by omega)); (try have l3e := Nat.le_of_lt l3); (try have l3f := Nat.le_add_right_of_le (k := 1) l3e)
      go_wp2
      go_ret2
      exact ⟨_, _, rfl, SlAt.nil, by (repeat' (first | (with_reducible exact Below.refl _ _) | (with_reducible refine Below.mono (by assumption) ?_) | (with_reducible refine Below.trans ?_ (Below.mono (by assumption) ?_)) | (with_reducible refine Below.alloc ?_ ?_ _) | (with_reducible refine Below.drew ?_) | (with_reducible refine below_drewN ?_ _) | (with_reducible refine Below.setCell ?_ ?_ _) | (simp only [World.size_alloc, World.size_setCell, World.size_drew, size_drewN]; omega) | omega)), _, _, rfl⟩
    | true =>
      rw [hr] at CR
      have CR := Lib.hid CR
      rw [if_pos rfl]
      have hn0 : left all pre = [] := List.eq_nil_of_length_eq_zero hn
      rw [hn0]
      clear hr hn hn0 hl
      go_enter Tryd.func106, Tryd.ntmps106
      go_wp2_with (fail)
      go_at_call 51
      refine (CR.out _ (hx.ext (by (repeat' (first | (with_reducible exact Below.refl _ _) | (with_reducible refine Below.mono (by assumption) ?_) | (with_reducible refine Below.trans ?_ (Below.mono (by assumption) ?_)) | (with_reducible refine Below.alloc ?_ ?_ _) | (with_reducible refine Below.drew ?_) | (with_reducible refine below_drewN ?_ _) | (with_reducible refine Below.setCell ?_ ?_ _) | (simp only [World.size_alloc, World.size_setCell, World.size_drew, size_drewN]; omega) | omega)))) (hi.ext (by (repeat' (first | (with_reducible exact Below.refl _ _) | (with_reducible refine Below.mono (by assumption) ?_) | (with_reducible refine Below.trans ?_ (Below.mono (by assumption) ?_)) | (with_reducible refine Below.alloc ?_ ?_ _) | (with_reducible refine Below.drew ?_) | (with_reducible refine below_drewN ?_ _) | (with_reducible refine Below.setCell ?_ ?_ _) | (simp only [World.size_alloc, World.size_setCell, World.size_drew, size_drewN]; omega) | omega))))).mono ?_
      rintro e w1 ⟨rfl, hb⟩
      obtain ⟨hc, hf, hz, hs⟩ := bcell hb
      (try simp only [World.size_alloc, World.size_setCell, World.size_drew, size_drewN] at hs); (first | have l0 := Nat.lt_of_lt_of_le l0 (show _ ≤ w1.heap.size by omega) | have l0 : w.heap.size < w1.heap.size := (by omega) | skip); (try have l0e := Nat.le_of_lt l0); (try have l0f := Nat.le_add_right_of_le (k := 1) l0e); (try have l1 := Nat.lt_of_lt_of_le l1 (show _ ≤ w1.heap.size by omega)); (try have l1e := Nat.le_of_lt l1); (try have l1f := Nat.le_add_right_of_le (k := 1) l1e); (try have l2 := Nat.lt_of_lt_of_le l2 (show _ ≤ w1.heap.size by omega)); (try have l2e := Nat.le_of_lt l2); (try have l2f := Nat.le_add_right_of_le (k := 1) l2e); (try have l3 := Nat.lt_of_lt_of_le l3 (show _ ≤ w1.heap.size by omega)); (try have l3e := Nat.le_of_lt l3); (try have l3f := Nat.le_add_right_of_le (k := 1) l3e)
      have hE := hb
      go_wp2
      go_ret2
      exact ⟨_, _, rfl, ints_lo (Ints.ext hi (by (repeat' (first | (with_reducible exact Below.refl _ _) | (with_reducible refine Below.mono (by assumption) ?_) | (with_reducible refine Below.trans ?_ (Below.mono (by assumption) ?_)) | (with_reducible refine Below.alloc ?_ ?_ _) | (with_reducible refine Below.drew ?_) | (with_reducible refine below_drewN ?_ _) | (with_reducible refine Below.setCell ?_ ?_ _) | (simp only [World.size_alloc, World.size_setCell, World.size_drew, size_drewN]; omega) | omega)))) hlo1, by (repeat' (first | (with_reducible exact Below.refl _ _) | (with_reducible refine Below.mono (by assumption) ?_) | (with_reducible refine Below.trans ?_ (Below.mono (by assumption) ?_)) | (with_reducible refine Below.alloc ?_ ?_ _) | (with_reducible refine Below.drew ?_) | (with_reducible refine below_drewN ?_ _) | (with_reducible refine Below.setCell ?_ ?_ _) | (simp only [World.size_alloc, World.size_setCell, World.size_drew, size_drewN]; omega) | omega)), _, _, rfl⟩
  | succ n ih =>
    intro pre S S1 S2 A bb ob C c d cc lo w hlo1 hlo2 hn hpre hpl hx hi hl hcc
    have CR := fun w hx hi => l12Runs_c h pre S S1 A (some ⟨bb, ob, none⟩) c d w hx hsm hi (by omega) (fun k n hk => hm n (hpre n (List.mem_of_getElem? hk)))
    unfold fndR
    cases hr : (runH h pre).isSome with
    | false =>
      rw [hr] at CR
      have CR := Lib.hid CR
      rw [if_neg (by simp)]
      clear hr
      go_enter Tryd.func106, Tryd.ntmps106
      go_wp2_with (fail)
      go_at_call 51
      refine (CR.out _ (hx.ext (by (repeat' (first | (with_reducible exact Below.refl _ _) | (with_reducible refine Below.mono (by assumption) ?_) | (with_reducible refine Below.trans ?_ (Below.mono (by assumption) ?_)) | (with_reducible refine Below.alloc ?_ ?_ _) | (with_reducible refine Below.drew ?_) | (with_reducible refine below_drewN ?_ _) | (with_reducible refine Below.setCell ?_ ?_ _) | (simp only [World.size_alloc, World.size_setCell, World.size_drew, size_drewN]; omega) | omega)))) (hi.ext (by (repeat' (first | (with_reducible exact Below.refl _ _) | (with_reducible refine Below.mono (by assumption) ?_) | (with_reducible refine Below.trans ?_ (Below.mono (by assumption) ?_)) | (with_reducible refine Below.alloc ?_ ?_ _) | (with_reducible refine Below.drew ?_) | (with_reducible refine below_drewN ?_ _) | (with_reducible refine Below.setCell ?_ ?_ _) | (simp only [World.size_alloc, World.size_setCell, World.size_drew, size_drewN]; omega) | omega))))).mono ?_
      rintro e w1 ⟨rfl, hb⟩
      obtain ⟨hc, hf, hz, hs⟩ := bcell hb
      (try simp only [World.size_alloc, World.size_setCell, World.size_drew, size_drewN] at hs); (first | have l0 := Nat.lt_of_lt_of_le l0 (show _ ≤ w1.heap.size by omega) | have l0 : w.heap.size < w1.heap.size := (by omega) | skip); (try have l0e := Nat.le_of_lt l0); (try have l0f := Nat.le_add_right_of_le (k := 1) l0e); (try have l1 := Nat.lt_of_lt_of_le l1 (show _ ≤ w1.heap.size by omega)); (try have l1e := Nat.le_of_lt l1); (try have l1f := Nat.le_add_right_of_le (k := 1) l1e); (try have l2 := Nat.lt_of_lt_of_le l2 (show _ ≤ w1.heap.size by omega)); (try have l2e := Nat.le_of_lt l2); (try have l2f := Nat.le_add_right_of_le (k := 1) l2e); (try have l3 := Nat.lt_of_lt_of_le l3 (show _ ≤ w1.heap.size by omega)); (try have l3e := Nat.le_of_lt l3); (try have l3f := Nat.le_add_right_of_le (k := 1) l3e)
      go_wp2
      go_ret2
      exact ⟨_, _, rfl, SlAt.nil, by (repeat' (first | (with_reducible exact Below.refl _ _) | (with_reducible refine Below.mono (by assumption) ?_) | (with_reducible refine Below.trans ?_ (Below.mono (by assumption) ?_)) | (with_reducible refine Below.alloc ?_ ?_ _) | (with_reducible refine Below.drew ?_) | (with_reducible refine below_drewN ?_ _) | (with_reducible refine Below.setCell ?_ ?_ _) | (simp only [World.size_alloc, World.size_setCell, World.size_drew, size_drewN]; omega) | omega)), _, _, rfl⟩
    | true =>
      rw [hr] at CR
      have CR := Lib.hid CR
      rw [if_pos rfl, fnd_left]
      have hnx := fun (k : Nat) x (hk : (left all pre)[k]? = some x) => left_next hnd hk
      have hln := fun (k : Nat) x (hk : (left all pre)[k]? = some x) => left_len hnd hk
      have hmem : ∀ (k : Nat) x, (left all pre)[k]? = some x → x ∈ all := fun k x hk => by
        have := List.mem_of_getElem? hk
        unfold left at this
        exact (List.mem_filter.1 this).1
      obtain ⟨rs, hrs⟩ : ∃ rs, left all pre = rs := ⟨_, rfl⟩
      rw [hrs] at hn hl hcc hnx hln hmem ⊢
      have HN := Lib.hid hn
      have HNx := Lib.hid hnx
      have HLn := Lib.hid hln
      have HMm := Lib.hid hmem
      have hrl : 0 < rs.length := by omega
      have hrl12 : rs.length ≤ 12 := by omega
      have hr00 : ((rs.length : Int) == 0) = false := beq_eq_false_iff_ne.2 (by omega)
      have HX := Lib.hid hx
      have HI := Lib.hid hi
      have HL := Lib.hid hl
      clear hr hn hrs hx hi hl hnx hln hmem
      go_enter Tryd.func106, Tryd.ntmps106
      go_wp2_with (fail)
      go_at_call 51
      refine (CR.out _ (HX.out.ext (by (repeat' (first | (with_reducible exact Below.refl _ _) | (with_reducible refine Below.mono (by assumption) ?_) | (with_reducible refine Below.trans ?_ (Below.mono (by assumption) ?_)) | (with_reducible refine Below.alloc ?_ ?_ _) | (with_reducible refine Below.drew ?_) | (with_reducible refine below_drewN ?_ _) | (with_reducible refine Below.setCell ?_ ?_ _) | (simp only [World.size_alloc, World.size_setCell, World.size_drew, size_drewN]; omega) | omega)))) (HI.out.ext (by (repeat' (first | (with_reducible exact Below.refl _ _) | (with_reducible refine Below.mono (by assumption) ?_) | (with_reducible refine Below.trans ?_ (Below.mono (by assumption) ?_)) | (with_reducible refine Below.alloc ?_ ?_ _) | (with_reducible refine Below.drew ?_) | (with_reducible refine below_drewN ?_ _) | (with_reducible refine Below.setCell ?_ ?_ _) | (simp only [World.size_alloc, World.size_setCell, World.size_drew, size_drewN]; omega) | omega))))).mono ?_
      rintro e w1 ⟨rfl, hb⟩
      obtain ⟨hc, hf, hz, hs⟩ := bcell hb
      (try simp only [World.size_alloc, World.size_setCell, World.size_drew, size_drewN] at hs); (first | have l0 := Nat.lt_of_lt_of_le l0 (show _ ≤ w1.heap.size by omega) | have l0 : w.heap.size < w1.heap.size := (by omega) | skip); (try have l0e := Nat.le_of_lt l0); (try have l0f := Nat.le_add_right_of_le (k := 1) l0e); (try have l1 := Nat.lt_of_lt_of_le l1 (show _ ≤ w1.heap.size by omega)); (try have l1e := Nat.le_of_lt l1); (try have l1f := Nat.le_add_right_of_le (k := 1) l1e); (try have l2 := Nat.lt_of_lt_of_le l2 (show _ ≤ w1.heap.size by omega)); (try have l2e := Nat.le_of_lt l2); (try have l2f := Nat.le_add_right_of_le (k := 1) l2e); (try have l3 := Nat.lt_of_lt_of_le l3 (show _ ≤ w1.heap.size by omega)); (try have l3e := Nat.le_of_lt l3); (try have l3f := Nat.le_add_right_of_le (k := 1) l3e)
      have HE1 := Lib.hid (show Ext w w1 from hb)
      clear hb hc hf hz
      go_wp2
      go_loopw [8] (fun i W => ∃ k : Nat, k ≤ rs.length ∧ i = .int .i64 k ∧ (∀ (j : Nat) y, j < k → rs[j]? = some y → fndR h all n (pre ++ [y]) = none) ∧ Ext w W) (fun i _ => rs.length - (intOf i).toNat)
      case atStart => exact ⟨0, Nat.zero_le _, rfl, fun j y hj => by omega, HE1.out⟩
      case round =>
        obtain ⟨k, hk, rfl, hno, hE⟩ := hrel
        have HNo := Lib.hid hno
        have HE := Lib.hid hE
        have hEz := hE.size
        clear hno
        by_cases hlt : k < rs.length
        · obtain ⟨x, b, off, hxk, rfl, _, hb0, cv⟩ := (HL.out.ext hE).at_ hlt
          have hki : (k : Int) < rs.length := by omega
          have hk0 : (0 : Int) ≤ (k : Int) := by omega
          have hk1 : (k : Int) + 1 ≤ rs.length := by omega
          have hkc : (k : Int) ≤ cc := by omega
          have hwr : IntKind.i64.wrap ((k : Int) + 1) = (k : Int) + 1 := by rw [IntKind.wrap_i64]; omega
          have htk : (rs.take k).length = k := by rw [List.length_take]; omega
          have hdr : (rs.drop (k + 1)).length = rs.length - (k + 1) := List.length_drop
          have hadd := ints_add (HL.out.ext hE)
          have n1 : ∀ j y, (rs.take k)[j]? = some y → wr.cell? (Addr.add ⟨b, off, none⟩ j) = some (.int .i64 y) := fun j y hj => by
            have hjk : j < k := by have := (List.getElem?_eq_some_iff.1 hj).1; omega
            rw [List.getElem?_take_of_lt hjk] at hj
            exact hadd j y hj
          have n2 : ∀ j y, (rs.drop (k + 1))[j]? = some y → wr.cell? (Addr.add ⟨b, off + (k + 1), none⟩ j) = some (.int .i64 y) := ints_add (ints_drop (HL.out.ext hE) (k + 1))
          have hO : Own1 (wr.alloc (.cells #[] 3)) wr.heap.size 3 (.slice (some ⟨wr.heap.size, 0, none⟩) 0 0) [] := Own1.made wr #[] 0 rfl (Nat.le_refl _) (by omega) rfl
          have hk2 : (0 : Int) ≤ (k : Int) + 1 := by omega
          have hcl : (rs.length : Int) ≤ cc := by omega
          have hk3 : ((k : Int) + 1).toNat = k + 1 := by omega
          have hk4 : (k : Int) + 1 ≤ cc := by omega
          have hleft : rs.take k ++ rs.drop (k + 1) = left all (pre ++ [x]) := by rw [HNx.out k x hxk]; exact (erase_split k hlt).symm
          have HLf := Lib.hid hleft
          have HXk := Lib.hid hxk
          clear hleft hxk
          go_upto_region 8 with (fail)
          go_cut [9] from 21 to 53 (fun v W => Own1 W wr.heap.size 3 v (left all (pre ++ [x])) ∧ Ext wr W)
          case first =>
            by_cases hcq : cc = k + 1
            · have hrk : rs.length = k + 1 := by omega
              have hc5 : cc - (k + 1) = 0 := by omega
              have hc6 : cc ≤ k + 1 := by omega
              have hcT : (cc = k + 1) = True := eq_true hcq
              have hd0 : rs.drop (k + 1) = [] := List.drop_eq_nil_of_le (by omega)
              have HD0 := Lib.hid hd0
              have HRk := Lib.hid hrk
              clear hd0 hrk hcq
              go_region_held3 (fun _ => True) (trivial) (first
                | (refine step_app1n rfl (.tmp 27) (.tmp 30) rfl wr.heap.size _ rfl [] (hO.ext (by (repeat' (first | (with_reducible exact Below.refl _ _) | (with_reducible refine Below.mono (by assumption) ?_) | (with_reducible refine Below.trans ?_ (Below.mono (by assumption) ?_)) | (with_reducible refine Below.alloc ?_ ?_ _) | (with_reducible refine Below.drew ?_) | (with_reducible refine below_drewN ?_ _) | (with_reducible refine Below.setCell ?_ ?_ _) | (simp only [World.size_alloc, World.size_setCell, World.size_drew, size_drewN]; omega) | omega)))) ⟨b, off, none⟩ k _ (rs.take k) rfl htk.symm (news_ext (show Ext wr _ from by (repeat' (first | (with_reducible exact Below.refl _ _) | (with_reducible refine Below.mono (by assumption) ?_) | (with_reducible refine Below.trans ?_ (Below.mono (by assumption) ?_)) | (with_reducible refine Below.alloc ?_ ?_ _) | (with_reducible refine Below.drew ?_) | (with_reducible refine below_drewN ?_ _) | (with_reducible refine Below.setCell ?_ ?_ _) | (simp only [World.size_alloc, World.size_setCell, World.size_drew, size_drewN]; omega) | omega))) hb0 n1) (by rw [htk]; simp only [List.length_nil]; omega) (by simp only [World.size_alloc, World.size_drew]; omega) ?_
                   intro v1 w2 hO2 hg2 hat2
                   have hE2 : Ext wr w2 := by
                     refine Below.grown ?_ hg2 ?_ (fun g hg => (World.ownsRow.lt hO g hg).1)
                     · (repeat' (first | (with_reducible exact Below.refl _ _) | (with_reducible refine Below.mono (by assumption) ?_) | (with_reducible refine Below.trans ?_ (Below.mono (by assumption) ?_)) | (with_reducible refine Below.alloc ?_ ?_ _) | (with_reducible refine Below.drew ?_) | (with_reducible refine below_drewN ?_ _) | (with_reducible refine Below.setCell ?_ ?_ _) | (simp only [World.size_alloc, World.size_setCell, World.size_drew, size_drewN]; omega) | omega))
                     · simp only [World.size_alloc, World.size_drew]; omega
                   have z2 := hE2.size)
                | (refine step_app1n rfl (.tmp 31) (.tmp 35) rfl wr.heap.size v1 rfl ([] ++ rs.take k) (hO2.ext (by (repeat' (first | (with_reducible exact Below.refl _ _) | (with_reducible refine Below.mono (by assumption) ?_) | (with_reducible refine Below.trans ?_ (Below.mono (by assumption) ?_)) | (with_reducible refine Below.alloc ?_ ?_ _) | (with_reducible refine Below.drew ?_) | (with_reducible refine below_drewN ?_ _) | (with_reducible refine Below.setCell ?_ ?_ _) | (simp only [World.size_alloc, World.size_setCell, World.size_drew, size_drewN]; omega) | omega)))) ⟨b, off, none⟩ (rs.length - (k + 1)) 0 [] rfl (by have := HRk.out; simp only [List.length_nil]; omega) (fun j y hj => by simp at hj) (by rw [List.nil_append, htk]; simp only [List.length_nil]; omega) (by first | exact z2 | (simp only [World.size_drew]; exact z2)) ?_
                   intro v3 w3 hO3 hg3 hat3
                   have hE3 : Ext wr w3 := by
                     refine Below.grown ?_ hg3 ?_ (fun g hg => (World.ownsRow.lt hO2 g hg).1)
                     · (repeat' (first | (with_reducible exact Below.refl _ _) | (with_reducible refine Below.mono (by assumption) ?_) | (with_reducible refine Below.trans ?_ (Below.mono (by assumption) ?_)) | (with_reducible refine Below.alloc ?_ ?_ _) | (with_reducible refine Below.drew ?_) | (with_reducible refine below_drewN ?_ _) | (with_reducible refine Below.setCell ?_ ?_ _) | (simp only [World.size_alloc, World.size_setCell, World.size_drew, size_drewN]; omega) | omega))
                     · first | exact z2 | (simp only [World.size_drew]; exact z2)))
              have e : [] ++ rs.take k ++ [] = left all (pre ++ [x]) := by rw [← HLf.out, HD0.out]; simp
              rw [e] at hO3
              have HF := Lib.hid (And.intro hO3 hE3)
              clear hO3 hE3 hO2 hg2 hg3
              go_wp2_with (fail)
              go_meet
              exact HF.out
            · have hc5 : ¬ (cc - (k + 1) = 0) := by omega
              have hc6 : ¬ (cc ≤ k + 1) := by omega
              have hc7 : ¬ ((cc : Int) = (k : Int) + 1) := by omega
              go_region_held3 (fun _ => True) (trivial) (first
                | (refine step_app1n rfl (.tmp 27) (.tmp 30) rfl wr.heap.size _ rfl [] (hO.ext (by (repeat' (first | (with_reducible exact Below.refl _ _) | (with_reducible refine Below.mono (by assumption) ?_) | (with_reducible refine Below.trans ?_ (Below.mono (by assumption) ?_)) | (with_reducible refine Below.alloc ?_ ?_ _) | (with_reducible refine Below.drew ?_) | (with_reducible refine below_drewN ?_ _) | (with_reducible refine Below.setCell ?_ ?_ _) | (simp only [World.size_alloc, World.size_setCell, World.size_drew, size_drewN]; omega) | omega)))) ⟨b, off, none⟩ k _ (rs.take k) rfl htk.symm (news_ext (show Ext wr _ from by (repeat' (first | (with_reducible exact Below.refl _ _) | (with_reducible refine Below.mono (by assumption) ?_) | (with_reducible refine Below.trans ?_ (Below.mono (by assumption) ?_)) | (with_reducible refine Below.alloc ?_ ?_ _) | (with_reducible refine Below.drew ?_) | (with_reducible refine below_drewN ?_ _) | (with_reducible refine Below.setCell ?_ ?_ _) | (simp only [World.size_alloc, World.size_setCell, World.size_drew, size_drewN]; omega) | omega))) hb0 n1) (by rw [htk]; simp only [List.length_nil]; omega) (by simp only [World.size_alloc, World.size_drew]; omega) ?_
                   intro v1 w2 hO2 hg2 hat2
                   have hE2 : Ext wr w2 := by
                     refine Below.grown ?_ hg2 ?_ (fun g hg => (World.ownsRow.lt hO g hg).1)
                     · (repeat' (first | (with_reducible exact Below.refl _ _) | (with_reducible refine Below.mono (by assumption) ?_) | (with_reducible refine Below.trans ?_ (Below.mono (by assumption) ?_)) | (with_reducible refine Below.alloc ?_ ?_ _) | (with_reducible refine Below.drew ?_) | (with_reducible refine below_drewN ?_ _) | (with_reducible refine Below.setCell ?_ ?_ _) | (simp only [World.size_alloc, World.size_setCell, World.size_drew, size_drewN]; omega) | omega))
                     · simp only [World.size_alloc, World.size_drew]; omega
                   have z2 := hE2.size)
                | (refine step_app1n rfl (.tmp 31) (.tmp 35) rfl wr.heap.size v1 rfl ([] ++ rs.take k) (hO2.ext (by (repeat' (first | (with_reducible exact Below.refl _ _) | (with_reducible refine Below.mono (by assumption) ?_) | (with_reducible refine Below.trans ?_ (Below.mono (by assumption) ?_)) | (with_reducible refine Below.alloc ?_ ?_ _) | (with_reducible refine Below.drew ?_) | (with_reducible refine below_drewN ?_ _) | (with_reducible refine Below.setCell ?_ ?_ _) | (simp only [World.size_alloc, World.size_setCell, World.size_drew, size_drewN]; omega) | omega)))) ⟨b, off + (k + 1), none⟩ _ _ (rs.drop (k + 1)) rfl hdr.symm (news_ext (show Ext wr _ from by (repeat' (first | (with_reducible exact Below.refl _ _) | (with_reducible refine Below.mono (by assumption) ?_) | (with_reducible refine Below.trans ?_ (Below.mono (by assumption) ?_)) | (with_reducible refine Below.alloc ?_ ?_ _) | (with_reducible refine Below.drew ?_) | (with_reducible refine below_drewN ?_ _) | (with_reducible refine Below.setCell ?_ ?_ _) | (simp only [World.size_alloc, World.size_setCell, World.size_drew, size_drewN]; omega) | omega))) hb0 n2) (by rw [List.nil_append, htk, hdr]; omega) (by first | exact z2 | (simp only [World.size_drew]; exact z2)) ?_
                   intro v3 w3 hO3 hg3 hat3
                   have hE3 : Ext wr w3 := by
                     refine Below.grown ?_ hg3 ?_ (fun g hg => (World.ownsRow.lt hO2 g hg).1)
                     · (repeat' (first | (with_reducible exact Below.refl _ _) | (with_reducible refine Below.mono (by assumption) ?_) | (with_reducible refine Below.trans ?_ (Below.mono (by assumption) ?_)) | (with_reducible refine Below.alloc ?_ ?_ _) | (with_reducible refine Below.drew ?_) | (with_reducible refine below_drewN ?_ _) | (with_reducible refine Below.setCell ?_ ?_ _) | (simp only [World.size_alloc, World.size_setCell, World.size_drew, size_drewN]; omega) | omega))
                     · first | exact z2 | (simp only [World.size_drew]; exact z2)))
              rw [List.nil_append, HLf.out] at hO3
              have HF := Lib.hid (And.intro hO3 hE3)
              clear hO3 hE3 hO2 hg2 hg3
              go_wp2_with (fail)
              go_meet
              exact HF.out
          case rest =>
            obtain ⟨hO9, hE9⟩ := hcut
            obtain ⟨C9, cc9, rfl, hI9, hle9⟩ := own1_capF hO9
            have hln9 := HLn.out k x HXk.out
            have hnn := HN.out
            have hxa := HMm.out k x HXk.out
            have IH := fun BB DD W h1 h2 hx hi hl => ih (pre ++ [x]) S (fun b => wc.heap.size ≤ b) (fun b => wr.heap.size ≤ b) A BB 0 C9 c DD cc9 lo W h1 h2 (by omega) (fun y hy => by
              rcases List.mem_append.1 hy with hy | hy
              · exact hpre y hy
              · rw [List.mem_singleton] at hy
                subst hy
                exact hxa) (by rw [List.length_append, List.length_singleton]; omega) hx hi hl hle9
            obtain ⟨r, hr⟩ : ∃ r, fndR h all n (pre ++ [x]) = r := ⟨_, rfl⟩
            rw [hr] at IH
            have HRr := Lib.hid hr
            clear hr
            simp only [List.length_append, List.length_singleton] at IH
            have IH := Lib.hid IH
            have HI9 := Lib.hid hI9
            have HE9 := Lib.hid hE9
            have hz9 := hE9.size
            have cv9 := hE9.keep hb0 cv
            have hb9 : b < wc.heap.size := by omega
            have hbbw : bb < w.heap.size ∨ pre.length = 0 := by
              rcases Nat.eq_zero_or_pos pre.length with h0 | h0
              · exact .inr h0
              · obtain ⟨y, b', o', _, e, _, hl, _⟩ := HI.out.at_ h0
                cases e
                exact .inl hl
            have n0 : ∀ W, Ext w W → ∀ j y, pre[j]? = some y → W.cell? (Addr.add ⟨bb, ob, none⟩ j) = some (.int .i64 y) := fun W hW j y hj => by
              rcases hbbw with hlt9 | h0
              · exact news_ext hW hlt9 (ints_add HI.out) j y hj
              · have := (List.getElem?_eq_some_iff.1 hj).1
                omega
            have hOa1 : Own1 (wc.alloc (.cells #[] 3)) wc.heap.size 3 (.slice (some ⟨wc.heap.size, 0, none⟩) 0 0) [] := Own1.made wc #[] 0 rfl (Nat.le_refl _) (by omega) rfl
            have hOa2 : Own1 ((wc.alloc (.cells #[.int .i64 x] 3)).alloc (.cells #[] 3)) wc.heap.size 3 (.slice (some ⟨wc.heap.size + 1, 0, none⟩) 0 0) [] := Own1.made (wc.alloc (.cells #[.int .i64 x] 3)) #[] 0 (by simp) (by simp) (by omega) rfl
            have hpx : 0 < (pre ++ [x]).length := by rw [List.length_append, List.length_singleton]; omega
            clear hO9 hI9 hE9 hln9 hnn n1 n2 hadd hO hdr htk
            go_upto_region 9 with (fail)
            go_region_held3 (fun W => W.cell? ⟨b, off + k, none⟩ = some (.int .i64 x)) (first | exact hE5.keep hb9 cv9 | exact hE3.keep hb9 cv9 | exact hE2.keep hb9 cv9 | go_keep) (first
              | (go_at_call 106; with_reducible refine (IH.out _ _ _ (by omega) (by have := hE3.size; (try simp only [World.size_alloc, World.size_drew]); omega) (HX.out.ext (HE.out.tr (HE9.out.tr (hE3.tr (by (repeat' (first | (with_reducible exact Below.refl _ _) | (with_reducible refine Below.mono (by assumption) ?_) | (with_reducible refine Below.trans ?_ (Below.mono (by assumption) ?_)) | (with_reducible refine Below.alloc ?_ ?_ _) | (with_reducible refine Below.drew ?_) | (with_reducible refine below_drewN ?_ _) | (with_reducible refine Below.setCell ?_ ?_ _) | (simp only [World.size_alloc, World.size_setCell, World.size_drew, size_drewN]; omega) | omega))))))) (Ints.ext hI3 (by (repeat' (first | (with_reducible exact Below.refl _ _) | (with_reducible refine Below.mono (by assumption) ?_) | (with_reducible refine Below.trans ?_ (Below.mono (by assumption) ?_)) | (with_reducible refine Below.alloc ?_ ?_ _) | (with_reducible refine Below.drew ?_) | (with_reducible refine below_drewN ?_ _) | (with_reducible refine Below.setCell ?_ ?_ _) | (simp only [World.size_alloc, World.size_setCell, World.size_drew, size_drewN]; omega) | omega)))) (Ints.ext HI9.out (hE3.tr (by (repeat' (first | (with_reducible exact Below.refl _ _) | (with_reducible refine Below.mono (by assumption) ?_) | (with_reducible refine Below.trans ?_ (Below.mono (by assumption) ?_)) | (with_reducible refine Below.alloc ?_ ?_ _) | (with_reducible refine Below.drew ?_) | (with_reducible refine below_drewN ?_ _) | (with_reducible refine Below.setCell ?_ ?_ _) | (simp only [World.size_alloc, World.size_setCell, World.size_drew, size_drewN]; omega) | omega)))))).mono ?_; rintro e w5 ⟨A5, c5, rfl, hI5, hb5, b5, o5, rfl⟩; have hE5 : Ext wc w5 := hE3.tr (by (repeat' (first | (with_reducible exact Below.refl _ _) | (with_reducible refine Below.mono (by assumption) ?_) | (with_reducible refine Below.trans ?_ (Below.mono (by assumption) ?_)) | (with_reducible refine Below.alloc ?_ ?_ _) | (with_reducible refine Below.drew ?_) | (with_reducible refine below_drewN ?_ _) | (with_reducible refine Below.setCell ?_ ?_ _) | (simp only [World.size_alloc, World.size_setCell, World.size_drew, size_drewN]; omega) | omega))))
              | (refine step_app1n rfl (.tmp 39) (.tmp 40) rfl wc.heap.size _ rfl [] (by first | exact hOa1.ext (by (repeat' (first | (with_reducible exact Below.refl _ _) | (with_reducible refine Below.mono (by assumption) ?_) | (with_reducible refine Below.trans ?_ (Below.mono (by assumption) ?_)) | (with_reducible refine Below.alloc ?_ ?_ _) | (with_reducible refine Below.drew ?_) | (with_reducible refine below_drewN ?_ _) | (with_reducible refine Below.setCell ?_ ?_ _) | (simp only [World.size_alloc, World.size_setCell, World.size_drew, size_drewN]; omega) | omega))) | exact hOa2.ext (by (repeat' (first | (with_reducible exact Below.refl _ _) | (with_reducible refine Below.mono (by assumption) ?_) | (with_reducible refine Below.trans ?_ (Below.mono (by assumption) ?_)) | (with_reducible refine Below.alloc ?_ ?_ _) | (with_reducible refine Below.drew ?_) | (with_reducible refine below_drewN ?_ _) | (with_reducible refine Below.setCell ?_ ?_ _) | (simp only [World.size_alloc, World.size_setCell, World.size_drew, size_drewN]; omega) | omega)))) ⟨bb, ob, none⟩ pre.length _ pre rfl rfl (n0 _ (HE.out.tr (HE9.out.tr (show Ext wc _ from by (repeat' (first | (with_reducible exact Below.refl _ _) | (with_reducible refine Below.mono (by assumption) ?_) | (with_reducible refine Below.trans ?_ (Below.mono (by assumption) ?_)) | (with_reducible refine Below.alloc ?_ ?_ _) | (with_reducible refine Below.drew ?_) | (with_reducible refine below_drewN ?_ _) | (with_reducible refine Below.setCell ?_ ?_ _) | (simp only [World.size_alloc, World.size_setCell, World.size_drew, size_drewN]; omega) | omega)))))) (by simp only [List.length_nil]; omega) (by simp only [World.size_alloc, World.size_drew]; omega) ?_
                 intro v1 w2 hO2 hg2 hat2
                 have hE2 : Ext wc w2 := by
                   refine Below.grown ?_ hg2 ?_ (fun g hg => by first | exact (World.ownsRow.lt hOa1 g hg).1 | exact (World.ownsRow.lt hOa2 g hg).1)
                   · (repeat' (first | (with_reducible exact Below.refl _ _) | (with_reducible refine Below.mono (by assumption) ?_) | (with_reducible refine Below.trans ?_ (Below.mono (by assumption) ?_)) | (with_reducible refine Below.alloc ?_ ?_ _) | (with_reducible refine Below.drew ?_) | (with_reducible refine below_drewN ?_ _) | (with_reducible refine Below.setCell ?_ ?_ _) | (simp only [World.size_alloc, World.size_setCell, World.size_drew, size_drewN]; omega) | omega))
                   · simp only [World.size_alloc, World.size_drew]; omega
                 have z2 := hE2.size
                 first
                 | (have hlx : w2.cell? ⟨wc.heap.size + 1, 0, none⟩ = some (.int .i64 x) := (hg2.cell_far ⟨wc.heap.size + 1, 0, none⟩ (by simp only [World.size_alloc, World.size_drew]; omega) (by show some (wc.heap.size + 1) ≠ some wc.heap.size; simp)).trans (by first | (simp; done) | (have := litF (wc.alloc (.cells #[] 3)).drew #[.int .i64 x] 3 0; simpa using this) | (have := litF (wc.alloc (.cells #[] 3)) #[.int .i64 x] 3 0; simpa using this)))
                 | (have hlx : w2.cell? ⟨wc.heap.size, 0, none⟩ = some (.int .i64 x) := (hg2.cell_far ⟨wc.heap.size, 0, none⟩ (by simp only [World.size_alloc, World.size_drew]; omega) (by show some wc.heap.size ≠ some (wc.heap.size + 1); simp)).trans ((show Ext (wc.alloc (.cells #[.int .i64 x] 3)) _ from by (repeat' (first | (with_reducible exact Below.refl _ _) | (with_reducible refine Below.mono (by assumption) ?_) | (with_reducible refine Below.trans ?_ (Below.mono (by assumption) ?_)) | (with_reducible refine Below.alloc ?_ ?_ _) | (with_reducible refine Below.drew ?_) | (with_reducible refine below_drewN ?_ _) | (with_reducible refine Below.setCell ?_ ?_ _) | (simp only [World.size_alloc, World.size_setCell, World.size_drew, size_drewN]; omega) | omega))).keep (by simp) ((litF wc #[.int .i64 x] 3 0).trans rfl)))
                 | skip)
              | (refine step_app1n rfl (.tmp 41) (.tmp 46) rfl wc.heap.size v1 rfl ([] ++ pre) (hO2.ext (by (repeat' (first | (with_reducible exact Below.refl _ _) | (with_reducible refine Below.mono (by assumption) ?_) | (with_reducible refine Below.trans ?_ (Below.mono (by assumption) ?_)) | (with_reducible refine Below.alloc ?_ ?_ _) | (with_reducible refine Below.drew ?_) | (with_reducible refine below_drewN ?_ _) | (with_reducible refine Below.setCell ?_ ?_ _) | (simp only [World.size_alloc, World.size_setCell, World.size_drew, size_drewN]; omega) | omega)))) ⟨_, 0, none⟩ 1 1 [x] rfl rfl (news_one (by first | exact hlx | exact (litF _ _ _ 0).trans rfl)) (by rw [List.nil_append, List.length_singleton]; omega) (by first | exact z2 | (simp only [World.size_alloc, World.size_drew]; omega)) ?_
                 intro v2 w3 hO3 hg3 hat3
                 have hE3 : Ext wc w3 := by
                   refine Below.grown ?_ hg3 ?_ (fun g hg => (World.ownsRow.lt hO2 g hg).1)
                   · (repeat' (first | (with_reducible exact Below.refl _ _) | (with_reducible refine Below.mono (by assumption) ?_) | (with_reducible refine Below.trans ?_ (Below.mono (by assumption) ?_)) | (with_reducible refine Below.alloc ?_ ?_ _) | (with_reducible refine Below.drew ?_) | (with_reducible refine below_drewN ?_ _) | (with_reducible refine Below.setCell ?_ ?_ _) | (simp only [World.size_alloc, World.size_setCell, World.size_drew, size_drewN]; omega) | omega))
                   · first | exact z2 | (simp only [World.size_alloc, World.size_drew]; omega)
                 rw [List.nil_append] at hO3
                 obtain ⟨g2, d2, rfl, hg2lo, hI3⟩ := own1_some hO3 hpx))
            all_goals
              have HE5 := Lib.hid (HE.out.tr (HE9.out.tr hE5))
              have HI5 := Lib.hid hI5
              clear hE5 hI5 hb5 hE3 hI3 hO3 hg3 hat3 hE2 hO2 hg2 hat2
            all_goals
              cases r with
              | none =>
                have HN2 := Lib.hid (show ∀ (j : Nat) y, j < k + 1 → rs[j]? = some y → fndR h all n (pre ++ [y]) = none from fun j y hj hy => by
                  by_cases e : j = k
                  · subst e
                    rw [HXk.out] at hy
                    cases hy
                    exact HRr.out
                  · exact HNo.out j y (by omega) hy)
                go_wp2
                go_roundw
                case measure => simp [intOf]; omega
                case rel => exact ⟨k + 1, by omega, by go_num, HN2.out, HE5.out⟩
              | some ys =>
                have HS := Lib.hid (some_at (G := fun x => fndR h all n (pre ++ [x])) HXk.out (fun j y hj hy => HNo.out j y hj hy) HRr.out)
                go_wp2
                go_ret2
                exact ⟨_, _, by rw [HS.out]; rfl, by rw [HS.out]; exact HI5.out, HE5.out, _, _, rfl⟩
        · obtain rfl : k = rs.length := by omega
          have HS := Lib.hid (none_all (G := fun x => fndR h all n (pre ++ [x])) (fun j y hy => HNo.out j y (List.getElem?_eq_some_iff.1 hy).1 hy))
          go_wp2
          go_ret2
          exact ⟨_, _, by rw [HS.out]; rfl, by rw [HS.out]; exact SlAt.nil, by (repeat' (first | (with_reducible exact Below.refl _ _) | (with_reducible refine Below.mono (by assumption) ?_) | (with_reducible refine Below.trans ?_ (Below.mono (by assumption) ?_)) | (with_reducible refine Below.alloc ?_ ?_ _) | (with_reducible refine Below.drew ?_) | (with_reducible refine below_drewN ?_ _) | (with_reducible refine Below.setCell ?_ ?_ _) | (simp only [World.size_alloc, World.size_setCell, World.size_drew, size_drewN]; omega) | omega)), _, _, rfl⟩
theorem fndV_all {h : List TxnT} (hv : histv h = true) : fndR h (dnT h h.length) (dnT h h.length).length [] = fndV h := by
  unfold fndR fndV
  rw [if_pos (show (runH h []).isSome = true from rfl), if_pos hv]
theorem dn_facts {h : List TxnT} (hv : histv h = true) : ∀ n, n ∈ dnT h h.length → ∃ (m : Nat) (t : TxnT), n = m ∧ m < h.length ∧ h[m]? = some t ∧ (∀ o ∈ t.ops, opv o = true) ∧ t.ops.length ≤ 6 := fun n hn => by
  obtain ⟨m, t, e, hm, ht, _⟩ := dnT_mem hn
  have h1 := histv_txn hv t (List.mem_of_getElem? ht)
  exact ⟨m, t, e, hm, ht, txnv_opv h1, txnv_len h1⟩
set_option maxHeartbeats 4000000 in
theorem specFindSerial_b (h : List TxnT) (S : Nat → Prop) (A : Option Addr) (c : Nat) (w : World) (hx : Txns S w A h) (hsm : Small h) :
    Calls Tryd.prog 86 #[.slice A h.length c] w (FoundB w.heap.size (fndV h) w) := by
  have C := fun w hx => specHistoryValid_c h S A c w hx hsm
  cases hv : histv h with
  | false =>
    rw [hv] at C
    have C := Lib.hid C
    have e : fndV h = none := by unfold fndV; rw [hv]; rfl
    rw [e]
    go_enter Tryd.func86, Tryd.ntmps86
    go_wp2_with (fail)
    go_at_call 26
    refine (C.out _ (hx.ext (by (repeat' (first | (with_reducible exact Below.refl _ _) | (with_reducible refine Below.mono (by assumption) ?_) | (with_reducible refine Below.trans ?_ (Below.mono (by assumption) ?_)) | (with_reducible refine Below.alloc ?_ ?_ _) | (with_reducible refine Below.drew ?_) | (with_reducible refine below_drewN ?_ _) | (with_reducible refine Below.setCell ?_ ?_ _) | (simp only [World.size_alloc, World.size_setCell, World.size_drew, size_drewN]; omega) | omega))))).mono ?_
    rintro e w1 ⟨rfl, hb⟩
    obtain ⟨hc, hf, hz, hs⟩ := bcell hb
    (try simp only [World.size_alloc, World.size_setCell, World.size_drew, size_drewN] at hs); (first | have l0 := Nat.lt_of_lt_of_le l0 (show _ ≤ w1.heap.size by omega) | have l0 : w.heap.size < w1.heap.size := (by omega) | skip); (try have l0e := Nat.le_of_lt l0); (try have l0f := Nat.le_add_right_of_le (k := 1) l0e); (try have l1 := Nat.lt_of_lt_of_le l1 (show _ ≤ w1.heap.size by omega)); (try have l1e := Nat.le_of_lt l1); (try have l1f := Nat.le_add_right_of_le (k := 1) l1e); (try have l2 := Nat.lt_of_lt_of_le l2 (show _ ≤ w1.heap.size by omega)); (try have l2e := Nat.le_of_lt l2); (try have l2f := Nat.le_add_right_of_le (k := 1) l2e); (try have l3 := Nat.lt_of_lt_of_le l3 (show _ ≤ w1.heap.size by omega)); (try have l3e := Nat.le_of_lt l3); (try have l3f := Nat.le_add_right_of_le (k := 1) l3e)
    go_wp2
    go_ret2
    exact ⟨_, _, rfl, SlAt.nil, by (repeat' (first | (with_reducible exact Below.refl _ _) | (with_reducible refine Below.mono (by assumption) ?_) | (with_reducible refine Below.trans ?_ (Below.mono (by assumption) ?_)) | (with_reducible refine Below.alloc ?_ ?_ _) | (with_reducible refine Below.drew ?_) | (with_reducible refine below_drewN ?_ _) | (with_reducible refine Below.setCell ?_ ?_ _) | (simp only [World.size_alloc, World.size_setCell, World.size_drew, size_drewN]; omega) | omega)), _, _, rfl⟩
  | true =>
    rw [hv] at C
    have C := Lib.hid C
    have CD := fun w hx => specDoneTxns_o h S A c w hx hsm hv
    have hdf := dn_facts hv
    have hnd := dnT_nodup (h := h) h.length
    have hdl := dnT_len h h.length
    have hh6 := histv_len hv
    have hfa := fndV_all hv
    generalize dnT h h.length = D at CD hdf hnd hdl hfa
    have CF := fun bb d Cc cc W h1 h2 hx hl hcc => l12Find_c h D hnd (by omega) hsm hdf D.length [] S Any Any A bb 0 Cc c d cc w.heap.size W h1 h2 (by rw [left_nil]) (fun x hx => by cases hx) (by simp only [List.length_nil]; omega) hx SlAt.nil hl hcc
    rw [hfa] at CF
    simp only [left_nil, List.length_nil] at CF
    generalize fndV h = r at CF
    have CF := Lib.hid CF
    have CD := Lib.hid CD
    have HX := Lib.hid hx
    clear hv hdf hnd hfa hx
    go_enter Tryd.func86, Tryd.ntmps86
    go_wp2_with (fail)
    go_at_call 26
    refine (C.out _ (HX.out.ext (by (repeat' (first | (with_reducible exact Below.refl _ _) | (with_reducible refine Below.mono (by assumption) ?_) | (with_reducible refine Below.trans ?_ (Below.mono (by assumption) ?_)) | (with_reducible refine Below.alloc ?_ ?_ _) | (with_reducible refine Below.drew ?_) | (with_reducible refine below_drewN ?_ _) | (with_reducible refine Below.setCell ?_ ?_ _) | (simp only [World.size_alloc, World.size_setCell, World.size_drew, size_drewN]; omega) | omega))))).mono ?_
    rintro e w1 ⟨rfl, hb⟩
    obtain ⟨hc, hf, hz, hs⟩ := bcell hb
    (try simp only [World.size_alloc, World.size_setCell, World.size_drew, size_drewN] at hs); (first | have l0 := Nat.lt_of_lt_of_le l0 (show _ ≤ w1.heap.size by omega) | have l0 : w.heap.size < w1.heap.size := (by omega) | skip); (try have l0e := Nat.le_of_lt l0); (try have l0f := Nat.le_add_right_of_le (k := 1) l0e); (try have l1 := Nat.lt_of_lt_of_le l1 (show _ ≤ w1.heap.size by omega)); (try have l1e := Nat.le_of_lt l1); (try have l1f := Nat.le_add_right_of_le (k := 1) l1e); (try have l2 := Nat.lt_of_lt_of_le l2 (show _ ≤ w1.heap.size by omega)); (try have l2e := Nat.le_of_lt l2); (try have l2f := Nat.le_add_right_of_le (k := 1) l2e); (try have l3 := Nat.lt_of_lt_of_le l3 (show _ ≤ w1.heap.size by omega)); (try have l3e := Nat.le_of_lt l3); (try have l3f := Nat.le_add_right_of_le (k := 1) l3e)
    have hE1 := hb
    clear hb hc hf hz
    go_wp2_with (fail)
    go_at_call 50
    refine (CD.out _ (HX.out.ext (hE1.tr (by (repeat' (first | (with_reducible exact Below.refl _ _) | (with_reducible refine Below.mono (by assumption) ?_) | (with_reducible refine Below.trans ?_ (Below.mono (by assumption) ?_)) | (with_reducible refine Below.alloc ?_ ?_ _) | (with_reducible refine Below.drew ?_) | (with_reducible refine below_drewN ?_ _) | (with_reducible refine Below.setCell ?_ ?_ _) | (simp only [World.size_alloc, World.size_setCell, World.size_drew, size_drewN]; omega) | omega)))))).mono ?_
    rintro e w2 ⟨v, rfl, hO, hb⟩
    obtain ⟨hc, hf, hz, hs⟩ := bcell hb
    (try simp only [World.size_alloc, World.size_setCell, World.size_drew, size_drewN] at hs); (first | have l0 := Nat.lt_of_lt_of_le l0 (show _ ≤ w2.heap.size by omega) | have l0 : w.heap.size < w2.heap.size := (by omega) | skip); (try have l0e := Nat.le_of_lt l0); (try have l0f := Nat.le_add_right_of_le (k := 1) l0e); (try have l1 := Nat.lt_of_lt_of_le l1 (show _ ≤ w2.heap.size by omega)); (try have l1e := Nat.le_of_lt l1); (try have l1f := Nat.le_add_right_of_le (k := 1) l1e); (try have l2 := Nat.lt_of_lt_of_le l2 (show _ ≤ w2.heap.size by omega)); (try have l2e := Nat.le_of_lt l2); (try have l2f := Nat.le_add_right_of_le (k := 1) l2e); (try have l3 := Nat.lt_of_lt_of_le l3 (show _ ≤ w2.heap.size by omega)); (try have l3e := Nat.le_of_lt l3); (try have l3f := Nat.le_add_right_of_le (k := 1) l3e)
    have hE2 : Ext w w2 := hE1.tr (by (repeat' (first | (with_reducible exact Below.refl _ _) | (with_reducible refine Below.mono (by assumption) ?_) | (with_reducible refine Below.trans ?_ (Below.mono (by assumption) ?_)) | (with_reducible refine Below.alloc ?_ ?_ _) | (with_reducible refine Below.drew ?_) | (with_reducible refine below_drewN ?_ _) | (with_reducible refine Below.setCell ?_ ?_ _) | (simp only [World.size_alloc, World.size_setCell, World.size_drew, size_drewN]; omega) | omega)))
    obtain ⟨Cc, cc, rfl, hI, hle⟩ := own1_capF hO
    have HI := Lib.hid (show Ints Any w2 Cc D from SlAt.mono hI (fun _ _ _ => trivial) (fun _ _ h => h))
    clear hb hc hf hz hO hI
    go_wp2_with (fail)
    go_at_call 106
    refine (CF.out _ _ _ _ _ (by have := hE2.size; omega) (by have := hE2.size; (try simp only [World.size_alloc]); omega) (HX.out.ext (hE2.tr (by (repeat' (first | (with_reducible exact Below.refl _ _) | (with_reducible refine Below.mono (by assumption) ?_) | (with_reducible refine Below.trans ?_ (Below.mono (by assumption) ?_)) | (with_reducible refine Below.alloc ?_ ?_ _) | (with_reducible refine Below.drew ?_) | (with_reducible refine below_drewN ?_ _) | (with_reducible refine Below.setCell ?_ ?_ _) | (simp only [World.size_alloc, World.size_setCell, World.size_drew, size_drewN]; omega) | omega))))) (Ints.ext HI.out (by (repeat' (first | (with_reducible exact Below.refl _ _) | (with_reducible refine Below.mono (by assumption) ?_) | (with_reducible refine Below.trans ?_ (Below.mono (by assumption) ?_)) | (with_reducible refine Below.alloc ?_ ?_ _) | (with_reducible refine Below.drew ?_) | (with_reducible refine below_drewN ?_ _) | (with_reducible refine Below.setCell ?_ ?_ _) | (simp only [World.size_alloc, World.size_setCell, World.size_drew, size_drewN]; omega) | omega)))) hle).mono ?_
    rintro e w3 ⟨A5, c5, rfl, hI5, hb, b5, o5, rfl⟩
    obtain ⟨hc, hf, hz, hs⟩ := bcell hb
    (try simp only [World.size_alloc, World.size_setCell, World.size_drew, size_drewN] at hs); (first | have l0 := Nat.lt_of_lt_of_le l0 (show _ ≤ w3.heap.size by omega) | have l0 : w.heap.size < w3.heap.size := (by omega) | skip); (try have l0e := Nat.le_of_lt l0); (try have l0f := Nat.le_add_right_of_le (k := 1) l0e); (try have l1 := Nat.lt_of_lt_of_le l1 (show _ ≤ w3.heap.size by omega)); (try have l1e := Nat.le_of_lt l1); (try have l1f := Nat.le_add_right_of_le (k := 1) l1e); (try have l2 := Nat.lt_of_lt_of_le l2 (show _ ≤ w3.heap.size by omega)); (try have l2e := Nat.le_of_lt l2); (try have l2f := Nat.le_add_right_of_le (k := 1) l2e); (try have l3 := Nat.lt_of_lt_of_le l3 (show _ ≤ w3.heap.size by omega)); (try have l3e := Nat.le_of_lt l3); (try have l3f := Nat.le_add_right_of_le (k := 1) l3e)
    have HI5 := Lib.hid hI5
    have HE3 := Lib.hid (hE2.tr (show Ext w2 w3 from by (repeat' (first | (with_reducible exact Below.refl _ _) | (with_reducible refine Below.mono (by assumption) ?_) | (with_reducible refine Below.trans ?_ (Below.mono (by assumption) ?_)) | (with_reducible refine Below.alloc ?_ ?_ _) | (with_reducible refine Below.drew ?_) | (with_reducible refine below_drewN ?_ _) | (with_reducible refine Below.setCell ?_ ?_ _) | (simp only [World.size_alloc, World.size_setCell, World.size_drew, size_drewN]; omega) | omega))))
    clear hb hc hf hz hI5
    go_wp2
    go_ret2
    exact ⟨_, _, rfl, HI5.out, HE3.out, _, _, rfl⟩
theorem specFindSerial_c (h : List TxnT) (S : Nat → Prop) (A : Option Addr) (c : Nat) (w : World) (hx : Txns S w A h) (hsm : Small h) :
    Calls Tryd.prog 86 #[.slice A h.length c] w (FoundS (fndV h) w) :=
  (specFindSerial_b h S A c w hx hsm).mono fun _ _ ⟨A', c', h1, h2, h3, _⟩ => ⟨A', c', h1, SlAt.mono h2 (fun _ _ _ => trivial) (fun _ _ h => h), h3⟩
end Go.Proofs.YtdgfipoibnjhaaaDoor
