/-
  FnOrdersValid: a drawn history and orders: the program's answer is the reference's; valid orders are valid turned round, too, and not without the first one.
-/
import Derived.Test.YtdgfipoibnjhaaaDoorOrdDr
import Derived.Test.YtdgfipoibnjhaaaDoorOrdQ
import Derived.Test.YtdgfipoibnjhaaaDoorOrdV
import Derived.Test.YtdgfipoibnjhaaaDoorLaid
import Derived.Test.YtdgfipoibnjhaaaDoorAlive
import Derived.BigQuiet
namespace Go.Proofs.YtdgfipoibnjhaaaDoor
set_option linter.unusedSimpArgs false
set_option linter.unusedVariables false
set_option maxRecDepth 100000
open Go.ChangeShapes Go.WideShapes Go.ChangeAt Go.RowKit Go.Joins

theorem l7v_rev (a b : List Int) : l7v a.reverse b = l7v a b := by
  unfold l7v
  simp only [List.count_reverse, List.length_reverse]
theorem ordV_rev (h : List TxnT) (R : List (List Int)) : ordV h (R.map List.reverse) = ordV h R := by
  have e : ∀ k : Nat, (R.map List.reverse).getD k [] = (R.getD k []).reverse := fun k => by
    rw [List.getD_eq_getElem?_getD, List.getD_eq_getElem?_getD, List.getElem?_map]
    cases R[k]? <;> rfl
  unfold ordV
  simp only [List.length_map, e, l7v_rev]
theorem ordV_lenO {h : List TxnT} {R : List (List Int)} (hl : R.length ≠ 3) : ordV h R = false := by
  unfold ordV
  rw [decide_eq_false hl]
  simp
theorem ordV_3 {h : List TxnT} {R : List (List Int)} (hv : ordV h R = true) : R.length = 3 := by
  cases Nat.decEq R.length 3 with
  | isTrue e => exact e
  | isFalse e => rw [ordV_lenO e] at hv; cases hv
theorem slat_drop1 {α : Type} {R : World → α → List Value → Prop} {S : Nat → Prop} {w : World} {b off : Nat} {xs : List α} (h : SlAt 1 R S w (some ⟨b, off, none⟩) xs) : SlAt 1 R S w (some ⟨b, off + 1, none⟩) (xs.drop 1) := by
  cases xs with
  | nil => exact SlAt.nil
  | cons x xs => exact SlAt.tl h
theorem drop_pred {l : List Int} {n : Nat} {x : Int} (h : l[n]? = some x) : (l.drop n).reverse = (l.drop (n + 1)).reverse ++ [x] := by
  obtain ⟨hn, e⟩ := List.getElem?_eq_some_iff.1 h
  rw [List.drop_eq_getElem_cons hn, List.reverse_cons, e]
set_option maxHeartbeats 8000000 in
theorem FnOrdersValid_c (xs : List Int) (A : Option Addr) (c : Nat) (w : World) (hx : Byts Any w A xs) (wf : Law.wfL Law.wfU8 xs) (hc : xs.length ≤ c) :
    Calls Tryd.prog 4 #[.slice A xs.length c] w fun e w' => e = .returned (.bool true) ∧ Ext w w' := by
  by_cases hl : 1048576 < xs.length
  · go_enter Tryd.func4, Tryd.ntmps4
    go_wp2
    go_ret
    exact ⟨rfl, by (repeat' (first | (with_reducible exact Below.refl _ _) | (with_reducible refine Below.mono (by assumption) ?_) | (with_reducible refine Below.trans ?_ (Below.mono (by assumption) ?_)) | (with_reducible refine Below.alloc ?_ ?_ _) | (with_reducible refine Below.drew ?_) | (with_reducible refine below_drewN ?_ _) | (with_reducible refine Below.setCell ?_ ?_ _) | (simp only [World.size_alloc, World.size_setCell, World.size_drew, size_drewN]; omega) | omega))⟩
  have HW : Hid (∀ x ∈ xs, 0 ≤ x ∧ x ≤ 255) := Lib.hid wf.2
  go_enter Tryd.func4, Tryd.ntmps4
  go_wp2_with (fail)
  go_at_call 14
  refine (DrawOrdersValid_c xs A c _ (hx.ext (by (repeat' (first | (with_reducible exact Below.refl _ _) | (with_reducible refine Below.mono (by assumption) ?_) | (with_reducible refine Below.trans ?_ (Below.mono (by assumption) ?_)) | (with_reducible refine Below.alloc ?_ ?_ _) | (with_reducible refine Below.drew ?_) | (with_reducible refine below_drewN ?_ _) | (with_reducible refine Below.setCell ?_ ?_ _) | (simp only [World.size_alloc, World.size_setCell, World.size_drew, size_drewN]; omega) | omega)))) HW.out hc).mono ?_
  rintro e w1 ⟨h, A2, c2, R, B, d, rfl, hc2, hTx, _, hsmall, hd, hRw, hso, hb⟩
  obtain ⟨hc, hf, hz, hs⟩ := bcell hb
  (try simp only [World.size_alloc, World.size_setCell, World.size_drew, size_drewN] at hs); (first | have l0 := Nat.lt_of_lt_of_le l0 (show _ ≤ w1.heap.size by omega) | have l0 : w.heap.size < w1.heap.size := (by omega) | skip); (try have l0e := Nat.le_of_lt l0); (try have l0f := Nat.le_add_right_of_le (k := 1) l0e); (try have l1 := Nat.lt_of_lt_of_le l1 (show _ ≤ w1.heap.size by omega)); (try have l1e := Nat.le_of_lt l1); (try have l1f := Nat.le_add_right_of_le (k := 1) l1e); (try have l2 := Nat.lt_of_lt_of_le l2 (show _ ≤ w1.heap.size by omega)); (try have l2e := Nat.le_of_lt l2); (try have l2f := Nat.le_add_right_of_le (k := 1) l2e); (try have l3 := Nat.lt_of_lt_of_le l3 (show _ ≤ w1.heap.size by omega)); (try have l3e := Nat.le_of_lt l3); (try have l3f := Nat.le_add_right_of_le (k := 1) l3e)
  have E1 := Lib.hid (show Ext w w1 from hb)
  have hsm := hsmall.small
  have hsr := hso.small
  have C := fun B' d' w R hx hr hs => implOrdersValid_c h R Any Any A2 B' c2 d' w hx hsm hr hs
  have D := fun w hx hr => specOrdersValid_c h R Any Any A2 B c2 d w hx hsm hr hsr
  have HC := Lib.hid C
  have HD := Lib.hid D
  have HX := Lib.hid (txns_anyO hTx)
  have HR := Lib.hid (rows_anyO hRw)
  have HSo := Lib.hid hso
  have HSr := Lib.hid hsr
  have hR3 := hso.1
  clear C D hTx hRw hb hc hf hz hso hsr
  cases hv : ordV h R with
  | false =>
    have HC1 := Lib.hid (fun w hx hr => HC.out B d w R hx hr HSr.out)
    rw [hv] at HC1 HD
    go_wp2_with (fail)
    go_at_call 15
    refine (HC1.out _ HX.out HR.out).mono ?_
    rintro e w2 ⟨rfl, hb⟩
    obtain ⟨hc, hf, hz, hs⟩ := bcell hb
    (try simp only [World.size_alloc, World.size_setCell, World.size_drew, size_drewN] at hs); (first | have l0 := Nat.lt_of_lt_of_le l0 (show _ ≤ w2.heap.size by omega) | have l0 : w.heap.size < w2.heap.size := (by omega) | skip); (try have l0e := Nat.le_of_lt l0); (try have l0f := Nat.le_add_right_of_le (k := 1) l0e); (try have l1 := Nat.lt_of_lt_of_le l1 (show _ ≤ w2.heap.size by omega)); (try have l1e := Nat.le_of_lt l1); (try have l1f := Nat.le_add_right_of_le (k := 1) l1e); (try have l2 := Nat.lt_of_lt_of_le l2 (show _ ≤ w2.heap.size by omega)); (try have l2e := Nat.le_of_lt l2); (try have l2f := Nat.le_add_right_of_le (k := 1) l2e); (try have l3 := Nat.lt_of_lt_of_le l3 (show _ ≤ w2.heap.size by omega)); (try have l3e := Nat.le_of_lt l3); (try have l3f := Nat.le_add_right_of_le (k := 1) l3e)
    have E12 := Lib.hid (show Ext w1 w2 from hb)
    clear hb hc hf hz
    go_wp2_with (fail)
    go_at_call 16
    refine (HD.out _ (HX.out.ext E12.out) (HR.out.ext E12.out)).mono ?_
    rintro e w3 ⟨rfl, hb⟩
    obtain ⟨hc, hf, hz, hs⟩ := bcell hb
    (try simp only [World.size_alloc, World.size_setCell, World.size_drew, size_drewN] at hs); (first | have l0 := Nat.lt_of_lt_of_le l0 (show _ ≤ w3.heap.size by omega) | have l0 : w.heap.size < w3.heap.size := (by omega) | skip); (try have l0e := Nat.le_of_lt l0); (try have l0f := Nat.le_add_right_of_le (k := 1) l0e); (try have l1 := Nat.lt_of_lt_of_le l1 (show _ ≤ w3.heap.size by omega)); (try have l1e := Nat.le_of_lt l1); (try have l1f := Nat.le_add_right_of_le (k := 1) l1e); (try have l2 := Nat.lt_of_lt_of_le l2 (show _ ≤ w3.heap.size by omega)); (try have l2e := Nat.le_of_lt l2); (try have l2f := Nat.le_add_right_of_le (k := 1) l2e); (try have l3 := Nat.lt_of_lt_of_le l3 (show _ ≤ w3.heap.size by omega)); (try have l3e := Nat.le_of_lt l3); (try have l3f := Nat.le_add_right_of_le (k := 1) l3e)
    have E13 := Lib.hid (E12.out.tr hb)
    clear hb hc hf hz
    go_wp2_with (fail)
    go_at_call 13
    refine (alive_c _).mono ?_
    rintro e w9 ⟨rfl, hb⟩
    obtain ⟨hc, hf, hz, hs⟩ := bcell hb
    (try simp only [World.size_alloc, World.size_setCell, World.size_drew, size_drewN] at hs); (first | have l0 := Nat.lt_of_lt_of_le l0 (show _ ≤ w9.heap.size by omega) | have l0 : w.heap.size < w9.heap.size := (by omega) | skip); (try have l0e := Nat.le_of_lt l0); (try have l0f := Nat.le_add_right_of_le (k := 1) l0e); (try have l1 := Nat.lt_of_lt_of_le l1 (show _ ≤ w9.heap.size by omega)); (try have l1e := Nat.le_of_lt l1); (try have l1f := Nat.le_add_right_of_le (k := 1) l1e); (try have l2 := Nat.lt_of_lt_of_le l2 (show _ ≤ w9.heap.size by omega)); (try have l2e := Nat.le_of_lt l2); (try have l2f := Nat.le_add_right_of_le (k := 1) l2e); (try have l3 := Nat.lt_of_lt_of_le l3 (show _ ≤ w9.heap.size by omega)); (try have l3e := Nat.le_of_lt l3); (try have l3f := Nat.le_add_right_of_le (k := 1) l3e)
    go_wp2
    go_ret
    exact ⟨rfl, (E1.out.tr E13.out).tr hb⟩
  | true =>
    have HL3 := Lib.hid (ordV_3 hv)
    have HV := Lib.hid hv
    have HC1 := Lib.hid (fun w hx hr => HC.out B d w R hx hr HSr.out)
    rw [hv] at HC1 HD
    have hl2 : 2 < R.length := by have := HL3.out; omega
    have hl0 : ((R.length : Int) == 0) = false := beq_eq_false_iff_ne.2 (by omega)
    go_wp2_with (fail)
    go_at_call 15
    refine (HC1.out _ HX.out HR.out).mono ?_
    rintro e w2 ⟨rfl, hb⟩
    obtain ⟨hc, hf, hz, hs⟩ := bcell hb
    (try simp only [World.size_alloc, World.size_setCell, World.size_drew, size_drewN] at hs); (first | have l0 := Nat.lt_of_lt_of_le l0 (show _ ≤ w2.heap.size by omega) | have l0 : w.heap.size < w2.heap.size := (by omega) | skip); (try have l0e := Nat.le_of_lt l0); (try have l0f := Nat.le_add_right_of_le (k := 1) l0e); (try have l1 := Nat.lt_of_lt_of_le l1 (show _ ≤ w2.heap.size by omega)); (try have l1e := Nat.le_of_lt l1); (try have l1f := Nat.le_add_right_of_le (k := 1) l1e); (try have l2 := Nat.lt_of_lt_of_le l2 (show _ ≤ w2.heap.size by omega)); (try have l2e := Nat.le_of_lt l2); (try have l2f := Nat.le_add_right_of_le (k := 1) l2e); (try have l3 := Nat.lt_of_lt_of_le l3 (show _ ≤ w2.heap.size by omega)); (try have l3e := Nat.le_of_lt l3); (try have l3f := Nat.le_add_right_of_le (k := 1) l3e)
    have E12 := Lib.hid (show Ext w1 w2 from hb)
    clear hb hc hf hz
    go_wp2_with (fail)
    go_at_call 16
    refine (HD.out _ (HX.out.ext E12.out) (HR.out.ext E12.out)).mono ?_
    rintro e w3 ⟨rfl, hb⟩
    obtain ⟨hc, hf, hz, hs⟩ := bcell hb
    (try simp only [World.size_alloc, World.size_setCell, World.size_drew, size_drewN] at hs); (first | have l0 := Nat.lt_of_lt_of_le l0 (show _ ≤ w3.heap.size by omega) | have l0 : w.heap.size < w3.heap.size := (by omega) | skip); (try have l0e := Nat.le_of_lt l0); (try have l0f := Nat.le_add_right_of_le (k := 1) l0e); (try have l1 := Nat.lt_of_lt_of_le l1 (show _ ≤ w3.heap.size by omega)); (try have l1e := Nat.le_of_lt l1); (try have l1f := Nat.le_add_right_of_le (k := 1) l1e); (try have l2 := Nat.lt_of_lt_of_le l2 (show _ ≤ w3.heap.size by omega)); (try have l2e := Nat.le_of_lt l2); (try have l2f := Nat.le_add_right_of_le (k := 1) l2e); (try have l3 := Nat.lt_of_lt_of_le l3 (show _ ≤ w3.heap.size by omega)); (try have l3e := Nat.le_of_lt l3); (try have l3f := Nat.le_add_right_of_le (k := 1) l3e)
    have E13 := Lib.hid (E12.out.tr hb)
    have HR3 := Lib.hid (HR.out.ext E13.out)
    clear hb hc hf hz hv HC1 HD
    go_wp2
    have HO := Lib.hid (OwnR.made w3 (B := w3.heap.size) #[] 0 (Nat.le_refl _) (by omega) rfl)
    go_loopw [6, 7] (fun v i wr => ∃ (k : Nat) (ps : List PR), k ≤ R.length ∧ i = .int .i64 k ∧ OwnR wr w3.heap.size v ps ∧ ps.map PR.xs = (R.take k).map List.reverse ∧ Ext w3 wr) (fun _ i _ => R.length - (intOf i).toNat)
    case atStart => exact ⟨0, [], Nat.zero_le _, rfl, HO.out, rfl, by (repeat' (first | (with_reducible exact Below.refl _ _) | (with_reducible refine Below.mono (by assumption) ?_) | (with_reducible refine Below.trans ?_ (Below.mono (by assumption) ?_)) | (with_reducible refine Below.alloc ?_ ?_ _) | (with_reducible refine Below.drew ?_) | (with_reducible refine below_drewN ?_ _) | (with_reducible refine Below.setCell ?_ ?_ _) | (simp only [World.size_alloc, World.size_setCell, World.size_drew, size_drewN]; omega) | omega))⟩
    case round =>
      obtain ⟨k, ps, hk, rfl, hown, hpm, hE⟩ := hrel
      have HOw := Lib.hid hown
      have HPm := Lib.hid hpm
      have HE := Lib.hid hE
      clear HO hown
      by_cases hlt : k < R.length
      · have hki : (k : Int) < R.length := by omega
        obtain ⟨l, A', cap, b, off, hxk, rfl, _, hb0, hI, cl⟩ := HR3.out.at_ hlt
        have hl36 : l.length ≤ 36 := HSo.out.2 l (List.mem_of_getElem? hxk)
        have cl2 := hE.keep hb0 cl
        have hb2 : b < wr.heap.size := by have := hE.size; omega
        have HXk := Lib.hid hxk
        have HI := Lib.hid hI
        have hpl : ps.length = k := by
          have := congrArg List.length hpm
          simpa [List.length_take, Nat.min_eq_left hk] using this
        have hpl3 : ps.length ≤ 3 := by omega
        have hezr := hE.size
        obtain ⟨wo, hwo⟩ : ∃ wo, wo = wr := ⟨_, rfl⟩
        subst hwo
        have HOb := Lib.hid (Own1.made wo (e := 3) (base := wo.heap.size) #[] 0 rfl (Nat.le_refl _) (by omega) rfl)
        clear hpm hxk hI hE hpl
        go_wp2
        go_loopw [8, 9] (fun v i wi => ∃ n : Nat, n ≤ l.length ∧ i = .int .i64 ((n : Int) - 1) ∧ Own1 wi wo.heap.size 3 v (l.drop n).reverse ∧ Ext wo wi) (fun _ i _ => (intOf i + 1).toNat)
        case atStart => exact ⟨l.length, Nat.le_refl _, rfl, by rw [List.drop_length]; exact HOb.out, by (repeat' (first | (with_reducible exact Below.refl _ _) | (with_reducible refine Below.mono (by assumption) ?_) | (with_reducible refine Below.trans ?_ (Below.mono (by assumption) ?_)) | (with_reducible refine Below.alloc ?_ ?_ _) | (with_reducible refine Below.drew ?_) | (with_reducible refine below_drewN ?_ _) | (with_reducible refine Below.setCell ?_ ?_ _) | (simp only [World.size_alloc, World.size_setCell, World.size_drew, size_drewN]; omega) | omega))⟩
        case round =>
          obtain ⟨n, hn, rfl, hown, hE2⟩ := hrel
          have HE2 := Lib.hid hE2
          have HO2 := Lib.hid hown
          clear HOb
          by_cases h0 : n = 0
          · have hn1 : ((n : Int) - 1 < 0) = True := by simp only [eq_iff_iff, iff_true]; omega
            have hn2 : ¬ (0 ≤ (n : Int) - 1) := by omega
            have e0 : l.drop n = l := by rw [h0]; rfl
            rw [e0] at hown
            obtain ⟨A9, c9, rfl, hI9, hf9⟩ := hown.form
            have how := HOw.out.ext hE2
            have hnew := (HOw.out).new (w1 := wr) (c := c9) (by omega) hI9 hf9
            have HN := Lib.hid hnew
            have HO9 := Lib.hid how
            have hz9 := hE2.size
            clear hown hnew how hI9 hf9 hE2 h0 e0
            generalize hn9 : l.reverse.length = n9 at *
            have hlitc : (wr.alloc (.cells #[.slice A9 n9 c9] 41)).cell? ⟨wr.heap.size, 0, none⟩ = some (PR.cell ⟨A9, c9, l.reverse⟩) := by
              unfold PR.cell
              rw [hn9]
              exact ((Blk.new wr 41 _).cell 0).trans rfl
            have HLc := Lib.hid hlitc
            clear hlitc
            go_wp2_with (at_builtin; go_loud (refine wpList_appendR _ rfl _ _ 37 rfl Tryd.underlying37 infoRow rfl _ ps rfl (B := w3.heap.size) (HO9.out.ext (by (repeat' (first | (with_reducible exact Below.refl _ _) | (with_reducible refine Below.mono (by assumption) ?_) | (with_reducible refine Below.trans ?_ (Below.mono (by assumption) ?_)) | (with_reducible refine Below.alloc ?_ ?_ _) | (with_reducible refine Below.drew ?_) | (with_reducible refine below_drewN ?_ _) | (with_reducible refine Below.setCell ?_ ?_ _) | (simp only [World.size_alloc, World.size_setCell, World.size_drew, size_drewN]; omega) | omega)))) ⟨A9, c9, l.reverse⟩ (HN.out.1.ext (by (repeat' (first | (with_reducible exact Below.refl _ _) | (with_reducible refine Below.mono (by assumption) ?_) | (with_reducible refine Below.trans ?_ (Below.mono (by assumption) ?_)) | (with_reducible refine Below.alloc ?_ ?_ _) | (with_reducible refine Below.drew ?_) | (with_reducible refine below_drewN ?_ _) | (with_reducible refine Below.setCell ?_ ?_ _) | (simp only [World.size_alloc, World.size_setCell, World.size_drew, size_drewN]; omega) | omega)))) HN.out.2.1 HN.out.2.2 _ rfl HLc.out (by omega) ?_ ?_))
            · first | omega | (simp only [World.size_alloc]; omega)
            · intro v' w' hown' hgrow
              have hE9 : Ext w3 w' := Below.grown ((HE.out.tr HE2.out).tr (show Ext wr (wr.alloc (.cells #[.slice A9 n9 c9] 41)) by (repeat' (first | (with_reducible exact Below.refl _ _) | (with_reducible refine Below.mono (by assumption) ?_) | (with_reducible refine Below.trans ?_ (Below.mono (by assumption) ?_)) | (with_reducible refine Below.alloc ?_ ?_ _) | (with_reducible refine Below.drew ?_) | (with_reducible refine below_drewN ?_ _) | (with_reducible refine Below.setCell ?_ ?_ _) | (simp only [World.size_alloc, World.size_setCell, World.size_drew, size_drewN]; omega) | omega)))) hgrow (by first | omega | (simp only [World.size_alloc]; omega)) (fun g hg => (HO9.out.lt g hg).1)
              have HO8 := Lib.hid hown'
              have HE8 := Lib.hid hE9
              clear hown' hgrow hE9
              go_wp2
              go_roundw
              case measure => simp [intOf]; omega
              case rel => exact ⟨k + 1, _, by omega, by go_num, HO8.out, by rw [List.map_append, HPm.out, List.take_add_one, HXk.out]; simp, HE8.out⟩
          · obtain ⟨m, rfl⟩ : ∃ m, n = m + 1 := ⟨n - 1, by omega⟩
            have hmi : ((m + 1 : Nat) : Int) - 1 = (m : Int) := by omega
            have hml : m < l.length := by omega
            have hml2 : (m : Int) < l.length := by omega
            obtain ⟨x, b8, off8, hxm, rfl, _, hb8, cx⟩ := HI.out.at_ hml
            have cx2 := (HE.out.tr hE2).keep hb8 cx
            have cl3 := hE2.keep hb2 cl2
            have HDp := Lib.hid (drop_pred hxm)
            have hb8' : b8 < wr.heap.size := by have := (HE.out.tr hE2).size; omega
            have hb3 : b < wr.heap.size := by have := hE2.size; omega
            have hz9 := hE2.size
            have hki2 : (k : Int) < (R.length : Int) := hki
            clear hown hxm hE2 h0
            have hln : (l.drop (m + 1)).reverse.length ≤ 36 := by rw [List.length_reverse, List.length_drop]; omega
            go_wp2_with (at_builtin; go_loud (refine wpList_append1_at _ rfl _ _ 41 rfl wo.heap.size 3 Tryd.underlying41 info1 rfl _ ((l.drop (m + 1)).reverse) rfl (HO2.out.ext (by (repeat' (first | (with_reducible exact Below.refl _ _) | (with_reducible refine Below.mono (by assumption) ?_) | (with_reducible refine Below.trans ?_ (Below.mono (by assumption) ?_)) | (with_reducible refine Below.alloc ?_ ?_ _) | (with_reducible refine Below.drew ?_) | (with_reducible refine below_drewN ?_ _) | (with_reducible refine Below.setCell ?_ ?_ _) | (simp only [World.size_alloc, World.size_setCell, World.size_drew, size_drewN]; omega) | omega)))) _ x rfl ?_ ?_ ?_ ?_))
            · first | (simp; done) | simp [World.cell?_alloc_new]
            · omega
            · simp only [World.size_alloc]; omega
            · intro v' w' hown' hgrow _
              have hE8 : Ext wo w' := Below.grown (HE2.out.tr (show Ext wr (wr.alloc (.cells #[.int .i64 x] 3)) by (repeat' (first | (with_reducible exact Below.refl _ _) | (with_reducible refine Below.mono (by assumption) ?_) | (with_reducible refine Below.trans ?_ (Below.mono (by assumption) ?_)) | (with_reducible refine Below.alloc ?_ ?_ _) | (with_reducible refine Below.drew ?_) | (with_reducible refine below_drewN ?_ _) | (with_reducible refine Below.setCell ?_ ?_ _) | (simp only [World.size_alloc, World.size_setCell, World.size_drew, size_drewN]; omega) | omega)))) hgrow (by simp only [World.size_alloc]; omega) (fun g hg => (World.ownsRow.lt HO2.out g hg).1)
              rw [← HDp.out] at hown'
              have HO8 := Lib.hid hown'
              have HE8 := Lib.hid hE8
              clear hown' hgrow hE8
              go_wp2
              go_roundw
              case measure => simp [intOf]
              case rel => exact ⟨m, by omega, by go_num, HO8.out, HE8.out⟩
      · obtain rfl : k = R.length := by omega
        obtain ⟨A9, c9, f9, he9, hRI, _⟩ := OwnR.fresh (w := w3) HOw.out (Nat.le_refl _) HE.out
        have hpl : ps.map PR.xs = R.map List.reverse := by rw [HPm.out, List.take_length]
        rw [hpl] at he9 hRI
        injection he9 with he9
        subst he9
        have HR9 := Lib.hid hRI.rows
        have hso2 : SmallO (R.map List.reverse) := ⟨by rw [List.length_map]; exact HSo.out.1, fun l hl => by
          obtain ⟨l0, hl0, rfl⟩ := List.mem_map.1 hl
          rw [List.length_reverse]
          exact HSo.out.2 l0 hl0⟩
        have hsr2 := hso2.small
        have CT : Hid (∀ w, Txns Any w A2 h → Rows2 Any w A9 (R.map List.reverse) → Calls Tryd.prog 15 #[.slice A2 h.length c2, .slice A9 (R.map List.reverse).length c9] w fun e w' => e = .returned (.bool true) ∧ Ext w w') := Lib.hid (fun w hx hr => by
          have := HC.out A9 c9 w _ hx hr hsr2
          rw [ordV_rev, HV.out] at this
          exact this)
        rw [List.length_map] at CT
        obtain ⟨_, _, _, b0, off0, _, rfl, _, _, _, _⟩ := HR3.out.at_ (i := 0) (by omega)
        have HRt := Lib.hid (show Rows2 Any w3 (some ⟨b0, off0 + 1, none⟩) (R.drop 1) from slat_drop1 HR3.out)
        have hso3 : SmallO (R.drop 1) := ⟨by rw [List.length_drop]; have := HSo.out.1; omega, fun l hl => HSo.out.2 l (List.mem_of_mem_drop hl)⟩
        have hsr3 := hso3.small
        have CU : Hid (∀ d w, Txns Any w A2 h → Rows2 Any w (some ⟨b0, off0 + 1, none⟩) (R.drop 1) → Calls Tryd.prog 15 #[.slice A2 h.length c2, .slice (some ⟨b0, off0 + 1, none⟩) (R.length - 1) d] w fun e w' => e = .returned (.bool false) ∧ Ext w w') := Lib.hid (fun d w hx hr => by
          have := HC.out _ d w (R.drop 1) hx hr hsr3
          rw [ordV_lenO (by rw [List.length_drop]; have := HL3.out; omega), List.length_drop] at this
          exact this)
        have hdR : R.length ≤ d := hd
        have hcc : ¬ (d - 1 = 0) := by omega
        have hcc2 : ¬ (d ≤ 1) := by omega
        have hcc3 : ¬ ((d : Int) = 1) := by omega
        have hkc : (R.length : Int) ≤ (d : Int) := by omega
        have hk7 : (1 : Int) ≤ (R.length : Int) := by omega
        clear hRI hpl hso2 hsr2 hso3 hsr3 hlt HC
        rw [List.length_map]
        go_wp2_with (fail)
        go_at_call 15
        refine (CT.out _ (HX.out.ext ((E13.out.tr HE.out).tr (by (repeat' (first | (with_reducible exact Below.refl _ _) | (with_reducible refine Below.mono (by assumption) ?_) | (with_reducible refine Below.trans ?_ (Below.mono (by assumption) ?_)) | (with_reducible refine Below.alloc ?_ ?_ _) | (with_reducible refine Below.drew ?_) | (with_reducible refine below_drewN ?_ _) | (with_reducible refine Below.setCell ?_ ?_ _) | (simp only [World.size_alloc, World.size_setCell, World.size_drew, size_drewN]; omega) | omega))))) (HR9.out.ext (by (repeat' (first | (with_reducible exact Below.refl _ _) | (with_reducible refine Below.mono (by assumption) ?_) | (with_reducible refine Below.trans ?_ (Below.mono (by assumption) ?_)) | (with_reducible refine Below.alloc ?_ ?_ _) | (with_reducible refine Below.drew ?_) | (with_reducible refine below_drewN ?_ _) | (with_reducible refine Below.setCell ?_ ?_ _) | (simp only [World.size_alloc, World.size_setCell, World.size_drew, size_drewN]; omega) | omega))))).mono ?_
        rintro e w4 ⟨rfl, hb⟩
        obtain ⟨hc, hf, hz, hs⟩ := bcell hb
        (try simp only [World.size_alloc, World.size_setCell, World.size_drew, size_drewN] at hs); (first | have l0 := Nat.lt_of_lt_of_le l0 (show _ ≤ w4.heap.size by omega) | have l0 : w.heap.size < w4.heap.size := (by omega) | skip); (try have l0e := Nat.le_of_lt l0); (try have l0f := Nat.le_add_right_of_le (k := 1) l0e); (try have l1 := Nat.lt_of_lt_of_le l1 (show _ ≤ w4.heap.size by omega)); (try have l1e := Nat.le_of_lt l1); (try have l1f := Nat.le_add_right_of_le (k := 1) l1e); (try have l2 := Nat.lt_of_lt_of_le l2 (show _ ≤ w4.heap.size by omega)); (try have l2e := Nat.le_of_lt l2); (try have l2f := Nat.le_add_right_of_le (k := 1) l2e); (try have l3 := Nat.lt_of_lt_of_le l3 (show _ ≤ w4.heap.size by omega)); (try have l3e := Nat.le_of_lt l3); (try have l3f := Nat.le_add_right_of_le (k := 1) l3e)
        have E34 := Lib.hid (HE.out.tr hb)
        clear hb hc hf hz CT
        go_wp2_with (fail)
        go_at_call 15
        refine (CU.out _ _ (HX.out.ext (E13.out.tr (E34.out.tr (by (repeat' (first | (with_reducible exact Below.refl _ _) | (with_reducible refine Below.mono (by assumption) ?_) | (with_reducible refine Below.trans ?_ (Below.mono (by assumption) ?_)) | (with_reducible refine Below.alloc ?_ ?_ _) | (with_reducible refine Below.drew ?_) | (with_reducible refine below_drewN ?_ _) | (with_reducible refine Below.setCell ?_ ?_ _) | (simp only [World.size_alloc, World.size_setCell, World.size_drew, size_drewN]; omega) | omega)))))) (HRt.out.ext (E34.out.tr (by (repeat' (first | (with_reducible exact Below.refl _ _) | (with_reducible refine Below.mono (by assumption) ?_) | (with_reducible refine Below.trans ?_ (Below.mono (by assumption) ?_)) | (with_reducible refine Below.alloc ?_ ?_ _) | (with_reducible refine Below.drew ?_) | (with_reducible refine below_drewN ?_ _) | (with_reducible refine Below.setCell ?_ ?_ _) | (simp only [World.size_alloc, World.size_setCell, World.size_drew, size_drewN]; omega) | omega)))))).mono ?_
        rintro e w5 ⟨rfl, hb⟩
        obtain ⟨hc, hf, hz, hs⟩ := bcell hb
        (try simp only [World.size_alloc, World.size_setCell, World.size_drew, size_drewN] at hs); (first | have l0 := Nat.lt_of_lt_of_le l0 (show _ ≤ w5.heap.size by omega) | have l0 : w.heap.size < w5.heap.size := (by omega) | skip); (try have l0e := Nat.le_of_lt l0); (try have l0f := Nat.le_add_right_of_le (k := 1) l0e); (try have l1 := Nat.lt_of_lt_of_le l1 (show _ ≤ w5.heap.size by omega)); (try have l1e := Nat.le_of_lt l1); (try have l1f := Nat.le_add_right_of_le (k := 1) l1e); (try have l2 := Nat.lt_of_lt_of_le l2 (show _ ≤ w5.heap.size by omega)); (try have l2e := Nat.le_of_lt l2); (try have l2f := Nat.le_add_right_of_le (k := 1) l2e); (try have l3 := Nat.lt_of_lt_of_le l3 (show _ ≤ w5.heap.size by omega)); (try have l3e := Nat.le_of_lt l3); (try have l3f := Nat.le_add_right_of_le (k := 1) l3e)
        go_wp2
        go_ret
        exact ⟨rfl, (E1.out.tr (E13.out.tr E34.out)).tr hb⟩

theorem FnOrdersValid_reads (os : Os) {H : Type} (enc : TypeId × Value → H) : ∃ places, DataW.whole enc Tryd.prog ((Law.laidWorld os).forCall (fun _ _ => 0) ⟨#[], #[.slice none 0 0], []⟩).memory Tryd.f4.params.toList Rows.fnOrdersValidSpec.vars false (#[.slice none 0 0] : Array Value).toList 8 = some ([.nil], [], places) :=
  ⟨[], by kernel_rfl⟩
theorem FnOrdersValid_laid (os : Os) : laidMet Tryd.prog Rows.fnOrdersValidRow.laid ((Law.laidWorld os).forCall (fun _ _ => 0) ⟨#[], #[.slice none 0 0], []⟩).memory :=
  laidMet_of_run' 8 (by kernel_rfl) (by kernel_rfl)
set_option maxRecDepth 100000 in
theorem FnOrdersValid_lifted (os : Os) (started : os.Started) (H : Type) (enc : TypeId × Value → H) (F : Stop.Interp) :
    ReturnsInHanded {} Tryd.checked os 4 .any ((OpenSpec.ofChange Rows.fnOrdersValidSpec).preRow enc Tryd.prog Tryd.f4 Rows.fnOrdersValidRow.domain false Rows.fnOrdersValidRow.laid) (((OpenSpec.ofChange Rows.fnOrdersValidSpec).at F).post enc Tryd.prog Tryd.f4 false true false false) := by
  obtain ⟨places, hx⟩ := FnOrdersValid_reads os enc
  refine returnsInHanded_of_row (C := Tryd.checked) (s := OpenSpec.ofChange Rows.fnOrdersValidSpec) Law.own started (by kernel_rfl) Tryd.func4
    (witness_row_at (enc := enc) (C := Tryd.checked) false (Law.laidWorld os) #[.slice none 0 0] rfl (by kernel_rfl) (by kernel_rfl) (by kernel_rfl)
      (OpenSpec.preRow_of_cond 8 hx (by kernel_rfl) (fun k hk => by cases hk) (by kernel_rfl) (FnOrdersValid_laid os))) ?_
  intro W base args ds gs before hval0 hW _ _ _ hLaid _ _
  have hval : ∀ (j : Nat) t v, Tryd.f4.params[j]? = some t → args[j]? = some v → Value.okWide Tryd.prog W .any base t v := hval0
  have hW' := hW
  obtain ⟨p, q, hA0, hV, rfl, hfz, hnd⟩ := hW
  have hA : DataW.TrodAll enc Tryd.prog W 0 (fun _ => true) true Tryd.f4.params.toList args.toList ds p := hA0
  rw [Tryd.params4] at hA hval
  obtain ⟨v0, vs0, d0, ds0, p0, q0, hargs, hds, rfl, h0, r0⟩ := trodAll_cons hA
  obtain ⟨rfl, rfl, rfl⟩ := trodAll_nil r0
  obtain rfl : args = #[v0] := by cases args; simp_all
  subst hds
  obtain ⟨x0, A0, c0, rfl, hO0, wf0⟩ := Law.open_bytes Tryd.underlying22 Tryd.underlying5 (by kernel_rfl) (hval 0 22 v0 rfl rfl) h0
  refine (FnOrdersValid_c x0 A0 c0 W hO0 wf0 (Law.bytes_cap Tryd.underlying22 (hval 0 22 _ rfl rfl))).mono fun e W' ⟨he, hb⟩ => ?_
  subst he
  refine ⟨_, rfl, Law.post_true Law.laidOut ?_ rfl rfl Tryd.underlying4 ⟨rfl, rfl, rfl⟩ hW' hb⟩
  intro t ht
  rw [Tryd.params4] at ht
  simp only [List.mem_cons, List.not_mem_nil, or_false] at ht
  first | (rcases ht with rfl <;> exact ⟨by kernel_rfl, of_decide_eq_true (by kernel_rfl)⟩)

theorem FnOrdersValid_holds : Rows.FnOrdersValidSaid :=
  OpenClaim.holds_of_cond 4 Tryd.f4 rfl rfl rfl rfl rfl rfl rfl ⟨rfl, rfl, rfl, rfl, rfl⟩ rfl rfl rfl rfl rfl (by kernel_rfl) Tryd.func4 (by kernel_rfl)
    (of_decide_eq_true (by kernel_rfl)) (by unfold Func.isWrapper; first | (rw [if_pos (by decide +kernel)]; kernel_rfl) | (rw [if_neg (by decide +kernel)]; exact ⟨rfl, rfl⟩))
    (fun os started H enc _ F => by rw [OpenClaim.pre_eq_preRow]; exact FnOrdersValid_lifted os started H enc F)
theorem FnOrdersValid_plain (f : FuncId) (fn : Func) (hf : Tryd.pinned.checked.prog.funcNamed Rows.fnOrdersValidRow.func = some f) (hfn : Tryd.pinned.checked.prog.funcs[f]? = some fn) :
    false = Tryd.pinned.checked.prog.looks [] ∧ ∀ (j : Nat) t, fn.params[j]? = some t → Tryd.pinned.checked.prog.wantsStandIn t = false := by
  obtain rfl : f = 4 := Option.some.inj ((show Tryd.prog.funcNamed Rows.fnOrdersValidRow.func = some 4 by kernel_rfl).symm.trans hf) |>.symm
  obtain rfl : fn = Tryd.f4 := (Option.some.inj (Tryd.func4.symm.trans hfn)).symm
  refine ⟨by kernel_rfl, fun j t ht => ?_⟩
  rw [Tryd.params4] at ht
  have hm := Array.mem_of_getElem? ht
  simp only [List.mem_toArray, List.mem_cons, List.not_mem_nil, or_false] at hm
  rcases hm with rfl
  · exact (show Tryd.prog.wantsStandIn 22 = false by kernel_rfl)
theorem FnOrdersValid_card : Rows.FnOrdersValidCardSaid :=
  Claim7.holds_tied_plain_at .later [] _ _ _ _ FnOrdersValid_holds (fun _ h => by cases h) (by kernel_rfl) (fun _ h => by cases h) fnOrdersValid_row_tie rfl ⟨rfl, rfl⟩ (by kernel_rfl) rfl FnOrdersValid_plain (by kernel_rfl)

end Go.Proofs.YtdgfipoibnjhaaaDoor
