/-
  Contracts of ReadsRight, the reference's and the program's.
-/
import Derived.Test.YtmbdacfgmiielaaGreatGBadD24
import Derived.Test.YtmbdacfgmiielaaGreatBadI
import Derived.Test.YtmbdacfgmiielaaGreatGDrawH12
namespace Go.Proofs.YtmbdacfgmiielaaGreat
set_option linter.unusedSimpArgs false
set_option linter.unusedVariables false
set_option maxRecDepth 100000
open Go.RowKit

theorem Ops.drop {S : Nat → Prop} {w : World} {b off : Nat} {xs : List T3} (h : Ops S w (some ⟨b, off, none⟩) xs) (k : Nat) : Ops S w (some ⟨b, off + k * 3, none⟩) (xs.drop k) := by
  intro i x hx
  rw [List.getElem?_drop] at hx
  obtain ⟨b', off', us, e, hS, hb, hl, hr, hc⟩ := h (k + i) x hx
  cases e
  refine ⟨b, off + k * 3, us, rfl, hS, hb, hl, hr, fun j u hu => ?_⟩
  have := hc j u hu
  rwa [show off + (k + i) * 3 + j = off + k * 3 + i * 3 + j by omega] at this
set_option maxHeartbeats 4000000 in
theorem early_c (t : TxnT) (S : Nat → Prop) (A : Option Addr) (c : Nat) (w : World) (hx : Ops S w A t.ops) (hn : t.ops.length ≤ 6) (hcap : t.ops.length ≤ c) :
    Calls Tryz.prog 90 #[.agg #[.int .i64 t.sess, .slice A t.ops.length c, .bool t.done]] w fun e w' => e = .returned (.bool (earlyB t.ops)) ∧ Ext w w' := by
  obtain ⟨s, ops, d⟩ := t
  simp only at hx hn hcap ⊢
  have heq := eqOp_run
  have hgd := eqOp_guard
  go_enter Tryz.func90, Tryz.ntmps90
  go_wp2
  go_loopw [10] (fun i wr => ∃ k : Nat, k ≤ ops.length ∧ i = .int .i64 k ∧ earlyB (ops.drop k) = earlyB ops ∧ Ext (w.alloc (.cells #[.int .i64 s, .slice A ops.length c, .bool d] 39)) wr) (fun i _ => ops.length - (intOf i).toNat)
  case atStart => exact ⟨0, Nat.zero_le _, rfl, rfl, by (repeat' (first | (with_reducible exact Below.refl _ _) | (with_reducible refine Below.mono (by assumption) ?_) | (with_reducible refine Below.trans ?_ (Below.mono (by assumption) ?_)) | (with_reducible refine Below.alloc ?_ ?_ _) | (with_reducible refine Below.drew ?_) | (with_reducible refine below_drewN ?_ _) | (with_reducible refine Below.setCell ?_ ?_ _) | (simp only [World.size_alloc, World.size_setCell, World.size_drew, size_drewN]; omega) | omega))⟩
  case round =>
    obtain ⟨k, hk, rfl, hdr, hE⟩ := hrel
    obtain ⟨wo, rfl⟩ : ∃ wo : World, wo = wr := ⟨_, rfl⟩
    obtain ⟨p0, p1, p2⟩ := box3 hE
    have hE0 : Ext w wo := by have h := hE.size; simp only [World.size_alloc] at h; (repeat' (first | (with_reducible exact Below.refl _ _) | (with_reducible refine Below.mono (by assumption) ?_) | (with_reducible refine Below.trans ?_ (Below.mono (by assumption) ?_)) | (with_reducible refine Below.alloc ?_ ?_ _) | (with_reducible refine Below.drew ?_) | (with_reducible refine below_drewN ?_ _) | (with_reducible refine Below.setCell ?_ ?_ _) | (simp only [World.size_alloc, World.size_setCell, World.size_drew, size_drewN]; omega) | omega))
    have lw : w.heap.size < wo.heap.size := by have := hE.size; simp only [World.size_alloc] at this; omega
    have HD := Lib.hid hdr
    clear hdr
    by_cases hlt : k < ops.length
    · obtain ⟨x0, x1, x2, b, off, hxk, rfl, _, hb0, c0, c1, c2⟩ := (hx.ext hE0).at_ hlt
      have hen := earlyB_none hxk
      have HN := Lib.hid hen
      clear hen hxk
      have l0w : b < wo.heap.size := hb0
      by_cases hc1 : c = k + 1
      · subst hc1
        obtain hle : ops.length = k + 1 := by omega
        have hdn : ops.drop (k + 1) = [] := List.drop_eq_nil_of_le (by omega)
        have hnx : earlyB (ops.drop (k + 1)) = earlyB ops := by
          rw [← HD.out, HN.out, hdn]
          simp
        have HX := Lib.hid hnx
        have HLE := Lib.hid hle
        have hsub : ops.length - (k + 1) = 0 := by omega
        clear hnx hdn hle
        go_wp2
        go_loopw [21] (fun i W => i = .int .i64 0 ∧ Ext (w.alloc (.cells #[.int .i64 s, .slice (some ⟨b, off, none⟩) ops.length (k + 1), .bool d] 39)) W) (fun _ _ => 0)
        case atStart => exact ⟨rfl, hE.tr (by (repeat' (first | (with_reducible exact Below.refl _ _) | (with_reducible refine Below.mono (by assumption) ?_) | (with_reducible refine Below.trans ?_ (Below.mono (by assumption) ?_)) | (with_reducible refine Below.alloc ?_ ?_ _) | (with_reducible refine Below.drew ?_) | (with_reducible refine below_drewN ?_ _) | (with_reducible refine Below.setCell ?_ ?_ _) | (simp only [World.size_alloc, World.size_setCell, World.size_drew, size_drewN]; omega) | omega)))⟩
        case round =>
          obtain ⟨rfl, hE3⟩ := hrel
          go_wp2
          exact ⟨⟨k + 1, by omega, by go_num, HX.out, hE3⟩, by simp [intOf]; omega⟩
      · have hdrop := Ops.drop hx (k + 1)
        have hdl : (ops.drop (k + 1)).length = ops.length - (k + 1) := List.length_drop
        go_wp2
        generalize hLg : ops.drop (k + 1) = L at HN hdrop hdl
        rw [← hdl]
        have hLb : L.length ≤ 6 := by omega
        clear hdl
        go_loopw [21] (fun i W => ∃ j : Nat, j ≤ L.length ∧ i = .int .i64 j ∧ AllTo (fun x : T3 => !(decide (x0 = 1) && decide (x = (⟨2, x1, x2⟩ : T3)))) L j ∧ Ext ((wo.alloc (.cells #[.int .i64 x0, .int .i64 x1, .int .i64 x2] 62))) W) (fun i _ => L.length - (intOf i).toNat)
        case atStart => exact ⟨0, Nat.zero_le _, rfl, AllTo.zero, by (repeat' (first | (with_reducible exact Below.refl _ _) | (with_reducible refine Below.mono (by assumption) ?_) | (with_reducible refine Below.trans ?_ (Below.mono (by assumption) ?_)) | (with_reducible refine Below.alloc ?_ ?_ _) | (with_reducible refine Below.drew ?_) | (with_reducible refine below_drewN ?_ _) | (with_reducible refine Below.setCell ?_ ?_ _) | (simp only [World.size_alloc, World.size_setCell, World.size_drew, size_drewN]; omega) | omega))⟩
        case round =>
          obtain ⟨j, hj, rfl, hall, hE3⟩ := hrel
          obtain ⟨q0, q1, q2⟩ := box3 hE3
          have HA := Lib.hid hall
          clear hall
          have hEr : Ext wo wr := by have h := hE3.size; simp only [World.size_alloc] at h; (repeat' (first | (with_reducible exact Below.refl _ _) | (with_reducible refine Below.mono (by assumption) ?_) | (with_reducible refine Below.trans ?_ (Below.mono (by assumption) ?_)) | (with_reducible refine Below.alloc ?_ ?_ _) | (with_reducible refine Below.drew ?_) | (with_reducible refine below_drewN ?_ _) | (with_reducible refine Below.setCell ?_ ?_ _) | (simp only [World.size_alloc, World.size_setCell, World.size_drew, size_drewN]; omega) | omega))
          have hEb : Ext (w.alloc (.cells #[.int .i64 s, .slice (some ⟨b, off, none⟩) ops.length c, .bool d] 39)) wr := hE.tr hEr
          have low : wo.heap.size < wr.heap.size := by have := hE3.size; simp only [World.size_alloc] at this; omega
          by_cases hlt2 : j < L.length
          · obtain ⟨y0, y1, y2, b2, off2, hyk, hb2e, _, hb2, d0, d1, d2⟩ := (hdrop.ext (hE0.tr hEr)).at_ hlt2
            cases hb2e
            have HY := Lib.hid hyk
            clear hyk
            go_wp2_with (fail)
            go_at_call 79
            refine (reads_c _ _ _ _).mono ?_
            rintro e w5 ⟨rfl, hb⟩
            obtain ⟨r0, r1, r2⟩ := box3 hb
            have e5 : Ext wr w5 := by (repeat' (first | (with_reducible exact Below.refl _ _) | (with_reducible refine Below.mono (by assumption) ?_) | (with_reducible refine Below.trans ?_ (Below.mono (by assumption) ?_)) | (with_reducible refine Below.alloc ?_ ?_ _) | (with_reducible refine Below.drew ?_) | (with_reducible refine below_drewN ?_ _) | (with_reducible refine Below.setCell ?_ ?_ _) | (simp only [World.size_alloc, World.size_setCell, World.size_drew, size_drewN]; omega) | omega))
            have s0 := e5.keep low q0
            have s1 := e5.keep low q1
            have s2 := e5.keep low q2
            have hE5 := hEb.tr e5
            have hE6 := hE3.tr e5
            clear hb q0 q1 q2
            by_cases h1 : x0 = 1
            · subst h1
              have hr : ((1 : Int) == 1) = true := rfl
              by_cases h2 : (⟨y0, y1, y2⟩ : T3) = ⟨2, x1, x2⟩
              · have hd2 : decide ((⟨y0, y1, y2⟩ : T3) = ⟨2, x1, x2⟩) = true := decide_eq_true h2
                have hyl : L[j]? = some ⟨y0, y1, y2⟩ := HY.out
                have hx1 : earlyB ops = true := by
                  rw [← HD.out, HN.out, Bool.or_eq_true, Bool.and_eq_true]
                  exact .inl ⟨by simp, List.any_eq_true.2 ⟨_, List.mem_of_getElem? hyl, hd2⟩⟩
                have HX := Lib.hid hx1
                obtain ⟨rfl, rfl, rfl⟩ : y0 = 2 ∧ y1 = x1 ∧ y2 = x2 := by simpa using h2
                clear hx1 h2 hd2 hyl
                go_wp2
                go_ret
                exact ⟨ret_bool (by rw [HX.out]), hE0.tr (hEr.tr e5)⟩
              · have hd2 : decide ((⟨y0, y1, y2⟩ : T3) = ⟨2, x1, x2⟩) = false := decide_eq_false h2
                have HS := Lib.hid (HA.out.step HY.out (by simp [h2]))
                have H2 := Lib.hid h2
                clear h2 hd2
                go_wp2
                · rename_i hw
                  exact absurd (by simpa using hw) H2.out
                · exact ⟨⟨j + 1, by omega, by go_num, HS.out, hE6⟩, by simp [intOf]; omega⟩
            · have hr : (x0 == 1) = false := by simpa using h1
              have HS := Lib.hid (HA.out.step HY.out (by simp [h1]))
              clear h1
              go_wp2
              exact ⟨⟨j + 1, by omega, by go_num, HS.out, hE6⟩, by simp [intOf]; omega⟩
          · obtain rfl : j = L.length := by omega
            have hal := HA.out.all
            have hnx : earlyB L = earlyB ops := by
              rw [← HD.out, HN.out]
              have h2 : (decide (x0 = 1) && L.any fun x => decide (x = (⟨2, x1, x2⟩ : T3))) = false := by
                by_cases h1 : x0 = 1
                · rw [Bool.and_eq_false_iff]
                  right
                  rw [List.any_eq_false]
                  intro x hx
                  have := List.all_eq_true.1 hal x hx
                  simpa [h1] using this
                · simp [h1]
              show earlyB L = ((decide (x0 = 1) && L.any fun x => decide (x = (⟨2, x1, x2⟩ : T3))) || earlyB L)
              rw [h2]
              rfl
            have HX := Lib.hid hnx
            clear hnx hal
            go_wp2
            exact ⟨⟨k + 1, by omega, by go_num, by rw [hLg]; exact HX.out, hEb⟩, by simp [intOf]; omega⟩
    · obtain rfl : k = ops.length := by omega
      have hz : earlyB ops = false := by rw [← HD.out, List.drop_length]; rfl
      have HZ := Lib.hid hz
      clear hz
      go_wp2
      go_ret
      exact ⟨ret_bool (by rw [HZ.out]), hE0⟩

set_option maxHeartbeats 4000000 in
theorem implReadsRight_c (h : List TxnT) (S : Nat → Prop) (A : Option Addr) (c : Nat) (w : World) (hx : Txns S w A h) (hsm : Small h) (hcap : Caps w A h.length) :
    Calls Tryz.prog 56 #[.slice A h.length c] w fun e w' => e = .returned (.bool (rrI h)) ∧ Ext w w' := by
  have C := fun w hx => implHistoryValid_c h S A c w hx hsm
  cases hv : histv h with
  | false =>
    rw [hv] at C
    have hr : rrI h = false := by unfold rrI; rw [hv]; rfl
    rw [hr]
    have C := Lib.hid C
    clear hr hv
    go_enter Tryz.func56, Tryz.ntmps56
    go_wp2_with (fail)
    go_at_call 43
    refine (C.out _ (hx.ext (by (repeat' (first | (with_reducible exact Below.refl _ _) | (with_reducible refine Below.mono (by assumption) ?_) | (with_reducible refine Below.trans ?_ (Below.mono (by assumption) ?_)) | (with_reducible refine Below.alloc ?_ ?_ _) | (with_reducible refine Below.drew ?_) | (with_reducible refine below_drewN ?_ _) | (with_reducible refine Below.setCell ?_ ?_ _) | (simp only [World.size_alloc, World.size_setCell, World.size_drew, size_drewN]; omega) | omega))))).mono ?_
    rintro e w1 ⟨rfl, hb⟩
    obtain ⟨hc, hf, hz, hs⟩ := bcell hb
    (try simp only [World.size_alloc, World.size_setCell, World.size_drew, size_drewN] at hs); (first | have l0 := Nat.lt_of_lt_of_le l0 (show _ ≤ w1.heap.size by omega) | have l0 : w.heap.size < w1.heap.size := (by omega) | skip); (try have l0e := Nat.le_of_lt l0); (try have l0f := Nat.le_add_right_of_le (k := 1) l0e); (try have l1 := Nat.lt_of_lt_of_le l1 (show _ ≤ w1.heap.size by omega)); (try have l1e := Nat.le_of_lt l1); (try have l1f := Nat.le_add_right_of_le (k := 1) l1e); (try have l2 := Nat.lt_of_lt_of_le l2 (show _ ≤ w1.heap.size by omega)); (try have l2e := Nat.le_of_lt l2); (try have l2f := Nat.le_add_right_of_le (k := 1) l2e); (try have l3 := Nat.lt_of_lt_of_le l3 (show _ ≤ w1.heap.size by omega)); (try have l3e := Nat.le_of_lt l3); (try have l3f := Nat.le_add_right_of_le (k := 1) l3e)
    go_wp2
    go_ret
    exact ⟨rfl, by (repeat' (first | (with_reducible exact Below.refl _ _) | (with_reducible refine Below.mono (by assumption) ?_) | (with_reducible refine Below.trans ?_ (Below.mono (by assumption) ?_)) | (with_reducible refine Below.alloc ?_ ?_ _) | (with_reducible refine Below.drew ?_) | (with_reducible refine below_drewN ?_ _) | (with_reducible refine Below.setCell ?_ ?_ _) | (simp only [World.size_alloc, World.size_setCell, World.size_drew, size_drewN]; omega) | omega))⟩
  | true =>
    have hn := histv_len hv
    rw [hv] at C
    have CB := fun q w hx => implBadReads_c h S A c q w hx hsm
    have hbs := fun q => bads_small hsm q
    have hno := noBad_of (h := h)
    have hnt := fun q => noBad_not (h := h) (q := q)
    generalize hBD : bads h = BD at CB hbs hno hnt
    have CD := fun w hx => done_c h S A c w hx hsm
    have hmem := fun n => dnT_mem (h := h) (k := h.length) (n := n)
    have hrd := rrI_done hv
    have hrb := rrI_bad (h := h)
    have hdl := dnT_len h h.length
    have htv := histv_txn hv
    generalize dnT h h.length = D at CD hmem hrd hdl
    generalize rrI h = RR at hrd hrb ⊢
    generalize noBad h = NB at hno hnt hrd hrb
    have C := Lib.hid C
    have CB := Lib.hid CB
    have CD := Lib.hid CD
    have HM := Lib.hid hmem
    have HRD := Lib.hid hrd
    have HRB := Lib.hid hrb
    have HNO := Lib.hid hno
    have HNT := Lib.hid hnt
    have HTV := Lib.hid htv
    clear hmem hrd hrb hno hnt hBD hv htv
    go_enter Tryz.func56, Tryz.ntmps56
    go_wp2_with (fail)
    go_at_call 43
    refine (C.out _ (hx.ext (by (repeat' (first | (with_reducible exact Below.refl _ _) | (with_reducible refine Below.mono (by assumption) ?_) | (with_reducible refine Below.trans ?_ (Below.mono (by assumption) ?_)) | (with_reducible refine Below.alloc ?_ ?_ _) | (with_reducible refine Below.drew ?_) | (with_reducible refine below_drewN ?_ _) | (with_reducible refine Below.setCell ?_ ?_ _) | (simp only [World.size_alloc, World.size_setCell, World.size_drew, size_drewN]; omega) | omega))))).mono ?_
    rintro e w1 ⟨rfl, hb⟩
    obtain ⟨hc, hf, hz, hs⟩ := bcell hb
    (try simp only [World.size_alloc, World.size_setCell, World.size_drew, size_drewN] at hs); (first | have l0 := Nat.lt_of_lt_of_le l0 (show _ ≤ w1.heap.size by omega) | have l0 : w.heap.size < w1.heap.size := (by omega) | skip); (try have l0e := Nat.le_of_lt l0); (try have l0f := Nat.le_add_right_of_le (k := 1) l0e); (try have l1 := Nat.lt_of_lt_of_le l1 (show _ ≤ w1.heap.size by omega)); (try have l1e := Nat.le_of_lt l1); (try have l1f := Nat.le_add_right_of_le (k := 1) l1e); (try have l2 := Nat.lt_of_lt_of_le l2 (show _ ≤ w1.heap.size by omega)); (try have l2e := Nat.le_of_lt l2); (try have l2f := Nat.le_add_right_of_le (k := 1) l2e); (try have l3 := Nat.lt_of_lt_of_le l3 (show _ ≤ w1.heap.size by omega)); (try have l3e := Nat.le_of_lt l3); (try have l3f := Nat.le_add_right_of_le (k := 1) l3e)
    have e1 : Ext w w1 := by (repeat' (first | (with_reducible exact Below.refl _ _) | (with_reducible refine Below.mono (by assumption) ?_) | (with_reducible refine Below.trans ?_ (Below.mono (by assumption) ?_)) | (with_reducible refine Below.alloc ?_ ?_ _) | (with_reducible refine Below.drew ?_) | (with_reducible refine below_drewN ?_ _) | (with_reducible refine Below.setCell ?_ ?_ _) | (simp only [World.size_alloc, World.size_setCell, World.size_drew, size_drewN]; omega) | omega))
    clear hc hf hz hb
    go_wp2
    go_loopw [3] (fun i wr => ∃ q : Nat, 1 ≤ q ∧ q ≤ 5 ∧ i = .int .i64 q ∧ (∀ j : Int, 1 ≤ j → j < q → BD j = []) ∧ Ext w wr) (fun i _ => 5 - (intOf i).toNat)
    case atStart => exact ⟨1, by omega, by omega, rfl, fun j h1 h2 => by omega, e1⟩
    case round =>
      obtain ⟨q, hq1, hq5, rfl, hall, hE⟩ := hrel
      have HA := Lib.hid hall
      clear hall
      by_cases hlt : q ≤ 4
      · skip
        go_wp2_with (fail)
        go_at_call 89
        refine (CB.out q _ (hx.ext hE)).mono ?_
        rintro e w3 ⟨A3, c3, rfl, hW, hf3, hb⟩
        obtain ⟨hc, hf, hz, hs⟩ := bcell hb
        (try simp only [World.size_alloc, World.size_setCell, World.size_drew, size_drewN] at hs); (first | have l0 := Nat.lt_of_lt_of_le l0 (show _ ≤ w3.heap.size by omega) | have l0 : w.heap.size < w3.heap.size := (by omega) | skip); (try have l0e := Nat.le_of_lt l0); (try have l0f := Nat.le_add_right_of_le (k := 1) l0e); (try have l1 := Nat.lt_of_lt_of_le l1 (show _ ≤ w3.heap.size by omega)); (try have l1e := Nat.le_of_lt l1); (try have l1f := Nat.le_add_right_of_le (k := 1) l1e); (try have l2 := Nat.lt_of_lt_of_le l2 (show _ ≤ w3.heap.size by omega)); (try have l2e := Nat.le_of_lt l2); (try have l2f := Nat.le_add_right_of_le (k := 1) l2e); (try have l3 := Nat.lt_of_lt_of_le l3 (show _ ≤ w3.heap.size by omega)); (try have l3e := Nat.le_of_lt l3); (try have l3f := Nat.le_add_right_of_le (k := 1) l3e)
        have e3 := hE.tr hb
        have hbq := hbs q
        clear hc hf hz hb hW hf3
        by_cases hnil : BD q = []
        · have hl : (BD q).length = 0 := by rw [hnil]; rfl
          have HN := Lib.hid hnil
          clear hnil
          go_wp2
          exact ⟨⟨q + 1, by omega, by omega, by go_num, fun j h1 h2 => by
            rcases Int.lt_or_le j q with h3 | h3
            · exact HA.out j h1 h3
            · obtain rfl : j = q := by omega
              exact HN.out, e3⟩, by simp [intOf]; omega⟩
        · have hl : 0 < (BD q).length := List.length_pos_iff.2 hnil
          have hr : RR = false := HRB.out (HNT.out q (by omega) (by omega) hnil)
          have HR := Lib.hid hr
          clear hnil hr
          go_wp2
          go_ret
          exact ⟨ret_bool (by rw [HR.out]), e3⟩
      · obtain rfl : q = 5 := by omega
        have hnb : NB = true := HNO.out (fun j h1 h2 => HA.out j h1 (by omega))
        have hrd := HRD.out hnb
        have HR := Lib.hid hrd
        clear hnb hrd
        go_wp2_with (fail)
        go_at_call 51
        refine (CD.out _ (hx.ext hE)).mono ?_
        rintro e w3 ⟨A3, c3, rfl, hD, hfD, hb⟩
        have e3 := hE.tr hb
        clear hb hfD
        go_wp2
        go_loopw [21] (fun i wr => ∃ k : Nat, k ≤ D.length ∧ i = .int .i64 k ∧ AllTo (fun n => !earlyN h n) D k ∧ Ext w3 wr) (fun i _ => D.length - (intOf i).toNat)
        case atStart => exact ⟨0, Nat.zero_le _, rfl, AllTo.zero, Below.refl _ _⟩
        case round =>
          obtain ⟨k, hk, rfl, hall, hE4⟩ := hrel
          have e4 := e3.tr hE4
          have HA4 := Lib.hid hall
          clear hall
          by_cases hlt4 : k < D.length
          · obtain ⟨x, bd, offd, hxk, rfl, _, hbd, cd⟩ := (hD.ext hE4).at_ hlt4
            obtain ⟨m, t, rfl, hm, hmt, hmd⟩ := HM.out x (List.mem_of_getElem? hxk)
            obtain ⟨s, ops, d, A', cap, b, off, hxm, rfl, _, hb0, hOp, c0, c1, c2⟩ := hx.at_ hm
            rw [hmt] at hxm
            cases hxm
            have hle := (hcap b off rfl).2 m hm A' ops.length cap c1
            have hon := (HTV.out _ (List.mem_of_getElem? hmt))
            have hon6 : ops.length ≤ 6 := by
              simp only [txnv, Bool.and_eq_true, decide_eq_true_eq] at hon
              omega
            have f0 := e4.keep hb0 c0
            have f1 := e4.keep hb0 c1
            have f2 := e4.keep hb0 c2
            have hen : earlyN h m = earlyB ops := by unfold earlyN; rw [Int.toNat_natCast, hmt]
            have HE := Lib.hid hen
            have HX := Lib.hid hxk
            clear hen hxk hmt hmd hon c0 c1 c2
            have CE : Hid (∀ w, Ops S w A' ops → Calls Tryz.prog 90 #[.agg #[.int .i64 s, .slice A' ops.length cap, .bool d]] w fun e w' => e = .returned (.bool (earlyB ops)) ∧ Ext w w') := Lib.hid (fun w hx => early_c ⟨s, ops, d⟩ S A' cap w hx hon6 hle)
            generalize earlyB ops = EB at CE HE
            go_wp2_with (fail)
            go_at_call 90
            refine (CE.out _ (hOp.ext e4)).mono ?_
            rintro e w5 ⟨rfl, hb⟩
            obtain ⟨hc, hf, hz, hs⟩ := bcell hb
            (try simp only [World.size_alloc, World.size_setCell, World.size_drew, size_drewN] at hs); (first | have l0 := Nat.lt_of_lt_of_le l0 (show _ ≤ w5.heap.size by omega) | have l0 : w.heap.size < w5.heap.size := (by omega) | skip); (try have l0e := Nat.le_of_lt l0); (try have l0f := Nat.le_add_right_of_le (k := 1) l0e); (try have l1 := Nat.lt_of_lt_of_le l1 (show _ ≤ w5.heap.size by omega)); (try have l1e := Nat.le_of_lt l1); (try have l1f := Nat.le_add_right_of_le (k := 1) l1e); (try have l2 := Nat.lt_of_lt_of_le l2 (show _ ≤ w5.heap.size by omega)); (try have l2e := Nat.le_of_lt l2); (try have l2f := Nat.le_add_right_of_le (k := 1) l2e); (try have l3 := Nat.lt_of_lt_of_le l3 (show _ ≤ w5.heap.size by omega)); (try have l3e := Nat.le_of_lt l3); (try have l3f := Nat.le_add_right_of_le (k := 1) l3e)
            have e5 := hE4.tr hb
            clear hc hf hz hb
            cases EB with
            | true =>
              have hr : RR = false := by
                rw [HR.out, List.all_eq_false]
                exact ⟨_, List.mem_of_getElem? HX.out, by rw [HE.out]; simp⟩
              have HRR := Lib.hid hr
              clear hr
              go_wp2
              go_ret
              exact ⟨ret_bool (by rw [HRR.out]), e3.tr e5⟩
            | false =>
              have HS := Lib.hid (HA4.out.step HX.out (by rw [HE.out]; rfl))
              go_wp2
              exact ⟨⟨k + 1, by omega, by go_num, HS.out, e5⟩, by simp [intOf]; omega⟩
          · obtain rfl : k = D.length := by omega
            have hal := HA4.out.all
            rw [← HR.out] at hal
            have HRR := Lib.hid hal
            clear hal
            go_wp2
            go_ret
            exact ⟨ret_bool (by rw [HRR.out]), e4⟩
end Go.Proofs.YtmbdacfgmiielaaGreat
