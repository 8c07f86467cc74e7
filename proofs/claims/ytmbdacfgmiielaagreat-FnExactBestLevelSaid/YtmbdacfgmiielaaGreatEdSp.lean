/-
  The reference's EdgesOf.
-/
import Derived.Test.YtmbdacfgmiielaaGreatEdS
import Derived.Test.YtmbdacfgmiielaaGreatGBadD24
import Derived.Deep.RegionHeld3
import Derived.Deep.AppendLies
namespace Go.Proofs.YtmbdacfgmiielaaGreat
set_option linter.unusedSimpArgs false
set_option linter.unusedVariables false
set_option maxRecDepth 100000
open Go.RowKit

/-- append of one edge, inside a region that draws -/
theorem step_app3 {ops : Array Oper} {o : Oper} {a : Act} {w : World} {K : Act → World → Prop} {Q : Exit → Act → World → Prop} {E : Prop} (hg : o.guard = none) (s x : Operand)
    (hop : o.op = Op.call { callee := Callee.builtin Builtin.append, args := #[s, x], argTypes := #[55, 55] }) (base : Nat) (v : Value) (hs : a.eval s = v) (xs : List T3) (hown : Own3 w base 76 v xs) (B : Nat) (x0 x1 x2 : Int) (hx : a.eval x = .slice (some ⟨B, 0, none⟩) 1 1)
    (c0 : w.cell? ⟨B, 0, none⟩ = some (.int .i64 x0)) (c1 : w.cell? ⟨B, 1, none⟩ = some (.int .i64 x1)) (c2 : w.cell? ⟨B, 2, none⟩ = some (.int .i64 x2)) (hl : xs.length ≤ 1048576) (hbase : base ≤ w.heap.size)
    (hK : ∀ v' w', Own3 w' base 76 v' (xs ++ [⟨x0, x1, x2⟩]) → w.grownBy w' v.ownBlock → K (a.put o.dst v') w') :
    if Region.wanted o (yielded ops a.tmps) = true then Oper.wp Tryz.prog o a w K Q else E := by
  obtain ⟨i0, hi, hz0, hz1, hz2⟩ := info_parts infoEdgeS
  refine step_append_lies w hg s x _ hop base _ i0 _ 3 24 Tryz.underlying55 hi hz0 hz1 hz2 rfl (by decide) v xs.length (flat3 xs) hs hown ⟨B, 0, none⟩ 1 1 [.int .i64 x0, .int .i64 x1, .int .i64 x2] hx rfl ?_ ?_ (by omega) (by unfold maxLen; omega) (by omega) hbase _ rfl (fun g cap w' h1 h2 _ _ => hK _ w' ?_ h2)
  · intro j u hu
    match j, hu with
    | 0, hu => cases hu; exact c0
    | 1, hu => cases hu; exact c1
    | 2, hu => cases hu; exact c2
    | j + 3, hu => simp at hu
  · intro u hu
    simp at hu
    rcases hu with rfl | rfl | rfl <;> rfl
  · unfold Own3
    rw [flat3_app, List.length_append]
    exact h1
set_option maxHeartbeats 8000000 in
theorem specEdgesOf_c (h : List TxnT) (R : List (List Int)) (S S' : Nat → Prop) (A B : Option Addr) (c d : Nat) (w : World) (hx : Txns S w A h) (hsm : Small h) (hr : Rows2 S' w B R) (hrs : SmallR R) :
    Calls Tryz.prog 39 #[.slice A h.length c, .slice B R.length d] w (Fresh (edgesV h R) w) := by
  have CO := fun w hx hr => specOrdersValid_c h R S S' A B c d w hx hsm hr hrs
  have CW := Lib.hid (fun key val w hx => l5Writer_c h S A c key val w hx hsm)
  have hsl := hsm.len
  have HX := Lib.hid hx
  have HR := Lib.hid hr
  clear hx hr
  cases hv : ordV h R with
  | false =>
    rw [hv] at CO
    have CO := Lib.hid CO
    have e : edgesV h R = [] := by simp [edgesV, hv]
    rw [e]
    have hO : Own3 (w.alloc (.cells #[] 76)) w.heap.size 76 (.slice (some ⟨w.heap.size, 0, none⟩) 0 0) [] := Own3.made w #[] 0 rfl (Nat.le_refl _) (by omega) rfl
    go_enter Tryz.func39, Tryz.ntmps39
    go_wp2_with (go_at_call 38; refine (CO.out _ (HX.out.ext (by (repeat' (first | (with_reducible exact Below.refl _ _) | (with_reducible refine Below.mono (by assumption) ?_) | (with_reducible refine Below.trans ?_ (Below.mono (by assumption) ?_)) | (with_reducible refine Below.alloc ?_ ?_ _) | (with_reducible refine Below.drew ?_) | (with_reducible refine below_drewN ?_ _) | (with_reducible refine Below.setCell ?_ ?_ _) | (simp only [World.size_alloc, World.size_setCell, World.size_drew, size_drewN]; omega) | omega)))) (HR.out.ext (by (repeat' (first | (with_reducible exact Below.refl _ _) | (with_reducible refine Below.mono (by assumption) ?_) | (with_reducible refine Below.trans ?_ (Below.mono (by assumption) ?_)) | (with_reducible refine Below.alloc ?_ ?_ _) | (with_reducible refine Below.drew ?_) | (with_reducible refine below_drewN ?_ _) | (with_reducible refine Below.setCell ?_ ?_ _) | (simp only [World.size_alloc, World.size_setCell, World.size_drew, size_drewN]; omega) | omega))))).mono ?_; rintro e w1 ⟨rfl, hb⟩; obtain ⟨hc, hf, hz, hs⟩ := bcell hb; (try simp only [World.size_alloc, World.size_setCell, World.size_drew, size_drewN] at hs); (first | have l0 := Nat.lt_of_lt_of_le l0 (show _ ≤ w1.heap.size by omega) | have l0 : w.heap.size < w1.heap.size := (by omega) | skip); (try have l0e := Nat.le_of_lt l0); (try have l0f := Nat.le_add_right_of_le (k := 1) l0e); (try have l1 := Nat.lt_of_lt_of_le l1 (show _ ≤ w1.heap.size by omega)); (try have l1e := Nat.le_of_lt l1); (try have l1f := Nat.le_add_right_of_le (k := 1) l1e); (try have l2 := Nat.lt_of_lt_of_le l2 (show _ ≤ w1.heap.size by omega)); (try have l2e := Nat.le_of_lt l2); (try have l2f := Nat.le_add_right_of_le (k := 1) l2e); (try have l3 := Nat.lt_of_lt_of_le l3 (show _ ≤ w1.heap.size by omega)); (try have l3e := Nat.le_of_lt l3); (try have l3f := Nat.le_add_right_of_le (k := 1) l3e))
    all_goals go_ret
    all_goals exact (hO.ext hb).fresh (Nat.le_refl _) (by (repeat' (first | (with_reducible exact Below.refl _ _) | (with_reducible refine Below.mono (by assumption) ?_) | (with_reducible refine Below.trans ?_ (Below.mono (by assumption) ?_)) | (with_reducible refine Below.alloc ?_ ?_ _) | (with_reducible refine Below.drew ?_) | (with_reducible refine below_drewN ?_ _) | (with_reducible refine Below.setCell ?_ ?_ _) | (simp only [World.size_alloc, World.size_setCell, World.size_drew, size_drewN]; omega) | omega)))
  | true =>
    rw [hv] at CO
    have CO := Lib.hid CO
    have H3 := Lib.hid (ord3 hv)
    have HV := Lib.hid hv
    have hR3 : 2 < R.length := by have := H3.out.len; omega
    have hO : Own3 (w.alloc (.cells #[] 76)) w.heap.size 76 (.slice (some ⟨w.heap.size, 0, none⟩) 0 0) [] := Own3.made w #[] 0 rfl (Nat.le_refl _) (by omega) rfl
    clear hv
    go_enter Tryz.func39, Tryz.ntmps39
    go_wp2_with (fail)
    go_at_call 38
    refine (CO.out _ (HX.out.ext (by (repeat' (first | (with_reducible exact Below.refl _ _) | (with_reducible refine Below.mono (by assumption) ?_) | (with_reducible refine Below.trans ?_ (Below.mono (by assumption) ?_)) | (with_reducible refine Below.alloc ?_ ?_ _) | (with_reducible refine Below.drew ?_) | (with_reducible refine below_drewN ?_ _) | (with_reducible refine Below.setCell ?_ ?_ _) | (simp only [World.size_alloc, World.size_setCell, World.size_drew, size_drewN]; omega) | omega)))) (HR.out.ext (by (repeat' (first | (with_reducible exact Below.refl _ _) | (with_reducible refine Below.mono (by assumption) ?_) | (with_reducible refine Below.trans ?_ (Below.mono (by assumption) ?_)) | (with_reducible refine Below.alloc ?_ ?_ _) | (with_reducible refine Below.drew ?_) | (with_reducible refine below_drewN ?_ _) | (with_reducible refine Below.setCell ?_ ?_ _) | (simp only [World.size_alloc, World.size_setCell, World.size_drew, size_drewN]; omega) | omega))))).mono ?_
    rintro e w1 ⟨rfl, hb⟩
    obtain ⟨hc, hf, hz, hs⟩ := bcell hb
    (try simp only [World.size_alloc, World.size_setCell, World.size_drew, size_drewN] at hs); (first | have l0 := Nat.lt_of_lt_of_le l0 (show _ ≤ w1.heap.size by omega) | have l0 : w.heap.size < w1.heap.size := (by omega) | skip); (try have l0e := Nat.le_of_lt l0); (try have l0f := Nat.le_add_right_of_le (k := 1) l0e); (try have l1 := Nat.lt_of_lt_of_le l1 (show _ ≤ w1.heap.size by omega)); (try have l1e := Nat.le_of_lt l1); (try have l1f := Nat.le_add_right_of_le (k := 1) l1e); (try have l2 := Nat.lt_of_lt_of_le l2 (show _ ≤ w1.heap.size by omega)); (try have l2e := Nat.le_of_lt l2); (try have l2f := Nat.le_add_right_of_le (k := 1) l2e); (try have l3 := Nat.lt_of_lt_of_le l3 (show _ ≤ w1.heap.size by omega)); (try have l3e := Nat.le_of_lt l3); (try have l3f := Nat.le_add_right_of_le (k := 1) l3e)
    have HO1 := Lib.hid (hO.ext hb)
    have HE1 := Lib.hid (show Ext w w1 from by (repeat' (first | (with_reducible exact Below.refl _ _) | (with_reducible refine Below.mono (by assumption) ?_) | (with_reducible refine Below.trans ?_ (Below.mono (by assumption) ?_)) | (with_reducible refine Below.alloc ?_ ?_ _) | (with_reducible refine Below.drew ?_) | (with_reducible refine below_drewN ?_ _) | (with_reducible refine Below.setCell ?_ ?_ _) | (simp only [World.size_alloc, World.size_setCell, World.size_drew, size_drewN]; omega) | omega)))
    clear hb hc hf hz hO CO
    go_wp2
    go_loopw [5, 6] (fun v i wr => ∃ k : Nat, k ≤ 3 ∧ i = .int .i64 k ∧ Own3 wr w.heap.size 76 v (wesR h R k) ∧ Ext w wr) (fun _ i _ => 3 - (intOf i).toNat)
    case atStart => exact ⟨0, by omega, rfl, HO1.out, HE1.out⟩
    case round =>
      obtain ⟨k, hk, rfl, hown, hE⟩ := hrel
      have hLl := H3.out.wesR_le k
      clear HO1 HE1
      by_cases hlt : k < 3
      · obtain ⟨o, A', cap, b, off, hok, rfl, _, hbw, hI, c0w⟩ := HR.out.at_ (i := k) (by omega)
        have c0 := hE.keep hbw c0w
        have hb0 : b < wr.heap.size := by have := hE.size; omega
        have hol := H3.out.row_le hok
        have HOk := Lib.hid hok
        have HO := Lib.hid hown
        have HE := Lib.hid hE
        have HI := Lib.hid hI
        have hki : (k : Int) ≤ 2 := by omega
        have hkl : k < R.length := by omega
        have hkl2 : (k : Int) < R.length := by omega
        clear hok hown hI
        go_wp2
        go_loopw [5, 7] (fun v i W => ∃ j : Nat, j ≤ o.length - 1 ∧ i = .int .i64 j ∧ Own3 W w.heap.size 76 v (wesR h R k ++ wes h k o j) ∧ Ext w W) (fun _ i _ => o.length - (intOf i).toNat)
        case atStart => exact ⟨0, by omega, rfl, by simpa [wes] using HO.out, HE.out⟩
        case round =>
          obtain ⟨j, hj, rfl, hown, hEw⟩ := hrel
          have HO2 := Lib.hid hown
          have HEw := Lib.hid hEw
          have hEz := hEw.size
          have c02 := hEw.keep hbw c0w
          have hb02 : b < wr.heap.size := by omega
          have hwl := wes_len h k o j
          clear hown
          by_cases hlt2 : j + 1 < o.length
          · obtain ⟨x, b3, off3, hxj, rfl, _, hb3w0, cxw⟩ := HI.out.at_ (i := j) (by omega)
            obtain ⟨y, b4, off4, hyj, e4, _, _, cyw⟩ := HI.out.at_ hlt2
            simp only [Option.some.injEq, Addr.mk.injEq] at e4
            obtain ⟨rfl, rfl, _⟩ := e4
            have cx := hEw.keep hb3w0 cxw
            have cy := hEw.keep hb3w0 cyw
            have hb3 : b3 < wr.heap.size := by omega
            have hput := H3.out.put1 HOk.out hxj hyj
            have hws := wes_succ (h := h) (key := (k : Int)) hxj hyj
            rw [hput] at hws
            have HWs := Lib.hid hws
            have hji : (j : Int) + 1 < o.length := by omega
            have hj0 : (0 : Int) ≤ (j : Int) := by omega
            have hj1 : (j : Int) < o.length := by omega
            have hj1n : j < o.length := by omega
            have hj2 : (0 : Int) ≤ (j : Int) + 1 := by omega
            have hj3 : ((j : Int) + 1).toNat = j + 1 := by omega
            have hwr : IntKind.i64.wrap ((j : Int) + 1) = (j : Int) + 1 := by rw [IntKind.wrap_i64]; omega
            have hk0 : (0 : Int) ≤ (k : Int) := by omega
            clear hput hws hxj hyj hEw
            have CX := fun w hx => CW.out (k : Int) x w hx
            have CY := fun w hx => CW.out (k : Int) y w hx
            generalize wrN h (k : Int) x = fx at HWs CX
            generalize wrN h (k : Int) y = fy at HWs CY
            have CX := Lib.hid CX
            have CY := Lib.hid CY
            go_upto_region 10 with (fail)
            go_region_held3 (fun W => W.cell? ⟨b, off + k, none⟩ = some (.slice (some ⟨b3, off3, none⟩) o.length cap) ∧ W.cell? ⟨b3, off3 + j, none⟩ = some (.int .i64 x) ∧ W.cell? ⟨b3, off3 + (j + 1), none⟩ = some (.int .i64 y))
              (first | go_keep | exact ⟨hE'.keep hbw c0w, hE'.keep hb3w0 cxw, hE'.keep hb3w0 cyw⟩ | exact ⟨hE4.keep hb02 c02, hE4.keep hb3 cx, hE4.keep hb3 cy⟩ | exact ⟨hE3.keep hb02 c02, hE3.keep hb3 cx, hE3.keep hb3 cy⟩)
              (first
                | (refine step_app3 rfl (.tmp 33) (.tmp 56) rfl w.heap.size _ rfl (wesR h R k ++ wes h k o j) (HO2.out.ext (by (repeat' (first | (with_reducible exact Below.refl _ _) | (with_reducible refine Below.mono (by assumption) ?_) | (with_reducible refine Below.trans ?_ (Below.mono (by assumption) ?_)) | (with_reducible refine Below.alloc ?_ ?_ _) | (with_reducible refine Below.drew ?_) | (with_reducible refine below_drewN ?_ _) | (with_reducible refine Below.setCell ?_ ?_ _) | (simp only [World.size_alloc, World.size_setCell, World.size_drew, size_drewN]; omega) | omega)))) _ fx fy 1 rfl ((lit_at _ _ _ 0).trans rfl) ((lit_at _ _ _ 1).trans rfl) ((lit_at _ _ _ 2).trans rfl) (by rw [List.length_append]; omega) (by simp only [World.size_alloc, World.size_drew]; omega) ?_
                   intro v' w' hown' hgrow
                   have hE' : Ext w w' := by
                     refine Below.grown (HEw.out.tr ?_) hgrow ?_ (fun g hg => (own3_lt HO2.out g hg).1)
                     · (repeat' (first | (with_reducible exact Below.refl _ _) | (with_reducible refine Below.mono (by assumption) ?_) | (with_reducible refine Below.trans ?_ (Below.mono (by assumption) ?_)) | (with_reducible refine Below.alloc ?_ ?_ _) | (with_reducible refine Below.drew ?_) | (with_reducible refine below_drewN ?_ _) | (with_reducible refine Below.setCell ?_ ?_ _) | (simp only [World.size_alloc, World.size_setCell, World.size_drew, size_drewN]; omega) | omega))
                     · simp only [World.size_alloc, World.size_drew]; omega)
                | (go_at_call 60; with_reducible refine (CX.out _ (HX.out.ext (HEw.out.tr (by (repeat' (first | (with_reducible exact Below.refl _ _) | (with_reducible refine Below.mono (by assumption) ?_) | (with_reducible refine Below.trans ?_ (Below.mono (by assumption) ?_)) | (with_reducible refine Below.alloc ?_ ?_ _) | (with_reducible refine Below.drew ?_) | (with_reducible refine below_drewN ?_ _) | (with_reducible refine Below.setCell ?_ ?_ _) | (simp only [World.size_alloc, World.size_setCell, World.size_drew, size_drewN]; omega) | omega)))))).mono ?_; rintro e w3 ⟨rfl, hb3w⟩; have z3 := hb3w.size; try simp only [World.size_drew] at z3
                   have hE3 : Ext wr w3 := by (repeat' (first | (with_reducible exact Below.refl _ _) | (with_reducible refine Below.mono (by assumption) ?_) | (with_reducible refine Below.trans ?_ (Below.mono (by assumption) ?_)) | (with_reducible refine Below.alloc ?_ ?_ _) | (with_reducible refine Below.drew ?_) | (with_reducible refine below_drewN ?_ _) | (with_reducible refine Below.setCell ?_ ?_ _) | (simp only [World.size_alloc, World.size_setCell, World.size_drew, size_drewN]; omega) | omega)))
                | (go_at_call 60; with_reducible refine (CY.out _ (HX.out.ext (HEw.out.tr (by (repeat' (first | (with_reducible exact Below.refl _ _) | (with_reducible refine Below.mono (by assumption) ?_) | (with_reducible refine Below.trans ?_ (Below.mono (by assumption) ?_)) | (with_reducible refine Below.alloc ?_ ?_ _) | (with_reducible refine Below.drew ?_) | (with_reducible refine below_drewN ?_ _) | (with_reducible refine Below.setCell ?_ ?_ _) | (simp only [World.size_alloc, World.size_setCell, World.size_drew, size_drewN]; omega) | omega)))))).mono ?_; rintro e w4 ⟨rfl, hb4w⟩; have z4 := hb4w.size; try simp only [World.size_drew] at z4
                   have hE4 : Ext wr w4 := by (repeat' (first | (with_reducible exact Below.refl _ _) | (with_reducible refine Below.mono (by assumption) ?_) | (with_reducible refine Below.trans ?_ (Below.mono (by assumption) ?_)) | (with_reducible refine Below.alloc ?_ ?_ _) | (with_reducible refine Below.drew ?_) | (with_reducible refine below_drewN ?_ _) | (with_reducible refine Below.setCell ?_ ?_ _) | (simp only [World.size_alloc, World.size_setCell, World.size_drew, size_drewN]; omega) | omega))))
            have HF := Lib.hid (show _ ∧ _ from ⟨hown', hE'⟩)
            clear hown' hgrow hE' hE3 hE4 hb3w hb4w
            go_wp2
            exact ⟨⟨j + 1, by omega, by go_num, by rw [HWs.out, ← List.append_assoc]; exact HF.out.1, HF.out.2⟩, by simp [intOf]; omega⟩
          · have e : j = o.length - 1 := by omega
            subst e
            have hs := wesR_succ HOk.out (h := h)
            have HS := Lib.hid hs
            have hji : ¬ ((o.length - 1 : Nat) : Int) + 1 < o.length ∨ o.length = 0 := by omega
            clear hs
            go_wp2
            exact ⟨⟨k + 1, by omega, by go_num, by rw [HS.out]; exact HO2.out, HEw.out⟩, by simp [intOf]; omega⟩
      · have hk3 : k = 3 := by omega
        rw [hk3] at hown hLl
        have hki : ¬ ((k : Int) ≤ 2) := by omega
        clear hk3
        have H0 := Lib.hid (show _ ∧ _ from ⟨hown, hE⟩)
        have hd0 : rdesD h R (dnT h 0) = [] := rfl
        obtain ⟨LW, hLW⟩ : ∃ LW, wesR h R 3 = LW := ⟨_, rfl⟩
        rw [hLW] at H0 hLl
        have HLW := Lib.hid hLW
        clear hown hE hLW
        go_wp2
        go_loopw [5, 8] (fun v i W => ∃ n : Nat, n ≤ h.length ∧ i = .int .i64 n ∧ Own3 W w.heap.size 76 v (LW ++ rdesD h R (dnT h n)) ∧ Ext w W) (fun _ i _ => h.length - (intOf i).toNat)
        case atStart => exact ⟨0, Nat.zero_le _, rfl, by rw [hd0, List.append_nil]; exact H0.out.1, H0.out.2⟩
        case round =>
          obtain ⟨n, hn, rfl, hown, hE⟩ := hrel
          clear H0 hd0
          have HO := Lib.hid hown
          have HE := Lib.hid hE
          have hEz := hE.size
          have hdl := rdesD_len H3.out.hist R (dnT h n)
          have hdn := dnT_len h n
          have hh6 := histv_len H3.out.hist
          clear hown
          by_cases hlt : n < h.length
          · obtain ⟨s, ops, dd, A', cap, b, off, hxn, rfl, _, hb0, hOp, c0w, c1w, c2w⟩ := HX.out.at_ hlt
            have htv := histv_txn H3.out.hist _ (List.mem_of_getElem? hxn)
            have hopv := txnv_ops htv
            have hon : ops.length ≤ 6 := ops_le H3.out.hist hxn
            have CF := fun w hx => specFirstReads_ok ⟨s, ops, dd⟩ S A' cap w hx (by simp only; omega) htv
            have hrl := frs_len ops ops.length
            have hro : ∀ (j : Nat) o, (frs ops ops.length)[j]? = some o → opv o = true := fun j o ho => by
              obtain ⟨i, _, hi, _⟩ := (frs_mem (ops := ops) (o := o) ops.length).1 (List.mem_of_getElem? ho)
              exact hopv o (List.mem_of_getElem? hi)
            have hnext : dd = true → rdesD h R (dnT h (n + 1)) = rdesD h R (dnT h n) ++ rdes h R n (frs ops ops.length) := fun e => by
              rw [dnT_succ hxn, if_pos e]
              exact rdesD_snoc hxn
            have hskip : dd = false → rdesD h R (dnT h (n + 1)) = rdesD h R (dnT h n) := fun e => by
              rw [dnT_succ hxn, if_neg (by simp only; rw [e]; simp)]
            have hdb := dnB_some hxn
            simp only at hdb CF
            obtain ⟨rs, hrs9⟩ : ∃ rs, frs ops ops.length = rs := ⟨_, rfl⟩
            rw [hrs9] at CF hrl hro hnext
            have CF := Lib.hid CF
            have HRo := Lib.hid hro
            have HNx := Lib.hid hnext
            have HSk := Lib.hid hskip
            have HOp := Lib.hid hOp
            have c0 := hE.keep hb0 c0w
            have c1 := hE.keep hb0 c1w
            have c2 := hE.keep hb0 c2w
            have hb1 : b < wr.heap.size := by omega
            have hni : (n : Int) < h.length := by omega
            clear htv hopv hro hnext hskip hOp hxn hrs9 hE
            go_wp2_with (fail)
            go_at_call 61
            refine (CF.out _ (HOp.out.ext (HE.out.tr (by (repeat' (first | (with_reducible exact Below.refl _ _) | (with_reducible refine Below.mono (by assumption) ?_) | (with_reducible refine Below.trans ?_ (Below.mono (by assumption) ?_)) | (with_reducible refine Below.alloc ?_ ?_ _) | (with_reducible refine Below.drew ?_) | (with_reducible refine below_drewN ?_ _) | (with_reducible refine Below.setCell ?_ ?_ _) | (simp only [World.size_alloc, World.size_setCell, World.size_drew, size_drewN]; omega) | omega)))))).mono ?_
            rintro e w3 ⟨A3, c3, rfl, hF, _, hb⟩
            obtain ⟨hc, hf, hz, hs⟩ := bcell hb
            (try simp only [World.size_alloc, World.size_setCell, World.size_drew, size_drewN] at hs); (first | have l0 := Nat.lt_of_lt_of_le l0 (show _ ≤ w3.heap.size by omega) | have l0 : w.heap.size < w3.heap.size := (by omega) | skip); (try have l0e := Nat.le_of_lt l0); (try have l0f := Nat.le_add_right_of_le (k := 1) l0e); (try have l1 := Nat.lt_of_lt_of_le l1 (show _ ≤ w3.heap.size by omega)); (try have l1e := Nat.le_of_lt l1); (try have l1f := Nat.le_add_right_of_le (k := 1) l1e); (try have l2 := Nat.lt_of_lt_of_le l2 (show _ ≤ w3.heap.size by omega)); (try have l2e := Nat.le_of_lt l2); (try have l2f := Nat.le_add_right_of_le (k := 1) l2e); (try have l3 := Nat.lt_of_lt_of_le l3 (show _ ≤ w3.heap.size by omega)); (try have l3e := Nat.le_of_lt l3); (try have l3f := Nat.le_add_right_of_le (k := 1) l3e)
            have H0 := Lib.hid (show Own3 w3 w.heap.size 76 u5 (LW ++ rdesD h R (dnT h n)) ∧ Ext w w3 ∧ Ops (fun b => wr.heap.size ≤ b ∧ b < w3.heap.size) w3 A3 rs ∧ Off u5 wr.heap.size w3.heap.size from ⟨HO.out.ext (by (repeat' (first | (with_reducible exact Below.refl _ _) | (with_reducible refine Below.mono (by assumption) ?_) | (with_reducible refine Below.trans ?_ (Below.mono (by assumption) ?_)) | (with_reducible refine Below.alloc ?_ ?_ _) | (with_reducible refine Below.drew ?_) | (with_reducible refine below_drewN ?_ _) | (with_reducible refine Below.setCell ?_ ?_ _) | (simp only [World.size_alloc, World.size_setCell, World.size_drew, size_drewN]; omega) | omega))), HE.out.tr (by (repeat' (first | (with_reducible exact Below.refl _ _) | (with_reducible refine Below.mono (by assumption) ?_) | (with_reducible refine Below.trans ?_ (Below.mono (by assumption) ?_)) | (with_reducible refine Below.alloc ?_ ?_ _) | (with_reducible refine Below.drew ?_) | (with_reducible refine below_drewN ?_ _) | (with_reducible refine Below.setCell ?_ ?_ _) | (simp only [World.size_alloc, World.size_setCell, World.size_drew, size_drewN]; omega) | omega))), ops_within_hi (hF.mono (fun _ h _ => by first | exact h | (simp only [World.size_drew] at h; exact h)) (fun _ _ h => h)), Off.of_lt (fun g hg => (own3_lt HO.out g hg).2)⟩)
            have hz3 := hb.size
            clear hF hb hc hf hz HO CF
            go_wp2
            obtain ⟨lo, hlo⟩ : ∃ lo, wr.heap.size = lo := ⟨_, rfl⟩
            rw [hlo] at H0
            go_loopw [5, 10] (fun v i W => ∃ j : Nat, j ≤ rs.length ∧ (dd = false → j = 0) ∧ i = .int .i64 j ∧ Own3 W w.heap.size 76 v (LW ++ rdesD h R (dnT h n) ++ rdes h R n (rs.take j)) ∧ Ext w W ∧ Ops (fun b => lo ≤ b ∧ b < w3.heap.size) W A3 rs ∧ Off v lo w3.heap.size ∧ w3.heap.size ≤ W.heap.size) (fun _ i _ => rs.length - (intOf i).toNat)
            case atStart => exact ⟨0, Nat.zero_le _, fun _ => rfl, rfl, by simpa [rdes] using H0.out.1, H0.out.2.1, H0.out.2.2.1, H0.out.2.2.2, Nat.le_refl _⟩
            case round =>
              obtain ⟨j, hj, hd0, rfl, hown, hE, hRs, hoff, hzz⟩ := hrel
              clear H0
              have HO := Lib.hid hown
              have HRs := Lib.hid hRs
              have HOf := Lib.hid hoff
              have HE2 := Lib.hid hE
              have d2 := hE.keep hb0 c2w
              have hb2 : b < wr.heap.size := by have := hE.size; omega
              have hEz2 := hE.size
              clear hown hoff
              by_cases hlt2 : j < rs.length
              rotate_left
              · obtain rfl : j = rs.length := by omega
                have hfin : LW ++ rdesD h R (dnT h n) ++ rdes h R n (rs.take rs.length) = LW ++ rdesD h R (dnT h (n + 1)) := by
                  rw [List.take_length]
                  cases dd with
                  | true => rw [HNx.out rfl, List.append_assoc]
                  | false =>
                    have h0 : rs = [] := List.eq_nil_of_length_eq_zero (hd0 rfl)
                    rw [HSk.out rfl, h0]
                    simp [rdes]
                have HFi := Lib.hid hfin
                clear hfin hd0
                go_wp2
                go_roundw
                case rel => exact ⟨n + 1, by omega, by go_num, by rw [← HFi.out]; exact HO.out, HE2.out⟩
                case measure => simp [intOf]; omega
              · cases hdd : dd with
                | false =>
                  have hj0 : j = 0 := hd0 hdd
                  subst hdd
                  subst hj0
                  have hfin : LW ++ rdesD h R (dnT h n) ++ rdes h R n (rs.take 0) = LW ++ rdesD h R (dnT h (n + 1)) := by
                    rw [HSk.out rfl]
                    simp [rdes]
                  have HFi := Lib.hid hfin
                  clear hfin hd0
                  go_wp2
                  go_roundw
                  case rel => exact ⟨n + 1, by omega, by go_num, by rw [← HFi.out]; exact HO.out, HE2.out⟩
                  case measure => simp [intOf]; omega
                | true =>
                  subst hdd
                  clear hd0 hE
                  obtain ⟨x0, x1, x2, b3, off3, hxj, rfl, hbR, hb3, g0, g1, g2⟩ := hRs.at_ hlt2
                  have hov := HRo.out j _ hxj
                  have htk := rdes_take (h := h) (R := R) (n := (n : Int)) hxj
                  have hkey : 0 ≤ x1 ∧ x1 ≤ 2 := by
                    simp only [opv, inB, Bool.and_eq_true, decide_eq_true_eq] at hov
                    omega
                  obtain ⟨y, rfl⟩ := Int.eq_ofNat_of_zero_le hkey.1
                  have hy3 : y < 3 := by omega
                  have hji : (j : Int) < rs.length := by omega
                  have hj0 : (0 : Int) ≤ (j : Int) := by omega
                  obtain ⟨o, Ao, capo, bR, offR, hok, rfl, _, hbRw, hIo, r0w⟩ := HR.out.at_ (i := y) (by omega)
                  have hol := H3.out.row_le hok
                  have hgd : R.getD y [] = o := by rw [List.getD_eq_getElem?_getD, hok, Option.getD_some]
                  have hnextf := fun v (hv : nxtV o x2 = some v) => H3.out.next hy3 (v := x2) (x := v) (by rw [hgd]; exact hv)
                  have CX := fun w hx => CW.out (y : Int) x2 w hx
                  have hrange := wrN_range h (y : Int) x2
                  have hrde : rde h R (n : Int) ⟨x0, (y : Int), x2⟩ = putV h (wrN h (y : Int) x2) n 2 ++ overV h n (y : Int) (nxtV o x2) := by
                    unfold rde
                    simp only [Int.toNat_natCast, hgd]
                  rw [hrde] at htk
                  obtain ⟨W1, hW1⟩ : ∃ W1, wrN h (y : Int) x2 = W1 := ⟨_, rfl⟩
                  rw [hW1] at CX hrange htk
                  have hfin : ∀ T, overV h n (y : Int) (nxtV o x2) = T → LW ++ rdesD h R (dnT h n) ++ rdes h R n (rs.take (j + 1)) = (LW ++ rdesD h R (dnT h n) ++ rdes h R n (rs.take j) ++ putV h W1 n 2) ++ T := fun T hT => by
                    rw [htk, hT]
                    simp only [List.append_assoc]
                  have hlen := rdes_len h R n (rs.take j)
                  rw [List.length_take] at hlen
                  have hlen1 : (LW ++ rdesD h R (dnT h n) ++ rdes h R n (rs.take j)).length ≤ 1000000 := by
                    simp only [List.length_append]
                    omega
                  generalize LW ++ rdesD h R (dnT h n) ++ rdes h R n (rs.take j) = L1 at HO hfin hlen1
                  have hpl := putV_len h W1 n 2
                  have HFin := Lib.hid hfin
                  have HNf := Lib.hid hnextf
                  have CX := Lib.hid CX
                  have HIo := Lib.hid hIo
                  have HRg := Lib.hid hrange
                  have HDb := Lib.hid hdb
                  have HXj := Lib.hid hxj
                  clear hfin hnextf hrange htk hrde hIo hxj hok hov hW1 hlen hgd hRs hbR hdb
                  go_upto_region 18 with (fail)
                  go_region_held3 (fun V => V.cell? ⟨b3, off3 + j * 3 + 1, none⟩ = some (.int .i64 (y : Int)) ∧ V.cell? ⟨b3, off3 + j * 3 + 2, none⟩ = some (.int .i64 x2)) (first | go_keep | exact ⟨hE4.keep hb3 g1, hE4.keep hb3 g2⟩)
                    ((go_at_call 60; with_reducible refine (CX.out _ (HX.out.ext (HE2.out.tr (by (repeat' (first | (with_reducible exact Below.refl _ _) | (with_reducible refine Below.mono (by assumption) ?_) | (with_reducible refine Below.trans ?_ (Below.mono (by assumption) ?_)) | (with_reducible refine Below.alloc ?_ ?_ _) | (with_reducible refine Below.drew ?_) | (with_reducible refine below_drewN ?_ _) | (with_reducible refine Below.setCell ?_ ?_ _) | (simp only [World.size_alloc, World.size_setCell, World.size_drew, size_drewN]; omega) | omega)))))).mono ?_; rintro e w4 ⟨rfl, hb4⟩; have z4 := hb4.size; try simp only [World.size_drew] at z4
                      have hE4 : Ext wr w4 := by (repeat' (first | (with_reducible exact Below.refl _ _) | (with_reducible refine Below.mono (by assumption) ?_) | (with_reducible refine Below.trans ?_ (Below.mono (by assumption) ?_)) | (with_reducible refine Below.alloc ?_ ?_ _) | (with_reducible refine Below.drew ?_) | (with_reducible refine below_drewN ?_ _) | (with_reducible refine Below.setCell ?_ ?_ _) | (simp only [World.size_alloc, World.size_setCell, World.size_drew, size_drewN]; omega) | omega))))
                  have H4 := Lib.hid (show Own3 w4 w.heap.size 76 u5 L1 ∧ Ext w w4 ∧ Ops (fun b => lo ≤ b ∧ b < w3.heap.size) w4 _ rs ∧ Off u5 lo w3.heap.size ∧ w3.heap.size ≤ w4.heap.size from ⟨HO.out.ext hE4, HE2.out.tr hE4, HRs.out.ext hE4, HOf.out, by omega⟩)
                  have zz4 : w.heap.size ≤ w4.heap.size := by omega
                  clear hE4 hb4 HO HRs HE2 HOf g0 g1 g2 d2
                  go_upto_region 19 with (fail)
                  go_cut [107] from 69 to 154 (fun x W => x = .bool (dnB h W1 && decide (W1 ≠ n)) ∧ W = w4)
                  case first =>
                    rcases HRg.out with hneg | ⟨m, hml, hm⟩
                    · subst hneg
                      have e : (dnB h (-1) && decide ((-1 : Int) ≠ n)) = false := by simp [dnB_neg]
                      have HEq := Lib.hid e
                      clear e
                      go_wp2
                      go_meet
                      exact ⟨by rw [HEq.out], rfl⟩
                    · subst hm
                      obtain ⟨s2, ops2, dm, A2, cap2, b2, off2, hxm, e2, _, hbm, _, m0w, m1w, m2w⟩ := HX.out.at_ hml
                      simp only [Option.some.injEq, Addr.mk.injEq] at e2
                      obtain ⟨rfl, rfl, _⟩ := e2
                      have hdm := dnB_some hxm
                      simp only at hdm
                      have m2 := H4.out.2.1.keep hbm m2w
                      have hmi : (m : Int) < h.length := by omega
                      have hm0 : (0 : Int) ≤ (m : Int) := by omega
                      have HDm := Lib.hid hdm
                      clear hxm hdm
                      cases dm with
                      | false =>
                        go_wp2
                        go_meet
                        exact ⟨by rw [HDm.out]; rfl, rfl⟩
                      | true =>
                        go_wp2
                        go_meet
                        exact ⟨by rw [HDm.out]; by_cases hq : (m : Int) = n <;> simp [hq], rfl⟩
                  case rest =>
                  obtain ⟨rfl, rfl⟩ := hcut
                  go_upto_if 107 with (fail)
                  go_cut [5] from 69 to 154 (fun v W => Own3 W w.heap.size 76 v (L1 ++ putV h W1 n 2) ∧ Ext w W ∧ Ops (fun b => lo ≤ b ∧ b < w3.heap.size) W (some ⟨b3, off3, none⟩) rs ∧ Off v lo w3.heap.size ∧ w3.heap.size ≤ W.heap.size)
                  case first =>
                    cases hcb : (dnB h W1 && decide (W1 ≠ n)) with
                    | false =>
                      have e : putV h W1 n 2 = [] := by
                        unfold putV
                        rw [if_neg]
                        rintro ⟨h1, _, h2⟩
                        rw [h1, decide_eq_true h2] at hcb
                        cases hcb
                      have HEq := Lib.hid e
                      clear hcb e
                      go_wp2
                      go_meet
                      rw [HEq.out, List.append_nil]
                      exact ⟨H4.out.1, H4.out.2.1, H4.out.2.2.1, H4.out.2.2.2.1, H4.out.2.2.2.2⟩
                    | true =>
                      simp only [Bool.and_eq_true, decide_eq_true_eq] at hcb
                      have e : putV h W1 n 2 = [⟨W1, n, 2⟩] := by unfold putV; rw [if_pos ⟨hcb.1, HDb.out, hcb.2⟩]
                      have HEq := Lib.hid e
                      clear hcb e
                      go_wp2_with (at_builtin; refine wpList_append3_at _ rfl _ _ 55 rfl w.heap.size 76 Tryz.underlying55 infoEdgeS rfl _ L1 rfl (H4.out.1.ext (by (repeat' (first | (with_reducible exact Below.refl _ _) | (with_reducible refine Below.mono (by assumption) ?_) | (with_reducible refine Below.trans ?_ (Below.mono (by assumption) ?_)) | (with_reducible refine Below.alloc ?_ ?_ _) | (with_reducible refine Below.drew ?_) | (with_reducible refine below_drewN ?_ _) | (with_reducible refine Below.setCell ?_ ?_ _) | (simp only [World.size_alloc, World.size_setCell, World.size_drew, size_drewN]; omega) | omega)))) _ W1 n 2 rfl ((lit_at _ _ _ 0).trans rfl) ((lit_at _ _ _ 1).trans rfl) ((lit_at _ _ _ 2).trans rfl) ?_ ?_ ?_)
                      all_goals try (first | omega | (simp only [World.size_alloc, size_drewN]; omega) | (go_simp; done))
                      intro v' w' hown' hgrow hv'
                      have ed : Ext wc (wc.alloc (.cells #[.int .i64 W1, .int .i64 n, .int .i64 2] 76)) := by (repeat' (first | (with_reducible exact Below.refl _ _) | (with_reducible refine Below.mono (by assumption) ?_) | (with_reducible refine Below.trans ?_ (Below.mono (by assumption) ?_)) | (with_reducible refine Below.alloc ?_ ?_ _) | (with_reducible refine Below.drew ?_) | (with_reducible refine below_drewN ?_ _) | (with_reducible refine Below.setCell ?_ ?_ _) | (simp only [World.size_alloc, World.size_setCell, World.size_drew, size_drewN]; omega) | omega))
                      have hE' : Ext w w' := Below.grown (H4.out.2.1.tr ed) hgrow (H4.out.2.1.tr ed).size (fun g hg => (own3_lt H4.out.1 g hg).1)
                      have hz' : w3.heap.size ≤ w'.heap.size := by have := hgrow.size; have := ed.size; have := H4.out.2.2.2.2; omega
                      have hRs' := (H4.out.2.2.1.ext ed).off hgrow H4.out.2.2.2.1
                      have hOf' := H4.out.2.2.2.1.step hv' (by have := ed.size; have := H4.out.2.2.2.2; omega)
                      have HF := Lib.hid (show _ ∧ _ ∧ _ ∧ _ ∧ _ from ⟨hown', hE', hRs', hOf', hz'⟩)
                      clear hown' hE' hRs' hOf' hz' hgrow hv' ed
                      go_wp2
                      go_meet
                      rw [HEq.out]
                      exact ⟨HF.out.1, HF.out.2.1, HF.out.2.2.1, HF.out.2.2.2.1, HF.out.2.2.2.2⟩
                  case rest =>
                    obtain ⟨hown, hE, hRs, hoff, hzz⟩ := hcut
                    clear H4
                    have hl2 : (L1 ++ putV h W1 n 2).length ≤ 1048576 := by rw [List.length_append]; omega
                    have hfin := HFin.out
                    generalize L1 ++ putV h W1 n 2 = L2 at hown hl2 hfin
                    have HFin := Lib.hid hfin
                    have HO := Lib.hid hown
                    have HE := Lib.hid hE
                    have HRs := Lib.hid hRs
                    have HOf := Lib.hid hoff
                    have hEz3 := hE.size
                    obtain ⟨x0', x1', x2', b3', off3', hxj, e3, _, hb3c, g0, g1, g2⟩ := hRs.at_ hlt2
                    simp only [Option.some.injEq, Addr.mk.injEq] at e3
                    obtain ⟨rfl, rfl, _⟩ := e3
                    rw [HXj.out] at hxj
                    cases hxj
                    have r0 := hE.keep hbRw r0w
                    have hbR3 : bR < wc.heap.size := by omega
                    have hyR : (y : Int) < R.length := by omega
                    have hy0 : (0 : Int) ≤ (y : Int) := by omega
                    have C8 := fun W hx => l8Next_c o x2 S' Ao capo W hx (by omega)
                    obtain ⟨NX, hNX⟩ : ∃ NX, (nxtV o x2).getD (-1) = NX := ⟨_, rfl⟩
                    rw [hNX] at C8
                    have C8 := Lib.hid C8
                    have HNX := Lib.hid hNX
                    clear hown hE hRs hoff hfin hNX
                    go_upto_region 21 with (fail)
                    go_region_held3 (fun V => V.cell? ⟨b3, off3 + j * 3 + 1, none⟩ = some (.int .i64 (y : Int)) ∧ V.cell? ⟨b3, off3 + j * 3 + 2, none⟩ = some (.int .i64 x2) ∧ V.cell? ⟨bR, offR + y, none⟩ = some (.slice Ao o.length capo)) (first | go_keep | exact ⟨hE5.keep hb3c g1, hE5.keep hb3c g2, hE5.keep hbR3 r0⟩)
                      ((go_at_call 62; with_reducible refine (C8.out _ (HIo.out.ext (HE.out.tr (by (repeat' (first | (with_reducible exact Below.refl _ _) | (with_reducible refine Below.mono (by assumption) ?_) | (with_reducible refine Below.trans ?_ (Below.mono (by assumption) ?_)) | (with_reducible refine Below.alloc ?_ ?_ _) | (with_reducible refine Below.drew ?_) | (with_reducible refine below_drewN ?_ _) | (with_reducible refine Below.setCell ?_ ?_ _) | (simp only [World.size_alloc, World.size_setCell, World.size_drew, size_drewN]; omega) | omega)))))).mono ?_; rintro e w5 ⟨rfl, hb5⟩; have z5 := hb5.size; try simp only [World.size_drew] at z5
                        have hE5 : Ext wc w5 := by (repeat' (first | (with_reducible exact Below.refl _ _) | (with_reducible refine Below.mono (by assumption) ?_) | (with_reducible refine Below.trans ?_ (Below.mono (by assumption) ?_)) | (with_reducible refine Below.alloc ?_ ?_ _) | (with_reducible refine Below.drew ?_) | (with_reducible refine below_drewN ?_ _) | (with_reducible refine Below.setCell ?_ ?_ _) | (simp only [World.size_alloc, World.size_setCell, World.size_drew, size_drewN]; omega) | omega))))
                    have hHO := HO.out.ext hE5
                    have hHE := HE.out.tr hE5
                    have hHR := HRs.out.ext hE5
                    have k1 := hE5.keep hb3c g1
                    have hb35 : b3 < w5.heap.size := by omega
                    have H5 := Lib.hid (show _ ∧ _ ∧ _ from ⟨hHO, hHE, hHR⟩)
                    have hz5 : w3.heap.size ≤ w5.heap.size := by omega
                    have hz6 : w.heap.size ≤ w5.heap.size := by omega
                    clear hHO hHE hHR hE5 hb5 g0 g1 g2 r0 HO HE HRs
                    cases hn9 : nxtV o x2 with
                    | none =>
                      have hf := HFin.out [] (by rw [hn9]; rfl)
                      have hneg : NX = -1 := by rw [← HNX.out, hn9]; rfl
                      have HF9 := Lib.hid hf
                      subst hneg
                      clear hf hn9 HFin HNX
                      go_wp2
                      go_roundw
                      case rel => exact ⟨j + 1, by omega, (fun e => by cases e), by go_num, by rw [HF9.out, List.append_nil]; exact H5.out.1, H5.out.2.1, H5.out.2.2, HOf.out, hz5⟩
                      case measure => simp [intOf]; omega
                    | some v =>
                      obtain ⟨hdv, hv0⟩ := HNf.out v hn9
                      have hvv : NX = v := by rw [← HNX.out, hn9]; rfl
                      subst hvv
                      have CV := fun W hx => CW.out (y : Int) NX W hx
                      have hf := HFin.out (putV h n (wrN h (y : Int) NX) 3) (by rw [hn9]; rfl)
                      generalize wrN h (y : Int) NX = W2 at hdv CV hf
                      have CV := Lib.hid CV
                      have HF9 := Lib.hid hf
                      have HDv := Lib.hid hdv
                      clear hf hn9 HFin HNX HNf hdv
                      go_wp2_with (fail)
                      go_at_call 60
                      refine (CV.out _ (HX.out.ext (H5.out.2.1.tr (by (repeat' (first | (with_reducible exact Below.refl _ _) | (with_reducible refine Below.mono (by assumption) ?_) | (with_reducible refine Below.trans ?_ (Below.mono (by assumption) ?_)) | (with_reducible refine Below.alloc ?_ ?_ _) | (with_reducible refine Below.drew ?_) | (with_reducible refine below_drewN ?_ _) | (with_reducible refine Below.setCell ?_ ?_ _) | (simp only [World.size_alloc, World.size_setCell, World.size_drew, size_drewN]; omega) | omega)))))).mono ?_
                      rintro e w6 ⟨rfl, hb⟩
                      obtain ⟨hc, hf, hz, hs⟩ := bcell hb
                      (try simp only [World.size_alloc, World.size_setCell, World.size_drew, size_drewN] at hs); (first | have l0 := Nat.lt_of_lt_of_le l0 (show _ ≤ w6.heap.size by omega) | have l0 : w.heap.size < w6.heap.size := (by omega) | skip); (try have l0e := Nat.le_of_lt l0); (try have l0f := Nat.le_add_right_of_le (k := 1) l0e); (try have l1 := Nat.lt_of_lt_of_le l1 (show _ ≤ w6.heap.size by omega)); (try have l1e := Nat.le_of_lt l1); (try have l1f := Nat.le_add_right_of_le (k := 1) l1e); (try have l2 := Nat.lt_of_lt_of_le l2 (show _ ≤ w6.heap.size by omega)); (try have l2e := Nat.le_of_lt l2); (try have l2f := Nat.le_add_right_of_le (k := 1) l2e); (try have l3 := Nat.lt_of_lt_of_le l3 (show _ ≤ w6.heap.size by omega)); (try have l3e := Nat.le_of_lt l3); (try have l3f := Nat.le_add_right_of_le (k := 1) l3e)
                      have hE6 : Ext w5 w6 := by (repeat' (first | (with_reducible exact Below.refl _ _) | (with_reducible refine Below.mono (by assumption) ?_) | (with_reducible refine Below.trans ?_ (Below.mono (by assumption) ?_)) | (with_reducible refine Below.alloc ?_ ?_ _) | (with_reducible refine Below.drew ?_) | (with_reducible refine below_drewN ?_ _) | (with_reducible refine Below.setCell ?_ ?_ _) | (simp only [World.size_alloc, World.size_setCell, World.size_drew, size_drewN]; omega) | omega))
                      have k1' := hE6.keep hb35 k1
                      have hb36 : b3 < w6.heap.size := by have := hE6.size; omega
                      have hE6z := hE6.size
                      have HE6 := Lib.hid hE6
                      clear hb hc hf hz hE6
                      by_cases hWn : W2 = n
                      · subst hWn
                        have e : putV h n n 3 = [] := by simp [putV]
                        have HEq := Lib.hid e
                        have hnn : ((n : Int) != (n : Int)) = false := by simp
                        clear e
                        go_wp2
                        go_roundw
                        case rel => exact ⟨j + 1, by omega, (fun e => by cases e), by go_num, by rw [HF9.out, HEq.out, List.append_nil]; exact H5.out.1.ext HE6.out, H5.out.2.1.tr HE6.out, H5.out.2.2.ext HE6.out, HOf.out, by omega⟩
                        case measure => simp [intOf]; omega
                      · have e : putV h n W2 3 = [⟨n, W2, 3⟩] := by unfold putV; rw [if_pos ⟨HDb.out, HDv.out, fun e => hWn e.symm⟩]
                        have HEq := Lib.hid e
                        have hnn : (W2 != (n : Int)) = true := by simpa using hWn
                        clear e
                        go_wp2_with (fail)
                        go_at_call 60
                        refine (CV.out _ (HX.out.ext ((H5.out.2.1.tr HE6.out).tr (by (repeat' (first | (with_reducible exact Below.refl _ _) | (with_reducible refine Below.mono (by assumption) ?_) | (with_reducible refine Below.trans ?_ (Below.mono (by assumption) ?_)) | (with_reducible refine Below.alloc ?_ ?_ _) | (with_reducible refine Below.drew ?_) | (with_reducible refine below_drewN ?_ _) | (with_reducible refine Below.setCell ?_ ?_ _) | (simp only [World.size_alloc, World.size_setCell, World.size_drew, size_drewN]; omega) | omega)))))).mono ?_
                        rintro e w7 ⟨rfl, hb⟩
                        obtain ⟨hc, hf, hz, hs⟩ := bcell hb
                        (try simp only [World.size_alloc, World.size_setCell, World.size_drew, size_drewN] at hs); (first | have l0 := Nat.lt_of_lt_of_le l0 (show _ ≤ w7.heap.size by omega) | have l0 : w.heap.size < w7.heap.size := (by omega) | skip); (try have l0e := Nat.le_of_lt l0); (try have l0f := Nat.le_add_right_of_le (k := 1) l0e); (try have l1 := Nat.lt_of_lt_of_le l1 (show _ ≤ w7.heap.size by omega)); (try have l1e := Nat.le_of_lt l1); (try have l1f := Nat.le_add_right_of_le (k := 1) l1e); (try have l2 := Nat.lt_of_lt_of_le l2 (show _ ≤ w7.heap.size by omega)); (try have l2e := Nat.le_of_lt l2); (try have l2f := Nat.le_add_right_of_le (k := 1) l2e); (try have l3 := Nat.lt_of_lt_of_le l3 (show _ ≤ w7.heap.size by omega)); (try have l3e := Nat.le_of_lt l3); (try have l3f := Nat.le_add_right_of_le (k := 1) l3e)
                        have hE7 : Ext w6 w7 := by (repeat' (first | (with_reducible exact Below.refl _ _) | (with_reducible refine Below.mono (by assumption) ?_) | (with_reducible refine Below.trans ?_ (Below.mono (by assumption) ?_)) | (with_reducible refine Below.alloc ?_ ?_ _) | (with_reducible refine Below.drew ?_) | (with_reducible refine below_drewN ?_ _) | (with_reducible refine Below.setCell ?_ ?_ _) | (simp only [World.size_alloc, World.size_setCell, World.size_drew, size_drewN]; omega) | omega))
                        have hE7z := hE7.size
                        have H7 := Lib.hid (show _ ∧ _ ∧ _ from ⟨(H5.out.1.ext HE6.out).ext hE7, (H5.out.2.1.tr HE6.out).tr hE7, (H5.out.2.2.ext HE6.out).ext hE7⟩)
                        clear hb hc hf hz hE7 H5
                        go_wp2_with (at_builtin; refine wpList_append3_at _ rfl _ _ 55 rfl w.heap.size 76 Tryz.underlying55 infoEdgeS rfl _ L2 rfl (H7.out.1.ext (by (repeat' (first | (with_reducible exact Below.refl _ _) | (with_reducible refine Below.mono (by assumption) ?_) | (with_reducible refine Below.trans ?_ (Below.mono (by assumption) ?_)) | (with_reducible refine Below.alloc ?_ ?_ _) | (with_reducible refine Below.drew ?_) | (with_reducible refine below_drewN ?_ _) | (with_reducible refine Below.setCell ?_ ?_ _) | (simp only [World.size_alloc, World.size_setCell, World.size_drew, size_drewN]; omega) | omega)))) _ n W2 3 rfl ((lit_at _ _ _ 0).trans rfl) ((lit_at _ _ _ 1).trans rfl) ((lit_at _ _ _ 2).trans rfl) ?_ ?_ ?_)
                        all_goals try (first | omega | (simp only [World.size_alloc, size_drewN]; omega) | (go_simp; done))
                        intro v' w' hown' hgrow hv'
                        have ed : Ext w7 (w7.alloc (.cells #[.int .i64 n, .int .i64 W2, .int .i64 3] 76)) := by (repeat' (first | (with_reducible exact Below.refl _ _) | (with_reducible refine Below.mono (by assumption) ?_) | (with_reducible refine Below.trans ?_ (Below.mono (by assumption) ?_)) | (with_reducible refine Below.alloc ?_ ?_ _) | (with_reducible refine Below.drew ?_) | (with_reducible refine below_drewN ?_ _) | (with_reducible refine Below.setCell ?_ ?_ _) | (simp only [World.size_alloc, World.size_setCell, World.size_drew, size_drewN]; omega) | omega))
                        have hE' : Ext w w' := Below.grown (H7.out.2.1.tr ed) hgrow (H7.out.2.1.tr ed).size (fun g hg => (own3_lt H7.out.1 g hg).1)
                        have hz' : w3.heap.size ≤ w'.heap.size := by have := hgrow.size; have := ed.size; omega
                        have hRs' := (H7.out.2.2.ext ed).off hgrow HOf.out
                        have hOf' := HOf.out.step hv' (by have := ed.size; omega)
                        have HF := Lib.hid (show _ ∧ _ ∧ _ ∧ _ ∧ _ from ⟨hown', hE', hRs', hOf', hz'⟩)
                        clear hown' hE' hRs' hOf' hz' hgrow hv' ed
                        go_wp2
                        go_roundw
                        case rel => exact ⟨j + 1, by omega, (fun e => by cases e), by go_num, by rw [HF9.out, HEq.out]; exact HF.out.1, HF.out.2.1, HF.out.2.2.1, HF.out.2.2.2.1, HF.out.2.2.2.2⟩
                        case measure => simp [intOf]; omega
          · obtain rfl : n = h.length := by omega
            have hraw : LW ++ rdesD h R (dnT h h.length) = rawE h R := by rw [← HLW.out]; rfl
            rw [hraw] at HO
            obtain ⟨A9, c9, rfl, hO9, _⟩ := HO.out.form
            have hrl : (rawE h R).length ≤ 1048576 := by rw [← hraw, List.length_append]; omega
            have CS := Lib.hid (fun W hx => l8Sorted_c (rawE h R) (fun b => w.heap.size ≤ b) A9 c9 W hx hrl)
            have HO9 := Lib.hid hO9
            clear hraw hO9 HO hdl hdn hrl
            go_wp2_with (fail)
            go_at_call 63
            refine (CS.out _ (HO9.out.ext (by (repeat' (first | (with_reducible exact Below.refl _ _) | (with_reducible refine Below.mono (by assumption) ?_) | (with_reducible refine Below.trans ?_ (Below.mono (by assumption) ?_)) | (with_reducible refine Below.alloc ?_ ?_ _) | (with_reducible refine Below.drew ?_) | (with_reducible refine below_drewN ?_ _) | (with_reducible refine Below.setCell ?_ ?_ _) | (simp only [World.size_alloc, World.size_setCell, World.size_drew, size_drewN]; omega) | omega))))).mono ?_
            rintro e w9 ⟨L, hU, A5, c5, rfl, hO5, hf5, hb⟩
            obtain ⟨hc, hf, hz, hs⟩ := bcell hb
            (try simp only [World.size_alloc, World.size_setCell, World.size_drew, size_drewN] at hs); (first | have l0 := Nat.lt_of_lt_of_le l0 (show _ ≤ w9.heap.size by omega) | have l0 : w.heap.size < w9.heap.size := (by omega) | skip); (try have l0e := Nat.le_of_lt l0); (try have l0f := Nat.le_add_right_of_le (k := 1) l0e); (try have l1 := Nat.lt_of_lt_of_le l1 (show _ ≤ w9.heap.size by omega)); (try have l1e := Nat.le_of_lt l1); (try have l1f := Nat.le_add_right_of_le (k := 1) l1e); (try have l2 := Nat.lt_of_lt_of_le l2 (show _ ≤ w9.heap.size by omega)); (try have l2e := Nat.le_of_lt l2); (try have l2f := Nat.le_add_right_of_le (k := 1) l2e); (try have l3 := Nat.lt_of_lt_of_le l3 (show _ ≤ w9.heap.size by omega)); (try have l3e := Nat.le_of_lt l3); (try have l3f := Nat.le_add_right_of_le (k := 1) l3e)
            have e := edgesV_spec HV.out hU
            subst e
            have HR9 := Lib.hid (show Fresh (edgesV h R) w (.returned (.slice A5 (edgesV h R).length c5)) w9 from ⟨A5, c5, rfl, hO5.mono (fun b h _ => Nat.le_trans hEz h) (fun _ _ h => h), (fun a ha => by have := hf5 a ha; exact ⟨by omega, this.2⟩), HE.out.tr hb⟩)
            clear hU hO5 hf5 hb
            go_wp2
            go_ret
            exact HR9.out
end Go.Proofs.YtmbdacfgmiielaaGreat
