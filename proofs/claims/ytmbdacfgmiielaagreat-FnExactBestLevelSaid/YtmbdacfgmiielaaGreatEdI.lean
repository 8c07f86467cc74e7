/-
  The program's EdgesOf.
-/
import Derived.Test.YtmbdacfgmiielaaGreatGPut46
import Derived.Test.YtmbdacfgmiielaaGreatComG
import Derived.Test.YtmbdacfgmiielaaGreatGBadD24
import Derived.Deep.RegionHeld3
namespace Go.Proofs.YtmbdacfgmiielaaGreat
set_option linter.unusedSimpArgs false
set_option linter.unusedVariables false
set_option maxRecDepth 100000
open Go.RowKit

theorem idx_upto {o : List Int} {v : Int} {k : Nat} (hno : ∀ j, j < k → o[j]? ≠ some v) (hk : o[k]? = some v) : o.idxOf? v = some k := by
  rw [List.idxOf?, List.findIdx?_eq_some_iff_getElem]
  obtain ⟨hl, he⟩ := List.getElem?_eq_some_iff.1 hk
  refine ⟨hl, by simpa using he, fun j hj => ?_⟩
  have := hno j hj
  rw [List.getElem?_eq_getElem (by omega)] at this
  simpa using this
theorem idx_none {o : List Int} {v : Int} (hno : ∀ j, j < o.length → o[j]? ≠ some v) : o.idxOf? v = none := by
  cases h : o.idxOf? v with
  | none => rfl
  | some i =>
    rw [List.idxOf?, List.findIdx?_eq_some_iff_getElem] at h
    obtain ⟨hl, he, _⟩ := h
    have := hno i hl
    rw [List.getElem?_eq_getElem hl] at this
    exact absurd (by simpa using he) (fun e => this (by rw [e]))
def idxV (o : List Int) (v : Int) : Int := match o.idxOf? v with | some i => (i : Int) | none => -1
set_option maxHeartbeats 2000000 in
theorem indexI_c (o : List Int) (v : Int) (S : Nat → Prop) (A : Option Addr) (c : Nat) (w : World) (hx : Ints S w A o) (hl : o.length ≤ 1048576) :
    Calls Tryz.prog 53 #[.slice A o.length c, .int .i64 v] w fun e w' => e = .returned (.int .i64 (idxV o v)) ∧ Ext w w' := by
  go_enter Tryz.func53, Tryz.ntmps53
  go_wp2
  go_loopw [8] (fun i wr => ∃ k : Nat, k ≤ o.length ∧ i = .int .i64 k ∧ (∀ j, j < k → o[j]? ≠ some v) ∧ Ext w wr) (fun i _ => o.length - (intOf i).toNat)
  case atStart => exact ⟨0, Nat.zero_le _, rfl, fun j h => by omega, by (repeat' (first | (with_reducible exact Below.refl _ _) | (with_reducible refine Below.mono (by assumption) ?_) | (with_reducible refine Below.trans ?_ (Below.mono (by assumption) ?_)) | (with_reducible refine Below.alloc ?_ ?_ _) | (with_reducible refine Below.drew ?_) | (with_reducible refine below_drewN ?_ _) | (with_reducible refine Below.setCell ?_ ?_ _) | (simp only [World.size_alloc, World.size_setCell, World.size_drew, size_drewN]; omega) | omega))⟩
  case round =>
    obtain ⟨k, hk, rfl, hno, hE⟩ := hrel
    by_cases hlt : k < o.length
    · obtain ⟨x, b, off, hxk, rfl, _, hb0, cv⟩ := (hx.ext hE).at_ hlt
      by_cases hxv : v = x
      · subst hxv
        have e : idxV o v = k := by unfold idxV; rw [idx_upto hno hxk]
        have HE := Lib.hid e
        clear e hxk hno
        go_wp2
        go_ret
        exact ⟨ret_int HE.out.symm, hE⟩
      · have HNo := Lib.hid (show ∀ j, j < k + 1 → o[j]? ≠ some v from fun j hj => by
          by_cases e : j = k
          · subst e
            rw [hxk]
            simpa using fun e => hxv e.symm
          · exact hno j (by omega))
        clear hxk hno
        go_wp2
        exact ⟨⟨k + 1, by omega, by go_num, HNo.out, hE⟩, by simp [intOf]; omega⟩
    · obtain rfl : k = o.length := by omega
      have e : idxV o v = -1 := by unfold idxV; rw [idx_none hno]
      have HE := Lib.hid e
      clear e hno
      go_wp2
      go_ret
      exact ⟨ret_int HE.out.symm, hE⟩

/-- what a round of the program's EdgesOf keeps -/
structure EdSt (h : List TxnT) (A : Option Addr) (c : Nat) (w : World) (base Bl : Nat) (L : List T3) (v : Value) (W : World) : Prop where
  ext : Ext w W
  hh : W.cell? ⟨w.heap.size, 0, none⟩ = some (.slice A h.length c)
  blk : Blk W Bl 55 #[v]
  own : Own3 W base 76 v L
  ne : some Bl ≠ v.ownBlock
  some_ : ∃ g, v.ownBlock = some g
theorem EdSt.to {h : List TxnT} {A : Option Addr} {c base Bl : Nat} {w W W' : World} {L : List T3} {v : Value} (s : EdSt h A c w base Bl L v W) (hb : w.heap.size < base) (hbl : base ≤ Bl) (hE : Ext W W') : EdSt h A c w base Bl L v W' :=
  ⟨s.ext.tr hE, hE.keep (by have := s.blk.lt; omega) s.hh, s.blk.ext hE, s.own.ext hE, s.ne, s.some_⟩
theorem EdSt.put {h : List TxnT} {A : Option Addr} {c base Bl : Nat} {w W W' : World} {L L' : List T3} {v v' : Value} (s : EdSt h A c w base Bl L v W) (hb : w.heap.size < base) (hbl : base ≤ Bl) (hB : Blk W' Bl 55 #[v']) (hO : Own3 W' base 76 v' L') (hR : PutR Bl v v' W W') : EdSt h A c w base Bl L' v' W' := by
  have hl := s.blk.lt
  have hz := s.ext.size
  refine ⟨hR.below s.ext (by omega) (by omega) (fun g hg => by have := (own3_lt s.own g hg).1; omega), ?_, hB, hO, ?_, hR.some_ s.some_⟩
  · rw [hR.cell (by simp only; omega) (by simp only; omega) (fun e => by have : base ≤ w.heap.size := (own3_lt s.own _ e.symm).1; omega)]
    exact s.hh
  · rcases hR.own with e | ⟨n, e, hn⟩
    · rw [e]; exact s.ne
    · rw [e]; simp only [ne_eq, Option.some.injEq]; omega
set_option maxHeartbeats 8000000 in
theorem implEdgesOf_c (h : List TxnT) (R : List (List Int)) (S S' : Nat → Prop) (A B : Option Addr) (c d : Nat) (w : World) (hx : Txns S w A h) (hsm : Small h) (hr : Rows2 S' w B R) (hrs : SmallR R) :
    Calls Tryz.prog 30 #[.slice A h.length c, .slice B R.length d] w (Fresh (edgesV h R) w) := by
  have CO := fun w hx hr => implOrdersValid_c h R S S' A B c d w hx hsm hr hrs
  have CW := fun key val w hx => implWriterOf_c h S A c key val w hx hsm
  have hsl := hsm.len
  have HX := Lib.hid hx
  have HR := Lib.hid hr
  clear hx hr
  cases hv : ordV h R with
  | false =>
    rw [hv] at CO
    have CO := Lib.hid CO
    have e : edgesV h R = [] := by simp [edgesV, hv]
    rw [e]
    go_enter Tryz.func30, Tryz.ntmps30
    go_wp2_with (go_at_call 29; refine (CO.out _ (HX.out.ext (by (repeat' (first | (with_reducible exact Below.refl _ _) | (with_reducible refine Below.mono (by assumption) ?_) | (with_reducible refine Below.trans ?_ (Below.mono (by assumption) ?_)) | (with_reducible refine Below.alloc ?_ ?_ _) | (with_reducible refine Below.drew ?_) | (with_reducible refine below_drewN ?_ _) | (with_reducible refine Below.setCell ?_ ?_ _) | (simp only [World.size_alloc, World.size_setCell, World.size_drew, size_drewN]; omega) | omega)))) (HR.out.ext (by (repeat' (first | (with_reducible exact Below.refl _ _) | (with_reducible refine Below.mono (by assumption) ?_) | (with_reducible refine Below.trans ?_ (Below.mono (by assumption) ?_)) | (with_reducible refine Below.alloc ?_ ?_ _) | (with_reducible refine Below.drew ?_) | (with_reducible refine below_drewN ?_ _) | (with_reducible refine Below.setCell ?_ ?_ _) | (simp only [World.size_alloc, World.size_setCell, World.size_drew, size_drewN]; omega) | omega))))).mono ?_; rintro e w1 ⟨rfl, hb⟩; obtain ⟨hc, hf, hz, hs⟩ := bcell hb; (try simp only [World.size_alloc, World.size_setCell, World.size_drew, size_drewN] at hs); (first | have l0 := Nat.lt_of_lt_of_le l0 (show _ ≤ w1.heap.size by omega) | have l0 : w.heap.size < w1.heap.size := (by omega) | skip); (try have l0e := Nat.le_of_lt l0); (try have l0f := Nat.le_add_right_of_le (k := 1) l0e); (try have l1 := Nat.lt_of_lt_of_le l1 (show _ ≤ w1.heap.size by omega)); (try have l1e := Nat.le_of_lt l1); (try have l1f := Nat.le_add_right_of_le (k := 1) l1e); (try have l2 := Nat.lt_of_lt_of_le l2 (show _ ≤ w1.heap.size by omega)); (try have l2e := Nat.le_of_lt l2); (try have l2f := Nat.le_add_right_of_le (k := 1) l2e); (try have l3 := Nat.lt_of_lt_of_le l3 (show _ ≤ w1.heap.size by omega)); (try have l3e := Nat.le_of_lt l3); (try have l3f := Nat.le_add_right_of_le (k := 1) l3e))
    all_goals go_ret
    all_goals exact Fresh.nil _ _ (by (repeat' (first | (with_reducible exact Below.refl _ _) | (with_reducible refine Below.mono (by assumption) ?_) | (with_reducible refine Below.trans ?_ (Below.mono (by assumption) ?_)) | (with_reducible refine Below.alloc ?_ ?_ _) | (with_reducible refine Below.drew ?_) | (with_reducible refine below_drewN ?_ _) | (with_reducible refine Below.setCell ?_ ?_ _) | (simp only [World.size_alloc, World.size_setCell, World.size_drew, size_drewN]; omega) | omega)))
  | true =>
    rw [hv] at CO
    have CO := Lib.hid CO
    have H3 := Lib.hid (ord3 hv)
    have HV := Lib.hid hv
    have hR3 : 2 < R.length := by have := H3.out.len; omega
    simp only [H3.out.hist, if_true] at CW
    have CW := Lib.hid CW
    have CD := Lib.hid (fun w hx => done_c h S A c w hx hsm)
    clear hv
    go_enter Tryz.func30, Tryz.ntmps30
    go_wp2_with (fail)
    go_at_call 29
    refine (CO.out _ (HX.out.ext (by (repeat' (first | (with_reducible exact Below.refl _ _) | (with_reducible refine Below.mono (by assumption) ?_) | (with_reducible refine Below.trans ?_ (Below.mono (by assumption) ?_)) | (with_reducible refine Below.alloc ?_ ?_ _) | (with_reducible refine Below.drew ?_) | (with_reducible refine below_drewN ?_ _) | (with_reducible refine Below.setCell ?_ ?_ _) | (simp only [World.size_alloc, World.size_setCell, World.size_drew, size_drewN]; omega) | omega)))) (HR.out.ext (by (repeat' (first | (with_reducible exact Below.refl _ _) | (with_reducible refine Below.mono (by assumption) ?_) | (with_reducible refine Below.trans ?_ (Below.mono (by assumption) ?_)) | (with_reducible refine Below.alloc ?_ ?_ _) | (with_reducible refine Below.drew ?_) | (with_reducible refine below_drewN ?_ _) | (with_reducible refine Below.setCell ?_ ?_ _) | (simp only [World.size_alloc, World.size_setCell, World.size_drew, size_drewN]; omega) | omega))))).mono ?_
    rintro e w1 ⟨rfl, hb⟩
    obtain ⟨hc, hf, hz, hs⟩ := bcell hb
    (try simp only [World.size_alloc, World.size_setCell, World.size_drew, size_drewN] at hs); (first | have l0 := Nat.lt_of_lt_of_le l0 (show _ ≤ w1.heap.size by omega) | have l0 : w.heap.size < w1.heap.size := (by omega) | skip); (try have l0e := Nat.le_of_lt l0); (try have l0f := Nat.le_add_right_of_le (k := 1) l0e); (try have l1 := Nat.lt_of_lt_of_le l1 (show _ ≤ w1.heap.size by omega)); (try have l1e := Nat.le_of_lt l1); (try have l1f := Nat.le_add_right_of_le (k := 1) l1e); (try have l2 := Nat.lt_of_lt_of_le l2 (show _ ≤ w1.heap.size by omega)); (try have l2e := Nat.le_of_lt l2); (try have l2f := Nat.le_add_right_of_le (k := 1) l2e); (try have l3 := Nat.lt_of_lt_of_le l3 (show _ ≤ w1.heap.size by omega)); (try have l3e := Nat.le_of_lt l3); (try have l3f := Nat.le_add_right_of_le (k := 1) l3e)
    have hE1 : Ext w w1 := by (repeat' (first | (with_reducible exact Below.refl _ _) | (with_reducible refine Below.mono (by assumption) ?_) | (with_reducible refine Below.trans ?_ (Below.mono (by assumption) ?_)) | (with_reducible refine Below.alloc ?_ ?_ _) | (with_reducible refine Below.drew ?_) | (with_reducible refine below_drewN ?_ _) | (with_reducible refine Below.setCell ?_ ?_ _) | (simp only [World.size_alloc, World.size_setCell, World.size_drew, size_drewN]; omega) | omega))
    have hh1 : w1.cell? ⟨w.heap.size, 0, none⟩ = some (.slice A h.length c) := hb.keep (by simp) ((lit_at w _ _ 0).trans rfl)
    have hwz : w.heap.size < w1.heap.size := by have := hb.size; simp only [World.size_alloc] at this; omega
    have hO : Own3 (w1.alloc (.cells #[] 76)) w1.heap.size 76 (.slice (some ⟨w1.heap.size, 0, none⟩) 0 0) [] := Own3.made w1 #[] 0 rfl (Nat.le_refl _) (by omega) rfl
    have hWR : ∀ key val, wrN h key val < h.length := fun key val => by
      rcases wrN_range h key val with e | ⟨k, hk, e⟩ <;> omega
    clear hb hc hf hz CO
    have e0 : Ext w1 ((w1.alloc (.cells #[] 76)).alloc (.cells #[.slice (some ⟨w1.heap.size, 0, none⟩) 0 0] 55)) := by (repeat' (first | (with_reducible exact Below.refl _ _) | (with_reducible refine Below.mono (by assumption) ?_) | (with_reducible refine Below.trans ?_ (Below.mono (by assumption) ?_)) | (with_reducible refine Below.alloc ?_ ?_ _) | (with_reducible refine Below.drew ?_) | (with_reducible refine below_drewN ?_ _) | (with_reducible refine Below.setCell ?_ ?_ _) | (simp only [World.size_alloc, World.size_setCell, World.size_drew, size_drewN]; omega) | omega))
    have S0 : EdSt h A c w w1.heap.size (w1.heap.size + 1) [] (.slice (some ⟨w1.heap.size, 0, none⟩) 0 0) ((w1.alloc (.cells #[] 76)).alloc (.cells #[.slice (some ⟨w1.heap.size, 0, none⟩) 0 0] 55)) := by
      refine ⟨hE1.tr e0, e0.keep hwz hh1, ?_, hO.ext (show Ext _ _ from Below.alloc (Below.refl _ _) (Nat.le_refl _) _), by simp [Value.ownBlock], ⟨_, rfl⟩⟩
      have := Blk.new (w1.alloc (.cells #[] 76)) 55 #[.slice (some ⟨w1.heap.size, 0, none⟩) 0 0]
      simpa using this
    obtain ⟨Bz, hBz⟩ : ∃ Bz, w1.heap.size = Bz := ⟨_, rfl⟩
    have HS0 := Lib.hid S0
    have HWR := Lib.hid hWR
    have hBz1 : w.heap.size < Bz := by omega
    clear S0 e0 hO hh1 hE1 hWR
    go_wp2
    go_loopw [25] (fun i W => ∃ (k : Nat) (v : Value), k ≤ 3 ∧ i = .int .i64 k ∧ EdSt h A c w Bz (Bz + 1) (wesR h R k) v W) (fun i _ => 3 - (intOf i).toNat)
    case atStart => exact ⟨0, _, by omega, rfl, by subst hBz; exact HS0.out⟩
    case round =>
      obtain ⟨k, v, hk, rfl, hst⟩ := hrel
      clear HS0
      have hLl := H3.out.wesR_le k
      have HS := Lib.hid hst
      have b0 := hst.hh
      by_cases hlt : k < 3
      · obtain ⟨o, A', cap, b, off, hok, rfl, _, hbw, hI, c0w⟩ := HR.out.at_ (i := k) (by omega)
        have c0 := hst.ext.keep hbw c0w
        have hol := H3.out.row_le hok
        have HOk := Lib.hid hok
        have HI := Lib.hid hI
        have hki : (k : Int) < R.length := by omega
        clear hok hI hst
        go_wp2
        go_loopw [9] (fun i W => ∃ (j : Nat) (v : Value), j ≤ o.length - 1 ∧ i = .int .i64 ((j + 1 : Nat) : Int) ∧ EdSt h A c w Bz (Bz + 1) (wesR h R k ++ wes h k o j) v W) (fun i _ => o.length - (intOf i).toNat)
        case atStart => exact ⟨0, v, by omega, rfl, by simpa [wes] using HS.out⟩
        case round =>
          obtain ⟨j, v2, hj, rfl, hst⟩ := hrel
          have HS2 := Lib.hid hst
          have hEw := hst.ext
          have hEz := hEw.size
          have bh := hst.hh
          have hwl := wes_len h k o j
          have hBl := hst.blk.lt
          clear hst
          by_cases hlt2 : j + 1 < o.length
          · obtain ⟨x, b3, off3, hxj, rfl, _, hb3w0, cxw⟩ := HI.out.at_ (i := j) (by omega)
            obtain ⟨y, b4, off4, hyj, e4, _, _, cyw⟩ := HI.out.at_ hlt2
            simp only [Option.some.injEq, Addr.mk.injEq] at e4
            obtain ⟨rfl, rfl, _⟩ := e4
            have cx := hEw.keep hb3w0 cxw
            have cy := hEw.keep hb3w0 cyw
            have hb3 : b3 < wr.heap.size := by omega
            have hws := wes_succ (h := h) (key := (k : Int)) hxj hyj
            have CX := fun w hx => CW.out (k : Int) x w hx
            have CY := fun w hx => CW.out (k : Int) y w hx
            have fxl := HWR.out (k : Int) x
            have fyl := HWR.out (k : Int) y
            generalize wrN h (k : Int) x = fx at hws CX fxl
            generalize wrN h (k : Int) y = fy at hws CY fyl
            have CX := Lib.hid CX
            have CY := Lib.hid CY
            have HWs := Lib.hid hws
            have hji : ((j + 1 : Nat) : Int) < o.length := by omega
            have hj1 : ((j + 1 : Nat) : Int) = (j : Int) + 1 := by omega
            have hj2 : ((j + 1 : Nat) : Int) - 1 = (j : Int) := by omega
            have hj0 : (0 : Int) ≤ (j : Int) := by omega
            have hj3 : (j : Int) < o.length := by omega
            have hj4 : (0 : Int) ≤ (j : Int) + 1 := by omega
            have hj5 : ((j : Int) + 1).toNat = j + 1 := by omega
            have hj6 : (j : Int) + 1 < o.length := by omega
            have hjn : j < o.length := by omega
            have hwr : IntKind.i64.wrap ((j : Int) + 1 - 1) = (j : Int) := by rw [IntKind.wrap_i64]; omega
            have hwr3 : IntKind.i64.wrap (j : Int) = (j : Int) := by rw [IntKind.wrap_i64]; omega
            have hj7 : (j : Int) + 1 - 1 = (j : Int) := by omega
            have hwr2 : IntKind.i64.wrap ((j : Int) + 1) = (j : Int) + 1 := by rw [IntKind.wrap_i64]; omega
            have hll : (wesR h R k ++ wes h k o j).length ≤ 1048576 := by rw [List.length_append]; omega
            clear hws hxj hyj
            go_upto_region 11 with (fail)
            go_region_held3 (fun W => W.cell? ⟨w.heap.size, 0, none⟩ = some (.slice A h.length c) ∧ W.cell? ⟨b3, off3 + j, none⟩ = some (.int .i64 x) ∧ W.cell? ⟨b3, off3 + (j + 1), none⟩ = some (.int .i64 y))
              (first | go_keep | exact ⟨hS'.hh, hS'.ext.keep hb3w0 cxw, hS'.ext.keep hb3w0 cyw⟩ | exact ⟨hE4.keep (by omega) bh, hE4.keep hb3 cx, hE4.keep hb3 cy⟩ | exact ⟨hE3.keep (by omega) bh, hE3.keep hb3 cx, hE3.keep hb3 cy⟩)
              (first
                | (go_at_call 50; with_reducible refine (CX.out _ (HX.out.ext (HS2.out.ext.tr (by (repeat' (first | (with_reducible exact Below.refl _ _) | (with_reducible refine Below.mono (by assumption) ?_) | (with_reducible refine Below.trans ?_ (Below.mono (by assumption) ?_)) | (with_reducible refine Below.alloc ?_ ?_ _) | (with_reducible refine Below.drew ?_) | (with_reducible refine below_drewN ?_ _) | (with_reducible refine Below.setCell ?_ ?_ _) | (simp only [World.size_alloc, World.size_setCell, World.size_drew, size_drewN]; omega) | omega)))))).mono ?_; rintro e w3 ⟨rfl, hb3w⟩; have z3 := hb3w.size; try simp only [World.size_drew] at z3
                   have hE3 : Ext wr w3 := by (repeat' (first | (with_reducible exact Below.refl _ _) | (with_reducible refine Below.mono (by assumption) ?_) | (with_reducible refine Below.trans ?_ (Below.mono (by assumption) ?_)) | (with_reducible refine Below.alloc ?_ ?_ _) | (with_reducible refine Below.drew ?_) | (with_reducible refine below_drewN ?_ _) | (with_reducible refine Below.setCell ?_ ?_ _) | (simp only [World.size_alloc, World.size_setCell, World.size_drew, size_drewN]; omega) | omega)))
                | (go_at_call 50; with_reducible refine (CY.out _ (HX.out.ext (HS2.out.ext.tr (by (repeat' (first | (with_reducible exact Below.refl _ _) | (with_reducible refine Below.mono (by assumption) ?_) | (with_reducible refine Below.trans ?_ (Below.mono (by assumption) ?_)) | (with_reducible refine Below.alloc ?_ ?_ _) | (with_reducible refine Below.drew ?_) | (with_reducible refine below_drewN ?_ _) | (with_reducible refine Below.setCell ?_ ?_ _) | (simp only [World.size_alloc, World.size_setCell, World.size_drew, size_drewN]; omega) | omega)))))).mono ?_; rintro e w4 ⟨rfl, hb4w⟩; have z4 := hb4w.size; try simp only [World.size_drew] at z4
                   have hE4 : Ext wr w4 := by (repeat' (first | (with_reducible exact Below.refl _ _) | (with_reducible refine Below.mono (by assumption) ?_) | (with_reducible refine Below.trans ?_ (Below.mono (by assumption) ?_)) | (with_reducible refine Below.alloc ?_ ?_ _) | (with_reducible refine Below.drew ?_) | (with_reducible refine below_drewN ?_ _) | (with_reducible refine Below.setCell ?_ ?_ _) | (simp only [World.size_alloc, World.size_setCell, World.size_drew, size_drewN]; omega) | omega)))
                | (go_at_call 49; with_reducible refine (put_c h fx fy 1 w.heap.size (Bz + 1) Bz A c S v2 (wesR h R k ++ wes h k o j) _ (HX.out.ext (HS2.out.to hBz1 (by omega) (by (repeat' (first | (with_reducible exact Below.refl _ _) | (with_reducible refine Below.mono (by assumption) ?_) | (with_reducible refine Below.trans ?_ (Below.mono (by assumption) ?_)) | (with_reducible refine Below.alloc ?_ ?_ _) | (with_reducible refine Below.drew ?_) | (with_reducible refine below_drewN ?_ _) | (with_reducible refine Below.setCell ?_ ?_ _) | (simp only [World.size_alloc, World.size_setCell, World.size_drew, size_drewN]; omega) | omega)))).ext) (HS2.out.to hBz1 (by omega) (by (repeat' (first | (with_reducible exact Below.refl _ _) | (with_reducible refine Below.mono (by assumption) ?_) | (with_reducible refine Below.trans ?_ (Below.mono (by assumption) ?_)) | (with_reducible refine Below.alloc ?_ ?_ _) | (with_reducible refine Below.drew ?_) | (with_reducible refine below_drewN ?_ _) | (with_reducible refine Below.setCell ?_ ?_ _) | (simp only [World.size_alloc, World.size_setCell, World.size_drew, size_drewN]; omega) | omega)))).hh (by first | omega | (simp only [World.size_drew]; omega)) (HS2.out.to hBz1 (by omega) (by (repeat' (first | (with_reducible exact Below.refl _ _) | (with_reducible refine Below.mono (by assumption) ?_) | (with_reducible refine Below.trans ?_ (Below.mono (by assumption) ?_)) | (with_reducible refine Below.alloc ?_ ?_ _) | (with_reducible refine Below.drew ?_) | (with_reducible refine below_drewN ?_ _) | (with_reducible refine Below.setCell ?_ ?_ _) | (simp only [World.size_alloc, World.size_setCell, World.size_drew, size_drewN]; omega) | omega)))).blk (HS2.out.to hBz1 (by omega) (by (repeat' (first | (with_reducible exact Below.refl _ _) | (with_reducible refine Below.mono (by assumption) ?_) | (with_reducible refine Below.trans ?_ (Below.mono (by assumption) ?_)) | (with_reducible refine Below.alloc ?_ ?_ _) | (with_reducible refine Below.drew ?_) | (with_reducible refine below_drewN ?_ _) | (with_reducible refine Below.setCell ?_ ?_ _) | (simp only [World.size_alloc, World.size_setCell, World.size_drew, size_drewN]; omega) | omega)))).own HS2.out.ne (by omega) hll fxl fyl).mono ?_; rintro e w6 ⟨v6, rfl, hB6, hO6, hP6⟩
                   have hS' := (HS2.out.to hBz1 (by omega) (show Ext wr _ from by (repeat' (first | (with_reducible exact Below.refl _ _) | (with_reducible refine Below.mono (by assumption) ?_) | (with_reducible refine Below.trans ?_ (Below.mono (by assumption) ?_)) | (with_reducible refine Below.alloc ?_ ?_ _) | (with_reducible refine Below.drew ?_) | (with_reducible refine below_drewN ?_ _) | (with_reducible refine Below.setCell ?_ ?_ _) | (simp only [World.size_alloc, World.size_setCell, World.size_drew, size_drewN]; omega) | omega)))).put hBz1 (by omega) hB6 hO6 hP6))
            have HF := Lib.hid hS'
            clear hS' hE3 hE4 hb3w hb4w hB6 hO6 hP6
            go_wp2
            exact ⟨⟨j + 1, v6, by omega, by go_num, by rw [HWs.out, ← List.append_assoc]; exact HF.out⟩, by simp [intOf]; omega⟩
          · have e : j = o.length - 1 := by omega
            have hs := wesR_succ HOk.out (h := h)
            rw [← e] at hs
            have HSs := Lib.hid hs
            have hji : ¬ ((j + 1 : Nat) : Int) < o.length := by omega
            clear hs e
            go_wp2
            go_roundw
            case rel => exact ⟨k + 1, v2, by omega, by go_num, by rw [HSs.out]; exact HS2.out⟩
            case measure => simp [intOf]; omega
      · have hk3 : k = 3 := by omega
        rw [hk3] at HS hLl
        have hki : ¬ ((k : Int) < R.length) := by have := H3.out.len; omega
        obtain ⟨LW, hLW⟩ : ∃ LW, wesR h R 3 = LW := ⟨_, rfl⟩
        rw [hLW] at HS hLl
        have HLW := Lib.hid hLW
        clear hst hk3 hLW
        have HUp := Lib.hid (fun q x (hq : (dnT h h.length)[q]? = some x) => uptoD_take (h := h) hq)
        have hdl := dnT_len h h.length
        have hraw : LW ++ rdesD h R (dnT h h.length) = rawE h R := by rw [← HLW.out]; rfl
        generalize dnT h h.length = D at CD HUp hdl hraw
        have HRaw := Lib.hid hraw
        have hvl := fun g hg => (own3_lt HS.out.own g hg).2
        have hBlz := HS.out.blk.lt
        clear hraw
        go_wp2_with (fail)
        go_at_call 51
        refine (CD.out _ (HX.out.ext (HS.out.ext.tr (by (repeat' (first | (with_reducible exact Below.refl _ _) | (with_reducible refine Below.mono (by assumption) ?_) | (with_reducible refine Below.trans ?_ (Below.mono (by assumption) ?_)) | (with_reducible refine Below.alloc ?_ ?_ _) | (with_reducible refine Below.drew ?_) | (with_reducible refine below_drewN ?_ _) | (with_reducible refine Below.setCell ?_ ?_ _) | (simp only [World.size_alloc, World.size_setCell, World.size_drew, size_drewN]; omega) | omega)))))).mono ?_
        rintro e w3 ⟨A3, c3, rfl, hD, hfD, hb⟩
        obtain ⟨hc, hf, hz, hs⟩ := bcell hb
        (try simp only [World.size_alloc, World.size_setCell, World.size_drew, size_drewN] at hs); (first | have l0 := Nat.lt_of_lt_of_le l0 (show _ ≤ w3.heap.size by omega) | have l0 : w.heap.size < w3.heap.size := (by omega) | skip); (try have l0e := Nat.le_of_lt l0); (try have l0f := Nat.le_add_right_of_le (k := 1) l0e); (try have l1 := Nat.lt_of_lt_of_le l1 (show _ ≤ w3.heap.size by omega)); (try have l1e := Nat.le_of_lt l1); (try have l1f := Nat.le_add_right_of_le (k := 1) l1e); (try have l2 := Nat.lt_of_lt_of_le l2 (show _ ≤ w3.heap.size by omega)); (try have l2e := Nat.le_of_lt l2); (try have l2f := Nat.le_add_right_of_le (k := 1) l2e); (try have l3 := Nat.lt_of_lt_of_le l3 (show _ ≤ w3.heap.size by omega)); (try have l3e := Nat.le_of_lt l3); (try have l3f := Nat.le_add_right_of_le (k := 1) l3e)
        have hE3 : Ext wr w3 := by (repeat' (first | (with_reducible exact Below.refl _ _) | (with_reducible refine Below.mono (by assumption) ?_) | (with_reducible refine Below.trans ?_ (Below.mono (by assumption) ?_)) | (with_reducible refine Below.alloc ?_ ?_ _) | (with_reducible refine Below.drew ?_) | (with_reducible refine below_drewN ?_ _) | (with_reducible refine Below.setCell ?_ ?_ _) | (simp only [World.size_alloc, World.size_setCell, World.size_drew, size_drewN]; omega) | omega))
        have H0 := Lib.hid (show EdSt h A c w Bz (Bz + 1) (LW ++ rdesD h R (D.take 0)) v w3 ∧ Ints (fun b => wr.heap.size ≤ b ∧ b < w3.heap.size) w3 A3 D ∧ Off v wr.heap.size w3.heap.size from ⟨by simpa [rdesD] using HS.out.to hBz1 (by omega) hE3, hD.within_hi, Off.of_lt hvl⟩)
        have hz3 := hE3.size
        obtain ⟨lo, hlo⟩ : ∃ lo, wr.heap.size = lo := ⟨_, rfl⟩
        obtain ⟨hi, hhi⟩ : ∃ hi, w3.heap.size = hi := ⟨_, rfl⟩
        rw [hlo, hhi] at H0
        have hlob : Bz + 1 < lo := by omega
        clear hD hfD hb hc hf hz hE3 HS hvl CD b0
        go_wp2
        go_loopw [57] (fun i W => ∃ (q : Nat) (v : Value), q ≤ D.length ∧ i = .int .i64 q ∧ EdSt h A c w Bz (Bz + 1) (LW ++ rdesD h R (D.take q)) v W ∧ Ints (fun b => lo ≤ b ∧ b < hi) W A3 D ∧ Off v lo hi ∧ hi ≤ W.heap.size) (fun i _ => D.length - (intOf i).toNat)
        case atStart => exact ⟨0, v, Nat.zero_le _, rfl, H0.out.1, H0.out.2.1, H0.out.2.2, by omega⟩
        case round =>
          obtain ⟨q, v4, hq, rfl, hst, hDi, hoff, hzhi⟩ := hrel
          clear H0
          have HS := Lib.hid hst
          have HOf := Lib.hid hoff
          have HDi := Lib.hid hDi
          have bh := hst.hh
          have hEz := hst.ext.size
          have hBl4 := hst.blk.lt
          have hrdl := rdesD_len H3.out.hist R (D.take q)
          rw [List.length_take] at hrdl
          have hh6 := histv_len H3.out.hist
          by_cases hlt4 : q < D.length
          · obtain ⟨x, bd, offd, hxq, rfl, _, hbd, cd⟩ := hDi.at_ hlt4
            obtain ⟨n, t, rfl, hnt, hdt, _⟩ := HUp.out q x hxq
            have hnl := (List.getElem?_eq_some_iff.1 hnt).1
            have htk := rdesD_take (R := R) hxq hnt
            obtain ⟨s, ops, dd, A', cap, b, off, hxn, rfl, _, hb0, hOp, c0w, c1w, c2w⟩ := HX.out.at_ hnl
            rw [hnt] at hxn
            cases hxn
            simp only at hdt htk
            subst hdt
            have htv := histv_txn H3.out.hist _ (List.mem_of_getElem? hnt)
            have hopv := txnv_ops htv
            have hon : ops.length ≤ 6 := ops_le H3.out.hist hnt
            have CF := fun w hx => firstReads_c ⟨s, ops, true⟩ S A' cap w hx (by simp only; omega)
            simp only [frs_eq hopv] at CF
            have hrl := frs_len ops ops.length
            have hro : ∀ (j : Nat) o, (frs ops ops.length)[j]? = some o → opv o = true := fun j o ho => by
              obtain ⟨i, _, hi, _⟩ := (frs_mem (ops := ops) (o := o) ops.length).1 (List.mem_of_getElem? ho)
              exact hopv o (List.mem_of_getElem? hi)
            obtain ⟨rs, hrs9⟩ : ∃ rs, frs ops ops.length = rs := ⟨_, rfl⟩
            rw [hrs9] at CF hrl hro htk
            have CF := Lib.hid CF
            have HRo := Lib.hid hro
            have HTk := Lib.hid htk
            have HOp := Lib.hid hOp
            have c0 := hst.ext.keep hb0 c0w
            have c1 := hst.ext.keep hb0 c1w
            have c2 := hst.ext.keep hb0 c2w
            have hb1 : b < wr.heap.size := by omega
            have hni : (n : Int) < h.length := by omega
            have hqi : (q : Int) < D.length := by omega
            have hvl := fun g hg => (own3_lt hst.own g hg).2
            clear htv hopv hro hOp hnt hxq hrs9 hst hoff hDi htk
            go_wp2_with (fail)
            go_at_call 52
            refine (CF.out _ (HOp.out.ext (HS.out.ext.tr (by (repeat' (first | (with_reducible exact Below.refl _ _) | (with_reducible refine Below.mono (by assumption) ?_) | (with_reducible refine Below.trans ?_ (Below.mono (by assumption) ?_)) | (with_reducible refine Below.alloc ?_ ?_ _) | (with_reducible refine Below.drew ?_) | (with_reducible refine below_drewN ?_ _) | (with_reducible refine Below.setCell ?_ ?_ _) | (simp only [World.size_alloc, World.size_setCell, World.size_drew, size_drewN]; omega) | omega)))))).mono ?_
            rintro e w5 ⟨A4, c4, rfl, hF, _, hb⟩
            obtain ⟨hc, hf, hz, hs⟩ := bcell hb
            (try simp only [World.size_alloc, World.size_setCell, World.size_drew, size_drewN] at hs); (first | have l0 := Nat.lt_of_lt_of_le l0 (show _ ≤ w5.heap.size by omega) | have l0 : w.heap.size < w5.heap.size := (by omega) | skip); (try have l0e := Nat.le_of_lt l0); (try have l0f := Nat.le_add_right_of_le (k := 1) l0e); (try have l1 := Nat.lt_of_lt_of_le l1 (show _ ≤ w5.heap.size by omega)); (try have l1e := Nat.le_of_lt l1); (try have l1f := Nat.le_add_right_of_le (k := 1) l1e); (try have l2 := Nat.lt_of_lt_of_le l2 (show _ ≤ w5.heap.size by omega)); (try have l2e := Nat.le_of_lt l2); (try have l2f := Nat.le_add_right_of_le (k := 1) l2e); (try have l3 := Nat.lt_of_lt_of_le l3 (show _ ≤ w5.heap.size by omega)); (try have l3e := Nat.le_of_lt l3); (try have l3f := Nat.le_add_right_of_le (k := 1) l3e)
            have hE5 : Ext wr w5 := by (repeat' (first | (with_reducible exact Below.refl _ _) | (with_reducible refine Below.mono (by assumption) ?_) | (with_reducible refine Below.trans ?_ (Below.mono (by assumption) ?_)) | (with_reducible refine Below.alloc ?_ ?_ _) | (with_reducible refine Below.drew ?_) | (with_reducible refine below_drewN ?_ _) | (with_reducible refine Below.setCell ?_ ?_ _) | (simp only [World.size_alloc, World.size_setCell, World.size_drew, size_drewN]; omega) | omega))
            have hz5 := hE5.size
            have H0 := Lib.hid (show EdSt h (some ⟨b, off, none⟩) c w Bz (Bz + 1) (LW ++ rdesD h R (D.take q) ++ rdes h R n (rs.take 0)) v4 w5 ∧ Ints (fun b => lo ≤ b ∧ b < hi) w5 (some ⟨bd, offd, none⟩) D ∧ Off v4 lo hi ∧ Ops (fun b => wr.heap.size ≤ b ∧ b < w5.heap.size) w5 A4 rs ∧ Off v4 wr.heap.size w5.heap.size from ⟨by simpa [rdes] using HS.out.to hBz1 (by omega) hE5, HDi.out.ext hE5, HOf.out, ops_within_hi (hF.mono (fun _ h _ => by first | exact h | (simp only [World.size_drew] at h; exact h)) (fun _ _ h => h)), Off.of_lt hvl⟩)
            obtain ⟨lo2, hlo2⟩ : ∃ lo2, wr.heap.size = lo2 := ⟨_, rfl⟩
            obtain ⟨hi2, hhi2⟩ : ∃ hi2, w5.heap.size = hi2 := ⟨_, rfl⟩
            rw [hlo2, hhi2] at H0
            have hlob2 : Bz + 1 < lo2 := by omega
            clear hF hb hc hf hz hE5 HS HOf HDi hvl CF
            go_wp2
            go_loopw [67] (fun i W => ∃ (j : Nat) (v : Value), j ≤ rs.length ∧ i = .int .i64 j ∧ EdSt h (some ⟨b, off, none⟩) c w Bz (Bz + 1) (LW ++ rdesD h R (D.take q) ++ rdes h R n (rs.take j)) v W ∧ Ints (fun b => lo ≤ b ∧ b < hi) W (some ⟨bd, offd, none⟩) D ∧ Off v lo hi ∧ Ops (fun b => lo2 ≤ b ∧ b < hi2) W A4 rs ∧ Off v lo2 hi2 ∧ hi2 ≤ W.heap.size) (fun i _ => rs.length - (intOf i).toNat)
            case atStart => exact ⟨0, v4, Nat.zero_le _, rfl, H0.out.1, H0.out.2.1, H0.out.2.2.1, H0.out.2.2.2.1, H0.out.2.2.2.2, by omega⟩
            case round =>
              obtain ⟨j, v5, hj, rfl, hst, hDi, hoff, hRs, hoff2, hzhi2⟩ := hrel
              clear H0
              have HS := Lib.hid hst
              have HOf := Lib.hid hoff
              have HOf2 := Lib.hid hoff2
              have HDi := Lib.hid hDi
              have HRs := Lib.hid hRs
              have bh5 := hst.hh
              have hEz5 := hst.ext.size
              have hBl5 := hst.blk.lt
              have hvl := fun g hg => (own3_lt hst.own g hg).2
              by_cases hlt5 : j < rs.length
              rotate_left
              · obtain rfl : j = rs.length := by omega
                rw [List.take_length] at HS
                clear hst hDi hoff hRs hoff2
                go_wp2
                go_roundw
                case rel => exact ⟨q + 1, v5, by omega, by go_num, by rw [HTk.out, ← List.append_assoc]; exact HS.out, HDi.out, HOf.out, by omega⟩
                case measure => simp [intOf]; omega
              obtain ⟨x0, x1, x2, b3, off3, hxj, rfl, _, hb3, g0, g1, g2⟩ := hRs.at_ hlt5
              have hov := HRo.out j _ hxj
              have hkey : 0 ≤ x1 ∧ x1 ≤ 2 := by
                simp only [opv, inB, Bool.and_eq_true, decide_eq_true_eq] at hov
                omega
              obtain ⟨y, rfl⟩ := Int.eq_ofNat_of_zero_le hkey.1
              have hy3 : y < 3 := by omega
              have hji : (j : Int) < rs.length := by omega
              have hyR : (y : Int) < R.length := by omega
              have hy0 : (0 : Int) ≤ (y : Int) := by omega
              have htk := rdes_take (h := h) (R := R) (n := (n : Int)) hxj
              obtain ⟨o, Ao, capo, bR, offR, hok, rfl, _, hbRw, hIo, r0w⟩ := HR.out.at_ (i := y) (by omega)
              have hol := H3.out.row_le hok
              have hgd : R.getD y [] = o := by rw [List.getD_eq_getElem?_getD, hok, Option.getD_some]
              have CX := fun w hx => CW.out (y : Int) x2 w hx
              have W1l := HWR.out (y : Int) x2
              have hrde : rde h R (n : Int) ⟨x0, (y : Int), x2⟩ = putV h (wrN h (y : Int) x2) n 2 ++ overV h n (y : Int) (nxtV o x2) := by
                unfold rde
                simp only [Int.toNat_natCast, hgd]
              rw [hrde] at htk
              obtain ⟨W1, hW1⟩ : ∃ W1, wrN h (y : Int) x2 = W1 := ⟨_, rfl⟩
              rw [hW1] at CX W1l htk
              have hfin : ∀ T, overV h n (y : Int) (nxtV o x2) = T → LW ++ rdesD h R (D.take q) ++ rdes h R n (rs.take (j + 1)) = (LW ++ rdesD h R (D.take q) ++ rdes h R n (rs.take j) ++ putV h W1 n 2) ++ T := fun T hT => by
                rw [htk, hT]
                simp only [List.append_assoc]
              have hlen := rdes_len h R n (rs.take j)
              rw [List.length_take] at hlen
              have hlen1 : (LW ++ rdesD h R (D.take q) ++ rdes h R n (rs.take j)).length ≤ 1000000 := by
                simp only [List.length_append]
                omega
              generalize LW ++ rdesD h R (D.take q) ++ rdes h R n (rs.take j) = L1 at HS hfin hlen1
              have hpl := putV_len h W1 n 2
              have HFin := Lib.hid hfin
              have CX := Lib.hid CX
              have HIo := Lib.hid hIo
              have hEb : Ext wr (wr.alloc (.cells #[.int .i64 x0, .int .i64 (y : Int), .int .i64 x2] 62)) := by (repeat' (first | (with_reducible exact Below.refl _ _) | (with_reducible refine Below.mono (by assumption) ?_) | (with_reducible refine Below.trans ?_ (Below.mono (by assumption) ?_)) | (with_reducible refine Below.alloc ?_ ?_ _) | (with_reducible refine Below.drew ?_) | (with_reducible refine below_drewN ?_ _) | (with_reducible refine Below.setCell ?_ ?_ _) | (simp only [World.size_alloc, World.size_setCell, World.size_drew, size_drewN]; omega) | omega))
              have q1 := (lit_at wr #[.int .i64 x0, .int .i64 (y : Int), .int .i64 x2] 62 1).trans rfl
              have q2 := (lit_at wr #[.int .i64 x0, .int .i64 (y : Int), .int .i64 x2] 62 2).trans rfl
              have bh5' := hEb.keep (by omega) bh5
              clear hfin htk hrde hIo hxj hok hov hW1 hlen hgd hst hDi hoff hRs hoff2
              go_wp2_with (fail)
              go_at_call 50
              refine (CX.out _ (HX.out.ext (HS.out.ext.tr hEb))).mono ?_
              rintro e w6 ⟨rfl, hb⟩
              obtain ⟨hc, hf, hz, hs⟩ := bcell hb
              (try simp only [World.size_alloc, World.size_setCell, World.size_drew, size_drewN] at hs); (first | have l0 := Nat.lt_of_lt_of_le l0 (show _ ≤ w6.heap.size by omega) | have l0 : w.heap.size < w6.heap.size := (by omega) | skip); (try have l0e := Nat.le_of_lt l0); (try have l0f := Nat.le_add_right_of_le (k := 1) l0e); (try have l1 := Nat.lt_of_lt_of_le l1 (show _ ≤ w6.heap.size by omega)); (try have l1e := Nat.le_of_lt l1); (try have l1f := Nat.le_add_right_of_le (k := 1) l1e); (try have l2 := Nat.lt_of_lt_of_le l2 (show _ ≤ w6.heap.size by omega)); (try have l2e := Nat.le_of_lt l2); (try have l2f := Nat.le_add_right_of_le (k := 1) l2e); (try have l3 := Nat.lt_of_lt_of_le l3 (show _ ≤ w6.heap.size by omega)); (try have l3e := Nat.le_of_lt l3); (try have l3f := Nat.le_add_right_of_le (k := 1) l3e)
              have hE6 : Ext wr w6 := hEb.tr hb
              have k1 := hb.keep (by simp) q1
              have k2 := hb.keep (by simp) q2
              have hz6 : wr.heap.size < w6.heap.size := by have := hb.size; simp only [World.size_alloc] at this; omega
              have S6 := HS.out.to hBz1 (by omega) hE6
              have HS6 := Lib.hid S6
              have bh6 := S6.hh
              clear hb hc hf hz S6 bh5' q1 q2
              go_wp2_with (fail)
              go_at_call 49
              refine (put_c h W1 n 2 w.heap.size (Bz + 1) Bz (some ⟨b, off, none⟩) c S v5 L1 w6 (HX.out.ext HS6.out.ext) HS6.out.hh (by omega) HS6.out.blk HS6.out.own HS6.out.ne (by omega) (by omega) W1l (by omega)).mono ?_
              rintro e w7 ⟨v7, rfl, hB7, hO7, hP7⟩
              have hown7 : ∀ g, v5.ownBlock = some g → g ≠ wr.heap.size := fun g hg => by have := hvl g hg; omega
              have hk17 : w7.cell? ⟨wr.heap.size, 1, none⟩ = some (.int .i64 (y : Int)) := (hP7.cell (p := ⟨wr.heap.size, 1, none⟩) hz6 (by simp only; omega) (fun e => hown7 _ e.symm rfl)).trans k1
              have hk27 : w7.cell? ⟨wr.heap.size, 2, none⟩ = some (.int .i64 x2) := (hP7.cell (p := ⟨wr.heap.size, 2, none⟩) hz6 (by simp only; omega) (fun e => hown7 _ e.symm rfl)).trans k2
              have hD7 := hP7.ints (HDi.out.ext hE6) (fun b hb _ => ⟨by omega, fun e => by have := HOf.out _ e.symm; omega⟩)
              have hR7 := hP7.ops (HRs.out.ext hE6) (fun b hb _ => ⟨by omega, fun e => by have := HOf2.out _ e.symm; omega⟩)
              have hq17 := hP7.off HOf.out (by omega)
              have hq27 := hP7.off HOf2.out (by omega)
              have hz7 := hP7.size
              have hne7 : ∀ g, v7.ownBlock = some g → g ≠ wr.heap.size := fun g hg => by
                rcases hP7.own with e | ⟨m, e, hm⟩
                · exact hown7 g (e ▸ hg)
                · rw [e] at hg
                  cases hg
                  omega
              have S7 := HS6.out.put hBz1 (by omega) hB7 hO7 hP7
              have r0 := S7.ext.keep hbRw r0w
              have hbR7 : bR < w7.heap.size := by have := S7.ext.size; omega
              have H7 := Lib.hid (show EdSt h (some ⟨b, off, none⟩) c w Bz (Bz + 1) (L1 ++ putV h W1 n 2) v7 w7 ∧ Ints (fun b => lo ≤ b ∧ b < hi) w7 (some ⟨bd, offd, none⟩) D ∧ Off v7 lo hi ∧ Ops (fun b => lo2 ≤ b ∧ b < hi2) w7 (some ⟨b3, off3, none⟩) rs ∧ Off v7 lo2 hi2 ∧ w7.cell? ⟨wr.heap.size, 1, none⟩ = some (.int .i64 (y : Int)) ∧ (hi2 ≤ w7.heap.size ∧ hi ≤ w7.heap.size ∧ wr.heap.size < w7.heap.size) ∧ (∀ g, v7.ownBlock = some g → g ≠ wr.heap.size) from ⟨S7, hD7, hq17, hR7, hq27, hk17, ⟨by omega, by omega, by omega⟩, hne7⟩)
              have hl2 : (L1 ++ putV h W1 n 2).length ≤ 1048576 := by rw [List.length_append]; omega
              have hfin := HFin.out
              generalize L1 ++ putV h W1 n 2 = L2 at H7 hfin hl2
              have HFin := Lib.hid hfin
              have C9 := fun W hx => indexI_c o x2 S' Ao capo W hx (by omega)
              have hthree : (x2 ≠ 0 ∧ o.idxOf? x2 = none) ∨ (x2 = 0) ∨ (∃ i, x2 ≠ 0 ∧ o.idxOf? x2 = some i ∧ i < o.length) := by
                by_cases h0 : x2 = 0
                · exact .inr (.inl h0)
                · cases hi9 : o.idxOf? x2 with
                  | none => exact .inl ⟨h0, rfl⟩
                  | some i =>
                    refine .inr (.inr ⟨i, h0, rfl, ?_⟩)
                    rw [List.idxOf?, List.findIdx?_eq_some_iff_getElem] at hi9
                    exact hi9.1
              clear hfin S7 hB7 hO7 hP7 hD7 hR7 hq17 hq27 hne7 hown7 HS6 HDi HRs HOf HOf2 HS k1 k2 bh6 hvl g0 g1 g2 hpl hlen1
              rcases hthree with ⟨h0, hi9⟩ | h0 | ⟨i, h0, hi9, hil⟩
              · have hnx : nxtV o x2 = none := by unfold nxtV; rw [if_neg h0, hi9]
                have hidx : idxV o x2 = -1 := by unfold idxV; rw [hi9]
                rw [hidx] at C9
                have C9 := Lib.hid C9
                have hne : (x2 != 0) = true := by simpa using h0
                have HF9 := Lib.hid (HFin.out [] (by rw [hnx]; rfl))
                clear hnx hidx HFin hi9
                go_wp2_with (fail)
                go_at_call 53
                refine (C9.out _ (HIo.out.ext (H7.out.1.ext.tr (by (repeat' (first | (with_reducible exact Below.refl _ _) | (with_reducible refine Below.mono (by assumption) ?_) | (with_reducible refine Below.trans ?_ (Below.mono (by assumption) ?_)) | (with_reducible refine Below.alloc ?_ ?_ _) | (with_reducible refine Below.drew ?_) | (with_reducible refine below_drewN ?_ _) | (with_reducible refine Below.setCell ?_ ?_ _) | (simp only [World.size_alloc, World.size_setCell, World.size_drew, size_drewN]; omega) | omega)))))).mono ?_
                rintro e w8 ⟨rfl, hb⟩
                obtain ⟨hc, hf, hz, hs⟩ := bcell hb
                (try simp only [World.size_alloc, World.size_setCell, World.size_drew, size_drewN] at hs); (first | have l0 := Nat.lt_of_lt_of_le l0 (show _ ≤ w8.heap.size by omega) | have l0 : w.heap.size < w8.heap.size := (by omega) | skip); (try have l0e := Nat.le_of_lt l0); (try have l0f := Nat.le_add_right_of_le (k := 1) l0e); (try have l1 := Nat.lt_of_lt_of_le l1 (show _ ≤ w8.heap.size by omega)); (try have l1e := Nat.le_of_lt l1); (try have l1f := Nat.le_add_right_of_le (k := 1) l1e); (try have l2 := Nat.lt_of_lt_of_le l2 (show _ ≤ w8.heap.size by omega)); (try have l2e := Nat.le_of_lt l2); (try have l2f := Nat.le_add_right_of_le (k := 1) l2e); (try have l3 := Nat.lt_of_lt_of_le l3 (show _ ≤ w8.heap.size by omega)); (try have l3e := Nat.le_of_lt l3); (try have l3f := Nat.le_add_right_of_le (k := 1) l3e)
                have hE8 : Ext w7 w8 := by (repeat' (first | (with_reducible exact Below.refl _ _) | (with_reducible refine Below.mono (by assumption) ?_) | (with_reducible refine Below.trans ?_ (Below.mono (by assumption) ?_)) | (with_reducible refine Below.alloc ?_ ?_ _) | (with_reducible refine Below.drew ?_) | (with_reducible refine below_drewN ?_ _) | (with_reducible refine Below.setCell ?_ ?_ _) | (simp only [World.size_alloc, World.size_setCell, World.size_drew, size_drewN]; omega) | omega))
                have hE8z := hE8.size
                have HE8 := Lib.hid hE8
                clear hb hc hf hz hE8
                go_wp2
                go_roundw
                case rel => exact ⟨j + 1, v7, by omega, by go_num, by rw [HF9.out, List.append_nil]; exact H7.out.1.to hBz1 (by omega) HE8.out, H7.out.2.1.ext HE8.out, H7.out.2.2.1, H7.out.2.2.2.1.ext HE8.out, H7.out.2.2.2.2.1, by have := H7.out.2.2.2.2.2.2.1; omega⟩
                case measure => simp [intOf]; omega
              · subst h0
                by_cases h0 : 0 < o.length
                rotate_left
                · have hnx : nxtV o 0 = none := by
                    have : o = [] := List.eq_nil_of_length_eq_zero (by omega)
                    subst this
                    rfl
                  have HF9 := Lib.hid (HFin.out [] (by rw [hnx]; rfl))
                  have h0i : ¬ ((0 : Int) < o.length) := by omega
                  clear hnx HFin C9
                  go_wp2
                  go_roundw
                  case rel => exact ⟨j + 1, v7, by omega, by go_num, by rw [HF9.out, List.append_nil]; exact H7.out.1, H7.out.2.1, H7.out.2.2.1, H7.out.2.2.2.1, H7.out.2.2.2.2.1, by have := H7.out.2.2.2.2.2.2.1; omega⟩
                  case measure => simp [intOf]; omega
                obtain ⟨y9, b4, off4, hy9, rfl, _, hb4w, cy9w⟩ := HIo.out.at_ h0
                simp only [Nat.add_zero] at cy9w
                have hnx : nxtV o 0 = some y9 := by simp [nxtV, hy9]
                have cy9 := H7.out.1.ext.keep hb4w cy9w
                have h0i : (0 : Int) < o.length := by omega
                clear hy9 C9
                have CV := fun W hx => CW.out (y : Int) y9 W hx
                have W2l := HWR.out (y : Int) y9
                have hf := HFin.out (putV h n (wrN h (y : Int) y9) 3) (by rw [hnx]; rfl)
                generalize wrN h (y : Int) y9 = W2 at CV hf W2l
                have CV := Lib.hid CV
                have HF9 := Lib.hid hf
                have bh8 := H7.out.1.hh
                have k18 := H7.out.2.2.2.2.2.1
                have hEz8 := H7.out.1.ext.size
                have hBl8 := H7.out.1.blk.lt
                have hwr.heap.size8 : wr.heap.size < w7.heap.size := by have := H7.out.2.2.2.2.2.2.1; omega
                have hb48 : b4 < w7.heap.size := by omega
                have hwlt8 : w.heap.size < w7.heap.size := by omega
                clear hf hnx HFin
                go_upto_region 27 with (fail)
                go_region_held3 (fun V => V.cell? ⟨w.heap.size, 0, none⟩ = some (.slice (some ⟨b, off, none⟩) h.length c) ∧ V.cell? ⟨wr.heap.size, 1, none⟩ = some (.int .i64 (y : Int)) ∧ V.cell? ⟨b4, off4, none⟩ = some (.int .i64 y9))
                  (first | with_reducible exact ⟨hS'.hh, hk1', hS'.ext.keep hb4w cy9w⟩ | with_reducible exact ⟨hE9.keep hwlt8 bh8, hE9.keep hwr.heap.size8 k18, hE9.keep hb48 cy9⟩ | go_keep)
                  (first
                    | (go_at_call 50; with_reducible refine (CV.out _ (HX.out.ext (H7.out.1.ext.tr (by (repeat' (first | (with_reducible exact Below.refl _ _) | (with_reducible refine Below.mono (by assumption) ?_) | (with_reducible refine Below.trans ?_ (Below.mono (by assumption) ?_)) | (with_reducible refine Below.alloc ?_ ?_ _) | (with_reducible refine Below.drew ?_) | (with_reducible refine below_drewN ?_ _) | (with_reducible refine Below.setCell ?_ ?_ _) | (simp only [World.size_alloc, World.size_setCell, World.size_drew, size_drewN]; omega) | omega)))))).mono ?_; rintro e w9 ⟨rfl, hb9⟩; have z9 := hb9.size; try simp only [World.size_drew] at z9
                       have hE9 : Ext w7 w9 := by (repeat' (first | (with_reducible exact Below.refl _ _) | (with_reducible refine Below.mono (by assumption) ?_) | (with_reducible refine Below.trans ?_ (Below.mono (by assumption) ?_)) | (with_reducible refine Below.alloc ?_ ?_ _) | (with_reducible refine Below.drew ?_) | (with_reducible refine below_drewN ?_ _) | (with_reducible refine Below.setCell ?_ ?_ _) | (simp only [World.size_alloc, World.size_setCell, World.size_drew, size_drewN]; omega) | omega)))
                    | (go_at_call 49; with_reducible refine (put_c h n W2 3 w.heap.size (Bz + 1) Bz (some ⟨b, off, none⟩) c S v7 L2 _ (HX.out.ext (H7.out.1.to hBz1 (by omega) (by (repeat' (first | (with_reducible exact Below.refl _ _) | (with_reducible refine Below.mono (by assumption) ?_) | (with_reducible refine Below.trans ?_ (Below.mono (by assumption) ?_)) | (with_reducible refine Below.alloc ?_ ?_ _) | (with_reducible refine Below.drew ?_) | (with_reducible refine below_drewN ?_ _) | (with_reducible refine Below.setCell ?_ ?_ _) | (simp only [World.size_alloc, World.size_setCell, World.size_drew, size_drewN]; omega) | omega)))).ext) (H7.out.1.to hBz1 (by omega) (by (repeat' (first | (with_reducible exact Below.refl _ _) | (with_reducible refine Below.mono (by assumption) ?_) | (with_reducible refine Below.trans ?_ (Below.mono (by assumption) ?_)) | (with_reducible refine Below.alloc ?_ ?_ _) | (with_reducible refine Below.drew ?_) | (with_reducible refine below_drewN ?_ _) | (with_reducible refine Below.setCell ?_ ?_ _) | (simp only [World.size_alloc, World.size_setCell, World.size_drew, size_drewN]; omega) | omega)))).hh (by first | omega | (simp only [World.size_drew]; omega)) (H7.out.1.to hBz1 (by omega) (by (repeat' (first | (with_reducible exact Below.refl _ _) | (with_reducible refine Below.mono (by assumption) ?_) | (with_reducible refine Below.trans ?_ (Below.mono (by assumption) ?_)) | (with_reducible refine Below.alloc ?_ ?_ _) | (with_reducible refine Below.drew ?_) | (with_reducible refine below_drewN ?_ _) | (with_reducible refine Below.setCell ?_ ?_ _) | (simp only [World.size_alloc, World.size_setCell, World.size_drew, size_drewN]; omega) | omega)))).blk (H7.out.1.to hBz1 (by omega) (by (repeat' (first | (with_reducible exact Below.refl _ _) | (with_reducible refine Below.mono (by assumption) ?_) | (with_reducible refine Below.trans ?_ (Below.mono (by assumption) ?_)) | (with_reducible refine Below.alloc ?_ ?_ _) | (with_reducible refine Below.drew ?_) | (with_reducible refine below_drewN ?_ _) | (with_reducible refine Below.setCell ?_ ?_ _) | (simp only [World.size_alloc, World.size_setCell, World.size_drew, size_drewN]; omega) | omega)))).own H7.out.1.ne (by omega) hl2 (by omega) W2l).mono ?_; rintro e w10 ⟨v10, rfl, hB10, hO10, hP10⟩
                       have hS' := (H7.out.1.to hBz1 (by omega) (show Ext w7 _ from by (repeat' (first | (with_reducible exact Below.refl _ _) | (with_reducible refine Below.mono (by assumption) ?_) | (with_reducible refine Below.trans ?_ (Below.mono (by assumption) ?_)) | (with_reducible refine Below.alloc ?_ ?_ _) | (with_reducible refine Below.drew ?_) | (with_reducible refine below_drewN ?_ _) | (with_reducible refine Below.setCell ?_ ?_ _) | (simp only [World.size_alloc, World.size_setCell, World.size_drew, size_drewN]; omega) | omega)))).put hBz1 (by omega) hB10 hO10 hP10
                       have hEx := (fun {X Y : World} (_ : PutR (Bz + 1) v7 v10 X Y) (e : Ext w7 X) => e) hP10 (by (repeat' (first | (with_reducible exact Below.refl _ _) | (with_reducible refine Below.mono (by assumption) ?_) | (with_reducible refine Below.trans ?_ (Below.mono (by assumption) ?_)) | (with_reducible refine Below.alloc ?_ ?_ _) | (with_reducible refine Below.drew ?_) | (with_reducible refine below_drewN ?_ _) | (with_reducible refine Below.setCell ?_ ?_ _) | (simp only [World.size_alloc, World.size_setCell, World.size_drew, size_drewN]; omega) | omega)))
                       have hk1' := (hP10.cell (p := ⟨wr.heap.size, 1, none⟩) (by first | (simp only; omega) | (simp only [World.size_drew]; omega)) (by simp only; omega) (fun e => by have := H7.out.2.2.2.2.2.2.2 _ e.symm; simp only at this; omega)).trans (hEx.keep hwr.heap.size8 k18)
                       have hD' := hP10.ints (H7.out.2.1.ext hEx) (fun b hb _ => ⟨by omega, fun e => by have := H7.out.2.2.1 _ e.symm; omega⟩)
                       have hR' := hP10.ops (H7.out.2.2.2.1.ext hEx) (fun b hb _ => ⟨by omega, fun e => by have := H7.out.2.2.2.2.1 _ e.symm; omega⟩)
                       have hz' := hEx.size
                       have hq1 := hP10.off H7.out.2.2.1 (by have := H7.out.2.2.2.2.2.2.1; omega)
                       have hq2 := hP10.off H7.out.2.2.2.2.1 (by have := H7.out.2.2.2.2.2.2.1; omega)
                       have hz10 := hP10.size))
                have HF := Lib.hid (show _ ∧ _ ∧ _ ∧ _ ∧ _ from ⟨hS', hD', hq1, hR', hq2⟩)
                have hzf : hi2 ≤ w10.heap.size := by have := H7.out.2.2.2.2.2.2.1; omega
                clear hS' hD' hq1 hR' hq2 hP10 hB10 hO10 hE9 hb9 hEx hk1'
                go_wp2
                go_roundw
                case rel => exact ⟨j + 1, v10, by omega, by go_num, by rw [HF9.out]; exact HF.out.1, HF.out.2.1, HF.out.2.2.1, HF.out.2.2.2.1, HF.out.2.2.2.2, hzf⟩
                case measure => simp [intOf]; omega
              · have hne : (x2 != 0) = true := by simpa using h0
                have hidx : idxV o x2 = i := by unfold idxV; rw [hi9]
                rw [hidx] at C9
                have C9 := Lib.hid C9
                have hnx0 : nxtV o x2 = o[i + 1]? := by unfold nxtV; rw [if_neg h0, hi9]
                clear hidx hi9
                go_wp2_with (fail)
                go_at_call 53
                refine (C9.out _ (HIo.out.ext (H7.out.1.ext.tr (by (repeat' (first | (with_reducible exact Below.refl _ _) | (with_reducible refine Below.mono (by assumption) ?_) | (with_reducible refine Below.trans ?_ (Below.mono (by assumption) ?_)) | (with_reducible refine Below.alloc ?_ ?_ _) | (with_reducible refine Below.drew ?_) | (with_reducible refine below_drewN ?_ _) | (with_reducible refine Below.setCell ?_ ?_ _) | (simp only [World.size_alloc, World.size_setCell, World.size_drew, size_drewN]; omega) | omega)))))).mono ?_
                rintro e w8 ⟨rfl, hb⟩
                obtain ⟨hc, hf, hz, hs⟩ := bcell hb
                (try simp only [World.size_alloc, World.size_setCell, World.size_drew, size_drewN] at hs); (first | have l0 := Nat.lt_of_lt_of_le l0 (show _ ≤ w8.heap.size by omega) | have l0 : w.heap.size < w8.heap.size := (by omega) | skip); (try have l0e := Nat.le_of_lt l0); (try have l0f := Nat.le_add_right_of_le (k := 1) l0e); (try have l1 := Nat.lt_of_lt_of_le l1 (show _ ≤ w8.heap.size by omega)); (try have l1e := Nat.le_of_lt l1); (try have l1f := Nat.le_add_right_of_le (k := 1) l1e); (try have l2 := Nat.lt_of_lt_of_le l2 (show _ ≤ w8.heap.size by omega)); (try have l2e := Nat.le_of_lt l2); (try have l2f := Nat.le_add_right_of_le (k := 1) l2e); (try have l3 := Nat.lt_of_lt_of_le l3 (show _ ≤ w8.heap.size by omega)); (try have l3e := Nat.le_of_lt l3); (try have l3f := Nat.le_add_right_of_le (k := 1) l3e)
                have hE8 : Ext w7 w8 := by (repeat' (first | (with_reducible exact Below.refl _ _) | (with_reducible refine Below.mono (by assumption) ?_) | (with_reducible refine Below.trans ?_ (Below.mono (by assumption) ?_)) | (with_reducible refine Below.alloc ?_ ?_ _) | (with_reducible refine Below.drew ?_) | (with_reducible refine below_drewN ?_ _) | (with_reducible refine Below.setCell ?_ ?_ _) | (simp only [World.size_alloc, World.size_setCell, World.size_drew, size_drewN]; omega) | omega))
                have hE8z := hE8.size
                have hlt7 : wr.heap.size < w7.heap.size := H7.out.2.2.2.2.2.2.1.2.2
                have H8 := Lib.hid (show EdSt h (some ⟨b, off, none⟩) c w Bz (Bz + 1) L2 v7 w8 ∧ Ints (fun b => lo ≤ b ∧ b < hi) w8 (some ⟨bd, offd, none⟩) D ∧ Off v7 lo hi ∧ Ops (fun b => lo2 ≤ b ∧ b < hi2) w8 (some ⟨b3, off3, none⟩) rs ∧ Off v7 lo2 hi2 ∧ w8.cell? ⟨wr.heap.size, 1, none⟩ = some (.int .i64 (y : Int)) ∧ (hi2 ≤ w8.heap.size ∧ hi ≤ w8.heap.size ∧ wr.heap.size < w8.heap.size) ∧ (∀ g, v7.ownBlock = some g → g ≠ wr.heap.size) from ⟨H7.out.1.to hBz1 (by omega) hE8, H7.out.2.1.ext hE8, H7.out.2.2.1, H7.out.2.2.2.1.ext hE8, H7.out.2.2.2.2.1, hE8.keep hlt7 hk17, ⟨by have := H7.out.2.2.2.2.2.2.1; omega, by have := H7.out.2.2.2.2.2.2.1; omega, by omega⟩, H7.out.2.2.2.2.2.2.2⟩)
                clear hb hc hf hz hE8 C9 H7 hk17 hk27 r0
                by_cases hi1 : i + 1 < o.length
                rotate_left
                · have HF9 := Lib.hid (HFin.out [] (by rw [hnx0, List.getElem?_eq_none (by omega)]; rfl))
                  have h0i : ¬ ((i : Int) + 1 < o.length) := by omega
                  clear hnx0 HFin
                  go_wp2
                  go_roundw
                  case rel => exact ⟨j + 1, v7, by omega, by go_num, by rw [HF9.out, List.append_nil]; exact H8.out.1, H8.out.2.1, H8.out.2.2.1, H8.out.2.2.2.1, H8.out.2.2.2.2.1, by have := H8.out.2.2.2.2.2.2.1; omega⟩
                  case measure => simp [intOf]; omega
                obtain ⟨y9, b4, off4, hy9, rfl, _, hb4w, cy9w⟩ := HIo.out.at_ hi1
                have hnx : nxtV o x2 = some y9 := by rw [hnx0, hy9]
                have cy9 := H8.out.1.ext.keep hb4w cy9w
                have h0i : (i : Int) + 1 < o.length := by omega
                have h0j : (0 : Int) ≤ (i : Int) + 1 := by omega
                have h0k : ((i : Int) + 1).toNat = i + 1 := by omega
                have hwr : IntKind.i64.wrap ((i : Int) + 1) = (i : Int) + 1 := by rw [IntKind.wrap_i64]; omega
                clear hy9 hnx0
                have CV := fun W hx => CW.out (y : Int) y9 W hx
                have W2l := HWR.out (y : Int) y9
                have hf := HFin.out (putV h n (wrN h (y : Int) y9) 3) (by rw [hnx]; rfl)
                generalize wrN h (y : Int) y9 = W2 at CV hf W2l
                have CV := Lib.hid CV
                have HF9 := Lib.hid hf
                have bh8 := H8.out.1.hh
                have k18 := H8.out.2.2.2.2.2.1
                have hEz8 := H8.out.1.ext.size
                have hBl8 := H8.out.1.blk.lt
                have hwr.heap.size8 : wr.heap.size < w8.heap.size := by have := H8.out.2.2.2.2.2.2.1; omega
                have hb48 : b4 < w8.heap.size := by omega
                have hwlt8 : w.heap.size < w8.heap.size := by omega
                clear hf hnx HFin
                go_upto_region 27 with (fail)
                go_region_held3 (fun V => V.cell? ⟨w.heap.size, 0, none⟩ = some (.slice (some ⟨b, off, none⟩) h.length c) ∧ V.cell? ⟨wr.heap.size, 1, none⟩ = some (.int .i64 (y : Int)) ∧ V.cell? ⟨b4, off4 + (i + 1), none⟩ = some (.int .i64 y9))
                  (first | with_reducible exact ⟨hS'.hh, hk1', hS'.ext.keep hb4w cy9w⟩ | with_reducible exact ⟨hE9.keep hwlt8 bh8, hE9.keep hwr.heap.size8 k18, hE9.keep hb48 cy9⟩ | go_keep)
                  (first
                    | (go_at_call 50; with_reducible refine (CV.out _ (HX.out.ext (H8.out.1.ext.tr (by (repeat' (first | (with_reducible exact Below.refl _ _) | (with_reducible refine Below.mono (by assumption) ?_) | (with_reducible refine Below.trans ?_ (Below.mono (by assumption) ?_)) | (with_reducible refine Below.alloc ?_ ?_ _) | (with_reducible refine Below.drew ?_) | (with_reducible refine below_drewN ?_ _) | (with_reducible refine Below.setCell ?_ ?_ _) | (simp only [World.size_alloc, World.size_setCell, World.size_drew, size_drewN]; omega) | omega)))))).mono ?_; rintro e w9 ⟨rfl, hb9⟩; have z9 := hb9.size; try simp only [World.size_drew] at z9
                       have hE9 : Ext w8 w9 := by (repeat' (first | (with_reducible exact Below.refl _ _) | (with_reducible refine Below.mono (by assumption) ?_) | (with_reducible refine Below.trans ?_ (Below.mono (by assumption) ?_)) | (with_reducible refine Below.alloc ?_ ?_ _) | (with_reducible refine Below.drew ?_) | (with_reducible refine below_drewN ?_ _) | (with_reducible refine Below.setCell ?_ ?_ _) | (simp only [World.size_alloc, World.size_setCell, World.size_drew, size_drewN]; omega) | omega)))
                    | (go_at_call 49; with_reducible refine (put_c h n W2 3 w.heap.size (Bz + 1) Bz (some ⟨b, off, none⟩) c S v7 L2 _ (HX.out.ext (H8.out.1.to hBz1 (by omega) (by (repeat' (first | (with_reducible exact Below.refl _ _) | (with_reducible refine Below.mono (by assumption) ?_) | (with_reducible refine Below.trans ?_ (Below.mono (by assumption) ?_)) | (with_reducible refine Below.alloc ?_ ?_ _) | (with_reducible refine Below.drew ?_) | (with_reducible refine below_drewN ?_ _) | (with_reducible refine Below.setCell ?_ ?_ _) | (simp only [World.size_alloc, World.size_setCell, World.size_drew, size_drewN]; omega) | omega)))).ext) (H8.out.1.to hBz1 (by omega) (by (repeat' (first | (with_reducible exact Below.refl _ _) | (with_reducible refine Below.mono (by assumption) ?_) | (with_reducible refine Below.trans ?_ (Below.mono (by assumption) ?_)) | (with_reducible refine Below.alloc ?_ ?_ _) | (with_reducible refine Below.drew ?_) | (with_reducible refine below_drewN ?_ _) | (with_reducible refine Below.setCell ?_ ?_ _) | (simp only [World.size_alloc, World.size_setCell, World.size_drew, size_drewN]; omega) | omega)))).hh (by first | omega | (simp only [World.size_drew]; omega)) (H8.out.1.to hBz1 (by omega) (by (repeat' (first | (with_reducible exact Below.refl _ _) | (with_reducible refine Below.mono (by assumption) ?_) | (with_reducible refine Below.trans ?_ (Below.mono (by assumption) ?_)) | (with_reducible refine Below.alloc ?_ ?_ _) | (with_reducible refine Below.drew ?_) | (with_reducible refine below_drewN ?_ _) | (with_reducible refine Below.setCell ?_ ?_ _) | (simp only [World.size_alloc, World.size_setCell, World.size_drew, size_drewN]; omega) | omega)))).blk (H8.out.1.to hBz1 (by omega) (by (repeat' (first | (with_reducible exact Below.refl _ _) | (with_reducible refine Below.mono (by assumption) ?_) | (with_reducible refine Below.trans ?_ (Below.mono (by assumption) ?_)) | (with_reducible refine Below.alloc ?_ ?_ _) | (with_reducible refine Below.drew ?_) | (with_reducible refine below_drewN ?_ _) | (with_reducible refine Below.setCell ?_ ?_ _) | (simp only [World.size_alloc, World.size_setCell, World.size_drew, size_drewN]; omega) | omega)))).own H8.out.1.ne (by omega) hl2 (by omega) W2l).mono ?_; rintro e w10 ⟨v10, rfl, hB10, hO10, hP10⟩
                       have hS' := (H8.out.1.to hBz1 (by omega) (show Ext w8 _ from by (repeat' (first | (with_reducible exact Below.refl _ _) | (with_reducible refine Below.mono (by assumption) ?_) | (with_reducible refine Below.trans ?_ (Below.mono (by assumption) ?_)) | (with_reducible refine Below.alloc ?_ ?_ _) | (with_reducible refine Below.drew ?_) | (with_reducible refine below_drewN ?_ _) | (with_reducible refine Below.setCell ?_ ?_ _) | (simp only [World.size_alloc, World.size_setCell, World.size_drew, size_drewN]; omega) | omega)))).put hBz1 (by omega) hB10 hO10 hP10
                       have hEx := (fun {X Y : World} (_ : PutR (Bz + 1) v7 v10 X Y) (e : Ext w8 X) => e) hP10 (by (repeat' (first | (with_reducible exact Below.refl _ _) | (with_reducible refine Below.mono (by assumption) ?_) | (with_reducible refine Below.trans ?_ (Below.mono (by assumption) ?_)) | (with_reducible refine Below.alloc ?_ ?_ _) | (with_reducible refine Below.drew ?_) | (with_reducible refine below_drewN ?_ _) | (with_reducible refine Below.setCell ?_ ?_ _) | (simp only [World.size_alloc, World.size_setCell, World.size_drew, size_drewN]; omega) | omega)))
                       have hk1' := (hP10.cell (p := ⟨wr.heap.size, 1, none⟩) (by first | (simp only; omega) | (simp only [World.size_drew]; omega)) (by simp only; omega) (fun e => by have := H8.out.2.2.2.2.2.2.2 _ e.symm; simp only at this; omega)).trans (hEx.keep hwr.heap.size8 k18)
                       have hD' := hP10.ints (H8.out.2.1.ext hEx) (fun b hb _ => ⟨by omega, fun e => by have := H8.out.2.2.1 _ e.symm; omega⟩)
                       have hR' := hP10.ops (H8.out.2.2.2.1.ext hEx) (fun b hb _ => ⟨by omega, fun e => by have := H8.out.2.2.2.2.1 _ e.symm; omega⟩)
                       have hz' := hEx.size
                       have hq1 := hP10.off H8.out.2.2.1 (by have := H8.out.2.2.2.2.2.2.1; omega)
                       have hq2 := hP10.off H8.out.2.2.2.2.1 (by have := H8.out.2.2.2.2.2.2.1; omega)
                       have hz10 := hP10.size))
                have HF := Lib.hid (show _ ∧ _ ∧ _ ∧ _ ∧ _ from ⟨hS', hD', hq1, hR', hq2⟩)
                have hzf : hi2 ≤ w10.heap.size := by have := H8.out.2.2.2.2.2.2.1; omega
                clear hS' hD' hq1 hR' hq2 hP10 hB10 hO10 hE9 hb9 hEx hk1'
                go_wp2
                go_roundw
                case rel => exact ⟨j + 1, v10, by omega, by go_num, by rw [HF9.out]; exact HF.out.1, HF.out.2.1, HF.out.2.2.1, HF.out.2.2.2.1, HF.out.2.2.2.2, hzf⟩
                case measure => simp [intOf]; omega
          · obtain rfl : q = D.length := by omega
            rw [List.take_length, HRaw.out] at HS
            have hrl : (rawE h R).length ≤ 1048576 := by rw [← HRaw.out, List.length_append]; rw [List.take_length] at hrdl; omega
            have CS := fun W hO hb => sortedG_c (rawE h R) Bz v4 W hO HS.out.some_ hb hrl
            have CS := Lib.hid CS
            have v0 : wr.cell? ⟨Bz + 1, 0, none⟩ = some v4 := (HS.out.blk.cell 0).trans rfl
            clear hst hoff hDi
            go_wp2_with (fail)
            go_at_call 54
            refine (CS.out _ (HS.out.own.ext (by (repeat' (first | (with_reducible exact Below.refl _ _) | (with_reducible refine Below.mono (by assumption) ?_) | (with_reducible refine Below.trans ?_ (Below.mono (by assumption) ?_)) | (with_reducible refine Below.alloc ?_ ?_ _) | (with_reducible refine Below.drew ?_) | (with_reducible refine below_drewN ?_ _) | (with_reducible refine Below.setCell ?_ ?_ _) | (simp only [World.size_alloc, World.size_setCell, World.size_drew, size_drewN]; omega) | omega)))) (by first | omega | (simp; omega))).mono ?_
            rintro e w9 ⟨ys, A5, c5, hpw, hm, hyl, rfl, hO5, hf5, hb5⟩
            have e := edgesV_one HV.out hpw hm
            subst e
            have hE9 : Ext w w9 := HS.out.ext.trans (show Below w.heap.size wr w9 from (by first | exact hb5.mono (by omega) | exact (show Below w.heap.size wr _ from by (repeat' (first | (with_reducible exact Below.refl _ _) | (with_reducible refine Below.mono (by assumption) ?_) | (with_reducible refine Below.trans ?_ (Below.mono (by assumption) ?_)) | (with_reducible refine Below.alloc ?_ ?_ _) | (with_reducible refine Below.drew ?_) | (with_reducible refine below_drewN ?_ _) | (with_reducible refine Below.setCell ?_ ?_ _) | (simp only [World.size_alloc, World.size_setCell, World.size_drew, size_drewN]; omega) | omega))).trans (hb5.mono (by omega))))
            have HR9 := Lib.hid (show Fresh (edgesV h R) w (.returned (.slice A5 (edgesV h R).length c5)) w9 from ⟨A5, c5, rfl, hO5.mono (fun b h _ => Nat.le_trans (by omega) h) (fun _ _ h => h), (fun a ha => by have := hf5 a ha; exact ⟨by omega, this.2⟩), hE9⟩)
            clear hpw hm hO5 hf5 hb5 hE9
            go_wp2
            go_ret
            exact HR9.out
end Go.Proofs.YtmbdacfgmiielaaGreat
