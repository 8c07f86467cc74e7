/-
  The reference's EdgesOf.
-/
import Derived.Test.YtdohbmegkkkchaaGreatEd
import Derived.Test.YtdohbmegkkkchaaGreatSesI
import Derived.Test.YtdohbmegkkkchaaGreatComE
import Derived.Lib.SliceRun
import Derived.Test.YtdohbmegkkkchaaGreatRRd
import Derived.Deep.RegionHeld3
import Derived.Deep.AppendLies
/-
  Contracts of the reference's helpers of EdgesOf: the value behind another, a sorted list of edges.
-/
namespace Go.Proofs.YtdohbmegkkkchaaGreat
set_option linter.unusedSimpArgs false
set_option linter.unusedVariables false
set_option maxRecDepth 100000
open Go.RowKit

theorem nxtV_some {o : List Int} {v x : Int} {k : Nat} (hv : v ≠ 0) (hno : ∀ j, j < k → o[j]? ≠ some v) (hk : o[k]? = some v) (hx : o[k + 1]? = some x) : nxtV o v = some x := by
  unfold nxtV
  rw [if_neg hv]
  have : o.idxOf? v = some k := by
    rw [List.idxOf?, List.findIdx?_eq_some_iff_getElem]
    obtain ⟨hl, he⟩ := List.getElem?_eq_some_iff.1 hk
    refine ⟨hl, by simpa using he, fun j hj => ?_⟩
    have := hno j hj
    rw [List.getElem?_eq_getElem (by omega)] at this
    simpa using this
  rw [this]
  exact hx
theorem nxtV_none {o : List Int} {v : Int} (hv : v ≠ 0) (hno : ∀ j, j + 1 < o.length → o[j]? ≠ some v) : nxtV o v = none := by
  unfold nxtV
  rw [if_neg hv]
  cases h : o.idxOf? v with
  | none => rfl
  | some i =>
    rw [List.idxOf?, List.findIdx?_eq_some_iff_getElem] at h
    obtain ⟨hl, he, _⟩ := h
    have := hno i
    rw [List.getElem?_eq_getElem hl] at this
    simp only
    refine List.getElem?_eq_none ?_
    rcases Nat.lt_or_ge (i + 1) o.length with h1 | h1
    · exact absurd (by simpa using he) (fun e => this h1 (by rw [e]))
    · exact h1
set_option maxHeartbeats 2000000 in
theorem l8Next_c (o : List Int) (v : Int) (S : Nat → Prop) (A : Option Addr) (c : Nat) (w : World) (hx : Ints S w A o) (hl : o.length ≤ 1048576) :
    Calls Tryz.prog 31 #[.slice A o.length c, .int .i64 v] w fun e w' => e = .returned (.int .i64 ((nxtV o v).getD (-1))) ∧ Ext w w' := by
  by_cases hv : v = 0
  · subst hv
    by_cases h0 : 0 < o.length
    · obtain ⟨x, b, off, hxk, rfl, _, hb0, cv⟩ := hx.at_ h0
      have e : (nxtV o 0).getD (-1) = x := by simp [nxtV, hxk]
      have h0i : (0 : Int) < o.length := by omega
      simp only [Nat.add_zero] at cv
      clear hxk
      go_enter Tryz.func31, Tryz.ntmps31
      go_wp2
      go_ret
      exact ⟨ret_int e.symm, by (repeat' (first | (with_reducible exact Below.refl _ _) | (with_reducible refine Below.mono (by assumption) ?_) | (with_reducible refine Below.trans ?_ (Below.mono (by assumption) ?_)) | (with_reducible refine Below.alloc ?_ ?_ _) | (with_reducible refine Below.drew ?_) | (with_reducible refine below_drewN ?_ _) | (with_reducible refine Below.setCell ?_ ?_ _) | (simp only [World.size_alloc, World.size_setCell, World.size_drew, size_drewN]; omega) | omega))⟩
    · have hnil : o = [] := List.eq_nil_of_length_eq_zero (by omega)
      subst hnil
      go_enter Tryz.func31, Tryz.ntmps31
      go_wp2
      go_loopw [5] (fun i wr => i = .int .i64 0 ∧ Ext w wr) (fun _ _ => 0)
      case atStart => exact ⟨rfl, by (repeat' (first | (with_reducible exact Below.refl _ _) | (with_reducible refine Below.mono (by assumption) ?_) | (with_reducible refine Below.trans ?_ (Below.mono (by assumption) ?_)) | (with_reducible refine Below.alloc ?_ ?_ _) | (with_reducible refine Below.drew ?_) | (with_reducible refine below_drewN ?_ _) | (with_reducible refine Below.setCell ?_ ?_ _) | (simp only [World.size_alloc, World.size_setCell, World.size_drew, size_drewN]; omega) | omega))⟩
      case round =>
        obtain ⟨rfl, hE⟩ := hrel
        go_wp2
        go_ret
        exact ⟨rfl, hE⟩
  · have hv2 : (v == 0) = false := by simpa using hv
    go_enter Tryz.func31, Tryz.ntmps31
    go_wp2
    go_loopw [5] (fun i wr => ∃ k : Nat, (k = 0 ∨ k < o.length) ∧ i = .int .i64 k ∧ (∀ j, j < k → o[j]? ≠ some v) ∧ Ext w wr) (fun i _ => o.length - (intOf i).toNat)
    case atStart => exact ⟨0, .inl rfl, rfl, fun j h => by omega, by (repeat' (first | (with_reducible exact Below.refl _ _) | (with_reducible refine Below.mono (by assumption) ?_) | (with_reducible refine Below.trans ?_ (Below.mono (by assumption) ?_)) | (with_reducible refine Below.alloc ?_ ?_ _) | (with_reducible refine Below.drew ?_) | (with_reducible refine below_drewN ?_ _) | (with_reducible refine Below.setCell ?_ ?_ _) | (simp only [World.size_alloc, World.size_setCell, World.size_drew, size_drewN]; omega) | omega))⟩
    case round =>
      obtain ⟨k, hk, rfl, hno, hE⟩ := hrel
      by_cases hlt : k + 1 < o.length
      · obtain ⟨x, b, off, hxk, rfl, _, hb0, cv⟩ := (hx.ext hE).at_ (i := k) (by omega)
        obtain ⟨y, b', off', hyk, he', _, hb0', cy⟩ := (hx.ext hE).at_ hlt
        simp only [Option.some.injEq, Addr.mk.injEq] at he'
        obtain ⟨rfl, rfl, _⟩ := he'
        have hki : (k : Int) + 1 < o.length := by omega
        by_cases hxv : x = v
        · subst hxv
          have e := nxtV_some hv hno hxk hyk
          have HE := Lib.hid e
          clear e hxk hyk hno
          go_wp2
          go_ret
          exact ⟨ret_int (by rw [HE.out]; rfl), hE⟩
        · have HNo := Lib.hid (show ∀ j, j < k + 1 → o[j]? ≠ some v from fun j hj => by
            by_cases e : j = k
            · subst e
              rw [hxk]
              simpa using hxv
            · exact hno j (by omega))
          clear hxk hyk hno
          go_wp2
          exact ⟨⟨k + 1, .inr hlt, by go_num, HNo.out, hE⟩, by simp [intOf]; omega⟩
      · have HN := Lib.hid (nxtV_none hv (fun j hj => hno j (by omega)))
        clear hno
        have hki : ¬ ((k : Int) + 1 < o.length) := by omega
        go_wp2
        go_ret
        exact ⟨ret_int (by rw [HN.out]; rfl), hE⟩
set_option maxHeartbeats 2000000 in
theorem l8Has_c (xs : List T3) (a b c : Int) (S : Nat → Prop) (A : Option Addr) (cc : Nat) (w : World) (hx : Ops S w A xs) (hl : xs.length ≤ 1048576) :
    Calls Tryz.prog 60 #[.slice A xs.length cc, .agg #[.int .i64 a, .int .i64 b, .int .i64 c]] w fun e w' => e = .returned (.bool (decide ((⟨a, b, c⟩ : T3) ∈ xs))) ∧ Ext w w' := by
  have heq := eqEd_run
  have hgd := eqEd_guard
  have hEb : Ext w (w.alloc (.cells #[.int .i64 a, .int .i64 b, .int .i64 c] 51)) := by (repeat' (first | (with_reducible exact Below.refl _ _) | (with_reducible refine Below.mono (by assumption) ?_) | (with_reducible refine Below.trans ?_ (Below.mono (by assumption) ?_)) | (with_reducible refine Below.alloc ?_ ?_ _) | (with_reducible refine Below.drew ?_) | (with_reducible refine below_drewN ?_ _) | (with_reducible refine Below.setCell ?_ ?_ _) | (simp only [World.size_alloc, World.size_setCell, World.size_drew, size_drewN]; omega) | omega))
  have HX := Lib.hid (hx.ext hEb)
  clear hx
  go_enter Tryz.func60, Tryz.ntmps60
  go_wp2
  go_loopw [5] (fun i wr => ∃ k : Nat, k ≤ xs.length ∧ i = .int .i64 k ∧ (⟨a, b, c⟩ : T3) ∉ xs.take k ∧ Ext (w.alloc (.cells #[.int .i64 a, .int .i64 b, .int .i64 c] 51)) wr) (fun i _ => xs.length - (intOf i).toNat)
  case atStart => exact ⟨0, Nat.zero_le _, rfl, by simp, Below.refl _ _⟩
  case round =>
    obtain ⟨k, hk, rfl, hno, hE⟩ := hrel
    have hE2 := hEb.tr hE
    have g0 := Ext.keep hE (by simp) ((lit_at w #[.int .i64 a, .int .i64 b, .int .i64 c] 51 0).trans rfl)
    have g1 := Ext.keep hE (by simp) ((lit_at w #[.int .i64 a, .int .i64 b, .int .i64 c] 51 1).trans rfl)
    have g2 := Ext.keep hE (by simp) ((lit_at w #[.int .i64 a, .int .i64 b, .int .i64 c] 51 2).trans rfl)
    by_cases hlt : k < xs.length
    · obtain ⟨x0, x1, x2, bb, off, hxk, rfl, _, hb0, c0, c1, c2⟩ := (HX.out.ext hE).at_ hlt
      have hmem : (⟨x0, x1, x2⟩ : T3) ∈ xs := List.mem_of_getElem? hxk
      by_cases he : (⟨x0, x1, x2⟩ : T3) = ⟨a, b, c⟩
      · simp only [T3.mk.injEq] at he
        obtain ⟨rfl, rfl, rfl⟩ := he
        have hd : decide ((⟨x0, x1, x2⟩ : T3) ∈ xs) = true := decide_eq_true hmem
        have HD := Lib.hid hd
        clear hno hxk hmem hd
        go_upto_region 4 with (fail)
        go_quiet (fail)
        go_wp2
        go_ret
        exact ⟨by rw [HD.out]; rfl, hE2.tr (by (repeat' (first | (with_reducible exact Below.refl _ _) | (with_reducible refine Below.mono (by assumption) ?_) | (with_reducible refine Below.trans ?_ (Below.mono (by assumption) ?_)) | (with_reducible refine Below.alloc ?_ ?_ _) | (with_reducible refine Below.drew ?_) | (with_reducible refine below_drewN ?_ _) | (with_reducible refine Below.setCell ?_ ?_ _) | (simp only [World.size_alloc, World.size_setCell, World.size_drew, size_drewN]; omega) | omega)))⟩
      · have HNo := Lib.hid (show (⟨a, b, c⟩ : T3) ∉ xs.take (k + 1) from by
          rw [List.take_add_one, hxk, Option.toList, List.mem_append, List.mem_singleton]
          rintro (h | h)
          · exact hno h
          · exact he h.symm)
        have hd2 : (x0 = a ∧ x1 = b ∧ x2 = c) = False := by
          simp only [T3.mk.injEq] at he
          simpa using he
        have hd : decide ((⟨x0, x1, x2⟩ : T3) = ⟨a, b, c⟩) = false := decide_eq_false he
        clear hno hxk hmem he
        go_upto_region 4 with (fail)
        go_quiet (fail)
        go_wp2
        exact ⟨⟨k + 1, by omega, by go_num, HNo.out, hE.tr (by (repeat' (first | (with_reducible exact Below.refl _ _) | (with_reducible refine Below.mono (by assumption) ?_) | (with_reducible refine Below.trans ?_ (Below.mono (by assumption) ?_)) | (with_reducible refine Below.alloc ?_ ?_ _) | (with_reducible refine Below.drew ?_) | (with_reducible refine below_drewN ?_ _) | (with_reducible refine Below.setCell ?_ ?_ _) | (simp only [World.size_alloc, World.size_setCell, World.size_drew, size_drewN]; omega) | omega)))⟩, by simp [intOf]; omega⟩
    · obtain rfl : k = xs.length := by omega
      rw [List.take_length] at hno
      have HD := Lib.hid (decide_eq_false hno)
      clear hno
      go_wp2
      go_ret
      exact ⟨by rw [HD.out]; rfl, hE2⟩
set_option maxHeartbeats 4000000 in
theorem l8Sorted_c (raw : List T3) (S : Nat → Prop) (A : Option Addr) (c : Nat) (w : World) (hx : Ops S w A raw) (hl : raw.length ≤ 1048576) :
    Calls Tryz.prog 32 #[.slice A raw.length c] w fun e w' => ∃ L, UpE raw 6 0 1 L ∧ Fresh L w e w' := by
  have HX := Lib.hid hx
  clear hx
  go_enter Tryz.func32, Tryz.ntmps32
  go_wp2
  have hO := Lib.hid (show Own3 (w.alloc (.cells #[] 51)) w.heap.size 51 (.slice (some ⟨w.heap.size, 0, none⟩) 0 0) [] from Own3.made w #[] 0 rfl (Nat.le_refl _) (by omega) rfl)
  go_loopw [3, 4] (fun v i wr => ∃ (f : Nat) (L : List T3), f ≤ 6 ∧ i = .int .i64 f ∧ UpE raw f 0 1 L ∧ L.length ≤ 24 * f ∧ Own3 wr w.heap.size 51 v L ∧ Ext w wr) (fun _ i _ => 6 - (intOf i).toNat)
  case atStart => exact ⟨0, [], by omega, rfl, UpE.start raw, Nat.le_refl _, hO.out, by (repeat' (first | (with_reducible exact Below.refl _ _) | (with_reducible refine Below.mono (by assumption) ?_) | (with_reducible refine Below.trans ?_ (Below.mono (by assumption) ?_)) | (with_reducible refine Below.alloc ?_ ?_ _) | (with_reducible refine Below.drew ?_) | (with_reducible refine below_drewN ?_ _) | (with_reducible refine Below.setCell ?_ ?_ _) | (simp only [World.size_alloc, World.size_setCell, World.size_drew, size_drewN]; omega) | omega))⟩
  case round =>
    obtain ⟨f, L0, hf, rfl, hU, hLl, hown, hE⟩ := hrel
    clear hO
    by_cases hlt : f < 6
    · have HU := Lib.hid hU
      have HO := Lib.hid hown
      have HE := Lib.hid hE
      clear hU hown hE
      have hfi : (f : Int) < 6 := by omega
      go_wp2
      go_loopw [3, 5] (fun v i wr => ∃ (t : Nat) (L : List T3), t ≤ 6 ∧ i = .int .i64 t ∧ UpE raw f t 1 L ∧ L.length ≤ 24 * f + 4 * t ∧ Own3 wr w.heap.size 51 v L ∧ Ext w wr) (fun _ i _ => 6 - (intOf i).toNat)
      case atStart => exact ⟨0, L0, by omega, rfl, HU.out, by omega, HO.out, HE.out⟩
      case round =>
        obtain ⟨t, L1, ht, rfl, hU, hLl1, hown, hE⟩ := hrel
        clear HU HO HE
        by_cases hlt1 : t < 6
        · have HU := Lib.hid hU
          have HO := Lib.hid hown
          have HE := Lib.hid hE
          clear hU hown hE
          have hti : (t : Int) < 6 := by omega
          go_wp2
          go_loopw [3, 6] (fun v i wr => ∃ (q : Nat) (L : List T3), 1 ≤ q ∧ q ≤ 5 ∧ i = .int .i64 q ∧ UpE raw f t q L ∧ L.length + 1 ≤ 24 * f + 4 * t + q ∧ Own3 wr w.heap.size 51 v L ∧ Ext w wr) (fun _ i _ => 6 - (intOf i).toNat)
          case atStart => exact ⟨1, L1, by omega, by omega, rfl, HU.out, by omega, HO.out, HE.out⟩
          case round =>
            obtain ⟨q, L2, hq1, hq, rfl, hU, hLl2, hown, hE⟩ := hrel
            clear HU HO HE
            have HU := Lib.hid hU
            have HO := Lib.hid hown
            have HE := Lib.hid hE
            have hEz := hE.size
            clear hU hown hE
            by_cases hlt2 : q < 5
            · have hqi : (q : Int) ≤ 4 := by omega
              have C := fun w hx => l8Has_c raw f t q S A c w hx hl
              have hEa : Ext wr (wr.alloc (.cells #[.int .i64 f, .int .i64 t, .int .i64 q] 51)) := by (repeat' (first | (with_reducible exact Below.refl _ _) | (with_reducible refine Below.mono (by assumption) ?_) | (with_reducible refine Below.trans ?_ (Below.mono (by assumption) ?_)) | (with_reducible refine Below.alloc ?_ ?_ _) | (with_reducible refine Below.drew ?_) | (with_reducible refine below_drewN ?_ _) | (with_reducible refine Below.setCell ?_ ?_ _) | (simp only [World.size_alloc, World.size_setCell, World.size_drew, size_drewN]; omega) | omega))
              have q0 := (lit_at wr #[.int .i64 f, .int .i64 t, .int .i64 q] 51 0).trans rfl
              have q1 := (lit_at wr #[.int .i64 f, .int .i64 t, .int .i64 q] 51 1).trans rfl
              have q2 := (lit_at wr #[.int .i64 f, .int .i64 t, .int .i64 q] 51 2).trans rfl
              by_cases hm : (⟨f, t, q⟩ : T3) ∈ raw
              · have hu := HU.out.push hm (by simp only [inR]; omega)
                have HU2 := Lib.hid hu
                rw [decide_eq_true hm] at C
                have C := Lib.hid C
                clear hu hm
                go_wp2_with (fail)
                go_at_call 60
                refine (C.out _ (HX.out.ext (HE.out.tr hEa))).mono ?_
                rintro e w1 ⟨rfl, hb⟩
                obtain ⟨hc, hf, hz, hs⟩ := bcell hb
                (try simp only [World.size_alloc, World.size_setCell, World.size_drew, size_drewN] at hs); (first | have l0 := Nat.lt_of_lt_of_le l0 (show _ ≤ w1.heap.size by omega) | have l0 : w.heap.size < w1.heap.size := (by omega) | skip); (try have l0e := Nat.le_of_lt l0); (try have l0f := Nat.le_add_right_of_le (k := 1) l0e); (try have l1 := Nat.lt_of_lt_of_le l1 (show _ ≤ w1.heap.size by omega)); (try have l1e := Nat.le_of_lt l1); (try have l1f := Nat.le_add_right_of_le (k := 1) l1e); (try have l2 := Nat.lt_of_lt_of_le l2 (show _ ≤ w1.heap.size by omega)); (try have l2e := Nat.le_of_lt l2); (try have l2f := Nat.le_add_right_of_le (k := 1) l2e); (try have l3 := Nat.lt_of_lt_of_le l3 (show _ ≤ w1.heap.size by omega)); (try have l3e := Nat.le_of_lt l3); (try have l3f := Nat.le_add_right_of_le (k := 1) l3e)
                have g0 := Ext.keep hb (by simp) q0
                have g1 := Ext.keep hb (by simp) q1
                have g2 := Ext.keep hb (by simp) q2
                have hE1 := (HE.out.tr hEa).tr hb
                have HO1 := Lib.hid (HO.out.ext (hEa.tr hb))
                have HE1 := Lib.hid hE1
                have hz1 := hE1.size
                clear hb hc hf hz hE1
                go_wp2_with (at_builtin; refine wpList_append3_at _ rfl _ _ 26 rfl w.heap.size 51 Tryz.underlying26 infoEdgeS rfl _ L2 rfl (HO1.out.ext (by (repeat' (first | (with_reducible exact Below.refl _ _) | (with_reducible refine Below.mono (by assumption) ?_) | (with_reducible refine Below.trans ?_ (Below.mono (by assumption) ?_)) | (with_reducible refine Below.alloc ?_ ?_ _) | (with_reducible refine Below.drew ?_) | (with_reducible refine below_drewN ?_ _) | (with_reducible refine Below.setCell ?_ ?_ _) | (simp only [World.size_alloc, World.size_setCell, World.size_drew, size_drewN]; omega) | omega)))) _ f t q rfl ((lit_at _ _ _ 0).trans rfl) ((lit_at _ _ _ 1).trans rfl) ((lit_at _ _ _ 2).trans rfl) ?_ ?_ ?_)
                all_goals try (first | omega | (simp only [World.size_alloc, size_drewN]; omega) | (go_simp; done))
                intro v' w' hown' hgrow hv'
                have ed : Ext w1 (w1.alloc (.cells #[.int .i64 f, .int .i64 t, .int .i64 q] 51)) := by (repeat' (first | (with_reducible exact Below.refl _ _) | (with_reducible refine Below.mono (by assumption) ?_) | (with_reducible refine Below.trans ?_ (Below.mono (by assumption) ?_)) | (with_reducible refine Below.alloc ?_ ?_ _) | (with_reducible refine Below.drew ?_) | (with_reducible refine below_drewN ?_ _) | (with_reducible refine Below.setCell ?_ ?_ _) | (simp only [World.size_alloc, World.size_setCell, World.size_drew, size_drewN]; omega) | omega))
                have hE' : Ext w w' := Below.grown (HE1.out.tr ed) hgrow (HE1.out.tr ed).size (fun g hg => (own3_lt HO1.out g hg).1)
                have HF := Lib.hid (show _ ∧ _ from ⟨hown', hE'⟩)
                clear hown' hE' hgrow hv' ed
                go_wp2
                exact ⟨⟨q + 1, _, by omega, by omega, by go_num, by have := HU2.out; simpa using this, by rw [List.length_append, List.length_singleton]; omega, HF.out.1, HF.out.2⟩, by simp [intOf]; omega⟩
              · have hu := HU.out.skip hm
                have HU2 := Lib.hid hu
                rw [decide_eq_false hm] at C
                have C := Lib.hid C
                clear hu hm
                go_wp2_with (fail)
                go_at_call 60
                refine (C.out _ (HX.out.ext (HE.out.tr hEa))).mono ?_
                rintro e w1 ⟨rfl, hb⟩
                obtain ⟨hc, hf, hz, hs⟩ := bcell hb
                (try simp only [World.size_alloc, World.size_setCell, World.size_drew, size_drewN] at hs); (first | have l0 := Nat.lt_of_lt_of_le l0 (show _ ≤ w1.heap.size by omega) | have l0 : w.heap.size < w1.heap.size := (by omega) | skip); (try have l0e := Nat.le_of_lt l0); (try have l0f := Nat.le_add_right_of_le (k := 1) l0e); (try have l1 := Nat.lt_of_lt_of_le l1 (show _ ≤ w1.heap.size by omega)); (try have l1e := Nat.le_of_lt l1); (try have l1f := Nat.le_add_right_of_le (k := 1) l1e); (try have l2 := Nat.lt_of_lt_of_le l2 (show _ ≤ w1.heap.size by omega)); (try have l2e := Nat.le_of_lt l2); (try have l2f := Nat.le_add_right_of_le (k := 1) l2e); (try have l3 := Nat.lt_of_lt_of_le l3 (show _ ≤ w1.heap.size by omega)); (try have l3e := Nat.le_of_lt l3); (try have l3f := Nat.le_add_right_of_le (k := 1) l3e)
                have hE1 := (HE.out.tr hEa).tr hb
                have HO1 := Lib.hid (HO.out.ext (hEa.tr hb))
                have HE1 := Lib.hid hE1
                clear hb hc hf hz hE1
                go_wp2
                exact ⟨⟨q + 1, L2, by omega, by omega, by go_num, by have := HU2.out; simpa using this, by omega, HO1.out, HE1.out⟩, by simp [intOf]; omega⟩
            · obtain rfl : q = 5 := by omega
              go_wp2
              exact ⟨⟨t + 1, L2, by omega, by go_num, by have := HU.out.turn; simpa using this, by omega, HO.out, HE.out⟩, by simp [intOf]; omega⟩
        · obtain rfl : t = 6 := by omega
          have HU := Lib.hid hU
          have HO := Lib.hid hown
          have HE := Lib.hid hE
          clear hU hown hE
          go_wp2
          exact ⟨⟨f + 1, L1, by omega, by go_num, by have := HU.out.line; simpa using this, by omega, HO.out, HE.out⟩, by simp [intOf]; omega⟩
    · obtain rfl : f = 6 := by omega
      have HU := Lib.hid hU
      have HO := Lib.hid hown
      have HE := Lib.hid hE
      clear hU hown hE
      go_wp2
      go_ret
      exact ⟨L0, HU.out, HO.out.fresh (Nat.le_refl _) HE.out⟩
end Go.Proofs.YtdohbmegkkkchaaGreat
/-
  The closure of the program's EdgesOf: one more edge, where its ends are committed and differ.
-/
namespace Go.Proofs.YtdohbmegkkkchaaGreat
set_option linter.unusedSimpArgs false
set_option linter.unusedVariables false
set_option maxRecDepth 100000
open Go.RowKit

/-- what one more edge leaves as it was -/
structure PutR (Bl : Nat) (v v' : Value) (w w' : World) : Prop where
  os : w'.os = w.os
  tape : w'.tape = w.tape
  output : w'.output = w.output
  size : w.heap.size ≤ w'.heap.size
  keep : ∀ b, b < w.heap.size → b ≠ Bl → some b ≠ v.ownBlock → w'.heap[b]? = w.heap[b]?
  own : v'.ownBlock = v.ownBlock ∨ ∃ n, v'.ownBlock = some n ∧ w.heap.size ≤ n
theorem PutR.refl (Bl : Nat) (v : Value) (w : World) : PutR Bl v v w w := ⟨rfl, rfl, rfl, Nat.le_refl _, fun _ _ _ _ => rfl, .inl rfl⟩
theorem PutR.cell {Bl : Nat} {v v' : Value} {w w' : World} (h : PutR Bl v v' w w') {p : Addr} (h1 : p.block < w.heap.size) (h2 : p.block ≠ Bl) (h3 : some p.block ≠ v.ownBlock) : w'.cell? p = w.cell? p := World.cell?_of_block (h.keep _ h1 h2 h3)
theorem PutR.frozen {Bl : Nat} {v v' : Value} {w w' : World} (h : PutR Bl v v' w w') {p : Addr} (h1 : p.block < w.heap.size) (h2 : p.block ≠ Bl) (h3 : some p.block ≠ v.ownBlock) : w'.frozen? p = w.frozen? p := by simp only [World.frozen?, h.keep _ h1 h2 h3]
theorem PutR.ints {Bl : Nat} {v v' : Value} {w w' : World} (h : PutR Bl v v' w w') {S : Nat → Prop} {A : Option Addr} {xs : List Int} (hx : Ints S w A xs) (hS : ∀ b, S b → b < w.heap.size → b ≠ Bl ∧ some b ≠ v.ownBlock) : Ints S w' A xs :=
  SlAt.keep hx (kept_int _ _) h.size (fun p hp hl => h.cell hl (hS _ hp hl).1 (hS _ hp hl).2)
theorem PutR.ops {Bl : Nat} {v v' : Value} {w w' : World} (h : PutR Bl v v' w w') {S : Nat → Prop} {A : Option Addr} {xs : List T3} (hx : Ops S w A xs) (hS : ∀ b, S b → b < w.heap.size → b ≠ Bl ∧ some b ≠ v.ownBlock) : Ops S w' A xs :=
  SlAt.keep hx (kept_3 _ _) h.size (fun p hp hl => h.cell hl (hS _ hp hl).1 (hS _ hp hl).2)
theorem PutR.below {Bl base : Nat} {v v' : Value} {w0 w w' : World} (h : PutR Bl v v' w w') (hE : Below base w0 w) (hb : base ≤ w.heap.size) (hl : base ≤ Bl) (hv : ∀ g, v.ownBlock = some g → base ≤ g) : Below base w0 w' :=
  ⟨h.os.trans hE.os, h.tape.trans hE.tape, h.output.trans hE.output, Nat.le_trans hE.size h.size, fun k hk => (h.keep k (Nat.lt_of_lt_of_le hk hb) (by omega) (fun e => by have := hv k e.symm; omega)).trans (hE.block k hk)⟩
theorem PutR.some_ {Bl : Nat} {v v' : Value} {w w' : World} (h : PutR Bl v v' w w') (hv : ∃ g, v.ownBlock = some g) : ∃ g, v'.ownBlock = some g := by
  rcases h.own with e | ⟨n, e, _⟩
  · rw [e]; exact hv
  · exact ⟨n, e⟩
theorem PutR.off {Bl lo hi : Nat} {v v' : Value} {w w' : World} (h : PutR Bl v v' w w') (ho : Off v lo hi) (hh : hi ≤ w.heap.size) : Off v' lo hi := by
  rcases h.own with e | ⟨n, e, hn⟩
  · intro g hg; exact ho g (e ▸ hg)
  · intro g hg
    rw [e] at hg
    cases hg
    exact .inr (by omega)

/-- one more edge -/
abbrev PutQ (base Bl : Nat) (v : Value) (L : List T3) (w : World) (e : Ending) (w' : World) : Prop :=
  ∃ v', e = .returned (.tuple #[]) ∧ Blk w' Bl 26 #[v'] ∧ Own3 w' base 51 v' L ∧ PutR Bl v v' w w'
set_option maxHeartbeats 4000000 in
theorem put_c (h : List TxnT) (f t k : Int) (Bh Bl base : Nat) (A : Option Addr) (c : Nat) (S : Nat → Prop) (v : Value) (L : List T3) (w : World) (hx : Txns S w A h) (hh : w.cell? ⟨Bh, 0, none⟩ = some (.slice A h.length c)) (hhl : Bh < w.heap.size) (hv : Blk w Bl 26 #[v]) (hO : Own3 w base 51 v L)
    (hne : some Bl ≠ v.ownBlock) (hbl : base ≤ Bl) (hn : L.length ≤ 1048576) (hf : f < h.length) (ht : t < h.length) :
    Calls Tryz.prog 36 #[.int .i64 f, .int .i64 t, .int .i64 k, .pointer (some ⟨Bh, 0, none⟩), .pointer (some ⟨Bl, 0, none⟩)] w (PutQ base Bl v (L ++ putV h f t k) w) := by
  have hBl := hv.lt
  have stay : putV h f t k = [] → PutQ base Bl v (L ++ putV h f t k) w (.returned (.tuple #[])) w := fun e => by
    rw [e, List.append_nil]
    exact ⟨v, rfl, hv, hO, PutR.refl _ _ _⟩
  by_cases hf0 : f < 0
  · have e : putV h f t k = [] := by simp [putV, dnB_neg hf0]
    have HS := Lib.hid (stay e)
    have h1 : ¬ (0 ≤ f) := by omega
    clear stay e
    go_enter Tryz.func36, Tryz.ntmps36
    go_wp2
    go_end0
    exact HS.out
  by_cases ht0 : t < 0
  · have e : putV h f t k = [] := by simp [putV, dnB_neg ht0]
    have HS := Lib.hid (stay e)
    have h1 : ¬ (0 ≤ t) := by omega
    have h2 : 0 ≤ f := by omega
    clear stay e
    go_enter Tryz.func36, Tryz.ntmps36
    go_wp2
    go_end0
    exact HS.out
  by_cases hft : f = t
  · subst hft
    have e : putV h f f k = [] := by simp [putV]
    have HS := Lib.hid (stay e)
    have h1 : 0 ≤ f := by omega
    have h3 : (f != f) = false := by simp
    clear stay e
    go_enter Tryz.func36, Tryz.ntmps36
    go_wp2
    go_end0
    exact HS.out
  obtain ⟨f, rfl⟩ := Int.eq_ofNat_of_zero_le (show 0 ≤ f by omega)
  obtain ⟨t, rfl⟩ := Int.eq_ofNat_of_zero_le (show 0 ≤ t by omega)
  have hfl : f < h.length := by omega
  have htl : t < h.length := by omega
  obtain ⟨s1, ops1, d1, A1, cap1, b1, off1, hx1, rfl, _, hb1, _, c0, c1, c2⟩ := hx.at_ hfl
  obtain ⟨s2, ops2, d2, A2, cap2, b2, off2, hx2, e2, _, hb2, _, g0, g1, g2⟩ := hx.at_ htl
  simp only [Option.some.injEq, Addr.mk.injEq] at e2
  obtain ⟨rfl, rfl, _⟩ := e2
  have n1 : (0 : Int) ≤ f := by omega
  have n2 : (0 : Int) ≤ t := by omega
  have n3 : ((f : Int) != t) = true := by simpa using hft
  have n4 : ¬ ((f : Int) = t) := hft
  have hd1 := dnB_some hx1
  have hd2 := dnB_some hx2
  simp only at hd1 hd2
  clear hx1 hx2
  cases d1 with
  | false =>
    have HS := Lib.hid (stay (by simp [putV, hd1]))
    clear stay
    go_enter Tryz.func36, Tryz.ntmps36
    go_wp2
    go_end0
    exact HS.out
  | true =>
    cases d2 with
    | false =>
      have HS := Lib.hid (stay (by simp [putV, hd2]))
      clear stay
      go_enter Tryz.func36, Tryz.ntmps36
      go_wp2
      go_end0
      exact HS.out
    | true =>
      have e : putV h f t k = [⟨f, t, k⟩] := by unfold putV; rw [if_pos ⟨hd1, hd2, n4⟩]
      have HE := Lib.hid e
      have HO := Lib.hid hO
      have HV := Lib.hid hv
      have HNe := Lib.hid hne
      have v0 : w.cell? ⟨Bl, 0, none⟩ = some v := (hv.cell 0).trans rfl
      have vf : w.frozen? ⟨Bl, 0, none⟩ = false := hv.frozen 0
      have hbs : base ≤ w.heap.size := by omega
      clear stay e hO hv hne hd1 hd2
      go_enter Tryz.func36, Tryz.ntmps36
      go_wp2_with (at_builtin; refine wpList_append3_at _ rfl _ _ 26 rfl base 51 Tryz.underlying26 infoEdgeS rfl v L rfl (HO.out.ext (by (repeat' (first | (with_reducible exact Below.refl _ _) | (with_reducible refine Below.mono (by assumption) ?_) | (with_reducible refine Below.trans ?_ (Below.mono (by assumption) ?_)) | (with_reducible refine Below.alloc ?_ ?_ _) | (with_reducible refine Below.drew ?_) | (with_reducible refine below_drewN ?_ _) | (with_reducible refine Below.setCell ?_ ?_ _) | (simp only [World.size_alloc, World.size_setCell, World.size_drew, size_drewN]; omega) | omega)))) _ f t k rfl ((lit_at _ _ _ 0).trans rfl) ((lit_at _ _ _ 1).trans rfl) ((lit_at _ _ _ 2).trans rfl) hn ?_ ?_)
      all_goals try (first | omega | (simp only [World.size_alloc, size_drewN]; omega) | (go_simp; done))
      intro v' w' hown' hgrow hv'
      have hEa : Ext w (w.alloc (.cells #[.int .i64 f, .int .i64 t, .int .i64 k] 51)) := by (repeat' (first | (with_reducible exact Below.refl _ _) | (with_reducible refine Below.mono (by assumption) ?_) | (with_reducible refine Below.trans ?_ (Below.mono (by assumption) ?_)) | (with_reducible refine Below.alloc ?_ ?_ _) | (with_reducible refine Below.drew ?_) | (with_reducible refine below_drewN ?_ _) | (with_reducible refine Below.setCell ?_ ?_ _) | (simp only [World.size_alloc, World.size_setCell, World.size_drew, size_drewN]; omega) | omega))
      have hsz : w.heap.size < w'.heap.size := by have := hgrow.size; simp only [World.size_alloc] at this; omega
      have hBl' : Blk w' Bl 26 #[v] := by
        have := hgrow.block Bl (by simp; omega) HNe.out
        unfold Blk
        rw [this]
        exact (HV.out.ext hEa)
      have z0 : w'.cell? ⟨Bl, 0, none⟩ = some v := (hBl'.cell 0).trans rfl
      have zf : w'.frozen? ⟨Bl, 0, none⟩ = false := hBl'.frozen 0
      have hne' : some Bl ≠ v'.ownBlock := by
        rcases hv' with e | e
        · rw [e]; exact HNe.out
        · rw [e]; simp only [World.size_alloc, ne_eq, Option.some.injEq]; omega
      obtain ⟨A9, c9, hv9, _⟩ := hown'.form
      generalize hn9 : (L ++ [(⟨f, t, k⟩ : T3)]).length = n9 at hv9
      subst hv9
      have HF := Lib.hid (show _ ∧ _ ∧ _ ∧ _ ∧ _ from ⟨hown', hgrow, hv', hBl', hne'⟩)
      clear hown' hgrow hv' hBl' hne' hn9
      go_wp2
      go_end0
      rw [HE.out]
      obtain ⟨hown', hgrow, hv', hBl', hne'⟩ := HF.out
      refine ⟨.slice A9 n9 c9, rfl, ?_, ?_, ?_⟩
      · have := hBl'.set_ 0 (.slice A9 n9 c9)
        simpa using this
      · exact World.ownsRow.kept hown' (grown_set _) (.inr (fun e => hne' e.symm))
      · refine ⟨hgrow.os, hgrow.tape, hgrow.output, by rw [World.size_setCell]; omega, fun b h1 h2 h3 => ?_, ?_⟩
        · rw [Below.heap_setCell _ ⟨Bl, 0, none⟩ _ b h2, hgrow.block b (by simp; omega) h3]
          exact hEa.block b h1
        · rcases hv' with e | e
          · exact .inl e
          · exact .inr ⟨_, e, by simp⟩
end Go.Proofs.YtdohbmegkkkchaaGreat
/-
  Plain facts: runs of equal edges written once; three numbers written in place.
-/
namespace Go.Proofs.YtdohbmegkkkchaaGreat
set_option linter.unusedSimpArgs false
set_option linter.unusedVariables false
set_option maxRecDepth 100000

/-- the first edges of runs, up to a place -/
def uqTo (ys : List T3) : Nat → List T3
  | 0 => []
  | n + 1 => match ys[n]? with
    | some x => if n ≠ 0 ∧ ys[n - 1]? = some x then uqTo ys n else uqTo ys n ++ [x]
    | none => uqTo ys n
theorem uq_dup {ys : List T3} {n : Nat} {x : T3} (hx : ys[n + 1]? = some x) (hy : ys[n]? = some x) : uqTo ys (n + 2) = uqTo ys (n + 1) := by
  conv => lhs; unfold uqTo
  rw [hx]
  simp only
  rw [if_pos ⟨by omega, by simpa using hy⟩]
theorem uq_new {ys : List T3} {n : Nat} {x y : T3} (hx : ys[n + 1]? = some x) (hy : ys[n]? = some y) (hne : x ≠ y) : uqTo ys (n + 2) = uqTo ys (n + 1) ++ [x] := by
  conv => lhs; unfold uqTo
  rw [hx]
  simp only
  rw [if_neg]
  rintro ⟨_, h⟩
  rw [show n + 1 - 1 = n by omega, hy] at h
  exact hne (by simpa using h.symm)
theorem uq_one {ys : List T3} (h : 0 < ys.length) : uqTo ys 1 = ys.take 1 := by
  cases ys with
  | nil => simp at h
  | cons y ys => simp [uqTo]
theorem uq_len (ys : List T3) (n : Nat) : (uqTo ys n).length ≤ n := by
  induction n with
  | zero => simp [uqTo]
  | succ n ih =>
    unfold uqTo
    split
    · split
      · omega
      · rw [List.length_append, List.length_singleton]; omega
    · omega
theorem uq_mem {ys : List T3} {n : Nat} (hn : n ≤ ys.length) (x : T3) : x ∈ uqTo ys n ↔ x ∈ ys.take n := by
  induction n with
  | zero => simp [uqTo]
  | succ n ih =>
    have ih := ih (by omega)
    have hx := List.getElem?_eq_getElem (l := ys) (i := n) (by omega)
    unfold uqTo
    rw [hx]
    simp only
    rw [List.take_add_one, hx, Option.toList, List.mem_append, List.mem_singleton]
    split
    · rename_i hc
      refine ⟨fun h => .inl (ih.1 h), fun h => ?_⟩
      rcases h with h | h
      · exact ih.2 h
      · subst h
        refine ih.2 (List.mem_iff_getElem?.2 ⟨n - 1, ?_⟩)
        rw [List.getElem?_take_of_lt (by omega)]
        exact hc.2
    · rw [List.mem_append, List.mem_singleton, ih]
theorem uq_pw {ys : List T3} (hp : ys.Pairwise (fun x y => ¬ ltE y x)) {n : Nat} (hn : n ≤ ys.length) : (uqTo ys n).Pairwise ltE := by
  induction n with
  | zero => exact List.Pairwise.nil
  | succ n ih =>
    have ih := ih (by omega)
    have hx := List.getElem?_eq_getElem (l := ys) (i := n) (by omega)
    unfold uqTo
    rw [hx]
    simp only
    split
    · exact ih
    · rename_i hc
      rw [List.pairwise_append]
      refine ⟨ih, by simp, fun a ha b hb => ?_⟩
      rw [List.mem_singleton] at hb
      subst hb
      obtain ⟨i, hi⟩ := List.mem_iff_getElem?.1 ((uq_mem (by omega) a).1 ha)
      have hil : i < n := by
        have := (List.getElem?_eq_some_iff.1 hi).1
        rw [List.length_take] at this
        omega
      rw [List.getElem?_take_of_lt hil] at hi
      obtain ⟨hi1, hi2⟩ := List.getElem?_eq_some_iff.1 hi
      have P := List.pairwise_iff_getElem.1 hp
      have h1 := P i n hi1 (by omega) hil
      rw [hi2] at h1
      have h3 := List.getElem?_eq_getElem (l := ys) (i := n - 1) (by omega)
      rw [h3] at hc
      have h4 := P (n - 1) n (by omega) (by omega) (by omega)
      have h5 : ys[n - 1] ≠ ys[n] := fun e => hc ⟨by omega, by rw [e]⟩
      by_cases he : i = n - 1
      · subst he
        rw [hi2] at h4 h5
        generalize ys[n] = b at h4 h5
        obtain ⟨a1, a2, a3⟩ := a
        obtain ⟨b1, b2, b3⟩ := b
        simp only [ne_eq, T3.mk.injEq] at h5
        unfold ltE at *
        simp only at *
        omega
      · have h6 := P i (n - 1) hi1 (by omega) (by omega)
        rw [hi2] at h6
        generalize ys[n] = b at h1 h4 h5 ⊢
        generalize ys[n - 1] = m at h4 h5 h6
        obtain ⟨a1, a2, a3⟩ := a
        obtain ⟨b1, b2, b3⟩ := b
        obtain ⟨m1, m2, m3⟩ := m
        simp only [ne_eq, T3.mk.injEq] at h5
        unfold ltE at *
        simp only at *
        omega

theorem flat3_set (ds : List T3) : ∀ (k : Nat) (u : T3), k < ds.length → (((flat3 ds).set (k * 3) (.int .i64 u.a)).set (k * 3 + 1) (.int .i64 u.b)).set (k * 3 + 2) (.int .i64 u.c) = flat3 (ds.set k u) := by
  induction ds with
  | nil => intro k u h; simp at h
  | cons d ds ih =>
    intro k u hk
    have e : flat3 (d :: ds) = .int .i64 d.a :: .int .i64 d.b :: .int .i64 d.c :: flat3 ds := by simp [flat3]
    cases k with
    | zero => rw [e]; simp [flat3]
    | succ k =>
      have h1 := ih k u (by simpa using hk)
      rw [e, show (k + 1) * 3 = k * 3 + 1 + 1 + 1 by omega]
      simp only [List.set_cons_succ]
      rw [h1]
      simp [flat3]
/-- a whole block whose first cells are these edges -/
def EB (w : World) (g : Nat) (ds : List T3) : Prop := ∃ cs : Array Value, w.heap[g]? = some (.cells cs 51 (0, 0)) ∧ cs.toList.take (ds.length * 3) = flat3 ds
theorem EB.of_own {w : World} {base g cap n : Nat} {ds : List T3} (h : Own3 w base 51 (.slice (some ⟨g, 0, none⟩) n cap) ds) : EB w g ds := by
  rcases h.2 with ⟨hv, _⟩ | ⟨g', cap', cur, hv, hb, hg, hle, hm, hs, ht⟩
  · cases hv
  · cases hv
    exact ⟨cur, hg, ht⟩
theorem EB.lt {w : World} {g : Nat} {ds : List T3} (h : EB w g ds) : g < w.heap.size := by
  obtain ⟨cs, h, _⟩ := h
  exact (Array.getElem?_eq_some_iff.1 h).1
theorem EB.frozen {w : World} {g : Nat} {ds : List T3} (h : EB w g ds) (o : Nat) : w.frozen? ⟨g, o, none⟩ = false := by
  obtain ⟨cs, h, _⟩ := h
  simp [World.frozen?, h]
theorem EB.ops {w : World} {g : Nat} {ds : List T3} (h : EB w g ds) {S : Nat → Prop} (hS : S g) : Ops S w (some ⟨g, 0, none⟩) ds := by
  have hlt := h.lt
  obtain ⟨cs, h, ht⟩ := h
  intro i x hx
  refine ⟨g, 0, _, rfl, hS, hlt, rfl, rfl, fun j u hu => ?_⟩
  have h1 := flat3_at ds i x hx j u hu
  rw [cell_of_row w g _ cs _ (0, 0) h, ← h1, ← ht, List.getElem?_take, if_pos]
  · simp
  · have h2 : i < ds.length := (List.getElem?_eq_some_iff.1 hx).1
    have h3 : j < 3 := by have := (List.getElem?_eq_some_iff.1 hu).1; simpa using this
    omega
theorem EB.ext {w w' : World} {g : Nat} {ds : List T3} (h : EB w g ds) (hE : Ext w w') : EB w' g ds := by
  have hlt := h.lt
  obtain ⟨cs, h, ht⟩ := h
  exact ⟨cs, by rw [hE.block g hlt]; exact h, ht⟩
theorem EB.set_ {w : World} {g : Nat} {ds : List T3} (h : EB w g ds) {k : Nat} (hk : k < ds.length) (a b c : Int) :
    EB (((w.setCell ⟨g, k * 3, none⟩ (.int .i64 a)).setCell ⟨g, k * 3 + 1, none⟩ (.int .i64 b)).setCell ⟨g, k * 3 + 2, none⟩ (.int .i64 c)) g (ds.set k ⟨a, b, c⟩) := by
  obtain ⟨cs, h, ht⟩ := h
  refine ⟨((cs.setIfInBounds (k * 3) (.int .i64 a)).setIfInBounds (k * 3 + 1) (.int .i64 b)).setIfInBounds (k * 3 + 2) (.int .i64 c), ?_, ?_⟩
  · simp [World.setCell, Array.getElem?_modify, h]
  · rw [← flat3_set ds k ⟨a, b, c⟩ hk, ← ht]
    simp only [Array.toList_setIfInBounds, List.length_set, List.take_set]
end Go.Proofs.YtdohbmegkkkchaaGreat
/-
  slices.Compact of edges of a call's own, in place; edges sorted, each once, for edges that may come twice.
-/
namespace Go.Proofs.YtdohbmegkkkchaaGreat
set_option linter.unusedSimpArgs false
set_option linter.unusedVariables false
set_option maxRecDepth 100000
open Go.RowKit

theorem size_setCells (b : Nat) : ∀ (vs : List Value) (o : Nat) (w : World), (w.setCells b o vs).heap.size = w.heap.size
  | [], _, _ => rfl
  | v :: vs, o, w => by
    simp only [World.setCells]
    rw [size_setCells b vs, World.size_setCell]
theorem below_setCells {base b : Nat} {w0 : World} : ∀ (vs : List Value) (o : Nat) (w : World), Below base w0 w → base ≤ b → Below base w0 (w.setCells b o vs)
  | [], _, _, h, _ => h
  | v :: vs, o, w, h, hb => by
    simp only [World.setCells]
    exact below_setCells vs (o + 1) _ (Below.setCell (p := ⟨b, o, none⟩) h hb v) hb
theorem EB.isCell {w : World} {g : Nat} {ds : List T3} (h : EB w g ds) {i : Nat} (hi : i < ds.length * 3) : (w.cell? ⟨g, i, none⟩).isSome = true := by
  obtain ⟨cs, h, ht⟩ := h
  have h1 : (cs.toList.take (ds.length * 3)).length = ds.length * 3 := by rw [ht, flat3_len]
  rw [List.length_take] at h1
  rw [cell_of_row w g _ cs _ (0, 0) h, Array.getElem?_eq_getElem (by simp at h1; omega)]
  rfl
theorem neEd_run (a b c a' b' c' : Int) (w : World) : (binOp .neq 51 (.agg #[.int .i64 a, .int .i64 b, .int .i64 c]) (.agg #[.int .i64 a', .int .i64 b', .int .i64 c'])).run Tryz.prog w = .ok (.bool (!decide ((⟨a, b, c⟩ : T3) = ⟨a', b', c'⟩))) w := by
  have u3 := Tryz.underlying3
  have hS : Tryz.prog.underlying 51 = some (.struct (Tryz.prog.fieldsOf 51)) := by kernel_rfl
  have hp : Tryz.prog.stoodInHeld 51 = false := by kernel_rfl
  rw [run_neq_struct, show (10000 : Nat) = 9999 + 1 from rfl, run_equalIn_agg w 9999 51 _ _ hS hp]
  simp only [Program.fieldsOf, Tryz.underlying51]
  go_simp
  by_cases h1 : a = a' <;> by_cases h2 : b = b' <;> by_cases h3 : c = c' <;> simp [h1, h2, h3]
theorem run_clear3 (w : World) (ty : TypeId) (b o n c : Nat) (hn : 0 < n) (hc : ∀ j, j < n * 3 → (w.cell? ⟨b, o + j, none⟩).isSome = true) (hf : ∀ j, j < n * 3 → w.frozen? ⟨b, o + j, none⟩ = false) :
    (Builtin.clear_ #[26] ty #[.slice (some ⟨b, o, none⟩) n c]).run Tryz.prog w = .ok (.tuple #[]) (w.setCells b o (List.replicate (n * 3) (.int .i64 0))) := by
  have hzc : (Builtin.zeroCells (Value.agg #[.int .i64 0, .int .i64 0, .int .i64 0]).cells n).toList = List.replicate (n * 3) (Value.int .i64 0) := by
    simp only [Value.cells, Builtin.zeroCells]
    apply List.ext_getElem
    · simp
    · intro i h1 h2
      have : i % 3 < 3 := Nat.mod_lt _ (by omega)
      simp
      obtain h | h | h : i % 3 = 0 ∨ i % 3 = 1 ∨ i % 3 = 2 := by omega
      all_goals simp [h]
  have hst := run_storeCells_cells (P := Tryz.prog) b o (List.replicate (n * 3) (Value.int .i64 0)) 0 w (by simpa using hc) (by simpa using hf) (by intro v hv'; rw [List.eq_of_mem_replicate hv']; rfl)
  simp only [Nat.add_zero] at hst
  obtain ⟨m, rfl⟩ : ∃ m, n = m + 1 := ⟨n - 1, by omega⟩
  simp [Builtin.clear_, run_underlying Tryz.underlying26, Tryz.zeroValue51, hzc, hst]

set_option maxHeartbeats 4000000 in
/-- the first edges of runs, in the slice's own cells -/
theorem compactG_c (ys : List T3) (base g cap : Nat) (w : World) (hB : EB w g ys) (hbg : base ≤ g) (hb0 : base ≤ w.heap.size) (hl : ys.length ≤ 1048576) (hcap : ys.length ≤ cap) :
    Calls Tryz.prog 72 #[.slice (some ⟨g, 0, none⟩) ys.length cap] w fun e w' => e = .returned (.slice (some ⟨g, 0, none⟩) (uqTo ys ys.length).length cap) ∧ Ops (fun b => base ≤ b) w' (some ⟨g, 0, none⟩) (uqTo ys ys.length) ∧ (∀ o, w'.frozen? ⟨g, o, none⟩ = false) ∧ Below base w w' := by
  have heq := eqEd_run
  have hgd := eqEd_guard
  have hne := neEd_run
  have HB := Lib.hid hB
  have hgl := hB.lt
  clear hB
  by_cases h2 : ys.length < 2
  · have e : uqTo ys ys.length = ys := by
      cases ys with
      | nil => rfl
      | cons y ys => cases ys with
        | nil => rfl
        | cons z zs => simp at h2; omega
    rw [e]
    go_enter Tryz.func72, Tryz.ntmps72
    go_wp2
    go_ret
    exact ⟨rfl, HB.out.ops hbg, HB.out.frozen, Below.refl _ _⟩
  go_enter Tryz.func72, Tryz.ntmps72
  go_wp2
  go_loopw [3] (fun i wr => ∃ k : Nat, 1 ≤ k ∧ k ≤ ys.length ∧ i = .int .i64 k ∧ uqTo ys k = ys.take k ∧ Ext w wr) (fun i _ => ys.length - (intOf i).toNat)
  case atStart => exact ⟨1, Nat.le_refl _, by omega, rfl, uq_one (by omega), by (repeat' (first | (with_reducible exact Below.refl _ _) | (with_reducible refine Below.mono (by assumption) ?_) | (with_reducible refine Below.trans ?_ (Below.mono (by assumption) ?_)) | (with_reducible refine Below.alloc ?_ ?_ _) | (with_reducible refine Below.drew ?_) | (with_reducible refine below_drewN ?_ _) | (with_reducible refine Below.setCell ?_ ?_ _) | (simp only [World.size_alloc, World.size_setCell, World.size_drew, size_drewN]; omega) | omega))⟩
  case round =>
    obtain ⟨k, hk1, hk, rfl, hu, hE⟩ := hrel
    have HU := Lib.hid hu
    clear hu
    have HB1 := Lib.hid (HB.out.ext hE)
    have hgl1 := HB1.out.lt
    by_cases hlt : k < ys.length
    · obtain ⟨k, rfl⟩ : ∃ m, k = m + 1 := ⟨k - 1, by omega⟩
      obtain ⟨x0, x1, x2, b, off, hxk, e1, rfl, hb1, c0, c1, c2⟩ := (HB1.out.ops (S := fun b => g = b) rfl).at_ hlt
      obtain ⟨y0, y1, y2, b', off', hyk, e2, rfl, hb1', d0, d1, d2⟩ := (HB1.out.ops (S := fun b => g = b) rfl).at_ (i := k) (by omega)
      simp only [Option.some.injEq, Addr.mk.injEq, true_and] at e1 e2
      obtain ⟨rfl, _⟩ := e1
      obtain ⟨rfl, _⟩ := e2
      simp only [Nat.zero_add] at c0 c1 c2 d0 d1 d2
      have hsub : ((k + 1 : Nat) : Int) - 1 = (k : Int) := by omega
      have hi : ((k + 1 : Nat) : Int) = (k : Int) + 1 := by omega
      by_cases he : (⟨x0, x1, x2⟩ : T3) = ⟨y0, y1, y2⟩
      · have hdup := uq_dup hxk (by rw [hyk, he])
        simp only [T3.mk.injEq] at he
        obtain ⟨rfl, rfl, rfl⟩ := he
        have HDup := Lib.hid hdup
        clear hdup hxk hyk
        go_upto_region 6 with (fail)
        go_quiet (fail)
        go_wp2
        go_loopw [3, 5] (fun i j W => ∃ (p : Nat) (ds : List T3), k + 2 + p ≤ ys.length ∧ j = .int .i64 ((p + 1 : Nat) : Int) ∧ i = .int .i64 (uqTo ys (k + 2 + p)).length ∧ (uqTo ys (k + 2 + p)).length < k + 2 + p ∧ EB W g ds ∧ ds.length = ys.length ∧ (∀ q, k + 1 + p ≤ q → ds[q]? = ys[q]?) ∧ ds.take (uqTo ys (k + 2 + p)).length = uqTo ys (k + 2 + p) ∧ Below base w W) (fun _ j _ => ys.length - (intOf j).toNat)
        case atStart =>
          have h1 : (uqTo ys (k + 2)).length = k + 1 := by rw [HDup.out, HU.out, List.length_take]; omega
          exact ⟨0, ys, by omega, rfl, by rw [Nat.add_zero, h1], by rw [Nat.add_zero, h1]; omega, HB1.out.ext (by (repeat' (first | (with_reducible exact Below.refl _ _) | (with_reducible refine Below.mono (by assumption) ?_) | (with_reducible refine Below.trans ?_ (Below.mono (by assumption) ?_)) | (with_reducible refine Below.alloc ?_ ?_ _) | (with_reducible refine Below.drew ?_) | (with_reducible refine below_drewN ?_ _) | (with_reducible refine Below.setCell ?_ ?_ _) | (simp only [World.size_alloc, World.size_setCell, World.size_drew, size_drewN]; omega) | omega))), rfl, fun _ _ => rfl, by rw [Nat.add_zero, h1, HDup.out, HU.out], (hE.mono hb0).trans (by (repeat' (first | (with_reducible exact Below.refl _ _) | (with_reducible refine Below.mono (by assumption) ?_) | (with_reducible refine Below.trans ?_ (Below.mono (by assumption) ?_)) | (with_reducible refine Below.alloc ?_ ?_ _) | (with_reducible refine Below.drew ?_) | (with_reducible refine below_drewN ?_ _) | (with_reducible refine Below.setCell ?_ ?_ _) | (simp only [World.size_alloc, World.size_setCell, World.size_drew, size_drewN]; omega) | omega)))⟩
        case round =>
          obtain ⟨p, ds, hm, rfl, rfl, hkk, hEB, hdl, hhi, hlo, hbw⟩ := hrel
          have HHi := Lib.hid hhi
          have HLo := Lib.hid hlo
          have HBw := Lib.hid hbw
          have HEB := Lib.hid hEB
          have HDl := Lib.hid hdl
          have hgl2 := hEB.lt
          have hsz2 := hbw.size
          by_cases hlt2 : k + 2 + p < ys.length
          · obtain ⟨z0, z1, z2, b, off, hzk, e1, rfl, hb2, g0, g1, g2⟩ := (hEB.ops (S := fun b => g = b) rfl).at_ (i := k + 2 + p) (by omega)
            obtain ⟨v0, v1, v2, b', off', hvk, e2, rfl, hb2', t0, t1, t2⟩ := (hEB.ops (S := fun b => g = b) rfl).at_ (i := k + 1 + p) (by omega)
            simp only [Option.some.injEq, Addr.mk.injEq, true_and] at e1 e2
            obtain ⟨rfl, _⟩ := e1
            obtain ⟨rfl, _⟩ := e2
            simp only [Nat.zero_add] at g0 g1 g2 t0 t1 t2
            rw [hhi _ (by omega)] at hzk hvk
            have ha1 : (k + 2 + p) * 3 = (k + 1) * 3 + (p + 1) * 3 := by omega
            have ha2 : (k + 1 + p) * 3 = (k + 1) * 3 + p * 3 := by omega
            rw [ha1] at g0 g1 g2
            rw [ha2] at t0 t1 t2
            have hsub : ((p + 1 : Nat) : Int) - 1 = (p : Int) := by omega
            have hj : ((p + 1 : Nat) : Int) = (p : Int) + 1 := by omega
            clear hhi hlo hbw hEB hdl
            by_cases he : (⟨z0, z1, z2⟩ : T3) = ⟨v0, v1, v2⟩
            · have hdup := uq_dup (n := k + 1 + p) (by rw [show k + 1 + p + 1 = k + 2 + p by omega]; exact hzk) (by rw [hvk, he])
              rw [show k + 1 + p + 2 = k + 2 + (p + 1) by omega, show k + 1 + p + 1 = k + 2 + p by omega] at hdup
              have HDp := Lib.hid hdup
              simp only [T3.mk.injEq] at he
              obtain ⟨rfl, rfl, rfl⟩ := he
              clear hzk hvk hdup
              go_upto_region 11 with (fail)
              go_quiet (fail)
              go_wp2
              exact ⟨⟨p + 1, ds, by omega, by go_num, by rw [HDp.out], by rw [HDp.out]; omega, HEB.out.ext (by (repeat' (first | (with_reducible exact Below.refl _ _) | (with_reducible refine Below.mono (by assumption) ?_) | (with_reducible refine Below.trans ?_ (Below.mono (by assumption) ?_)) | (with_reducible refine Below.alloc ?_ ?_ _) | (with_reducible refine Below.drew ?_) | (with_reducible refine below_drewN ?_ _) | (with_reducible refine Below.setCell ?_ ?_ _) | (simp only [World.size_alloc, World.size_setCell, World.size_drew, size_drewN]; omega) | omega))), HDl.out, fun q hq => HHi.out q (by omega), by rw [HDp.out]; exact HLo.out, HBw.out.trans (by (repeat' (first | (with_reducible exact Below.refl _ _) | (with_reducible refine Below.mono (by assumption) ?_) | (with_reducible refine Below.trans ?_ (Below.mono (by assumption) ?_)) | (with_reducible refine Below.alloc ?_ ?_ _) | (with_reducible refine Below.drew ?_) | (with_reducible refine below_drewN ?_ _) | (with_reducible refine Below.setCell ?_ ?_ _) | (simp only [World.size_alloc, World.size_setCell, World.size_drew, size_drewN]; omega) | omega)))⟩, by simp [intOf]; omega⟩
            · have hnew := uq_new (n := k + 1 + p) (by rw [show k + 1 + p + 1 = k + 2 + p by omega]; exact hzk) hvk he
              rw [show k + 1 + p + 2 = k + 2 + (p + 1) by omega, show k + 1 + p + 1 = k + 2 + p by omega] at hnew
              have HNw := Lib.hid hnew
              have hd2 : (z0 = v0 ∧ z1 = v1 ∧ z2 = v2) = False := by
                simp only [T3.mk.injEq] at he
                simpa using he
              have hd : decide ((⟨z0, z1, z2⟩ : T3) = ⟨v0, v1, v2⟩) = false := decide_eq_false he
              clear hzk hvk he hnew
              obtain ⟨kk, hkk2⟩ : ∃ kk, (uqTo ys (k + 2 + p)).length = kk := ⟨_, rfl⟩
              rw [hkk2] at hkk
              simp only [hkk2]
              obtain ⟨r0, r1, r2, b3, off3, hrk, e3, rfl, hb3, r0c, r1c, r2c⟩ := (HEB.out.ops (S := fun b => g = b) rfl).at_ (i := kk) (by rw [HDl.out]; omega)
              simp only [Option.some.injEq, Addr.mk.injEq, true_and] at e3
              obtain ⟨rfl, _⟩ := e3
              simp only [Nat.zero_add] at r0c r1c r2c
              have fz := HEB.out.frozen
              have HKk := Lib.hid hkk2
              clear hkk2 hrk
              go_upto_region 11 with (fail)
              go_quiet (fail)
              go_wp2
              refine ⟨⟨p + 1, ds.set kk ⟨z0, z1, z2⟩, by omega, by go_num, ?_, ?_, (HEB.out.ext (by (repeat' (first | (with_reducible exact Below.refl _ _) | (with_reducible refine Below.mono (by assumption) ?_) | (with_reducible refine Below.trans ?_ (Below.mono (by assumption) ?_)) | (with_reducible refine Below.alloc ?_ ?_ _) | (with_reducible refine Below.drew ?_) | (with_reducible refine below_drewN ?_ _) | (with_reducible refine Below.setCell ?_ ?_ _) | (simp only [World.size_alloc, World.size_setCell, World.size_drew, size_drewN]; omega) | omega)))).set_ (by rw [HDl.out]; omega) _ _ _, by rw [List.length_set]; exact HDl.out, fun q hq => by rw [List.getElem?_set_ne (by omega)]; exact HHi.out q (by omega), ?_, HBw.out.trans (by (repeat' (first | (with_reducible exact Below.refl _ _) | (with_reducible refine Below.mono (by assumption) ?_) | (with_reducible refine Below.trans ?_ (Below.mono (by assumption) ?_)) | (with_reducible refine Below.alloc ?_ ?_ _) | (with_reducible refine Below.drew ?_) | (with_reducible refine below_drewN ?_ _) | (with_reducible refine Below.setCell ?_ ?_ _) | (simp only [World.size_alloc, World.size_setCell, World.size_drew, size_drewN]; omega) | omega)))⟩, by simp [intOf]; omega⟩
              · rw [HNw.out, List.length_append, HKk.out]
                go_num
              · rw [HNw.out, List.length_append, HKk.out, List.length_singleton]
                omega
              · have hlo := HLo.out
                rw [HKk.out] at hlo
                rw [HNw.out, List.length_append, HKk.out, List.length_singleton, List.take_add_one, List.getElem?_set_self (by rw [HDl.out]; omega), List.take_set, List.set_eq_of_length_le (by rw [List.length_take]; omega), hlo]
                rfl
          · have hmq : k + 2 + p = ys.length := by omega
            have HLen := Lib.hid hmq
            obtain ⟨kk, hkk2⟩ : ∃ kk, (uqTo ys (k + 2 + p)).length = kk := ⟨_, rfl⟩
            have h1 : kk < ys.length := by omega
            have h2' : (kk : Int) ≤ ys.length := by omega
            have hcl : ∀ ty, (Builtin.clear_ #[26] ty #[.slice (some ⟨g, kk * 3, none⟩) (ys.length - kk) (cap - kk)]).run Tryz.prog wr = .ok (.tuple #[]) (wr.setCells g (kk * 3) (List.replicate ((ys.length - kk) * 3) (.int .i64 0))) :=
              fun ty => run_clear3 wr ty g (kk * 3) (ys.length - kk) (cap - kk) (by omega) (fun j hj => HEB.out.isCell (by rw [HDl.out]; omega)) (fun j _ => HEB.out.frozen _)
            have hfin : Ops (fun b => base ≤ b) (wr.setCells g (kk * 3) (List.replicate ((ys.length - kk) * 3) (.int .i64 0))) (some ⟨g, 0, none⟩) (uqTo ys (k + 2 + p)) := by
              have h3 := (HEB.out.ops (S := fun b => base ≤ b) hbg)
              intro i x hx
              have hi : i < kk := by rw [← hkk2]; exact (List.getElem?_eq_some_iff.1 hx).1
              rw [← hlo, hkk2, List.getElem?_take_of_lt hi] at hx
              obtain ⟨b, off, us, e, hS, hbl, hl9, hr, hcc⟩ := h3 i x hx
              refine ⟨b, off, us, e, hS, by rw [size_setCells]; exact hbl, hl9, hr, fun j u hu => ?_⟩
              have hj : j < 3 := by rw [← hl9]; exact (List.getElem?_eq_some_iff.1 hu).1
              cases e
              rw [World.cell?_setCells_out]
              · exact hcc j u hu
              · intro _ _
                left
                simp only [Nat.zero_add]
                omega
            have hfz : ∀ o, (wr.setCells g (kk * 3) (List.replicate ((ys.length - kk) * 3) (.int .i64 0))).frozen? ⟨g, o, none⟩ = false := fun o => by rw [World.frozen?_setCells]; exact HEB.out.frozen o
            have hbl := below_setCells (List.replicate ((ys.length - kk) * 3) (.int .i64 0)) (kk * 3) wr hbw hbg
            have HFin := Lib.hid (show _ ∧ _ ∧ _ from ⟨hfin, hfz, hbl⟩)
            rw [hkk2]
            have HKk := Lib.hid hkk2
            clear hfin hfz hbl hhi hlo hbw hEB hdl hkk2 hmq
            go_wp2
            go_ret
            rw [HLen.out] at HFin HKk
            exact ⟨by rw [HKk.out]; rfl, HFin.out.1, HFin.out.2.1, HFin.out.2.2⟩
      · have hnew := uq_new hxk hyk he
        have HNew := Lib.hid (show uqTo ys (k + 2) = ys.take (k + 2) from by
          rw [hnew, HU.out, List.take_add_one (i := k + 1), hxk]
          rfl)
        have hd2 : (x0 = y0 ∧ x1 = y1 ∧ x2 = y2) = False := by
          simp only [T3.mk.injEq] at he
          simpa using he
        have hd : decide ((⟨x0, x1, x2⟩ : T3) = ⟨y0, y1, y2⟩) = false := decide_eq_false he
        clear hxk hyk he hnew
        go_upto_region 6 with (fail)
        go_quiet (fail)
        go_wp2
        exact ⟨⟨k + 2, by omega, by omega, by go_num, HNew.out, hE.tr (by (repeat' (first | (with_reducible exact Below.refl _ _) | (with_reducible refine Below.mono (by assumption) ?_) | (with_reducible refine Below.trans ?_ (Below.mono (by assumption) ?_)) | (with_reducible refine Below.alloc ?_ ?_ _) | (with_reducible refine Below.drew ?_) | (with_reducible refine below_drewN ?_ _) | (with_reducible refine Below.setCell ?_ ?_ _) | (simp only [World.size_alloc, World.size_setCell, World.size_drew, size_drewN]; omega) | omega)))⟩, by simp [intOf]; omega⟩
    · obtain rfl : k = ys.length := by omega
      have e : uqTo ys ys.length = ys := by rw [HU.out, List.take_length]
      have HEq := Lib.hid e
      clear e
      go_wp2
      go_ret
      rw [HEq.out]
      exact ⟨rfl, HB1.out.ops hbg, HB1.out.frozen, hE.mono hb0⟩
theorem EB.top {w : World} {base : Nat} {v : Value} {ds : List T3} (h : Own3 w base 51 v ds) (hv : ∃ g, v.ownBlock = some g) : ∃ g cap, v = .slice (some ⟨g, 0, none⟩) ds.length cap ∧ base ≤ g ∧ ds.length ≤ cap ∧ EB w g ds := by
  rcases h.2 with ⟨rfl, hz⟩ | ⟨gb, cap, cur, rfl, hbase, hgb, r1, r2, r3, r4⟩
  · obtain ⟨g, hg⟩ := hv
    simp [Value.ownBlock] at hg
  · exact ⟨gb, cap, rfl, hbase, by omega, cur, hgb, r4⟩
/-- a call's own edges, sorted, each once -/
def SortedG (xs : List T3) (base : Nat) (w : World) (e : Ending) (w' : World) : Prop :=
  ∃ ys A c, ys.Pairwise ltE ∧ (∀ x, x ∈ ys ↔ x ∈ xs) ∧ ys.length ≤ xs.length ∧ e = .returned (.slice A ys.length c) ∧ Ops (fun b => base ≤ b) w' A ys ∧ (∀ a, A = some a → base ≤ a.block ∧ a.block < w'.heap.size ∧ ∀ o, w'.frozen? ⟨a.block, o, none⟩ = false) ∧ Below base w w'
set_option maxHeartbeats 2000000 in
theorem sortedG_c (xs : List T3) (base : Nat) (v : Value) (w : World) (h : Own3 w base 51 v xs) (hv : ∃ g, v.ownBlock = some g) (hb0 : base ≤ w.heap.size) (hl : xs.length ≤ 1048576) :
    Calls Tryz.prog 41 #[v] w (SortedG xs base w) := by
  have CF := fun w h hb => sortFunc_c xs base v w h hv hb hl
  have CF := Lib.hid CF
  have HV := Lib.hid hv
  clear hv
  go_enter Tryz.func41, Tryz.ntmps41
  go_wp2_with (fail)
  go_at_call 69
  refine (CF.out _ (h.ext (by (repeat' (first | (with_reducible exact Below.refl _ _) | (with_reducible refine Below.mono (by assumption) ?_) | (with_reducible refine Below.trans ?_ (Below.mono (by assumption) ?_)) | (with_reducible refine Below.alloc ?_ ?_ _) | (with_reducible refine Below.drew ?_) | (with_reducible refine below_drewN ?_ _) | (with_reducible refine Below.setCell ?_ ?_ _) | (simp only [World.size_alloc, World.size_setCell, World.size_drew, size_drewN]; omega) | omega)))) (by first | omega | (simp; omega))).mono ?_
  rintro e w1 ⟨rfl, ys, hp, hpw, hO, hB⟩
  obtain ⟨g, cap, rfl, hbg, hcap, hEB⟩ := EB.top hO HV.out
  have hly := hp.length_eq
  have hly2 : ys.length ≤ 1048576 := by omega
  have hsz := hB.size
  try simp only [World.size_alloc, World.size_drew, size_drewN] at hsz
  have HB := Lib.hid (show Below base w w1 from by first | exact hB | exact Below.trans (by (repeat' (first | (with_reducible exact Below.refl _ _) | (with_reducible refine Below.mono (by assumption) ?_) | (with_reducible refine Below.trans ?_ (Below.mono (by assumption) ?_)) | (with_reducible refine Below.alloc ?_ ?_ _) | (with_reducible refine Below.drew ?_) | (with_reducible refine below_drewN ?_ _) | (with_reducible refine Below.setCell ?_ ?_ _) | (simp only [World.size_alloc, World.size_setCell, World.size_drew, size_drewN]; omega) | omega))) hB)
  have hu := uq_len ys ys.length
  have hul : (uqTo ys ys.length).length ≤ xs.length := by omega
  have hm : ∀ x, x ∈ uqTo ys ys.length ↔ x ∈ xs := fun x => by
    rw [uq_mem (Nat.le_refl _), List.take_length]
    exact hp.mem_iff
  have hq := uq_pw hpw (Nat.le_refl _)
  have CC := fun w hx hb => compactG_c ys base g cap w hx hbg hb hly2 hcap
  have hle : (uqTo ys ys.length).length ≤ cap := by omega
  generalize uqTo ys ys.length = zs at hu hul hm hq CC hle
  have CC := Lib.hid CC
  have HM := Lib.hid hm
  have HQ := Lib.hid hq
  have HEB := Lib.hid hEB
  clear hm hq hEB hp hpw hO hB h CF HV hly
  go_wp2_with (fail)
  go_at_call 72
  refine (CC.out _ (HEB.out.ext (by (repeat' (first | (with_reducible exact Below.refl _ _) | (with_reducible refine Below.mono (by assumption) ?_) | (with_reducible refine Below.trans ?_ (Below.mono (by assumption) ?_)) | (with_reducible refine Below.alloc ?_ ?_ _) | (with_reducible refine Below.drew ?_) | (with_reducible refine below_drewN ?_ _) | (with_reducible refine Below.setCell ?_ ?_ _) | (simp only [World.size_alloc, World.size_setCell, World.size_drew, size_drewN]; omega) | omega)))) (by first | omega | (simp; omega))).mono ?_
  rintro e w2 ⟨rfl, hO2, hf2, hB2⟩
  have HF := Lib.hid (show _ ∧ _ ∧ _ from ⟨hO2, hf2, HB.out.trans (show Below base w1 w2 from by first | exact hB2 | exact Below.trans (by (repeat' (first | (with_reducible exact Below.refl _ _) | (with_reducible refine Below.mono (by assumption) ?_) | (with_reducible refine Below.trans ?_ (Below.mono (by assumption) ?_)) | (with_reducible refine Below.alloc ?_ ?_ _) | (with_reducible refine Below.drew ?_) | (with_reducible refine below_drewN ?_ _) | (with_reducible refine Below.setCell ?_ ?_ _) | (simp only [World.size_alloc, World.size_setCell, World.size_drew, size_drewN]; omega) | omega))) hB2)⟩)
  have hgl : g < w2.heap.size := by
    have := HEB.out.lt
    have := hB2.size
    omega
  clear hO2 hf2 hB2
  go_wp2_with (fail)
  go_at_call 71
  refine (clipE_c _ _ _ _ hle).mono ?_
  rintro e w3 ⟨rfl, rfl⟩
  go_wp2
  go_ret
  exact ⟨zs, _, _, HQ.out, HM.out, hul, rfl, HF.out.1, (fun a ha => by cases ha; exact ⟨hbg, hgl, HF.out.2.1⟩), HF.out.2.2⟩
end Go.Proofs.YtdohbmegkkkchaaGreat
/-
  The program's EdgesOf.
-/
namespace Go.Proofs.YtdohbmegkkkchaaGreat
set_option linter.unusedSimpArgs false
set_option linter.unusedVariables false
set_option maxRecDepth 100000
open Go.RowKit

theorem idx_upto {o : List Int} {v : Int} {k : Nat} (hno : ∀ j, j < k → o[j]? ≠ some v) (hk : o[k]? = some v) : o.idxOf? v = some k := by
  rw [List.idxOf?, List.findIdx?_eq_some_iff_getElem]
  obtain ⟨hl, he⟩ := List.getElem?_eq_some_iff.1 hk
  refine ⟨hl, by simpa using he, fun j hj => ?_⟩
  have := hno j hj
  rw [List.getElem?_eq_getElem (by omega)] at this
  simpa using this
theorem idx_none {o : List Int} {v : Int} (hno : ∀ j, j < o.length → o[j]? ≠ some v) : o.idxOf? v = none := by
  cases h : o.idxOf? v with
  | none => rfl
  | some i =>
    rw [List.idxOf?, List.findIdx?_eq_some_iff_getElem] at h
    obtain ⟨hl, he, _⟩ := h
    have := hno i hl
    rw [List.getElem?_eq_getElem hl] at this
    exact absurd (by simpa using he) (fun e => this (by rw [e]))
def idxV (o : List Int) (v : Int) : Int := match o.idxOf? v with | some i => (i : Int) | none => -1
set_option maxHeartbeats 2000000 in
theorem indexI_c (o : List Int) (v : Int) (S : Nat → Prop) (A : Option Addr) (c : Nat) (w : World) (hx : Ints S w A o) (hl : o.length ≤ 1048576) :
    Calls Tryz.prog 40 #[.slice A o.length c, .int .i64 v] w fun e w' => e = .returned (.int .i64 (idxV o v)) ∧ Ext w w' := by
  go_enter Tryz.func40, Tryz.ntmps40
  go_wp2
  go_loopw [8] (fun i wr => ∃ k : Nat, k ≤ o.length ∧ i = .int .i64 k ∧ (∀ j, j < k → o[j]? ≠ some v) ∧ Ext w wr) (fun i _ => o.length - (intOf i).toNat)
  case atStart => exact ⟨0, Nat.zero_le _, rfl, fun j h => by omega, by (repeat' (first | (with_reducible exact Below.refl _ _) | (with_reducible refine Below.mono (by assumption) ?_) | (with_reducible refine Below.trans ?_ (Below.mono (by assumption) ?_)) | (with_reducible refine Below.alloc ?_ ?_ _) | (with_reducible refine Below.drew ?_) | (with_reducible refine below_drewN ?_ _) | (with_reducible refine Below.setCell ?_ ?_ _) | (simp only [World.size_alloc, World.size_setCell, World.size_drew, size_drewN]; omega) | omega))⟩
  case round =>
    obtain ⟨k, hk, rfl, hno, hE⟩ := hrel
    by_cases hlt : k < o.length
    · obtain ⟨x, b, off, hxk, rfl, _, hb0, cv⟩ := (hx.ext hE).at_ hlt
      by_cases hxv : v = x
      · subst hxv
        have e : idxV o v = k := by unfold idxV; rw [idx_upto hno hxk]
        have HE := Lib.hid e
        clear e hxk hno
        go_wp2
        go_ret
        exact ⟨ret_int HE.out.symm, hE⟩
      · have HNo := Lib.hid (show ∀ j, j < k + 1 → o[j]? ≠ some v from fun j hj => by
          by_cases e : j = k
          · subst e
            rw [hxk]
            simpa using fun e => hxv e.symm
          · exact hno j (by omega))
        clear hxk hno
        go_wp2
        exact ⟨⟨k + 1, by omega, by go_num, HNo.out, hE⟩, by simp [intOf]; omega⟩
    · obtain rfl : k = o.length := by omega
      have e : idxV o v = -1 := by unfold idxV; rw [idx_none hno]
      have HE := Lib.hid e
      clear e hno
      go_wp2
      go_ret
      exact ⟨ret_int HE.out.symm, hE⟩

/-- what a round of the program's EdgesOf keeps -/
structure EdSt (h : List TxnT) (A : Option Addr) (c : Nat) (w : World) (base Bl : Nat) (L : List T3) (v : Value) (W : World) : Prop where
  ext : Ext w W
  hh : W.cell? ⟨w.heap.size, 0, none⟩ = some (.slice A h.length c)
  blk : Blk W Bl 26 #[v]
  own : Own3 W base 51 v L
  ne : some Bl ≠ v.ownBlock
  some_ : ∃ g, v.ownBlock = some g
theorem EdSt.to {h : List TxnT} {A : Option Addr} {c base Bl : Nat} {w W W' : World} {L : List T3} {v : Value} (s : EdSt h A c w base Bl L v W) (hb : w.heap.size < base) (hbl : base ≤ Bl) (hE : Ext W W') : EdSt h A c w base Bl L v W' :=
  ⟨s.ext.tr hE, hE.keep (by have := s.blk.lt; omega) s.hh, s.blk.ext hE, s.own.ext hE, s.ne, s.some_⟩
theorem EdSt.put {h : List TxnT} {A : Option Addr} {c base Bl : Nat} {w W W' : World} {L L' : List T3} {v v' : Value} (s : EdSt h A c w base Bl L v W) (hb : w.heap.size < base) (hbl : base ≤ Bl) (hB : Blk W' Bl 26 #[v']) (hO : Own3 W' base 51 v' L') (hR : PutR Bl v v' W W') : EdSt h A c w base Bl L' v' W' := by
  have hl := s.blk.lt
  have hz := s.ext.size
  refine ⟨hR.below s.ext (by omega) (by omega) (fun g hg => by have := (own3_lt s.own g hg).1; omega), ?_, hB, hO, ?_, hR.some_ s.some_⟩
  · rw [hR.cell (by simp only; omega) (by simp only; omega) (fun e => by have : base ≤ w.heap.size := (own3_lt s.own _ e.symm).1; omega)]
    exact s.hh
  · rcases hR.own with e | ⟨n, e, hn⟩
    · rw [e]; exact s.ne
    · rw [e]; simp only [ne_eq, Option.some.injEq]; omega
set_option maxHeartbeats 8000000 in
theorem implEdgesOf_c (h : List TxnT) (R : List (List Int)) (S S' : Nat → Prop) (A B : Option Addr) (c d : Nat) (w : World) (hx : Txns S w A h) (hsm : Small h) (hr : Rows2 S' w B R) (hrs : SmallR R) :
    Calls Tryz.prog 12 #[.slice A h.length c, .slice B R.length d] w (Fresh (edgesV h R) w) := by
  have CO := fun w hx hr => implOrdersValid_c h R S S' A B c d w hx hsm hr hrs
  have CW := fun key val w hx => implWriterOf_c h S A c key val w hx hsm
  have hsl := hsm.len
  have HX := Lib.hid hx
  have HR := Lib.hid hr
  clear hx hr
  cases hv : ordV h R with
  | false =>
    rw [hv] at CO
    have CO := Lib.hid CO
    have e : edgesV h R = [] := by simp [edgesV, hv]
    rw [e]
    go_enter Tryz.func12, Tryz.ntmps12
    go_wp2_with (go_at_call 35; refine (CO.out _ (HX.out.ext (by (repeat' (first | (with_reducible exact Below.refl _ _) | (with_reducible refine Below.mono (by assumption) ?_) | (with_reducible refine Below.trans ?_ (Below.mono (by assumption) ?_)) | (with_reducible refine Below.alloc ?_ ?_ _) | (with_reducible refine Below.drew ?_) | (with_reducible refine below_drewN ?_ _) | (with_reducible refine Below.setCell ?_ ?_ _) | (simp only [World.size_alloc, World.size_setCell, World.size_drew, size_drewN]; omega) | omega)))) (HR.out.ext (by (repeat' (first | (with_reducible exact Below.refl _ _) | (with_reducible refine Below.mono (by assumption) ?_) | (with_reducible refine Below.trans ?_ (Below.mono (by assumption) ?_)) | (with_reducible refine Below.alloc ?_ ?_ _) | (with_reducible refine Below.drew ?_) | (with_reducible refine below_drewN ?_ _) | (with_reducible refine Below.setCell ?_ ?_ _) | (simp only [World.size_alloc, World.size_setCell, World.size_drew, size_drewN]; omega) | omega))))).mono ?_; rintro e w1 ⟨rfl, hb⟩; obtain ⟨hc, hf, hz, hs⟩ := bcell hb; (try simp only [World.size_alloc, World.size_setCell, World.size_drew, size_drewN] at hs); (first | have l0 := Nat.lt_of_lt_of_le l0 (show _ ≤ w1.heap.size by omega) | have l0 : w.heap.size < w1.heap.size := (by omega) | skip); (try have l0e := Nat.le_of_lt l0); (try have l0f := Nat.le_add_right_of_le (k := 1) l0e); (try have l1 := Nat.lt_of_lt_of_le l1 (show _ ≤ w1.heap.size by omega)); (try have l1e := Nat.le_of_lt l1); (try have l1f := Nat.le_add_right_of_le (k := 1) l1e); (try have l2 := Nat.lt_of_lt_of_le l2 (show _ ≤ w1.heap.size by omega)); (try have l2e := Nat.le_of_lt l2); (try have l2f := Nat.le_add_right_of_le (k := 1) l2e); (try have l3 := Nat.lt_of_lt_of_le l3 (show _ ≤ w1.heap.size by omega)); (try have l3e := Nat.le_of_lt l3); (try have l3f := Nat.le_add_right_of_le (k := 1) l3e))
    all_goals go_ret
    all_goals exact Fresh.nil _ _ (by (repeat' (first | (with_reducible exact Below.refl _ _) | (with_reducible refine Below.mono (by assumption) ?_) | (with_reducible refine Below.trans ?_ (Below.mono (by assumption) ?_)) | (with_reducible refine Below.alloc ?_ ?_ _) | (with_reducible refine Below.drew ?_) | (with_reducible refine below_drewN ?_ _) | (with_reducible refine Below.setCell ?_ ?_ _) | (simp only [World.size_alloc, World.size_setCell, World.size_drew, size_drewN]; omega) | omega)))
  | true =>
    rw [hv] at CO
    have CO := Lib.hid CO
    have H3 := Lib.hid (ord3 hv)
    have HV := Lib.hid hv
    have hR3 : 2 < R.length := by have := H3.out.len; omega
    simp only [H3.out.hist, if_true] at CW
    have CW := Lib.hid CW
    have CD := Lib.hid (fun w hx => done_c h S A c w hx hsm)
    clear hv
    go_enter Tryz.func12, Tryz.ntmps12
    go_wp2_with (fail)
    go_at_call 35
    refine (CO.out _ (HX.out.ext (by (repeat' (first | (with_reducible exact Below.refl _ _) | (with_reducible refine Below.mono (by assumption) ?_) | (with_reducible refine Below.trans ?_ (Below.mono (by assumption) ?_)) | (with_reducible refine Below.alloc ?_ ?_ _) | (with_reducible refine Below.drew ?_) | (with_reducible refine below_drewN ?_ _) | (with_reducible refine Below.setCell ?_ ?_ _) | (simp only [World.size_alloc, World.size_setCell, World.size_drew, size_drewN]; omega) | omega)))) (HR.out.ext (by (repeat' (first | (with_reducible exact Below.refl _ _) | (with_reducible refine Below.mono (by assumption) ?_) | (with_reducible refine Below.trans ?_ (Below.mono (by assumption) ?_)) | (with_reducible refine Below.alloc ?_ ?_ _) | (with_reducible refine Below.drew ?_) | (with_reducible refine below_drewN ?_ _) | (with_reducible refine Below.setCell ?_ ?_ _) | (simp only [World.size_alloc, World.size_setCell, World.size_drew, size_drewN]; omega) | omega))))).mono ?_
    rintro e w1 ⟨rfl, hb⟩
    obtain ⟨hc, hf, hz, hs⟩ := bcell hb
    (try simp only [World.size_alloc, World.size_setCell, World.size_drew, size_drewN] at hs); (first | have l0 := Nat.lt_of_lt_of_le l0 (show _ ≤ w1.heap.size by omega) | have l0 : w.heap.size < w1.heap.size := (by omega) | skip); (try have l0e := Nat.le_of_lt l0); (try have l0f := Nat.le_add_right_of_le (k := 1) l0e); (try have l1 := Nat.lt_of_lt_of_le l1 (show _ ≤ w1.heap.size by omega)); (try have l1e := Nat.le_of_lt l1); (try have l1f := Nat.le_add_right_of_le (k := 1) l1e); (try have l2 := Nat.lt_of_lt_of_le l2 (show _ ≤ w1.heap.size by omega)); (try have l2e := Nat.le_of_lt l2); (try have l2f := Nat.le_add_right_of_le (k := 1) l2e); (try have l3 := Nat.lt_of_lt_of_le l3 (show _ ≤ w1.heap.size by omega)); (try have l3e := Nat.le_of_lt l3); (try have l3f := Nat.le_add_right_of_le (k := 1) l3e)
    have hE1 : Ext w w1 := by (repeat' (first | (with_reducible exact Below.refl _ _) | (with_reducible refine Below.mono (by assumption) ?_) | (with_reducible refine Below.trans ?_ (Below.mono (by assumption) ?_)) | (with_reducible refine Below.alloc ?_ ?_ _) | (with_reducible refine Below.drew ?_) | (with_reducible refine below_drewN ?_ _) | (with_reducible refine Below.setCell ?_ ?_ _) | (simp only [World.size_alloc, World.size_setCell, World.size_drew, size_drewN]; omega) | omega))
    have hh1 : w1.cell? ⟨w.heap.size, 0, none⟩ = some (.slice A h.length c) := hb.keep (by simp) ((lit_at w _ _ 0).trans rfl)
    have hwz : w.heap.size < w1.heap.size := by have := hb.size; simp only [World.size_alloc] at this; omega
    have hO : Own3 (w1.alloc (.cells #[] 51)) w1.heap.size 51 (.slice (some ⟨w1.heap.size, 0, none⟩) 0 0) [] := Own3.made w1 #[] 0 rfl (Nat.le_refl _) (by omega) rfl
    have hWR : ∀ key val, wrN h key val < h.length := fun key val => by
      rcases wrN_range h key val with e | ⟨k, hk, e⟩ <;> omega
    clear hb hc hf hz CO
    have e0 : Ext w1 ((w1.alloc (.cells #[] 51)).alloc (.cells #[.slice (some ⟨w1.heap.size, 0, none⟩) 0 0] 26)) := by (repeat' (first | (with_reducible exact Below.refl _ _) | (with_reducible refine Below.mono (by assumption) ?_) | (with_reducible refine Below.trans ?_ (Below.mono (by assumption) ?_)) | (with_reducible refine Below.alloc ?_ ?_ _) | (with_reducible refine Below.drew ?_) | (with_reducible refine below_drewN ?_ _) | (with_reducible refine Below.setCell ?_ ?_ _) | (simp only [World.size_alloc, World.size_setCell, World.size_drew, size_drewN]; omega) | omega))
    have S0 : EdSt h A c w w1.heap.size (w1.heap.size + 1) [] (.slice (some ⟨w1.heap.size, 0, none⟩) 0 0) ((w1.alloc (.cells #[] 51)).alloc (.cells #[.slice (some ⟨w1.heap.size, 0, none⟩) 0 0] 26)) := by
      refine ⟨hE1.tr e0, e0.keep hwz hh1, ?_, hO.ext (show Ext _ _ from Below.alloc (Below.refl _ _) (Nat.le_refl _) _), by simp [Value.ownBlock], ⟨_, rfl⟩⟩
      have := Blk.new (w1.alloc (.cells #[] 51)) 26 #[.slice (some ⟨w1.heap.size, 0, none⟩) 0 0]
      simpa using this
    obtain ⟨Bz, hBz⟩ : ∃ Bz, w1.heap.size = Bz := ⟨_, rfl⟩
    have HS0 := Lib.hid S0
    have HWR := Lib.hid hWR
    have hBz1 : w.heap.size < Bz := by omega
    clear S0 e0 hO hh1 hE1 hWR
    go_wp2
    go_loopw [25] (fun i W => ∃ (k : Nat) (v : Value), k ≤ 3 ∧ i = .int .i64 k ∧ EdSt h A c w Bz (Bz + 1) (wesR h R k) v W) (fun i _ => 3 - (intOf i).toNat)
    case atStart => exact ⟨0, _, by omega, rfl, by subst hBz; exact HS0.out⟩
    case round =>
      obtain ⟨k, v, hk, rfl, hst⟩ := hrel
      clear HS0
      have hLl := H3.out.wesR_le k
      have HS := Lib.hid hst
      have b0 := hst.hh
      by_cases hlt : k < 3
      · obtain ⟨o, A', cap, b, off, hok, rfl, _, hbw, hI, c0w⟩ := HR.out.at_ (i := k) (by omega)
        have c0 := hst.ext.keep hbw c0w
        have hol := H3.out.row_le hok
        have HOk := Lib.hid hok
        have HI := Lib.hid hI
        have hki : (k : Int) < R.length := by omega
        clear hok hI hst
        go_wp2
        go_loopw [9] (fun i W => ∃ (j : Nat) (v : Value), j ≤ o.length - 1 ∧ i = .int .i64 ((j + 1 : Nat) : Int) ∧ EdSt h A c w Bz (Bz + 1) (wesR h R k ++ wes h k o j) v W) (fun i _ => o.length - (intOf i).toNat)
        case atStart => exact ⟨0, v, by omega, rfl, by simpa [wes] using HS.out⟩
        case round =>
          obtain ⟨j, v2, hj, rfl, hst⟩ := hrel
          have HS2 := Lib.hid hst
          have hEw := hst.ext
          have hEz := hEw.size
          have bh := hst.hh
          have hwl := wes_len h k o j
          have hBl := hst.blk.lt
          clear hst
          by_cases hlt2 : j + 1 < o.length
          · obtain ⟨x, b3, off3, hxj, rfl, _, hb3w0, cxw⟩ := HI.out.at_ (i := j) (by omega)
            obtain ⟨y, b4, off4, hyj, e4, _, _, cyw⟩ := HI.out.at_ hlt2
            simp only [Option.some.injEq, Addr.mk.injEq] at e4
            obtain ⟨rfl, rfl, _⟩ := e4
            have cx := hEw.keep hb3w0 cxw
            have cy := hEw.keep hb3w0 cyw
            have hb3 : b3 < wr.heap.size := by omega
            have hws := wes_succ (h := h) (key := (k : Int)) hxj hyj
            have CX := fun w hx => CW.out (k : Int) x w hx
            have CY := fun w hx => CW.out (k : Int) y w hx
            have fxl := HWR.out (k : Int) x
            have fyl := HWR.out (k : Int) y
            generalize wrN h (k : Int) x = fx at hws CX fxl
            generalize wrN h (k : Int) y = fy at hws CY fyl
            have CX := Lib.hid CX
            have CY := Lib.hid CY
            have HWs := Lib.hid hws
            have hji : ((j + 1 : Nat) : Int) < o.length := by omega
            have hj1 : ((j + 1 : Nat) : Int) = (j : Int) + 1 := by omega
            have hj2 : ((j + 1 : Nat) : Int) - 1 = (j : Int) := by omega
            have hj0 : (0 : Int) ≤ (j : Int) := by omega
            have hj3 : (j : Int) < o.length := by omega
            have hj4 : (0 : Int) ≤ (j : Int) + 1 := by omega
            have hj5 : ((j : Int) + 1).toNat = j + 1 := by omega
            have hj6 : (j : Int) + 1 < o.length := by omega
            have hjn : j < o.length := by omega
            have hwr : IntKind.i64.wrap ((j : Int) + 1 - 1) = (j : Int) := by rw [IntKind.wrap_i64]; omega
            have hwr3 : IntKind.i64.wrap (j : Int) = (j : Int) := by rw [IntKind.wrap_i64]; omega
            have hj7 : (j : Int) + 1 - 1 = (j : Int) := by omega
            have hwr2 : IntKind.i64.wrap ((j : Int) + 1) = (j : Int) + 1 := by rw [IntKind.wrap_i64]; omega
            have hll : (wesR h R k ++ wes h k o j).length ≤ 1048576 := by rw [List.length_append]; omega
            clear hws hxj hyj
            go_upto_region 11 with (fail)
            go_region_held3 (fun W => W.cell? ⟨w.heap.size, 0, none⟩ = some (.slice A h.length c) ∧ W.cell? ⟨b3, off3 + j, none⟩ = some (.int .i64 x) ∧ W.cell? ⟨b3, off3 + (j + 1), none⟩ = some (.int .i64 y))
              (first | go_keep | exact ⟨hS'.hh, hS'.ext.keep hb3w0 cxw, hS'.ext.keep hb3w0 cyw⟩ | exact ⟨hE4.keep (by omega) bh, hE4.keep hb3 cx, hE4.keep hb3 cy⟩ | exact ⟨hE3.keep (by omega) bh, hE3.keep hb3 cx, hE3.keep hb3 cy⟩)
              (first
                | (go_at_call 37; with_reducible refine (CX.out _ (HX.out.ext (HS2.out.ext.tr (by (repeat' (first | (with_reducible exact Below.refl _ _) | (with_reducible refine Below.mono (by assumption) ?_) | (with_reducible refine Below.trans ?_ (Below.mono (by assumption) ?_)) | (with_reducible refine Below.alloc ?_ ?_ _) | (with_reducible refine Below.drew ?_) | (with_reducible refine below_drewN ?_ _) | (with_reducible refine Below.setCell ?_ ?_ _) | (simp only [World.size_alloc, World.size_setCell, World.size_drew, size_drewN]; omega) | omega)))))).mono ?_; rintro e w3 ⟨rfl, hb3w⟩; have z3 := hb3w.size; try simp only [World.size_drew] at z3
                   have hE3 : Ext wr w3 := by (repeat' (first | (with_reducible exact Below.refl _ _) | (with_reducible refine Below.mono (by assumption) ?_) | (with_reducible refine Below.trans ?_ (Below.mono (by assumption) ?_)) | (with_reducible refine Below.alloc ?_ ?_ _) | (with_reducible refine Below.drew ?_) | (with_reducible refine below_drewN ?_ _) | (with_reducible refine Below.setCell ?_ ?_ _) | (simp only [World.size_alloc, World.size_setCell, World.size_drew, size_drewN]; omega) | omega)))
                | (go_at_call 37; with_reducible refine (CY.out _ (HX.out.ext (HS2.out.ext.tr (by (repeat' (first | (with_reducible exact Below.refl _ _) | (with_reducible refine Below.mono (by assumption) ?_) | (with_reducible refine Below.trans ?_ (Below.mono (by assumption) ?_)) | (with_reducible refine Below.alloc ?_ ?_ _) | (with_reducible refine Below.drew ?_) | (with_reducible refine below_drewN ?_ _) | (with_reducible refine Below.setCell ?_ ?_ _) | (simp only [World.size_alloc, World.size_setCell, World.size_drew, size_drewN]; omega) | omega)))))).mono ?_; rintro e w4 ⟨rfl, hb4w⟩; have z4 := hb4w.size; try simp only [World.size_drew] at z4
                   have hE4 : Ext wr w4 := by (repeat' (first | (with_reducible exact Below.refl _ _) | (with_reducible refine Below.mono (by assumption) ?_) | (with_reducible refine Below.trans ?_ (Below.mono (by assumption) ?_)) | (with_reducible refine Below.alloc ?_ ?_ _) | (with_reducible refine Below.drew ?_) | (with_reducible refine below_drewN ?_ _) | (with_reducible refine Below.setCell ?_ ?_ _) | (simp only [World.size_alloc, World.size_setCell, World.size_drew, size_drewN]; omega) | omega)))
                | (go_at_call 36; with_reducible refine (put_c h fx fy 1 w.heap.size (Bz + 1) Bz A c S v2 (wesR h R k ++ wes h k o j) _ (HX.out.ext (HS2.out.to hBz1 (by omega) (by (repeat' (first | (with_reducible exact Below.refl _ _) | (with_reducible refine Below.mono (by assumption) ?_) | (with_reducible refine Below.trans ?_ (Below.mono (by assumption) ?_)) | (with_reducible refine Below.alloc ?_ ?_ _) | (with_reducible refine Below.drew ?_) | (with_reducible refine below_drewN ?_ _) | (with_reducible refine Below.setCell ?_ ?_ _) | (simp only [World.size_alloc, World.size_setCell, World.size_drew, size_drewN]; omega) | omega)))).ext) (HS2.out.to hBz1 (by omega) (by (repeat' (first | (with_reducible exact Below.refl _ _) | (with_reducible refine Below.mono (by assumption) ?_) | (with_reducible refine Below.trans ?_ (Below.mono (by assumption) ?_)) | (with_reducible refine Below.alloc ?_ ?_ _) | (with_reducible refine Below.drew ?_) | (with_reducible refine below_drewN ?_ _) | (with_reducible refine Below.setCell ?_ ?_ _) | (simp only [World.size_alloc, World.size_setCell, World.size_drew, size_drewN]; omega) | omega)))).hh (by first | omega | (simp only [World.size_drew]; omega)) (HS2.out.to hBz1 (by omega) (by (repeat' (first | (with_reducible exact Below.refl _ _) | (with_reducible refine Below.mono (by assumption) ?_) | (with_reducible refine Below.trans ?_ (Below.mono (by assumption) ?_)) | (with_reducible refine Below.alloc ?_ ?_ _) | (with_reducible refine Below.drew ?_) | (with_reducible refine below_drewN ?_ _) | (with_reducible refine Below.setCell ?_ ?_ _) | (simp only [World.size_alloc, World.size_setCell, World.size_drew, size_drewN]; omega) | omega)))).blk (HS2.out.to hBz1 (by omega) (by (repeat' (first | (with_reducible exact Below.refl _ _) | (with_reducible refine Below.mono (by assumption) ?_) | (with_reducible refine Below.trans ?_ (Below.mono (by assumption) ?_)) | (with_reducible refine Below.alloc ?_ ?_ _) | (with_reducible refine Below.drew ?_) | (with_reducible refine below_drewN ?_ _) | (with_reducible refine Below.setCell ?_ ?_ _) | (simp only [World.size_alloc, World.size_setCell, World.size_drew, size_drewN]; omega) | omega)))).own HS2.out.ne (by omega) hll fxl fyl).mono ?_; rintro e w6 ⟨v6, rfl, hB6, hO6, hP6⟩
                   have hS' := (HS2.out.to hBz1 (by omega) (show Ext wr _ from by (repeat' (first | (with_reducible exact Below.refl _ _) | (with_reducible refine Below.mono (by assumption) ?_) | (with_reducible refine Below.trans ?_ (Below.mono (by assumption) ?_)) | (with_reducible refine Below.alloc ?_ ?_ _) | (with_reducible refine Below.drew ?_) | (with_reducible refine below_drewN ?_ _) | (with_reducible refine Below.setCell ?_ ?_ _) | (simp only [World.size_alloc, World.size_setCell, World.size_drew, size_drewN]; omega) | omega)))).put hBz1 (by omega) hB6 hO6 hP6))
            have HF := Lib.hid hS'
            clear hS' hE3 hE4 hb3w hb4w hB6 hO6 hP6
            go_wp2
            exact ⟨⟨j + 1, v6, by omega, by go_num, by rw [HWs.out, ← List.append_assoc]; exact HF.out⟩, by simp [intOf]; omega⟩
          · have e : j = o.length - 1 := by omega
            have hs := wesR_succ HOk.out (h := h)
            rw [← e] at hs
            have HSs := Lib.hid hs
            have hji : ¬ ((j + 1 : Nat) : Int) < o.length := by omega
            clear hs e
            go_wp2
            go_roundw
            case rel => exact ⟨k + 1, v2, by omega, by go_num, by rw [HSs.out]; exact HS2.out⟩
            case measure => simp [intOf]; omega
      · have hk3 : k = 3 := by omega
        rw [hk3] at HS hLl
        have hki : ¬ ((k : Int) < R.length) := by have := H3.out.len; omega
        obtain ⟨LW, hLW⟩ : ∃ LW, wesR h R 3 = LW := ⟨_, rfl⟩
        rw [hLW] at HS hLl
        have HLW := Lib.hid hLW
        clear hst hk3 hLW
        have HUp := Lib.hid (fun q x (hq : (dnT h h.length)[q]? = some x) => uptoD_take (h := h) hq)
        have hdl := dnT_len h h.length
        have hraw : LW ++ rdesD h R (dnT h h.length) = rawE h R := by rw [← HLW.out]; rfl
        generalize dnT h h.length = D at CD HUp hdl hraw
        have HRaw := Lib.hid hraw
        have hvl := fun g hg => (own3_lt HS.out.own g hg).2
        have hBlz := HS.out.blk.lt
        clear hraw
        go_wp2_with (fail)
        go_at_call 38
        refine (CD.out _ (HX.out.ext (HS.out.ext.tr (by (repeat' (first | (with_reducible exact Below.refl _ _) | (with_reducible refine Below.mono (by assumption) ?_) | (with_reducible refine Below.trans ?_ (Below.mono (by assumption) ?_)) | (with_reducible refine Below.alloc ?_ ?_ _) | (with_reducible refine Below.drew ?_) | (with_reducible refine below_drewN ?_ _) | (with_reducible refine Below.setCell ?_ ?_ _) | (simp only [World.size_alloc, World.size_setCell, World.size_drew, size_drewN]; omega) | omega)))))).mono ?_
        rintro e w3 ⟨A3, c3, rfl, hD, hfD, hb⟩
        obtain ⟨hc, hf, hz, hs⟩ := bcell hb
        (try simp only [World.size_alloc, World.size_setCell, World.size_drew, size_drewN] at hs); (first | have l0 := Nat.lt_of_lt_of_le l0 (show _ ≤ w3.heap.size by omega) | have l0 : w.heap.size < w3.heap.size := (by omega) | skip); (try have l0e := Nat.le_of_lt l0); (try have l0f := Nat.le_add_right_of_le (k := 1) l0e); (try have l1 := Nat.lt_of_lt_of_le l1 (show _ ≤ w3.heap.size by omega)); (try have l1e := Nat.le_of_lt l1); (try have l1f := Nat.le_add_right_of_le (k := 1) l1e); (try have l2 := Nat.lt_of_lt_of_le l2 (show _ ≤ w3.heap.size by omega)); (try have l2e := Nat.le_of_lt l2); (try have l2f := Nat.le_add_right_of_le (k := 1) l2e); (try have l3 := Nat.lt_of_lt_of_le l3 (show _ ≤ w3.heap.size by omega)); (try have l3e := Nat.le_of_lt l3); (try have l3f := Nat.le_add_right_of_le (k := 1) l3e)
        have hE3 : Ext wr w3 := by (repeat' (first | (with_reducible exact Below.refl _ _) | (with_reducible refine Below.mono (by assumption) ?_) | (with_reducible refine Below.trans ?_ (Below.mono (by assumption) ?_)) | (with_reducible refine Below.alloc ?_ ?_ _) | (with_reducible refine Below.drew ?_) | (with_reducible refine below_drewN ?_ _) | (with_reducible refine Below.setCell ?_ ?_ _) | (simp only [World.size_alloc, World.size_setCell, World.size_drew, size_drewN]; omega) | omega))
        have H0 := Lib.hid (show EdSt h A c w Bz (Bz + 1) (LW ++ rdesD h R (D.take 0)) v w3 ∧ Ints (fun b => wr.heap.size ≤ b ∧ b < w3.heap.size) w3 A3 D ∧ Off v wr.heap.size w3.heap.size from ⟨by simpa [rdesD] using HS.out.to hBz1 (by omega) hE3, hD.within_hi, Off.of_lt hvl⟩)
        have hz3 := hE3.size
        obtain ⟨lo, hlo⟩ : ∃ lo, wr.heap.size = lo := ⟨_, rfl⟩
        obtain ⟨hi, hhi⟩ : ∃ hi, w3.heap.size = hi := ⟨_, rfl⟩
        rw [hlo, hhi] at H0
        have hlob : Bz + 1 < lo := by omega
        clear hD hfD hb hc hf hz hE3 HS hvl CD b0
        go_wp2
        go_loopw [57] (fun i W => ∃ (q : Nat) (v : Value), q ≤ D.length ∧ i = .int .i64 q ∧ EdSt h A c w Bz (Bz + 1) (LW ++ rdesD h R (D.take q)) v W ∧ Ints (fun b => lo ≤ b ∧ b < hi) W A3 D ∧ Off v lo hi ∧ hi ≤ W.heap.size) (fun i _ => D.length - (intOf i).toNat)
        case atStart => exact ⟨0, v, Nat.zero_le _, rfl, H0.out.1, H0.out.2.1, H0.out.2.2, by omega⟩
        case round =>
          obtain ⟨q, v4, hq, rfl, hst, hDi, hoff, hzhi⟩ := hrel
          clear H0
          have HS := Lib.hid hst
          have HOf := Lib.hid hoff
          have HDi := Lib.hid hDi
          have bh := hst.hh
          have hEz := hst.ext.size
          have hBl4 := hst.blk.lt
          have hrdl := rdesD_len H3.out.hist R (D.take q)
          rw [List.length_take] at hrdl
          have hh6 := histv_len H3.out.hist
          by_cases hlt4 : q < D.length
          · obtain ⟨x, bd, offd, hxq, rfl, _, hbd, cd⟩ := hDi.at_ hlt4
            obtain ⟨n, t, rfl, hnt, hdt, _⟩ := HUp.out q x hxq
            have hnl := (List.getElem?_eq_some_iff.1 hnt).1
            have htk := rdesD_take (R := R) hxq hnt
            obtain ⟨s, ops, dd, A', cap, b, off, hxn, rfl, _, hb0, hOp, c0w, c1w, c2w⟩ := HX.out.at_ hnl
            rw [hnt] at hxn
            cases hxn
            simp only at hdt htk
            subst hdt
            have htv := histv_txn H3.out.hist _ (List.mem_of_getElem? hnt)
            have hopv := txnv_ops htv
            have hon : ops.length ≤ 6 := ops_le H3.out.hist hnt
            have CF := fun w hx => firstReads_c ⟨s, ops, true⟩ S A' cap w hx (by simp only; omega)
            simp only [frs_eq hopv] at CF
            have hrl := frs_len ops ops.length
            have hro : ∀ (j : Nat) o, (frs ops ops.length)[j]? = some o → opv o = true := fun j o ho => by
              obtain ⟨i, _, hi, _⟩ := (frs_mem (ops := ops) (o := o) ops.length).1 (List.mem_of_getElem? ho)
              exact hopv o (List.mem_of_getElem? hi)
            obtain ⟨rs, hrs9⟩ : ∃ rs, frs ops ops.length = rs := ⟨_, rfl⟩
            rw [hrs9] at CF hrl hro htk
            have CF := Lib.hid CF
            have HRo := Lib.hid hro
            have HTk := Lib.hid htk
            have HOp := Lib.hid hOp
            have c0 := hst.ext.keep hb0 c0w
            have c1 := hst.ext.keep hb0 c1w
            have c2 := hst.ext.keep hb0 c2w
            have hb1 : b < wr.heap.size := by omega
            have hni : (n : Int) < h.length := by omega
            have hqi : (q : Int) < D.length := by omega
            have hvl := fun g hg => (own3_lt hst.own g hg).2
            clear htv hopv hro hOp hnt hxq hrs9 hst hoff hDi htk
            go_wp2_with (fail)
            go_at_call 39
            refine (CF.out _ (HOp.out.ext (HS.out.ext.tr (by (repeat' (first | (with_reducible exact Below.refl _ _) | (with_reducible refine Below.mono (by assumption) ?_) | (with_reducible refine Below.trans ?_ (Below.mono (by assumption) ?_)) | (with_reducible refine Below.alloc ?_ ?_ _) | (with_reducible refine Below.drew ?_) | (with_reducible refine below_drewN ?_ _) | (with_reducible refine Below.setCell ?_ ?_ _) | (simp only [World.size_alloc, World.size_setCell, World.size_drew, size_drewN]; omega) | omega)))))).mono ?_
            rintro e w5 ⟨A4, c4, rfl, hF, _, hb⟩
            obtain ⟨hc, hf, hz, hs⟩ := bcell hb
            (try simp only [World.size_alloc, World.size_setCell, World.size_drew, size_drewN] at hs); (first | have l0 := Nat.lt_of_lt_of_le l0 (show _ ≤ w5.heap.size by omega) | have l0 : w.heap.size < w5.heap.size := (by omega) | skip); (try have l0e := Nat.le_of_lt l0); (try have l0f := Nat.le_add_right_of_le (k := 1) l0e); (try have l1 := Nat.lt_of_lt_of_le l1 (show _ ≤ w5.heap.size by omega)); (try have l1e := Nat.le_of_lt l1); (try have l1f := Nat.le_add_right_of_le (k := 1) l1e); (try have l2 := Nat.lt_of_lt_of_le l2 (show _ ≤ w5.heap.size by omega)); (try have l2e := Nat.le_of_lt l2); (try have l2f := Nat.le_add_right_of_le (k := 1) l2e); (try have l3 := Nat.lt_of_lt_of_le l3 (show _ ≤ w5.heap.size by omega)); (try have l3e := Nat.le_of_lt l3); (try have l3f := Nat.le_add_right_of_le (k := 1) l3e)
            have hE5 : Ext wr w5 := by (repeat' (first | (with_reducible exact Below.refl _ _) | (with_reducible refine Below.mono (by assumption) ?_) | (with_reducible refine Below.trans ?_ (Below.mono (by assumption) ?_)) | (with_reducible refine Below.alloc ?_ ?_ _) | (with_reducible refine Below.drew ?_) | (with_reducible refine below_drewN ?_ _) | (with_reducible refine Below.setCell ?_ ?_ _) | (simp only [World.size_alloc, World.size_setCell, World.size_drew, size_drewN]; omega) | omega))
            have hz5 := hE5.size
            have H0 := Lib.hid (show EdSt h (some ⟨b, off, none⟩) c w Bz (Bz + 1) (LW ++ rdesD h R (D.take q) ++ rdes h R n (rs.take 0)) v4 w5 ∧ Ints (fun b => lo ≤ b ∧ b < hi) w5 (some ⟨bd, offd, none⟩) D ∧ Off v4 lo hi ∧ Ops (fun b => wr.heap.size ≤ b ∧ b < w5.heap.size) w5 A4 rs ∧ Off v4 wr.heap.size w5.heap.size from ⟨by simpa [rdes] using HS.out.to hBz1 (by omega) hE5, HDi.out.ext hE5, HOf.out, ops_within_hi (hF.mono (fun _ h _ => by first | exact h | (simp only [World.size_drew] at h; exact h)) (fun _ _ h => h)), Off.of_lt hvl⟩)
            obtain ⟨lo2, hlo2⟩ : ∃ lo2, wr.heap.size = lo2 := ⟨_, rfl⟩
            obtain ⟨hi2, hhi2⟩ : ∃ hi2, w5.heap.size = hi2 := ⟨_, rfl⟩
            rw [hlo2, hhi2] at H0
            have hlob2 : Bz + 1 < lo2 := by omega
            clear hF hb hc hf hz hE5 HS HOf HDi hvl CF
            go_wp2
            go_loopw [67] (fun i W => ∃ (j : Nat) (v : Value), j ≤ rs.length ∧ i = .int .i64 j ∧ EdSt h (some ⟨b, off, none⟩) c w Bz (Bz + 1) (LW ++ rdesD h R (D.take q) ++ rdes h R n (rs.take j)) v W ∧ Ints (fun b => lo ≤ b ∧ b < hi) W (some ⟨bd, offd, none⟩) D ∧ Off v lo hi ∧ Ops (fun b => lo2 ≤ b ∧ b < hi2) W A4 rs ∧ Off v lo2 hi2 ∧ hi2 ≤ W.heap.size) (fun i _ => rs.length - (intOf i).toNat)
            case atStart => exact ⟨0, v4, Nat.zero_le _, rfl, H0.out.1, H0.out.2.1, H0.out.2.2.1, H0.out.2.2.2.1, H0.out.2.2.2.2, by omega⟩
            case round =>
              obtain ⟨j, v5, hj, rfl, hst, hDi, hoff, hRs, hoff2, hzhi2⟩ := hrel
              clear H0
              have HS := Lib.hid hst
              have HOf := Lib.hid hoff
              have HOf2 := Lib.hid hoff2
              have HDi := Lib.hid hDi
              have HRs := Lib.hid hRs
              have bh5 := hst.hh
              have hEz5 := hst.ext.size
              have hBl5 := hst.blk.lt
              have hvl := fun g hg => (own3_lt hst.own g hg).2
              by_cases hlt5 : j < rs.length
              rotate_left
              · obtain rfl : j = rs.length := by omega
                rw [List.take_length] at HS
                clear hst hDi hoff hRs hoff2
                go_wp2
                go_roundw
                case rel => exact ⟨q + 1, v5, by omega, by go_num, by rw [HTk.out, ← List.append_assoc]; exact HS.out, HDi.out, HOf.out, by omega⟩
                case measure => simp [intOf]; omega
              obtain ⟨x0, x1, x2, b3, off3, hxj, rfl, _, hb3, g0, g1, g2⟩ := hRs.at_ hlt5
              have hov := HRo.out j _ hxj
              have hkey : 0 ≤ x1 ∧ x1 ≤ 2 := by
                simp only [opv, inB, Bool.and_eq_true, decide_eq_true_eq] at hov
                omega
              obtain ⟨y, rfl⟩ := Int.eq_ofNat_of_zero_le hkey.1
              have hy3 : y < 3 := by omega
              have hji : (j : Int) < rs.length := by omega
              have hyR : (y : Int) < R.length := by omega
              have hy0 : (0 : Int) ≤ (y : Int) := by omega
              have htk := rdes_take (h := h) (R := R) (n := (n : Int)) hxj
              obtain ⟨o, Ao, capo, bR, offR, hok, rfl, _, hbRw, hIo, r0w⟩ := HR.out.at_ (i := y) (by omega)
              have hol := H3.out.row_le hok
              have hgd : R.getD y [] = o := by rw [List.getD_eq_getElem?_getD, hok, Option.getD_some]
              have CX := fun w hx => CW.out (y : Int) x2 w hx
              have W1l := HWR.out (y : Int) x2
              have hrde : rde h R (n : Int) ⟨x0, (y : Int), x2⟩ = putV h (wrN h (y : Int) x2) n 2 ++ overV h n (y : Int) (nxtV o x2) := by
                unfold rde
                simp only [Int.toNat_natCast, hgd]
              rw [hrde] at htk
              obtain ⟨W1, hW1⟩ : ∃ W1, wrN h (y : Int) x2 = W1 := ⟨_, rfl⟩
              rw [hW1] at CX W1l htk
              have hfin : ∀ T, overV h n (y : Int) (nxtV o x2) = T → LW ++ rdesD h R (D.take q) ++ rdes h R n (rs.take (j + 1)) = (LW ++ rdesD h R (D.take q) ++ rdes h R n (rs.take j) ++ putV h W1 n 2) ++ T := fun T hT => by
                rw [htk, hT]
                simp only [List.append_assoc]
              have hlen := rdes_len h R n (rs.take j)
              rw [List.length_take] at hlen
              have hlen1 : (LW ++ rdesD h R (D.take q) ++ rdes h R n (rs.take j)).length ≤ 1000000 := by
                simp only [List.length_append]
                omega
              generalize LW ++ rdesD h R (D.take q) ++ rdes h R n (rs.take j) = L1 at HS hfin hlen1
              have hpl := putV_len h W1 n 2
              have HFin := Lib.hid hfin
              have CX := Lib.hid CX
              have HIo := Lib.hid hIo
              have hEb : Ext wr (wr.alloc (.cells #[.int .i64 x0, .int .i64 (y : Int), .int .i64 x2] 57)) := by (repeat' (first | (with_reducible exact Below.refl _ _) | (with_reducible refine Below.mono (by assumption) ?_) | (with_reducible refine Below.trans ?_ (Below.mono (by assumption) ?_)) | (with_reducible refine Below.alloc ?_ ?_ _) | (with_reducible refine Below.drew ?_) | (with_reducible refine below_drewN ?_ _) | (with_reducible refine Below.setCell ?_ ?_ _) | (simp only [World.size_alloc, World.size_setCell, World.size_drew, size_drewN]; omega) | omega))
              have q1 := (lit_at wr #[.int .i64 x0, .int .i64 (y : Int), .int .i64 x2] 57 1).trans rfl
              have q2 := (lit_at wr #[.int .i64 x0, .int .i64 (y : Int), .int .i64 x2] 57 2).trans rfl
              have bh5' := hEb.keep (by omega) bh5
              clear hfin htk hrde hIo hxj hok hov hW1 hlen hgd hst hDi hoff hRs hoff2
              go_wp2_with (fail)
              go_at_call 37
              refine (CX.out _ (HX.out.ext (HS.out.ext.tr hEb))).mono ?_
              rintro e w6 ⟨rfl, hb⟩
              obtain ⟨hc, hf, hz, hs⟩ := bcell hb
              (try simp only [World.size_alloc, World.size_setCell, World.size_drew, size_drewN] at hs); (first | have l0 := Nat.lt_of_lt_of_le l0 (show _ ≤ w6.heap.size by omega) | have l0 : w.heap.size < w6.heap.size := (by omega) | skip); (try have l0e := Nat.le_of_lt l0); (try have l0f := Nat.le_add_right_of_le (k := 1) l0e); (try have l1 := Nat.lt_of_lt_of_le l1 (show _ ≤ w6.heap.size by omega)); (try have l1e := Nat.le_of_lt l1); (try have l1f := Nat.le_add_right_of_le (k := 1) l1e); (try have l2 := Nat.lt_of_lt_of_le l2 (show _ ≤ w6.heap.size by omega)); (try have l2e := Nat.le_of_lt l2); (try have l2f := Nat.le_add_right_of_le (k := 1) l2e); (try have l3 := Nat.lt_of_lt_of_le l3 (show _ ≤ w6.heap.size by omega)); (try have l3e := Nat.le_of_lt l3); (try have l3f := Nat.le_add_right_of_le (k := 1) l3e)
              have hE6 : Ext wr w6 := hEb.tr hb
              have k1 := hb.keep (by simp) q1
              have k2 := hb.keep (by simp) q2
              have hz6 : wr.heap.size < w6.heap.size := by have := hb.size; simp only [World.size_alloc] at this; omega
              have S6 := HS.out.to hBz1 (by omega) hE6
              have HS6 := Lib.hid S6
              have bh6 := S6.hh
              clear hb hc hf hz S6 bh5' q1 q2
              go_wp2_with (fail)
              go_at_call 36
              refine (put_c h W1 n 2 w.heap.size (Bz + 1) Bz (some ⟨b, off, none⟩) c S v5 L1 w6 (HX.out.ext HS6.out.ext) HS6.out.hh (by omega) HS6.out.blk HS6.out.own HS6.out.ne (by omega) (by omega) W1l (by omega)).mono ?_
              rintro e w7 ⟨v7, rfl, hB7, hO7, hP7⟩
              have hown7 : ∀ g, v5.ownBlock = some g → g ≠ wr.heap.size := fun g hg => by have := hvl g hg; omega
              have hk17 : w7.cell? ⟨wr.heap.size, 1, none⟩ = some (.int .i64 (y : Int)) := (hP7.cell (p := ⟨wr.heap.size, 1, none⟩) hz6 (by simp only; omega) (fun e => hown7 _ e.symm rfl)).trans k1
              have hk27 : w7.cell? ⟨wr.heap.size, 2, none⟩ = some (.int .i64 x2) := (hP7.cell (p := ⟨wr.heap.size, 2, none⟩) hz6 (by simp only; omega) (fun e => hown7 _ e.symm rfl)).trans k2
              have hD7 := hP7.ints (HDi.out.ext hE6) (fun b hb _ => ⟨by omega, fun e => by have := HOf.out _ e.symm; omega⟩)
              have hR7 := hP7.ops (HRs.out.ext hE6) (fun b hb _ => ⟨by omega, fun e => by have := HOf2.out _ e.symm; omega⟩)
              have hq17 := hP7.off HOf.out (by omega)
              have hq27 := hP7.off HOf2.out (by omega)
              have hz7 := hP7.size
              have hne7 : ∀ g, v7.ownBlock = some g → g ≠ wr.heap.size := fun g hg => by
                rcases hP7.own with e | ⟨m, e, hm⟩
                · exact hown7 g (e ▸ hg)
                · rw [e] at hg
                  cases hg
                  omega
              have S7 := HS6.out.put hBz1 (by omega) hB7 hO7 hP7
              have r0 := S7.ext.keep hbRw r0w
              have hbR7 : bR < w7.heap.size := by have := S7.ext.size; omega
              have H7 := Lib.hid (show EdSt h (some ⟨b, off, none⟩) c w Bz (Bz + 1) (L1 ++ putV h W1 n 2) v7 w7 ∧ Ints (fun b => lo ≤ b ∧ b < hi) w7 (some ⟨bd, offd, none⟩) D ∧ Off v7 lo hi ∧ Ops (fun b => lo2 ≤ b ∧ b < hi2) w7 (some ⟨b3, off3, none⟩) rs ∧ Off v7 lo2 hi2 ∧ w7.cell? ⟨wr.heap.size, 1, none⟩ = some (.int .i64 (y : Int)) ∧ (hi2 ≤ w7.heap.size ∧ hi ≤ w7.heap.size ∧ wr.heap.size < w7.heap.size) ∧ (∀ g, v7.ownBlock = some g → g ≠ wr.heap.size) from ⟨S7, hD7, hq17, hR7, hq27, hk17, ⟨by omega, by omega, by omega⟩, hne7⟩)
              have hl2 : (L1 ++ putV h W1 n 2).length ≤ 1048576 := by rw [List.length_append]; omega
              have hfin := HFin.out
              generalize L1 ++ putV h W1 n 2 = L2 at H7 hfin hl2
              have HFin := Lib.hid hfin
              have C9 := fun W hx => indexI_c o x2 S' Ao capo W hx (by omega)
              have hthree : (x2 ≠ 0 ∧ o.idxOf? x2 = none) ∨ (x2 = 0) ∨ (∃ i, x2 ≠ 0 ∧ o.idxOf? x2 = some i ∧ i < o.length) := by
                by_cases h0 : x2 = 0
                · exact .inr (.inl h0)
                · cases hi9 : o.idxOf? x2 with
                  | none => exact .inl ⟨h0, rfl⟩
                  | some i =>
                    refine .inr (.inr ⟨i, h0, rfl, ?_⟩)
                    rw [List.idxOf?, List.findIdx?_eq_some_iff_getElem] at hi9
                    exact hi9.1
              clear hfin S7 hB7 hO7 hP7 hD7 hR7 hq17 hq27 hne7 hown7 HS6 HDi HRs HOf HOf2 HS k1 k2 bh6 hvl g0 g1 g2 hpl hlen1
              rcases hthree with ⟨h0, hi9⟩ | h0 | ⟨i, h0, hi9, hil⟩
              · have hnx : nxtV o x2 = none := by unfold nxtV; rw [if_neg h0, hi9]
                have hidx : idxV o x2 = -1 := by unfold idxV; rw [hi9]
                rw [hidx] at C9
                have C9 := Lib.hid C9
                have hne : (x2 != 0) = true := by simpa using h0
                have HF9 := Lib.hid (HFin.out [] (by rw [hnx]; rfl))
                clear hnx hidx HFin hi9
                go_wp2_with (fail)
                go_at_call 40
                refine (C9.out _ (HIo.out.ext (H7.out.1.ext.tr (by (repeat' (first | (with_reducible exact Below.refl _ _) | (with_reducible refine Below.mono (by assumption) ?_) | (with_reducible refine Below.trans ?_ (Below.mono (by assumption) ?_)) | (with_reducible refine Below.alloc ?_ ?_ _) | (with_reducible refine Below.drew ?_) | (with_reducible refine below_drewN ?_ _) | (with_reducible refine Below.setCell ?_ ?_ _) | (simp only [World.size_alloc, World.size_setCell, World.size_drew, size_drewN]; omega) | omega)))))).mono ?_
                rintro e w8 ⟨rfl, hb⟩
                obtain ⟨hc, hf, hz, hs⟩ := bcell hb
                (try simp only [World.size_alloc, World.size_setCell, World.size_drew, size_drewN] at hs); (first | have l0 := Nat.lt_of_lt_of_le l0 (show _ ≤ w8.heap.size by omega) | have l0 : w.heap.size < w8.heap.size := (by omega) | skip); (try have l0e := Nat.le_of_lt l0); (try have l0f := Nat.le_add_right_of_le (k := 1) l0e); (try have l1 := Nat.lt_of_lt_of_le l1 (show _ ≤ w8.heap.size by omega)); (try have l1e := Nat.le_of_lt l1); (try have l1f := Nat.le_add_right_of_le (k := 1) l1e); (try have l2 := Nat.lt_of_lt_of_le l2 (show _ ≤ w8.heap.size by omega)); (try have l2e := Nat.le_of_lt l2); (try have l2f := Nat.le_add_right_of_le (k := 1) l2e); (try have l3 := Nat.lt_of_lt_of_le l3 (show _ ≤ w8.heap.size by omega)); (try have l3e := Nat.le_of_lt l3); (try have l3f := Nat.le_add_right_of_le (k := 1) l3e)
                have hE8 : Ext w7 w8 := by (repeat' (first | (with_reducible exact Below.refl _ _) | (with_reducible refine Below.mono (by assumption) ?_) | (with_reducible refine Below.trans ?_ (Below.mono (by assumption) ?_)) | (with_reducible refine Below.alloc ?_ ?_ _) | (with_reducible refine Below.drew ?_) | (with_reducible refine below_drewN ?_ _) | (with_reducible refine Below.setCell ?_ ?_ _) | (simp only [World.size_alloc, World.size_setCell, World.size_drew, size_drewN]; omega) | omega))
                have hE8z := hE8.size
                have HE8 := Lib.hid hE8
                clear hb hc hf hz hE8
                go_wp2
                go_roundw
                case rel => exact ⟨j + 1, v7, by omega, by go_num, by rw [HF9.out, List.append_nil]; exact H7.out.1.to hBz1 (by omega) HE8.out, H7.out.2.1.ext HE8.out, H7.out.2.2.1, H7.out.2.2.2.1.ext HE8.out, H7.out.2.2.2.2.1, by have := H7.out.2.2.2.2.2.2.1; omega⟩
                case measure => simp [intOf]; omega
              · subst h0
                by_cases h0 : 0 < o.length
                rotate_left
                · have hnx : nxtV o 0 = none := by
                    have : o = [] := List.eq_nil_of_length_eq_zero (by omega)
                    subst this
                    rfl
                  have HF9 := Lib.hid (HFin.out [] (by rw [hnx]; rfl))
                  have h0i : ¬ ((0 : Int) < o.length) := by omega
                  clear hnx HFin C9
                  go_wp2
                  go_roundw
                  case rel => exact ⟨j + 1, v7, by omega, by go_num, by rw [HF9.out, List.append_nil]; exact H7.out.1, H7.out.2.1, H7.out.2.2.1, H7.out.2.2.2.1, H7.out.2.2.2.2.1, by have := H7.out.2.2.2.2.2.2.1; omega⟩
                  case measure => simp [intOf]; omega
                obtain ⟨y9, b4, off4, hy9, rfl, _, hb4w, cy9w⟩ := HIo.out.at_ h0
                simp only [Nat.add_zero] at cy9w
                have hnx : nxtV o 0 = some y9 := by simp [nxtV, hy9]
                have cy9 := H7.out.1.ext.keep hb4w cy9w
                have h0i : (0 : Int) < o.length := by omega
                clear hy9 C9
                have CV := fun W hx => CW.out (y : Int) y9 W hx
                have W2l := HWR.out (y : Int) y9
                have hf := HFin.out (putV h n (wrN h (y : Int) y9) 3) (by rw [hnx]; rfl)
                generalize wrN h (y : Int) y9 = W2 at CV hf W2l
                have CV := Lib.hid CV
                have HF9 := Lib.hid hf
                have bh8 := H7.out.1.hh
                have k18 := H7.out.2.2.2.2.2.1
                have hEz8 := H7.out.1.ext.size
                have hBl8 := H7.out.1.blk.lt
                have hwr.heap.size8 : wr.heap.size < w7.heap.size := by have := H7.out.2.2.2.2.2.2.1; omega
                have hb48 : b4 < w7.heap.size := by omega
                have hwlt8 : w.heap.size < w7.heap.size := by omega
                clear hf hnx HFin
                go_upto_region 27 with (fail)
                go_region_held3 (fun V => V.cell? ⟨w.heap.size, 0, none⟩ = some (.slice (some ⟨b, off, none⟩) h.length c) ∧ V.cell? ⟨wr.heap.size, 1, none⟩ = some (.int .i64 (y : Int)) ∧ V.cell? ⟨b4, off4, none⟩ = some (.int .i64 y9))
                  (first | with_reducible exact ⟨hS'.hh, hk1', hS'.ext.keep hb4w cy9w⟩ | with_reducible exact ⟨hE9.keep hwlt8 bh8, hE9.keep hwr.heap.size8 k18, hE9.keep hb48 cy9⟩ | go_keep)
                  (first
                    | (go_at_call 37; with_reducible refine (CV.out _ (HX.out.ext (H7.out.1.ext.tr (by (repeat' (first | (with_reducible exact Below.refl _ _) | (with_reducible refine Below.mono (by assumption) ?_) | (with_reducible refine Below.trans ?_ (Below.mono (by assumption) ?_)) | (with_reducible refine Below.alloc ?_ ?_ _) | (with_reducible refine Below.drew ?_) | (with_reducible refine below_drewN ?_ _) | (with_reducible refine Below.setCell ?_ ?_ _) | (simp only [World.size_alloc, World.size_setCell, World.size_drew, size_drewN]; omega) | omega)))))).mono ?_; rintro e w9 ⟨rfl, hb9⟩; have z9 := hb9.size; try simp only [World.size_drew] at z9
                       have hE9 : Ext w7 w9 := by (repeat' (first | (with_reducible exact Below.refl _ _) | (with_reducible refine Below.mono (by assumption) ?_) | (with_reducible refine Below.trans ?_ (Below.mono (by assumption) ?_)) | (with_reducible refine Below.alloc ?_ ?_ _) | (with_reducible refine Below.drew ?_) | (with_reducible refine below_drewN ?_ _) | (with_reducible refine Below.setCell ?_ ?_ _) | (simp only [World.size_alloc, World.size_setCell, World.size_drew, size_drewN]; omega) | omega)))
                    | (go_at_call 36; with_reducible refine (put_c h n W2 3 w.heap.size (Bz + 1) Bz (some ⟨b, off, none⟩) c S v7 L2 _ (HX.out.ext (H7.out.1.to hBz1 (by omega) (by (repeat' (first | (with_reducible exact Below.refl _ _) | (with_reducible refine Below.mono (by assumption) ?_) | (with_reducible refine Below.trans ?_ (Below.mono (by assumption) ?_)) | (with_reducible refine Below.alloc ?_ ?_ _) | (with_reducible refine Below.drew ?_) | (with_reducible refine below_drewN ?_ _) | (with_reducible refine Below.setCell ?_ ?_ _) | (simp only [World.size_alloc, World.size_setCell, World.size_drew, size_drewN]; omega) | omega)))).ext) (H7.out.1.to hBz1 (by omega) (by (repeat' (first | (with_reducible exact Below.refl _ _) | (with_reducible refine Below.mono (by assumption) ?_) | (with_reducible refine Below.trans ?_ (Below.mono (by assumption) ?_)) | (with_reducible refine Below.alloc ?_ ?_ _) | (with_reducible refine Below.drew ?_) | (with_reducible refine below_drewN ?_ _) | (with_reducible refine Below.setCell ?_ ?_ _) | (simp only [World.size_alloc, World.size_setCell, World.size_drew, size_drewN]; omega) | omega)))).hh (by first | omega | (simp only [World.size_drew]; omega)) (H7.out.1.to hBz1 (by omega) (by (repeat' (first | (with_reducible exact Below.refl _ _) | (with_reducible refine Below.mono (by assumption) ?_) | (with_reducible refine Below.trans ?_ (Below.mono (by assumption) ?_)) | (with_reducible refine Below.alloc ?_ ?_ _) | (with_reducible refine Below.drew ?_) | (with_reducible refine below_drewN ?_ _) | (with_reducible refine Below.setCell ?_ ?_ _) | (simp only [World.size_alloc, World.size_setCell, World.size_drew, size_drewN]; omega) | omega)))).blk (H7.out.1.to hBz1 (by omega) (by (repeat' (first | (with_reducible exact Below.refl _ _) | (with_reducible refine Below.mono (by assumption) ?_) | (with_reducible refine Below.trans ?_ (Below.mono (by assumption) ?_)) | (with_reducible refine Below.alloc ?_ ?_ _) | (with_reducible refine Below.drew ?_) | (with_reducible refine below_drewN ?_ _) | (with_reducible refine Below.setCell ?_ ?_ _) | (simp only [World.size_alloc, World.size_setCell, World.size_drew, size_drewN]; omega) | omega)))).own H7.out.1.ne (by omega) hl2 (by omega) W2l).mono ?_; rintro e w10 ⟨v10, rfl, hB10, hO10, hP10⟩
                       have hS' := (H7.out.1.to hBz1 (by omega) (show Ext w7 _ from by (repeat' (first | (with_reducible exact Below.refl _ _) | (with_reducible refine Below.mono (by assumption) ?_) | (with_reducible refine Below.trans ?_ (Below.mono (by assumption) ?_)) | (with_reducible refine Below.alloc ?_ ?_ _) | (with_reducible refine Below.drew ?_) | (with_reducible refine below_drewN ?_ _) | (with_reducible refine Below.setCell ?_ ?_ _) | (simp only [World.size_alloc, World.size_setCell, World.size_drew, size_drewN]; omega) | omega)))).put hBz1 (by omega) hB10 hO10 hP10
                       have hEx := (fun {X Y : World} (_ : PutR (Bz + 1) v7 v10 X Y) (e : Ext w7 X) => e) hP10 (by (repeat' (first | (with_reducible exact Below.refl _ _) | (with_reducible refine Below.mono (by assumption) ?_) | (with_reducible refine Below.trans ?_ (Below.mono (by assumption) ?_)) | (with_reducible refine Below.alloc ?_ ?_ _) | (with_reducible refine Below.drew ?_) | (with_reducible refine below_drewN ?_ _) | (with_reducible refine Below.setCell ?_ ?_ _) | (simp only [World.size_alloc, World.size_setCell, World.size_drew, size_drewN]; omega) | omega)))
                       have hk1' := (hP10.cell (p := ⟨wr.heap.size, 1, none⟩) (by first | (simp only; omega) | (simp only [World.size_drew]; omega)) (by simp only; omega) (fun e => by have := H7.out.2.2.2.2.2.2.2 _ e.symm; simp only at this; omega)).trans (hEx.keep hwr.heap.size8 k18)
                       have hD' := hP10.ints (H7.out.2.1.ext hEx) (fun b hb _ => ⟨by omega, fun e => by have := H7.out.2.2.1 _ e.symm; omega⟩)
                       have hR' := hP10.ops (H7.out.2.2.2.1.ext hEx) (fun b hb _ => ⟨by omega, fun e => by have := H7.out.2.2.2.2.1 _ e.symm; omega⟩)
                       have hz' := hEx.size
                       have hq1 := hP10.off H7.out.2.2.1 (by have := H7.out.2.2.2.2.2.2.1; omega)
                       have hq2 := hP10.off H7.out.2.2.2.2.1 (by have := H7.out.2.2.2.2.2.2.1; omega)
                       have hz10 := hP10.size))
                have HF := Lib.hid (show _ ∧ _ ∧ _ ∧ _ ∧ _ from ⟨hS', hD', hq1, hR', hq2⟩)
                have hzf : hi2 ≤ w10.heap.size := by have := H7.out.2.2.2.2.2.2.1; omega
                clear hS' hD' hq1 hR' hq2 hP10 hB10 hO10 hE9 hb9 hEx hk1'
                go_wp2
                go_roundw
                case rel => exact ⟨j + 1, v10, by omega, by go_num, by rw [HF9.out]; exact HF.out.1, HF.out.2.1, HF.out.2.2.1, HF.out.2.2.2.1, HF.out.2.2.2.2, hzf⟩
                case measure => simp [intOf]; omega
              · have hne : (x2 != 0) = true := by simpa using h0
                have hidx : idxV o x2 = i := by unfold idxV; rw [hi9]
                rw [hidx] at C9
                have C9 := Lib.hid C9
                have hnx0 : nxtV o x2 = o[i + 1]? := by unfold nxtV; rw [if_neg h0, hi9]
                clear hidx hi9
                go_wp2_with (fail)
                go_at_call 40
                refine (C9.out _ (HIo.out.ext (H7.out.1.ext.tr (by (repeat' (first | (with_reducible exact Below.refl _ _) | (with_reducible refine Below.mono (by assumption) ?_) | (with_reducible refine Below.trans ?_ (Below.mono (by assumption) ?_)) | (with_reducible refine Below.alloc ?_ ?_ _) | (with_reducible refine Below.drew ?_) | (with_reducible refine below_drewN ?_ _) | (with_reducible refine Below.setCell ?_ ?_ _) | (simp only [World.size_alloc, World.size_setCell, World.size_drew, size_drewN]; omega) | omega)))))).mono ?_
                rintro e w8 ⟨rfl, hb⟩
                obtain ⟨hc, hf, hz, hs⟩ := bcell hb
                (try simp only [World.size_alloc, World.size_setCell, World.size_drew, size_drewN] at hs); (first | have l0 := Nat.lt_of_lt_of_le l0 (show _ ≤ w8.heap.size by omega) | have l0 : w.heap.size < w8.heap.size := (by omega) | skip); (try have l0e := Nat.le_of_lt l0); (try have l0f := Nat.le_add_right_of_le (k := 1) l0e); (try have l1 := Nat.lt_of_lt_of_le l1 (show _ ≤ w8.heap.size by omega)); (try have l1e := Nat.le_of_lt l1); (try have l1f := Nat.le_add_right_of_le (k := 1) l1e); (try have l2 := Nat.lt_of_lt_of_le l2 (show _ ≤ w8.heap.size by omega)); (try have l2e := Nat.le_of_lt l2); (try have l2f := Nat.le_add_right_of_le (k := 1) l2e); (try have l3 := Nat.lt_of_lt_of_le l3 (show _ ≤ w8.heap.size by omega)); (try have l3e := Nat.le_of_lt l3); (try have l3f := Nat.le_add_right_of_le (k := 1) l3e)
                have hE8 : Ext w7 w8 := by (repeat' (first | (with_reducible exact Below.refl _ _) | (with_reducible refine Below.mono (by assumption) ?_) | (with_reducible refine Below.trans ?_ (Below.mono (by assumption) ?_)) | (with_reducible refine Below.alloc ?_ ?_ _) | (with_reducible refine Below.drew ?_) | (with_reducible refine below_drewN ?_ _) | (with_reducible refine Below.setCell ?_ ?_ _) | (simp only [World.size_alloc, World.size_setCell, World.size_drew, size_drewN]; omega) | omega))
                have hE8z := hE8.size
                have hlt7 : wr.heap.size < w7.heap.size := H7.out.2.2.2.2.2.2.1.2.2
                have H8 := Lib.hid (show EdSt h (some ⟨b, off, none⟩) c w Bz (Bz + 1) L2 v7 w8 ∧ Ints (fun b => lo ≤ b ∧ b < hi) w8 (some ⟨bd, offd, none⟩) D ∧ Off v7 lo hi ∧ Ops (fun b => lo2 ≤ b ∧ b < hi2) w8 (some ⟨b3, off3, none⟩) rs ∧ Off v7 lo2 hi2 ∧ w8.cell? ⟨wr.heap.size, 1, none⟩ = some (.int .i64 (y : Int)) ∧ (hi2 ≤ w8.heap.size ∧ hi ≤ w8.heap.size ∧ wr.heap.size < w8.heap.size) ∧ (∀ g, v7.ownBlock = some g → g ≠ wr.heap.size) from ⟨H7.out.1.to hBz1 (by omega) hE8, H7.out.2.1.ext hE8, H7.out.2.2.1, H7.out.2.2.2.1.ext hE8, H7.out.2.2.2.2.1, hE8.keep hlt7 hk17, ⟨by have := H7.out.2.2.2.2.2.2.1; omega, by have := H7.out.2.2.2.2.2.2.1; omega, by omega⟩, H7.out.2.2.2.2.2.2.2⟩)
                clear hb hc hf hz hE8 C9 H7 hk17 hk27 r0
                by_cases hi1 : i + 1 < o.length
                rotate_left
                · have HF9 := Lib.hid (HFin.out [] (by rw [hnx0, List.getElem?_eq_none (by omega)]; rfl))
                  have h0i : ¬ ((i : Int) + 1 < o.length) := by omega
                  clear hnx0 HFin
                  go_wp2
                  go_roundw
                  case rel => exact ⟨j + 1, v7, by omega, by go_num, by rw [HF9.out, List.append_nil]; exact H8.out.1, H8.out.2.1, H8.out.2.2.1, H8.out.2.2.2.1, H8.out.2.2.2.2.1, by have := H8.out.2.2.2.2.2.2.1; omega⟩
                  case measure => simp [intOf]; omega
                obtain ⟨y9, b4, off4, hy9, rfl, _, hb4w, cy9w⟩ := HIo.out.at_ hi1
                have hnx : nxtV o x2 = some y9 := by rw [hnx0, hy9]
                have cy9 := H8.out.1.ext.keep hb4w cy9w
                have h0i : (i : Int) + 1 < o.length := by omega
                have h0j : (0 : Int) ≤ (i : Int) + 1 := by omega
                have h0k : ((i : Int) + 1).toNat = i + 1 := by omega
                have hwr : IntKind.i64.wrap ((i : Int) + 1) = (i : Int) + 1 := by rw [IntKind.wrap_i64]; omega
                clear hy9 hnx0
                have CV := fun W hx => CW.out (y : Int) y9 W hx
                have W2l := HWR.out (y : Int) y9
                have hf := HFin.out (putV h n (wrN h (y : Int) y9) 3) (by rw [hnx]; rfl)
                generalize wrN h (y : Int) y9 = W2 at CV hf W2l
                have CV := Lib.hid CV
                have HF9 := Lib.hid hf
                have bh8 := H8.out.1.hh
                have k18 := H8.out.2.2.2.2.2.1
                have hEz8 := H8.out.1.ext.size
                have hBl8 := H8.out.1.blk.lt
                have hwr.heap.size8 : wr.heap.size < w8.heap.size := by have := H8.out.2.2.2.2.2.2.1; omega
                have hb48 : b4 < w8.heap.size := by omega
                have hwlt8 : w.heap.size < w8.heap.size := by omega
                clear hf hnx HFin
                go_upto_region 27 with (fail)
                go_region_held3 (fun V => V.cell? ⟨w.heap.size, 0, none⟩ = some (.slice (some ⟨b, off, none⟩) h.length c) ∧ V.cell? ⟨wr.heap.size, 1, none⟩ = some (.int .i64 (y : Int)) ∧ V.cell? ⟨b4, off4 + (i + 1), none⟩ = some (.int .i64 y9))
                  (first | with_reducible exact ⟨hS'.hh, hk1', hS'.ext.keep hb4w cy9w⟩ | with_reducible exact ⟨hE9.keep hwlt8 bh8, hE9.keep hwr.heap.size8 k18, hE9.keep hb48 cy9⟩ | go_keep)
                  (first
                    | (go_at_call 37; with_reducible refine (CV.out _ (HX.out.ext (H8.out.1.ext.tr (by (repeat' (first | (with_reducible exact Below.refl _ _) | (with_reducible refine Below.mono (by assumption) ?_) | (with_reducible refine Below.trans ?_ (Below.mono (by assumption) ?_)) | (with_reducible refine Below.alloc ?_ ?_ _) | (with_reducible refine Below.drew ?_) | (with_reducible refine below_drewN ?_ _) | (with_reducible refine Below.setCell ?_ ?_ _) | (simp only [World.size_alloc, World.size_setCell, World.size_drew, size_drewN]; omega) | omega)))))).mono ?_; rintro e w9 ⟨rfl, hb9⟩; have z9 := hb9.size; try simp only [World.size_drew] at z9
                       have hE9 : Ext w8 w9 := by (repeat' (first | (with_reducible exact Below.refl _ _) | (with_reducible refine Below.mono (by assumption) ?_) | (with_reducible refine Below.trans ?_ (Below.mono (by assumption) ?_)) | (with_reducible refine Below.alloc ?_ ?_ _) | (with_reducible refine Below.drew ?_) | (with_reducible refine below_drewN ?_ _) | (with_reducible refine Below.setCell ?_ ?_ _) | (simp only [World.size_alloc, World.size_setCell, World.size_drew, size_drewN]; omega) | omega)))
                    | (go_at_call 36; with_reducible refine (put_c h n W2 3 w.heap.size (Bz + 1) Bz (some ⟨b, off, none⟩) c S v7 L2 _ (HX.out.ext (H8.out.1.to hBz1 (by omega) (by (repeat' (first | (with_reducible exact Below.refl _ _) | (with_reducible refine Below.mono (by assumption) ?_) | (with_reducible refine Below.trans ?_ (Below.mono (by assumption) ?_)) | (with_reducible refine Below.alloc ?_ ?_ _) | (with_reducible refine Below.drew ?_) | (with_reducible refine below_drewN ?_ _) | (with_reducible refine Below.setCell ?_ ?_ _) | (simp only [World.size_alloc, World.size_setCell, World.size_drew, size_drewN]; omega) | omega)))).ext) (H8.out.1.to hBz1 (by omega) (by (repeat' (first | (with_reducible exact Below.refl _ _) | (with_reducible refine Below.mono (by assumption) ?_) | (with_reducible refine Below.trans ?_ (Below.mono (by assumption) ?_)) | (with_reducible refine Below.alloc ?_ ?_ _) | (with_reducible refine Below.drew ?_) | (with_reducible refine below_drewN ?_ _) | (with_reducible refine Below.setCell ?_ ?_ _) | (simp only [World.size_alloc, World.size_setCell, World.size_drew, size_drewN]; omega) | omega)))).hh (by first | omega | (simp only [World.size_drew]; omega)) (H8.out.1.to hBz1 (by omega) (by (repeat' (first | (with_reducible exact Below.refl _ _) | (with_reducible refine Below.mono (by assumption) ?_) | (with_reducible refine Below.trans ?_ (Below.mono (by assumption) ?_)) | (with_reducible refine Below.alloc ?_ ?_ _) | (with_reducible refine Below.drew ?_) | (with_reducible refine below_drewN ?_ _) | (with_reducible refine Below.setCell ?_ ?_ _) | (simp only [World.size_alloc, World.size_setCell, World.size_drew, size_drewN]; omega) | omega)))).blk (H8.out.1.to hBz1 (by omega) (by (repeat' (first | (with_reducible exact Below.refl _ _) | (with_reducible refine Below.mono (by assumption) ?_) | (with_reducible refine Below.trans ?_ (Below.mono (by assumption) ?_)) | (with_reducible refine Below.alloc ?_ ?_ _) | (with_reducible refine Below.drew ?_) | (with_reducible refine below_drewN ?_ _) | (with_reducible refine Below.setCell ?_ ?_ _) | (simp only [World.size_alloc, World.size_setCell, World.size_drew, size_drewN]; omega) | omega)))).own H8.out.1.ne (by omega) hl2 (by omega) W2l).mono ?_; rintro e w10 ⟨v10, rfl, hB10, hO10, hP10⟩
                       have hS' := (H8.out.1.to hBz1 (by omega) (show Ext w8 _ from by (repeat' (first | (with_reducible exact Below.refl _ _) | (with_reducible refine Below.mono (by assumption) ?_) | (with_reducible refine Below.trans ?_ (Below.mono (by assumption) ?_)) | (with_reducible refine Below.alloc ?_ ?_ _) | (with_reducible refine Below.drew ?_) | (with_reducible refine below_drewN ?_ _) | (with_reducible refine Below.setCell ?_ ?_ _) | (simp only [World.size_alloc, World.size_setCell, World.size_drew, size_drewN]; omega) | omega)))).put hBz1 (by omega) hB10 hO10 hP10
                       have hEx := (fun {X Y : World} (_ : PutR (Bz + 1) v7 v10 X Y) (e : Ext w8 X) => e) hP10 (by (repeat' (first | (with_reducible exact Below.refl _ _) | (with_reducible refine Below.mono (by assumption) ?_) | (with_reducible refine Below.trans ?_ (Below.mono (by assumption) ?_)) | (with_reducible refine Below.alloc ?_ ?_ _) | (with_reducible refine Below.drew ?_) | (with_reducible refine below_drewN ?_ _) | (with_reducible refine Below.setCell ?_ ?_ _) | (simp only [World.size_alloc, World.size_setCell, World.size_drew, size_drewN]; omega) | omega)))
                       have hk1' := (hP10.cell (p := ⟨wr.heap.size, 1, none⟩) (by first | (simp only; omega) | (simp only [World.size_drew]; omega)) (by simp only; omega) (fun e => by have := H8.out.2.2.2.2.2.2.2 _ e.symm; simp only at this; omega)).trans (hEx.keep hwr.heap.size8 k18)
                       have hD' := hP10.ints (H8.out.2.1.ext hEx) (fun b hb _ => ⟨by omega, fun e => by have := H8.out.2.2.1 _ e.symm; omega⟩)
                       have hR' := hP10.ops (H8.out.2.2.2.1.ext hEx) (fun b hb _ => ⟨by omega, fun e => by have := H8.out.2.2.2.2.1 _ e.symm; omega⟩)
                       have hz' := hEx.size
                       have hq1 := hP10.off H8.out.2.2.1 (by have := H8.out.2.2.2.2.2.2.1; omega)
                       have hq2 := hP10.off H8.out.2.2.2.2.1 (by have := H8.out.2.2.2.2.2.2.1; omega)
                       have hz10 := hP10.size))
                have HF := Lib.hid (show _ ∧ _ ∧ _ ∧ _ ∧ _ from ⟨hS', hD', hq1, hR', hq2⟩)
                have hzf : hi2 ≤ w10.heap.size := by have := H8.out.2.2.2.2.2.2.1; omega
                clear hS' hD' hq1 hR' hq2 hP10 hB10 hO10 hE9 hb9 hEx hk1'
                go_wp2
                go_roundw
                case rel => exact ⟨j + 1, v10, by omega, by go_num, by rw [HF9.out]; exact HF.out.1, HF.out.2.1, HF.out.2.2.1, HF.out.2.2.2.1, HF.out.2.2.2.2, hzf⟩
                case measure => simp [intOf]; omega
          · obtain rfl : q = D.length := by omega
            rw [List.take_length, HRaw.out] at HS
            have hrl : (rawE h R).length ≤ 1048576 := by rw [← HRaw.out, List.length_append]; rw [List.take_length] at hrdl; omega
            have CS := fun W hO hb => sortedG_c (rawE h R) Bz v4 W hO HS.out.some_ hb hrl
            have CS := Lib.hid CS
            have v0 : wr.cell? ⟨Bz + 1, 0, none⟩ = some v4 := (HS.out.blk.cell 0).trans rfl
            clear hst hoff hDi
            go_wp2_with (fail)
            go_at_call 41
            refine (CS.out _ (HS.out.own.ext (by (repeat' (first | (with_reducible exact Below.refl _ _) | (with_reducible refine Below.mono (by assumption) ?_) | (with_reducible refine Below.trans ?_ (Below.mono (by assumption) ?_)) | (with_reducible refine Below.alloc ?_ ?_ _) | (with_reducible refine Below.drew ?_) | (with_reducible refine below_drewN ?_ _) | (with_reducible refine Below.setCell ?_ ?_ _) | (simp only [World.size_alloc, World.size_setCell, World.size_drew, size_drewN]; omega) | omega)))) (by first | omega | (simp; omega))).mono ?_
            rintro e w9 ⟨ys, A5, c5, hpw, hm, hyl, rfl, hO5, hf5, hb5⟩
            have e := edgesV_one HV.out hpw hm
            subst e
            have hE9 : Ext w w9 := HS.out.ext.trans (show Below w.heap.size wr w9 from (by first | exact hb5.mono (by omega) | exact (show Below w.heap.size wr _ from by (repeat' (first | (with_reducible exact Below.refl _ _) | (with_reducible refine Below.mono (by assumption) ?_) | (with_reducible refine Below.trans ?_ (Below.mono (by assumption) ?_)) | (with_reducible refine Below.alloc ?_ ?_ _) | (with_reducible refine Below.drew ?_) | (with_reducible refine below_drewN ?_ _) | (with_reducible refine Below.setCell ?_ ?_ _) | (simp only [World.size_alloc, World.size_setCell, World.size_drew, size_drewN]; omega) | omega))).trans (hb5.mono (by omega))))
            have HR9 := Lib.hid (show Fresh (edgesV h R) w (.returned (.slice A5 (edgesV h R).length c5)) w9 from ⟨A5, c5, rfl, hO5.mono (fun b h _ => Nat.le_trans (by omega) h) (fun _ _ h => h), (fun a ha => by have := hf5 a ha; exact ⟨by omega, this.2⟩), hE9⟩)
            clear hpw hm hO5 hf5 hb5 hE9
            go_wp2
            go_ret
            exact HR9.out
end Go.Proofs.YtdohbmegkkkchaaGreat
namespace Go.Proofs.YtdohbmegkkkchaaGreat
set_option linter.unusedSimpArgs false
set_option linter.unusedVariables false
set_option maxRecDepth 100000
open Go.RowKit

/-- append of one edge, inside a region that draws -/
theorem step_app3 {ops : Array Oper} {o : Oper} {a : Act} {w : World} {K : Act → World → Prop} {Q : Exit → Act → World → Prop} {E : Prop} (hg : o.guard = none) (s x : Operand)
    (hop : o.op = Op.call { callee := Callee.builtin Builtin.append, args := #[s, x], argTypes := #[26, 26] }) (base : Nat) (v : Value) (hs : a.eval s = v) (xs : List T3) (hown : Own3 w base 51 v xs) (B : Nat) (x0 x1 x2 : Int) (hx : a.eval x = .slice (some ⟨B, 0, none⟩) 1 1)
    (c0 : w.cell? ⟨B, 0, none⟩ = some (.int .i64 x0)) (c1 : w.cell? ⟨B, 1, none⟩ = some (.int .i64 x1)) (c2 : w.cell? ⟨B, 2, none⟩ = some (.int .i64 x2)) (hl : xs.length ≤ 1048576) (hbase : base ≤ w.heap.size)
    (hK : ∀ v' w', Own3 w' base 51 v' (xs ++ [⟨x0, x1, x2⟩]) → w.grownBy w' v.ownBlock → K (a.put o.dst v') w') :
    if Region.wanted o (yielded ops a.tmps) = true then Oper.wp Tryz.prog o a w K Q else E := by
  obtain ⟨i0, hi, hz0, hz1, hz2⟩ := info_parts infoEdgeS
  refine step_append_lies w hg s x _ hop base _ i0 _ 3 24 Tryz.underlying26 hi hz0 hz1 hz2 rfl (by decide) v xs.length (flat3 xs) hs hown ⟨B, 0, none⟩ 1 1 [.int .i64 x0, .int .i64 x1, .int .i64 x2] hx rfl ?_ ?_ (by omega) (by unfold maxLen; omega) (by omega) hbase _ rfl (fun g cap w' h1 h2 _ _ => hK _ w' ?_ h2)
  · intro j u hu
    match j, hu with
    | 0, hu => cases hu; exact c0
    | 1, hu => cases hu; exact c1
    | 2, hu => cases hu; exact c2
    | j + 3, hu => simp at hu
  · intro u hu
    simp at hu
    rcases hu with rfl | rfl | rfl <;> rfl
  · unfold Own3
    rw [flat3_app, List.length_append]
    exact h1
set_option maxHeartbeats 8000000 in
theorem specEdgesOf_c (h : List TxnT) (R : List (List Int)) (S S' : Nat → Prop) (A B : Option Addr) (c d : Nat) (w : World) (hx : Txns S w A h) (hsm : Small h) (hr : Rows2 S' w B R) (hrs : SmallR R) :
    Calls Tryz.prog 9 #[.slice A h.length c, .slice B R.length d] w (Fresh (edgesV h R) w) := by
  have CO := fun w hx hr => specOrdersValid_c h R S S' A B c d w hx hsm hr hrs
  have CW := Lib.hid (fun key val w hx => l5Writer_c h S A c key val w hx hsm)
  have hsl := hsm.len
  have HX := Lib.hid hx
  have HR := Lib.hid hr
  clear hx hr
  cases hv : ordV h R with
  | false =>
    rw [hv] at CO
    have CO := Lib.hid CO
    have e : edgesV h R = [] := by simp [edgesV, hv]
    rw [e]
    have hO : Own3 (w.alloc (.cells #[] 51)) w.heap.size 51 (.slice (some ⟨w.heap.size, 0, none⟩) 0 0) [] := Own3.made w #[] 0 rfl (Nat.le_refl _) (by omega) rfl
    go_enter Tryz.func9, Tryz.ntmps9
    go_wp2_with (go_at_call 28; refine (CO.out _ (HX.out.ext (by (repeat' (first | (with_reducible exact Below.refl _ _) | (with_reducible refine Below.mono (by assumption) ?_) | (with_reducible refine Below.trans ?_ (Below.mono (by assumption) ?_)) | (with_reducible refine Below.alloc ?_ ?_ _) | (with_reducible refine Below.drew ?_) | (with_reducible refine below_drewN ?_ _) | (with_reducible refine Below.setCell ?_ ?_ _) | (simp only [World.size_alloc, World.size_setCell, World.size_drew, size_drewN]; omega) | omega)))) (HR.out.ext (by (repeat' (first | (with_reducible exact Below.refl _ _) | (with_reducible refine Below.mono (by assumption) ?_) | (with_reducible refine Below.trans ?_ (Below.mono (by assumption) ?_)) | (with_reducible refine Below.alloc ?_ ?_ _) | (with_reducible refine Below.drew ?_) | (with_reducible refine below_drewN ?_ _) | (with_reducible refine Below.setCell ?_ ?_ _) | (simp only [World.size_alloc, World.size_setCell, World.size_drew, size_drewN]; omega) | omega))))).mono ?_; rintro e w1 ⟨rfl, hb⟩; obtain ⟨hc, hf, hz, hs⟩ := bcell hb; (try simp only [World.size_alloc, World.size_setCell, World.size_drew, size_drewN] at hs); (first | have l0 := Nat.lt_of_lt_of_le l0 (show _ ≤ w1.heap.size by omega) | have l0 : w.heap.size < w1.heap.size := (by omega) | skip); (try have l0e := Nat.le_of_lt l0); (try have l0f := Nat.le_add_right_of_le (k := 1) l0e); (try have l1 := Nat.lt_of_lt_of_le l1 (show _ ≤ w1.heap.size by omega)); (try have l1e := Nat.le_of_lt l1); (try have l1f := Nat.le_add_right_of_le (k := 1) l1e); (try have l2 := Nat.lt_of_lt_of_le l2 (show _ ≤ w1.heap.size by omega)); (try have l2e := Nat.le_of_lt l2); (try have l2f := Nat.le_add_right_of_le (k := 1) l2e); (try have l3 := Nat.lt_of_lt_of_le l3 (show _ ≤ w1.heap.size by omega)); (try have l3e := Nat.le_of_lt l3); (try have l3f := Nat.le_add_right_of_le (k := 1) l3e))
    all_goals go_ret
    all_goals exact (hO.ext hb).fresh (Nat.le_refl _) (by (repeat' (first | (with_reducible exact Below.refl _ _) | (with_reducible refine Below.mono (by assumption) ?_) | (with_reducible refine Below.trans ?_ (Below.mono (by assumption) ?_)) | (with_reducible refine Below.alloc ?_ ?_ _) | (with_reducible refine Below.drew ?_) | (with_reducible refine below_drewN ?_ _) | (with_reducible refine Below.setCell ?_ ?_ _) | (simp only [World.size_alloc, World.size_setCell, World.size_drew, size_drewN]; omega) | omega)))
  | true =>
    rw [hv] at CO
    have CO := Lib.hid CO
    have H3 := Lib.hid (ord3 hv)
    have HV := Lib.hid hv
    have hR3 : 2 < R.length := by have := H3.out.len; omega
    have hO : Own3 (w.alloc (.cells #[] 51)) w.heap.size 51 (.slice (some ⟨w.heap.size, 0, none⟩) 0 0) [] := Own3.made w #[] 0 rfl (Nat.le_refl _) (by omega) rfl
    clear hv
    go_enter Tryz.func9, Tryz.ntmps9
    go_wp2_with (fail)
    go_at_call 28
    refine (CO.out _ (HX.out.ext (by (repeat' (first | (with_reducible exact Below.refl _ _) | (with_reducible refine Below.mono (by assumption) ?_) | (with_reducible refine Below.trans ?_ (Below.mono (by assumption) ?_)) | (with_reducible refine Below.alloc ?_ ?_ _) | (with_reducible refine Below.drew ?_) | (with_reducible refine below_drewN ?_ _) | (with_reducible refine Below.setCell ?_ ?_ _) | (simp only [World.size_alloc, World.size_setCell, World.size_drew, size_drewN]; omega) | omega)))) (HR.out.ext (by (repeat' (first | (with_reducible exact Below.refl _ _) | (with_reducible refine Below.mono (by assumption) ?_) | (with_reducible refine Below.trans ?_ (Below.mono (by assumption) ?_)) | (with_reducible refine Below.alloc ?_ ?_ _) | (with_reducible refine Below.drew ?_) | (with_reducible refine below_drewN ?_ _) | (with_reducible refine Below.setCell ?_ ?_ _) | (simp only [World.size_alloc, World.size_setCell, World.size_drew, size_drewN]; omega) | omega))))).mono ?_
    rintro e w1 ⟨rfl, hb⟩
    obtain ⟨hc, hf, hz, hs⟩ := bcell hb
    (try simp only [World.size_alloc, World.size_setCell, World.size_drew, size_drewN] at hs); (first | have l0 := Nat.lt_of_lt_of_le l0 (show _ ≤ w1.heap.size by omega) | have l0 : w.heap.size < w1.heap.size := (by omega) | skip); (try have l0e := Nat.le_of_lt l0); (try have l0f := Nat.le_add_right_of_le (k := 1) l0e); (try have l1 := Nat.lt_of_lt_of_le l1 (show _ ≤ w1.heap.size by omega)); (try have l1e := Nat.le_of_lt l1); (try have l1f := Nat.le_add_right_of_le (k := 1) l1e); (try have l2 := Nat.lt_of_lt_of_le l2 (show _ ≤ w1.heap.size by omega)); (try have l2e := Nat.le_of_lt l2); (try have l2f := Nat.le_add_right_of_le (k := 1) l2e); (try have l3 := Nat.lt_of_lt_of_le l3 (show _ ≤ w1.heap.size by omega)); (try have l3e := Nat.le_of_lt l3); (try have l3f := Nat.le_add_right_of_le (k := 1) l3e)
    have HO1 := Lib.hid (hO.ext hb)
    have HE1 := Lib.hid (show Ext w w1 from by (repeat' (first | (with_reducible exact Below.refl _ _) | (with_reducible refine Below.mono (by assumption) ?_) | (with_reducible refine Below.trans ?_ (Below.mono (by assumption) ?_)) | (with_reducible refine Below.alloc ?_ ?_ _) | (with_reducible refine Below.drew ?_) | (with_reducible refine below_drewN ?_ _) | (with_reducible refine Below.setCell ?_ ?_ _) | (simp only [World.size_alloc, World.size_setCell, World.size_drew, size_drewN]; omega) | omega)))
    clear hb hc hf hz hO CO
    go_wp2
    go_loopw [5, 6] (fun v i wr => ∃ k : Nat, k ≤ 3 ∧ i = .int .i64 k ∧ Own3 wr w.heap.size 51 v (wesR h R k) ∧ Ext w wr) (fun _ i _ => 3 - (intOf i).toNat)
    case atStart => exact ⟨0, by omega, rfl, HO1.out, HE1.out⟩
    case round =>
      obtain ⟨k, hk, rfl, hown, hE⟩ := hrel
      have hLl := H3.out.wesR_le k
      clear HO1 HE1
      by_cases hlt : k < 3
      · obtain ⟨o, A', cap, b, off, hok, rfl, _, hbw, hI, c0w⟩ := HR.out.at_ (i := k) (by omega)
        have c0 := hE.keep hbw c0w
        have hb0 : b < wr.heap.size := by have := hE.size; omega
        have hol := H3.out.row_le hok
        have HOk := Lib.hid hok
        have HO := Lib.hid hown
        have HE := Lib.hid hE
        have HI := Lib.hid hI
        have hki : (k : Int) ≤ 2 := by omega
        have hkl : k < R.length := by omega
        have hkl2 : (k : Int) < R.length := by omega
        clear hok hown hI
        go_wp2
        go_loopw [5, 7] (fun v i W => ∃ j : Nat, j ≤ o.length - 1 ∧ i = .int .i64 j ∧ Own3 W w.heap.size 51 v (wesR h R k ++ wes h k o j) ∧ Ext w W) (fun _ i _ => o.length - (intOf i).toNat)
        case atStart => exact ⟨0, by omega, rfl, by simpa [wes] using HO.out, HE.out⟩
        case round =>
          obtain ⟨j, hj, rfl, hown, hEw⟩ := hrel
          have HO2 := Lib.hid hown
          have HEw := Lib.hid hEw
          have hEz := hEw.size
          have c02 := hEw.keep hbw c0w
          have hb02 : b < wr.heap.size := by omega
          have hwl := wes_len h k o j
          clear hown
          by_cases hlt2 : j + 1 < o.length
          · obtain ⟨x, b3, off3, hxj, rfl, _, hb3w0, cxw⟩ := HI.out.at_ (i := j) (by omega)
            obtain ⟨y, b4, off4, hyj, e4, _, _, cyw⟩ := HI.out.at_ hlt2
            simp only [Option.some.injEq, Addr.mk.injEq] at e4
            obtain ⟨rfl, rfl, _⟩ := e4
            have cx := hEw.keep hb3w0 cxw
            have cy := hEw.keep hb3w0 cyw
            have hb3 : b3 < wr.heap.size := by omega
            have hput := H3.out.put1 HOk.out hxj hyj
            have hws := wes_succ (h := h) (key := (k : Int)) hxj hyj
            rw [hput] at hws
            have HWs := Lib.hid hws
            have hji : (j : Int) + 1 < o.length := by omega
            have hj0 : (0 : Int) ≤ (j : Int) := by omega
            have hj1 : (j : Int) < o.length := by omega
            have hj1n : j < o.length := by omega
            have hj2 : (0 : Int) ≤ (j : Int) + 1 := by omega
            have hj3 : ((j : Int) + 1).toNat = j + 1 := by omega
            have hwr : IntKind.i64.wrap ((j : Int) + 1) = (j : Int) + 1 := by rw [IntKind.wrap_i64]; omega
            have hk0 : (0 : Int) ≤ (k : Int) := by omega
            clear hput hws hxj hyj hEw
            have CX := fun w hx => CW.out (k : Int) x w hx
            have CY := fun w hx => CW.out (k : Int) y w hx
            generalize wrN h (k : Int) x = fx at HWs CX
            generalize wrN h (k : Int) y = fy at HWs CY
            have CX := Lib.hid CX
            have CY := Lib.hid CY
            go_upto_region 10 with (fail)
            go_region_held3 (fun W => W.cell? ⟨b, off + k, none⟩ = some (.slice (some ⟨b3, off3, none⟩) o.length cap) ∧ W.cell? ⟨b3, off3 + j, none⟩ = some (.int .i64 x) ∧ W.cell? ⟨b3, off3 + (j + 1), none⟩ = some (.int .i64 y))
              (first | go_keep | exact ⟨hE'.keep hbw c0w, hE'.keep hb3w0 cxw, hE'.keep hb3w0 cyw⟩ | exact ⟨hE4.keep hb02 c02, hE4.keep hb3 cx, hE4.keep hb3 cy⟩ | exact ⟨hE3.keep hb02 c02, hE3.keep hb3 cx, hE3.keep hb3 cy⟩)
              (first
                | (refine step_app3 rfl (.tmp 33) (.tmp 56) rfl w.heap.size _ rfl (wesR h R k ++ wes h k o j) (HO2.out.ext (by (repeat' (first | (with_reducible exact Below.refl _ _) | (with_reducible refine Below.mono (by assumption) ?_) | (with_reducible refine Below.trans ?_ (Below.mono (by assumption) ?_)) | (with_reducible refine Below.alloc ?_ ?_ _) | (with_reducible refine Below.drew ?_) | (with_reducible refine below_drewN ?_ _) | (with_reducible refine Below.setCell ?_ ?_ _) | (simp only [World.size_alloc, World.size_setCell, World.size_drew, size_drewN]; omega) | omega)))) _ fx fy 1 rfl ((lit_at _ _ _ 0).trans rfl) ((lit_at _ _ _ 1).trans rfl) ((lit_at _ _ _ 2).trans rfl) (by rw [List.length_append]; omega) (by simp only [World.size_alloc, World.size_drew]; omega) ?_
                   intro v' w' hown' hgrow
                   have hE' : Ext w w' := by
                     refine Below.grown (HEw.out.tr ?_) hgrow ?_ (fun g hg => (own3_lt HO2.out g hg).1)
                     · (repeat' (first | (with_reducible exact Below.refl _ _) | (with_reducible refine Below.mono (by assumption) ?_) | (with_reducible refine Below.trans ?_ (Below.mono (by assumption) ?_)) | (with_reducible refine Below.alloc ?_ ?_ _) | (with_reducible refine Below.drew ?_) | (with_reducible refine below_drewN ?_ _) | (with_reducible refine Below.setCell ?_ ?_ _) | (simp only [World.size_alloc, World.size_setCell, World.size_drew, size_drewN]; omega) | omega))
                     · simp only [World.size_alloc, World.size_drew]; omega)
                | (go_at_call 29; with_reducible refine (CX.out _ (HX.out.ext (HEw.out.tr (by (repeat' (first | (with_reducible exact Below.refl _ _) | (with_reducible refine Below.mono (by assumption) ?_) | (with_reducible refine Below.trans ?_ (Below.mono (by assumption) ?_)) | (with_reducible refine Below.alloc ?_ ?_ _) | (with_reducible refine Below.drew ?_) | (with_reducible refine below_drewN ?_ _) | (with_reducible refine Below.setCell ?_ ?_ _) | (simp only [World.size_alloc, World.size_setCell, World.size_drew, size_drewN]; omega) | omega)))))).mono ?_; rintro e w3 ⟨rfl, hb3w⟩; have z3 := hb3w.size; try simp only [World.size_drew] at z3
                   have hE3 : Ext wr w3 := by (repeat' (first | (with_reducible exact Below.refl _ _) | (with_reducible refine Below.mono (by assumption) ?_) | (with_reducible refine Below.trans ?_ (Below.mono (by assumption) ?_)) | (with_reducible refine Below.alloc ?_ ?_ _) | (with_reducible refine Below.drew ?_) | (with_reducible refine below_drewN ?_ _) | (with_reducible refine Below.setCell ?_ ?_ _) | (simp only [World.size_alloc, World.size_setCell, World.size_drew, size_drewN]; omega) | omega)))
                | (go_at_call 29; with_reducible refine (CY.out _ (HX.out.ext (HEw.out.tr (by (repeat' (first | (with_reducible exact Below.refl _ _) | (with_reducible refine Below.mono (by assumption) ?_) | (with_reducible refine Below.trans ?_ (Below.mono (by assumption) ?_)) | (with_reducible refine Below.alloc ?_ ?_ _) | (with_reducible refine Below.drew ?_) | (with_reducible refine below_drewN ?_ _) | (with_reducible refine Below.setCell ?_ ?_ _) | (simp only [World.size_alloc, World.size_setCell, World.size_drew, size_drewN]; omega) | omega)))))).mono ?_; rintro e w4 ⟨rfl, hb4w⟩; have z4 := hb4w.size; try simp only [World.size_drew] at z4
                   have hE4 : Ext wr w4 := by (repeat' (first | (with_reducible exact Below.refl _ _) | (with_reducible refine Below.mono (by assumption) ?_) | (with_reducible refine Below.trans ?_ (Below.mono (by assumption) ?_)) | (with_reducible refine Below.alloc ?_ ?_ _) | (with_reducible refine Below.drew ?_) | (with_reducible refine below_drewN ?_ _) | (with_reducible refine Below.setCell ?_ ?_ _) | (simp only [World.size_alloc, World.size_setCell, World.size_drew, size_drewN]; omega) | omega))))
            have HF := Lib.hid (show _ ∧ _ from ⟨hown', hE'⟩)
            clear hown' hgrow hE' hE3 hE4 hb3w hb4w
            go_wp2
            exact ⟨⟨j + 1, by omega, by go_num, by rw [HWs.out, ← List.append_assoc]; exact HF.out.1, HF.out.2⟩, by simp [intOf]; omega⟩
          · have e : j = o.length - 1 := by omega
            subst e
            have hs := wesR_succ HOk.out (h := h)
            have HS := Lib.hid hs
            have hji : ¬ ((o.length - 1 : Nat) : Int) + 1 < o.length ∨ o.length = 0 := by omega
            clear hs
            go_wp2
            exact ⟨⟨k + 1, by omega, by go_num, by rw [HS.out]; exact HO2.out, HEw.out⟩, by simp [intOf]; omega⟩
      · have hk3 : k = 3 := by omega
        rw [hk3] at hown hLl
        have hki : ¬ ((k : Int) ≤ 2) := by omega
        clear hk3
        have H0 := Lib.hid (show _ ∧ _ from ⟨hown, hE⟩)
        have hd0 : rdesD h R (dnT h 0) = [] := rfl
        obtain ⟨LW, hLW⟩ : ∃ LW, wesR h R 3 = LW := ⟨_, rfl⟩
        rw [hLW] at H0 hLl
        have HLW := Lib.hid hLW
        clear hown hE hLW
        go_wp2
        go_loopw [5, 8] (fun v i W => ∃ n : Nat, n ≤ h.length ∧ i = .int .i64 n ∧ Own3 W w.heap.size 51 v (LW ++ rdesD h R (dnT h n)) ∧ Ext w W) (fun _ i _ => h.length - (intOf i).toNat)
        case atStart => exact ⟨0, Nat.zero_le _, rfl, by rw [hd0, List.append_nil]; exact H0.out.1, H0.out.2⟩
        case round =>
          obtain ⟨n, hn, rfl, hown, hE⟩ := hrel
          clear H0 hd0
          have HO := Lib.hid hown
          have HE := Lib.hid hE
          have hEz := hE.size
          have hdl := rdesD_len H3.out.hist R (dnT h n)
          have hdn := dnT_len h n
          have hh6 := histv_len H3.out.hist
          clear hown
          by_cases hlt : n < h.length
          · obtain ⟨s, ops, dd, A', cap, b, off, hxn, rfl, _, hb0, hOp, c0w, c1w, c2w⟩ := HX.out.at_ hlt
            have htv := histv_txn H3.out.hist _ (List.mem_of_getElem? hxn)
            have hopv := txnv_ops htv
            have hon : ops.length ≤ 6 := ops_le H3.out.hist hxn
            have CF := fun w hx => specFirstReads_ok ⟨s, ops, dd⟩ S A' cap w hx (by simp only; omega) htv
            have hrl := frs_len ops ops.length
            have hro : ∀ (j : Nat) o, (frs ops ops.length)[j]? = some o → opv o = true := fun j o ho => by
              obtain ⟨i, _, hi, _⟩ := (frs_mem (ops := ops) (o := o) ops.length).1 (List.mem_of_getElem? ho)
              exact hopv o (List.mem_of_getElem? hi)
            have hnext : dd = true → rdesD h R (dnT h (n + 1)) = rdesD h R (dnT h n) ++ rdes h R n (frs ops ops.length) := fun e => by
              rw [dnT_succ hxn, if_pos e]
              exact rdesD_snoc hxn
            have hskip : dd = false → rdesD h R (dnT h (n + 1)) = rdesD h R (dnT h n) := fun e => by
              rw [dnT_succ hxn, if_neg (by simp only; rw [e]; simp)]
            have hdb := dnB_some hxn
            simp only at hdb CF
            obtain ⟨rs, hrs9⟩ : ∃ rs, frs ops ops.length = rs := ⟨_, rfl⟩
            rw [hrs9] at CF hrl hro hnext
            have CF := Lib.hid CF
            have HRo := Lib.hid hro
            have HNx := Lib.hid hnext
            have HSk := Lib.hid hskip
            have HOp := Lib.hid hOp
            have c0 := hE.keep hb0 c0w
            have c1 := hE.keep hb0 c1w
            have c2 := hE.keep hb0 c2w
            have hb1 : b < wr.heap.size := by omega
            have hni : (n : Int) < h.length := by omega
            clear htv hopv hro hnext hskip hOp hxn hrs9 hE
            go_wp2_with (fail)
            go_at_call 30
            refine (CF.out _ (HOp.out.ext (HE.out.tr (by (repeat' (first | (with_reducible exact Below.refl _ _) | (with_reducible refine Below.mono (by assumption) ?_) | (with_reducible refine Below.trans ?_ (Below.mono (by assumption) ?_)) | (with_reducible refine Below.alloc ?_ ?_ _) | (with_reducible refine Below.drew ?_) | (with_reducible refine below_drewN ?_ _) | (with_reducible refine Below.setCell ?_ ?_ _) | (simp only [World.size_alloc, World.size_setCell, World.size_drew, size_drewN]; omega) | omega)))))).mono ?_
            rintro e w3 ⟨A3, c3, rfl, hF, _, hb⟩
            obtain ⟨hc, hf, hz, hs⟩ := bcell hb
            (try simp only [World.size_alloc, World.size_setCell, World.size_drew, size_drewN] at hs); (first | have l0 := Nat.lt_of_lt_of_le l0 (show _ ≤ w3.heap.size by omega) | have l0 : w.heap.size < w3.heap.size := (by omega) | skip); (try have l0e := Nat.le_of_lt l0); (try have l0f := Nat.le_add_right_of_le (k := 1) l0e); (try have l1 := Nat.lt_of_lt_of_le l1 (show _ ≤ w3.heap.size by omega)); (try have l1e := Nat.le_of_lt l1); (try have l1f := Nat.le_add_right_of_le (k := 1) l1e); (try have l2 := Nat.lt_of_lt_of_le l2 (show _ ≤ w3.heap.size by omega)); (try have l2e := Nat.le_of_lt l2); (try have l2f := Nat.le_add_right_of_le (k := 1) l2e); (try have l3 := Nat.lt_of_lt_of_le l3 (show _ ≤ w3.heap.size by omega)); (try have l3e := Nat.le_of_lt l3); (try have l3f := Nat.le_add_right_of_le (k := 1) l3e)
            have H0 := Lib.hid (show Own3 w3 w.heap.size 51 u5 (LW ++ rdesD h R (dnT h n)) ∧ Ext w w3 ∧ Ops (fun b => wr.heap.size ≤ b ∧ b < w3.heap.size) w3 A3 rs ∧ Off u5 wr.heap.size w3.heap.size from ⟨HO.out.ext (by (repeat' (first | (with_reducible exact Below.refl _ _) | (with_reducible refine Below.mono (by assumption) ?_) | (with_reducible refine Below.trans ?_ (Below.mono (by assumption) ?_)) | (with_reducible refine Below.alloc ?_ ?_ _) | (with_reducible refine Below.drew ?_) | (with_reducible refine below_drewN ?_ _) | (with_reducible refine Below.setCell ?_ ?_ _) | (simp only [World.size_alloc, World.size_setCell, World.size_drew, size_drewN]; omega) | omega))), HE.out.tr (by (repeat' (first | (with_reducible exact Below.refl _ _) | (with_reducible refine Below.mono (by assumption) ?_) | (with_reducible refine Below.trans ?_ (Below.mono (by assumption) ?_)) | (with_reducible refine Below.alloc ?_ ?_ _) | (with_reducible refine Below.drew ?_) | (with_reducible refine below_drewN ?_ _) | (with_reducible refine Below.setCell ?_ ?_ _) | (simp only [World.size_alloc, World.size_setCell, World.size_drew, size_drewN]; omega) | omega))), ops_within_hi (hF.mono (fun _ h _ => by first | exact h | (simp only [World.size_drew] at h; exact h)) (fun _ _ h => h)), Off.of_lt (fun g hg => (own3_lt HO.out g hg).2)⟩)
            have hz3 := hb.size
            clear hF hb hc hf hz HO CF
            go_wp2
            obtain ⟨lo, hlo⟩ : ∃ lo, wr.heap.size = lo := ⟨_, rfl⟩
            rw [hlo] at H0
            go_loopw [5, 10] (fun v i W => ∃ j : Nat, j ≤ rs.length ∧ (dd = false → j = 0) ∧ i = .int .i64 j ∧ Own3 W w.heap.size 51 v (LW ++ rdesD h R (dnT h n) ++ rdes h R n (rs.take j)) ∧ Ext w W ∧ Ops (fun b => lo ≤ b ∧ b < w3.heap.size) W A3 rs ∧ Off v lo w3.heap.size ∧ w3.heap.size ≤ W.heap.size) (fun _ i _ => rs.length - (intOf i).toNat)
            case atStart => exact ⟨0, Nat.zero_le _, fun _ => rfl, rfl, by simpa [rdes] using H0.out.1, H0.out.2.1, H0.out.2.2.1, H0.out.2.2.2, Nat.le_refl _⟩
            case round =>
              obtain ⟨j, hj, hd0, rfl, hown, hE, hRs, hoff, hzz⟩ := hrel
              clear H0
              have HO := Lib.hid hown
              have HRs := Lib.hid hRs
              have HOf := Lib.hid hoff
              have HE2 := Lib.hid hE
              have d2 := hE.keep hb0 c2w
              have hb2 : b < wr.heap.size := by have := hE.size; omega
              have hEz2 := hE.size
              clear hown hoff
              by_cases hlt2 : j < rs.length
              rotate_left
              · obtain rfl : j = rs.length := by omega
                have hfin : LW ++ rdesD h R (dnT h n) ++ rdes h R n (rs.take rs.length) = LW ++ rdesD h R (dnT h (n + 1)) := by
                  rw [List.take_length]
                  cases dd with
                  | true => rw [HNx.out rfl, List.append_assoc]
                  | false =>
                    have h0 : rs = [] := List.eq_nil_of_length_eq_zero (hd0 rfl)
                    rw [HSk.out rfl, h0]
                    simp [rdes]
                have HFi := Lib.hid hfin
                clear hfin hd0
                go_wp2
                go_roundw
                case rel => exact ⟨n + 1, by omega, by go_num, by rw [← HFi.out]; exact HO.out, HE2.out⟩
                case measure => simp [intOf]; omega
              · cases hdd : dd with
                | false =>
                  have hj0 : j = 0 := hd0 hdd
                  subst hdd
                  subst hj0
                  have hfin : LW ++ rdesD h R (dnT h n) ++ rdes h R n (rs.take 0) = LW ++ rdesD h R (dnT h (n + 1)) := by
                    rw [HSk.out rfl]
                    simp [rdes]
                  have HFi := Lib.hid hfin
                  clear hfin hd0
                  go_wp2
                  go_roundw
                  case rel => exact ⟨n + 1, by omega, by go_num, by rw [← HFi.out]; exact HO.out, HE2.out⟩
                  case measure => simp [intOf]; omega
                | true =>
                  subst hdd
                  clear hd0 hE
                  obtain ⟨x0, x1, x2, b3, off3, hxj, rfl, hbR, hb3, g0, g1, g2⟩ := hRs.at_ hlt2
                  have hov := HRo.out j _ hxj
                  have htk := rdes_take (h := h) (R := R) (n := (n : Int)) hxj
                  have hkey : 0 ≤ x1 ∧ x1 ≤ 2 := by
                    simp only [opv, inB, Bool.and_eq_true, decide_eq_true_eq] at hov
                    omega
                  obtain ⟨y, rfl⟩ := Int.eq_ofNat_of_zero_le hkey.1
                  have hy3 : y < 3 := by omega
                  have hji : (j : Int) < rs.length := by omega
                  have hj0 : (0 : Int) ≤ (j : Int) := by omega
                  obtain ⟨o, Ao, capo, bR, offR, hok, rfl, _, hbRw, hIo, r0w⟩ := HR.out.at_ (i := y) (by omega)
                  have hol := H3.out.row_le hok
                  have hgd : R.getD y [] = o := by rw [List.getD_eq_getElem?_getD, hok, Option.getD_some]
                  have hnextf := fun v (hv : nxtV o x2 = some v) => H3.out.next hy3 (v := x2) (x := v) (by rw [hgd]; exact hv)
                  have CX := fun w hx => CW.out (y : Int) x2 w hx
                  have hrange := wrN_range h (y : Int) x2
                  have hrde : rde h R (n : Int) ⟨x0, (y : Int), x2⟩ = putV h (wrN h (y : Int) x2) n 2 ++ overV h n (y : Int) (nxtV o x2) := by
                    unfold rde
                    simp only [Int.toNat_natCast, hgd]
                  rw [hrde] at htk
                  obtain ⟨W1, hW1⟩ : ∃ W1, wrN h (y : Int) x2 = W1 := ⟨_, rfl⟩
                  rw [hW1] at CX hrange htk
                  have hfin : ∀ T, overV h n (y : Int) (nxtV o x2) = T → LW ++ rdesD h R (dnT h n) ++ rdes h R n (rs.take (j + 1)) = (LW ++ rdesD h R (dnT h n) ++ rdes h R n (rs.take j) ++ putV h W1 n 2) ++ T := fun T hT => by
                    rw [htk, hT]
                    simp only [List.append_assoc]
                  have hlen := rdes_len h R n (rs.take j)
                  rw [List.length_take] at hlen
                  have hlen1 : (LW ++ rdesD h R (dnT h n) ++ rdes h R n (rs.take j)).length ≤ 1000000 := by
                    simp only [List.length_append]
                    omega
                  generalize LW ++ rdesD h R (dnT h n) ++ rdes h R n (rs.take j) = L1 at HO hfin hlen1
                  have hpl := putV_len h W1 n 2
                  have HFin := Lib.hid hfin
                  have HNf := Lib.hid hnextf
                  have CX := Lib.hid CX
                  have HIo := Lib.hid hIo
                  have HRg := Lib.hid hrange
                  have HDb := Lib.hid hdb
                  have HXj := Lib.hid hxj
                  clear hfin hnextf hrange htk hrde hIo hxj hok hov hW1 hlen hgd hRs hbR hdb
                  go_upto_region 18 with (fail)
                  go_region_held3 (fun V => V.cell? ⟨b3, off3 + j * 3 + 1, none⟩ = some (.int .i64 (y : Int)) ∧ V.cell? ⟨b3, off3 + j * 3 + 2, none⟩ = some (.int .i64 x2)) (first | go_keep | exact ⟨hE4.keep hb3 g1, hE4.keep hb3 g2⟩)
                    ((go_at_call 29; with_reducible refine (CX.out _ (HX.out.ext (HE2.out.tr (by (repeat' (first | (with_reducible exact Below.refl _ _) | (with_reducible refine Below.mono (by assumption) ?_) | (with_reducible refine Below.trans ?_ (Below.mono (by assumption) ?_)) | (with_reducible refine Below.alloc ?_ ?_ _) | (with_reducible refine Below.drew ?_) | (with_reducible refine below_drewN ?_ _) | (with_reducible refine Below.setCell ?_ ?_ _) | (simp only [World.size_alloc, World.size_setCell, World.size_drew, size_drewN]; omega) | omega)))))).mono ?_; rintro e w4 ⟨rfl, hb4⟩; have z4 := hb4.size; try simp only [World.size_drew] at z4
                      have hE4 : Ext wr w4 := by (repeat' (first | (with_reducible exact Below.refl _ _) | (with_reducible refine Below.mono (by assumption) ?_) | (with_reducible refine Below.trans ?_ (Below.mono (by assumption) ?_)) | (with_reducible refine Below.alloc ?_ ?_ _) | (with_reducible refine Below.drew ?_) | (with_reducible refine below_drewN ?_ _) | (with_reducible refine Below.setCell ?_ ?_ _) | (simp only [World.size_alloc, World.size_setCell, World.size_drew, size_drewN]; omega) | omega))))
                  have H4 := Lib.hid (show Own3 w4 w.heap.size 51 u5 L1 ∧ Ext w w4 ∧ Ops (fun b => lo ≤ b ∧ b < w3.heap.size) w4 _ rs ∧ Off u5 lo w3.heap.size ∧ w3.heap.size ≤ w4.heap.size from ⟨HO.out.ext hE4, HE2.out.tr hE4, HRs.out.ext hE4, HOf.out, by omega⟩)
                  have zz4 : w.heap.size ≤ w4.heap.size := by omega
                  clear hE4 hb4 HO HRs HE2 HOf g0 g1 g2 d2
                  go_upto_region 19 with (fail)
                  go_cut [107] from 69 to 154 (fun x W => x = .bool (dnB h W1 && decide (W1 ≠ n)) ∧ W = w4)
                  case first =>
                    rcases HRg.out with hneg | ⟨m, hml, hm⟩
                    · subst hneg
                      have e : (dnB h (-1) && decide ((-1 : Int) ≠ n)) = false := by simp [dnB_neg]
                      have HEq := Lib.hid e
                      clear e
                      go_wp2
                      go_meet
                      exact ⟨by rw [HEq.out], rfl⟩
                    · subst hm
                      obtain ⟨s2, ops2, dm, A2, cap2, b2, off2, hxm, e2, _, hbm, _, m0w, m1w, m2w⟩ := HX.out.at_ hml
                      simp only [Option.some.injEq, Addr.mk.injEq] at e2
                      obtain ⟨rfl, rfl, _⟩ := e2
                      have hdm := dnB_some hxm
                      simp only at hdm
                      have m2 := H4.out.2.1.keep hbm m2w
                      have hmi : (m : Int) < h.length := by omega
                      have hm0 : (0 : Int) ≤ (m : Int) := by omega
                      have HDm := Lib.hid hdm
                      clear hxm hdm
                      cases dm with
                      | false =>
                        go_wp2
                        go_meet
                        exact ⟨by rw [HDm.out]; rfl, rfl⟩
                      | true =>
                        go_wp2
                        go_meet
                        exact ⟨by rw [HDm.out]; by_cases hq : (m : Int) = n <;> simp [hq], rfl⟩
                  case rest =>
                  obtain ⟨rfl, rfl⟩ := hcut
                  go_upto_if 107 with (fail)
                  go_cut [5] from 69 to 154 (fun v W => Own3 W w.heap.size 51 v (L1 ++ putV h W1 n 2) ∧ Ext w W ∧ Ops (fun b => lo ≤ b ∧ b < w3.heap.size) W (some ⟨b3, off3, none⟩) rs ∧ Off v lo w3.heap.size ∧ w3.heap.size ≤ W.heap.size)
                  case first =>
                    cases hcb : (dnB h W1 && decide (W1 ≠ n)) with
                    | false =>
                      have e : putV h W1 n 2 = [] := by
                        unfold putV
                        rw [if_neg]
                        rintro ⟨h1, _, h2⟩
                        rw [h1, decide_eq_true h2] at hcb
                        cases hcb
                      have HEq := Lib.hid e
                      clear hcb e
                      go_wp2
                      go_meet
                      rw [HEq.out, List.append_nil]
                      exact ⟨H4.out.1, H4.out.2.1, H4.out.2.2.1, H4.out.2.2.2.1, H4.out.2.2.2.2⟩
                    | true =>
                      simp only [Bool.and_eq_true, decide_eq_true_eq] at hcb
                      have e : putV h W1 n 2 = [⟨W1, n, 2⟩] := by unfold putV; rw [if_pos ⟨hcb.1, HDb.out, hcb.2⟩]
                      have HEq := Lib.hid e
                      clear hcb e
                      go_wp2_with (at_builtin; refine wpList_append3_at _ rfl _ _ 26 rfl w.heap.size 51 Tryz.underlying26 infoEdgeS rfl _ L1 rfl (H4.out.1.ext (by (repeat' (first | (with_reducible exact Below.refl _ _) | (with_reducible refine Below.mono (by assumption) ?_) | (with_reducible refine Below.trans ?_ (Below.mono (by assumption) ?_)) | (with_reducible refine Below.alloc ?_ ?_ _) | (with_reducible refine Below.drew ?_) | (with_reducible refine below_drewN ?_ _) | (with_reducible refine Below.setCell ?_ ?_ _) | (simp only [World.size_alloc, World.size_setCell, World.size_drew, size_drewN]; omega) | omega)))) _ W1 n 2 rfl ((lit_at _ _ _ 0).trans rfl) ((lit_at _ _ _ 1).trans rfl) ((lit_at _ _ _ 2).trans rfl) ?_ ?_ ?_)
                      all_goals try (first | omega | (simp only [World.size_alloc, size_drewN]; omega) | (go_simp; done))
                      intro v' w' hown' hgrow hv'
                      have ed : Ext wc (wc.alloc (.cells #[.int .i64 W1, .int .i64 n, .int .i64 2] 51)) := by (repeat' (first | (with_reducible exact Below.refl _ _) | (with_reducible refine Below.mono (by assumption) ?_) | (with_reducible refine Below.trans ?_ (Below.mono (by assumption) ?_)) | (with_reducible refine Below.alloc ?_ ?_ _) | (with_reducible refine Below.drew ?_) | (with_reducible refine below_drewN ?_ _) | (with_reducible refine Below.setCell ?_ ?_ _) | (simp only [World.size_alloc, World.size_setCell, World.size_drew, size_drewN]; omega) | omega))
                      have hE' : Ext w w' := Below.grown (H4.out.2.1.tr ed) hgrow (H4.out.2.1.tr ed).size (fun g hg => (own3_lt H4.out.1 g hg).1)
                      have hz' : w3.heap.size ≤ w'.heap.size := by have := hgrow.size; have := ed.size; have := H4.out.2.2.2.2; omega
                      have hRs' := (H4.out.2.2.1.ext ed).off hgrow H4.out.2.2.2.1
                      have hOf' := H4.out.2.2.2.1.step hv' (by have := ed.size; have := H4.out.2.2.2.2; omega)
                      have HF := Lib.hid (show _ ∧ _ ∧ _ ∧ _ ∧ _ from ⟨hown', hE', hRs', hOf', hz'⟩)
                      clear hown' hE' hRs' hOf' hz' hgrow hv' ed
                      go_wp2
                      go_meet
                      rw [HEq.out]
                      exact ⟨HF.out.1, HF.out.2.1, HF.out.2.2.1, HF.out.2.2.2.1, HF.out.2.2.2.2⟩
                  case rest =>
                    obtain ⟨hown, hE, hRs, hoff, hzz⟩ := hcut
                    clear H4
                    have hl2 : (L1 ++ putV h W1 n 2).length ≤ 1048576 := by rw [List.length_append]; omega
                    have hfin := HFin.out
                    generalize L1 ++ putV h W1 n 2 = L2 at hown hl2 hfin
                    have HFin := Lib.hid hfin
                    have HO := Lib.hid hown
                    have HE := Lib.hid hE
                    have HRs := Lib.hid hRs
                    have HOf := Lib.hid hoff
                    have hEz3 := hE.size
                    obtain ⟨x0', x1', x2', b3', off3', hxj, e3, _, hb3c, g0, g1, g2⟩ := hRs.at_ hlt2
                    simp only [Option.some.injEq, Addr.mk.injEq] at e3
                    obtain ⟨rfl, rfl, _⟩ := e3
                    rw [HXj.out] at hxj
                    cases hxj
                    have r0 := hE.keep hbRw r0w
                    have hbR3 : bR < wc.heap.size := by omega
                    have hyR : (y : Int) < R.length := by omega
                    have hy0 : (0 : Int) ≤ (y : Int) := by omega
                    have C8 := fun W hx => l8Next_c o x2 S' Ao capo W hx (by omega)
                    obtain ⟨NX, hNX⟩ : ∃ NX, (nxtV o x2).getD (-1) = NX := ⟨_, rfl⟩
                    rw [hNX] at C8
                    have C8 := Lib.hid C8
                    have HNX := Lib.hid hNX
                    clear hown hE hRs hoff hfin hNX
                    go_upto_region 21 with (fail)
                    go_region_held3 (fun V => V.cell? ⟨b3, off3 + j * 3 + 1, none⟩ = some (.int .i64 (y : Int)) ∧ V.cell? ⟨b3, off3 + j * 3 + 2, none⟩ = some (.int .i64 x2) ∧ V.cell? ⟨bR, offR + y, none⟩ = some (.slice Ao o.length capo)) (first | go_keep | exact ⟨hE5.keep hb3c g1, hE5.keep hb3c g2, hE5.keep hbR3 r0⟩)
                      ((go_at_call 31; with_reducible refine (C8.out _ (HIo.out.ext (HE.out.tr (by (repeat' (first | (with_reducible exact Below.refl _ _) | (with_reducible refine Below.mono (by assumption) ?_) | (with_reducible refine Below.trans ?_ (Below.mono (by assumption) ?_)) | (with_reducible refine Below.alloc ?_ ?_ _) | (with_reducible refine Below.drew ?_) | (with_reducible refine below_drewN ?_ _) | (with_reducible refine Below.setCell ?_ ?_ _) | (simp only [World.size_alloc, World.size_setCell, World.size_drew, size_drewN]; omega) | omega)))))).mono ?_; rintro e w5 ⟨rfl, hb5⟩; have z5 := hb5.size; try simp only [World.size_drew] at z5
                        have hE5 : Ext wc w5 := by (repeat' (first | (with_reducible exact Below.refl _ _) | (with_reducible refine Below.mono (by assumption) ?_) | (with_reducible refine Below.trans ?_ (Below.mono (by assumption) ?_)) | (with_reducible refine Below.alloc ?_ ?_ _) | (with_reducible refine Below.drew ?_) | (with_reducible refine below_drewN ?_ _) | (with_reducible refine Below.setCell ?_ ?_ _) | (simp only [World.size_alloc, World.size_setCell, World.size_drew, size_drewN]; omega) | omega))))
                    have hHO := HO.out.ext hE5
                    have hHE := HE.out.tr hE5
                    have hHR := HRs.out.ext hE5
                    have k1 := hE5.keep hb3c g1
                    have hb35 : b3 < w5.heap.size := by omega
                    have H5 := Lib.hid (show _ ∧ _ ∧ _ from ⟨hHO, hHE, hHR⟩)
                    have hz5 : w3.heap.size ≤ w5.heap.size := by omega
                    have hz6 : w.heap.size ≤ w5.heap.size := by omega
                    clear hHO hHE hHR hE5 hb5 g0 g1 g2 r0 HO HE HRs
                    cases hn9 : nxtV o x2 with
                    | none =>
                      have hf := HFin.out [] (by rw [hn9]; rfl)
                      have hneg : NX = -1 := by rw [← HNX.out, hn9]; rfl
                      have HF9 := Lib.hid hf
                      subst hneg
                      clear hf hn9 HFin HNX
                      go_wp2
                      go_roundw
                      case rel => exact ⟨j + 1, by omega, (fun e => by cases e), by go_num, by rw [HF9.out, List.append_nil]; exact H5.out.1, H5.out.2.1, H5.out.2.2, HOf.out, hz5⟩
                      case measure => simp [intOf]; omega
                    | some v =>
                      obtain ⟨hdv, hv0⟩ := HNf.out v hn9
                      have hvv : NX = v := by rw [← HNX.out, hn9]; rfl
                      subst hvv
                      have CV := fun W hx => CW.out (y : Int) NX W hx
                      have hf := HFin.out (putV h n (wrN h (y : Int) NX) 3) (by rw [hn9]; rfl)
                      generalize wrN h (y : Int) NX = W2 at hdv CV hf
                      have CV := Lib.hid CV
                      have HF9 := Lib.hid hf
                      have HDv := Lib.hid hdv
                      clear hf hn9 HFin HNX HNf hdv
                      go_wp2_with (fail)
                      go_at_call 29
                      refine (CV.out _ (HX.out.ext (H5.out.2.1.tr (by (repeat' (first | (with_reducible exact Below.refl _ _) | (with_reducible refine Below.mono (by assumption) ?_) | (with_reducible refine Below.trans ?_ (Below.mono (by assumption) ?_)) | (with_reducible refine Below.alloc ?_ ?_ _) | (with_reducible refine Below.drew ?_) | (with_reducible refine below_drewN ?_ _) | (with_reducible refine Below.setCell ?_ ?_ _) | (simp only [World.size_alloc, World.size_setCell, World.size_drew, size_drewN]; omega) | omega)))))).mono ?_
                      rintro e w6 ⟨rfl, hb⟩
                      obtain ⟨hc, hf, hz, hs⟩ := bcell hb
                      (try simp only [World.size_alloc, World.size_setCell, World.size_drew, size_drewN] at hs); (first | have l0 := Nat.lt_of_lt_of_le l0 (show _ ≤ w6.heap.size by omega) | have l0 : w.heap.size < w6.heap.size := (by omega) | skip); (try have l0e := Nat.le_of_lt l0); (try have l0f := Nat.le_add_right_of_le (k := 1) l0e); (try have l1 := Nat.lt_of_lt_of_le l1 (show _ ≤ w6.heap.size by omega)); (try have l1e := Nat.le_of_lt l1); (try have l1f := Nat.le_add_right_of_le (k := 1) l1e); (try have l2 := Nat.lt_of_lt_of_le l2 (show _ ≤ w6.heap.size by omega)); (try have l2e := Nat.le_of_lt l2); (try have l2f := Nat.le_add_right_of_le (k := 1) l2e); (try have l3 := Nat.lt_of_lt_of_le l3 (show _ ≤ w6.heap.size by omega)); (try have l3e := Nat.le_of_lt l3); (try have l3f := Nat.le_add_right_of_le (k := 1) l3e)
                      have hE6 : Ext w5 w6 := by (repeat' (first | (with_reducible exact Below.refl _ _) | (with_reducible refine Below.mono (by assumption) ?_) | (with_reducible refine Below.trans ?_ (Below.mono (by assumption) ?_)) | (with_reducible refine Below.alloc ?_ ?_ _) | (with_reducible refine Below.drew ?_) | (with_reducible refine below_drewN ?_ _) | (with_reducible refine Below.setCell ?_ ?_ _) | (simp only [World.size_alloc, World.size_setCell, World.size_drew, size_drewN]; omega) | omega))
                      have k1' := hE6.keep hb35 k1
                      have hb36 : b3 < w6.heap.size := by have := hE6.size; omega
                      have hE6z := hE6.size
                      have HE6 := Lib.hid hE6
                      clear hb hc hf hz hE6
                      by_cases hWn : W2 = n
                      · subst hWn
                        have e : putV h n n 3 = [] := by simp [putV]
                        have HEq := Lib.hid e
                        have hnn : ((n : Int) != (n : Int)) = false := by simp
                        clear e
                        go_wp2
                        go_roundw
                        case rel => exact ⟨j + 1, by omega, (fun e => by cases e), by go_num, by rw [HF9.out, HEq.out, List.append_nil]; exact H5.out.1.ext HE6.out, H5.out.2.1.tr HE6.out, H5.out.2.2.ext HE6.out, HOf.out, by omega⟩
                        case measure => simp [intOf]; omega
                      · have e : putV h n W2 3 = [⟨n, W2, 3⟩] := by unfold putV; rw [if_pos ⟨HDb.out, HDv.out, fun e => hWn e.symm⟩]
                        have HEq := Lib.hid e
                        have hnn : (W2 != (n : Int)) = true := by simpa using hWn
                        clear e
                        go_wp2_with (fail)
                        go_at_call 29
                        refine (CV.out _ (HX.out.ext ((H5.out.2.1.tr HE6.out).tr (by (repeat' (first | (with_reducible exact Below.refl _ _) | (with_reducible refine Below.mono (by assumption) ?_) | (with_reducible refine Below.trans ?_ (Below.mono (by assumption) ?_)) | (with_reducible refine Below.alloc ?_ ?_ _) | (with_reducible refine Below.drew ?_) | (with_reducible refine below_drewN ?_ _) | (with_reducible refine Below.setCell ?_ ?_ _) | (simp only [World.size_alloc, World.size_setCell, World.size_drew, size_drewN]; omega) | omega)))))).mono ?_
                        rintro e w7 ⟨rfl, hb⟩
                        obtain ⟨hc, hf, hz, hs⟩ := bcell hb
                        (try simp only [World.size_alloc, World.size_setCell, World.size_drew, size_drewN] at hs); (first | have l0 := Nat.lt_of_lt_of_le l0 (show _ ≤ w7.heap.size by omega) | have l0 : w.heap.size < w7.heap.size := (by omega) | skip); (try have l0e := Nat.le_of_lt l0); (try have l0f := Nat.le_add_right_of_le (k := 1) l0e); (try have l1 := Nat.lt_of_lt_of_le l1 (show _ ≤ w7.heap.size by omega)); (try have l1e := Nat.le_of_lt l1); (try have l1f := Nat.le_add_right_of_le (k := 1) l1e); (try have l2 := Nat.lt_of_lt_of_le l2 (show _ ≤ w7.heap.size by omega)); (try have l2e := Nat.le_of_lt l2); (try have l2f := Nat.le_add_right_of_le (k := 1) l2e); (try have l3 := Nat.lt_of_lt_of_le l3 (show _ ≤ w7.heap.size by omega)); (try have l3e := Nat.le_of_lt l3); (try have l3f := Nat.le_add_right_of_le (k := 1) l3e)
                        have hE7 : Ext w6 w7 := by (repeat' (first | (with_reducible exact Below.refl _ _) | (with_reducible refine Below.mono (by assumption) ?_) | (with_reducible refine Below.trans ?_ (Below.mono (by assumption) ?_)) | (with_reducible refine Below.alloc ?_ ?_ _) | (with_reducible refine Below.drew ?_) | (with_reducible refine below_drewN ?_ _) | (with_reducible refine Below.setCell ?_ ?_ _) | (simp only [World.size_alloc, World.size_setCell, World.size_drew, size_drewN]; omega) | omega))
                        have hE7z := hE7.size
                        have H7 := Lib.hid (show _ ∧ _ ∧ _ from ⟨(H5.out.1.ext HE6.out).ext hE7, (H5.out.2.1.tr HE6.out).tr hE7, (H5.out.2.2.ext HE6.out).ext hE7⟩)
                        clear hb hc hf hz hE7 H5
                        go_wp2_with (at_builtin; refine wpList_append3_at _ rfl _ _ 26 rfl w.heap.size 51 Tryz.underlying26 infoEdgeS rfl _ L2 rfl (H7.out.1.ext (by (repeat' (first | (with_reducible exact Below.refl _ _) | (with_reducible refine Below.mono (by assumption) ?_) | (with_reducible refine Below.trans ?_ (Below.mono (by assumption) ?_)) | (with_reducible refine Below.alloc ?_ ?_ _) | (with_reducible refine Below.drew ?_) | (with_reducible refine below_drewN ?_ _) | (with_reducible refine Below.setCell ?_ ?_ _) | (simp only [World.size_alloc, World.size_setCell, World.size_drew, size_drewN]; omega) | omega)))) _ n W2 3 rfl ((lit_at _ _ _ 0).trans rfl) ((lit_at _ _ _ 1).trans rfl) ((lit_at _ _ _ 2).trans rfl) ?_ ?_ ?_)
                        all_goals try (first | omega | (simp only [World.size_alloc, size_drewN]; omega) | (go_simp; done))
                        intro v' w' hown' hgrow hv'
                        have ed : Ext w7 (w7.alloc (.cells #[.int .i64 n, .int .i64 W2, .int .i64 3] 51)) := by (repeat' (first | (with_reducible exact Below.refl _ _) | (with_reducible refine Below.mono (by assumption) ?_) | (with_reducible refine Below.trans ?_ (Below.mono (by assumption) ?_)) | (with_reducible refine Below.alloc ?_ ?_ _) | (with_reducible refine Below.drew ?_) | (with_reducible refine below_drewN ?_ _) | (with_reducible refine Below.setCell ?_ ?_ _) | (simp only [World.size_alloc, World.size_setCell, World.size_drew, size_drewN]; omega) | omega))
                        have hE' : Ext w w' := Below.grown (H7.out.2.1.tr ed) hgrow (H7.out.2.1.tr ed).size (fun g hg => (own3_lt H7.out.1 g hg).1)
                        have hz' : w3.heap.size ≤ w'.heap.size := by have := hgrow.size; have := ed.size; omega
                        have hRs' := (H7.out.2.2.ext ed).off hgrow HOf.out
                        have hOf' := HOf.out.step hv' (by have := ed.size; omega)
                        have HF := Lib.hid (show _ ∧ _ ∧ _ ∧ _ ∧ _ from ⟨hown', hE', hRs', hOf', hz'⟩)
                        clear hown' hE' hRs' hOf' hz' hgrow hv' ed
                        go_wp2
                        go_roundw
                        case rel => exact ⟨j + 1, by omega, (fun e => by cases e), by go_num, by rw [HF9.out, HEq.out]; exact HF.out.1, HF.out.2.1, HF.out.2.2.1, HF.out.2.2.2.1, HF.out.2.2.2.2⟩
                        case measure => simp [intOf]; omega
          · obtain rfl : n = h.length := by omega
            have hraw : LW ++ rdesD h R (dnT h h.length) = rawE h R := by rw [← HLW.out]; rfl
            rw [hraw] at HO
            obtain ⟨A9, c9, rfl, hO9, _⟩ := HO.out.form
            have hrl : (rawE h R).length ≤ 1048576 := by rw [← hraw, List.length_append]; omega
            have CS := Lib.hid (fun W hx => l8Sorted_c (rawE h R) (fun b => w.heap.size ≤ b) A9 c9 W hx hrl)
            have HO9 := Lib.hid hO9
            clear hraw hO9 HO hdl hdn hrl
            go_wp2_with (fail)
            go_at_call 32
            refine (CS.out _ (HO9.out.ext (by (repeat' (first | (with_reducible exact Below.refl _ _) | (with_reducible refine Below.mono (by assumption) ?_) | (with_reducible refine Below.trans ?_ (Below.mono (by assumption) ?_)) | (with_reducible refine Below.alloc ?_ ?_ _) | (with_reducible refine Below.drew ?_) | (with_reducible refine below_drewN ?_ _) | (with_reducible refine Below.setCell ?_ ?_ _) | (simp only [World.size_alloc, World.size_setCell, World.size_drew, size_drewN]; omega) | omega))))).mono ?_
            rintro e w9 ⟨L, hU, A5, c5, rfl, hO5, hf5, hb⟩
            obtain ⟨hc, hf, hz, hs⟩ := bcell hb
            (try simp only [World.size_alloc, World.size_setCell, World.size_drew, size_drewN] at hs); (first | have l0 := Nat.lt_of_lt_of_le l0 (show _ ≤ w9.heap.size by omega) | have l0 : w.heap.size < w9.heap.size := (by omega) | skip); (try have l0e := Nat.le_of_lt l0); (try have l0f := Nat.le_add_right_of_le (k := 1) l0e); (try have l1 := Nat.lt_of_lt_of_le l1 (show _ ≤ w9.heap.size by omega)); (try have l1e := Nat.le_of_lt l1); (try have l1f := Nat.le_add_right_of_le (k := 1) l1e); (try have l2 := Nat.lt_of_lt_of_le l2 (show _ ≤ w9.heap.size by omega)); (try have l2e := Nat.le_of_lt l2); (try have l2f := Nat.le_add_right_of_le (k := 1) l2e); (try have l3 := Nat.lt_of_lt_of_le l3 (show _ ≤ w9.heap.size by omega)); (try have l3e := Nat.le_of_lt l3); (try have l3f := Nat.le_add_right_of_le (k := 1) l3e)
            have e := edgesV_spec HV.out hU
            subst e
            have HR9 := Lib.hid (show Fresh (edgesV h R) w (.returned (.slice A5 (edgesV h R).length c5)) w9 from ⟨A5, c5, rfl, hO5.mono (fun b h _ => Nat.le_trans hEz h) (fun _ _ h => h), (fun a ha => by have := hf5 a ha; exact ⟨by omega, this.2⟩), HE.out.tr hb⟩)
            clear hU hO5 hf5 hb
            go_wp2
            go_ret
            exact HR9.out
end Go.Proofs.YtdohbmegkkkchaaGreat
