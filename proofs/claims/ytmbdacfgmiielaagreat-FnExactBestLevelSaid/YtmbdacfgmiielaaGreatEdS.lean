/-
  Contracts of the reference's helpers of EdgesOf: the value behind another, a sorted list of edges.
-/
import Derived.Test.YtmbdacfgmiielaaGreatEd
import Derived.Test.YtmbdacfgmiielaaGreatSesI
namespace Go.Proofs.YtmbdacfgmiielaaGreat
set_option linter.unusedSimpArgs false
set_option linter.unusedVariables false
set_option maxRecDepth 100000
open Go.RowKit

theorem nxtV_some {o : List Int} {v x : Int} {k : Nat} (hv : v ≠ 0) (hno : ∀ j, j < k → o[j]? ≠ some v) (hk : o[k]? = some v) (hx : o[k + 1]? = some x) : nxtV o v = some x := by
  unfold nxtV
  rw [if_neg hv]
  have : o.idxOf? v = some k := by
    rw [List.idxOf?, List.findIdx?_eq_some_iff_getElem]
    obtain ⟨hl, he⟩ := List.getElem?_eq_some_iff.1 hk
    refine ⟨hl, by simpa using he, fun j hj => ?_⟩
    have := hno j hj
    rw [List.getElem?_eq_getElem (by omega)] at this
    simpa using this
  rw [this]
  exact hx
theorem nxtV_none {o : List Int} {v : Int} (hv : v ≠ 0) (hno : ∀ j, j + 1 < o.length → o[j]? ≠ some v) : nxtV o v = none := by
  unfold nxtV
  rw [if_neg hv]
  cases h : o.idxOf? v with
  | none => rfl
  | some i =>
    rw [List.idxOf?, List.findIdx?_eq_some_iff_getElem] at h
    obtain ⟨hl, he, _⟩ := h
    have := hno i
    rw [List.getElem?_eq_getElem hl] at this
    simp only
    refine List.getElem?_eq_none ?_
    rcases Nat.lt_or_ge (i + 1) o.length with h1 | h1
    · exact absurd (by simpa using he) (fun e => this h1 (by rw [e]))
    · exact h1
set_option maxHeartbeats 2000000 in
theorem l8Next_c (o : List Int) (v : Int) (S : Nat → Prop) (A : Option Addr) (c : Nat) (w : World) (hx : Ints S w A o) (hl : o.length ≤ 1048576) :
    Calls Tryz.prog 62 #[.slice A o.length c, .int .i64 v] w fun e w' => e = .returned (.int .i64 ((nxtV o v).getD (-1))) ∧ Ext w w' := by
  by_cases hv : v = 0
  · subst hv
    by_cases h0 : 0 < o.length
    · obtain ⟨x, b, off, hxk, rfl, _, hb0, cv⟩ := hx.at_ h0
      have e : (nxtV o 0).getD (-1) = x := by simp [nxtV, hxk]
      have h0i : (0 : Int) < o.length := by omega
      simp only [Nat.add_zero] at cv
      clear hxk
      go_enter Tryz.func62, Tryz.ntmps62
      go_wp2
      go_ret
      exact ⟨ret_int e.symm, by (repeat' (first | (with_reducible exact Below.refl _ _) | (with_reducible refine Below.mono (by assumption) ?_) | (with_reducible refine Below.trans ?_ (Below.mono (by assumption) ?_)) | (with_reducible refine Below.alloc ?_ ?_ _) | (with_reducible refine Below.drew ?_) | (with_reducible refine below_drewN ?_ _) | (with_reducible refine Below.setCell ?_ ?_ _) | (simp only [World.size_alloc, World.size_setCell, World.size_drew, size_drewN]; omega) | omega))⟩
    · have hnil : o = [] := List.eq_nil_of_length_eq_zero (by omega)
      subst hnil
      go_enter Tryz.func62, Tryz.ntmps62
      go_wp2
      go_loopw [5] (fun i wr => i = .int .i64 0 ∧ Ext w wr) (fun _ _ => 0)
      case atStart => exact ⟨rfl, by (repeat' (first | (with_reducible exact Below.refl _ _) | (with_reducible refine Below.mono (by assumption) ?_) | (with_reducible refine Below.trans ?_ (Below.mono (by assumption) ?_)) | (with_reducible refine Below.alloc ?_ ?_ _) | (with_reducible refine Below.drew ?_) | (with_reducible refine below_drewN ?_ _) | (with_reducible refine Below.setCell ?_ ?_ _) | (simp only [World.size_alloc, World.size_setCell, World.size_drew, size_drewN]; omega) | omega))⟩
      case round =>
        obtain ⟨rfl, hE⟩ := hrel
        go_wp2
        go_ret
        exact ⟨rfl, hE⟩
  · have hv2 : (v == 0) = false := by simpa using hv
    go_enter Tryz.func62, Tryz.ntmps62
    go_wp2
    go_loopw [5] (fun i wr => ∃ k : Nat, (k = 0 ∨ k < o.length) ∧ i = .int .i64 k ∧ (∀ j, j < k → o[j]? ≠ some v) ∧ Ext w wr) (fun i _ => o.length - (intOf i).toNat)
    case atStart => exact ⟨0, .inl rfl, rfl, fun j h => by omega, by (repeat' (first | (with_reducible exact Below.refl _ _) | (with_reducible refine Below.mono (by assumption) ?_) | (with_reducible refine Below.trans ?_ (Below.mono (by assumption) ?_)) | (with_reducible refine Below.alloc ?_ ?_ _) | (with_reducible refine Below.drew ?_) | (with_reducible refine below_drewN ?_ _) | (with_reducible refine Below.setCell ?_ ?_ _) | (simp only [World.size_alloc, World.size_setCell, World.size_drew, size_drewN]; omega) | omega))⟩
    case round =>
      obtain ⟨k, hk, rfl, hno, hE⟩ := hrel
      by_cases hlt : k + 1 < o.length
      · obtain ⟨x, b, off, hxk, rfl, _, hb0, cv⟩ := (hx.ext hE).at_ (i := k) (by omega)
        obtain ⟨y, b', off', hyk, he', _, hb0', cy⟩ := (hx.ext hE).at_ hlt
        simp only [Option.some.injEq, Addr.mk.injEq] at he'
        obtain ⟨rfl, rfl, _⟩ := he'
        have hki : (k : Int) + 1 < o.length := by omega
        by_cases hxv : x = v
        · subst hxv
          have e := nxtV_some hv hno hxk hyk
          have HE := Lib.hid e
          clear e hxk hyk hno
          go_wp2
          go_ret
          exact ⟨ret_int (by rw [HE.out]; rfl), hE⟩
        · have HNo := Lib.hid (show ∀ j, j < k + 1 → o[j]? ≠ some v from fun j hj => by
            by_cases e : j = k
            · subst e
              rw [hxk]
              simpa using hxv
            · exact hno j (by omega))
          clear hxk hyk hno
          go_wp2
          exact ⟨⟨k + 1, .inr hlt, by go_num, HNo.out, hE⟩, by simp [intOf]; omega⟩
      · have HN := Lib.hid (nxtV_none hv (fun j hj => hno j (by omega)))
        clear hno
        have hki : ¬ ((k : Int) + 1 < o.length) := by omega
        go_wp2
        go_ret
        exact ⟨ret_int (by rw [HN.out]; rfl), hE⟩
set_option maxHeartbeats 2000000 in
theorem l8Has_c (xs : List T3) (a b c : Int) (S : Nat → Prop) (A : Option Addr) (cc : Nat) (w : World) (hx : Ops S w A xs) (hl : xs.length ≤ 1048576) :
    Calls Tryz.prog 92 #[.slice A xs.length cc, .agg #[.int .i64 a, .int .i64 b, .int .i64 c]] w fun e w' => e = .returned (.bool (decide ((⟨a, b, c⟩ : T3) ∈ xs))) ∧ Ext w w' := by
  have heq := eqEd_run
  have hgd := eqEd_guard
  have hEb : Ext w (w.alloc (.cells #[.int .i64 a, .int .i64 b, .int .i64 c] 76)) := by (repeat' (first | (with_reducible exact Below.refl _ _) | (with_reducible refine Below.mono (by assumption) ?_) | (with_reducible refine Below.trans ?_ (Below.mono (by assumption) ?_)) | (with_reducible refine Below.alloc ?_ ?_ _) | (with_reducible refine Below.drew ?_) | (with_reducible refine below_drewN ?_ _) | (with_reducible refine Below.setCell ?_ ?_ _) | (simp only [World.size_alloc, World.size_setCell, World.size_drew, size_drewN]; omega) | omega))
  have HX := Lib.hid (hx.ext hEb)
  clear hx
  go_enter Tryz.func92, Tryz.ntmps92
  go_wp2
  go_loopw [5] (fun i wr => ∃ k : Nat, k ≤ xs.length ∧ i = .int .i64 k ∧ (⟨a, b, c⟩ : T3) ∉ xs.take k ∧ Ext (w.alloc (.cells #[.int .i64 a, .int .i64 b, .int .i64 c] 76)) wr) (fun i _ => xs.length - (intOf i).toNat)
  case atStart => exact ⟨0, Nat.zero_le _, rfl, by simp, Below.refl _ _⟩
  case round =>
    obtain ⟨k, hk, rfl, hno, hE⟩ := hrel
    have hE2 := hEb.tr hE
    have g0 := Ext.keep hE (by simp) ((lit_at w #[.int .i64 a, .int .i64 b, .int .i64 c] 76 0).trans rfl)
    have g1 := Ext.keep hE (by simp) ((lit_at w #[.int .i64 a, .int .i64 b, .int .i64 c] 76 1).trans rfl)
    have g2 := Ext.keep hE (by simp) ((lit_at w #[.int .i64 a, .int .i64 b, .int .i64 c] 76 2).trans rfl)
    by_cases hlt : k < xs.length
    · obtain ⟨x0, x1, x2, bb, off, hxk, rfl, _, hb0, c0, c1, c2⟩ := (HX.out.ext hE).at_ hlt
      have hmem : (⟨x0, x1, x2⟩ : T3) ∈ xs := List.mem_of_getElem? hxk
      by_cases he : (⟨x0, x1, x2⟩ : T3) = ⟨a, b, c⟩
      · simp only [T3.mk.injEq] at he
        obtain ⟨rfl, rfl, rfl⟩ := he
        have hd : decide ((⟨x0, x1, x2⟩ : T3) ∈ xs) = true := decide_eq_true hmem
        have HD := Lib.hid hd
        clear hno hxk hmem hd
        go_upto_region 4 with (fail)
        go_quiet (fail)
        go_wp2
        go_ret
        exact ⟨by rw [HD.out]; rfl, hE2.tr (by (repeat' (first | (with_reducible exact Below.refl _ _) | (with_reducible refine Below.mono (by assumption) ?_) | (with_reducible refine Below.trans ?_ (Below.mono (by assumption) ?_)) | (with_reducible refine Below.alloc ?_ ?_ _) | (with_reducible refine Below.drew ?_) | (with_reducible refine below_drewN ?_ _) | (with_reducible refine Below.setCell ?_ ?_ _) | (simp only [World.size_alloc, World.size_setCell, World.size_drew, size_drewN]; omega) | omega)))⟩
      · have HNo := Lib.hid (show (⟨a, b, c⟩ : T3) ∉ xs.take (k + 1) from by
          rw [List.take_add_one, hxk, Option.toList, List.mem_append, List.mem_singleton]
          rintro (h | h)
          · exact hno h
          · exact he h.symm)
        have hd2 : (x0 = a ∧ x1 = b ∧ x2 = c) = False := by
          simp only [T3.mk.injEq] at he
          simpa using he
        have hd : decide ((⟨x0, x1, x2⟩ : T3) = ⟨a, b, c⟩) = false := decide_eq_false he
        clear hno hxk hmem he
        go_upto_region 4 with (fail)
        go_quiet (fail)
        go_wp2
        exact ⟨⟨k + 1, by omega, by go_num, HNo.out, hE.tr (by (repeat' (first | (with_reducible exact Below.refl _ _) | (with_reducible refine Below.mono (by assumption) ?_) | (with_reducible refine Below.trans ?_ (Below.mono (by assumption) ?_)) | (with_reducible refine Below.alloc ?_ ?_ _) | (with_reducible refine Below.drew ?_) | (with_reducible refine below_drewN ?_ _) | (with_reducible refine Below.setCell ?_ ?_ _) | (simp only [World.size_alloc, World.size_setCell, World.size_drew, size_drewN]; omega) | omega)))⟩, by simp [intOf]; omega⟩
    · obtain rfl : k = xs.length := by omega
      rw [List.take_length] at hno
      have HD := Lib.hid (decide_eq_false hno)
      clear hno
      go_wp2
      go_ret
      exact ⟨by rw [HD.out]; rfl, hE2⟩
set_option maxHeartbeats 4000000 in
theorem l8Sorted_c (raw : List T3) (S : Nat → Prop) (A : Option Addr) (c : Nat) (w : World) (hx : Ops S w A raw) (hl : raw.length ≤ 1048576) :
    Calls Tryz.prog 63 #[.slice A raw.length c] w fun e w' => ∃ L, UpE raw 6 0 1 L ∧ Fresh L w e w' := by
  have HX := Lib.hid hx
  clear hx
  go_enter Tryz.func63, Tryz.ntmps63
  go_wp2
  have hO := Lib.hid (show Own3 (w.alloc (.cells #[] 76)) w.heap.size 76 (.slice (some ⟨w.heap.size, 0, none⟩) 0 0) [] from Own3.made w #[] 0 rfl (Nat.le_refl _) (by omega) rfl)
  go_loopw [3, 4] (fun v i wr => ∃ (f : Nat) (L : List T3), f ≤ 6 ∧ i = .int .i64 f ∧ UpE raw f 0 1 L ∧ L.length ≤ 24 * f ∧ Own3 wr w.heap.size 76 v L ∧ Ext w wr) (fun _ i _ => 6 - (intOf i).toNat)
  case atStart => exact ⟨0, [], by omega, rfl, UpE.start raw, Nat.le_refl _, hO.out, by (repeat' (first | (with_reducible exact Below.refl _ _) | (with_reducible refine Below.mono (by assumption) ?_) | (with_reducible refine Below.trans ?_ (Below.mono (by assumption) ?_)) | (with_reducible refine Below.alloc ?_ ?_ _) | (with_reducible refine Below.drew ?_) | (with_reducible refine below_drewN ?_ _) | (with_reducible refine Below.setCell ?_ ?_ _) | (simp only [World.size_alloc, World.size_setCell, World.size_drew, size_drewN]; omega) | omega))⟩
  case round =>
    obtain ⟨f, L0, hf, rfl, hU, hLl, hown, hE⟩ := hrel
    clear hO
    by_cases hlt : f < 6
    · have HU := Lib.hid hU
      have HO := Lib.hid hown
      have HE := Lib.hid hE
      clear hU hown hE
      have hfi : (f : Int) < 6 := by omega
      go_wp2
      go_loopw [3, 5] (fun v i wr => ∃ (t : Nat) (L : List T3), t ≤ 6 ∧ i = .int .i64 t ∧ UpE raw f t 1 L ∧ L.length ≤ 24 * f + 4 * t ∧ Own3 wr w.heap.size 76 v L ∧ Ext w wr) (fun _ i _ => 6 - (intOf i).toNat)
      case atStart => exact ⟨0, L0, by omega, rfl, HU.out, by omega, HO.out, HE.out⟩
      case round =>
        obtain ⟨t, L1, ht, rfl, hU, hLl1, hown, hE⟩ := hrel
        clear HU HO HE
        by_cases hlt1 : t < 6
        · have HU := Lib.hid hU
          have HO := Lib.hid hown
          have HE := Lib.hid hE
          clear hU hown hE
          have hti : (t : Int) < 6 := by omega
          go_wp2
          go_loopw [3, 6] (fun v i wr => ∃ (q : Nat) (L : List T3), 1 ≤ q ∧ q ≤ 5 ∧ i = .int .i64 q ∧ UpE raw f t q L ∧ L.length + 1 ≤ 24 * f + 4 * t + q ∧ Own3 wr w.heap.size 76 v L ∧ Ext w wr) (fun _ i _ => 6 - (intOf i).toNat)
          case atStart => exact ⟨1, L1, by omega, by omega, rfl, HU.out, by omega, HO.out, HE.out⟩
          case round =>
            obtain ⟨q, L2, hq1, hq, rfl, hU, hLl2, hown, hE⟩ := hrel
            clear HU HO HE
            have HU := Lib.hid hU
            have HO := Lib.hid hown
            have HE := Lib.hid hE
            have hEz := hE.size
            clear hU hown hE
            by_cases hlt2 : q < 5
            · have hqi : (q : Int) ≤ 4 := by omega
              have C := fun w hx => l8Has_c raw f t q S A c w hx hl
              have hEa : Ext wr (wr.alloc (.cells #[.int .i64 f, .int .i64 t, .int .i64 q] 76)) := by (repeat' (first | (with_reducible exact Below.refl _ _) | (with_reducible refine Below.mono (by assumption) ?_) | (with_reducible refine Below.trans ?_ (Below.mono (by assumption) ?_)) | (with_reducible refine Below.alloc ?_ ?_ _) | (with_reducible refine Below.drew ?_) | (with_reducible refine below_drewN ?_ _) | (with_reducible refine Below.setCell ?_ ?_ _) | (simp only [World.size_alloc, World.size_setCell, World.size_drew, size_drewN]; omega) | omega))
              have q0 := (lit_at wr #[.int .i64 f, .int .i64 t, .int .i64 q] 76 0).trans rfl
              have q1 := (lit_at wr #[.int .i64 f, .int .i64 t, .int .i64 q] 76 1).trans rfl
              have q2 := (lit_at wr #[.int .i64 f, .int .i64 t, .int .i64 q] 76 2).trans rfl
              by_cases hm : (⟨f, t, q⟩ : T3) ∈ raw
              · have hu := HU.out.push hm (by simp only [inR]; omega)
                have HU2 := Lib.hid hu
                rw [decide_eq_true hm] at C
                have C := Lib.hid C
                clear hu hm
                go_wp2_with (fail)
                go_at_call 92
                refine (C.out _ (HX.out.ext (HE.out.tr hEa))).mono ?_
                rintro e w1 ⟨rfl, hb⟩
                obtain ⟨hc, hf, hz, hs⟩ := bcell hb
                (try simp only [World.size_alloc, World.size_setCell, World.size_drew, size_drewN] at hs); (first | have l0 := Nat.lt_of_lt_of_le l0 (show _ ≤ w1.heap.size by omega) | have l0 : w.heap.size < w1.heap.size := (by omega) | skip); (try have l0e := Nat.le_of_lt l0); (try have l0f := Nat.le_add_right_of_le (k := 1) l0e); (try have l1 := Nat.lt_of_lt_of_le l1 (show _ ≤ w1.heap.size by omega)); (try have l1e := Nat.le_of_lt l1); (try have l1f := Nat.le_add_right_of_le (k := 1) l1e); (try have l2 := Nat.lt_of_lt_of_le l2 (show _ ≤ w1.heap.size by omega)); (try have l2e := Nat.le_of_lt l2); (try have l2f := Nat.le_add_right_of_le (k := 1) l2e); (try have l3 := Nat.lt_of_lt_of_le l3 (show _ ≤ w1.heap.size by omega)); (try have l3e := Nat.le_of_lt l3); (try have l3f := Nat.le_add_right_of_le (k := 1) l3e)
                have g0 := Ext.keep hb (by simp) q0
                have g1 := Ext.keep hb (by simp) q1
                have g2 := Ext.keep hb (by simp) q2
                have hE1 := (HE.out.tr hEa).tr hb
                have HO1 := Lib.hid (HO.out.ext (hEa.tr hb))
                have HE1 := Lib.hid hE1
                have hz1 := hE1.size
                clear hb hc hf hz hE1
                go_wp2_with (at_builtin; refine wpList_append3_at _ rfl _ _ 55 rfl w.heap.size 76 Tryz.underlying55 infoEdgeS rfl _ L2 rfl (HO1.out.ext (by (repeat' (first | (with_reducible exact Below.refl _ _) | (with_reducible refine Below.mono (by assumption) ?_) | (with_reducible refine Below.trans ?_ (Below.mono (by assumption) ?_)) | (with_reducible refine Below.alloc ?_ ?_ _) | (with_reducible refine Below.drew ?_) | (with_reducible refine below_drewN ?_ _) | (with_reducible refine Below.setCell ?_ ?_ _) | (simp only [World.size_alloc, World.size_setCell, World.size_drew, size_drewN]; omega) | omega)))) _ f t q rfl ((lit_at _ _ _ 0).trans rfl) ((lit_at _ _ _ 1).trans rfl) ((lit_at _ _ _ 2).trans rfl) ?_ ?_ ?_)
                all_goals try (first | omega | (simp only [World.size_alloc, size_drewN]; omega) | (go_simp; done))
                intro v' w' hown' hgrow hv'
                have ed : Ext w1 (w1.alloc (.cells #[.int .i64 f, .int .i64 t, .int .i64 q] 76)) := by (repeat' (first | (with_reducible exact Below.refl _ _) | (with_reducible refine Below.mono (by assumption) ?_) | (with_reducible refine Below.trans ?_ (Below.mono (by assumption) ?_)) | (with_reducible refine Below.alloc ?_ ?_ _) | (with_reducible refine Below.drew ?_) | (with_reducible refine below_drewN ?_ _) | (with_reducible refine Below.setCell ?_ ?_ _) | (simp only [World.size_alloc, World.size_setCell, World.size_drew, size_drewN]; omega) | omega))
                have hE' : Ext w w' := Below.grown (HE1.out.tr ed) hgrow (HE1.out.tr ed).size (fun g hg => (own3_lt HO1.out g hg).1)
                have HF := Lib.hid (show _ ∧ _ from ⟨hown', hE'⟩)
                clear hown' hE' hgrow hv' ed
                go_wp2
                exact ⟨⟨q + 1, _, by omega, by omega, by go_num, by have := HU2.out; simpa using this, by rw [List.length_append, List.length_singleton]; omega, HF.out.1, HF.out.2⟩, by simp [intOf]; omega⟩
              · have hu := HU.out.skip hm
                have HU2 := Lib.hid hu
                rw [decide_eq_false hm] at C
                have C := Lib.hid C
                clear hu hm
                go_wp2_with (fail)
                go_at_call 92
                refine (C.out _ (HX.out.ext (HE.out.tr hEa))).mono ?_
                rintro e w1 ⟨rfl, hb⟩
                obtain ⟨hc, hf, hz, hs⟩ := bcell hb
                (try simp only [World.size_alloc, World.size_setCell, World.size_drew, size_drewN] at hs); (first | have l0 := Nat.lt_of_lt_of_le l0 (show _ ≤ w1.heap.size by omega) | have l0 : w.heap.size < w1.heap.size := (by omega) | skip); (try have l0e := Nat.le_of_lt l0); (try have l0f := Nat.le_add_right_of_le (k := 1) l0e); (try have l1 := Nat.lt_of_lt_of_le l1 (show _ ≤ w1.heap.size by omega)); (try have l1e := Nat.le_of_lt l1); (try have l1f := Nat.le_add_right_of_le (k := 1) l1e); (try have l2 := Nat.lt_of_lt_of_le l2 (show _ ≤ w1.heap.size by omega)); (try have l2e := Nat.le_of_lt l2); (try have l2f := Nat.le_add_right_of_le (k := 1) l2e); (try have l3 := Nat.lt_of_lt_of_le l3 (show _ ≤ w1.heap.size by omega)); (try have l3e := Nat.le_of_lt l3); (try have l3f := Nat.le_add_right_of_le (k := 1) l3e)
                have hE1 := (HE.out.tr hEa).tr hb
                have HO1 := Lib.hid (HO.out.ext (hEa.tr hb))
                have HE1 := Lib.hid hE1
                clear hb hc hf hz hE1
                go_wp2
                exact ⟨⟨q + 1, L2, by omega, by omega, by go_num, by have := HU2.out; simpa using this, by omega, HO1.out, HE1.out⟩, by simp [intOf]; omega⟩
            · obtain rfl : q = 5 := by omega
              go_wp2
              exact ⟨⟨t + 1, L2, by omega, by go_num, by have := HU.out.turn; simpa using this, by omega, HO.out, HE.out⟩, by simp [intOf]; omega⟩
        · obtain rfl : t = 6 := by omega
          have HU := Lib.hid hU
          have HO := Lib.hid hown
          have HE := Lib.hid hE
          clear hU hown hE
          go_wp2
          exact ⟨⟨f + 1, L1, by omega, by go_num, by have := HU.out.line; simpa using this, by omega, HO.out, HE.out⟩, by simp [intOf]; omega⟩
    · obtain rfl : f = 6 := by omega
      have HU := Lib.hid hU
      have HO := Lib.hid hown
      have HE := Lib.hid hE
      clear hU hown hE
      go_wp2
      go_ret
      exact ⟨L0, HU.out, HO.out.fresh (Nat.le_refl _) HE.out⟩
end Go.Proofs.YtmbdacfgmiielaaGreat
