/-
  Contract of the program's back: a shortest way back to a number, itself first.
-/
import Derived.Test.YtbglkjmoednapaaDoorBackQ
namespace Go.Proofs.YtbglkjmoednapaaDoor
set_option linter.unusedSimpArgs false
set_option linter.unusedVariables false
set_option maxRecDepth 100000
open Go.RowKit

theorem own1_lit (w : World) {base : Nat} {e : TypeId} (x : Int) (hb : base ≤ w.heap.size) : Own1 (w.alloc (.cells #[.int .i64 x] e)) base e (.slice (some ⟨w.heap.size, 0, none⟩) 1 1) [x] :=
  ⟨rfl, .inr ⟨w.heap.size, 1, #[.int .i64 x], rfl, hb, heap_alloc_new w _, Nat.le_refl _, by unfold maxLen; omega, rfl, rfl⟩⟩
theorem own1_set {w : World} {base g' i : Nat} {e : TypeId} {v u : Value} {xs : List Int} (h : Own1 w base e v xs) (hg : g' < base) : Own1 (w.setCell ⟨g', i, none⟩ u) base e v xs := by
  refine ⟨h.1, ?_⟩
  rcases h.2 with h2 | ⟨g, cap, cur, hv, hb, hh, r⟩
  · exact .inl h2
  · refine .inr ⟨g, cap, cur, hv, hb, ?_, r⟩
    have : (w.setCell ⟨g', i, none⟩ u).heap[g]? = w.heap[g]? := by
      simp only [World.setCell, Array.getElem?_modify]
      rw [if_neg (by omega)]
    exact this.trans hh
theorem own1_cut {w : World} {base : Nat} {e : TypeId} {v : Value} {xs : List Int} (h : Own1 w base e v xs) : ∃ A c, v = .slice A xs.length c ∧ xs.length ≤ c := by
  rcases h.2 with ⟨rfl, hn⟩ | ⟨g, cap, cur, rfl, hb, hg, hle, hm, hs, ht⟩
  · exact ⟨none, 0, by rw [hn], by omega⟩
  · exact ⟨_, cap, rfl, hle⟩
set_option maxHeartbeats 1000000 in
theorem clip_c (A : Option Addr) (n c : Nat) (w : World) (h : n ≤ c) : Calls Tryd.prog 38 #[.slice A n c] w fun e w' => e = .returned (.slice A n n) ∧ w = w' := by
  go_enter Tryd.func38, Tryd.ntmps38
  go_wp2
  go_ret
  exact ⟨rfl, rfl⟩
set_option maxHeartbeats 4000000 in
theorem back_c (f : Nat → Nat) (s : Nat) (w : World) (hf : Low f) (hs6 : s < 6) :
    Calls Tryd.prog 26 #[.agg #[.int .u64 ((f 0 : Nat) : Int), .int .u64 ((f 1 : Nat) : Int), .int .u64 ((f 2 : Nat) : Int), .int .u64 ((f 3 : Nat) : Int), .int .u64 ((f 4 : Nat) : Int), .int .u64 ((f 5 : Nat) : Int)], .int .i64 s] w fun e w' => ∃ fr, Dist f s fr ∧ FreshI ((s :: bway f fr (fr s - 1).toNat s).map fun x => ((x : Nat) : Int)) w e w' := by
  have HF := Lib.hid hf
  clear hf
  go_enter Tryd.func26, Tryd.ntmps26
  go_wp2_with (fail)
  go_at_call 37
  refine (repeat_c (w.heap.size + 1) 0 _ (by simp) ((show Blk ((w.alloc (.cells (matA f) 44)).alloc (.cells #[.int .i64 (-1)] 3)) (w.heap.size + 1) 3 #[.int .i64 (-1)] from by have := Blk.new (w.alloc (.cells (matA f) 44)) 3 #[.int .i64 (-1)]; simpa using this).cell 0)).mono ?_
  rintro e w1 ⟨gf, rfl, hgf, hFB, hb⟩
  obtain ⟨hc, hf, hz, hs⟩ := bcell hb
  (try simp only [World.size_alloc, World.size_setCell, World.size_drew, size_drewN] at hs); (first | have l0 := Nat.lt_of_lt_of_le l0 (show _ ≤ w1.heap.size by omega) | have l0 : w.heap.size < w1.heap.size := (by omega) | skip); (try have l0e := Nat.le_of_lt l0); (try have l0f := Nat.le_add_right_of_le (k := 1) l0e); (try have l1 := Nat.lt_of_lt_of_le l1 (show _ ≤ w1.heap.size by omega)); (try have l1e := Nat.le_of_lt l1); (try have l1f := Nat.le_add_right_of_le (k := 1) l1e); (try have l2 := Nat.lt_of_lt_of_le l2 (show _ ≤ w1.heap.size by omega)); (try have l2e := Nat.le_of_lt l2); (try have l2f := Nat.le_add_right_of_le (k := 1) l2e); (try have l3 := Nat.lt_of_lt_of_le l3 (show _ ≤ w1.heap.size by omega)); (try have l3e := Nat.le_of_lt l3); (try have l3f := Nat.le_add_right_of_le (k := 1) l3e)
  have hMB : Blk w1 w.heap.size 44 (matA f) := ((Blk.new w 44 (matA f)).alloc _).ext hb
  have hE1 : Ext w w1 := by (repeat' (first | (with_reducible exact Below.refl _ _) | (with_reducible refine Below.mono (by assumption) ?_) | (with_reducible refine Below.trans ?_ (Below.mono (by assumption) ?_)) | (with_reducible refine Below.alloc ?_ ?_ _) | (with_reducible refine Below.drew ?_) | (with_reducible refine below_drewN ?_ _) | (with_reducible refine Below.setCell ?_ ?_ _) | (simp only [World.size_alloc, World.size_setCell, World.size_drew, size_drewN]; omega) | omega))
  have hgf1 := hFB.lt
  simp only [World.size_alloc] at hgf
  have hz1 : w.heap.size < w1.heap.size := hMB.lt
  have HFB := Lib.hid (show Blk w1 gf 3 (farA (fr0 f s 0)) by rw [fr0_zero]; exact hFB)
  have HMB := Lib.hid hMB
  clear hc hf hz hb hs hFB hMB
  go_wp2
  have HQ0 : Hid (OwnQ (w1.alloc (.cells #[] 3)) w1.heap.size 3 (.slice (some ⟨w1.heap.size, 0, none⟩) 0 0) (q0 f s 0)) := Lib.hid (OwnQ.made w1 (Nat.le_refl _) _)
  go_loopw [6, 17] (fun v i wr => ∃ k : Nat, k ≤ 6 ∧ i = .int .i64 k ∧ OwnQ wr w1.heap.size 3 v (q0 f s k) ∧ Blk wr w.heap.size 44 (matA f) ∧ Blk wr gf 3 (farA (fr0 f s k)) ∧ w1.heap.size ≤ wr.heap.size ∧ Ext w wr) (fun _ i _ => 6 - (intOf i).toNat)
  case atStart => exact ⟨0, Nat.zero_le _, rfl, HQ0.out, HMB.out.ext (by (repeat' (first | (with_reducible exact Below.refl _ _) | (with_reducible refine Below.mono (by assumption) ?_) | (with_reducible refine Below.trans ?_ (Below.mono (by assumption) ?_)) | (with_reducible refine Below.alloc ?_ ?_ _) | (with_reducible refine Below.drew ?_) | (with_reducible refine below_drewN ?_ _) | (with_reducible refine Below.setCell ?_ ?_ _) | (simp only [World.size_alloc, World.size_setCell, World.size_drew, size_drewN]; omega) | omega))), HFB.out.ext (by (repeat' (first | (with_reducible exact Below.refl _ _) | (with_reducible refine Below.mono (by assumption) ?_) | (with_reducible refine Below.trans ?_ (Below.mono (by assumption) ?_)) | (with_reducible refine Below.alloc ?_ ?_ _) | (with_reducible refine Below.drew ?_) | (with_reducible refine below_drewN ?_ _) | (with_reducible refine Below.setCell ?_ ?_ _) | (simp only [World.size_alloc, World.size_setCell, World.size_drew, size_drewN]; omega) | omega))), by simp, by (repeat' (first | (with_reducible exact Below.refl _ _) | (with_reducible refine Below.mono (by assumption) ?_) | (with_reducible refine Below.trans ?_ (Below.mono (by assumption) ?_)) | (with_reducible refine Below.alloc ?_ ?_ _) | (with_reducible refine Below.drew ?_) | (with_reducible refine below_drewN ?_ _) | (with_reducible refine Below.setCell ?_ ?_ _) | (simp only [World.size_alloc, World.size_setCell, World.size_drew, size_drewN]; omega) | omega))⟩
  case round =>
    obtain ⟨k, hk, rfl, hQ, hM, hFA, hsz, hE⟩ := hrel
    clear HQ0 HMB HFB
    have hgm : w.heap.size < gf := by omega
    by_cases hlt : k < 6
    · have m0 := mat_cell hM (i := 0) (by omega)
      have m1 := mat_cell hM (i := 1) (by omega)
      have m2 := mat_cell hM (i := 2) (by omega)
      have m3 := mat_cell hM (i := 3) (by omega)
      have m4 := mat_cell hM (i := 4) (by omega)
      have m5 := mat_cell hM (i := 5) (by omega)
      have hql : (q0 f s k).length ≤ 6 := by
        have := List.length_filter_le (fun i => (f i).testBit s) (List.range k)
        simp only [List.length_range] at this
        unfold q0
        omega
      have C2 := fun w => has_c f k s w hlt hs6 HF.out
      have HM := Lib.hid hM
      have HFA := Lib.hid hFA
      have HQ := Lib.hid hQ
      clear hM hFA hQ
      cases hb : (f k).testBit s with
      | true =>
        rw [hb] at C2
        have C2 := Lib.hid C2
        have e1 := fr0_hit hb
        have e2 := q0_hit hb
        have H1 := Lib.hid e1
        have H2 := Lib.hid e2
        clear e1 e2 hb
        generalize fr0 f s k = fr at HFA H1
        generalize q0 f s k = q at HQ H2 hql
        go_wp2_with (fail)
        go_at_call 25
        refine (C2.out _).mono ?_
        rintro e w2 ⟨rfl, hb2⟩
        have hFA2 := HFA.out.ext hb2
        have ck := far_cell hFA2 hlt
        have hfz := hFA2.frozen
        have hki : (k : Int) < 6 := by omega
        have hgl := hFA2.lt
        have hz2 := hb2.size
        have hB3 : Blk (w2.setCell ⟨gf, k, none⟩ (.int .i64 1)) gf 3 (farA (fr0 f s (k + 1))) := by
          have h := hFA2.set_ k (.int .i64 1)
          rw [farA_set _ hlt, ← H1.out] at h
          exact h
        have hM3 : Blk (w2.setCell ⟨gf, k, none⟩ (.int .i64 1)) w.heap.size 44 (matA f) := (Below.heap_setCell w2 ⟨gf, k, none⟩ _ w.heap.size (by simp; omega)).trans (HM.out.ext hb2)
        have hQ3 := (HQ.out.ext hb2).set_ (i := k) (u := .int .i64 1) hgf1
        have HB3 := Lib.hid hB3
        have HM3 := Lib.hid hM3
        have HQ3 := Lib.hid hQ3
        have hE3 : Ext w (w2.setCell ⟨gf, k, none⟩ (.int .i64 1)) := by (repeat' (first | (with_reducible exact Below.refl _ _) | (with_reducible refine Below.mono (by assumption) ?_) | (with_reducible refine Below.trans ?_ (Below.mono (by assumption) ?_)) | (with_reducible refine Below.alloc ?_ ?_ _) | (with_reducible refine Below.drew ?_) | (with_reducible refine below_drewN ?_ _) | (with_reducible refine Below.setCell ?_ ?_ _) | (simp only [World.size_alloc, World.size_setCell, World.size_drew, size_drewN]; omega) | omega))
        have HE3 := Lib.hid hE3
        clear hFA2 hB3 hM3 hQ3 hE3
        have hlit : Blk ((w2.setCell ⟨gf, k, none⟩ (.int .i64 1)).alloc (.cells #[.int .i64 k] 3)) w2.heap.size 3 #[.int .i64 k] := by
          have := Blk.new (w2.setCell ⟨gf, k, none⟩ (.int .i64 1)) 3 #[.int .i64 k]
          simpa using this
        have HL := Lib.hid (hlit.cell 0)
        clear hlit
        go_wp2_with (at_builtin; go_loud (refine wpList_appendQ _ rfl _ _ 26 rfl w1.heap.size 3 Tryd.underlying26 infoInt rfl _ q rfl (HQ3.out.ext (by (repeat' (first | (with_reducible exact Below.refl _ _) | (with_reducible refine Below.mono (by assumption) ?_) | (with_reducible refine Below.trans ?_ (Below.mono (by assumption) ?_)) | (with_reducible refine Below.alloc ?_ ?_ _) | (with_reducible refine Below.drew ?_) | (with_reducible refine below_drewN ?_ _) | (with_reducible refine Below.setCell ?_ ?_ _) | (simp only [World.size_alloc, World.size_setCell, World.size_drew, size_drewN]; omega) | omega)))) _ k rfl (HL.out.trans rfl) (by omega) (by simp only [World.size_alloc, World.size_setCell]; omega) ?_))
        intro v4 w4 hQ4 hg4
        have hEa : Ext (w2.setCell ⟨gf, k, none⟩ (.int .i64 1)) ((w2.setCell ⟨gf, k, none⟩ (.int .i64 1)).alloc (.cells #[.int .i64 k] 3)) := by (repeat' (first | (with_reducible exact Below.refl _ _) | (with_reducible refine Below.mono (by assumption) ?_) | (with_reducible refine Below.trans ?_ (Below.mono (by assumption) ?_)) | (with_reducible refine Below.alloc ?_ ?_ _) | (with_reducible refine Below.drew ?_) | (with_reducible refine below_drewN ?_ _) | (with_reducible refine Below.setCell ?_ ?_ _) | (simp only [World.size_alloc, World.size_setCell, World.size_drew, size_drewN]; omega) | omega))
        have hown := (HQ3.out.ext hEa).own
        have hB4 := (HB3.out.ext hEa).grown hg4 (fun e => by have := (hown gf e.symm).1; omega)
        have hM4 := (HM3.out.ext hEa).grown hg4 (fun e => by have := (hown w.heap.size e.symm).1; omega)
        have hE4 : Ext w w4 := Below.grown (HE3.out.tr hEa) hg4 (by simp only [World.size_alloc, World.size_setCell]; omega) (fun g hg => by have := (hown g hg).1; omega)
        have hz4 := hg4.size
        simp only [World.size_alloc, World.size_setCell] at hz4
        rw [← H2.out] at hQ4
        have HQ4 := Lib.hid hQ4
        have HB4 := Lib.hid hB4
        have HM4 := Lib.hid hM4
        have HE4 := Lib.hid hE4
        clear hQ4 hB4 hM4 hE4 hg4 hown
        go_wp2
        exact ⟨⟨k + 1, by omega, by go_num, HQ4.out, HM4.out, HB4.out, by omega, HE4.out⟩, by simp [intOf]; omega⟩
      | false =>
        rw [hb] at C2
        have C2 := Lib.hid C2
        have e1 := fr0_miss hb
        have e2 := q0_miss hb
        rw [← e1] at HFA
        rw [← e2] at HQ
        clear e1 e2 hb
        go_wp2_with (fail)
        go_at_call 25
        refine (C2.out _).mono ?_
        rintro e w2 ⟨rfl, hb2⟩
        go_wp2
        exact ⟨⟨k + 1, by omega, by go_num, HQ.out.ext hb2, HM.out.ext hb2, HFA.out.ext hb2, by have := hb2.size; omega, hE.tr hb2⟩, by simp [intOf]; omega⟩
    · obtain rfl : k = 6 := by omega
      have hb0 := bfs_start f s
      have hql : (q0 f s 6).length ≤ 6 := by
        have := List.length_filter_le (fun i => (f i).testBit s) (List.range 6)
        simp only [List.length_range] at this
        unfold q0
        omega
      generalize fr0 f s 6 = fr at hFA hb0
      generalize q0 f s 6 = q at hQ hb0 hql
      have hdl := dsc_le fr
      have HB0 := Lib.hid hb0
      have HM := Lib.hid hM
      have HFA := Lib.hid hFA
      have HQ := Lib.hid hQ
      clear hM hFA hQ hb0
      obtain ⟨wo, rfl⟩ : ∃ wo : World, wo = wr := ⟨_, rfl⟩
      go_wp2
      go_loopg [6] (q.length + 2 * (6 - dsc fr)) (fun n v W => ∃ (fr : Nat → Int) (q : List Nat), q.length + 2 * (6 - dsc fr) = n ∧ n ≤ 18 ∧ Bfs f s fr q ∧ OwnQ W w1.heap.size 3 v q ∧ Blk W w.heap.size 44 (matA f) ∧ Blk W gf 3 (farA fr) ∧ w1.heap.size ≤ W.heap.size ∧ Ext w W)
      case atStart => exact ⟨fr, q, rfl, by omega, HB0.out, HQ.out, HM.out, HFA.out, hsz, hE⟩
      case round =>
        clear HB0 HQ HM HFA hql hdl hsz hE
        obtain ⟨fr2, q2, hn, hn18, hbf, hQ, hM, hFA, hsz, hE⟩ := hrel
        clear fr q
        obtain ⟨g, off, cap, cur, rfl, hgB, hBq, hle, hcs, hcur⟩ := hQ
        have HM := Lib.hid hM
        have HFA := Lib.hid hFA
        have HBF := Lib.hid hbf
        have HN := Lib.hid hn
        clear hM hFA hbf hn
        cases q2 with
        | nil =>
          have hD := HBF.out.dist HF.out
          have hxr : -1 ≤ fr2 s ∧ fr2 s ≤ 6 := by
            rcases hD s with h | ⟨d, h, h6, _⟩
            · omega
            · omega
          have HD := Lib.hid hD
          have cs := far_cell HFA.out hs6
          have hsi : (s : Int) < 6 := by omega
          have hle0 : 0 ≤ cap := Nat.zero_le _
          clear hD HBF HN
          obtain ⟨wo, rfl⟩ : ∃ wo : World, wo = wr := ⟨_, rfl⟩
          go_wp2
          have hEl : Ext wo (wo.alloc (.cells #[.int .i64 s] 3)) := by (repeat' (first | (with_reducible exact Below.refl _ _) | (with_reducible refine Below.mono (by assumption) ?_) | (with_reducible refine Below.trans ?_ (Below.mono (by assumption) ?_)) | (with_reducible refine Below.alloc ?_ ?_ _) | (with_reducible refine Below.drew ?_) | (with_reducible refine below_drewN ?_ _) | (with_reducible refine Below.setCell ?_ ?_ _) | (simp only [World.size_alloc, World.size_setCell, World.size_drew, size_drewN]; omega) | omega))
          have HO : Hid (Own1 (wo.alloc (.cells #[.int .i64 s] 3)) wo.heap.size 3 (.slice (some ⟨wo.heap.size, 0, none⟩) 1 1) ([s].map fun x => ((x : Nat) : Int))) := Lib.hid (own1_lit wo _ (Nat.le_refl _))
          have hgl := HFA.out.lt
          have cs1 := hEl.keep hgl cs
          go_region_held3 (fun W => W.cell? ⟨gf, s, none⟩ = some (.int .i64 (fr2 s))) (first | go_keep | exact cs1) (fail)
          all_goals go_wp2
          all_goals
            go_loopw [10, 11, 12] (fun v at' l W => ∃ (rem : Nat) (p : Nat) (lv : Int) (out : List Nat), at' = .int .i64 p ∧ l = .int .i64 lv ∧ p < 6 ∧ (lv = rem + 1 ∨ (lv ≤ 1 ∧ -1 ≤ lv ∧ rem = 0)) ∧ out ++ bway f fr2 rem p = s :: bway f fr2 (fr2 s - 1).toNat s ∧ out.length + rem ≤ 7 ∧ Own1 W wo.heap.size 3 v (out.map fun x => ((x : Nat) : Int)) ∧ Ext wo W) (fun _ _ l _ => (intOf l).toNat)
          case atStart =>
            exact ⟨(fr2 s - 1).toNat, s, fr2 s, [s], rfl, rfl, hs6, by omega, rfl, by simp only [List.length_singleton]; omega, HO.out.ext (by (repeat' (first | (with_reducible exact Below.refl _ _) | (with_reducible refine Below.mono (by assumption) ?_) | (with_reducible refine Below.trans ?_ (Below.mono (by assumption) ?_)) | (with_reducible refine Below.alloc ?_ ?_ _) | (with_reducible refine Below.drew ?_) | (with_reducible refine below_drewN ?_ _) | (with_reducible refine Below.setCell ?_ ?_ _) | (simp only [World.size_alloc, World.size_setCell, World.size_drew, size_drewN]; omega) | omega))), by (repeat' (first | (with_reducible exact Below.refl _ _) | (with_reducible refine Below.mono (by assumption) ?_) | (with_reducible refine Below.trans ?_ (Below.mono (by assumption) ?_)) | (with_reducible refine Below.alloc ?_ ?_ _) | (with_reducible refine Below.drew ?_) | (with_reducible refine below_drewN ?_ _) | (with_reducible refine Below.setCell ?_ ?_ _) | (simp only [World.size_alloc, World.size_setCell, World.size_drew, size_drewN]; omega) | omega))⟩
          case round =>
            clear HO cs cs1 hEl
            obtain ⟨rem, p, lv, out, rfl, rfl, hp6, hlv, hway, hlen, hO, hEo⟩ := hrel
            have HWy := Lib.hid hway
            have HO := Lib.hid hO
            have HE := Lib.hid hEo
            have hEsz := hEo.size
            clear hway hO hEo
            by_cases hgt : 1 < lv
            · obtain ⟨r, rfl⟩ : ∃ r, rem = r + 1 := ⟨rem - 1, by omega⟩
              have hl1 : lv - 1 = (r : Int) + 1 := by omega
              have HL1 := Lib.hid hl1
              have hlv7 : lv ≤ 8 := by omega
              have hpi : (p : Int) < 6 := by omega
              clear hl1 hlv
              go_upto_block 8 with (fail)
              go_cut [11] from 78 to 95 (fun v W => v = .int .i64 (((bnx f fr2 p (lv - 1) 6).getD p : Nat) : Int) ∧ Ext wr W)
              case first =>
                go_wp2_with (fail)
                go_loopw [11, 78] (fun v i W => ∃ k : Nat, k ≤ 6 ∧ v = .int .i64 p ∧ i = .int .i64 k ∧ bnx f fr2 p (lv - 1) k = none ∧ Ext wr W) (fun _ i _ => 6 - (intOf i).toNat)
                case atStart => exact ⟨0, Nat.zero_le _, rfl, rfl, rfl, Below.refl _ _⟩
                case round =>
                  obtain ⟨k, hk, rfl, rfl, hno, hEi⟩ := hrel
                  have HNo := Lib.hid hno
                  have HEi := Lib.hid hEi
                  have HEw := Lib.hid (HE.out.tr hEi)
                  clear hno hEi
                  by_cases hlt : k < 6
                  · have hM := HM.out.ext HEw.out
                    have m0 := mat_cell hM (i := 0) (by omega)
                    have m1 := mat_cell hM (i := 1) (by omega)
                    have m2 := mat_cell hM (i := 2) (by omega)
                    have m3 := mat_cell hM (i := 3) (by omega)
                    have m4 := mat_cell hM (i := 4) (by omega)
                    have m5 := mat_cell hM (i := 5) (by omega)
                    have C2 := fun w => has_c f p k w hp6 hlt HF.out
                    have hki : (k : Int) < 6 := by omega
                    clear hM
                    cases hb : (f p).testBit k with
                    | false =>
                      rw [hb] at C2
                      have C2 := Lib.hid C2
                      have hs1 := bnx_succ HNo.out
                      rw [if_neg (by rw [hb]; simp)] at hs1
                      have HS1 := Lib.hid hs1
                      clear hs1 hb
                      go_wp2_with (fail)
                      go_at_call 25
                      refine (C2.out _).mono ?_
                      rintro e w2 ⟨rfl, hb2⟩
                      go_wp2
                      refine ⟨?_, by simp [intOf]; omega⟩
                      repeat apply Exists.intro
                      refine And.intro ?_ rfl
                      exact ⟨k + 1, by omega, rfl, by go_num, HS1.out, HEi.out.tr hb2⟩
                    | true =>
                      rw [hb] at C2
                      have C2 := Lib.hid C2
                      have hs1 := bnx_succ HNo.out
                      by_cases heq : fr2 k = lv - 1
                      · rw [if_pos ⟨hb, heq⟩] at hs1
                        have hb6 := bnx_more hs1 6 (by omega)
                        have HB6 := Lib.hid hb6
                        have heqb : (fr2 k == lv - 1) = true := by simpa using heq
                        clear hs1 hb6 hb heq
                        go_wp2_with (fail)
                        go_at_call 25
                        refine (C2.out _).mono ?_
                        rintro e w2 ⟨rfl, hb2⟩
                        have ck := far_cell (HFA.out.ext (HEw.out.tr hb2)) hlt
                        go_wp2
                        go_meet
                        exact ⟨by rw [HB6.out]; rfl, HEi.out.tr hb2⟩
                      · rw [if_neg (fun h => heq h.2)] at hs1
                        have HS1 := Lib.hid hs1
                        have heqb : (fr2 k == lv - 1) = false := by simpa using heq
                        clear hs1 hb heq
                        go_wp2_with (fail)
                        go_at_call 25
                        refine (C2.out _).mono ?_
                        rintro e w2 ⟨rfl, hb2⟩
                        have ck := far_cell (HFA.out.ext (HEw.out.tr hb2)) hlt
                        go_wp2
                        refine ⟨?_, by simp [intOf]; omega⟩
                        repeat apply Exists.intro
                        refine And.intro ?_ rfl
                        exact ⟨k + 1, by omega, rfl, by go_num, HS1.out, HEi.out.tr hb2⟩
                  · obtain rfl : k = 6 := by omega
                    go_wp2
                    go_meet
                    exact ⟨by rw [HNo.out]; rfl, HEi.out⟩
              case rest =>
                obtain ⟨rfl, hEc⟩ := hcut
                have hq6 : (bnx f fr2 p (lv - 1) 6).getD p < 6 := by
                  cases hbx : bnx f fr2 p (lv - 1) 6 with
                  | none => exact hp6
                  | some q => exact (bnx_lt hbx).1
                have hwy := HWy.out
                have hbe : bway f fr2 (r + 1) p = (bnx f fr2 p (lv - 1) 6).getD p :: bway f fr2 r ((bnx f fr2 p (lv - 1) 6).getD p) := by rw [HL1.out]; rfl
                rw [hbe] at hwy
                generalize (bnx f fr2 p (lv - 1) 6).getD p = q at hq6 hwy ⊢
                have HWq := Lib.hid hwy
                have HO1 := Lib.hid (HO.out.ext hEc)
                have HE1 := Lib.hid (HE.out.tr hEc)
                have hz1 := hEc.size
                have hol : (out.map fun x => ((x : Nat) : Int)).length ≤ 1048576 := by rw [List.length_map]; omega
                clear hbe hwy HWy HO HE
                go_wp2_with (at_builtin; refine wpList_append1_at _ rfl _ _ 26 rfl wo.heap.size 3 Tryd.underlying26 infoInt rfl _ (out.map fun x => ((x : Nat) : Int)) rfl (HO1.out.ext (by (repeat' (first | (with_reducible exact Below.refl _ _) | (with_reducible refine Below.mono (by assumption) ?_) | (with_reducible refine Below.trans ?_ (Below.mono (by assumption) ?_)) | (with_reducible refine Below.alloc ?_ ?_ _) | (with_reducible refine Below.drew ?_) | (with_reducible refine below_drewN ?_ _) | (with_reducible refine Below.setCell ?_ ?_ _) | (simp only [World.size_alloc, World.size_setCell, World.size_drew, size_drewN]; omega) | omega)))) _ ((q : Nat) : Int) rfl ?_ ?_ ?_ ?_)
                all_goals try (first | omega | (simp only [World.size_alloc]; omega) | (go_simp; done))
                intro v' w5 hown5 hgrow hat
                have hEb : Ext wc (wc.alloc (.cells #[.int .i64 q] 3)) := by (repeat' (first | (with_reducible exact Below.refl _ _) | (with_reducible refine Below.mono (by assumption) ?_) | (with_reducible refine Below.trans ?_ (Below.mono (by assumption) ?_)) | (with_reducible refine Below.alloc ?_ ?_ _) | (with_reducible refine Below.drew ?_) | (with_reducible refine below_drewN ?_ _) | (with_reducible refine Below.setCell ?_ ?_ _) | (simp only [World.size_alloc, World.size_setCell, World.size_drew, size_drewN]; omega) | omega))
                have hE5 : Ext wo w5 := Below.grown (HE1.out.tr hEb) hgrow (HE1.out.tr hEb).size (fun g hg => own1_block HO1.out g hg)
                have HO5 := Lib.hid hown5
                have HE5 := Lib.hid hE5
                clear hown5 hE5 hgrow hat hEb HO1 HE1
                go_wp2
                refine ⟨?_, by simp [intOf]; omega⟩
                repeat apply Exists.intro
                refine And.intro ?_ rfl
                exact ⟨r, q, lv - 1, out ++ [q], rfl, by go_num, hq6, .inl (by have := HL1.out; omega), by rw [List.append_assoc]; exact HWq.out, by simp only [List.length_append, List.length_singleton]; omega, by rw [List.map_append]; exact HO5.out, HE5.out⟩
            · obtain rfl : rem = 0 := by omega
              have hres : out = s :: bway f fr2 (fr2 s - 1).toNat s := by have := HWy.out; simpa [bway] using this
              have hE0 : Ext w wr := hE.tr HE.out
              have hfr := HO.out.fresh (w := w) (by have := hE.size; omega) hE0
              obtain ⟨A', c', rfl, hle'⟩ := own1_cut HO.out
              obtain ⟨A2, c2, he2, hA2, hf2, _⟩ := hfr
              cases he2
              have HA := Lib.hid hA2
              have HFz := Lib.hid hf2
              have HRes := Lib.hid hres
              clear hres hA2 hf2 HWy HO
              go_wp2_with (fail)
              go_at_call 38
              refine (clip_c A' out.length c' _ (by rw [List.length_map] at hle'; exact hle')).mono ?_
              rintro e w' ⟨rfl, rfl⟩
              go_wp2
              go_ret
              refine ⟨fr2, HD.out, ?_⟩
              rw [← HRes.out]
              exact ⟨A', out.length, by rw [List.length_map]; rfl, HA.out, HFz.out, hE0⟩
        | cons a r =>
          have hpop := HBF.out.pop
          have hla : wr.cell? ⟨g, off, none⟩ = some (.int .i64 ((a : Nat) : Int)) := by
            have := hcur 0 a rfl
            rw [hBq.cell]
            exact this
          have htl : ∀ j x, r[j]? = some x → cur[off + 1 + j]? = some (.int .i64 ((x : Nat) : Int)) := fun j x hj => by
            have := hcur (j + 1) x (by simpa using hj)
            rw [show off + 1 + j = off + (j + 1) by omega]
            exact this
          have HP := Lib.hid hpop
          have HTL := Lib.hid htl
          have HBQ := Lib.hid hBq
          have hle1 : r.length + 1 ≤ cap := by simpa using hle
          clear hpop htl hBq hcur hle
          simp only [List.length_cons] at HN ⊢
          go_upto_region 12 with (fail)
          go_cut [6] from 38 to 39 (fun v W => W = wr ∧ OwnQ wr w1.heap.size 3 v r)
          case first =>
            by_cases hc1 : cap = 1
            · subst hc1
              obtain rfl : r = [] := List.eq_nil_of_length_eq_zero (by omega)
              go_wp2_with (fail)
              go_meet
              exact ⟨rfl, g, off, 0, cur, rfl, hgB, HBQ.out, Nat.le_refl _, by omega, fun j x h => by cases h⟩
            · have hc2 : 2 ≤ cap := by omega
              go_wp2_with (fail)
              go_meet
              exact ⟨rfl, g, off + 1, cap - 1, cur, rfl, hgB, HBQ.out, by omega, by omega, HTL.out⟩
          case rest =>
            obtain ⟨hwc, hQ1⟩ := hcut
            subst hwc
            have HQ1 := Lib.hid hQ1
            clear hQ1 HBQ HTL
            obtain ⟨wi, rfl⟩ : ∃ wi : World, wi = wc := ⟨_, rfl⟩
            go_wp2
            go_loopw [6, 40] (fun v i W => ∃ (k : Nat) (fr : Nat → Int) (r' : List Nat), k ≤ 6 ∧ i = .int .i64 k ∧ BfsI f s fr r' a k ∧ r'.length + 2 * (6 - dsc fr) + 1 ≤ gk ∧ OwnQ W w1.heap.size 3 v r' ∧ Blk W w.heap.size 44 (matA f) ∧ Blk W gf 3 (farA fr) ∧ w1.heap.size ≤ W.heap.size ∧ Ext w W) (fun _ i _ => 6 - (intOf i).toNat)
            case atStart => exact ⟨0, fr2, r, Nat.zero_le _, rfl, HP.out, by have := HN.out; omega, HQ1.out, HM.out, HFA.out, hsz, hE⟩
            case round =>
              clear HP HN HQ1 HM HFA HBF hsz hE hle1 hla
              obtain ⟨k, fr, q, hk, rfl, hbf, hms, hQ, hM, hFA, hsz, hE⟩ := hrel
              have HM := Lib.hid hM
              have HFA := Lib.hid hFA
              have HBF := Lib.hid hbf
              have HQ := Lib.hid hQ
              have ha6 := hbf.ha.1
              have hfa1 := hbf.ha.2
              have hfa6 : fr a ≤ 6 := by have := hbf.cap a; have := dsc_le fr; omega
              by_cases hlt : k < 6
              · have m0 := mat_cell hM (i := 0) (by omega)
                have m1 := mat_cell hM (i := 1) (by omega)
                have m2 := mat_cell hM (i := 2) (by omega)
                have m3 := mat_cell hM (i := 3) (by omega)
                have m4 := mat_cell hM (i := 4) (by omega)
                have m5 := mat_cell hM (i := 5) (by omega)
                have C2 := fun w => has_c f k a w hlt ha6 HF.out
                have hki : (k : Int) < 6 := by omega
                have hai : (a : Int) < 6 := by omega
                clear hM hFA hbf hQ
                cases hb : (f k).testBit a with
                | false =>
                  rw [hb] at C2
                  have C2 := Lib.hid C2
                  have hst := HBF.out.stay (.inl hb)
                  have HST := Lib.hid hst
                  clear hb hst
                  go_wp2_with (fail)
                  go_at_call 25
                  refine (C2.out _).mono ?_
                  rintro e w2 ⟨rfl, hb2⟩
                  go_wp2
                  refine ⟨?_, by simp [intOf]; omega⟩
                  repeat apply Exists.intro
                  refine And.intro ?_ rfl
                  exact ⟨k + 1, fr, q, by omega, by go_num, HST.out, hms, HQ.out.ext hb2, HM.out.ext hb2, HFA.out.ext hb2, by have := hb2.size; omega, hE.tr hb2⟩
                | true =>
                  rw [hb] at C2
                  have C2 := Lib.hid C2
                  by_cases h0 : fr k < 0
                  · have hst := HBF.out.push hlt hb h0
                    have hdu := dsc_up hlt h0 (show (0 : Int) ≤ fr a + 1 by omega)
                    have hdl := dsc_le (updI fr k (fr a + 1))
                    have HST := Lib.hid hst
                    have hql : q.length ≤ 18 := by omega
                    clear hb hst
                    go_wp2_with (fail)
                    go_at_call 25
                    refine (C2.out _).mono ?_
                    rintro e w2 ⟨rfl, hb2⟩
                    have hFA2 := HFA.out.ext hb2
                    have ck := far_cell hFA2 hlt
                    have ca := far_cell hFA2 ha6
                    have hfz := hFA2.frozen
                    have hgl := hFA2.lt
                    have hz2 := hb2.size
                    have hB3 : Blk (w2.setCell ⟨gf, k, none⟩ (.int .i64 (fr a + 1))) gf 3 (farA (updI fr k (fr a + 1))) := by
                      have h := hFA2.set_ k (.int .i64 (fr a + 1))
                      rwa [farA_set _ hlt] at h
                    have hM3 : Blk (w2.setCell ⟨gf, k, none⟩ (.int .i64 (fr a + 1))) w.heap.size 44 (matA f) := (Below.heap_setCell w2 ⟨gf, k, none⟩ _ w.heap.size (by simp; omega)).trans (HM.out.ext hb2)
                    have HQ3 := Lib.hid ((HQ.out.ext hb2).set_ (i := k) (u := .int .i64 (fr a + 1)) hgf1)
                    have HB3 := Lib.hid hB3
                    have HM3 := Lib.hid hM3
                    have hE3 : Ext w (w2.setCell ⟨gf, k, none⟩ (.int .i64 (fr a + 1))) := by (repeat' (first | (with_reducible exact Below.refl _ _) | (with_reducible refine Below.mono (by assumption) ?_) | (with_reducible refine Below.trans ?_ (Below.mono (by assumption) ?_)) | (with_reducible refine Below.alloc ?_ ?_ _) | (with_reducible refine Below.drew ?_) | (with_reducible refine below_drewN ?_ _) | (with_reducible refine Below.setCell ?_ ?_ _) | (simp only [World.size_alloc, World.size_setCell, World.size_drew, size_drewN]; omega) | omega))
                    have HE3 := Lib.hid hE3
                    have hlit : Blk ((w2.setCell ⟨gf, k, none⟩ (.int .i64 (fr a + 1))).alloc (.cells #[.int .i64 k] 3)) w2.heap.size 3 #[.int .i64 k] := by
                      have := Blk.new (w2.setCell ⟨gf, k, none⟩ (.int .i64 (fr a + 1))) 3 #[.int .i64 k]
                      simpa using this
                    have HL := Lib.hid (hlit.cell 0)
                    clear hFA2 hB3 hM3 hE3 hlit
                    go_wp2_with (at_builtin; go_loud (refine wpList_appendQ _ rfl _ _ 26 rfl w1.heap.size 3 Tryd.underlying26 infoInt rfl _ q rfl (HQ3.out.ext (by (repeat' (first | (with_reducible exact Below.refl _ _) | (with_reducible refine Below.mono (by assumption) ?_) | (with_reducible refine Below.trans ?_ (Below.mono (by assumption) ?_)) | (with_reducible refine Below.alloc ?_ ?_ _) | (with_reducible refine Below.drew ?_) | (with_reducible refine below_drewN ?_ _) | (with_reducible refine Below.setCell ?_ ?_ _) | (simp only [World.size_alloc, World.size_setCell, World.size_drew, size_drewN]; omega) | omega)))) _ k rfl (HL.out.trans rfl) (by omega) (by simp only [World.size_alloc, World.size_setCell]; omega) ?_))
                    intro v4 w4 hQ4 hg4
                    have hEa : Ext (w2.setCell ⟨gf, k, none⟩ (.int .i64 (fr a + 1))) ((w2.setCell ⟨gf, k, none⟩ (.int .i64 (fr a + 1))).alloc (.cells #[.int .i64 k] 3)) := by (repeat' (first | (with_reducible exact Below.refl _ _) | (with_reducible refine Below.mono (by assumption) ?_) | (with_reducible refine Below.trans ?_ (Below.mono (by assumption) ?_)) | (with_reducible refine Below.alloc ?_ ?_ _) | (with_reducible refine Below.drew ?_) | (with_reducible refine below_drewN ?_ _) | (with_reducible refine Below.setCell ?_ ?_ _) | (simp only [World.size_alloc, World.size_setCell, World.size_drew, size_drewN]; omega) | omega))
                    have hown := (HQ3.out.ext hEa).own
                    have hB4 := (HB3.out.ext hEa).grown hg4 (fun e => by have := (hown gf e.symm).1; omega)
                    have hM4 := (HM3.out.ext hEa).grown hg4 (fun e => by have := (hown w.heap.size e.symm).1; omega)
                    have hE4 : Ext w w4 := Below.grown (HE3.out.tr hEa) hg4 (by simp only [World.size_alloc, World.size_setCell]; omega) (fun g hg => by have := (hown g hg).1; omega)
                    have hz4 := hg4.size
                    simp only [World.size_alloc, World.size_setCell] at hz4
                    have HQ4 := Lib.hid hQ4
                    have HB4 := Lib.hid hB4
                    have HM4 := Lib.hid hM4
                    have HE4 := Lib.hid hE4
                    clear hQ4 hB4 hM4 hE4 hg4 hown
                    go_wp2
                    refine ⟨?_, by simp [intOf]; omega⟩
                    repeat apply Exists.intro
                    refine And.intro ?_ rfl
                    exact ⟨k + 1, _, q ++ [k], by omega, by go_num, HST.out, by simp only [List.length_append, List.length_singleton]; omega, HQ4.out, HM4.out, HB4.out, by omega, HE4.out⟩
                  · have h0' : 0 ≤ fr k := by omega
                    have hst := HBF.out.stay (.inr h0')
                    have HST := Lib.hid hst
                    clear hb hst
                    go_wp2_with (fail)
                    go_at_call 25
                    refine (C2.out _).mono ?_
                    rintro e w2 ⟨rfl, hb2⟩
                    have ck := far_cell (HFA.out.ext hb2) hlt
                    go_wp2
                    refine ⟨?_, by simp [intOf]; omega⟩
                    repeat apply Exists.intro
                    refine And.intro ?_ rfl
                    exact ⟨k + 1, fr, q, by omega, by go_num, HST.out, hms, HQ.out.ext hb2, HM.out.ext hb2, HFA.out.ext hb2, by have := hb2.size; omega, hE.tr hb2⟩
              · obtain rfl : k = 6 := by omega
                have hcl := hbf.close
                have HCL := Lib.hid hcl
                clear hcl hbf hM hFA hQ
                go_wp2
                go_roundg (q.length + 2 * (6 - dsc fr))
                case measure => omega
                case rel => exact ⟨fr, q, rfl, by omega, HCL.out, HQ.out, HM.out, HFA.out, hsz, hE⟩
end Go.Proofs.YtbglkjmoednapaaDoor
