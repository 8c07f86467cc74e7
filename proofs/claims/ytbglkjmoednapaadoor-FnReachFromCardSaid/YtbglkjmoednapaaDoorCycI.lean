/-
  Contract of the program's CycleOf: the reference's cycle.
-/
import Derived.Test.YtbglkjmoednapaaDoorCycE
import Derived.Test.YtbglkjmoednapaaDoorBackW
namespace Go.Proofs.YtbglkjmoednapaaDoor
set_option linter.unusedSimpArgs false
set_option linter.unusedVariables false
set_option maxRecDepth 100000
open Go.RowKit

theorem cyc_nil (w w' : World) (hE : Ext w w') : FreshI [] w (.returned (.slice none 0 0)) w' := ⟨none, 0, rfl, SlAt.nil, (fun a ha => by cases ha), hE⟩
theorem cyc_old {w w1 w2 : World} {xs : List Int} {e : Ending} (h : FreshI xs w1 e w2) (hE : Ext w w1) : FreshI xs w e w2 := by
  obtain ⟨A, c, rfl, h1, h2, h3⟩ := h
  have hz := hE.size
  exact ⟨A, c, rfl, SlAt.mono h1 (fun b hb _ => by omega) (fun _ _ h => h), fun a ha => ⟨by have := (h2 a ha).1; omega, (h2 a ha).2⟩, hE.tr h3⟩
theorem cycV_len (many : Int) (L : List T3) : (cycV many L).length ≤ 7 := by
  unfold cycV
  split
  · rename_i hv
    obtain ⟨m, rfl, hm6, _, hval⟩ := edgesValid_iff hv
    simp only [Int.toNat_natCast]
    unfold cycR
    cases hf : (List.range m).findSome? (cycS m L) with
    | none => simp
    | some x =>
      obtain ⟨s, hs, hx⟩ := List.exists_of_findSome?_eq_some hf
      unfold cycS at hx
      split at hx
      · cases hx
      · cases hx
        have hbr := best_range (f := farT L s m) (m := m) (fun v => farT_ge hval s m v) L s
        simp only [Option.getD_some, List.length_cons, way_len]
        omega
  · simp
/-- what the program's loop asks of a number -/
theorem cyc_bit {m : Nat} {L : List T3} (hm : m ≤ 6) (hL : EdM m L) {s : Nat} (hs : s < m) : (clo (rowsOf [1, 2, 3, 4] L) s).testBit s = true ↔ Relation.TransGen (Ed L) s s := by
  have h6 := edM_ed6 hm hL
  have hE : Bit (rowsOf [1, 2, 3, 4] L) = Ed L := bit_ed h6 (fun e => ⟨fun he => ⟨he, by obtain ⟨_, _, _, _, _, h1, h2⟩ := hL e he; simp; omega⟩, fun h => h.1⟩)
  have hlow := rowsOf_low [1, 2, 3, 4] L h6
  rw [← hE, ← clo_iff hlow]
  exact ⟨fun h => ⟨by omega, h⟩, fun h => h.2⟩

set_option maxHeartbeats 4000000 in
theorem implCycleOf_ok (m : Nat) (L : List T3) (S : Nat → Prop) (A : Option Addr) (c : Nat) (w : World) (hx : Ops S w A L) (hl : L.length ≤ 144) (hm6 : m ≤ 6) (hL : EdM m L) (hv : edgesValid m L = true) :
    Calls Tryd.prog 9 #[.int .i64 m, .slice A L.length c] w (FreshI (cycR m L) w) := by
  have CV := fun w hx => implEdgesValid_c m L S A c w hx (by omega)
  rw [hv] at CV
  have CV := Lib.hid CV
  have h6 := edM_ed6 hm6 hL
  have hlow := rowsOf_low [1, 2, 3, 4] L h6
  have hcl := clo_low hlow
  have CA := Lib.hid (fun w hx => allOf_c L S A c w hx h6 (by omega))
  have CR := Lib.hid (fun w => reach_c (rowsOf [1, 2, 3, 4] L) w hlow)
  have CB := Lib.hid (fun s hs w => back_c (rowsOf [1, 2, 3, 4] L) s w hlow hs)
  have CE := Lib.hid (fun s fr hs hD hT => cyc_back (L := L) (m := m) (s := s) (fr := fr) hm6 hL hs hD hT)
  have CN := Lib.hid (fun s hs => (cycS_some (m := m) (L := L) hL (s := s) hs).2)
  have CT := Lib.hid (fun s hs => cyc_bit (m := m) (L := L) hm6 hL (s := s) hs)
  have HC := Lib.hid hcl
  generalize clo (rowsOf [1, 2, 3, 4] L) = G at CR CT HC
  generalize rowsOf [1, 2, 3, 4] L = F at CA CR CB CE
  clear hv hL h6 hlow hcl
  go_enter Tryd.func9, Tryd.ntmps9
  go_wp2_with (fail)
  go_at_call 17
  refine (CV.out _ (hx.ext (by (repeat' (first | (with_reducible exact Below.refl _ _) | (with_reducible refine Below.mono (by assumption) ?_) | (with_reducible refine Below.trans ?_ (Below.mono (by assumption) ?_)) | (with_reducible refine Below.alloc ?_ ?_ _) | (with_reducible refine Below.drew ?_) | (with_reducible refine below_drewN ?_ _) | (with_reducible refine Below.setCell ?_ ?_ _) | (simp only [World.size_alloc, World.size_setCell, World.size_drew, size_drewN]; omega) | omega))))).mono ?_
  rintro e w1 ⟨rfl, hb⟩
  obtain ⟨hc, hf, hz, hs⟩ := bcell hb
  (try simp only [World.size_alloc, World.size_setCell, World.size_drew, size_drewN] at hs); (first | have l0 := Nat.lt_of_lt_of_le l0 (show _ ≤ w1.heap.size by omega) | have l0 : w.heap.size < w1.heap.size := (by omega) | skip); (try have l0e := Nat.le_of_lt l0); (try have l0f := Nat.le_add_right_of_le (k := 1) l0e); (try have l1 := Nat.lt_of_lt_of_le l1 (show _ ≤ w1.heap.size by omega)); (try have l1e := Nat.le_of_lt l1); (try have l1f := Nat.le_add_right_of_le (k := 1) l1e); (try have l2 := Nat.lt_of_lt_of_le l2 (show _ ≤ w1.heap.size by omega)); (try have l2e := Nat.le_of_lt l2); (try have l2f := Nat.le_add_right_of_le (k := 1) l2e); (try have l3 := Nat.lt_of_lt_of_le l3 (show _ ≤ w1.heap.size by omega)); (try have l3e := Nat.le_of_lt l3); (try have l3f := Nat.le_add_right_of_le (k := 1) l3e)
  have e1 : Ext w w1 := by (repeat' (first | (with_reducible exact Below.refl _ _) | (with_reducible refine Below.mono (by assumption) ?_) | (with_reducible refine Below.trans ?_ (Below.mono (by assumption) ?_)) | (with_reducible refine Below.alloc ?_ ?_ _) | (with_reducible refine Below.drew ?_) | (with_reducible refine below_drewN ?_ _) | (with_reducible refine Below.setCell ?_ ?_ _) | (simp only [World.size_alloc, World.size_setCell, World.size_drew, size_drewN]; omega) | omega))
  have E1 := Lib.hid e1
  clear hc hf hz hs hb e1
  go_wp2_with (fail)
  go_at_call 20
  refine (CA.out _ (hx.ext E1.out)).mono ?_
  rintro e w2 ⟨rfl, hb⟩
  obtain ⟨hc, hf, hz, hs⟩ := bcell hb
  (try simp only [World.size_alloc, World.size_setCell, World.size_drew, size_drewN] at hs); (first | have l0 := Nat.lt_of_lt_of_le l0 (show _ ≤ w2.heap.size by omega) | have l0 : w.heap.size < w2.heap.size := (by omega) | skip); (try have l0e := Nat.le_of_lt l0); (try have l0f := Nat.le_add_right_of_le (k := 1) l0e); (try have l1 := Nat.lt_of_lt_of_le l1 (show _ ≤ w2.heap.size by omega)); (try have l1e := Nat.le_of_lt l1); (try have l1f := Nat.le_add_right_of_le (k := 1) l1e); (try have l2 := Nat.lt_of_lt_of_le l2 (show _ ≤ w2.heap.size by omega)); (try have l2e := Nat.le_of_lt l2); (try have l2f := Nat.le_add_right_of_le (k := 1) l2e); (try have l3 := Nat.lt_of_lt_of_le l3 (show _ ≤ w2.heap.size by omega)); (try have l3e := Nat.le_of_lt l3); (try have l3f := Nat.le_add_right_of_le (k := 1) l3e)
  have e2 : Ext w w2 := E1.out.tr hb
  have E2 := Lib.hid e2
  have hB : Blk (w2.alloc (.cells (matA F) 44)) w2.heap.size 44 (matA F) := Blk.new _ _ _
  have HB := Lib.hid hB
  have hz2 := e2.size
  clear hc hf hz hs hb e2 hB
  go_wp2_with (fail)
  go_at_call 21
  refine (CR.out _).mono ?_
  rintro e w3 ⟨rfl, hb⟩
  obtain ⟨hc, hf, hz, hs⟩ := bcell hb
  (try simp only [World.size_alloc, World.size_setCell, World.size_drew, size_drewN] at hs); (first | have l0 := Nat.lt_of_lt_of_le l0 (show _ ≤ w3.heap.size by omega) | have l0 : w.heap.size < w3.heap.size := (by omega) | skip); (try have l0e := Nat.le_of_lt l0); (try have l0f := Nat.le_add_right_of_le (k := 1) l0e); (try have l1 := Nat.lt_of_lt_of_le l1 (show _ ≤ w3.heap.size by omega)); (try have l1e := Nat.le_of_lt l1); (try have l1f := Nat.le_add_right_of_le (k := 1) l1e); (try have l2 := Nat.lt_of_lt_of_le l2 (show _ ≤ w3.heap.size by omega)); (try have l2e := Nat.le_of_lt l2); (try have l2f := Nat.le_add_right_of_le (k := 1) l2e); (try have l3 := Nat.lt_of_lt_of_le l3 (show _ ≤ w3.heap.size by omega)); (try have l3e := Nat.le_of_lt l3); (try have l3f := Nat.le_add_right_of_le (k := 1) l3e)
  have hB3 := HB.out.ext hb
  have e3 : Ext w w3 := (E2.out.tr (show Ext w2 (w2.alloc (.cells (matA F) 44)) by (repeat' (first | (with_reducible exact Below.refl _ _) | (with_reducible refine Below.mono (by assumption) ?_) | (with_reducible refine Below.trans ?_ (Below.mono (by assumption) ?_)) | (with_reducible refine Below.alloc ?_ ?_ _) | (with_reducible refine Below.drew ?_) | (with_reducible refine below_drewN ?_ _) | (with_reducible refine Below.setCell ?_ ?_ _) | (simp only [World.size_alloc, World.size_setCell, World.size_drew, size_drewN]; omega) | omega)))).tr hb
  have E3 := Lib.hid e3
  have HB3 := Lib.hid hB3
  have hG : Blk (w3.alloc (.cells (matA G) 44)) w3.heap.size 44 (matA G) := Blk.new _ _ _
  have HG := Lib.hid hG
  have hz3 := hb.size
  simp only [World.size_alloc] at hz3
  clear hc hf hz hs hb e3 hB3 hG HB
  go_wp2
  go_loopw [17] (fun i wr => ∃ k : Nat, k ≤ m ∧ i = .int .i64 k ∧ Blk wr w2.heap.size 44 (matA F) ∧ Blk wr w3.heap.size 44 (matA G) ∧ Ext w wr ∧ ∀ j, j < k → cycS m L j = none) (fun i _ => m - (intOf i).toNat)
  case atStart => exact ⟨0, Nat.zero_le _, rfl, HB3.out.ext (by (repeat' (first | (with_reducible exact Below.refl _ _) | (with_reducible refine Below.mono (by assumption) ?_) | (with_reducible refine Below.trans ?_ (Below.mono (by assumption) ?_)) | (with_reducible refine Below.alloc ?_ ?_ _) | (with_reducible refine Below.drew ?_) | (with_reducible refine below_drewN ?_ _) | (with_reducible refine Below.setCell ?_ ?_ _) | (simp only [World.size_alloc, World.size_setCell, World.size_drew, size_drewN]; omega) | omega))), HG.out, E3.out.tr (by (repeat' (first | (with_reducible exact Below.refl _ _) | (with_reducible refine Below.mono (by assumption) ?_) | (with_reducible refine Below.trans ?_ (Below.mono (by assumption) ?_)) | (with_reducible refine Below.alloc ?_ ?_ _) | (with_reducible refine Below.drew ?_) | (with_reducible refine below_drewN ?_ _) | (with_reducible refine Below.setCell ?_ ?_ _) | (simp only [World.size_alloc, World.size_setCell, World.size_drew, size_drewN]; omega) | omega))), fun j h => by omega⟩
  case round =>
    obtain ⟨k, hk, rfl, hM, hR, hE, hall⟩ := hrel
    have HL := Lib.hid hall
    have HM := Lib.hid hM
    have HE := Lib.hid hE
    clear hall HB3 HG hE
    by_cases hlt : k < m
    · have hk6 : k < 6 := by omega
      have m0 := mat_cell hR (i := 0) (by omega)
      have m1 := mat_cell hR (i := 1) (by omega)
      have m2 := mat_cell hR (i := 2) (by omega)
      have m3 := mat_cell hR (i := 3) (by omega)
      have m4 := mat_cell hR (i := 4) (by omega)
      have m5 := mat_cell hR (i := 5) (by omega)
      have HR := Lib.hid hR
      have hki : (k : Int) < m := by omega
      have C2 := fun w => has_c G k k w hk6 hk6 HC.out
      clear hM hR
      cases hb : (G k).testBit k with
      | true =>
        rw [hb] at C2
        have C2 := Lib.hid C2
        have HT := Lib.hid ((CT.out k hlt).1 hb)
        clear hb
        go_wp2_with (fail)
        go_at_call 25
        refine (C2.out _).mono ?_
        rintro e w4 ⟨rfl, hb4⟩
        clear m0 m1 m2 m3 m4 m5
        have hM4 := HM.out.ext hb4
        have m0 := mat_cell hM4 (i := 0) (by omega)
        have m1 := mat_cell hM4 (i := 1) (by omega)
        have m2 := mat_cell hM4 (i := 2) (by omega)
        have m3 := mat_cell hM4 (i := 3) (by omega)
        have m4 := mat_cell hM4 (i := 4) (by omega)
        have m5 := mat_cell hM4 (i := 5) (by omega)
        have E4 := Lib.hid (HE.out.tr hb4)
        clear hM4
        go_wp2_with (fail)
        go_at_call 26
        refine (CB.out k hk6 _).mono ?_
        rintro e w5 ⟨fr, hD, hF⟩
        have hcs := CE.out k fr hlt hD HT.out
        have hres : cycR m L = (k :: bway F fr (fr k - 1).toNat k).map fun x => ((x : Nat) : Int) := by
          unfold cycR
          rw [findSome_at hlt (fun s' h => HL.out s' h) hcs]
          rfl
        rw [← hres] at hF
        have hF2 := cyc_old hF (E4.out.tr (by (repeat' (first | (with_reducible exact Below.refl _ _) | (with_reducible refine Below.mono (by assumption) ?_) | (with_reducible refine Below.trans ?_ (Below.mono (by assumption) ?_)) | (with_reducible refine Below.alloc ?_ ?_ _) | (with_reducible refine Below.drew ?_) | (with_reducible refine below_drewN ?_ _) | (with_reducible refine Below.setCell ?_ ?_ _) | (simp only [World.size_alloc, World.size_setCell, World.size_drew, size_drewN]; omega) | omega))))
        have HF2 := Lib.hid hF2
        obtain ⟨A5, c5, rfl, h1, h2, h3⟩ := HF2.out
        have H1 := Lib.hid h1
        have H2 := Lib.hid h2
        clear hF hF2 hcs hres h1 h2 hD
        go_wp2
        go_ret
        exact ⟨A5, c5, rfl, H1.out, H2.out, h3⟩
      | false =>
        rw [hb] at C2
        have C2 := Lib.hid C2
        have hno := CN.out k hlt (fun h => by have := (CT.out k hlt).2 h; rw [hb] at this; cases this)
        have hall2 : ∀ j, j < k + 1 → cycS m L j = none := fun j hj => by
          by_cases e : j = k
          · subst e; exact hno
          · exact HL.out j (by omega)
        have HL2 := Lib.hid hall2
        clear hall2 hb hno
        go_wp2_with (fail)
        go_at_call 25
        refine (C2.out _).mono ?_
        rintro e w4 ⟨rfl, hb4⟩
        go_wp2
        exact ⟨⟨k + 1, by omega, by go_num, HM.out.ext hb4, HR.out.ext hb4, HE.out.tr hb4, HL2.out⟩, by simp [intOf]; omega⟩
    · obtain rfl : k = m := by omega
      have hres : cycR k L = [] := by
        unfold cycR
        rw [findSome_none (fun s' h => HL.out s' h)]
        rfl
      have HRs := Lib.hid hres
      clear hres hM hR
      go_wp2
      go_ret
      rw [HRs.out]
      exact cyc_nil _ _ HE.out
set_option maxHeartbeats 1000000 in
theorem implCycleOf_c (many : Int) (L : List T3) (S : Nat → Prop) (A : Option Addr) (c : Nat) (w : World) (hx : Ops S w A L) (hn : L.length ≤ 1048576) :
    Calls Tryd.prog 9 #[.int .i64 many, .slice A L.length c] w (FreshI (cycV many L) w) := by
  unfold cycV
  cases hv : edgesValid many L with
  | true =>
    rw [if_pos rfl]
    obtain ⟨m, rfl, hm6, hl, hval⟩ := edgesValid_iff hv
    simp only [Int.toNat_natCast]
    exact implCycleOf_ok m L S A c w hx hl hm6 hval hv
  | false =>
    rw [if_neg (by simp)]
    have CV := fun w hx => implEdgesValid_c many L S A c w hx hn
    rw [hv] at CV
    have CV := Lib.hid CV
    clear hv
    go_enter Tryd.func9, Tryd.ntmps9
    go_wp2_with (fail)
    go_at_call 17
    refine (CV.out _ (hx.ext (by (repeat' (first | (with_reducible exact Below.refl _ _) | (with_reducible refine Below.mono (by assumption) ?_) | (with_reducible refine Below.trans ?_ (Below.mono (by assumption) ?_)) | (with_reducible refine Below.alloc ?_ ?_ _) | (with_reducible refine Below.drew ?_) | (with_reducible refine below_drewN ?_ _) | (with_reducible refine Below.setCell ?_ ?_ _) | (simp only [World.size_alloc, World.size_setCell, World.size_drew, size_drewN]; omega) | omega))))).mono ?_
    rintro e w1 ⟨rfl, hb⟩
    obtain ⟨hc, hf, hz, hs⟩ := bcell hb
    (try simp only [World.size_alloc, World.size_setCell, World.size_drew, size_drewN] at hs); (first | have l0 := Nat.lt_of_lt_of_le l0 (show _ ≤ w1.heap.size by omega) | have l0 : w.heap.size < w1.heap.size := (by omega) | skip); (try have l0e := Nat.le_of_lt l0); (try have l0f := Nat.le_add_right_of_le (k := 1) l0e); (try have l1 := Nat.lt_of_lt_of_le l1 (show _ ≤ w1.heap.size by omega)); (try have l1e := Nat.le_of_lt l1); (try have l1f := Nat.le_add_right_of_le (k := 1) l1e); (try have l2 := Nat.lt_of_lt_of_le l2 (show _ ≤ w1.heap.size by omega)); (try have l2e := Nat.le_of_lt l2); (try have l2f := Nat.le_add_right_of_le (k := 1) l2e); (try have l3 := Nat.lt_of_lt_of_le l3 (show _ ≤ w1.heap.size by omega)); (try have l3e := Nat.le_of_lt l3); (try have l3f := Nat.le_add_right_of_le (k := 1) l3e)
    go_wp2
    go_ret
    exact cyc_nil _ _ (by (repeat' (first | (with_reducible exact Below.refl _ _) | (with_reducible refine Below.mono (by assumption) ?_) | (with_reducible refine Below.trans ?_ (Below.mono (by assumption) ?_)) | (with_reducible refine Below.alloc ?_ ?_ _) | (with_reducible refine Below.drew ?_) | (with_reducible refine below_drewN ?_ _) | (with_reducible refine Below.setCell ?_ ?_ _) | (simp only [World.size_alloc, World.size_setCell, World.size_drew, size_drewN]; omega) | omega)))
end Go.Proofs.YtbglkjmoednapaaDoor
