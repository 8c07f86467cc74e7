/-
  The program's Installed and FirstOrders, handed back as slices of the call's own.
-/
import Derived.Test.YtdgfipoibnjhaaaOutX
import Derived.Test.YtdgfipoibnjhaaaPermS
namespace Go.Proofs.Ytdgfipoibnjhaaa
set_option linter.unusedSimpArgs false
set_option linter.unusedVariables false
set_option maxRecDepth 100000
open Go.RowKit

/-- rows that have room -/
def HasC (ps : List PR) : Prop := ∀ p ∈ ps, p.xs.length ≤ p.c
theorem HasC.app {ps : List PR} {p : PR} (h : HasC ps) (h2 : p.xs.length ≤ p.c) : HasC (ps ++ [p]) := fun q hq => by
  rcases List.mem_append.1 hq with hq | hq
  · exact h q hq
  · obtain rfl := List.mem_singleton.1 hq
    exact h2
theorem HasC.nil : HasC [] := fun p hp => by cases hp
set_option maxHeartbeats 1000000 in
theorem implInstalled_own (h : List TxnT) (S : Nat → Prop) (A : Option Addr) (c : Nat) (key : Int) (w : World) (hx : Txns S w A h) (hsm : Small h) (hv : histv h = true) (hkb : inB key 0 2 = true) :
    Calls Try.prog 38 #[.slice A h.length c, .int .i64 key] w fun e w' => ∃ v, e = .returned v ∧ Own1 w' w.heap.size 3 v (inT h key h.length) ∧ Ext w w' := by
  have C := fun w hx => implHistoryValid_c h S A c w hx hsm
  have hn := histv_len hv
  rw [hv] at C
  have C := Lib.hid C
  have CK := fun w => keyOk_c key w
  rw [hkb] at CK
  have CK := Lib.hid CK
  have hmem := fun n => dnT_mem (h := h) (k := h.length) (n := n)
  have hdn := inD_dn h key h.length
  have hdl := dnT_len h h.length
  have CD := fun w hx => done_c h S A c w hx hsm
  obtain ⟨i0, hi, hz0, hz1, hz2⟩ := info_parts info1
  have hmk : ∀ W, (Instr.makeSlice 39 (.int .i64 0) (.int .i64 h.length)).run Try.prog W = .ok (.slice (some ⟨W.heap.size, 0, none⟩) 0 h.length) (W.alloc (.cells (madeCells (Value.int .i64 0).cells (h.length * 1)) 3)) := fun W => by
    have hm := run_make_rowN (P := Try.prog) 39 3 i0 _ Try.underlying39 hi hz0 .i64 .i64 0 h.length (Nat.zero_le _) (by rw [hz2]; omega) (by omega) W
    rw [hz1] at hm
    exact hm
  generalize dnT h h.length = D at CD hmem hdn hdl
  have CD := Lib.hid CD
  have HM := Lib.hid hmem
  have HD := Lib.hid hdn
  have HDL := Lib.hid hdl
  clear hmem hdn hdl hv hkb
  go_enter Try.func38, Try.ntmps38
  go_wp2_with (fail)
  go_at_call 37
  refine (C.out _ (hx.ext (by (repeat' (first | (with_reducible exact Below.refl _ _) | (with_reducible refine Below.mono (by assumption) ?_) | (with_reducible refine Below.trans ?_ (Below.mono (by assumption) ?_)) | (with_reducible refine Below.alloc ?_ ?_ _) | (with_reducible refine Below.drew ?_) | (with_reducible refine below_drewN ?_ _) | (with_reducible refine Below.setCell ?_ ?_ _) | (simp only [World.size_alloc, World.size_setCell, World.size_drew, size_drewN]; omega) | omega))))).mono ?_
  rintro e w1 ⟨rfl, hb⟩
  obtain ⟨hc, hf, hz, hs⟩ := bcell hb
  (try simp only [World.size_alloc, World.size_setCell, World.size_drew, size_drewN] at hs); (first | have l0 := Nat.lt_of_lt_of_le l0 (show _ ≤ w1.heap.size by omega) | have l0 : w.heap.size < w1.heap.size := (by omega) | skip); (try have l0e := Nat.le_of_lt l0); (try have l0f := Nat.le_add_right_of_le (k := 1) l0e); (try have l1 := Nat.lt_of_lt_of_le l1 (show _ ≤ w1.heap.size by omega)); (try have l1e := Nat.le_of_lt l1); (try have l1f := Nat.le_add_right_of_le (k := 1) l1e); (try have l2 := Nat.lt_of_lt_of_le l2 (show _ ≤ w1.heap.size by omega)); (try have l2e := Nat.le_of_lt l2); (try have l2f := Nat.le_add_right_of_le (k := 1) l2e); (try have l3 := Nat.lt_of_lt_of_le l3 (show _ ≤ w1.heap.size by omega)); (try have l3e := Nat.le_of_lt l3); (try have l3f := Nat.le_add_right_of_le (k := 1) l3e)
  have e1 : Ext w w1 := hb
  have z1 := e1.size
  clear hc hf hz hs hb
  go_wp2_with (fail)
  refine (CK.out _).mono ?_
  rintro e w' ⟨rfl, rfl⟩
  go_wp2_with (fail)
  have e2 : Ext w1 (w1.alloc (.cells (madeCells #[Value.int .i64 0] h.length) 3)) := by (repeat' (first | (with_reducible exact Below.refl _ _) | (with_reducible refine Below.mono (by assumption) ?_) | (with_reducible refine Below.trans ?_ (Below.mono (by assumption) ?_)) | (with_reducible refine Below.alloc ?_ ?_ _) | (with_reducible refine Below.drew ?_) | (with_reducible refine below_drewN ?_ _) | (with_reducible refine Below.setCell ?_ ?_ _) | (simp only [World.size_alloc, World.size_setCell, World.size_drew, size_drewN]; omega) | omega))
  have hO : Own1 (w1.alloc (.cells (madeCells #[Value.int .i64 0] h.length) 3)) w1.heap.size 3 (.slice (some ⟨w1.heap.size, 0, none⟩) 0 h.length) (inD h key (D.take 0)) :=
    Own1.made w1 _ h.length rfl (by omega) (by omega) (by simp [madeCells])
  clear hmk
  refine (CD.out _ (hx.ext (e1.tr e2))).mono ?_
  rintro e w3 ⟨A3, c3, rfl, hD, hfD, hb⟩
  have e3 : Ext w1 w3 := e2.tr hb
  have e30 := e1.tr e3
  have hown := hO.ext hb
  have hD3 := hD.within_hi
  have zz2 : w1.heap.size + 1 ≤ w3.heap.size := by have := hb.size; simpa using this
  simp only [World.size_alloc] at hD3
  have hoff : Off (.slice (some ⟨w1.heap.size, 0, none⟩) 0 h.length) (w1.heap.size + 1) w3.heap.size := fun g hg => by
    simp only [Value.ownBlock] at hg
    cases hg
    omega
  clear hO hD hfD hb e2
  go_wp2
  go_loopw [5, 24] (fun v i wr => ∃ k : Nat, k ≤ D.length ∧ i = .int .i64 k ∧ Own1 wr w1.heap.size 3 v (inD h key (D.take k)) ∧ Ext w1 wr ∧ Ints (fun b => w1.heap.size + 1 ≤ b ∧ b < w3.heap.size) wr A3 D ∧ Off v (w1.heap.size + 1) w3.heap.size ∧ w3.heap.size ≤ wr.heap.size ∧ (inD h key (D.take k)).length ≤ 3 * k) (fun _ i _ => D.length - (intOf i).toNat)
  case atStart => exact ⟨0, Nat.zero_le _, rfl, hown, e3, hD3, hoff, Nat.le_refl _, by simp [inD]⟩
  case round =>
    obtain ⟨k, hk, rfl, hown4, hE4, hD4, hoff4, hz4, hil⟩ := hrel
    obtain ⟨wo, rfl⟩ : ∃ wo : World, wo = wr := ⟨_, rfl⟩
    have hdl := HDL.out
    clear hown hD3 hoff
    by_cases hlt : k < D.length
    · obtain ⟨x, bd, offd, hxk, rfl, _, hbd, cd⟩ := hD4.at_ hlt
      obtain ⟨m, t, rfl, hm, hmt, hmd⟩ := HM.out x (List.mem_of_getElem? hxk)
      have hE40 := e1.tr hE4
      obtain ⟨s, ops, d, A', cap, b, off, hxm, rfl, _, hb0, hOp, c0, c1, c2⟩ := (hx.ext hE40).at_ hm
      rw [hmt] at hxm
      cases hxm
      have hon := hsm.ops hmt
      simp only at hon
      have hsn : inD h key (D.take (k + 1)) = inD h key (D.take k) ++ kvs key (lwsTo ops 3) := by
        rw [List.take_add_one, hxk]
        exact inD_snoc hmt
      have hll := lwsTo_len ops 3
      have hkl := kvs_len key (lwsTo ops 3)
      have HS := Lib.hid hsn
      have HDN := Lib.hid hxk
      clear hxk hmt hmd hsn
      generalize hL : lwsTo ops 3 = L at hll hkl HS
      have HL := Lib.hid hL
      clear hL
      have hz40 := hE4.size
      go_wp2_with (fail)
      go_at_call 52
      refine (lastWrites_c ⟨s, ops, d⟩ _ _ _ _ (hOp.ext (by (repeat' (first | (with_reducible exact Below.refl _ _) | (with_reducible refine Below.mono (by assumption) ?_) | (with_reducible refine Below.trans ?_ (Below.mono (by assumption) ?_)) | (with_reducible refine Below.alloc ?_ ?_ _) | (with_reducible refine Below.drew ?_) | (with_reducible refine below_drewN ?_ _) | (with_reducible refine Below.setCell ?_ ?_ _) | (simp only [World.size_alloc, World.size_setCell, World.size_drew, size_drewN]; omega) | omega)))) hon).mono ?_
      rintro e w5 ⟨A5, c5, rfl, hW, hf5, hb⟩
      obtain ⟨hc, hf, hz, hs⟩ := bcell hb
      (try simp only [World.size_alloc, World.size_setCell, World.size_drew, size_drewN] at hs); (first | have l0 := Nat.lt_of_lt_of_le l0 (show _ ≤ w5.heap.size by omega) | have l0 : w.heap.size < w5.heap.size := (by omega) | skip); (try have l0e := Nat.le_of_lt l0); (try have l0f := Nat.le_add_right_of_le (k := 1) l0e); (try have l1 := Nat.lt_of_lt_of_le l1 (show _ ≤ w5.heap.size by omega)); (try have l1e := Nat.le_of_lt l1); (try have l1f := Nat.le_add_right_of_le (k := 1) l1e); (try have l2 := Nat.lt_of_lt_of_le l2 (show _ ≤ w5.heap.size by omega)); (try have l2e := Nat.le_of_lt l2); (try have l2f := Nat.le_add_right_of_le (k := 1) l2e); (try have l3 := Nat.lt_of_lt_of_le l3 (show _ ≤ w5.heap.size by omega)); (try have l3e := Nat.le_of_lt l3); (try have l3f := Nat.le_add_right_of_le (k := 1) l3e)
      rw [HL.out] at hW
      simp only [HL.out]
      have hW5 := hW.within_hi
      have e5 := hE4.tr hb
      have hown5 := hown4.ext hb
      have hD5 := hD4.ext hb
      have hz5 := hb.size
      have hoffw : Off u5 wo.heap.size w5.heap.size := Off.of_lt (own1_lt hown4)
      clear hc hf hz hs hb hW hf5 hown4 hD4 cd c0 c1 c2
      go_wp2
      go_loopw [5, 34] (fun v i wr => ∃ j : Nat, j ≤ L.length ∧ i = .int .i64 j ∧ Own1 wr w1.heap.size 3 v (inD h key (D.take k) ++ kvs key (L.take j)) ∧ Ext w1 wr ∧ Ints (fun b => w1.heap.size + 1 ≤ b ∧ b < w3.heap.size) wr (some ⟨bd, offd, none⟩) D ∧ Off v (w1.heap.size + 1) w3.heap.size ∧ w3.heap.size ≤ wr.heap.size ∧
        Ops (fun b => wo.heap.size ≤ b ∧ b < w5.heap.size) wr A5 L ∧ Off v wo.heap.size w5.heap.size ∧ w5.heap.size ≤ wr.heap.size) (fun _ i _ => L.length - (intOf i).toNat)
      case atStart => exact ⟨0, Nat.zero_le _, rfl, by simpa [kvs] using hown5, e5, hD5, hoff4, by omega, hW5, hoffw, Nat.le_refl _⟩
      case round =>
        obtain ⟨j, hj, rfl, hown6, hE6, hD6, hoff6, hz6, hW6, hoffw6, hz62⟩ := hrel
        clear hown5 hD5 hoff4 hW5 hoffw
        by_cases hlt2 : j < L.length
        · obtain ⟨x0, x1, x2, b2, off2, hyk, rfl, _, hb2, d0, d1, d2⟩ := hW6.at_ hlt2
          have hkt := kvs_take (key := key) hyk
          have hkl2 := kvs_len key (L.take j)
          rw [List.length_take] at hkl2
          have HK := Lib.hid hkt
          clear hyk hkt
          have hz60 := hE6.size
          go_wp2_with (at_builtin; refine wpList_append1_at _ rfl _ _ 39 rfl w1.heap.size 3 Try.underlying39 info1 rfl _ (inD h key (D.take k) ++ kvs key (L.take j)) rfl (hown6.ext (by (repeat' (first | (with_reducible exact Below.refl _ _) | (with_reducible refine Below.mono (by assumption) ?_) | (with_reducible refine Below.trans ?_ (Below.mono (by assumption) ?_)) | (with_reducible refine Below.alloc ?_ ?_ _) | (with_reducible refine Below.drew ?_) | (with_reducible refine below_drewN ?_ _) | (with_reducible refine Below.setCell ?_ ?_ _) | (simp only [World.size_alloc, World.size_setCell, World.size_drew, size_drewN]; omega) | omega)))) _ x2 rfl ?_ ?_ ?_ ?_)
          case roundEnd =>
            have hne : ¬ x1 = key := by
              have h9 : (x1 == key) = false := by assumption
              simpa using h9
            have hEb : Ext wr (wr.alloc (.cells #[.int .i64 x0, .int .i64 x1, .int .i64 x2] 59)) := by (repeat' (first | (with_reducible exact Below.refl _ _) | (with_reducible refine Below.mono (by assumption) ?_) | (with_reducible refine Below.trans ?_ (Below.mono (by assumption) ?_)) | (with_reducible refine Below.alloc ?_ ?_ _) | (with_reducible refine Below.drew ?_) | (with_reducible refine below_drewN ?_ _) | (with_reducible refine Below.setCell ?_ ?_ _) | (simp only [World.size_alloc, World.size_setCell, World.size_drew, size_drewN]; omega) | omega))
            exact ⟨⟨j + 1, by omega, by go_num, by rw [HK.out, if_neg hne]; exact hown6.ext hEb, hE6.tr hEb, hD6.ext hEb, hoff6, by simp only [World.size_alloc]; omega, hW6.ext hEb, hoffw6, by simp only [World.size_alloc]; omega⟩, by simp [intOf]; omega⟩
          all_goals try omega
          intro v' w' hown' hgrow hat
          have heq : x1 = key := by
            have h9 : (x1 == key) = true := by assumption
            simpa using h9
          have hk2 := HK.out
          rw [if_pos heq] at hk2
          try rw [List.append_assoc] at hown'
          rw [← hk2] at hown'
          have hEb : Ext wr ((wr.alloc (.cells #[.int .i64 x0, .int .i64 x1, .int .i64 x2] 59)).alloc (.cells #[.int .i64 x2] 3)) := by (repeat' (first | (with_reducible exact Below.refl _ _) | (with_reducible refine Below.mono (by assumption) ?_) | (with_reducible refine Below.trans ?_ (Below.mono (by assumption) ?_)) | (with_reducible refine Below.alloc ?_ ?_ _) | (with_reducible refine Below.drew ?_) | (with_reducible refine below_drewN ?_ _) | (with_reducible refine Below.setCell ?_ ?_ _) | (simp only [World.size_alloc, World.size_setCell, World.size_drew, size_drewN]; omega) | omega))
          have hE7 : Ext w1 w' := Below.grown (hE6.tr hEb) hgrow (hE6.tr hEb).size (fun g hg => own1_block hown6 g hg)
          have hD7 := Ints.off (hD6.ext hEb) hgrow hoff6
          have hW7 := Ops.off (hW6.ext hEb) hgrow hoffw6
          have hoff7 := hoff6.step hat (by first | omega | (simp only [World.size_alloc]; omega))
          have hoffw7 := hoffw6.step hat (by first | omega | (simp only [World.size_alloc]; omega))
          have hz7 := hgrow.size
          simp only [World.size_alloc] at hz7
          clear hk2 hown6 hW6 hD6 hgrow hat
          go_wp2
          go_roundw
          case measure => simp [intOf]; omega
          case rel => exact ⟨j + 1, by omega, by go_num, hown', hE7, hD7, hoff7, by omega, hW7, hoffw7, by omega⟩
        · obtain rfl : j = L.length := by omega
          rw [List.take_length, ← HS.out] at hown6
          have hil2 : (inD h key (D.take (k + 1))).length ≤ 3 * (k + 1) := by
            rw [HS.out, List.length_append]
            omega
          go_wp2
          exact ⟨⟨k + 1, by omega, by go_num, hown6, hE6, hD6, hoff6, by omega, hil2⟩, by simp [intOf]; omega⟩
    · obtain rfl : k = D.length := by omega
      rw [List.take_length, HD.out] at hown4
      have HF := Lib.hid (And.intro (hown4.below z1) (e1.tr hE4))
      clear hown4
      go_wp2
      go_ret
      exact ⟨_, rfl, HF.out.1, HF.out.2⟩
theorem implFirstOrders_no (h : List TxnT) (S : Nat → Prop) (A : Option Addr) (c : Nat) (w : World) (hx : Txns S w A h) (hsm : Small h) (hv : histv h = false) :
    Calls Try.prog 20 #[.slice A h.length c] w fun e w' => e = .returned (.slice none 0 0) ∧ Ext w w' := by
  have CV := fun w hx => implHistoryValid_c h S A c w hx hsm
  rw [hv] at CV
  have HCV := Lib.hid CV
  have HX := Lib.hid hx
  clear CV hv hx
  go_enter Try.func20, Try.ntmps20
  go_wp2_with (fail)
  go_at_call 37
  refine (HCV.out _ (HX.out.ext (by (repeat' (first | (with_reducible exact Below.refl _ _) | (with_reducible refine Below.mono (by assumption) ?_) | (with_reducible refine Below.trans ?_ (Below.mono (by assumption) ?_)) | (with_reducible refine Below.alloc ?_ ?_ _) | (with_reducible refine Below.drew ?_) | (with_reducible refine below_drewN ?_ _) | (with_reducible refine Below.setCell ?_ ?_ _) | (simp only [World.size_alloc, World.size_setCell, World.size_drew, size_drewN]; omega) | omega))))).mono ?_
  rintro e w1 ⟨rfl, hb⟩
  obtain ⟨hc, hf, hz, hs⟩ := bcell hb
  (try simp only [World.size_alloc, World.size_setCell, World.size_drew, size_drewN] at hs); (first | have l0 := Nat.lt_of_lt_of_le l0 (show _ ≤ w1.heap.size by omega) | have l0 : w.heap.size < w1.heap.size := (by omega) | skip); (try have l0e := Nat.le_of_lt l0); (try have l0f := Nat.le_add_right_of_le (k := 1) l0e); (try have l1 := Nat.lt_of_lt_of_le l1 (show _ ≤ w1.heap.size by omega)); (try have l1e := Nat.le_of_lt l1); (try have l1f := Nat.le_add_right_of_le (k := 1) l1e); (try have l2 := Nat.lt_of_lt_of_le l2 (show _ ≤ w1.heap.size by omega)); (try have l2e := Nat.le_of_lt l2); (try have l2f := Nat.le_add_right_of_le (k := 1) l2e); (try have l3 := Nat.lt_of_lt_of_le l3 (show _ ≤ w1.heap.size by omega)); (try have l3e := Nat.le_of_lt l3); (try have l3f := Nat.le_add_right_of_le (k := 1) l3e)
  go_wp2
  go_ret
  exact ⟨rfl, by (repeat' (first | (with_reducible exact Below.refl _ _) | (with_reducible refine Below.mono (by assumption) ?_) | (with_reducible refine Below.trans ?_ (Below.mono (by assumption) ?_)) | (with_reducible refine Below.alloc ?_ ?_ _) | (with_reducible refine Below.drew ?_) | (with_reducible refine below_drewN ?_ _) | (with_reducible refine Below.setCell ?_ ?_ _) | (simp only [World.size_alloc, World.size_setCell, World.size_drew, size_drewN]; omega) | omega))⟩
set_option maxHeartbeats 4000000 in
theorem implFirstOrders_own (h : List TxnT) (S : Nat → Prop) (A : Option Addr) (c : Nat) (w : World) (hx : Txns S w A h) (hsm : Small h) (hv : histv h = true) :
    Calls Try.prog 20 #[.slice A h.length c] w fun e w' => ∃ v ps, e = .returned v ∧ OwnR w' w.heap.size v ps ∧ ps.map PR.xs = [instd h 0, instd h 1, instd h 2] ∧ HasC ps ∧ (∃ g, v.ownBlock = some g) ∧ Ext w w' := by
  have CV := fun w hx => implHistoryValid_c h S A c w hx hsm
  have CI := Lib.hid (fun (k : Nat) (hk : k < 3) w hx => by
    have := implInstalled_own h S A c (k : Int) w hx hsm hv (inB_iff.2 (by omega))
    rw [show inT h (k : Int) h.length = instd h (k : Int) by unfold instd; rw [if_pos ⟨hv, inB_iff.2 (by omega)⟩]] at this
    exact this)
  have HL := Lib.hid (fun (k : Int) => instd_len h k)
  have HX := Lib.hid hx
  rw [hv] at CV
  have HCV := Lib.hid CV
  have hmk : ∀ W : World, (Instr.makeSlice 41 (.int .i64 0) (.int .i64 3)).run Try.prog W = .ok (.slice (some ⟨W.heap.size, 0, none⟩) 0 3) (W.alloc (.cells #[.slice none 0 0, .slice none 0 0, .slice none 0 0] 39)) := fun W => by
    obtain ⟨i0, hi, hz0, hz1, hz2⟩ := info_parts infoRow
    have hq := run_make_rowN (P := Try.prog) 41 39 i0 _ Try.underlying41 hi hz0 .i64 .i64 0 3 (by omega) (by rw [hz2]; omega) (by omega) W
    rw [hz1, show madeCells (Value.slice none 0 0).cells (3 * 1) = #[.slice none 0 0, .slice none 0 0, .slice none 0 0] from by kernel_rfl] at hq
    exact hq
  clear CV hv hx
  go_enter Try.func20, Try.ntmps20
  go_wp2_with (fail)
  go_at_call 37
  refine (HCV.out _ (HX.out.ext (by (repeat' (first | (with_reducible exact Below.refl _ _) | (with_reducible refine Below.mono (by assumption) ?_) | (with_reducible refine Below.trans ?_ (Below.mono (by assumption) ?_)) | (with_reducible refine Below.alloc ?_ ?_ _) | (with_reducible refine Below.drew ?_) | (with_reducible refine below_drewN ?_ _) | (with_reducible refine Below.setCell ?_ ?_ _) | (simp only [World.size_alloc, World.size_setCell, World.size_drew, size_drewN]; omega) | omega))))).mono ?_
  rintro e w1 ⟨rfl, hb⟩
  obtain ⟨hc, hf, hz, hs⟩ := bcell hb
  (try simp only [World.size_alloc, World.size_setCell, World.size_drew, size_drewN] at hs); (first | have l0 := Nat.lt_of_lt_of_le l0 (show _ ≤ w1.heap.size by omega) | have l0 : w.heap.size < w1.heap.size := (by omega) | skip); (try have l0e := Nat.le_of_lt l0); (try have l0f := Nat.le_add_right_of_le (k := 1) l0e); (try have l1 := Nat.lt_of_lt_of_le l1 (show _ ≤ w1.heap.size by omega)); (try have l1e := Nat.le_of_lt l1); (try have l1f := Nat.le_add_right_of_le (k := 1) l1e); (try have l2 := Nat.lt_of_lt_of_le l2 (show _ ≤ w1.heap.size by omega)); (try have l2e := Nat.le_of_lt l2); (try have l2f := Nat.le_add_right_of_le (k := 1) l2e); (try have l3 := Nat.lt_of_lt_of_le l3 (show _ ≤ w1.heap.size by omega)); (try have l3e := Nat.le_of_lt l3); (try have l3f := Nat.le_add_right_of_le (k := 1) l3e)
  have e1 : Ext w w1 := by (repeat' (first | (with_reducible exact Below.refl _ _) | (with_reducible refine Below.mono (by assumption) ?_) | (with_reducible refine Below.trans ?_ (Below.mono (by assumption) ?_)) | (with_reducible refine Below.alloc ?_ ?_ _) | (with_reducible refine Below.drew ?_) | (with_reducible refine below_drewN ?_ _) | (with_reducible refine Below.setCell ?_ ?_ _) | (simp only [World.size_alloc, World.size_setCell, World.size_drew, size_drewN]; omega) | omega))
  have E1 := Lib.hid e1
  clear hc hf hz hb e1
  go_wp2
  have hO : OwnR (w1.alloc (.cells #[.slice none 0 0, .slice none 0 0, .slice none 0 0] 39)) w1.heap.size (.slice (some ⟨w1.heap.size, 0, none⟩) 0 3) [] := OwnR.made w1 _ 3 (Nat.le_refl _) (by omega) rfl
  have HO := Lib.hid hO
  clear hO hmk
  go_loopw [3, 9] (fun v i wr => ∃ (k : Nat) (ps : List PR), k ≤ 3 ∧ i = .int .i64 k ∧ ps.map PR.xs = firstT h k ∧ OwnR wr w1.heap.size v ps ∧ HasC ps ∧ (∃ g, v.ownBlock = some g) ∧ Ext w1 wr) (fun _ i _ => 3 - (intOf i).toNat)
  case atStart => exact ⟨0, [], by omega, rfl, rfl, HO.out, HasC.nil, ⟨_, rfl⟩, by (repeat' (first | (with_reducible exact Below.refl _ _) | (with_reducible refine Below.mono (by assumption) ?_) | (with_reducible refine Below.trans ?_ (Below.mono (by assumption) ?_)) | (with_reducible refine Below.alloc ?_ ?_ _) | (with_reducible refine Below.drew ?_) | (with_reducible refine below_drewN ?_ _) | (with_reducible refine Below.setCell ?_ ?_ _) | (simp only [World.size_alloc, World.size_setCell, World.size_drew, size_drewN]; omega) | omega))⟩
  case round =>
    obtain ⟨k, ps, hk, rfl, hpm, hown, hcp, hvb, hE⟩ := hrel
    have HCp := Lib.hid hcp
    have HVb := Lib.hid hvb
    have HPM := Lib.hid hpm
    have HOw := Lib.hid hown
    have HE := Lib.hid hE
    have hpl : ps.length = k := by
      have := congrArg List.length hpm
      simpa [firstT] using this
    have hpl3 : ps.length ≤ 3 := by omega
    have hez := hE.size
    clear HO hpm hown hE hpl hcp hvb
    by_cases hlt : k < 3
    · have hki : (k : Int) < 3 := by omega
      go_wp2_with (fail)
      go_at_call 38
      refine (CI.out k hlt _ (HX.out.ext (E1.out.tr HE.out))).mono ?_
      rintro e w2 ⟨v2, rfl, hO2, hb⟩
      obtain ⟨hc, hf, hz, hs⟩ := bcell hb
      (try simp only [World.size_alloc, World.size_setCell, World.size_drew, size_drewN] at hs); (first | have l0 := Nat.lt_of_lt_of_le l0 (show _ ≤ w2.heap.size by omega) | have l0 : w.heap.size < w2.heap.size := (by omega) | skip); (try have l0e := Nat.le_of_lt l0); (try have l0f := Nat.le_add_right_of_le (k := 1) l0e); (try have l1 := Nat.lt_of_lt_of_le l1 (show _ ≤ w2.heap.size by omega)); (try have l1e := Nat.le_of_lt l1); (try have l1f := Nat.le_add_right_of_le (k := 1) l1e); (try have l2 := Nat.lt_of_lt_of_le l2 (show _ ≤ w2.heap.size by omega)); (try have l2e := Nat.le_of_lt l2); (try have l2f := Nat.le_add_right_of_le (k := 1) l2e); (try have l3 := Nat.lt_of_lt_of_le l3 (show _ ≤ w2.heap.size by omega)); (try have l3e := Nat.le_of_lt l3); (try have l3f := Nat.le_add_right_of_le (k := 1) l3e)
      obtain ⟨A2, c2, rfl, hI, hfr⟩ := hO2.form
      have hroom : (instd h (k : Int)).length ≤ c2 := own1_room hO2
      have hnew := HOw.out.new (c := c2) (by omega) hI hfr
      have how2 := HOw.out.ext hb
      have HE2 := Lib.hid (HE.out.tr hb)
      have HN := Lib.hid hnew
      have HO2 := Lib.hid how2
      have hz2 := hb.size
      clear hI hfr hnew how2 hc hf hz hb hs hO2
      have hlitc : (w2.alloc (.cells #[.slice A2 (instd h (k : Int)).length c2] 39)).cell? ⟨w2.heap.size, 0, none⟩ = some (PR.cell ⟨A2, c2, instd h (k : Int)⟩) := ((Blk.new w2 39 _).cell 0).trans rfl
      have HLc := Lib.hid hlitc
      clear hlitc
      go_wp2_with (at_builtin; go_loud (refine wpList_appendR_at _ rfl _ _ 41 rfl Try.underlying41 infoRow rfl _ ps rfl (B := w1.heap.size) (HO2.out.ext (by (repeat' (first | (with_reducible exact Below.refl _ _) | (with_reducible refine Below.mono (by assumption) ?_) | (with_reducible refine Below.trans ?_ (Below.mono (by assumption) ?_)) | (with_reducible refine Below.alloc ?_ ?_ _) | (with_reducible refine Below.drew ?_) | (with_reducible refine below_drewN ?_ _) | (with_reducible refine Below.setCell ?_ ?_ _) | (simp only [World.size_alloc, World.size_setCell, World.size_drew, size_drewN]; omega) | omega)))) ⟨A2, c2, instd h (k : Int)⟩ (HN.out.1.ext (by (repeat' (first | (with_reducible exact Below.refl _ _) | (with_reducible refine Below.mono (by assumption) ?_) | (with_reducible refine Below.trans ?_ (Below.mono (by assumption) ?_)) | (with_reducible refine Below.alloc ?_ ?_ _) | (with_reducible refine Below.drew ?_) | (with_reducible refine below_drewN ?_ _) | (with_reducible refine Below.setCell ?_ ?_ _) | (simp only [World.size_alloc, World.size_setCell, World.size_drew, size_drewN]; omega) | omega)))) HN.out.2.1 HN.out.2.2 _ rfl HLc.out (by omega) ?_ ?_))
      · simp only [World.size_alloc]; omega
      · intro v' w' hown' hgrow hat
        have HVb2 := Lib.hid (show ∃ g, v'.ownBlock = some g from by
          rcases hat with e | e
          · rw [e]; exact HVb.out
          · exact ⟨_, e⟩)
        have hE9 : Ext w1 w' := Below.grown (HE2.out.tr (show Ext w2 (w2.alloc (.cells #[.slice A2 (instd h (k : Int)).length c2] 39)) by (repeat' (first | (with_reducible exact Below.refl _ _) | (with_reducible refine Below.mono (by assumption) ?_) | (with_reducible refine Below.trans ?_ (Below.mono (by assumption) ?_)) | (with_reducible refine Below.alloc ?_ ?_ _) | (with_reducible refine Below.drew ?_) | (with_reducible refine below_drewN ?_ _) | (with_reducible refine Below.setCell ?_ ?_ _) | (simp only [World.size_alloc, World.size_setCell, World.size_drew, size_drewN]; omega) | omega)))) hgrow (by simp only [World.size_alloc]; omega) (fun g hg => (HO2.out.lt g hg).1)
        have HO9 := Lib.hid hown'
        have HE9 := Lib.hid hE9
        clear hown' hgrow hE9 hat
        go_wp2
        go_roundw
        case measure => simp [intOf]; omega
        case rel => exact ⟨k + 1, _, by omega, by go_num, by rw [List.map_append, HPM.out, firstT_succ]; rfl, HO9.out, HCp.out.app hroom, HVb2.out, HE9.out⟩
    · obtain rfl : k = 3 := by omega
      have HF := Lib.hid (And.intro (HOw.out.below (show w.heap.size ≤ _ by have := E1.out.size; omega)) (E1.out.tr HE.out))
      go_wp2
      go_ret
      exact ⟨_, ps, rfl, HF.out.1, HPM.out, HCp.out, HVb.out, HF.out.2⟩
end Go.Proofs.Ytdgfipoibnjhaaa
