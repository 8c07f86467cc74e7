/-
  The installed values of a valid history, in a slice of the call's own.
-/
import Derived.Test.YtdgfipoibnjhaaaInst
namespace Go.Proofs.Ytdgfipoibnjhaaa
set_option linter.unusedSimpArgs false
set_option linter.unusedVariables false
set_option maxRecDepth 100000
open Go.RowKit

/-- a slice that has a block -/
abbrev HasB (v : Value) : Prop := ∃ g, v.ownBlock = some g
set_option maxHeartbeats 1000000 in
theorem specInstalled_o (h : List TxnT) (S : Nat → Prop) (A : Option Addr) (c : Nat) (key : Int) (w : World) (hx : Txns S w A h) (hsm : Small h) (hv : histv h = true) (hkb : inB key 0 2 = true) :
    Calls Try.prog 16 #[.slice A h.length c, .int .i64 key] w fun e w' => ∃ v, e = .returned v ∧ Own1 w' w.heap.size 3 v (inT h key h.length) ∧ Ext w w' ∧ HasB v := by
  have C := fun w hx => specHistoryValid_c h S A c w hx hsm
  have hn := histv_len hv
  have htv := histv_txn hv
  rw [hv] at C
  have C := Lib.hid C
  have CK := fun w => l1In_c key 0 2 w
  rw [hkb] at CK
  have CK := Lib.hid CK
  have HT := Lib.hid htv
  clear htv hv hkb
  go_enter Try.func16, Try.ntmps16
  go_wp2
  have hO : Own1 (w.alloc (.cells #[] 3)) w.heap.size 3 (.slice (some ⟨w.heap.size, 0, none⟩) 0 0) (inT h key 0) := Own1.made w _ 0 rfl (by omega) (by omega) (by simp)
  go_loopw [5, 6] (fun v i wr => ∃ k : Nat, k ≤ h.length ∧ i = .int .i64 k ∧ Own1 wr w.heap.size 3 v (inT h key k) ∧ Ext w wr ∧ HasB v) (fun _ i _ => h.length - (intOf i).toNat)
  case atStart => exact ⟨0, Nat.zero_le _, rfl, hO, by (repeat' (first | (with_reducible exact Below.refl _ _) | (with_reducible refine Below.mono (by assumption) ?_) | (with_reducible refine Below.trans ?_ (Below.mono (by assumption) ?_)) | (with_reducible refine Below.alloc ?_ ?_ _) | (with_reducible refine Below.drew ?_) | (with_reducible refine below_drewN ?_ _) | (with_reducible refine Below.setCell ?_ ?_ _) | (simp only [World.size_alloc, World.size_setCell, World.size_drew, size_drewN]; omega) | omega)), ⟨_, rfl⟩⟩
  case round =>
    obtain ⟨k, hk, rfl, hown, hE, hvb⟩ := hrel
    have HVb := Lib.hid hvb
    clear hvb
    have hEz := hE.size
    clear hO
    by_cases hlt : k < h.length
    · obtain ⟨s, ops, d, A', cap, b, off, hxk, rfl, _, hb0, hOp, c0, c1, c2⟩ := hx.at_ hlt
      have hon := hsm.ops hxk
      simp only at hon
      have hst := inT_succ (key := key) hxk
      have hht := inT_len h key k
      have htt := HT.out _ (List.mem_of_getElem? hxk)
      have HS := Lib.hid hst
      have HV := Lib.hid htt
      clear hxk hst htt
      go_wp2_with (fail)
      go_at_call 15
      refine (C.out _ (hx.ext hE)).mono ?_
      rintro e w1 ⟨rfl, hb⟩
      obtain ⟨hc, hf, hz, hs⟩ := bcell hb
      (try simp only [World.size_alloc, World.size_setCell, World.size_drew, size_drewN] at hs); (first | have l0 := Nat.lt_of_lt_of_le l0 (show _ ≤ w1.heap.size by omega) | have l0 : w.heap.size < w1.heap.size := (by omega) | skip); (try have l0e := Nat.le_of_lt l0); (try have l0f := Nat.le_add_right_of_le (k := 1) l0e); (try have l1 := Nat.lt_of_lt_of_le l1 (show _ ≤ w1.heap.size by omega)); (try have l1e := Nat.le_of_lt l1); (try have l1f := Nat.le_add_right_of_le (k := 1) l1e); (try have l2 := Nat.lt_of_lt_of_le l2 (show _ ≤ w1.heap.size by omega)); (try have l2e := Nat.le_of_lt l2); (try have l2f := Nat.le_add_right_of_le (k := 1) l2e); (try have l3 := Nat.lt_of_lt_of_le l3 (show _ ≤ w1.heap.size by omega)); (try have l3e := Nat.le_of_lt l3); (try have l3f := Nat.le_add_right_of_le (k := 1) l3e)
      have e1 := hE.tr hb
      have hown1 := hown.ext hb
      have hz1 := e1.size
      clear hown hc hf hz hs hb
      go_wp2_with (fail)
      refine (CK.out _).mono ?_
      rintro e w' ⟨rfl, rfl⟩
      have f0 := e1.keep hb0 c0
      have f1 := e1.keep hb0 c1
      have f2 := e1.keep hb0 c2
      go_wp2_with (fail)
      go_at_call 35
      refine (specLastWrites_ok ⟨s, ops, d⟩ _ _ _ _ (hOp.ext e1) hon HV.out).mono ?_
      rintro e w3 ⟨A3, c3, rfl, hW, hf3, hb⟩
      obtain ⟨hc, hf, hz, hs⟩ := bcell hb
      (try simp only [World.size_alloc, World.size_setCell, World.size_drew, size_drewN] at hs); (first | have l0 := Nat.lt_of_lt_of_le l0 (show _ ≤ w3.heap.size by omega) | have l0 : w.heap.size < w3.heap.size := (by omega) | skip); (try have l0e := Nat.le_of_lt l0); (try have l0f := Nat.le_add_right_of_le (k := 1) l0e); (try have l1 := Nat.lt_of_lt_of_le l1 (show _ ≤ w3.heap.size by omega)); (try have l1e := Nat.le_of_lt l1); (try have l1f := Nat.le_add_right_of_le (k := 1) l1e); (try have l2 := Nat.lt_of_lt_of_le l2 (show _ ≤ w3.heap.size by omega)); (try have l2e := Nat.le_of_lt l2); (try have l2f := Nat.le_add_right_of_le (k := 1) l2e); (try have l3 := Nat.lt_of_lt_of_le l3 (show _ ≤ w3.heap.size by omega)); (try have l3e := Nat.le_of_lt l3); (try have l3f := Nat.le_add_right_of_le (k := 1) l3e)

      have hll := lwsTo_len ops 3
      have e3 := e1.tr hb
      have hown3 := hown1.ext hb
      have hoff : Off u5 w1.heap.size w3.heap.size := Off.of_lt (own1_lt hown1)
      have hz3 := hb.size
      have hW3 := hW.within_hi
      have hkl := kvs_len key (lwsTo ops 3)
      have HS2 := Lib.hid HS.out

      generalize lwsTo ops 3 = L at hW hW3 hll HS2 hkl
      clear hc hf hz hs hb hown1 hW hf3
      cases d with
      | false =>
        have HS3 := Lib.hid (HS2.out.trans (if_neg (by simp)))
        clear HS2
        go_wp2
        go_loopw [5, 8] (fun v i wr => i = .int .i64 0 ∧ Own1 wr w.heap.size 3 v (inT h key (k + 1)) ∧ Ext w wr ∧ HasB v) (fun _ _ _ => 0)
        case atStart => exact ⟨rfl, by rw [HS3.out]; exact hown3, e3, HVb.out⟩
        case round =>
          obtain ⟨rfl, hown4, hE4, hvb4⟩ := hrel
          have g2 := hE4.keep hb0 c2
          clear hown3
          by_cases hL0 : 0 < L.length
          all_goals go_wp2
          all_goals exact ⟨⟨k + 1, by omega, by go_num, hown4, hE4, hvb4⟩, by simp [intOf]; omega⟩
      | true =>
        go_wp2
        go_loopw [5, 8] (fun v i wr => ∃ j : Nat, j ≤ L.length ∧ i = .int .i64 j ∧ Own1 wr w.heap.size 3 v (inT h key k ++ kvs key (L.take j)) ∧ Ext w wr ∧ Ops (fun b => w1.heap.size ≤ b ∧ b < w3.heap.size) wr A3 L ∧ Off v w1.heap.size w3.heap.size ∧ w3.heap.size ≤ wr.heap.size ∧ HasB v) (fun _ i _ => L.length - (intOf i).toNat)
        case atStart => exact ⟨0, Nat.zero_le _, rfl, by simpa [kvs] using hown3, e3, hW3, hoff, Nat.le_refl _, HVb.out⟩
        case round =>
          obtain ⟨j, hj, rfl, hown4, hE4, hW4, hoff4, hz4, hvb4⟩ := hrel
          have g2 := hE4.keep hb0 c2
          clear hown3 hW3 hoff
          by_cases hlt2 : j < L.length
          · obtain ⟨x0, x1, x2, b2, off2, hyk, rfl, _, hb2, d0, d1, d2⟩ := hW4.at_ hlt2
            have hkt := kvs_take (key := key) hyk
            have hkl2 := kvs_len key (L.take j)
            rw [List.length_take] at hkl2
            have HK := Lib.hid hkt
            clear hyk hkt
            have hz5 := hE4.size
            go_wp2_with (at_builtin; refine wpList_append1_at _ rfl _ _ 39 rfl w.heap.size 3 Try.underlying39 info1 rfl _ (inT h key k ++ kvs key (L.take j)) rfl (hown4.ext (by (repeat' (first | (with_reducible exact Below.refl _ _) | (with_reducible refine Below.mono (by assumption) ?_) | (with_reducible refine Below.trans ?_ (Below.mono (by assumption) ?_)) | (with_reducible refine Below.alloc ?_ ?_ _) | (with_reducible refine Below.drew ?_) | (with_reducible refine below_drewN ?_ _) | (with_reducible refine Below.setCell ?_ ?_ _) | (simp only [World.size_alloc, World.size_setCell, World.size_drew, size_drewN]; omega) | omega)))) _ x2 rfl ?_ ?_ ?_ ?_)
            case roundEnd =>
              have hne : ¬ x1 = key := by have h9 : (x1 == key) = false := by assumption
                                          simpa using h9
              exact ⟨⟨j + 1, by omega, by go_num, by rw [HK.out, if_neg hne]; exact hown4, hE4, hW4, hoff4, hz4, hvb4⟩, by simp [intOf]; omega⟩
            · omega
            · omega
            · intro v' w' hown' hgrow hat
              have hvb5 : HasB v' := by
                rcases hat with e | e
                · unfold HasB; rw [e]; exact hvb4
                · exact ⟨_, e⟩
              have heq : x1 = key := by have h9 : (x1 == key) = true := by assumption
                                        simpa using h9
              have hk2 := HK.out
              rw [if_pos heq] at hk2
              try rw [List.append_assoc] at hown'
              rw [← hk2] at hown'
              have hE5 : Ext w w' := Below.grown (w := wr.alloc (.cells #[.int .i64 x2] 3)) (by (repeat' (first | (with_reducible exact Below.refl _ _) | (with_reducible refine Below.mono (by assumption) ?_) | (with_reducible refine Below.trans ?_ (Below.mono (by assumption) ?_)) | (with_reducible refine Below.alloc ?_ ?_ _) | (with_reducible refine Below.drew ?_) | (with_reducible refine below_drewN ?_ _) | (with_reducible refine Below.setCell ?_ ?_ _) | (simp only [World.size_alloc, World.size_setCell, World.size_drew, size_drewN]; omega) | omega))) hgrow (by simp only [World.size_alloc]; omega) (fun g hg => own1_block hown4 g hg)
              have hW5 := Ops.off (Ops.ext (w' := wr.alloc (.cells #[.int .i64 x2] 3)) hW4 (by (repeat' (first | (with_reducible exact Below.refl _ _) | (with_reducible refine Below.mono (by assumption) ?_) | (with_reducible refine Below.trans ?_ (Below.mono (by assumption) ?_)) | (with_reducible refine Below.alloc ?_ ?_ _) | (with_reducible refine Below.drew ?_) | (with_reducible refine below_drewN ?_ _) | (with_reducible refine Below.setCell ?_ ?_ _) | (simp only [World.size_alloc, World.size_setCell, World.size_drew, size_drewN]; omega) | omega)))) hgrow hoff4
              have hoff5 := hoff4.step hat (by first | omega | (simp only [World.size_alloc]; omega))
              have hz6 := hgrow.size
              simp only [World.size_alloc] at hz6
              clear hk2 hown4 hW4 hgrow hat
              go_wp2
              go_roundw
              case measure => simp [intOf]; omega
              case rel => exact ⟨j + 1, by omega, by go_num, hown', hE5, hW5, hoff5, by omega, hvb5⟩
          · obtain rfl : j = L.length := by omega
            rw [List.take_length] at hown4
            have hs2 := HS2.out
            simp only [if_true] at hs2
            rw [← hs2] at hown4
            clear hs2
            go_wp2
            exact ⟨⟨k + 1, by omega, by go_num, hown4, hE4, hvb4⟩, by simp [intOf]; omega⟩
    · obtain rfl : k = h.length := by omega
      go_wp2
      go_ret
      exact ⟨_, rfl, hown, hE, HVb.out⟩

end Go.Proofs.Ytdgfipoibnjhaaa
