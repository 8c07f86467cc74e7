/-
  FnLastValue: a drawn history, a key and a value: the program's answer is the reference's; it is true just where the value is among the last writes of its writer.
-/
import Derived.Test.YtagmlbhmojgnlaaDoorDrawHd
import Derived.Test.YtagmlbhmojgnlaaDoorLaid
import Derived.Test.YtagmlbhmojgnlaaDoorWrF
import Derived.Test.YtagmlbhmojgnlaaDoorLastV
namespace Go.Proofs.YtagmlbhmojgnlaaDoor
set_option linter.unusedSimpArgs false
set_option linter.unusedVariables false
set_option maxRecDepth 100000
open Go.ChangeShapes Go.WideShapes Go.ChangeAt Go.RowKit Go.Joins

set_option maxHeartbeats 4000000 in
theorem FnLastValue_c (xs : List Int) (A : Option Addr) (c : Nat) (w : World) (hx : Byts Any w A xs) (wf : Law.wfL Law.wfU8 xs) (hc : xs.length ≤ c) :
    Calls Tryd.prog 11 #[.slice A xs.length c] w fun e w' => e = .returned (.bool true) ∧ Ext w w' := by
  by_cases hl : 1048576 < xs.length
  · go_enter Tryd.func11, Tryd.ntmps11
    go_wp2
    go_ret
    exact ⟨rfl, by (repeat' (first | (with_reducible exact Below.refl _ _) | (with_reducible refine Below.mono (by assumption) ?_) | (with_reducible refine Below.trans ?_ (Below.mono (by assumption) ?_)) | (with_reducible refine Below.alloc ?_ ?_ _) | (with_reducible refine Below.drew ?_) | (with_reducible refine below_drewN ?_ _) | (with_reducible refine Below.setCell ?_ ?_ _) | (simp only [World.size_alloc, World.size_setCell, World.size_drew, size_drewN]; omega) | omega))⟩
  have HW : Hid (∀ x ∈ xs, 0 ≤ x ∧ x ≤ 255) := Lib.hid wf.2
  have heq := eqOp_run
  have hgd := eqOp_guard
  go_enter Tryd.func11, Tryd.ntmps11
  go_wp2_with (fail)
  go_at_call 41
  refine (DrawLastValue_c xs A c _ (hx.ext (by (repeat' (first | (with_reducible exact Below.refl _ _) | (with_reducible refine Below.mono (by assumption) ?_) | (with_reducible refine Below.trans ?_ (Below.mono (by assumption) ?_)) | (with_reducible refine Below.alloc ?_ ?_ _) | (with_reducible refine Below.drew ?_) | (with_reducible refine below_drewN ?_ _) | (with_reducible refine Below.setCell ?_ ?_ _) | (simp only [World.size_alloc, World.size_setCell, World.size_drew, size_drewN]; omega) | omega)))) HW.out hc).mono ?_
  rintro e w1 ⟨h, A2, c2, key, val, rfl, hTx, hsmall, hk3, hv9, hb⟩
  obtain ⟨hc, hf, hz, hs⟩ := bcell hb
  (try simp only [World.size_alloc, World.size_setCell, World.size_drew, size_drewN] at hs); (first | have l0 := Nat.lt_of_lt_of_le l0 (show _ ≤ w1.heap.size by omega) | have l0 : w.heap.size < w1.heap.size := (by omega) | skip); (try have l0e := Nat.le_of_lt l0); (try have l0f := Nat.le_add_right_of_le (k := 1) l0e); (try have l1 := Nat.lt_of_lt_of_le l1 (show _ ≤ w1.heap.size by omega)); (try have l1e := Nat.le_of_lt l1); (try have l1f := Nat.le_add_right_of_le (k := 1) l1e); (try have l2 := Nat.lt_of_lt_of_le l2 (show _ ≤ w1.heap.size by omega)); (try have l2e := Nat.le_of_lt l2); (try have l2f := Nat.le_add_right_of_le (k := 1) l2e); (try have l3 := Nat.lt_of_lt_of_le l3 (show _ ≤ w1.heap.size by omega)); (try have l3e := Nat.le_of_lt l3); (try have l3f := Nat.le_add_right_of_le (k := 1) l3e)
  have E1 := Lib.hid (show Ext w w1 from hb)
  have hsm := hsmall.small
  have hsl := hsm.len
  obtain ⟨n, hn⟩ : ∃ n, (if histv h = true then wrN h key val else -1) = n := ⟨_, rfl⟩
  obtain ⟨r, hr⟩ : ∃ r, (histv h && lastv h key val) = r := ⟨_, rfl⟩
  have W := fun w hx => implWriterOf_c h Any A2 c2 key val w hx hsm
  have C := fun w hx => implLastValue_c h Any A2 c2 key val w hx hsm
  have D := fun w hx => specLastValue_c h Any A2 c2 key val w hx hsm
  rw [hn] at W
  rw [hr] at C D
  have HWr := Lib.hid W
  have HC := Lib.hid C
  have HD := Lib.hid D
  have HX := Lib.hid (txns_any hTx)
  have HN := Lib.hid hn
  have HR := Lib.hid hr
  clear C D W hTx hn hr hb hc hf hz
  go_wp2_with (fail)
  go_at_call 42
  refine (HC.out _ HX.out).mono ?_
  rintro e w2 ⟨rfl, hb⟩
  obtain ⟨hc, hf, hz, hs⟩ := bcell hb
  (try simp only [World.size_alloc, World.size_setCell, World.size_drew, size_drewN] at hs); (first | have l0 := Nat.lt_of_lt_of_le l0 (show _ ≤ w2.heap.size by omega) | have l0 : w.heap.size < w2.heap.size := (by omega) | skip); (try have l0e := Nat.le_of_lt l0); (try have l0f := Nat.le_add_right_of_le (k := 1) l0e); (try have l1 := Nat.lt_of_lt_of_le l1 (show _ ≤ w2.heap.size by omega)); (try have l1e := Nat.le_of_lt l1); (try have l1f := Nat.le_add_right_of_le (k := 1) l1e); (try have l2 := Nat.lt_of_lt_of_le l2 (show _ ≤ w2.heap.size by omega)); (try have l2e := Nat.le_of_lt l2); (try have l2f := Nat.le_add_right_of_le (k := 1) l2e); (try have l3 := Nat.lt_of_lt_of_le l3 (show _ ≤ w2.heap.size by omega)); (try have l3e := Nat.le_of_lt l3); (try have l3f := Nat.le_add_right_of_le (k := 1) l3e)
  have E12 := Lib.hid (show Ext w1 w2 from hb)
  clear hb hc hf hz
  go_wp2_with (fail)
  go_at_call 43
  refine (HD.out _ (HX.out.ext E12.out)).mono ?_
  rintro e w3 ⟨rfl, hb⟩
  obtain ⟨hc, hf, hz, hs⟩ := bcell hb
  (try simp only [World.size_alloc, World.size_setCell, World.size_drew, size_drewN] at hs); (first | have l0 := Nat.lt_of_lt_of_le l0 (show _ ≤ w3.heap.size by omega) | have l0 : w.heap.size < w3.heap.size := (by omega) | skip); (try have l0e := Nat.le_of_lt l0); (try have l0f := Nat.le_add_right_of_le (k := 1) l0e); (try have l1 := Nat.lt_of_lt_of_le l1 (show _ ≤ w3.heap.size by omega)); (try have l1e := Nat.le_of_lt l1); (try have l1f := Nat.le_add_right_of_le (k := 1) l1e); (try have l2 := Nat.lt_of_lt_of_le l2 (show _ ≤ w3.heap.size by omega)); (try have l2e := Nat.le_of_lt l2); (try have l2f := Nat.le_add_right_of_le (k := 1) l2e); (try have l3 := Nat.lt_of_lt_of_le l3 (show _ ≤ w3.heap.size by omega)); (try have l3e := Nat.le_of_lt l3); (try have l3f := Nat.le_add_right_of_le (k := 1) l3e)
  have E13 := Lib.hid (E12.out.tr hb)
  clear HC HD hb hc hf hz
  go_wp2_with (fail)
  go_at_call 31
  refine (HWr.out _ (HX.out.ext E13.out)).mono ?_
  rintro e w4 ⟨rfl, hb⟩
  obtain ⟨hc, hf, hz, hs⟩ := bcell hb
  (try simp only [World.size_alloc, World.size_setCell, World.size_drew, size_drewN] at hs); (first | have l0 := Nat.lt_of_lt_of_le l0 (show _ ≤ w4.heap.size by omega) | have l0 : w.heap.size < w4.heap.size := (by omega) | skip); (try have l0e := Nat.le_of_lt l0); (try have l0f := Nat.le_add_right_of_le (k := 1) l0e); (try have l1 := Nat.lt_of_lt_of_le l1 (show _ ≤ w4.heap.size by omega)); (try have l1e := Nat.le_of_lt l1); (try have l1f := Nat.le_add_right_of_le (k := 1) l1e); (try have l2 := Nat.lt_of_lt_of_le l2 (show _ ≤ w4.heap.size by omega)); (try have l2e := Nat.le_of_lt l2); (try have l2f := Nat.le_add_right_of_le (k := 1) l2e); (try have l3 := Nat.lt_of_lt_of_le l3 (show _ ≤ w4.heap.size by omega)); (try have l3e := Nat.le_of_lt l3); (try have l3f := Nat.le_add_right_of_le (k := 1) l3e)
  have E14 := Lib.hid (E13.out.tr hb)
  have E4 := Lib.hid (E1.out.tr E14.out)
  clear HWr hb hc hf hz
  by_cases hn0 : n < 0
  · have hr0 : r = false := by
      have h1 := HN.out
      have h2 := HR.out
      split at h1
      · rename_i hv
        rw [hv] at h2
        simp only [lastv, Bool.true_and] at h2
        rw [decide_eq_false (by omega)] at h2
        simpa using h2.symm
      · rename_i hv
        rw [← h2]
        simp [hv]
    subst hr0
    go_wp2
    go_loopw [8, 9] (fun q i wr => i = .int .i64 0 ∧ q = .bool false ∧ wr = w4) (fun _ _ _ => 0)
    case atStart => exact ⟨rfl, rfl, rfl⟩
    case round =>
      obtain ⟨rfl, rfl, rfl⟩ := hrel
      go_wp2_with (fail)
      go_at_call 16
      refine (alive_c _).mono ?_
      rintro e w9 ⟨rfl, hb⟩
      obtain ⟨hc, hf, hz, hs⟩ := bcell hb
      (try simp only [World.size_alloc, World.size_setCell, World.size_drew, size_drewN] at hs); (first | have l0 := Nat.lt_of_lt_of_le l0 (show _ ≤ w9.heap.size by omega) | have l0 : w.heap.size < w9.heap.size := (by omega) | skip); (try have l0e := Nat.le_of_lt l0); (try have l0f := Nat.le_add_right_of_le (k := 1) l0e); (try have l1 := Nat.lt_of_lt_of_le l1 (show _ ≤ w9.heap.size by omega)); (try have l1e := Nat.le_of_lt l1); (try have l1f := Nat.le_add_right_of_le (k := 1) l1e); (try have l2 := Nat.lt_of_lt_of_le l2 (show _ ≤ w9.heap.size by omega)); (try have l2e := Nat.le_of_lt l2); (try have l2f := Nat.le_add_right_of_le (k := 1) l2e); (try have l3 := Nat.lt_of_lt_of_le l3 (show _ ≤ w9.heap.size by omega)); (try have l3e := Nat.le_of_lt l3); (try have l3f := Nat.le_add_right_of_le (k := 1) l3e)
      go_wp2
      go_ret
      exact ⟨rfl, E4.out.tr hb⟩
  · have hv : histv h = true := by
      cases hq : histv h with
      | true => rfl
      | false => have h1 := HN.out; rw [if_neg (by simp [hq])] at h1; omega
    have h1 := HN.out
    rw [if_pos hv] at h1
    obtain ⟨k, t, hk, hkt, hmem⟩ := wrN_mem (h := h) (key := key) (val := val) (by omega)
    obtain rfl : n = k := by omega
    have hr2 : r = decide ((⟨2, key, val⟩ : T3) ∈ lwsTo t.ops 3) := by
      rw [← HR.out, hv]
      simp only [lastv, Bool.true_and, hk]
      rw [decide_eq_true (by omega)]
      simp [hkt]
    have hkl : k < h.length := (List.getElem?_eq_some_iff.1 hkt).1
    obtain ⟨s, ops, d, A', cap, b, off, hxk, rfl, _, hb0, hO, c0, c1, c2'⟩ := (HX.out.ext E14.out).at_ hkl
    obtain rfl : (⟨s, ops, d⟩ : TxnT) = t := by rw [hxk] at hkt; exact Option.some.inj hkt
    have hon := hsm.ops hxk
    have htv : txnv ⟨s, ops, d⟩ = true := by
      simp only [histv, Bool.and_eq_true, List.all_eq_true] at hv
      have h4 := hv.1 _ (List.mem_of_getElem? hxk)
      simp only [txnOnce, Bool.and_eq_true] at h4
      exact h4.1
    simp only at hon hr2
    have LW0 := fun w hx => wrap_lastWrites_c ⟨s, ops, d⟩ Any A' cap w hx hon
    rw [if_pos htv] at LW0
    simp only at LW0
    have hL3 := lwsTo_len ops 3
    generalize lwsTo ops 3 = L at LW0 hr2 hL3
    have LW := Lib.hid LW0
    have HO := Lib.hid (show Ops Any w4 A' ops from SlAt.mono hO (fun _ _ _ => trivial) (fun _ _ h => h))
    clear h1 hxk hkt hmem hk hn0 hv htv LW0 hO
    go_wp2
    go_loopw [8, 9] (fun q i wr => ∃ j : Nat, j ≤ L.length ∧ i = .int .i64 j ∧ q = .bool (decide ((⟨2, key, val⟩ : T3) ∈ L.take j)) ∧ Ext w4 wr) (fun _ i _ => L.length - (intOf i).toNat)
    case atStart => exact ⟨0, Nat.zero_le _, rfl, by simp, Below.refl _ _⟩
    case round =>
      obtain ⟨j, hj, rfl, hq, hE⟩ := hrel
      have g0 := hE.keep hb0 c0
      have g1 := hE.keep hb0 c1
      have g2 := hE.keep hb0 c2'
      have hE0 := Lib.hid hE
      have hEz := hE.size
      clear hE
      go_wp2_with (fail)
      go_at_call 21
      refine (LW.out _ (HO.out.ext hE0.out)).mono ?_
      rintro e w6 ⟨A6, c6, rfl, hW6, hf6, hb⟩
      obtain ⟨hc, hf, hz, hs⟩ := bcell hb
      (try simp only [World.size_alloc, World.size_setCell, World.size_drew, size_drewN] at hs); (first | have l0 := Nat.lt_of_lt_of_le l0 (show _ ≤ w6.heap.size by omega) | have l0 : w.heap.size < w6.heap.size := (by omega) | skip); (try have l0e := Nat.le_of_lt l0); (try have l0f := Nat.le_add_right_of_le (k := 1) l0e); (try have l1 := Nat.lt_of_lt_of_le l1 (show _ ≤ w6.heap.size by omega)); (try have l1e := Nat.le_of_lt l1); (try have l1f := Nat.le_add_right_of_le (k := 1) l1e); (try have l2 := Nat.lt_of_lt_of_le l2 (show _ ≤ w6.heap.size by omega)); (try have l2e := Nat.le_of_lt l2); (try have l2f := Nat.le_add_right_of_le (k := 1) l2e); (try have l3 := Nat.lt_of_lt_of_le l3 (show _ ≤ w6.heap.size by omega)); (try have l3e := Nat.le_of_lt l3); (try have l3f := Nat.le_add_right_of_le (k := 1) l3e)
      have E46 := Lib.hid (hE0.out.tr hb)
      have p0 := E46.out.keep hb0 c0
      have p1 := E46.out.keep hb0 c1
      have p2 := E46.out.keep hb0 c2'
      clear hW6 hf6 hb hc hf hz
      by_cases hlt : j < L.length
      · obtain ⟨q0, hq0⟩ : ∃ q0, decide ((⟨2, key, val⟩ : T3) ∈ L.take j) = q0 := ⟨_, rfl⟩
        rw [hq0] at hq
        subst hq
        cases q0
        · skip
          go_wp2_with (fail)
          go_at_call 21
          refine (LW.out _ (HO.out.ext E46.out)).mono ?_
          rintro e w7 ⟨A7, c7, rfl, hW7, hf7, hb⟩
          obtain ⟨hc, hf, hz, hs⟩ := bcell hb
          (try simp only [World.size_alloc, World.size_setCell, World.size_drew, size_drewN] at hs); (first | have l0 := Nat.lt_of_lt_of_le l0 (show _ ≤ w7.heap.size by omega) | have l0 : w.heap.size < w7.heap.size := (by omega) | skip); (try have l0e := Nat.le_of_lt l0); (try have l0f := Nat.le_add_right_of_le (k := 1) l0e); (try have l1 := Nat.lt_of_lt_of_le l1 (show _ ≤ w7.heap.size by omega)); (try have l1e := Nat.le_of_lt l1); (try have l1f := Nat.le_add_right_of_le (k := 1) l1e); (try have l2 := Nat.lt_of_lt_of_le l2 (show _ ≤ w7.heap.size by omega)); (try have l2e := Nat.le_of_lt l2); (try have l2f := Nat.le_add_right_of_le (k := 1) l2e); (try have l3 := Nat.lt_of_lt_of_le l3 (show _ ≤ w7.heap.size by omega)); (try have l3e := Nat.le_of_lt l3); (try have l3f := Nat.le_add_right_of_le (k := 1) l3e)
          obtain ⟨x0, x1, x2, b2, off2, hyk, rfl, _, hb2, d0, d1, d2⟩ := hW7.at_ hlt
          have HY := Lib.hid (mem_take_succ (x := (⟨2, key, val⟩ : T3)) hyk)
          rw [hq0] at HY
          have E47 := Lib.hid (E46.out.tr hb)
          clear hyk hW7 hf7 hb hc hf hz
          go_wp2
          exact ⟨⟨j + 1, by omega, by go_num, congrArg Value.bool (by rw [HY.out]; simp [Bool.decide_and]), E47.out⟩, by simp [intOf]; omega⟩
        · have hmt : decide ((⟨2, key, val⟩ : T3) ∈ L.take (j + 1)) = true := by
            rw [decide_eq_true_eq] at hq0 ⊢
            rw [List.take_add_one]
            exact List.mem_append_left _ hq0
          go_wp2
          go_roundw
          case measure => simp [intOf]; omega
          case rel => exact ⟨j + 1, by omega, by go_num, by rw [hmt], E46.out⟩
      · obtain rfl : j = L.length := by omega
        rw [List.take_length, ← hr2] at hq
        subst hq
        go_wp2_with (fail)
        go_at_call 16
        refine (alive_c _).mono ?_
        rintro e w9 ⟨rfl, hb⟩
        obtain ⟨hc, hf, hz, hs⟩ := bcell hb
        (try simp only [World.size_alloc, World.size_setCell, World.size_drew, size_drewN] at hs); (first | have l0 := Nat.lt_of_lt_of_le l0 (show _ ≤ w9.heap.size by omega) | have l0 : w.heap.size < w9.heap.size := (by omega) | skip); (try have l0e := Nat.le_of_lt l0); (try have l0f := Nat.le_add_right_of_le (k := 1) l0e); (try have l1 := Nat.lt_of_lt_of_le l1 (show _ ≤ w9.heap.size by omega)); (try have l1e := Nat.le_of_lt l1); (try have l1f := Nat.le_add_right_of_le (k := 1) l1e); (try have l2 := Nat.lt_of_lt_of_le l2 (show _ ≤ w9.heap.size by omega)); (try have l2e := Nat.le_of_lt l2); (try have l2f := Nat.le_add_right_of_le (k := 1) l2e); (try have l3 := Nat.lt_of_lt_of_le l3 (show _ ≤ w9.heap.size by omega)); (try have l3e := Nat.le_of_lt l3); (try have l3f := Nat.le_add_right_of_le (k := 1) l3e)
        go_wp2
        go_ret
        exact ⟨rfl, (E4.out.tr E46.out).tr hb⟩

theorem FnLastValue_reads (os : Os) {H : Type} (enc : TypeId × Value → H) : ∃ places, DataW.whole enc Tryd.prog ((Law.laidWorld os).forCall (fun _ _ => 0) ⟨#[], #[.slice none 0 0], []⟩).memory Tryd.f11.params.toList Rows.fnLastValueSpec.vars false (#[.slice none 0 0] : Array Value).toList 8 = some ([.nil], [], places) :=
  ⟨[], by kernel_rfl⟩
theorem FnLastValue_laid (os : Os) : laidMet Tryd.prog Rows.fnLastValueRow.laid ((Law.laidWorld os).forCall (fun _ _ => 0) ⟨#[], #[.slice none 0 0], []⟩).memory :=
  laidMet_of_run' 8 (by kernel_rfl) (by kernel_rfl)
set_option maxRecDepth 100000 in
theorem FnLastValue_lifted (os : Os) (started : os.Started) (H : Type) (enc : TypeId × Value → H) (F : Stop.Interp) :
    ReturnsInHanded {} Tryd.checked os 11 .any ((OpenSpec.ofChange Rows.fnLastValueSpec).preRow enc Tryd.prog Tryd.f11 Rows.fnLastValueRow.domain false Rows.fnLastValueRow.laid) (((OpenSpec.ofChange Rows.fnLastValueSpec).at F).post enc Tryd.prog Tryd.f11 false true false false) := by
  obtain ⟨places, hx⟩ := FnLastValue_reads os enc
  refine returnsInHanded_of_row (C := Tryd.checked) (s := OpenSpec.ofChange Rows.fnLastValueSpec) Law.own started (by kernel_rfl) Tryd.func11
    (witness_row_at (enc := enc) (C := Tryd.checked) false (Law.laidWorld os) #[.slice none 0 0] rfl (by kernel_rfl) (by kernel_rfl) (by kernel_rfl)
      (OpenSpec.preRow_of_cond 8 hx (by kernel_rfl) (fun k hk => by cases hk) (by kernel_rfl) (FnLastValue_laid os))) ?_
  intro W base args ds gs before hval0 hW _ _ _ hLaid _ _
  have hval : ∀ (j : Nat) t v, Tryd.f11.params[j]? = some t → args[j]? = some v → Value.okWide Tryd.prog W .any base t v := hval0
  have hW' := hW
  obtain ⟨p, q, hA0, hV, rfl, hfz, hnd⟩ := hW
  have hA : DataW.TrodAll enc Tryd.prog W 0 (fun _ => true) true Tryd.f11.params.toList args.toList ds p := hA0
  rw [Tryd.params11] at hA hval
  obtain ⟨v0, vs0, d0, ds0, p0, q0, hargs, hds, rfl, h0, r0⟩ := trodAll_cons hA
  obtain ⟨rfl, rfl, rfl⟩ := trodAll_nil r0
  obtain rfl : args = #[v0] := by cases args; simp_all
  subst hds
  obtain ⟨x0, A0, c0, rfl, hO0, wf0⟩ := Law.open_bytes Tryd.underlying22 Tryd.underlying5 (by kernel_rfl) (hval 0 22 v0 rfl rfl) h0
  refine (FnLastValue_c x0 A0 c0 W hO0 wf0 (Law.bytes_cap Tryd.underlying22 (hval 0 22 _ rfl rfl))).mono fun e W' ⟨he, hb⟩ => ?_
  subst he
  refine ⟨_, rfl, Law.post_true Law.laidOut ?_ rfl rfl Tryd.underlying4 ⟨rfl, rfl, rfl⟩ hW' hb⟩
  intro t ht
  rw [Tryd.params11] at ht
  simp only [List.mem_cons, List.not_mem_nil, or_false] at ht
  first | (rcases ht with rfl <;> exact ⟨by kernel_rfl, of_decide_eq_true (by kernel_rfl)⟩)

theorem FnLastValue_holds : Rows.FnLastValueSaid :=
  OpenClaim.holds_of_cond 11 Tryd.f11 rfl rfl rfl rfl rfl rfl rfl ⟨rfl, rfl, rfl, rfl, rfl⟩ rfl rfl rfl rfl rfl (by kernel_rfl) Tryd.func11 (by kernel_rfl)
    (of_decide_eq_true (by kernel_rfl)) (by unfold Func.isWrapper; first | (rw [if_pos (by decide +kernel)]; kernel_rfl) | (rw [if_neg (by decide +kernel)]; exact ⟨rfl, rfl⟩))
    (fun os started H enc _ F => by rw [OpenClaim.pre_eq_preRow]; exact FnLastValue_lifted os started H enc F)
theorem FnLastValue_plain (f : FuncId) (fn : Func) (hf : Tryd.pinned.checked.prog.funcNamed Rows.fnLastValueRow.func = some f) (hfn : Tryd.pinned.checked.prog.funcs[f]? = some fn) :
    false = Tryd.pinned.checked.prog.looks [] ∧ ∀ (j : Nat) t, fn.params[j]? = some t → Tryd.pinned.checked.prog.wantsStandIn t = false := by
  obtain rfl : f = 11 := Option.some.inj ((show Tryd.prog.funcNamed Rows.fnLastValueRow.func = some 11 by kernel_rfl).symm.trans hf) |>.symm
  obtain rfl : fn = Tryd.f11 := (Option.some.inj (Tryd.func11.symm.trans hfn)).symm
  refine ⟨by kernel_rfl, fun j t ht => ?_⟩
  rw [Tryd.params11] at ht
  have hm := Array.mem_of_getElem? ht
  simp only [List.mem_toArray, List.mem_cons, List.not_mem_nil, or_false] at hm
  rcases hm with rfl
  · exact (show Tryd.prog.wantsStandIn 22 = false by kernel_rfl)
theorem FnLastValue_card : Rows.FnLastValueCardSaid :=
  Claim7.holds_tied_plain_at .later [] _ _ _ _ FnLastValue_holds (fun _ h => by cases h) (by kernel_rfl) (fun _ h => by cases h) fnLastValue_row_tie rfl ⟨rfl, rfl⟩ (by kernel_rfl) rfl FnLastValue_plain (by kernel_rfl)

end Go.Proofs.YtagmlbhmojgnlaaDoor
