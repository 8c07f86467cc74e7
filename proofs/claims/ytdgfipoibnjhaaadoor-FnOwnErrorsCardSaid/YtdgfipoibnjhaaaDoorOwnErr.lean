/-
  Contracts of OwnErrors, the reference's and the program's.
-/
import Derived.Test.YtdgfipoibnjhaaaDoorPlace
import Derived.Test.YtdgfipoibnjhaaaDoorReads
import Derived.Test.YtdgfipoibnjhaaaDoorWr
namespace Go.Proofs.YtdgfipoibnjhaaaDoor
set_option linter.unusedSimpArgs false
set_option linter.unusedVariables false
set_option maxRecDepth 100000
open Go.RowKit

/-- the places of the reads among the first n operations that differ from what the transaction did before -/
def oeT (who : Int) (ops : List T3) : Nat → List T2
  | 0 => []
  | n + 1 => match ops[n]? with
    | some o => if o.a = 1 ∧ 0 ≤ before ops o.b n ∧ before ops o.b n ≠ o.c then oeT who ops n ++ [⟨who, n⟩] else oeT who ops n
    | none => oeT who ops n
def oeH (h : List TxnT) : Nat → List T2
  | 0 => []
  | k + 1 => match h[k]? with
    | some t => oeH h k ++ oeT k t.ops t.ops.length
    | none => oeH h k
theorem oeT_hit {who : Int} {ops : List T3} {n : Nat} {o : T3} (h : ops[n]? = some o) (hc : o.a = 1 ∧ 0 ≤ before ops o.b n ∧ before ops o.b n ≠ o.c) : oeT who ops (n + 1) = oeT who ops n ++ [⟨who, n⟩] := by
  conv => lhs; unfold oeT
  rw [h]
  exact if_pos hc
theorem oeT_miss {who : Int} {ops : List T3} {n : Nat} {o : T3} (h : ops[n]? = some o) (hc : ¬ (o.a = 1 ∧ 0 ≤ before ops o.b n ∧ before ops o.b n ≠ o.c)) : oeT who ops (n + 1) = oeT who ops n := by
  conv => lhs; unfold oeT
  rw [h]
  exact if_neg hc
theorem oeT_len (who : Int) (ops : List T3) (n : Nat) : (oeT who ops n).length ≤ n := by
  induction n with
  | zero => exact Nat.le_refl _
  | succ n ih =>
    unfold oeT
    split
    · split
      · simp; omega
      · omega
    · omega
theorem oeH_succ {h : List TxnT} {k : Nat} {t : TxnT} (hk : h[k]? = some t) : oeH h (k + 1) = oeH h k ++ oeT k t.ops t.ops.length := by
  conv => lhs; unfold oeH
  rw [hk]
theorem oeH_len (h : List TxnT) (k : Nat) : (oeH h k).length ≤ total (h.take k) := by
  induction k with
  | zero => exact Nat.zero_le _
  | succ k ih =>
    cases hk : h[k]? with
    | none =>
      have : oeH h (k + 1) = oeH h k := by conv => lhs; unfold oeH
                                           rw [hk]
      rw [this, List.take_add_one, hk]
      simpa using ih
    | some t =>
      have h1 := oeT_len k t.ops t.ops.length
      rw [oeH_succ hk, total_take h k t hk, List.length_append]
      omega
theorem oeH_small {h : List TxnT} (hs : Small h) : (oeH h h.length).length ≤ 1048576 := by
  have h1 := oeH_len h h.length
  have h2 := total_le h h.length
  unfold Small at hs
  omega
theorem info2 : (Tryd.prog.info? 29).map (fun i => (i.zero, i.size, i.bytes)) = some (some (.agg #[.int .i64 0, .int .i64 0]), 2, 16) := by kernel_rfl

set_option maxHeartbeats 1000000 in
theorem specOwnErrors_ok (h : List TxnT) (S : Nat → Prop) (A : Option Addr) (c : Nat) (w : World) (hx : Txns S w A h) (hsm : Small h) (hv : histv h = true) :
    Calls Tryd.prog 12 #[.slice A h.length c] w (FreshP (oeH h h.length) w) := by
  have C := fun w hx => specHistoryValid_c h S A c w hx hsm
  have hn := hsm.len
  rw [hv] at C
  have C := Lib.hid C
  go_enter Tryd.func12, Tryd.ntmps12
  go_wp2
  have hO : Own2 (w.alloc (.cells #[] 29)) w.heap.size 29 (.slice (some ⟨w.heap.size, 0, none⟩) 0 0) (oeH h 0) := Own2.made w _ 0 rfl (by omega) (by omega) (by simp)
  go_loopw [3, 4] (fun v i wr => ∃ k : Nat, k ≤ h.length ∧ i = .int .i64 k ∧ Own2 wr w.heap.size 29 v (oeH h k) ∧ Ext w wr) (fun _ i _ => h.length - (intOf i).toNat)
  case atStart => exact ⟨0, Nat.zero_le _, rfl, hO, by (repeat' (first | (with_reducible exact Below.refl _ _) | (with_reducible refine Below.mono (by assumption) ?_) | (with_reducible refine Below.trans ?_ (Below.mono (by assumption) ?_)) | (with_reducible refine Below.alloc ?_ ?_ _) | (with_reducible refine Below.drew ?_) | (with_reducible refine below_drewN ?_ _) | (with_reducible refine Below.setCell ?_ ?_ _) | (simp only [World.size_alloc, World.size_setCell, World.size_drew, size_drewN]; omega) | omega))⟩
  case round =>
    obtain ⟨k, hk, rfl, hown, hE⟩ := hrel
    have hEz := hE.size
    clear hO
    by_cases hlt : k < h.length
    · obtain ⟨s, ops, d, A', cap, b, off, hxk, rfl, _, hb0, hOp, c0, c1, c2⟩ := hx.at_ hlt
      have hon := hsm.ops hxk
      simp only at hon
      have hst := oeH_succ hxk
      have hht := oeH_len h k
      have htt := total_take h k _ hxk
      have htl := total_le h (k + 1)
      simp only at hst htt
      have hsm' := hsm
      unfold Small at hsm'
      have HS := Lib.hid hst
      clear hxk hst
      go_wp2_with (fail)
      go_at_call 26
      refine (C.out _ (hx.ext hE)).mono ?_
      rintro e w1 ⟨rfl, hb⟩
      obtain ⟨hc, hf, hz, hs⟩ := bcell hb
      (try simp only [World.size_alloc, World.size_setCell, World.size_drew, size_drewN] at hs); (first | have l0 := Nat.lt_of_lt_of_le l0 (show _ ≤ w1.heap.size by omega) | have l0 : w.heap.size < w1.heap.size := (by omega) | skip); (try have l0e := Nat.le_of_lt l0); (try have l0f := Nat.le_add_right_of_le (k := 1) l0e); (try have l1 := Nat.lt_of_lt_of_le l1 (show _ ≤ w1.heap.size by omega)); (try have l1e := Nat.le_of_lt l1); (try have l1f := Nat.le_add_right_of_le (k := 1) l1e); (try have l2 := Nat.lt_of_lt_of_le l2 (show _ ≤ w1.heap.size by omega)); (try have l2e := Nat.le_of_lt l2); (try have l2f := Nat.le_add_right_of_le (k := 1) l2e); (try have l3 := Nat.lt_of_lt_of_le l3 (show _ ≤ w1.heap.size by omega)); (try have l3e := Nat.le_of_lt l3); (try have l3f := Nat.le_add_right_of_le (k := 1) l3e)
      have e1 := hE.tr hb
      have hown1 := hown.ext hb
      have hz1 := e1.size
      have f1 := e1.keep hb0 c1
      clear hown hc hf hz hs hb
      go_wp2
      go_loopw [3, 5] (fun v i wr => ∃ j : Nat, j ≤ ops.length ∧ i = .int .i64 j ∧ Own2 wr w.heap.size 29 v (oeH h k ++ oeT k ops j) ∧ Ext w wr) (fun _ i _ => ops.length - (intOf i).toNat)
      case atStart => exact ⟨0, Nat.zero_le _, rfl, by simpa [oeT] using hown1, e1⟩
      case round =>
        obtain ⟨j, hj, rfl, hown2, hE2⟩ := hrel
        have g0 := hE2.keep hb0 c0
        have g1 := hE2.keep hb0 c1
        have g2 := hE2.keep hb0 c2
        have hz2 := hE2.size
        by_cases hlt2 : j < ops.length
        · obtain ⟨x0, x1, x2, b2, off2, hyk, rfl, _, hb2, d0, d1, d2⟩ := hOp.at_ hlt2
          have q0 := hE2.keep hb2 d0
          have q1 := hE2.keep hb2 d1
          have q2 := hE2.keep hb2 d2
          have l0 : b < wr.heap.size := by omega
          have l2 : b2 < wr.heap.size := by omega
          have HY := Lib.hid hyk
          clear hyk
          go_wp2
          have e9 : Ext wr (wr.alloc (.cells #[.int .i64 x0, .int .i64 x1, .int .i64 x2] 34)) := by (repeat' (first | (with_reducible exact Below.refl _ _) | (with_reducible refine Below.mono (by assumption) ?_) | (with_reducible refine Below.trans ?_ (Below.mono (by assumption) ?_)) | (with_reducible refine Below.alloc ?_ ?_ _) | (with_reducible refine Below.drew ?_) | (with_reducible refine below_drewN ?_ _) | (with_reducible refine Below.setCell ?_ ?_ _) | (simp only [World.size_alloc, World.size_setCell, World.size_drew, size_drewN]; omega) | omega))
          have s9 : wr.heap.size < (wr.alloc (.cells #[.int .i64 x0, .int .i64 x1, .int .i64 x2] 34)).heap.size := by simp
          obtain ⟨z0, z1, z2⟩ := box3 (Below.refl _ (wr.alloc (.cells #[.int .i64 x0, .int .i64 x1, .int .i64 x2] 34)))
          generalize wr.alloc (.cells #[.int .i64 x0, .int .i64 x1, .int .i64 x2] 34) = w9 at e9 s9 z0 z1 z2 ⊢
          have r0 := e9.keep l0 g0
          have r1 := e9.keep l0 g1
          have r2 := e9.keep l0 g2
          go_still_tail 7, (by kernel_rfl)
          change wpList _ _ _ _ _ w9.drew
          have hE9 : Ext w w9 := hE2.tr e9
          have hown9 := hown2.ext e9
          go_wp2_with (fail)
          go_at_call 38
          refine (l4Before_c ⟨s, ops, d⟩ S _ cap j x1 _ (hOp.ext (by (repeat' (first | (with_reducible exact Below.refl _ _) | (with_reducible refine Below.mono (by assumption) ?_) | (with_reducible refine Below.trans ?_ (Below.mono (by assumption) ?_)) | (with_reducible refine Below.alloc ?_ ?_ _) | (with_reducible refine Below.drew ?_) | (with_reducible refine below_drewN ?_ _) | (with_reducible refine Below.setCell ?_ ?_ _) | (simp only [World.size_alloc, World.size_setCell, World.size_drew, size_drewN]; omega) | omega)))) hon (by omega)).mono ?_
          rintro e w10 ⟨rfl, hb⟩
          obtain ⟨hc, hf, hz, hs⟩ := bcell hb
          (try simp only [World.size_alloc, World.size_setCell, World.size_drew, size_drewN] at hs); (first | have l0 := Nat.lt_of_lt_of_le l0 (show _ ≤ w10.heap.size by omega) | have l0 : w.heap.size < w10.heap.size := (by omega) | skip); (try have l0e := Nat.le_of_lt l0); (try have l0f := Nat.le_add_right_of_le (k := 1) l0e); (try have l1 := Nat.lt_of_lt_of_le l1 (show _ ≤ w10.heap.size by omega)); (try have l1e := Nat.le_of_lt l1); (try have l1f := Nat.le_add_right_of_le (k := 1) l1e); (try have l2 := Nat.lt_of_lt_of_le l2 (show _ ≤ w10.heap.size by omega)); (try have l2e := Nat.le_of_lt l2); (try have l2f := Nat.le_add_right_of_le (k := 1) l2e); (try have l3 := Nat.lt_of_lt_of_le l3 (show _ ≤ w10.heap.size by omega)); (try have l3e := Nat.le_of_lt l3); (try have l3f := Nat.le_add_right_of_le (k := 1) l3e)
          have e10 : Ext w9 w10 := by (repeat' (first | (with_reducible exact Below.refl _ _) | (with_reducible refine Below.mono (by assumption) ?_) | (with_reducible refine Below.trans ?_ (Below.mono (by assumption) ?_)) | (with_reducible refine Below.alloc ?_ ?_ _) | (with_reducible refine Below.drew ?_) | (with_reducible refine below_drewN ?_ _) | (with_reducible refine Below.setCell ?_ ?_ _) | (simp only [World.size_alloc, World.size_setCell, World.size_drew, size_drewN]; omega) | omega))
          have y0 := e10.keep s9 z0
          have y1 := e10.keep s9 z1
          have y2 := e10.keep s9 z2
          have hE10 := hE9.tr e10
          have hown10 := hown9.ext e10
          have hz10 := hE10.size
          have hj2 := oeT_len k ops j
          clear hc hf hz hs
          go_wp2_with (at_builtin; refine wpList_append2 _ rfl _ _ 25 rfl w.heap.size 29 Tryd.underlying25 info2 rfl _ (oeH h k ++ oeT k ops j) rfl (hown10.ext (by (repeat' (first | (with_reducible exact Below.refl _ _) | (with_reducible refine Below.mono (by assumption) ?_) | (with_reducible refine Below.trans ?_ (Below.mono (by assumption) ?_)) | (with_reducible refine Below.alloc ?_ ?_ _) | (with_reducible refine Below.drew ?_) | (with_reducible refine below_drewN ?_ _) | (with_reducible refine Below.setCell ?_ ?_ _) | (simp only [World.size_alloc, World.size_setCell, World.size_drew, size_drewN]; omega) | omega)))) _ k j rfl ?_ ?_ ?_ ?_ ?_)
          case roundEnd =>
            have hc : ¬ ((⟨x0, x1, x2⟩ : T3).a = 1 ∧ 0 ≤ before ops (⟨x0, x1, x2⟩ : T3).b j ∧ before ops (⟨x0, x1, x2⟩ : T3).b j ≠ (⟨x0, x1, x2⟩ : T3).c) := by
              rintro ⟨a1, a2, a3⟩
              simp_all
            exact ⟨⟨j + 1, by omega, by go_num, by rw [oeT_miss HY.out hc]; exact hown10, hE10⟩, by simp [intOf]; omega⟩
          case roundEnd =>
            have hc : ¬ ((⟨x0, x1, x2⟩ : T3).a = 1 ∧ 0 ≤ before ops (⟨x0, x1, x2⟩ : T3).b j ∧ before ops (⟨x0, x1, x2⟩ : T3).b j ≠ (⟨x0, x1, x2⟩ : T3).c) := by
              rintro ⟨a1, a2, a3⟩
              simp_all
            exact ⟨⟨j + 1, by omega, by go_num, by rw [oeT_miss HY.out hc]; exact hown10, hE10⟩, by simp [intOf]; omega⟩
          case roundEnd =>
            have hc : ¬ ((⟨x0, x1, x2⟩ : T3).a = 1 ∧ 0 ≤ before ops (⟨x0, x1, x2⟩ : T3).b j ∧ before ops (⟨x0, x1, x2⟩ : T3).b j ≠ (⟨x0, x1, x2⟩ : T3).c) := by
              rintro ⟨a1, a2, a3⟩
              simp_all
            exact ⟨⟨j + 1, by omega, by go_num, by rw [oeT_miss HY.out hc]; exact hown10, hE10⟩, by simp [intOf]; omega⟩
          · simp
          · simp
          · rw [List.length_append]; omega
          · simp only [World.size_alloc]; omega
          · intro v' w' hown' hgrow
            have hc : (⟨x0, x1, x2⟩ : T3).a = 1 ∧ 0 ≤ before ops (⟨x0, x1, x2⟩ : T3).b j ∧ before ops (⟨x0, x1, x2⟩ : T3).b j ≠ (⟨x0, x1, x2⟩ : T3).c := by
              refine ⟨by assumption, by assumption, ?_⟩
              have h3 : (before ops x1 j != x2) = true := by assumption
              simpa using h3
            have hE2' : Ext w w' := Below.grown (w := w10.alloc (.cells #[.int .i64 k, .int .i64 j] 29)) (by (repeat' (first | (with_reducible exact Below.refl _ _) | (with_reducible refine Below.mono (by assumption) ?_) | (with_reducible refine Below.trans ?_ (Below.mono (by assumption) ?_)) | (with_reducible refine Below.alloc ?_ ?_ _) | (with_reducible refine Below.drew ?_) | (with_reducible refine below_drewN ?_ _) | (with_reducible refine Below.setCell ?_ ?_ _) | (simp only [World.size_alloc, World.size_setCell, World.size_drew, size_drewN]; omega) | omega))) hgrow (by simp only [World.size_alloc]; omega) (fun g hg => own2_block hown2 g hg)
            have hap := oeT_hit (who := (k : Int)) HY.out hc
            try rw [List.append_assoc] at hown'
            rw [← hap] at hown'
            clear hap
            clear hc hown2 hown9 hown10 hgrow
            go_wp2
            go_roundw
            case measure => simp [intOf]; omega
            case rel => exact ⟨j + 1, by omega, by go_num, hown', hE2'⟩
        · obtain rfl : j = ops.length := by omega
          rw [← HS.out] at hown2
          go_wp2
          exact ⟨⟨k + 1, by omega, by go_num, hown2, hE2⟩, by simp [intOf]; omega⟩
    · obtain rfl : k = h.length := by omega
      have hfr := hown.fresh (Nat.le_refl _) hE
      go_wp2
      go_ret
      exact hfr

set_option maxHeartbeats 1000000 in
theorem specOwnErrors_bad (h : List TxnT) (S : Nat → Prop) (A : Option Addr) (c : Nat) (w : World) (hx : Txns S w A h) (hsm : Small h) (hv : histv h = false) :
    Calls Tryd.prog 12 #[.slice A h.length c] w (FreshP [] w) := by
  have C := fun w hx => specHistoryValid_c h S A c w hx hsm
  have hn := hsm.len
  rw [hv] at C
  have C := Lib.hid C
  go_enter Tryd.func12, Tryd.ntmps12
  go_wp2
  have hO : Own2 (w.alloc (.cells #[] 29)) w.heap.size 29 (.slice (some ⟨w.heap.size, 0, none⟩) 0 0) [] := Own2.made w _ 0 rfl (by omega) (by omega) (by simp)
  go_loopw [3, 4] (fun v i wr => i = .int .i64 0 ∧ Own2 wr w.heap.size 29 v [] ∧ Ext w wr) (fun _ _ _ => 0)
  case atStart => exact ⟨rfl, hO, by (repeat' (first | (with_reducible exact Below.refl _ _) | (with_reducible refine Below.mono (by assumption) ?_) | (with_reducible refine Below.trans ?_ (Below.mono (by assumption) ?_)) | (with_reducible refine Below.alloc ?_ ?_ _) | (with_reducible refine Below.drew ?_) | (with_reducible refine below_drewN ?_ _) | (with_reducible refine Below.setCell ?_ ?_ _) | (simp only [World.size_alloc, World.size_setCell, World.size_drew, size_drewN]; omega) | omega))⟩
  case round =>
    obtain ⟨rfl, hown, hE⟩ := hrel
    by_cases hlt : 0 < h.length
    · go_wp2_with (go_at_call 26; refine (C.out _ (hx.ext hE)).mono ?_; rintro e w1 ⟨rfl, hb⟩; obtain ⟨hc, hf, hz, hs⟩ := bcell hb; (try simp only [World.size_alloc, World.size_setCell, World.size_drew, size_drewN] at hs); (first | have l0 := Nat.lt_of_lt_of_le l0 (show _ ≤ w1.heap.size by omega) | have l0 : w.heap.size < w1.heap.size := (by omega) | skip); (try have l0e := Nat.le_of_lt l0); (try have l0f := Nat.le_add_right_of_le (k := 1) l0e); (try have l1 := Nat.lt_of_lt_of_le l1 (show _ ≤ w1.heap.size by omega)); (try have l1e := Nat.le_of_lt l1); (try have l1f := Nat.le_add_right_of_le (k := 1) l1e); (try have l2 := Nat.lt_of_lt_of_le l2 (show _ ≤ w1.heap.size by omega)); (try have l2e := Nat.le_of_lt l2); (try have l2f := Nat.le_add_right_of_le (k := 1) l2e); (try have l3 := Nat.lt_of_lt_of_le l3 (show _ ≤ w1.heap.size by omega)); (try have l3e := Nat.le_of_lt l3); (try have l3f := Nat.le_add_right_of_le (k := 1) l3e))
      all_goals go_ret
      all_goals exact (hown.ext hb).fresh (Nat.le_refl _) (hE.tr hb)
    · go_wp2
      go_ret
      exact hown.fresh (Nat.le_refl _) hE
theorem specOwnErrors_c (h : List TxnT) (S : Nat → Prop) (A : Option Addr) (c : Nat) (w : World) (hx : Txns S w A h) (hsm : Small h) :
    Calls Tryd.prog 12 #[.slice A h.length c] w (FreshP (if histv h = true then oeH h h.length else []) w) := by
  cases hv : histv h with
  | false => rw [if_neg (by simp)]; exact specOwnErrors_bad h S A c w hx hsm hv
  | true => rw [if_pos rfl]; exact specOwnErrors_ok h S A c w hx hsm hv

/-- the value of the last operation on a key among the first n -/
def lastO (ops : List T3) (key : Int) : Nat → Option Int
  | 0 => none
  | n + 1 => match ops[n]? with
    | some o => if o.b = key then some o.c else lastO ops key n
    | none => lastO ops key n
theorem lastO_succ {ops : List T3} {key : Int} {n : Nat} {o : T3} (h : ops[n]? = some o) : lastO ops key (n + 1) = if o.b = key then some o.c else lastO ops key n := by
  simp [lastO, h]
theorem before_lastO (ops : List T3) (key : Int) (n : Nat) : before ops key n = (lastO ops key n).getD (-1) := by
  induction n with
  | zero => rfl
  | succ n ih =>
    unfold before lastO
    cases ops[n]? with
    | none => exact ih
    | some o =>
      simp only
      split
      · rfl
      · exact ih
theorem lastO_nn {ops : List T3} (h : ∀ o ∈ ops, 0 ≤ o.c) (key : Int) (n : Nat) (v : Int) (hv : lastO ops key n = some v) : 0 ≤ v := by
  induction n with
  | zero => cases hv
  | succ n ih =>
    unfold lastO at hv
    cases ho : ops[n]? with
    | none => rw [ho] at hv; exact ih hv
    | some o =>
      rw [ho] at hv
      simp only at hv
      split at hv
      · cases hv; exact h _ (List.mem_of_getElem? ho)
      · exact ih hv
def omap (ops : List T3) (k : Nat) : Int → Option Value := fun key => (lastO ops key k).map (Value.int .i64)
theorem omap_put {ops : List T3} {k : Nat} {o : T3} (h : ops[k]? = some o) : (fun k' => if k' = o.b then some (Value.int .i64 o.c) else omap ops k k') = omap ops (k + 1) := by
  funext k'
  unfold omap
  rw [lastO_succ h]
  by_cases e : k' = o.b
  · subst e; simp
  · rw [if_neg e, if_neg (fun h => e h.symm)]

def FreshP2 (xs : List T2) (w : World) (e : Ending) (w' : World) : Prop := ∃ v, e = .returned v ∧ Own2 w' w.heap.size 29 v xs ∧ Ext w w'
set_option maxHeartbeats 4000000 in
theorem ownErrors_c (who : Nat) (t : TxnT) (S : Nat → Prop) (A : Option Addr) (c : Nat) (w : World) (hx : Ops S w A t.ops) (hn : t.ops.length ≤ 1048576) (hval : ∀ o ∈ t.ops, 0 ≤ o.c) :
    Calls Tryd.prog 37 #[.int .i64 who, .agg #[.int .i64 t.sess, .slice A t.ops.length c, .bool t.done]] w (FreshP2 (oeT who t.ops t.ops.length) w) := by
  obtain ⟨s, ops, d⟩ := t
  simp only at hx hn hval ⊢
  have hmm := @run_makeMap Tryd.prog
  go_enter Tryd.func37, Tryd.ntmps37
  go_wp2
  have hO : Own2 (((w.alloc (.cells #[.int .i64 s, .slice A ops.length c, .bool d] 32)).alloc (.cells #[] 29)).alloc (.map #[] 0)) (w.heap.size + 1) 29 (.slice (some ⟨w.heap.size + 1, 0, none⟩) 0 0) (oeT who ops 0) :=
    Own2.ext (Own2.made (w.alloc (.cells #[.int .i64 s, .slice A ops.length c, .bool d] 32)) #[] 0 (by simp) (by simp) (by omega) (by simp)) (by (repeat' (first | (with_reducible exact Below.refl _ _) | (with_reducible refine Below.mono (by assumption) ?_) | (with_reducible refine Below.trans ?_ (Below.mono (by assumption) ?_)) | (with_reducible refine Below.alloc ?_ ?_ _) | (with_reducible refine Below.drew ?_) | (with_reducible refine below_drewN ?_ _) | (with_reducible refine Below.setCell ?_ ?_ _) | (simp only [World.size_alloc, World.size_setCell, World.size_drew, size_drewN]; omega) | omega)))
  have hM : MapF (fun k : Int => Value.int .i64 k) (((w.alloc (.cells #[.int .i64 s, .slice A ops.length c, .bool d] 32)).alloc (.cells #[] 29)).alloc (.map #[] 0)) (w.heap.size + 1 + 1) (omap ops 0) 0 := by
    have h := MapF.made (ek := fun k : Int => Value.int .i64 k) ((w.alloc (.cells #[.int .i64 s, .slice A ops.length c, .bool d] 32)).alloc (.cells #[] 29))
    simp only [World.size_alloc] at h
    exact h
  go_loopw [5, 16] (fun v i wr => ∃ k : Nat, k ≤ ops.length ∧ i = .int .i64 k ∧ Own2 wr (w.heap.size + 1) 29 v (oeT who ops k) ∧ MapF (fun k : Int => Value.int .i64 k) wr (w.heap.size + 1 + 1) (omap ops k) k ∧ Ext w wr) (fun _ i _ => ops.length - (intOf i).toNat)
  case atStart => exact ⟨0, Nat.zero_le _, rfl, hO, hM, by (repeat' (first | (with_reducible exact Below.refl _ _) | (with_reducible refine Below.mono (by assumption) ?_) | (with_reducible refine Below.trans ?_ (Below.mono (by assumption) ?_)) | (with_reducible refine Below.alloc ?_ ?_ _) | (with_reducible refine Below.drew ?_) | (with_reducible refine below_drewN ?_ _) | (with_reducible refine Below.setCell ?_ ?_ _) | (simp only [World.size_alloc, World.size_setCell, World.size_drew, size_drewN]; omega) | omega))⟩
  case round =>
    obtain ⟨k, hk, rfl, hown, hmap, hE⟩ := hrel
    clear hO hM hmm
    have hsr := hE.size
    have hml := hmap.lt
    by_cases hlt : k < ops.length
    · obtain ⟨x0, x1, x2, b, off, hxk, rfl, _, hb0, c0, c1, c2⟩ := (hx.ext hE).at_ hlt
      have hbe := before_lastO ops x1 k
      have hnn := lastO_nn hval x1 k
      have hom : omap ops k x1 = (lastO ops x1 k).map (Value.int .i64) := rfl
      have HX := Lib.hid hxk
      clear hxk
      generalize lastO ops x1 k = lo at hbe hnn hom
      have HB := Lib.hid hbe
      have HN := Lib.hid hnn
      clear hbe hnn
      have hjl := oeT_len who ops k
      by_cases hit : x0 = 1 ∧ ∃ v, lo = some v ∧ v ≠ x2
      · obtain ⟨rfl, v, rfl, hne⟩ := hit
        have hr0 : ((1 : Int) == 1) = true := rfl
        have hv0 : (v != x2) = true := by simpa using hne
        have hc : (⟨1, x1, x2⟩ : T3).a = 1 ∧ 0 ≤ before ops (⟨1, x1, x2⟩ : T3).b k ∧ before ops (⟨1, x1, x2⟩ : T3).b k ≠ (⟨1, x1, x2⟩ : T3).c := by
          simp only
          rw [HB.out]
          exact ⟨trivial, HN.out v rfl, hne⟩
        have hap := oeT_hit (who := (who : Int)) HX.out hc
        have HA := Lib.hid hap
        clear hap hc hne
        go_wp2_with (first
          | (at_lookup; refine wpList_lookF _ rfl _ _ 93 true rfl Tryd.underlying93 (int_keylaw Tryd.underlying3) (z := .int .i64 0) (fun W => Tryd.zeroValue3 W) _ (omap ops k) k rfl (hmap.ext (by (repeat' (first | (with_reducible exact Below.refl _ _) | (with_reducible refine Below.mono (by assumption) ?_) | (with_reducible refine Below.trans ?_ (Below.mono (by assumption) ?_)) | (with_reducible refine Below.alloc ?_ ?_ _) | (with_reducible refine Below.drew ?_) | (with_reducible refine below_drewN ?_ _) | (with_reducible refine Below.setCell ?_ ?_ _) | (simp only [World.size_alloc, World.size_setCell, World.size_drew, size_drewN]; omega) | omega)))) x1 rfl ?_; rw [hom])
          | (go_at_call 77; refine (reads_c _ _ _ _).mono ?_; rintro e w1 ⟨rfl, hb⟩; obtain ⟨hc, hf, hz, hs⟩ := bcell hb; (try simp only [World.size_alloc, World.size_setCell, World.size_drew, size_drewN] at hs); (first | have l0 := Nat.lt_of_lt_of_le l0 (show _ ≤ w1.heap.size by omega) | have l0 : w.heap.size < w1.heap.size := (by omega) | skip); (try have l0e := Nat.le_of_lt l0); (try have l0f := Nat.le_add_right_of_le (k := 1) l0e); (try have l1 := Nat.lt_of_lt_of_le l1 (show _ ≤ w1.heap.size by omega)); (try have l1e := Nat.le_of_lt l1); (try have l1f := Nat.le_add_right_of_le (k := 1) l1e); (try have l2 := Nat.lt_of_lt_of_le l2 (show _ ≤ w1.heap.size by omega)); (try have l2e := Nat.le_of_lt l2); (try have l2f := Nat.le_add_right_of_le (k := 1) l2e); (try have l3 := Nat.lt_of_lt_of_le l3 (show _ ≤ w1.heap.size by omega)); (try have l3e := Nat.le_of_lt l3); (try have l3f := Nat.le_add_right_of_le (k := 1) l3e); have hr1 : Ext wr w1 := (by (repeat' (first | (with_reducible exact Below.refl _ _) | (with_reducible refine Below.mono (by assumption) ?_) | (with_reducible refine Below.trans ?_ (Below.mono (by assumption) ?_)) | (with_reducible refine Below.alloc ?_ ?_ _) | (with_reducible refine Below.drew ?_) | (with_reducible refine below_drewN ?_ _) | (with_reducible refine Below.setCell ?_ ?_ _) | (simp only [World.size_alloc, World.size_setCell, World.size_drew, size_drewN]; omega) | omega))); obtain ⟨y0, y1, y2⟩ := box3 hb)
          | (at_builtin; refine wpList_append2 _ rfl _ _ 25 rfl (w.heap.size + 1) 29 Tryd.underlying25 info2 rfl _ (oeT who ops k) rfl (hown.ext (by (repeat' (first | (with_reducible exact Below.refl _ _) | (with_reducible refine Below.mono (by assumption) ?_) | (with_reducible refine Below.trans ?_ (Below.mono (by assumption) ?_)) | (with_reducible refine Below.alloc ?_ ?_ _) | (with_reducible refine Below.drew ?_) | (with_reducible refine below_drewN ?_ _) | (with_reducible refine Below.setCell ?_ ?_ _) | (simp only [World.size_alloc, World.size_setCell, World.size_drew, size_drewN]; omega) | omega)))) _ who k rfl ?_ ?_ ?_ ?_ ?_))
        · simp
        · simp
        · omega
        · simp only [World.size_alloc]; omega
        · intro v' w' hown' hgrow
          rw [← HA.out] at hown'
          have ha1 : Ext wr (w1.alloc (.cells #[.int .i64 who, .int .i64 k] 29)) := hr1.tr (by (repeat' (first | (with_reducible exact Below.refl _ _) | (with_reducible refine Below.mono (by assumption) ?_) | (with_reducible refine Below.trans ?_ (Below.mono (by assumption) ?_)) | (with_reducible refine Below.alloc ?_ ?_ _) | (with_reducible refine Below.drew ?_) | (with_reducible refine below_drewN ?_ _) | (with_reducible refine Below.setCell ?_ ?_ _) | (simp only [World.size_alloc, World.size_setCell, World.size_drew, size_drewN]; omega) | omega)))
          have hlk := (hmap.ext ha1).grown hgrow ((hown.ext ha1).ne_map (hmap.ext ha1))
          have hE' : Ext w w' :=
            Below.grown (hE.tr ha1) hgrow (hE.tr ha1).size (fun g hg => by have := own2_block hown g hg; omega)
          have y1' : w'.cell? ⟨wr.heap.size, 1, none⟩ = some (.int .i64 x1) := by
            refine hgrow.cell (by rw [World.cell?_alloc_lt _ _ _ (show wr.heap.size < w1.heap.size by omega)]; exact y1) (fun he => ?_)
            have := (World.ownsRow.lt hown _ he.symm).2
            simp only at this
            omega
          have y2' : w'.cell? ⟨wr.heap.size, 2, none⟩ = some (.int .i64 x2) := by
            refine hgrow.cell (by rw [World.cell?_alloc_lt _ _ _ (show wr.heap.size < w1.heap.size by omega)]; exact y2) (fun he => ?_)
            have := (World.ownsRow.lt hown _ he.symm).2
            simp only at this
            omega
          clear y0 y1 y2 hc hf hz hom
          go_wp2_with (at_mapUpdate; refine wpList_putF _ rfl _ _ _ 93 rfl Tryd.underlying93 (int_keylaw Tryd.underlying3) _ _ _ rfl hlk x1 (.int .i64 x2) rfl rfl ?_)
          intro w2 hmap2 hgrow2
          have hown2 := hown'.grown hgrow2 (hown'.ne_map hlk)
          have hmap3 : MapF (fun k : Int => Value.int .i64 k) w2 (w.heap.size + 1 + 1) (omap ops (k + 1)) (k + 1) := by rw [← omap_put HX.out]; exact hmap2
          have hE2 := hE'.grown hgrow2 hE'.size (fun g hg => by cases hg; omega)
          clear hmap2 hown' hlk hgrow hgrow2 y1' y2'
          go_wp2
          exact ⟨⟨k + 1, by omega, by go_num, hown2, hmap3, hE2⟩, by simp [intOf]; omega⟩
      · have hc : ¬ ((⟨x0, x1, x2⟩ : T3).a = 1 ∧ 0 ≤ before ops (⟨x0, x1, x2⟩ : T3).b k ∧ before ops (⟨x0, x1, x2⟩ : T3).b k ≠ (⟨x0, x1, x2⟩ : T3).c) := by
          rintro ⟨a1, a2, a3⟩
          simp only at a1 a2 a3
          rw [HB.out] at a2 a3
          cases lo with
          | none => simp at a2
          | some v => exact hit ⟨a1, v, rfl, a3⟩
        have hap := oeT_miss (who := (who : Int)) HX.out hc
        have HA := Lib.hid hap
        clear hap hc
        have hfin : ∀ w1 w2, Ext wr w1 → MapF (fun k : Int => Value.int .i64 k) w2 (w.heap.size + 1 + 1) (fun k' => if k' = x1 then some (.int .i64 x2) else omap ops k k') (k + 1) → w1.grownBy w2 (some (w.heap.size + 1 + 1)) →
            Own2 w2 (w.heap.size + 1) 29 u5 (oeT who ops (k + 1)) ∧ MapF (fun k : Int => Value.int .i64 k) w2 (w.heap.size + 1 + 1) (omap ops (k + 1)) (k + 1) ∧ Ext w w2 := fun w1 w2 hr1 hmap2 hgrow2 => by
          rw [HA.out]
          exact ⟨(hown.ext hr1).grown hgrow2 ((hown.ext hr1).ne_map (hmap.ext hr1)), by rw [← omap_put HX.out]; exact hmap2, Below.grown (hE.tr hr1) hgrow2 (hE.tr hr1).size (fun g hg => by cases hg; omega)⟩
        have HF := Lib.hid hfin
        clear hfin
        by_cases hx1 : x0 = 1
        · obtain rfl := hx1
          have hr0 : ((1 : Int) == 1) = true := rfl
          cases lo with
          | none =>
            clear hit
            go_wp2_with (first | (at_lookup; refine wpList_lookF _ rfl _ _ 93 true rfl Tryd.underlying93 (int_keylaw Tryd.underlying3) (z := .int .i64 0) (fun W => Tryd.zeroValue3 W) _ (omap ops k) k rfl (hmap.ext (by (repeat' (first | (with_reducible exact Below.refl _ _) | (with_reducible refine Below.mono (by assumption) ?_) | (with_reducible refine Below.trans ?_ (Below.mono (by assumption) ?_)) | (with_reducible refine Below.alloc ?_ ?_ _) | (with_reducible refine Below.drew ?_) | (with_reducible refine below_drewN ?_ _) | (with_reducible refine Below.setCell ?_ ?_ _) | (simp only [World.size_alloc, World.size_setCell, World.size_drew, size_drewN]; omega) | omega)))) x1 rfl ?_; rw [hom]) | (go_at_call 77; refine (reads_c _ _ _ _).mono ?_; rintro e w1 ⟨rfl, hb⟩; obtain ⟨hc, hf, hz, hs⟩ := bcell hb; (try simp only [World.size_alloc, World.size_setCell, World.size_drew, size_drewN] at hs); (first | have l0 := Nat.lt_of_lt_of_le l0 (show _ ≤ w1.heap.size by omega) | have l0 : w.heap.size < w1.heap.size := (by omega) | skip); (try have l0e := Nat.le_of_lt l0); (try have l0f := Nat.le_add_right_of_le (k := 1) l0e); (try have l1 := Nat.lt_of_lt_of_le l1 (show _ ≤ w1.heap.size by omega)); (try have l1e := Nat.le_of_lt l1); (try have l1f := Nat.le_add_right_of_le (k := 1) l1e); (try have l2 := Nat.lt_of_lt_of_le l2 (show _ ≤ w1.heap.size by omega)); (try have l2e := Nat.le_of_lt l2); (try have l2f := Nat.le_add_right_of_le (k := 1) l2e); (try have l3 := Nat.lt_of_lt_of_le l3 (show _ ≤ w1.heap.size by omega)); (try have l3e := Nat.le_of_lt l3); (try have l3f := Nat.le_add_right_of_le (k := 1) l3e); have hr1 : Ext wr w1 := (by (repeat' (first | (with_reducible exact Below.refl _ _) | (with_reducible refine Below.mono (by assumption) ?_) | (with_reducible refine Below.trans ?_ (Below.mono (by assumption) ?_)) | (with_reducible refine Below.alloc ?_ ?_ _) | (with_reducible refine Below.drew ?_) | (with_reducible refine below_drewN ?_ _) | (with_reducible refine Below.setCell ?_ ?_ _) | (simp only [World.size_alloc, World.size_setCell, World.size_drew, size_drewN]; omega) | omega))); obtain ⟨y0, y1, y2⟩ := box3 hb) | (at_mapUpdate; refine wpList_putF _ rfl _ _ _ 93 rfl Tryd.underlying93 (int_keylaw Tryd.underlying3) _ _ _ rfl (hmap.ext (by (repeat' (first | (with_reducible exact Below.refl _ _) | (with_reducible refine Below.mono (by assumption) ?_) | (with_reducible refine Below.trans ?_ (Below.mono (by assumption) ?_)) | (with_reducible refine Below.alloc ?_ ?_ _) | (with_reducible refine Below.drew ?_) | (with_reducible refine below_drewN ?_ _) | (with_reducible refine Below.setCell ?_ ?_ _) | (simp only [World.size_alloc, World.size_setCell, World.size_drew, size_drewN]; omega) | omega)))) x1 (.int .i64 x2) rfl rfl ?_))
            intro w2 hmap2 hgrow2
            obtain ⟨t1, t2, t3⟩ := HF.out _ _ hr1 hmap2 hgrow2
            clear hmap2 hgrow2
            go_wp2
            exact ⟨⟨k + 1, by omega, by go_num, t1, t2, t3⟩, by simp [intOf]; omega⟩
          | some v =>
            have hv0 : (v != x2) = false := by
              rcases Int.decEq v x2 with h | h
              · exact absurd ⟨rfl, v, rfl, h⟩ hit
              · simp [h]
            clear hit
            go_wp2_with (first | (at_lookup; refine wpList_lookF _ rfl _ _ 93 true rfl Tryd.underlying93 (int_keylaw Tryd.underlying3) (z := .int .i64 0) (fun W => Tryd.zeroValue3 W) _ (omap ops k) k rfl (hmap.ext (by (repeat' (first | (with_reducible exact Below.refl _ _) | (with_reducible refine Below.mono (by assumption) ?_) | (with_reducible refine Below.trans ?_ (Below.mono (by assumption) ?_)) | (with_reducible refine Below.alloc ?_ ?_ _) | (with_reducible refine Below.drew ?_) | (with_reducible refine below_drewN ?_ _) | (with_reducible refine Below.setCell ?_ ?_ _) | (simp only [World.size_alloc, World.size_setCell, World.size_drew, size_drewN]; omega) | omega)))) x1 rfl ?_; rw [hom]) | (go_at_call 77; refine (reads_c _ _ _ _).mono ?_; rintro e w1 ⟨rfl, hb⟩; obtain ⟨hc, hf, hz, hs⟩ := bcell hb; (try simp only [World.size_alloc, World.size_setCell, World.size_drew, size_drewN] at hs); (first | have l0 := Nat.lt_of_lt_of_le l0 (show _ ≤ w1.heap.size by omega) | have l0 : w.heap.size < w1.heap.size := (by omega) | skip); (try have l0e := Nat.le_of_lt l0); (try have l0f := Nat.le_add_right_of_le (k := 1) l0e); (try have l1 := Nat.lt_of_lt_of_le l1 (show _ ≤ w1.heap.size by omega)); (try have l1e := Nat.le_of_lt l1); (try have l1f := Nat.le_add_right_of_le (k := 1) l1e); (try have l2 := Nat.lt_of_lt_of_le l2 (show _ ≤ w1.heap.size by omega)); (try have l2e := Nat.le_of_lt l2); (try have l2f := Nat.le_add_right_of_le (k := 1) l2e); (try have l3 := Nat.lt_of_lt_of_le l3 (show _ ≤ w1.heap.size by omega)); (try have l3e := Nat.le_of_lt l3); (try have l3f := Nat.le_add_right_of_le (k := 1) l3e); have hr1 : Ext wr w1 := (by (repeat' (first | (with_reducible exact Below.refl _ _) | (with_reducible refine Below.mono (by assumption) ?_) | (with_reducible refine Below.trans ?_ (Below.mono (by assumption) ?_)) | (with_reducible refine Below.alloc ?_ ?_ _) | (with_reducible refine Below.drew ?_) | (with_reducible refine below_drewN ?_ _) | (with_reducible refine Below.setCell ?_ ?_ _) | (simp only [World.size_alloc, World.size_setCell, World.size_drew, size_drewN]; omega) | omega))); obtain ⟨y0, y1, y2⟩ := box3 hb) | (at_mapUpdate; refine wpList_putF _ rfl _ _ _ 93 rfl Tryd.underlying93 (int_keylaw Tryd.underlying3) _ _ _ rfl (hmap.ext (by (repeat' (first | (with_reducible exact Below.refl _ _) | (with_reducible refine Below.mono (by assumption) ?_) | (with_reducible refine Below.trans ?_ (Below.mono (by assumption) ?_)) | (with_reducible refine Below.alloc ?_ ?_ _) | (with_reducible refine Below.drew ?_) | (with_reducible refine below_drewN ?_ _) | (with_reducible refine Below.setCell ?_ ?_ _) | (simp only [World.size_alloc, World.size_setCell, World.size_drew, size_drewN]; omega) | omega)))) x1 (.int .i64 x2) rfl rfl ?_))
            intro w2 hmap2 hgrow2
            obtain ⟨t1, t2, t3⟩ := HF.out _ _ hr1 hmap2 hgrow2
            clear hmap2 hgrow2
            go_wp2
            exact ⟨⟨k + 1, by omega, by go_num, t1, t2, t3⟩, by simp [intOf]; omega⟩
        · have hr0 : (x0 == 1) = false := by simpa using hx1
          clear hit
          go_wp2_with (first | (at_lookup; refine wpList_lookF _ rfl _ _ 93 true rfl Tryd.underlying93 (int_keylaw Tryd.underlying3) (z := .int .i64 0) (fun W => Tryd.zeroValue3 W) _ (omap ops k) k rfl (hmap.ext (by (repeat' (first | (with_reducible exact Below.refl _ _) | (with_reducible refine Below.mono (by assumption) ?_) | (with_reducible refine Below.trans ?_ (Below.mono (by assumption) ?_)) | (with_reducible refine Below.alloc ?_ ?_ _) | (with_reducible refine Below.drew ?_) | (with_reducible refine below_drewN ?_ _) | (with_reducible refine Below.setCell ?_ ?_ _) | (simp only [World.size_alloc, World.size_setCell, World.size_drew, size_drewN]; omega) | omega)))) x1 rfl ?_; rw [hom]) | (go_at_call 77; refine (reads_c _ _ _ _).mono ?_; rintro e w1 ⟨rfl, hb⟩; obtain ⟨hc, hf, hz, hs⟩ := bcell hb; (try simp only [World.size_alloc, World.size_setCell, World.size_drew, size_drewN] at hs); (first | have l0 := Nat.lt_of_lt_of_le l0 (show _ ≤ w1.heap.size by omega) | have l0 : w.heap.size < w1.heap.size := (by omega) | skip); (try have l0e := Nat.le_of_lt l0); (try have l0f := Nat.le_add_right_of_le (k := 1) l0e); (try have l1 := Nat.lt_of_lt_of_le l1 (show _ ≤ w1.heap.size by omega)); (try have l1e := Nat.le_of_lt l1); (try have l1f := Nat.le_add_right_of_le (k := 1) l1e); (try have l2 := Nat.lt_of_lt_of_le l2 (show _ ≤ w1.heap.size by omega)); (try have l2e := Nat.le_of_lt l2); (try have l2f := Nat.le_add_right_of_le (k := 1) l2e); (try have l3 := Nat.lt_of_lt_of_le l3 (show _ ≤ w1.heap.size by omega)); (try have l3e := Nat.le_of_lt l3); (try have l3f := Nat.le_add_right_of_le (k := 1) l3e); have hr1 : Ext wr w1 := (by (repeat' (first | (with_reducible exact Below.refl _ _) | (with_reducible refine Below.mono (by assumption) ?_) | (with_reducible refine Below.trans ?_ (Below.mono (by assumption) ?_)) | (with_reducible refine Below.alloc ?_ ?_ _) | (with_reducible refine Below.drew ?_) | (with_reducible refine below_drewN ?_ _) | (with_reducible refine Below.setCell ?_ ?_ _) | (simp only [World.size_alloc, World.size_setCell, World.size_drew, size_drewN]; omega) | omega))); obtain ⟨y0, y1, y2⟩ := box3 hb) | (at_mapUpdate; refine wpList_putF _ rfl _ _ _ 93 rfl Tryd.underlying93 (int_keylaw Tryd.underlying3) _ _ _ rfl (hmap.ext (by (repeat' (first | (with_reducible exact Below.refl _ _) | (with_reducible refine Below.mono (by assumption) ?_) | (with_reducible refine Below.trans ?_ (Below.mono (by assumption) ?_)) | (with_reducible refine Below.alloc ?_ ?_ _) | (with_reducible refine Below.drew ?_) | (with_reducible refine below_drewN ?_ _) | (with_reducible refine Below.setCell ?_ ?_ _) | (simp only [World.size_alloc, World.size_setCell, World.size_drew, size_drewN]; omega) | omega)))) x1 (.int .i64 x2) rfl rfl ?_))
          intro w2 hmap2 hgrow2
          obtain ⟨t1, t2, t3⟩ := HF.out _ _ hr1 hmap2 hgrow2
          clear hmap2 hgrow2
          go_wp2
          exact ⟨⟨k + 1, by omega, by go_num, t1, t2, t3⟩, by simp [intOf]; omega⟩
    · obtain rfl : k = ops.length := by omega
      go_wp2
      go_ret
      exact ⟨_, rfl, hown.below (by omega), hE⟩

theorem histv_nn {h : List TxnT} (hv : histv h = true) : ∀ t ∈ h, ∀ o ∈ t.ops, 0 ≤ o.c := by
  intro t ht o ho
  unfold histv at hv
  simp only [Bool.and_eq_true, List.all_eq_true] at hv
  have h1 := hv.1 t ht
  unfold txnOnce txnv at h1
  simp only [Bool.and_eq_true, List.all_eq_true] at h1
  have h2 := h1.1.1 o ho
  unfold opv inB at h2
  simp only [Bool.and_eq_true, decide_eq_true_eq] at h2
  omega
set_option maxHeartbeats 4000000 in
theorem implOwnErrors_c (h : List TxnT) (S : Nat → Prop) (A : Option Addr) (c : Nat) (w : World) (hx : Txns S w A h) (hsm : Small h) :
    Calls Tryd.prog 10 #[.slice A h.length c] w (FreshP (if histv h = true then oeH h h.length else []) w) := by
  have C := fun w hx => implHistoryValid_c h S A c w hx hsm
  have hn := hsm.len
  cases hv : histv h with
  | false =>
    rw [hv] at C
    rw [if_neg (by simp)]
    have C := Lib.hid C
    go_enter Tryd.func10, Tryd.ntmps10
    go_wp2_with (go_at_call 36; refine (C.out _ (hx.ext (by (repeat' (first | (with_reducible exact Below.refl _ _) | (with_reducible refine Below.mono (by assumption) ?_) | (with_reducible refine Below.trans ?_ (Below.mono (by assumption) ?_)) | (with_reducible refine Below.alloc ?_ ?_ _) | (with_reducible refine Below.drew ?_) | (with_reducible refine below_drewN ?_ _) | (with_reducible refine Below.setCell ?_ ?_ _) | (simp only [World.size_alloc, World.size_setCell, World.size_drew, size_drewN]; omega) | omega))))).mono ?_; rintro e w1 ⟨rfl, hb⟩; obtain ⟨hc, hf, hz, hs⟩ := bcell hb; (try simp only [World.size_alloc, World.size_setCell, World.size_drew, size_drewN] at hs); (first | have l0 := Nat.lt_of_lt_of_le l0 (show _ ≤ w1.heap.size by omega) | have l0 : w.heap.size < w1.heap.size := (by omega) | skip); (try have l0e := Nat.le_of_lt l0); (try have l0f := Nat.le_add_right_of_le (k := 1) l0e); (try have l1 := Nat.lt_of_lt_of_le l1 (show _ ≤ w1.heap.size by omega)); (try have l1e := Nat.le_of_lt l1); (try have l1f := Nat.le_add_right_of_le (k := 1) l1e); (try have l2 := Nat.lt_of_lt_of_le l2 (show _ ≤ w1.heap.size by omega)); (try have l2e := Nat.le_of_lt l2); (try have l2f := Nat.le_add_right_of_le (k := 1) l2e); (try have l3 := Nat.lt_of_lt_of_le l3 (show _ ≤ w1.heap.size by omega)); (try have l3e := Nat.le_of_lt l3); (try have l3f := Nat.le_add_right_of_le (k := 1) l3e))
    all_goals go_ret
    all_goals exact FreshP.nil _ _ (by (repeat' (first | (with_reducible exact Below.refl _ _) | (with_reducible refine Below.mono (by assumption) ?_) | (with_reducible refine Below.trans ?_ (Below.mono (by assumption) ?_)) | (with_reducible refine Below.alloc ?_ ?_ _) | (with_reducible refine Below.drew ?_) | (with_reducible refine below_drewN ?_ _) | (with_reducible refine Below.setCell ?_ ?_ _) | (simp only [World.size_alloc, World.size_setCell, World.size_drew, size_drewN]; omega) | omega)))
  | true =>
    have hnn := histv_nn hv
    rw [hv] at C
    rw [if_pos rfl]
    have C := Lib.hid C
    have HN := Lib.hid hnn
    clear hnn
    have hmk := run_make_zero Tryd.underlying25 info2
    go_enter Tryd.func10, Tryd.ntmps10
    go_wp2_with (fail)
    go_at_call 36
    refine (C.out _ (hx.ext (by (repeat' (first | (with_reducible exact Below.refl _ _) | (with_reducible refine Below.mono (by assumption) ?_) | (with_reducible refine Below.trans ?_ (Below.mono (by assumption) ?_)) | (with_reducible refine Below.alloc ?_ ?_ _) | (with_reducible refine Below.drew ?_) | (with_reducible refine below_drewN ?_ _) | (with_reducible refine Below.setCell ?_ ?_ _) | (simp only [World.size_alloc, World.size_setCell, World.size_drew, size_drewN]; omega) | omega))))).mono ?_
    rintro e w1 ⟨rfl, hb⟩
    obtain ⟨hc, hf, hz, hs⟩ := bcell hb
    (try simp only [World.size_alloc, World.size_setCell, World.size_drew, size_drewN] at hs); (first | have l0 := Nat.lt_of_lt_of_le l0 (show _ ≤ w1.heap.size by omega) | have l0 : w.heap.size < w1.heap.size := (by omega) | skip); (try have l0e := Nat.le_of_lt l0); (try have l0f := Nat.le_add_right_of_le (k := 1) l0e); (try have l1 := Nat.lt_of_lt_of_le l1 (show _ ≤ w1.heap.size by omega)); (try have l1e := Nat.le_of_lt l1); (try have l1f := Nat.le_add_right_of_le (k := 1) l1e); (try have l2 := Nat.lt_of_lt_of_le l2 (show _ ≤ w1.heap.size by omega)); (try have l2e := Nat.le_of_lt l2); (try have l2f := Nat.le_add_right_of_le (k := 1) l2e); (try have l3 := Nat.lt_of_lt_of_le l3 (show _ ≤ w1.heap.size by omega)); (try have l3e := Nat.le_of_lt l3); (try have l3f := Nat.le_add_right_of_le (k := 1) l3e)
    have e1 : Ext w w1 := by (repeat' (first | (with_reducible exact Below.refl _ _) | (with_reducible refine Below.mono (by assumption) ?_) | (with_reducible refine Below.trans ?_ (Below.mono (by assumption) ?_)) | (with_reducible refine Below.alloc ?_ ?_ _) | (with_reducible refine Below.drew ?_) | (with_reducible refine below_drewN ?_ _) | (with_reducible refine Below.setCell ?_ ?_ _) | (simp only [World.size_alloc, World.size_setCell, World.size_drew, size_drewN]; omega) | omega))
    have hO : Own2 (w1.alloc (.cells #[] 29)) w1.heap.size 29 (.slice (some ⟨w1.heap.size, 0, none⟩) 0 0) (oeH h 0) := Own2.made w1 _ 0 rfl (by omega) (by omega) (by simp)
    clear hc hf hz hb
    go_wp2
    clear hmk
    go_loopw [3, 12] (fun v i wr => ∃ k : Nat, k ≤ h.length ∧ i = .int .i64 k ∧ Own2 wr w1.heap.size 29 v (oeH h k) ∧ Ext w1 wr) (fun _ i _ => h.length - (intOf i).toNat)
    case atStart => exact ⟨0, Nat.zero_le _, rfl, hO, by (repeat' (first | (with_reducible exact Below.refl _ _) | (with_reducible refine Below.mono (by assumption) ?_) | (with_reducible refine Below.trans ?_ (Below.mono (by assumption) ?_)) | (with_reducible refine Below.alloc ?_ ?_ _) | (with_reducible refine Below.drew ?_) | (with_reducible refine below_drewN ?_ _) | (with_reducible refine Below.setCell ?_ ?_ _) | (simp only [World.size_alloc, World.size_setCell, World.size_drew, size_drewN]; omega) | omega))⟩
    case round =>
      obtain ⟨k, hk, rfl, hown, hE⟩ := hrel
      have hEz := hE.size
      have hE0 := e1.tr hE
      clear hO
      by_cases hlt : k < h.length
      · obtain ⟨s, ops, d, A', cap, b, off, hxk, rfl, _, hb0, hOp, c0, c1, c2⟩ := (hx.ext hE0).at_ hlt
        have hon := hsm.ops hxk
        simp only at hon
        have hst := oeH_succ hxk
        have hht := oeH_len h k
        have htt := total_take h k _ hxk
        have htl := total_le h (k + 1)
        have hel := oeT_len k ops ops.length
        simp only at hst htt
        have hsm' := hsm
        unfold Small at hsm'
        have hvn : ∀ o ∈ ops, 0 ≤ o.c := HN.out _ (List.mem_of_getElem? hxk)
        have HS := Lib.hid hst
        have HV := Lib.hid hvn
        clear hxk hst hvn
        go_wp2_with (first
          | (go_at_call 37; refine (ownErrors_c k ⟨s, ops, d⟩ _ _ _ _ (hOp.ext (by (repeat' (first | (with_reducible exact Below.refl _ _) | (with_reducible refine Below.mono (by assumption) ?_) | (with_reducible refine Below.trans ?_ (Below.mono (by assumption) ?_)) | (with_reducible refine Below.alloc ?_ ?_ _) | (with_reducible refine Below.drew ?_) | (with_reducible refine below_drewN ?_ _) | (with_reducible refine Below.setCell ?_ ?_ _) | (simp only [World.size_alloc, World.size_setCell, World.size_drew, size_drewN]; omega) | omega)))) hon HV.out).mono ?_; rintro e w2 ⟨u, rfl, hu, hb⟩; have e2 : Ext wr w2 := (by (repeat' (first | (with_reducible exact Below.refl _ _) | (with_reducible refine Below.mono (by assumption) ?_) | (with_reducible refine Below.trans ?_ (Below.mono (by assumption) ?_)) | (with_reducible refine Below.alloc ?_ ?_ _) | (with_reducible refine Below.drew ?_) | (with_reducible refine below_drewN ?_ _) | (with_reducible refine Below.setCell ?_ ?_ _) | (simp only [World.size_alloc, World.size_setCell, World.size_drew, size_drewN]; omega) | omega))); have z2 := e2.size)
          | (at_builtin; refine wpList_append2s _ rfl _ _ 25 rfl w1.heap.size 29 Tryd.underlying25 info2 rfl _ (oeH h k) rfl (hown.ext e2) u _ (oeT k ops ops.length) rfl hu ?_ ?_ ?_))
        · omega
        · omega
        · intro v' w' hown' hgrow
          rw [← HS.out] at hown'
          have hE2 : Ext w1 w' := Below.grown (hE.tr e2) hgrow (hE.tr e2).size (fun g hg => own2_block hown g hg)
          clear hown hu hgrow
          go_wp2
          go_roundw
          case measure => simp [intOf]; omega
          case rel => exact ⟨k + 1, by omega, by go_num, hown', hE2⟩
      · obtain rfl : k = h.length := by omega
        have hsl := oeH_len h h.length
        have htl := total_le h h.length
        have hsm' := hsm
        unfold Small at hsm'
        have hfr := hown.fresh (w := w) e1.size hE0
        obtain ⟨A', c', rfl, hle', hm', hA0, hA1⟩ := hown.cut
        unfold maxLen at hm'
        obtain ⟨A2, c2, he2, hA2, hf2, _⟩ := hfr
        rcases A' with _ | a
        · obtain ⟨h0, rfl⟩ := hA0 rfl
          generalize oeH h h.length = L at *
          obtain rfl : L = [] := List.eq_nil_of_length_eq_zero h0
          clear hA2 hf2 he2 hown
          go_wp2
          go_ret
          exact ⟨none, _, rfl, SlAt.nil, (fun a ha => by cases ha), hE0⟩
        · obtain ⟨g, rfl⟩ := hA1 a rfl
          cases he2
          have HA := Lib.hid hA2
          have HF := Lib.hid hf2
          clear hA2 hf2
          go_wp2
          go_ret
          exact ⟨_, _, rfl, HA.out, HF.out, hE0⟩
end Go.Proofs.YtdgfipoibnjhaaaDoor
