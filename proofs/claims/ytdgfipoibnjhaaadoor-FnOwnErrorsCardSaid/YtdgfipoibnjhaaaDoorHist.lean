/-
  Contracts of HistoryValid, the reference's and the program's.
-/
import Derived.Test.YtdgfipoibnjhaaaDoorTxns
namespace Go.Proofs.YtdgfipoibnjhaaaDoor
set_option linter.unusedSimpArgs false
set_option linter.unusedVariables false
set_option maxRecDepth 100000
open Go.RowKit

theorem eqOp_run (a b c a' b' c' : Int) (w : World) : (binOp .eql 34 (.agg #[.int .i64 a, .int .i64 b, .int .i64 c]) (.agg #[.int .i64 a', .int .i64 b', .int .i64 c'])).run Tryd.prog w = .ok (.bool (decide ((⟨a, b, c⟩ : T3) = ⟨a', b', c'⟩))) w := by
  have u3 := Tryd.underlying3
  have hS : Tryd.prog.underlying 34 = some (.struct (Tryd.prog.fieldsOf 34)) := by kernel_rfl
  have hp : Tryd.prog.stoodInHeld 34 = false := by kernel_rfl
  rw [run_eql_struct, show (10000 : Nat) = 9999 + 1 from rfl, run_equalIn_agg w 9999 34 _ _ hS hp]
  simp only [Program.fieldsOf, Tryd.underlying34]
  go_simp
  by_cases h1 : a = a' <;> by_cases h2 : b = b' <;> by_cases h3 : c = c' <;> simp [h1, h2, h3]
theorem eqOp_guard : Tryd.prog.eqGuardType Tryd.prog.depth 34 = false := by kernel_rfl

def allOps (h : List TxnT) : List T3 := h.flatMap fun t => t.ops
theorem allOps_take {h : List TxnT} {k : Nat} {t : TxnT} (hk : h[k]? = some t) : allOps (h.take (k + 1)) = allOps (h.take k) ++ t.ops := by
  unfold allOps
  rw [List.take_add_one, hk]
  simp
theorem allOps_len (h : List TxnT) : (allOps h).length = total h := by
  induction h with
  | nil => rfl
  | cons t h ih => simp [allOps, total] at ih ⊢
theorem count_take {ops : List T3} {j : Nat} {o x : T3} (hj : ops[j]? = some o) : (ops.take (j + 1)).count x = (ops.take j).count x + if o = x then 1 else 0 := by
  rw [List.take_add_one, hj]
  simp [List.count_append, List.count_cons]

set_option maxHeartbeats 2000000 in
theorem l2Writes_c (h : List TxnT) (S : Nat → Prop) (A : Option Addr) (c : Nat) (key val : Int) (w : World) (hx : Txns S w A h) (hs : Small h) :
    Calls Tryd.prog 58 #[.slice A h.length c, .int .i64 key, .int .i64 val] w fun e w' => e = .returned (.int .i64 ((allOps h).count ⟨2, key, val⟩ : Nat)) ∧ Ext w w' := by
  have heq := eqOp_run
  have hgd := eqOp_guard
  have hsl := hs.len
  go_enter Tryd.func58, Tryd.ntmps58
  go_wp2
  go_loopw [7, 8] (fun q i wr => ∃ k : Nat, k ≤ h.length ∧ i = .int .i64 k ∧ q = .int .i64 ((allOps (h.take k)).count ⟨2, key, val⟩ : Nat) ∧ Ext w wr) (fun _ i _ => h.length - (intOf i).toNat)
  case atStart => exact ⟨0, Nat.zero_le _, rfl, by simp [allOps], Below.refl _ _⟩
  case round =>
    obtain ⟨k, hk, rfl, rfl, hE⟩ := hrel
    have hEz := hE.size
    by_cases hlt : k < h.length
    · obtain ⟨s, ops, d, A', cap, b, off, hxk, rfl, _, hb0, hO, c0, c1, c2⟩ := (hx.ext hE).at_ hlt
      have hon := hs.ops hxk
      simp only at hon
      have hat := allOps_take hxk
      simp only at hat
      have hcl : (allOps (h.take k)).count (⟨2, key, val⟩ : T3) ≤ 1048576 := by
        have h1 := List.count_le_length (a := (⟨2, key, val⟩ : T3)) (l := allOps (h.take k))
        rw [allOps_len] at h1
        have h2 := total_le h k
        unfold Small at hs
        omega
      have HA := Lib.hid hat
      clear hat hxk
      generalize hn : (allOps (h.take k)).count (⟨2, key, val⟩ : T3) = n0 at hcl ⊢
      have HN := Lib.hid hn
      clear hn
      go_wp2
      obtain ⟨wo, rfl⟩ : ∃ wo : World, wo = wr := ⟨_, rfl⟩
      go_loopw [7, 9] (fun q i wr => ∃ j : Nat, j ≤ ops.length ∧ i = .int .i64 j ∧ q = .int .i64 ((n0 + (ops.take j).count (⟨2, key, val⟩ : T3) : Nat) : Int) ∧ Ext wo wr) (fun _ i _ => ops.length - (intOf i).toNat)
      case atStart => exact ⟨0, Nat.zero_le _, rfl, by simp, Below.refl _ _⟩
      case round =>
        obtain ⟨j, hj, rfl, rfl, hE2⟩ := hrel
        obtain ⟨hc, hf, hz, hs2⟩ := bcell hE2
        by_cases hlt2 : j < ops.length
        · obtain ⟨x0, x1, x2, b2, off2, hyk, rfl, _, hb2, d0, d1, d2⟩ := (hO.ext hE2).at_ hlt2
          have hct := count_take (x := (⟨2, key, val⟩ : T3)) hyk
          have hcl2 := List.count_le_length (a := (⟨2, key, val⟩ : T3)) (l := ops.take j)
          rw [List.length_take] at hcl2
          have HC := Lib.hid hct
          clear hct hyk
          generalize hm : (ops.take j).count (⟨2, key, val⟩ : T3) = m0 at hcl2 ⊢
          have HM := Lib.hid hm
          clear hm
          go_wp2
          · rename_i hw
            have e0 : (n0 + m0 + 1 : Nat) = n0 + (ops.take (j + 1)).count (⟨2, key, val⟩ : T3) := by
              rw [HC.out, HM.out, if_pos (by obtain ⟨a1, a2, a3⟩ := hw; rw [a1, a2, a3])]
              omega
            exact ⟨⟨j + 1, by omega, by go_num, by rw [← e0]; go_num, by (repeat' (first | (with_reducible exact Below.refl _ _) | (with_reducible refine Below.mono (by assumption) ?_) | (with_reducible refine Below.trans ?_ (Below.mono (by assumption) ?_)) | (with_reducible refine Below.alloc ?_ ?_ _) | (with_reducible refine Below.drew ?_) | (with_reducible refine below_drewN ?_ _) | (with_reducible refine Below.setCell ?_ ?_ _) | (simp only [World.size_alloc, World.size_setCell, World.size_drew, size_drewN]; omega) | omega))⟩, by simp [intOf]; omega⟩
          · rename_i hw
            have e0 : (n0 + m0 : Nat) = n0 + (ops.take (j + 1)).count (⟨2, key, val⟩ : T3) := by
              rw [HC.out, HM.out, if_neg (by simp only [T3.mk.injEq]; omega)]
              omega
            exact ⟨⟨j + 1, by omega, by go_num, by rw [← e0], by (repeat' (first | (with_reducible exact Below.refl _ _) | (with_reducible refine Below.mono (by assumption) ?_) | (with_reducible refine Below.trans ?_ (Below.mono (by assumption) ?_)) | (with_reducible refine Below.alloc ?_ ?_ _) | (with_reducible refine Below.drew ?_) | (with_reducible refine below_drewN ?_ _) | (with_reducible refine Below.setCell ?_ ?_ _) | (simp only [World.size_alloc, World.size_setCell, World.size_drew, size_drewN]; omega) | omega))⟩, by simp [intOf]; omega⟩
        · obtain rfl : j = ops.length := by omega
          go_wp2
          have e0 : n0 + ops.count (⟨2, key, val⟩ : T3) = (allOps (h.take (k + 1))).count (⟨2, key, val⟩ : T3) := by
            rw [HA.out, List.count_append, HN.out]
          rw [List.take_length, e0]
          exact ⟨⟨k + 1, by omega, by go_num, rfl, by (repeat' (first | (with_reducible exact Below.refl _ _) | (with_reducible refine Below.mono (by assumption) ?_) | (with_reducible refine Below.trans ?_ (Below.mono (by assumption) ?_)) | (with_reducible refine Below.alloc ?_ ?_ _) | (with_reducible refine Below.drew ?_) | (with_reducible refine below_drewN ?_ _) | (with_reducible refine Below.setCell ?_ ?_ _) | (simp only [World.size_alloc, World.size_setCell, World.size_drew, size_drewN]; omega) | omega))⟩, by simp [intOf]; omega⟩
    · obtain rfl : k = h.length := by omega
      rw [List.take_length] 
      go_wp2
      go_ret
      exact ⟨rfl, hE⟩

def opOnce (h : List TxnT) (o : T3) : Bool := !(decide (o.a = 2) && decide (1 < (allOps h).count (⟨2, o.b, o.c⟩ : T3)))
def txnOnce (h : List TxnT) (t : TxnT) : Bool := txnv t && t.ops.all (opOnce h)
def histv (h : List TxnT) : Bool := h.all (txnOnce h) && decide (h.length ≤ 6)

set_option maxHeartbeats 2000000 in
theorem specHistoryValid_c (h : List TxnT) (S : Nat → Prop) (A : Option Addr) (c : Nat) (w : World) (hx : Txns S w A h) (hsm : Small h) :
    Calls Tryd.prog 26 #[.slice A h.length c] w fun e w' => e = .returned (.bool (histv h)) ∧ Ext w w' := by
  have hsl := hsm.len
  go_enter Tryd.func26, Tryd.ntmps26
  go_wp2
  go_loopw [3] (fun i wr => ∃ k : Nat, k ≤ h.length ∧ i = .int .i64 k ∧ AllTo (txnOnce h) h k ∧ Ext w wr) (fun i _ => h.length - (intOf i).toNat)
  case atStart => exact ⟨0, Nat.zero_le _, rfl, AllTo.zero, Below.refl _ _⟩
  case round =>
    obtain ⟨k, hk, rfl, hall, hE⟩ := hrel
    have HA := Lib.hid hall
    clear hall
    have hEz := hE.size
    by_cases hlt : k < h.length
    · obtain ⟨s, ops, d, A', cap, b, off, hxk, rfl, _, hb0, hO, c0, c1, c2⟩ := (hx.ext hE).at_ hlt
      have hon := hsm.ops hxk
      simp only at hon
      have HX := Lib.hid hxk
      clear hxk
      go_wp2_with (go_at_call 57; refine (specTxnValid_c ⟨s, ops, d⟩ _ _ _ _ (hO.ext (by (repeat' (first | (with_reducible exact Below.refl _ _) | (with_reducible refine Below.mono (by assumption) ?_) | (with_reducible refine Below.trans ?_ (Below.mono (by assumption) ?_)) | (with_reducible refine Below.alloc ?_ ?_ _) | (with_reducible refine Below.drew ?_) | (with_reducible refine below_drewN ?_ _) | (with_reducible refine Below.setCell ?_ ?_ _) | (simp only [World.size_alloc, World.size_setCell, World.size_drew, size_drewN]; omega) | omega)))) hon).mono ?_; rintro e w1 ⟨rfl, hb⟩; obtain ⟨hc, hf, hz, hs⟩ := bcell hb; (try simp only [World.size_alloc, World.size_setCell, World.size_drew, size_drewN] at hs); (first | have l0 := Nat.lt_of_lt_of_le l0 (show _ ≤ w1.heap.size by omega) | have l0 : w.heap.size < w1.heap.size := (by omega) | skip); (try have l0e := Nat.le_of_lt l0); (try have l0f := Nat.le_add_right_of_le (k := 1) l0e); (try have l1 := Nat.lt_of_lt_of_le l1 (show _ ≤ w1.heap.size by omega)); (try have l1e := Nat.le_of_lt l1); (try have l1f := Nat.le_add_right_of_le (k := 1) l1e); (try have l2 := Nat.lt_of_lt_of_le l2 (show _ ≤ w1.heap.size by omega)); (try have l2e := Nat.le_of_lt l2); (try have l2f := Nat.le_add_right_of_le (k := 1) l2e); (try have l3 := Nat.lt_of_lt_of_le l3 (show _ ≤ w1.heap.size by omega)); (try have l3e := Nat.le_of_lt l3); (try have l3f := Nat.le_add_right_of_le (k := 1) l3e))
      · have hv : txnv ⟨s, ops, d⟩ = false := by simp_all
        go_ret
        exact ⟨ret_bool (by unfold histv; rw [all_false HX.out (by unfold txnOnce; rw [hv]; rfl)]; rfl), by (repeat' (first | (with_reducible exact Below.refl _ _) | (with_reducible refine Below.mono (by assumption) ?_) | (with_reducible refine Below.trans ?_ (Below.mono (by assumption) ?_)) | (with_reducible refine Below.alloc ?_ ?_ _) | (with_reducible refine Below.drew ?_) | (with_reducible refine below_drewN ?_ _) | (with_reducible refine Below.setCell ?_ ?_ _) | (simp only [World.size_alloc, World.size_setCell, World.size_drew, size_drewN]; omega) | omega))⟩
      · have hv : txnv ⟨s, ops, d⟩ = true := by simp_all
        simp only [hv, Bool.not_true]
        obtain ⟨wo, hwo⟩ : ∃ wo : World, wo = w1 := ⟨_, rfl⟩
        subst hwo
        have hEo : Ext w wo := by (repeat' (first | (with_reducible exact Below.refl _ _) | (with_reducible refine Below.mono (by assumption) ?_) | (with_reducible refine Below.trans ?_ (Below.mono (by assumption) ?_)) | (with_reducible refine Below.alloc ?_ ?_ _) | (with_reducible refine Below.drew ?_) | (with_reducible refine below_drewN ?_ _) | (with_reducible refine Below.setCell ?_ ?_ _) | (simp only [World.size_alloc, World.size_setCell, World.size_drew, size_drewN]; omega) | omega))
        have hEo1 : Ext wr wo := by (repeat' (first | (with_reducible exact Below.refl _ _) | (with_reducible refine Below.mono (by assumption) ?_) | (with_reducible refine Below.trans ?_ (Below.mono (by assumption) ?_)) | (with_reducible refine Below.alloc ?_ ?_ _) | (with_reducible refine Below.drew ?_) | (with_reducible refine below_drewN ?_ _) | (with_reducible refine Below.setCell ?_ ?_ _) | (simp only [World.size_alloc, World.size_setCell, World.size_drew, size_drewN]; omega) | omega))
        go_loopw [4] (fun i wr => ∃ j : Nat, j ≤ ops.length ∧ i = .int .i64 j ∧ AllTo (opOnce h) ops j ∧ Ext wo wr) (fun i _ => ops.length - (intOf i).toNat)
        case atStart => exact ⟨0, Nat.zero_le _, rfl, AllTo.zero, Below.refl _ _⟩
        case round =>
          obtain ⟨j, hj, rfl, hall2, hE2⟩ := hrel
          have HB := Lib.hid hall2
          clear hall2
          have hE3 : Ext w wr := by (repeat' (first | (with_reducible exact Below.refl _ _) | (with_reducible refine Below.mono (by assumption) ?_) | (with_reducible refine Below.trans ?_ (Below.mono (by assumption) ?_)) | (with_reducible refine Below.alloc ?_ ?_ _) | (with_reducible refine Below.drew ?_) | (with_reducible refine below_drewN ?_ _) | (with_reducible refine Below.setCell ?_ ?_ _) | (simp only [World.size_alloc, World.size_setCell, World.size_drew, size_drewN]; omega) | omega))
          have hE4 := hEo1.tr hE2
          have f0 := hE4.keep hb0 c0
          have f1 := hE4.keep hb0 c1
          have f2 := hE4.keep hb0 c2
          by_cases hlt2 : j < ops.length
          · obtain ⟨x0, x1, x2, b2, off2, hyk, rfl, _, hb2, d0, d1, d2⟩ := (hO.ext (hEo1.tr hE2)).at_ hlt2
            have HY := Lib.hid hyk
            clear hyk
            go_wp2_with (go_at_call 58; refine (l2Writes_c h _ _ _ _ _ _ (hx.ext (hE3.tr (by (repeat' (first | (with_reducible exact Below.refl _ _) | (with_reducible refine Below.mono (by assumption) ?_) | (with_reducible refine Below.trans ?_ (Below.mono (by assumption) ?_)) | (with_reducible refine Below.alloc ?_ ?_ _) | (with_reducible refine Below.drew ?_) | (with_reducible refine below_drewN ?_ _) | (with_reducible refine Below.setCell ?_ ?_ _) | (simp only [World.size_alloc, World.size_setCell, World.size_drew, size_drewN]; omega) | omega))))) hsm).mono ?_; rintro e w1 ⟨rfl, hb⟩; obtain ⟨hc, hf, hz, hs⟩ := bcell hb; (try simp only [World.size_alloc, World.size_setCell, World.size_drew, size_drewN] at hs); (first | have l0 := Nat.lt_of_lt_of_le l0 (show _ ≤ w1.heap.size by omega) | have l0 : w.heap.size < w1.heap.size := (by omega) | skip); (try have l0e := Nat.le_of_lt l0); (try have l0f := Nat.le_add_right_of_le (k := 1) l0e); (try have l1 := Nat.lt_of_lt_of_le l1 (show _ ≤ w1.heap.size by omega)); (try have l1e := Nat.le_of_lt l1); (try have l1f := Nat.le_add_right_of_le (k := 1) l1e); (try have l2 := Nat.lt_of_lt_of_le l2 (show _ ≤ w1.heap.size by omega)); (try have l2e := Nat.le_of_lt l2); (try have l2f := Nat.le_add_right_of_le (k := 1) l2e); (try have l3 := Nat.lt_of_lt_of_le l3 (show _ ≤ w1.heap.size by omega)); (try have l3e := Nat.le_of_lt l3); (try have l3f := Nat.le_add_right_of_le (k := 1) l3e))
            · have hv2 : opOnce h ⟨x0, x1, x2⟩ = false := by unfold opOnce; simp [*]; omega
              go_ret
              exact ⟨ret_bool (by unfold histv; rw [all_false HX.out (by unfold txnOnce; rw [all_false HY.out hv2]; simp)]; rfl), hE3.tr (by (repeat' (first | (with_reducible exact Below.refl _ _) | (with_reducible refine Below.mono (by assumption) ?_) | (with_reducible refine Below.trans ?_ (Below.mono (by assumption) ?_)) | (with_reducible refine Below.alloc ?_ ?_ _) | (with_reducible refine Below.drew ?_) | (with_reducible refine below_drewN ?_ _) | (with_reducible refine Below.setCell ?_ ?_ _) | (simp only [World.size_alloc, World.size_setCell, World.size_drew, size_drewN]; omega) | omega)))⟩
            all_goals
              have hv2 : opOnce h ⟨x0, x1, x2⟩ = true := by unfold opOnce; simp [*]; try omega
              go_roundw
              case rel =>
                exact ⟨j + 1, by omega, by go_num, HB.out.step HY.out hv2, hE2.tr (by (repeat' (first | (with_reducible exact Below.refl _ _) | (with_reducible refine Below.mono (by assumption) ?_) | (with_reducible refine Below.trans ?_ (Below.mono (by assumption) ?_)) | (with_reducible refine Below.alloc ?_ ?_ _) | (with_reducible refine Below.drew ?_) | (with_reducible refine below_drewN ?_ _) | (with_reducible refine Below.setCell ?_ ?_ _) | (simp only [World.size_alloc, World.size_setCell, World.size_drew, size_drewN]; omega) | omega)))⟩
              case measure => simp [intOf]; omega
          · obtain rfl : j = ops.length := by omega
            have hav := HB.out.all
            have hv2 : txnOnce h ⟨s, ops, d⟩ = true := by unfold txnOnce; rw [hv, hav]; rfl
            clear hav
            go_wp2
            go_roundw
            case rel => exact ⟨k + 1, by omega, by go_num, HA.out.step HX.out hv2, by (repeat' (first | (with_reducible exact Below.refl _ _) | (with_reducible refine Below.mono (by assumption) ?_) | (with_reducible refine Below.trans ?_ (Below.mono (by assumption) ?_)) | (with_reducible refine Below.alloc ?_ ?_ _) | (with_reducible refine Below.drew ?_) | (with_reducible refine below_drewN ?_ _) | (with_reducible refine Below.setCell ?_ ?_ _) | (simp only [World.size_alloc, World.size_setCell, World.size_drew, size_drewN]; omega) | omega))⟩
            case measure => simp [intOf]; omega
    · obtain rfl : k = h.length := by omega
      have hav := HA.out.all
      go_wp2
      go_ret
      exact ⟨ret_bool (by unfold histv; rw [hav]; simp; try omega), by (repeat' (first | (with_reducible exact Below.refl _ _) | (with_reducible refine Below.mono (by assumption) ?_) | (with_reducible refine Below.trans ?_ (Below.mono (by assumption) ?_)) | (with_reducible refine Below.alloc ?_ ?_ _) | (with_reducible refine Below.drew ?_) | (with_reducible refine below_drewN ?_ _) | (with_reducible refine Below.setCell ?_ ?_ _) | (simp only [World.size_alloc, World.size_setCell, World.size_drew, size_drewN]; omega) | omega))⟩
end Go.Proofs.YtdgfipoibnjhaaaDoor
