/-
  slices.Collect(slices.Values(xs)): a new slice with the same numbers.
-/
import Derived.Test.YtmbdacfgmiielaaGreatGFirst14
import Derived.Test.YtmbdacfgmiielaaGreatReads
import Derived.Test.YtmbdacfgmiielaaGreatInst
import Derived.Test.YtmbdacfgmiielaaGreatGInts5
import Derived.RangeFuncNested
import Derived.RangeFuncBox
import Derived.RangeFuncBound
import Derived.RangeFuncCalls
import Derived.RangeFuncLeaves
import Derived.Shelf.Abstract
import Derived.Shelf.RegionOpen
import Derived.WalkKit
import Derived.OwnWalkIn
import Derived.TacticsInMore
import Derived.LoopNIn
import Derived.LoopIn
import Derived.Maps.AppendAt
/-
  Contracts of LastValue, the reference's and the program's.
-/
namespace Go.Proofs.YtmbdacfgmiielaaGreat
set_option linter.unusedSimpArgs false
set_option linter.unusedVariables false
set_option maxRecDepth 100000
open Go.RowKit

theorem lastW_ok {ops : List T3} {key : Int} {n : Nat} {o : T3} (h : lastW ops key n = some o) : o.a = 2 ∧ o.b = key := by
  induction n with
  | zero => cases h
  | succ n ih =>
    unfold lastW at h
    split at h
    · split at h
      · rename_i hc; cases h; exact hc
      · exact ih h
    · exact ih h
theorem lws_mem {ops : List T3} {n : Nat} {o : T3} (h : o ∈ lwsTo ops n) : o.a = 2 ∧ lastW ops o.b ops.length = some o := by
  induction n with
  | zero => cases h
  | succ n ih =>
    rcases List.mem_append.1 h with h | h
    · exact ih h
    · rw [Option.mem_toList] at h
      have := lastW_ok h
      exact ⟨this.1, by rw [this.2]; exact h⟩
theorem lws_key {ops : List T3} {n : Nat} {o : T3} {key val : Int} (h : o ∈ lwsTo ops n) (hk : o.b = key) : ((⟨2, key, val⟩ : T3) ∈ lwsTo ops n) ↔ o.c = val := by
  have h1 := lws_mem h
  constructor
  · intro h2
    have h3 := (lws_mem h2).2
    simp only at h3
    rw [hk, h3] at h1
    cases h1.2
    rfl
  · intro hv
    obtain ⟨a, b, c⟩ := o
    simp only at hk hv h1
    obtain rfl := h1.1
    subst hk hv
    exact h
theorem lws_nokey {ops : List T3} {n : Nat} {key val : Int} (h : ∀ o ∈ lwsTo ops n, o.b ≠ key) : (⟨2, key, val⟩ : T3) ∉ lwsTo ops n := fun hm => h _ hm rfl

/-- whether a value is the last one that its writer writes to the key -/
def lastv (h : List TxnT) (key val : Int) : Bool := decide (0 ≤ wrN h key val) && (match h[(wrN h key val).toNat]? with | some t => decide ((⟨2, key, val⟩ : T3) ∈ lwsTo t.ops 3) | none => false)

set_option maxHeartbeats 2000000 in
theorem indexOp_c (x : T3) (xs : List T3) (S : Nat → Prop) (A : Option Addr) (c : Nat) (w : World) (hx : Ops S w A xs) (hn : xs.length ≤ 1048576) :
    Calls Tryz.prog 149 #[.slice A xs.length c, .agg #[.int .i64 x.a, .int .i64 x.b, .int .i64 x.c]] w (IdxOf (fun o => decide (o = x)) xs w) := by
  obtain ⟨a, b, c'⟩ := x
  have heq := eqOp_run
  have hgd := eqOp_guard
  go_enter Tryz.func149, Tryz.ntmps149
  go_wp2
  go_loopw [8] (fun i wr => ∃ k : Nat, k ≤ xs.length ∧ i = .int .i64 k ∧ AllTo (fun o => !decide (o = (⟨a, b, c'⟩ : T3))) xs k ∧ Ext (w.alloc (.cells #[.int .i64 a, .int .i64 b, .int .i64 c'] 62)) wr) (fun i _ => xs.length - (intOf i).toNat)
  case atStart => exact ⟨0, Nat.zero_le _, rfl, AllTo.zero, Below.refl _ _⟩
  case round =>
    obtain ⟨k, hk, rfl, hall, hE⟩ := hrel
    obtain ⟨q0, q1, q2⟩ := box3 hE
    have hE0 : Ext w wr := by have h := hE.size; simp only [World.size_alloc] at h; (repeat' (first | (with_reducible exact Below.refl _ _) | (with_reducible refine Below.mono (by assumption) ?_) | (with_reducible refine Below.trans ?_ (Below.mono (by assumption) ?_)) | (with_reducible refine Below.alloc ?_ ?_ _) | (with_reducible refine Below.drew ?_) | (with_reducible refine below_drewN ?_ _) | (with_reducible refine Below.setCell ?_ ?_ _) | (simp only [World.size_alloc, World.size_setCell, World.size_drew, size_drewN]; omega) | omega))
    have HA := Lib.hid hall
    clear hall
    by_cases hlt : k < xs.length
    · obtain ⟨x0, x1, x2, b', off, hxk, rfl, _, hb0, c0, c1, c2⟩ := (hx.ext hE0).at_ hlt
      have HX := Lib.hid hxk
      clear hxk
      go_wp2
      go_quiet (fail)
      go_wp2
      · rename_i hw
        have hv : (fun o => decide (o = (⟨a, b, c'⟩ : T3))) (⟨x0, x1, x2⟩ : T3) = true := by simp_all
        go_ret
        exact ⟨_, rfl, by rw [any_true HX.out hv]; simp, below_drewN hE0 _⟩
      · rename_i hw
        have hv : (fun o => !decide (o = (⟨a, b, c'⟩ : T3))) (⟨x0, x1, x2⟩ : T3) = true := by simp; omega
        exact ⟨⟨k + 1, by omega, by go_num, HA.out.step HX.out hv, below_drewN hE _⟩, by simp [intOf]; omega⟩
    · obtain rfl : k = xs.length := by omega
      have hav : xs.any (fun o => decide (o = (⟨a, b, c'⟩ : T3))) = false := by
        have := HA.out.all
        rw [List.any_eq_false]
        intro x hx
        simpa using List.all_eq_true.1 this x hx
      have HV := Lib.hid hav
      clear hav
      go_wp2
      go_ret
      exact ⟨_, rfl, by rw [HV.out]; rfl, hE0⟩

theorem containsOp_c (x : T3) (xs : List T3) (S : Nat → Prop) (A : Option Addr) (c : Nat) (w : World) (hx : Ops S w A xs) (hn : xs.length ≤ 1048576) :
    Calls Tryz.prog 146 #[.slice A xs.length c, .agg #[.int .i64 x.a, .int .i64 x.b, .int .i64 x.c]] w fun e w' => e = .returned (.bool (decide (x ∈ xs))) ∧ Ext w w' := by
  have hal : xs.any (fun o => decide (o = x)) = decide (x ∈ xs) := by
    rw [Bool.eq_iff_iff]
    simp
  rw [← hal]
  have HL := Lib.hid hal
  clear hal
  go_enter Tryz.func146, Tryz.ntmps146
  go_wp2_with (go_at_call 149; refine (indexOp_c x xs S A c _ (hx.ext (by (repeat' (first | (with_reducible exact Below.refl _ _) | (with_reducible refine Below.mono (by assumption) ?_) | (with_reducible refine Below.trans ?_ (Below.mono (by assumption) ?_)) | (with_reducible refine Below.alloc ?_ ?_ _) | (with_reducible refine Below.drew ?_) | (with_reducible refine below_drewN ?_ _) | (with_reducible refine Below.setCell ?_ ?_ _) | (simp only [World.size_alloc, World.size_setCell, World.size_drew, size_drewN]; omega) | omega)))) hn).mono ?_; rintro e w1 ⟨r, rfl, hr, hb⟩; have HR := Lib.hid hr; clear hr)
  go_ret
  exact ⟨ret_bool HR.out, by (repeat' (first | (with_reducible exact Below.refl _ _) | (with_reducible refine Below.mono (by assumption) ?_) | (with_reducible refine Below.trans ?_ (Below.mono (by assumption) ?_)) | (with_reducible refine Below.alloc ?_ ?_ _) | (with_reducible refine Below.drew ?_) | (with_reducible refine below_drewN ?_ _) | (with_reducible refine Below.setCell ?_ ?_ _) | (simp only [World.size_alloc, World.size_setCell, World.size_drew, size_drewN]; omega) | omega))⟩

theorem wrN_cases (h : List TxnT) (key val : Int) : (wrN h key val = -1 ∧ lastv h key val = false) ∨ ∃ (k : Nat) (t : TxnT), h[k]? = some t ∧ wrN h key val = k ∧ lastv h key val = decide ((⟨2, key, val⟩ : T3) ∈ lwsTo t.ops 3) := by
  rcases wrN_range h key val with e | ⟨k, hk, e⟩
  · left; exact ⟨e, by unfold lastv; rw [e]; rfl⟩
  · right
    refine ⟨k, h[k], List.getElem?_eq_getElem hk, e, ?_⟩
    unfold lastv
    rw [e]
    simp [List.getElem?_eq_getElem hk]

set_option maxHeartbeats 2000000 in
theorem implLastValue_c (h : List TxnT) (S : Nat → Prop) (A : Option Addr) (c : Nat) (key val : Int) (w : World) (hx : Txns S w A h) (hsm : Small h) :
    Calls Tryz.prog 137 #[.slice A h.length c, .int .i64 key, .int .i64 val] w fun e w' => e = .returned (.bool (histv h && lastv h key val)) ∧ Ext w w' := by
  have C := fun w hx => implWriterOf_c h S A c key val w hx hsm
  cases hv : histv h with
  | false =>
    rw [hv] at C
    have C := Lib.hid C
    go_enter Tryz.func137, Tryz.ntmps137
    go_wp2_with (go_at_call 50; refine (C.out _ (hx.ext (by (repeat' (first | (with_reducible exact Below.refl _ _) | (with_reducible refine Below.mono (by assumption) ?_) | (with_reducible refine Below.trans ?_ (Below.mono (by assumption) ?_)) | (with_reducible refine Below.alloc ?_ ?_ _) | (with_reducible refine Below.drew ?_) | (with_reducible refine below_drewN ?_ _) | (with_reducible refine Below.setCell ?_ ?_ _) | (simp only [World.size_alloc, World.size_setCell, World.size_drew, size_drewN]; omega) | omega))))).mono ?_; rintro e w1 ⟨rfl, hb⟩; obtain ⟨hc, hf, hz, hs⟩ := bcell hb; (try simp only [World.size_alloc, World.size_setCell, World.size_drew, size_drewN] at hs); (first | have l0 := Nat.lt_of_lt_of_le l0 (show _ ≤ w1.heap.size by omega) | have l0 : w.heap.size < w1.heap.size := (by omega) | skip); (try have l0e := Nat.le_of_lt l0); (try have l0f := Nat.le_add_right_of_le (k := 1) l0e); (try have l1 := Nat.lt_of_lt_of_le l1 (show _ ≤ w1.heap.size by omega)); (try have l1e := Nat.le_of_lt l1); (try have l1f := Nat.le_add_right_of_le (k := 1) l1e); (try have l2 := Nat.lt_of_lt_of_le l2 (show _ ≤ w1.heap.size by omega)); (try have l2e := Nat.le_of_lt l2); (try have l2f := Nat.le_add_right_of_le (k := 1) l2e); (try have l3 := Nat.lt_of_lt_of_le l3 (show _ ≤ w1.heap.size by omega)); (try have l3e := Nat.le_of_lt l3); (try have l3f := Nat.le_add_right_of_le (k := 1) l3e))
    all_goals go_ret
    all_goals exact ⟨rfl, by (repeat' (first | (with_reducible exact Below.refl _ _) | (with_reducible refine Below.mono (by assumption) ?_) | (with_reducible refine Below.trans ?_ (Below.mono (by assumption) ?_)) | (with_reducible refine Below.alloc ?_ ?_ _) | (with_reducible refine Below.drew ?_) | (with_reducible refine below_drewN ?_ _) | (with_reducible refine Below.setCell ?_ ?_ _) | (simp only [World.size_alloc, World.size_setCell, World.size_drew, size_drewN]; omega) | omega))⟩
  | true =>
    rw [hv, if_pos rfl] at C
    rcases wrN_cases h key val with ⟨e1, e2⟩ | ⟨k, t, hk, e1, e2⟩
    · rw [e1] at C
      rw [e2]
      have C := Lib.hid C
      clear e1 e2
      go_enter Tryz.func137, Tryz.ntmps137
      go_wp2_with (go_at_call 50; refine (C.out _ (hx.ext (by (repeat' (first | (with_reducible exact Below.refl _ _) | (with_reducible refine Below.mono (by assumption) ?_) | (with_reducible refine Below.trans ?_ (Below.mono (by assumption) ?_)) | (with_reducible refine Below.alloc ?_ ?_ _) | (with_reducible refine Below.drew ?_) | (with_reducible refine below_drewN ?_ _) | (with_reducible refine Below.setCell ?_ ?_ _) | (simp only [World.size_alloc, World.size_setCell, World.size_drew, size_drewN]; omega) | omega))))).mono ?_; rintro e w1 ⟨rfl, hb⟩; obtain ⟨hc, hf, hz, hs⟩ := bcell hb; (try simp only [World.size_alloc, World.size_setCell, World.size_drew, size_drewN] at hs); (first | have l0 := Nat.lt_of_lt_of_le l0 (show _ ≤ w1.heap.size by omega) | have l0 : w.heap.size < w1.heap.size := (by omega) | skip); (try have l0e := Nat.le_of_lt l0); (try have l0f := Nat.le_add_right_of_le (k := 1) l0e); (try have l1 := Nat.lt_of_lt_of_le l1 (show _ ≤ w1.heap.size by omega)); (try have l1e := Nat.le_of_lt l1); (try have l1f := Nat.le_add_right_of_le (k := 1) l1e); (try have l2 := Nat.lt_of_lt_of_le l2 (show _ ≤ w1.heap.size by omega)); (try have l2e := Nat.le_of_lt l2); (try have l2f := Nat.le_add_right_of_le (k := 1) l2e); (try have l3 := Nat.lt_of_lt_of_le l3 (show _ ≤ w1.heap.size by omega)); (try have l3e := Nat.le_of_lt l3); (try have l3f := Nat.le_add_right_of_le (k := 1) l3e))
      all_goals go_ret
      all_goals exact ⟨rfl, by (repeat' (first | (with_reducible exact Below.refl _ _) | (with_reducible refine Below.mono (by assumption) ?_) | (with_reducible refine Below.trans ?_ (Below.mono (by assumption) ?_)) | (with_reducible refine Below.alloc ?_ ?_ _) | (with_reducible refine Below.drew ?_) | (with_reducible refine below_drewN ?_ _) | (with_reducible refine Below.setCell ?_ ?_ _) | (simp only [World.size_alloc, World.size_setCell, World.size_drew, size_drewN]; omega) | omega))⟩
    · rw [e1] at C
      rw [e2]
      have C := Lib.hid C
      clear e1 e2
      have hlt : k < h.length := (List.getElem?_eq_some_iff.1 hk).1
      obtain ⟨s, ops, d, A', cap, b, off, hxk, rfl, _, hb0, hO, c0, c1, c2⟩ := hx.at_ hlt
      rw [hk] at hxk
      cases hxk
      have hon := hsm.ops hk
      simp only at hon
      clear hk
      go_enter Tryz.func137, Tryz.ntmps137
      go_wp2_with (fail)
      go_at_call 50
      refine (C.out _ (hx.ext (by (repeat' (first | (with_reducible exact Below.refl _ _) | (with_reducible refine Below.mono (by assumption) ?_) | (with_reducible refine Below.trans ?_ (Below.mono (by assumption) ?_)) | (with_reducible refine Below.alloc ?_ ?_ _) | (with_reducible refine Below.drew ?_) | (with_reducible refine below_drewN ?_ _) | (with_reducible refine Below.setCell ?_ ?_ _) | (simp only [World.size_alloc, World.size_setCell, World.size_drew, size_drewN]; omega) | omega))))).mono ?_
      rintro e w1 ⟨rfl, hb⟩
      obtain ⟨hc, hf, hz, hs⟩ := bcell hb
      (try simp only [World.size_alloc, World.size_setCell, World.size_drew, size_drewN] at hs); (first | have l0 := Nat.lt_of_lt_of_le l0 (show _ ≤ w1.heap.size by omega) | have l0 : w.heap.size < w1.heap.size := (by omega) | skip); (try have l0e := Nat.le_of_lt l0); (try have l0f := Nat.le_add_right_of_le (k := 1) l0e); (try have l1 := Nat.lt_of_lt_of_le l1 (show _ ≤ w1.heap.size by omega)); (try have l1e := Nat.le_of_lt l1); (try have l1f := Nat.le_add_right_of_le (k := 1) l1e); (try have l2 := Nat.lt_of_lt_of_le l2 (show _ ≤ w1.heap.size by omega)); (try have l2e := Nat.le_of_lt l2); (try have l2f := Nat.le_add_right_of_le (k := 1) l2e); (try have l3 := Nat.lt_of_lt_of_le l3 (show _ ≤ w1.heap.size by omega)); (try have l3e := Nat.le_of_lt l3); (try have l3f := Nat.le_add_right_of_le (k := 1) l3e)
      have f0 := hb.keep hb0 c0
      have f1 := hb.keep hb0 c1
      have f2 := hb.keep hb0 c2
      have e1 := hb
      have hll := lwsTo_len ops 3
      go_wp2_with (fail)
      go_at_call 74
      refine (lastWrites_c ⟨s, ops, d⟩ _ _ _ _ (hO.ext e1) hon).mono ?_
      rintro e w2 ⟨A3, c3, rfl, hW, hf3, hb⟩
      obtain ⟨hc, hf, hz, hs⟩ := bcell hb
      (try simp only [World.size_alloc, World.size_setCell, World.size_drew, size_drewN] at hs); (first | have l0 := Nat.lt_of_lt_of_le l0 (show _ ≤ w2.heap.size by omega) | have l0 : w.heap.size < w2.heap.size := (by omega) | skip); (try have l0e := Nat.le_of_lt l0); (try have l0f := Nat.le_add_right_of_le (k := 1) l0e); (try have l1 := Nat.lt_of_lt_of_le l1 (show _ ≤ w2.heap.size by omega)); (try have l1e := Nat.le_of_lt l1); (try have l1f := Nat.le_add_right_of_le (k := 1) l1e); (try have l2 := Nat.lt_of_lt_of_le l2 (show _ ≤ w2.heap.size by omega)); (try have l2e := Nat.le_of_lt l2); (try have l2f := Nat.le_add_right_of_le (k := 1) l2e); (try have l3 := Nat.lt_of_lt_of_le l3 (show _ ≤ w2.heap.size by omega)); (try have l3e := Nat.le_of_lt l3); (try have l3f := Nat.le_add_right_of_le (k := 1) l3e)
      have e2 := e1.tr hb
      generalize hL : lwsTo ops 3 = L at hW hll
      have HL := Lib.hid hL
      clear hL
      go_wp2_with (fail)
      go_at_call 146
      refine (containsOp_c ⟨2, key, val⟩ L _ _ _ _ hW (by omega)).mono ?_
      rintro e w3 ⟨rfl, hb⟩
      obtain ⟨hc, hf, hz, hs⟩ := bcell hb
      (try simp only [World.size_alloc, World.size_setCell, World.size_drew, size_drewN] at hs); (first | have l0 := Nat.lt_of_lt_of_le l0 (show _ ≤ w3.heap.size by omega) | have l0 : w.heap.size < w3.heap.size := (by omega) | skip); (try have l0e := Nat.le_of_lt l0); (try have l0f := Nat.le_add_right_of_le (k := 1) l0e); (try have l1 := Nat.lt_of_lt_of_le l1 (show _ ≤ w3.heap.size by omega)); (try have l1e := Nat.le_of_lt l1); (try have l1f := Nat.le_add_right_of_le (k := 1) l1e); (try have l2 := Nat.lt_of_lt_of_le l2 (show _ ≤ w3.heap.size by omega)); (try have l2e := Nat.le_of_lt l2); (try have l2f := Nat.le_add_right_of_le (k := 1) l2e); (try have l3 := Nat.lt_of_lt_of_le l3 (show _ ≤ w3.heap.size by omega)); (try have l3e := Nat.le_of_lt l3); (try have l3f := Nat.le_add_right_of_le (k := 1) l3e)
      go_wp2
      go_ret
      have hL := HL.out
      subst hL
      exact ⟨rfl, e2.tr hb⟩

theorem lws_spec_c (t : TxnT) (S : Nat → Prop) (A : Option Addr) (c : Nat) (w : World) (hx : Ops S w A t.ops) (hn : t.ops.length ≤ 1048576) (hv : txnv t = true) :
    Calls Tryz.prog 37 #[.agg #[.int .i64 t.sess, .slice A t.ops.length c, .bool t.done]] w (Fresh (lwsTo t.ops 3) w) := specLastWrites_ok t S A c w hx hn hv
set_option maxHeartbeats 2000000 in
theorem l5Last_c (h : List TxnT) (S : Nat → Prop) (A : Option Addr) (c : Nat) (key val : Int) (w : World) (hx : Txns S w A h) (hsm : Small h) (hv : histv h = true) :
    Calls Tryz.prog 113 #[.slice A h.length c, .int .i64 key, .int .i64 val] w fun e w' => e = .returned (.bool (lastv h key val)) ∧ Ext w w' := by
  have C := fun w hx => l5Writer_c h S A c key val w hx hsm
  rcases wrN_cases h key val with ⟨e1, e2⟩ | ⟨k, t, hk, e1, e2⟩
  · rw [e1] at C
    rw [e2]
    have C := Lib.hid C
    clear e1 e2
    go_enter Tryz.func113, Tryz.ntmps113
    go_wp2_with (go_at_call 60; refine (C.out _ (hx.ext (by (repeat' (first | (with_reducible exact Below.refl _ _) | (with_reducible refine Below.mono (by assumption) ?_) | (with_reducible refine Below.trans ?_ (Below.mono (by assumption) ?_)) | (with_reducible refine Below.alloc ?_ ?_ _) | (with_reducible refine Below.drew ?_) | (with_reducible refine below_drewN ?_ _) | (with_reducible refine Below.setCell ?_ ?_ _) | (simp only [World.size_alloc, World.size_setCell, World.size_drew, size_drewN]; omega) | omega))))).mono ?_; rintro e w1 ⟨rfl, hb⟩; obtain ⟨hc, hf, hz, hs⟩ := bcell hb; (try simp only [World.size_alloc, World.size_setCell, World.size_drew, size_drewN] at hs); (first | have l0 := Nat.lt_of_lt_of_le l0 (show _ ≤ w1.heap.size by omega) | have l0 : w.heap.size < w1.heap.size := (by omega) | skip); (try have l0e := Nat.le_of_lt l0); (try have l0f := Nat.le_add_right_of_le (k := 1) l0e); (try have l1 := Nat.lt_of_lt_of_le l1 (show _ ≤ w1.heap.size by omega)); (try have l1e := Nat.le_of_lt l1); (try have l1f := Nat.le_add_right_of_le (k := 1) l1e); (try have l2 := Nat.lt_of_lt_of_le l2 (show _ ≤ w1.heap.size by omega)); (try have l2e := Nat.le_of_lt l2); (try have l2f := Nat.le_add_right_of_le (k := 1) l2e); (try have l3 := Nat.lt_of_lt_of_le l3 (show _ ≤ w1.heap.size by omega)); (try have l3e := Nat.le_of_lt l3); (try have l3f := Nat.le_add_right_of_le (k := 1) l3e))
    all_goals go_ret
    all_goals exact ⟨rfl, by (repeat' (first | (with_reducible exact Below.refl _ _) | (with_reducible refine Below.mono (by assumption) ?_) | (with_reducible refine Below.trans ?_ (Below.mono (by assumption) ?_)) | (with_reducible refine Below.alloc ?_ ?_ _) | (with_reducible refine Below.drew ?_) | (with_reducible refine below_drewN ?_ _) | (with_reducible refine Below.setCell ?_ ?_ _) | (simp only [World.size_alloc, World.size_setCell, World.size_drew, size_drewN]; omega) | omega))⟩
  · rw [e1] at C
    have C := Lib.hid C
    clear e1
    have hlt : k < h.length := (List.getElem?_eq_some_iff.1 hk).1
    have htv : txnv t = true := by
      rw [histv_eq] at hv
      simp only [Bool.and_eq_true] at hv
      exact List.all_eq_true.1 hv.1.2 t (List.mem_of_getElem? hk)
    obtain ⟨s, ops, d, A', cap, b, off, hxk, rfl, _, hb0, hO, c0, c1, c2⟩ := hx.at_ hlt
    rw [hk] at hxk
    cases hxk
    have hon := hsm.ops hk
    simp only at hon e2
    clear hk hv
    have hll := lwsTo_len ops 3
    have CW := fun S A c w hx => lws_spec_c ⟨s, ops, d⟩ S A c w hx hon htv
    have hkey := fun (o : T3) (ho : o ∈ lwsTo ops 3) (hb : o.b = key) => lws_key (val := val) ho hb
    have hno := lws_nokey (ops := ops) (n := 3) (key := key) (val := val)
    simp only at CW
    generalize lwsTo ops 3 = L at CW hll hkey hno e2
    have CW := Lib.hid CW
    have HK := Lib.hid hkey
    have HN := Lib.hid hno
    have E2 := Lib.hid e2
    clear hkey hno e2
    go_enter Tryz.func113, Tryz.ntmps113
    go_wp2_with (fail)
    go_at_call 60
    refine (C.out _ (hx.ext (by (repeat' (first | (with_reducible exact Below.refl _ _) | (with_reducible refine Below.mono (by assumption) ?_) | (with_reducible refine Below.trans ?_ (Below.mono (by assumption) ?_)) | (with_reducible refine Below.alloc ?_ ?_ _) | (with_reducible refine Below.drew ?_) | (with_reducible refine below_drewN ?_ _) | (with_reducible refine Below.setCell ?_ ?_ _) | (simp only [World.size_alloc, World.size_setCell, World.size_drew, size_drewN]; omega) | omega))))).mono ?_
    rintro e w1 ⟨rfl, hb⟩
    obtain ⟨hc, hf, hz, hs⟩ := bcell hb
    (try simp only [World.size_alloc, World.size_setCell, World.size_drew, size_drewN] at hs); (first | have l0 := Nat.lt_of_lt_of_le l0 (show _ ≤ w1.heap.size by omega) | have l0 : w.heap.size < w1.heap.size := (by omega) | skip); (try have l0e := Nat.le_of_lt l0); (try have l0f := Nat.le_add_right_of_le (k := 1) l0e); (try have l1 := Nat.lt_of_lt_of_le l1 (show _ ≤ w1.heap.size by omega)); (try have l1e := Nat.le_of_lt l1); (try have l1f := Nat.le_add_right_of_le (k := 1) l1e); (try have l2 := Nat.lt_of_lt_of_le l2 (show _ ≤ w1.heap.size by omega)); (try have l2e := Nat.le_of_lt l2); (try have l2f := Nat.le_add_right_of_le (k := 1) l2e); (try have l3 := Nat.lt_of_lt_of_le l3 (show _ ≤ w1.heap.size by omega)); (try have l3e := Nat.le_of_lt l3); (try have l3f := Nat.le_add_right_of_le (k := 1) l3e)
    have f0 := hb.keep hb0 c0
    have f1 := hb.keep hb0 c1
    have f2 := hb.keep hb0 c2
    have e1 := hb
    go_wp2_with (fail)
    go_at_call 37
    refine (CW.out _ _ _ _ (hO.ext e1)).mono ?_
    rintro e w2 ⟨A3, c3, rfl, hW, hf3, hb⟩
    obtain ⟨hc, hf, hz, hs⟩ := bcell hb
    (try simp only [World.size_alloc, World.size_setCell, World.size_drew, size_drewN] at hs); (first | have l0 := Nat.lt_of_lt_of_le l0 (show _ ≤ w2.heap.size by omega) | have l0 : w.heap.size < w2.heap.size := (by omega) | skip); (try have l0e := Nat.le_of_lt l0); (try have l0f := Nat.le_add_right_of_le (k := 1) l0e); (try have l1 := Nat.lt_of_lt_of_le l1 (show _ ≤ w2.heap.size by omega)); (try have l1e := Nat.le_of_lt l1); (try have l1f := Nat.le_add_right_of_le (k := 1) l1e); (try have l2 := Nat.lt_of_lt_of_le l2 (show _ ≤ w2.heap.size by omega)); (try have l2e := Nat.le_of_lt l2); (try have l2f := Nat.le_add_right_of_le (k := 1) l2e); (try have l3 := Nat.lt_of_lt_of_le l3 (show _ ≤ w2.heap.size by omega)); (try have l3e := Nat.le_of_lt l3); (try have l3f := Nat.le_add_right_of_le (k := 1) l3e)
    have e2 := e1.tr hb
    go_wp2
    go_loopw [9] (fun i wr => ∃ j : Nat, j ≤ L.length ∧ i = .int .i64 j ∧ AllTo (fun o => !decide (o.b = key)) L j ∧ Ext w2 wr) (fun i _ => L.length - (intOf i).toNat)
    case atStart => exact ⟨0, Nat.zero_le _, rfl, AllTo.zero, Below.refl _ _⟩
    case round =>
      obtain ⟨j, hj, rfl, hall, hE⟩ := hrel
      have HA := Lib.hid hall
      clear hall
      by_cases hlt2 : j < L.length
      · obtain ⟨x0, x1, x2, b', off', hyk, rfl, _, hb1, d0, d1, d2⟩ := (hW.ext hE).at_ hlt2
        have HX := Lib.hid hyk
        clear hyk
        go_wp2
        · rename_i hw
          have hk1 : x1 = key := by simpa using hw
          have hkk := HK.out _ (List.mem_of_getElem? HX.out) hk1
          go_ret
          exact ⟨ret_bool (by rw [E2.out, Bool.eq_iff_iff]; simp [hkk]), e2.tr hE⟩
        · rename_i hw
          have hv : (fun o : T3 => !decide (o.b = key)) (⟨x0, x1, x2⟩ : T3) = true := by simpa using hw
          exact ⟨⟨j + 1, by omega, by go_num, HA.out.step HX.out hv, hE⟩, by simp [intOf]; omega⟩
      · obtain rfl : j = L.length := by omega
        have hav := HA.out.all
        have HV := Lib.hid hav
        clear hav
        go_wp2
        go_ret
        exact ⟨ret_bool (by rw [E2.out]; have := HN.out (fun o ho hb => by have := List.all_eq_true.1 HV.out o ho; simp [hb] at this); simp [this]), e2.tr hE⟩

end Go.Proofs.YtmbdacfgmiielaaGreat
/-
  Plain facts: installed values and numbers of committed transactions differ; the same numbers in another order.
-/
namespace Go.Proofs.YtmbdacfgmiielaaGreat
set_option linter.unusedSimpArgs false
set_option linter.unusedVariables false
set_option maxRecDepth 100000

theorem lastW_mem {ops : List T3} {key : Int} {n : Nat} {o : T3} (h : lastW ops key n = some o) : o ∈ ops := by
  induction n with
  | zero => cases h
  | succ n ih =>
    unfold lastW at h
    split at h
    · rename_i x hx
      split at h
      · cases h
        exact List.mem_of_getElem? hx
      · exact ih h
    · exact ih h
theorem lws_ops {ops : List T3} {n : Nat} {o : T3} (h : o ∈ lwsTo ops n) : o ∈ ops := lastW_mem (lws_mem h).2
theorem lws_below {ops : List T3} {n : Nat} {o : T3} (h : o ∈ lwsTo ops n) : o.b < n := by
  induction n with
  | zero => cases h
  | succ n ih =>
    rcases List.mem_append.1 h with h | h
    · have := ih h
      omega
    · rw [Option.mem_toList] at h
      have := (lastW_ok h).2
      omega
theorem kvs_none {key : Int} {l : List T3} (h : ∀ o ∈ l, o.b ≠ key) : kvs key l = [] := by
  induction l with
  | nil => rfl
  | cons o l ih =>
    simp only [kvs]
    rw [if_neg (h o (by simp)), ih (fun o ho => h o (by simp [ho]))]
theorem kvs_lws (ops : List T3) (key : Int) (n : Nat) : kvs key (lwsTo ops n) = [] ∨ ∃ v, kvs key (lwsTo ops n) = [v] ∧ (⟨2, key, v⟩ : T3) ∈ lwsTo ops n := by
  induction n with
  | zero => left; rfl
  | succ n ih =>
    unfold lwsTo
    rw [kvs_append]
    cases hq : lastW ops n ops.length with
    | none =>
      rcases ih with h1 | ⟨v, h1, h2⟩
      · left
        simp [h1, kvs]
      · right
        exact ⟨v, by simp [h1, kvs], List.mem_append_left _ h2⟩
    | some o =>
      obtain ⟨a1, a2⟩ := lastW_ok hq
      by_cases hk : o.b = key
      · have h0 : kvs key (lwsTo ops n) = [] := kvs_none (fun x hx => by have := lws_below hx; omega)
        right
        refine ⟨o.c, by rw [h0]; simp [kvs, hk], List.mem_append_right _ ?_⟩
        have e : o = ⟨2, key, o.c⟩ := by cases o; simp_all
        rw [← e]
        simp
      · have h0 : kvs key (some o).toList = [] := by simp [kvs, hk]
        rw [h0, List.append_nil]
        rcases ih with h1 | ⟨v, h1, h2⟩
        · exact .inl h1
        · exact .inr ⟨v, h1, List.mem_append_left _ h2⟩
/-- an installed value has its writer -/
def InstAt (h : List TxnT) (key v : Int) (n k : Nat) (t : TxnT) : Prop := k < n ∧ wrN h key v = k ∧ h[k]? = some t ∧ t.done = true ∧ (⟨2, key, v⟩ : T3) ∈ lwsTo t.ops 3
theorem inT_at {h : List TxnT} {key : Int} (hv : histv h = true) (n : Nat) : (∀ (i : Nat) v, (inT h key n)[i]? = some v → ∃ k t, InstAt h key v n k t) ∧ ∀ (i : Nat) u v, (inT h key n)[i]? = some u → (inT h key n)[i + 1]? = some v → wrN h key u < wrN h key v := by
  induction n with
  | zero => exact ⟨fun i v h => by simp [inT] at h, fun i u v h => by simp [inT] at h⟩
  | succ n ih =>
    obtain ⟨i1, i2⟩ := ih
    have lift : ∀ (i : Nat) v, (inT h key n)[i]? = some v → ∃ k t, InstAt h key v (n + 1) k t := fun i v hi => by
      obtain ⟨k, t, a, b⟩ := i1 i v hi
      exact ⟨k, t, by omega, b⟩
    cases hk : h[n]? with
    | none =>
      have e : inT h key (n + 1) = inT h key n := by
        conv => lhs; unfold inT
        rw [hk]
      rw [e]
      exact ⟨lift, i2⟩
    | some t =>
      rw [inT_succ hk]
      by_cases hd : t.done = true
      · rw [if_pos hd]
        rcases kvs_lws t.ops key 3 with h0 | ⟨v, h0, hm⟩
        · rw [h0, List.append_nil]
          exact ⟨lift, i2⟩
        · rw [h0]
          have hw := wrN_of hv hk (lws_ops hm)
          have new : InstAt h key v (n + 1) n t := ⟨by omega, hw, hk, hd, hm⟩
          refine ⟨fun i u hi => ?_, fun i u u' hi hj => ?_⟩
          · rcases Nat.lt_or_ge i (inT h key n).length with hlt | hge
            · rw [List.getElem?_append_left hlt] at hi
              exact lift i u hi
            · rw [List.getElem?_append_right hge] at hi
              have : u = v := by
                cases hx : i - (inT h key n).length with
                | zero => rw [hx] at hi; simpa using hi.symm
                | succ m => rw [hx] at hi; simp at hi
              subst this
              exact ⟨n, t, new⟩
          · rcases Nat.lt_or_ge (i + 1) (inT h key n).length with hlt | hge
            · rw [List.getElem?_append_left (by omega)] at hi
              rw [List.getElem?_append_left hlt] at hj
              exact i2 i u u' hi hj
            · rw [List.getElem?_append_right hge] at hj
              have hz : i + 1 - (inT h key n).length = 0 := by
                cases hx : i + 1 - (inT h key n).length with
                | zero => rfl
                | succ m => rw [hx] at hj; simp at hj
              rw [hz] at hj
              obtain rfl : v = u' := by simpa using hj
              rw [List.getElem?_append_left (by omega)] at hi
              obtain ⟨k, t2, a, b, _⟩ := i1 i u hi
              rw [b, hw]
              omega
      · rw [if_neg hd]
        exact ⟨lift, i2⟩
theorem inT_nodup {h : List TxnT} {key : Int} (hv : histv h = true) (n : Nat) : (inT h key n).Nodup := by
  induction n with
  | zero => exact List.nodup_nil
  | succ n ih =>
    cases hk : h[n]? with
    | none =>
      have e : inT h key (n + 1) = inT h key n := by
        conv => lhs; unfold inT
        rw [hk]
      rw [e]
      exact ih
    | some t =>
      rw [inT_succ hk]
      split
      · rcases kvs_lws t.ops key 3 with h0 | ⟨v, h0, hm⟩
        · rw [h0, List.append_nil]
          exact ih
        · rw [h0]
          have hw := wrN_of hv hk (lws_ops hm)
          rw [List.nodup_append]
          refine ⟨ih, by simp, fun u hu u' hu' e => ?_⟩
          obtain rfl := List.mem_singleton.1 hu'
          subst e
          obtain ⟨i, hi⟩ := List.getElem?_of_mem hu
          obtain ⟨k, t2, a, b, _⟩ := (inT_at hv n).1 i u hi
          rw [hw] at b
          omega
      · exact ih
theorem instd_nodup (h : List TxnT) (key : Int) : (instd h key).Nodup := by
  unfold instd
  split
  · rename_i hc
    exact inT_nodup hc.1 _
  · exact List.nodup_nil
theorem dnT_pw {h : List TxnT} (n : Nat) : (dnT h n).Pairwise (fun a b => a < b) := by
  induction n with
  | zero => exact List.Pairwise.nil
  | succ n ih =>
    cases hk : h[n]? with
    | none =>
      have e : dnT h (n + 1) = dnT h n := by
        conv => lhs; unfold dnT
        rw [hk]
      rw [e]
      exact ih
    | some t =>
      rw [dnT_succ hk]
      split
      · rw [List.pairwise_append]
        refine ⟨ih, List.pairwise_singleton _ _, fun a ha b hb => ?_⟩
        obtain ⟨m, t2, rfl, hm, _⟩ := dnT_mem ha
        obtain rfl := List.mem_singleton.1 hb
        omega
      · exact ih
/-- the same different numbers -/
def l7v (a b : List Int) : Bool := b.all (fun x => decide (a.count x = 1)) && decide (a.length = b.length)
theorem perm_of_sub : ∀ (b a : List Int), b.Nodup → (∀ x ∈ b, x ∈ a) → a.length = b.length → a.Perm b := by
  intro b
  induction b with
  | nil =>
    intro a _ _ hl
    rw [List.eq_nil_of_length_eq_zero hl]
  | cons y b ih =>
    intro a hn hs hl
    have hy := hs y (by simp)
    have h1 := List.perm_cons_erase hy
    have hn' := List.nodup_cons.1 hn
    refine h1.trans (List.Perm.cons y (ih _ hn'.2 (fun x hx => ?_) ?_))
    · exact (List.mem_erase_of_ne (fun e => hn'.1 (by rw [← e]; exact hx))).2 (hs x (by simp [hx]))
    · rw [List.length_erase_of_mem hy, hl]
      rfl
theorem l7v_perm {a b : List Int} (hb : b.Nodup) : l7v a b = true ↔ a.Perm b := by
  unfold l7v
  rw [Bool.and_eq_true, List.all_eq_true, decide_eq_true_eq]
  constructor
  · rintro ⟨h1, h2⟩
    refine perm_of_sub b a hb (fun x hx => ?_) h2
    have := h1 x hx
    rw [decide_eq_true_eq] at this
    exact List.count_pos_iff.1 (by omega)
  · intro h
    refine ⟨fun x hx => ?_, h.length_eq⟩
    rw [decide_eq_true_eq, h.count_eq, hb.count, if_pos hx]
end Go.Proofs.YtmbdacfgmiielaaGreat
namespace Go.Proofs.YtmbdacfgmiielaaGreat
set_option linter.unusedSimpArgs false
set_option linter.unusedVariables false
set_option maxRecDepth 100000
open Go.RowKit Go.Shelf
attribute [local go_sem] Oper.semAt_some

set_option maxHeartbeats 2000000 in
/-- the library's closure over a slice: for every loop body that keeps what lay below n₀ -/
theorem vals1_in (n : Nat) (hn : 1 ≤ n) (l Bs n₀ : Nat) (A : Option Addr) (cap : Nat) (zs : List Int) (hl : zs.length ≤ 1048576) (J Jx : List Int → World → Prop)
    (hY : ∀ pre x W, J pre W → pre.length < zs.length → YieldAt Fence.wide (n - 1) Tryz.prog l #[.int .i64 x] W fun e W' =>
      (e = .returned (.bool true) ∧ J (pre ++ [x]) W' ∧ Below n₀ W W') ∨ (e = .returned (.bool false) ∧ Jx (pre ++ [x]) W'))
    (W : World) (hBs : W.cell? ⟨Bs, 0, none⟩ = some (.slice A zs.length cap)) (hc : ∀ (j : Nat) x, zs[j]? = some x → ∃ b off, A = some ⟨b, off, none⟩ ∧ b < n₀ ∧ W.cell? ⟨b, off + j, none⟩ = some (.int .i64 x)) (h0 : J [] W) :
    CallsIn Fence.wide n Tryz.prog 78 #[.func (.yield l) #[] #[], .pointer (some ⟨Bs, 0, none⟩)] W fun e W' => (∃ v, e = .returned v) ∧ ((∃ ys, ys = zs ∧ J ys W') ∨ (∃ pre, pre <+: zs ∧ Jx pre W')) := by
  have hro : Fence.wide.round = none := rfl
  have HC := Lib.hid hc
  clear hc
  refine callsIn_of_wp Tryz.func78 rfl trivial ?_ hro
  simp only [Tryz.ntmps78, List.size_toArray, List.length_cons, List.length_nil, Nat.reduceAdd, Nat.reduceSub, Array.replicate_succ, Array.replicate_zero, List.push_toArray, List.append_toArray, List.nil_append, List.cons_append]
  gi_wp2
  gi_loopw [7] (fun i wr => ∃ k : Nat, k ≤ zs.length ∧ i = .int .i64 k ∧ J (zs.take k) wr ∧ Below n₀ W wr) (fun i _ => zs.length - (intOf i).toNat)
  case atStart => exact ⟨0, Nat.zero_le _, rfl, h0, Below.refl _ _⟩
  case round =>
    obtain ⟨k, hk, rfl, hJs, hnx⟩ := hrel
    by_cases hlt : k < zs.length
    · have hx : zs[k]? = some zs[k] := List.getElem?_eq_getElem hlt
      have hts : zs.take (k + 1) = zs.take k ++ [zs[k]] := by rw [List.take_add_one, hx]; rfl
      obtain ⟨b, off, rfl, hb, hcb⟩ := HC.out k _ hx
      have hpl : (zs.take k).length < zs.length := by rw [List.length_take]; omega
      generalize zs[k] = x at hx hts hcb
      have hcx := (hnx.cell (p := ⟨b, off + k, none⟩) hb).trans hcb
      obtain ⟨fn, tmps, assign, body, hy, hR⟩ := hY _ x wr hJs hpl
      have HTs := Lib.hid hts
      have HNx := Lib.hid hnx
      have hki : (k : Int) < zs.length := by omega
      clear hx hts hcb hnx hpl
      gi_wp2
      refine hR.mono ?_
      rintro e W3 (⟨rfl, hJ3, hk3⟩ | ⟨rfl, hJx3⟩)
      · have hJ4 : J (zs.take (k + 1)) W3 := by rw [HTs.out]; exact hJ3
        gi_wp2
        go_roundw
        case rel => exact ⟨k + 1, by omega, by simp, hJ4, HNx.out.trans hk3⟩
        case measure => simp [intOf]; omega
      · gi_wp2
        refine bodyPost_ret (results_none rfl _ _ _) rfl ?_
        exact ⟨⟨_, rfl⟩, .inr ⟨_, by rw [← HTs.out]; exact List.take_prefix _ _, hJx3⟩⟩
    · obtain rfl : k = zs.length := by omega
      rw [List.take_length] at hJs
      gi_wp2
      go_end0
      exact ⟨⟨_, rfl⟩, .inl ⟨_, rfl, hJs⟩⟩
theorem vals_stops (n : Nat) (hn : 1 ≤ n) (Bs n₀ : Nat) (A : Option Addr) (cap : Nat) (zs : List Int) (hl : zs.length ≤ 1048576) (w : World) (hBs : Bs < w.heap.size) (hn₀ : n₀ ≤ w.heap.size)
    (hcb : w.cell? ⟨Bs, 0, none⟩ = some (.slice A zs.length cap)) (hc : ∀ (j : Nat) x, zs[j]? = some x → ∃ b off, A = some ⟨b, off, none⟩ ∧ b < n₀ ∧ w.cell? ⟨b, off + j, none⟩ = some (.int .i64 x)) :
    SeqStopsK Fence.wide n Tryz.prog 78 #[.pointer (some ⟨Bs, 0, none⟩)] (fun x : Int => #[Value.int .i64 x]) (Below n₀) (fun ys => ys = zs) (fun pre => pre <+: zs) zs.length w := fun l J Jx W hW _ _ hY h0 => by
  have hc' := (hW.cell (p := ⟨Bs, 0, none⟩) hBs).trans hcb
  refine vals1_in n hn l Bs n₀ A cap zs hl J Jx hY W hc' (fun j x hx => ?_) h0
  obtain ⟨b, off, e, hb, hcx⟩ := hc j x hx
  exact ⟨b, off, e, hb, (hW.cell (p := ⟨b, off + j, none⟩) (by simp only; omega)).trans hcx⟩
theorem infoIntV : (Tryz.prog.info? 3).map (fun i => (i.zero, i.size, i.bytes)) = some (some (.int .i64 0), 1, 8) := by kernel_rfl
set_option maxHeartbeats 4000000 in
theorem appendSeq_in (n : Nat) (hn : 3 ≤ n) (Bs : Nat) (A : Option Addr) (cap : Nat) (zs : List Int) (hl : zs.length ≤ 1048576) (w : World) (hBs : Bs < w.heap.size)
    (hcb : w.cell? ⟨Bs, 0, none⟩ = some (.slice A zs.length cap)) (hc : ∀ (j : Nat) x, zs[j]? = some x → ∃ b off, A = some ⟨b, off, none⟩ ∧ b < w.heap.size ∧ w.cell? ⟨b, off + j, none⟩ = some (.int .i64 x)) :
    CallsIn Fence.wide n Tryz.prog 102 #[.slice none 0 0, .func (.func 78) #[] #[.pointer (some ⟨Bs, 0, none⟩)]] w fun e W' => ∃ v, e = .returned v ∧ W'.ownsRow w.heap.size 3 1 v zs.length (zs.map (Value.int .i64)) ∧ Below w.heap.size w W' := by
  have h1 : 1 ≤ n := by omega
  have hro : Fence.wide.round = none := rfl
  obtain ⟨i0, hi, hz0, hz1, hz2⟩ := info_parts infoIntV
  have hml : zs.length ≤ maxLen := by unfold maxLen; omega
  have HC := Lib.hid hc
  clear hc
  refine callsIn_of_wp_marks Tryz.func102 rfl trivial ?_ hro
  simp only [Tryz.ntmps102, List.size_toArray, List.length_cons, List.length_nil, Nat.reduceAdd, Nat.reduceSub, Array.replicate_succ, Array.replicate_zero, List.push_toArray, List.append_toArray, List.nil_append, List.cons_append]
  gi_wp2
  have bO := Boxed.new w 45 (.slice none 0 0)
  have hB0 : Below w.heap.size w (w.alloc (.cells #[.slice none 0 0] 45)) := (Below.refl _ w).alloc (Nat.le_refl _) _
  refine wpIn_rangeFunc_ownG hro h1 (gf := 78) (lb := #[.pointer (some ⟨Bs, 0, none⟩)]) rfl trivial (enters_of Tryz.func78 (by kernel_rfl) rfl)
    (vals_stops (n - 1) (by omega) Bs w.heap.size A cap zs hl _ (by simp; omega) (by simp) ((hB0.cell (p := ⟨Bs, 0, none⟩) hBs).trans hcb) (fun j x hx => by
      obtain ⟨b, off, e, hb, hcx⟩ := HC.out j x hx
      exact ⟨b, off, e, hb, (hB0.cell (p := ⟨b, off + j, none⟩) hb).trans hcx⟩)) belowK_t (belowK_b (by simp)) (Below.refl _ _) (fun _ => rfl)
    (fun pre W => (∃ v, Boxed W w.heap.size 45 v ∧ W.ownsRow w.heap.size 3 1 v pre.length (pre.map (Value.int .i64)) ∧ True) ∧ Below w.heap.size w W)
    (fun _ _ _ => False)
    (OwnFrom.and (Own.from (holdsRow_own w.heap.size w.heap.size 45 3 1 (fun pre : List Int => pre.length) (fun pre : List Int => pre.map (Value.int .i64)) (fun pre v => True)) _) (ownFrom_below (Nat.le_refl _) (by simp)))
    (fun _ _ _ _ _ hs _ _ => hs)
    ⟨⟨_, bO, World.ownsRow_nil _ _ _ _, trivial⟩, hB0⟩
    (fun x => { tmps := #[.slice none 0 0, .func (.func 78) #[] #[.pointer (some ⟨Bs, 0, none⟩)], .pointer (some ⟨w.heap.size, 0, none⟩), undef, .slice none 0 0, .int .i64 x, .func (.func 78) #[] #[.pointer (some ⟨Bs, 0, none⟩)], .int .i64 x, undef, undef, undef, undef, undef], defers := [] }) ?assign ?body ?done ?stop
  case assign =>
    intro l x W K hK
    gi_wp2
    exact hK
  case body =>
    rintro l pre x W ⟨⟨v, hv, hrow, _⟩, hB⟩ hlt
    have hc := hv.cell
    have hplm : pre.length + 1 ≤ maxLen := by unfold maxLen; omega
    gi_wp2_with (gi_at_builtin; refine wpListIn_append_own _ rfl _ _ 45 rfl w.heap.size 3 i0 (.int .i64 0) 1 8 Tryz.underlying45 hi hz0 hz1 hz2 rfl (by decide) _ _ _ rfl (hrow.alloc _) ⟨W.heap.size, 0, none⟩ 1 1 [.int .i64 x] rfl rfl (cell_one_new _ _ _) (by simp [Value.oneCell']) hplm (by omega) (by have := hB.size; simp; omega) ?_; intro v' w1 hown' hgrow _; obtain ⟨g', cap', rfl⟩ := ownsRow_succ hown'; obtain ⟨hv1, hv2, hr2, hk2, hb2⟩ := hv.appended (by decide) hrow hB.size (Nat.le_refl _) hown' hgrow; have hc1 := hv1.cell; have hf1 := hv1.frozen)
    exact ⟨hk2.from _, hb2, ⟨_, hv2, by simpa using hr2, trivial⟩, hB.trans hb2⟩
  case done =>
    rintro D ys W hD rfl ⟨⟨v, hv, hrow, _⟩, hB⟩ hK
    have hc := hv.cell
    gi_wp2
    refine ⟨by simp, .inl ⟨_, _, rfl, run_takeDeferred hK, ?_⟩⟩
    exact ⟨_, results_tmp rfl _ _ _, v, rfl, ownsRow_putObj hrow _ hK rfl, hB.trans (belowK_b (w := w) (Nat.le_refl _) W D _ _ (by simp at hD; omega) hK rfl rfl)⟩
  case stop =>
    rintro D c pre W _ _ h _
    exact h.elim
end Go.Proofs.YtmbdacfgmiielaaGreat
