/-
  Contracts of LastValue, the reference's and the program's.
-/
import Derived.Test.YtdgfipoibnjhaaaDoorWriter
import Derived.Test.YtdgfipoibnjhaaaDoorReads
namespace Go.Proofs.YtdgfipoibnjhaaaDoor
set_option linter.unusedSimpArgs false
set_option linter.unusedVariables false
set_option maxRecDepth 100000
open Go.RowKit

theorem lastW_ok {ops : List T3} {key : Int} {n : Nat} {o : T3} (h : lastW ops key n = some o) : o.a = 2 ∧ o.b = key := by
  induction n with
  | zero => cases h
  | succ n ih =>
    unfold lastW at h
    split at h
    · split at h
      · rename_i hc; cases h; exact hc
      · exact ih h
    · exact ih h
theorem lws_mem {ops : List T3} {n : Nat} {o : T3} (h : o ∈ lwsTo ops n) : o.a = 2 ∧ lastW ops o.b ops.length = some o := by
  induction n with
  | zero => cases h
  | succ n ih =>
    rcases List.mem_append.1 h with h | h
    · exact ih h
    · rw [Option.mem_toList] at h
      have := lastW_ok h
      exact ⟨this.1, by rw [this.2]; exact h⟩
theorem lws_key {ops : List T3} {n : Nat} {o : T3} {key val : Int} (h : o ∈ lwsTo ops n) (hk : o.b = key) : ((⟨2, key, val⟩ : T3) ∈ lwsTo ops n) ↔ o.c = val := by
  have h1 := lws_mem h
  constructor
  · intro h2
    have h3 := (lws_mem h2).2
    simp only at h3
    rw [hk, h3] at h1
    cases h1.2
    rfl
  · intro hv
    obtain ⟨a, b, c⟩ := o
    simp only at hk hv h1
    obtain rfl := h1.1
    subst hk hv
    exact h
theorem lws_nokey {ops : List T3} {n : Nat} {key val : Int} (h : ∀ o ∈ lwsTo ops n, o.b ≠ key) : (⟨2, key, val⟩ : T3) ∉ lwsTo ops n := fun hm => h _ hm rfl

/-- whether a value is the last one that its writer writes to the key -/
def lastv (h : List TxnT) (key val : Int) : Bool := decide (0 ≤ wrN h key val) && (match h[(wrN h key val).toNat]? with | some t => decide ((⟨2, key, val⟩ : T3) ∈ lwsTo t.ops 3) | none => false)

set_option maxHeartbeats 2000000 in
theorem indexOp_c (x : T3) (xs : List T3) (S : Nat → Prop) (A : Option Addr) (c : Nat) (w : World) (hx : Ops S w A xs) (hn : xs.length ≤ 1048576) :
    Calls Tryd.prog 123 #[.slice A xs.length c, .agg #[.int .i64 x.a, .int .i64 x.b, .int .i64 x.c]] w (IdxOf (fun o => decide (o = x)) xs w) := by
  obtain ⟨a, b, c'⟩ := x
  have heq := eqOp_run
  have hgd := eqOp_guard
  go_enter Tryd.func123, Tryd.ntmps123
  go_wp2
  go_loopw [8] (fun i wr => ∃ k : Nat, k ≤ xs.length ∧ i = .int .i64 k ∧ AllTo (fun o => !decide (o = (⟨a, b, c'⟩ : T3))) xs k ∧ Ext (w.alloc (.cells #[.int .i64 a, .int .i64 b, .int .i64 c'] 34)) wr) (fun i _ => xs.length - (intOf i).toNat)
  case atStart => exact ⟨0, Nat.zero_le _, rfl, AllTo.zero, Below.refl _ _⟩
  case round =>
    obtain ⟨k, hk, rfl, hall, hE⟩ := hrel
    obtain ⟨q0, q1, q2⟩ := box3 hE
    have hE0 : Ext w wr := by have h := hE.size; simp only [World.size_alloc] at h; (repeat' (first | (with_reducible exact Below.refl _ _) | (with_reducible refine Below.mono (by assumption) ?_) | (with_reducible refine Below.trans ?_ (Below.mono (by assumption) ?_)) | (with_reducible refine Below.alloc ?_ ?_ _) | (with_reducible refine Below.drew ?_) | (with_reducible refine below_drewN ?_ _) | (with_reducible refine Below.setCell ?_ ?_ _) | (simp only [World.size_alloc, World.size_setCell, World.size_drew, size_drewN]; omega) | omega))
    have HA := Lib.hid hall
    clear hall
    by_cases hlt : k < xs.length
    · obtain ⟨x0, x1, x2, b', off, hxk, rfl, _, hb0, c0, c1, c2⟩ := (hx.ext hE0).at_ hlt
      have HX := Lib.hid hxk
      clear hxk
      go_wp2
      go_quiet (fail)
      go_wp2
      · rename_i hw
        have hv : (fun o => decide (o = (⟨a, b, c'⟩ : T3))) (⟨x0, x1, x2⟩ : T3) = true := by simp_all
        go_ret
        exact ⟨_, rfl, by rw [any_true HX.out hv]; simp, below_drewN hE0 _⟩
      · rename_i hw
        have hv : (fun o => !decide (o = (⟨a, b, c'⟩ : T3))) (⟨x0, x1, x2⟩ : T3) = true := by simp; omega
        exact ⟨⟨k + 1, by omega, by go_num, HA.out.step HX.out hv, below_drewN hE _⟩, by simp [intOf]; omega⟩
    · obtain rfl : k = xs.length := by omega
      have hav : xs.any (fun o => decide (o = (⟨a, b, c'⟩ : T3))) = false := by
        have := HA.out.all
        rw [List.any_eq_false]
        intro x hx
        simpa using List.all_eq_true.1 this x hx
      have HV := Lib.hid hav
      clear hav
      go_wp2
      go_ret
      exact ⟨_, rfl, by rw [HV.out]; rfl, hE0⟩

theorem containsOp_c (x : T3) (xs : List T3) (S : Nat → Prop) (A : Option Addr) (c : Nat) (w : World) (hx : Ops S w A xs) (hn : xs.length ≤ 1048576) :
    Calls Tryd.prog 109 #[.slice A xs.length c, .agg #[.int .i64 x.a, .int .i64 x.b, .int .i64 x.c]] w fun e w' => e = .returned (.bool (decide (x ∈ xs))) ∧ Ext w w' := by
  have hal : xs.any (fun o => decide (o = x)) = decide (x ∈ xs) := by
    rw [Bool.eq_iff_iff]
    simp
  rw [← hal]
  have HL := Lib.hid hal
  clear hal
  go_enter Tryd.func109, Tryd.ntmps109
  go_wp2_with (go_at_call 123; refine (indexOp_c x xs S A c _ (hx.ext (by (repeat' (first | (with_reducible exact Below.refl _ _) | (with_reducible refine Below.mono (by assumption) ?_) | (with_reducible refine Below.trans ?_ (Below.mono (by assumption) ?_)) | (with_reducible refine Below.alloc ?_ ?_ _) | (with_reducible refine Below.drew ?_) | (with_reducible refine below_drewN ?_ _) | (with_reducible refine Below.setCell ?_ ?_ _) | (simp only [World.size_alloc, World.size_setCell, World.size_drew, size_drewN]; omega) | omega)))) hn).mono ?_; rintro e w1 ⟨r, rfl, hr, hb⟩; have HR := Lib.hid hr; clear hr)
  go_ret
  exact ⟨ret_bool HR.out, by (repeat' (first | (with_reducible exact Below.refl _ _) | (with_reducible refine Below.mono (by assumption) ?_) | (with_reducible refine Below.trans ?_ (Below.mono (by assumption) ?_)) | (with_reducible refine Below.alloc ?_ ?_ _) | (with_reducible refine Below.drew ?_) | (with_reducible refine below_drewN ?_ _) | (with_reducible refine Below.setCell ?_ ?_ _) | (simp only [World.size_alloc, World.size_setCell, World.size_drew, size_drewN]; omega) | omega))⟩

theorem wrN_cases (h : List TxnT) (key val : Int) : (wrN h key val = -1 ∧ lastv h key val = false) ∨ ∃ (k : Nat) (t : TxnT), h[k]? = some t ∧ wrN h key val = k ∧ lastv h key val = decide ((⟨2, key, val⟩ : T3) ∈ lwsTo t.ops 3) := by
  rcases wrN_range h key val with e | ⟨k, hk, e⟩
  · left; exact ⟨e, by unfold lastv; rw [e]; rfl⟩
  · right
    refine ⟨k, h[k], List.getElem?_eq_getElem hk, e, ?_⟩
    unfold lastv
    rw [e]
    simp [List.getElem?_eq_getElem hk]

set_option maxHeartbeats 2000000 in
theorem implLastValue_c (h : List TxnT) (S : Nat → Prop) (A : Option Addr) (c : Nat) (key val : Int) (w : World) (hx : Txns S w A h) (hsm : Small h) :
    Calls Tryd.prog 95 #[.slice A h.length c, .int .i64 key, .int .i64 val] w fun e w' => e = .returned (.bool (histv h && lastv h key val)) ∧ Ext w w' := by
  have C := fun w hx => implWriterOf_c h S A c key val w hx hsm
  cases hv : histv h with
  | false =>
    rw [hv] at C
    have C := Lib.hid C
    go_enter Tryd.func95, Tryd.ntmps95
    go_wp2_with (go_at_call 94; refine (C.out _ (hx.ext (by (repeat' (first | (with_reducible exact Below.refl _ _) | (with_reducible refine Below.mono (by assumption) ?_) | (with_reducible refine Below.trans ?_ (Below.mono (by assumption) ?_)) | (with_reducible refine Below.alloc ?_ ?_ _) | (with_reducible refine Below.drew ?_) | (with_reducible refine below_drewN ?_ _) | (with_reducible refine Below.setCell ?_ ?_ _) | (simp only [World.size_alloc, World.size_setCell, World.size_drew, size_drewN]; omega) | omega))))).mono ?_; rintro e w1 ⟨rfl, hb⟩; obtain ⟨hc, hf, hz, hs⟩ := bcell hb; (try simp only [World.size_alloc, World.size_setCell, World.size_drew, size_drewN] at hs); (first | have l0 := Nat.lt_of_lt_of_le l0 (show _ ≤ w1.heap.size by omega) | have l0 : w.heap.size < w1.heap.size := (by omega) | skip); (try have l0e := Nat.le_of_lt l0); (try have l0f := Nat.le_add_right_of_le (k := 1) l0e); (try have l1 := Nat.lt_of_lt_of_le l1 (show _ ≤ w1.heap.size by omega)); (try have l1e := Nat.le_of_lt l1); (try have l1f := Nat.le_add_right_of_le (k := 1) l1e); (try have l2 := Nat.lt_of_lt_of_le l2 (show _ ≤ w1.heap.size by omega)); (try have l2e := Nat.le_of_lt l2); (try have l2f := Nat.le_add_right_of_le (k := 1) l2e); (try have l3 := Nat.lt_of_lt_of_le l3 (show _ ≤ w1.heap.size by omega)); (try have l3e := Nat.le_of_lt l3); (try have l3f := Nat.le_add_right_of_le (k := 1) l3e))
    all_goals go_ret
    all_goals exact ⟨rfl, by (repeat' (first | (with_reducible exact Below.refl _ _) | (with_reducible refine Below.mono (by assumption) ?_) | (with_reducible refine Below.trans ?_ (Below.mono (by assumption) ?_)) | (with_reducible refine Below.alloc ?_ ?_ _) | (with_reducible refine Below.drew ?_) | (with_reducible refine below_drewN ?_ _) | (with_reducible refine Below.setCell ?_ ?_ _) | (simp only [World.size_alloc, World.size_setCell, World.size_drew, size_drewN]; omega) | omega))⟩
  | true =>
    rw [hv, if_pos rfl] at C
    rcases wrN_cases h key val with ⟨e1, e2⟩ | ⟨k, t, hk, e1, e2⟩
    · rw [e1] at C
      rw [e2]
      have C := Lib.hid C
      clear e1 e2
      go_enter Tryd.func95, Tryd.ntmps95
      go_wp2_with (go_at_call 94; refine (C.out _ (hx.ext (by (repeat' (first | (with_reducible exact Below.refl _ _) | (with_reducible refine Below.mono (by assumption) ?_) | (with_reducible refine Below.trans ?_ (Below.mono (by assumption) ?_)) | (with_reducible refine Below.alloc ?_ ?_ _) | (with_reducible refine Below.drew ?_) | (with_reducible refine below_drewN ?_ _) | (with_reducible refine Below.setCell ?_ ?_ _) | (simp only [World.size_alloc, World.size_setCell, World.size_drew, size_drewN]; omega) | omega))))).mono ?_; rintro e w1 ⟨rfl, hb⟩; obtain ⟨hc, hf, hz, hs⟩ := bcell hb; (try simp only [World.size_alloc, World.size_setCell, World.size_drew, size_drewN] at hs); (first | have l0 := Nat.lt_of_lt_of_le l0 (show _ ≤ w1.heap.size by omega) | have l0 : w.heap.size < w1.heap.size := (by omega) | skip); (try have l0e := Nat.le_of_lt l0); (try have l0f := Nat.le_add_right_of_le (k := 1) l0e); (try have l1 := Nat.lt_of_lt_of_le l1 (show _ ≤ w1.heap.size by omega)); (try have l1e := Nat.le_of_lt l1); (try have l1f := Nat.le_add_right_of_le (k := 1) l1e); (try have l2 := Nat.lt_of_lt_of_le l2 (show _ ≤ w1.heap.size by omega)); (try have l2e := Nat.le_of_lt l2); (try have l2f := Nat.le_add_right_of_le (k := 1) l2e); (try have l3 := Nat.lt_of_lt_of_le l3 (show _ ≤ w1.heap.size by omega)); (try have l3e := Nat.le_of_lt l3); (try have l3f := Nat.le_add_right_of_le (k := 1) l3e))
      all_goals go_ret
      all_goals exact ⟨rfl, by (repeat' (first | (with_reducible exact Below.refl _ _) | (with_reducible refine Below.mono (by assumption) ?_) | (with_reducible refine Below.trans ?_ (Below.mono (by assumption) ?_)) | (with_reducible refine Below.alloc ?_ ?_ _) | (with_reducible refine Below.drew ?_) | (with_reducible refine below_drewN ?_ _) | (with_reducible refine Below.setCell ?_ ?_ _) | (simp only [World.size_alloc, World.size_setCell, World.size_drew, size_drewN]; omega) | omega))⟩
    · rw [e1] at C
      rw [e2]
      have C := Lib.hid C
      clear e1 e2
      have hlt : k < h.length := (List.getElem?_eq_some_iff.1 hk).1
      obtain ⟨s, ops, d, A', cap, b, off, hxk, rfl, _, hb0, hO, c0, c1, c2⟩ := hx.at_ hlt
      rw [hk] at hxk
      cases hxk
      have hon := hsm.ops hk
      simp only at hon
      clear hk
      go_enter Tryd.func95, Tryd.ntmps95
      go_wp2_with (fail)
      go_at_call 94
      refine (C.out _ (hx.ext (by (repeat' (first | (with_reducible exact Below.refl _ _) | (with_reducible refine Below.mono (by assumption) ?_) | (with_reducible refine Below.trans ?_ (Below.mono (by assumption) ?_)) | (with_reducible refine Below.alloc ?_ ?_ _) | (with_reducible refine Below.drew ?_) | (with_reducible refine below_drewN ?_ _) | (with_reducible refine Below.setCell ?_ ?_ _) | (simp only [World.size_alloc, World.size_setCell, World.size_drew, size_drewN]; omega) | omega))))).mono ?_
      rintro e w1 ⟨rfl, hb⟩
      obtain ⟨hc, hf, hz, hs⟩ := bcell hb
      (try simp only [World.size_alloc, World.size_setCell, World.size_drew, size_drewN] at hs); (first | have l0 := Nat.lt_of_lt_of_le l0 (show _ ≤ w1.heap.size by omega) | have l0 : w.heap.size < w1.heap.size := (by omega) | skip); (try have l0e := Nat.le_of_lt l0); (try have l0f := Nat.le_add_right_of_le (k := 1) l0e); (try have l1 := Nat.lt_of_lt_of_le l1 (show _ ≤ w1.heap.size by omega)); (try have l1e := Nat.le_of_lt l1); (try have l1f := Nat.le_add_right_of_le (k := 1) l1e); (try have l2 := Nat.lt_of_lt_of_le l2 (show _ ≤ w1.heap.size by omega)); (try have l2e := Nat.le_of_lt l2); (try have l2f := Nat.le_add_right_of_le (k := 1) l2e); (try have l3 := Nat.lt_of_lt_of_le l3 (show _ ≤ w1.heap.size by omega)); (try have l3e := Nat.le_of_lt l3); (try have l3f := Nat.le_add_right_of_le (k := 1) l3e)
      have f0 := hb.keep hb0 c0
      have f1 := hb.keep hb0 c1
      have f2 := hb.keep hb0 c2
      have e1 := hb
      have hll := lwsTo_len ops 3
      go_wp2_with (fail)
      go_at_call 53
      refine (lastWrites_c ⟨s, ops, d⟩ _ _ _ _ (hO.ext e1) hon).mono ?_
      rintro e w2 ⟨A3, c3, rfl, hW, hf3, hb⟩
      obtain ⟨hc, hf, hz, hs⟩ := bcell hb
      (try simp only [World.size_alloc, World.size_setCell, World.size_drew, size_drewN] at hs); (first | have l0 := Nat.lt_of_lt_of_le l0 (show _ ≤ w2.heap.size by omega) | have l0 : w.heap.size < w2.heap.size := (by omega) | skip); (try have l0e := Nat.le_of_lt l0); (try have l0f := Nat.le_add_right_of_le (k := 1) l0e); (try have l1 := Nat.lt_of_lt_of_le l1 (show _ ≤ w2.heap.size by omega)); (try have l1e := Nat.le_of_lt l1); (try have l1f := Nat.le_add_right_of_le (k := 1) l1e); (try have l2 := Nat.lt_of_lt_of_le l2 (show _ ≤ w2.heap.size by omega)); (try have l2e := Nat.le_of_lt l2); (try have l2f := Nat.le_add_right_of_le (k := 1) l2e); (try have l3 := Nat.lt_of_lt_of_le l3 (show _ ≤ w2.heap.size by omega)); (try have l3e := Nat.le_of_lt l3); (try have l3f := Nat.le_add_right_of_le (k := 1) l3e)
      have e2 := e1.tr hb
      generalize hL : lwsTo ops 3 = L at hW hll
      have HL := Lib.hid hL
      clear hL
      go_wp2_with (fail)
      go_at_call 109
      refine (containsOp_c ⟨2, key, val⟩ L _ _ _ _ hW (by omega)).mono ?_
      rintro e w3 ⟨rfl, hb⟩
      obtain ⟨hc, hf, hz, hs⟩ := bcell hb
      (try simp only [World.size_alloc, World.size_setCell, World.size_drew, size_drewN] at hs); (first | have l0 := Nat.lt_of_lt_of_le l0 (show _ ≤ w3.heap.size by omega) | have l0 : w.heap.size < w3.heap.size := (by omega) | skip); (try have l0e := Nat.le_of_lt l0); (try have l0f := Nat.le_add_right_of_le (k := 1) l0e); (try have l1 := Nat.lt_of_lt_of_le l1 (show _ ≤ w3.heap.size by omega)); (try have l1e := Nat.le_of_lt l1); (try have l1f := Nat.le_add_right_of_le (k := 1) l1e); (try have l2 := Nat.lt_of_lt_of_le l2 (show _ ≤ w3.heap.size by omega)); (try have l2e := Nat.le_of_lt l2); (try have l2f := Nat.le_add_right_of_le (k := 1) l2e); (try have l3 := Nat.lt_of_lt_of_le l3 (show _ ≤ w3.heap.size by omega)); (try have l3e := Nat.le_of_lt l3); (try have l3f := Nat.le_add_right_of_le (k := 1) l3e)
      go_wp2
      go_ret
      have hL := HL.out
      subst hL
      exact ⟨rfl, e2.tr hb⟩

theorem lws_spec_c (t : TxnT) (S : Nat → Prop) (A : Option Addr) (c : Nat) (w : World) (hx : Ops S w A t.ops) (hn : t.ops.length ≤ 1048576) (hv : txnv t = true) :
    Calls Tryd.prog 85 #[.agg #[.int .i64 t.sess, .slice A t.ops.length c, .bool t.done]] w (Fresh (lwsTo t.ops 3) w) := specLastWrites_ok t S A c w hx hn hv
set_option maxHeartbeats 2000000 in
theorem l5Last_c (h : List TxnT) (S : Nat → Prop) (A : Option Addr) (c : Nat) (key val : Int) (w : World) (hx : Txns S w A h) (hsm : Small h) (hv : histv h = true) :
    Calls Tryd.prog 97 #[.slice A h.length c, .int .i64 key, .int .i64 val] w fun e w' => e = .returned (.bool (lastv h key val)) ∧ Ext w w' := by
  have C := fun w hx => l5Writer_c h S A c key val w hx hsm
  rcases wrN_cases h key val with ⟨e1, e2⟩ | ⟨k, t, hk, e1, e2⟩
  · rw [e1] at C
    rw [e2]
    have C := Lib.hid C
    clear e1 e2
    go_enter Tryd.func97, Tryd.ntmps97
    go_wp2_with (go_at_call 96; refine (C.out _ (hx.ext (by (repeat' (first | (with_reducible exact Below.refl _ _) | (with_reducible refine Below.mono (by assumption) ?_) | (with_reducible refine Below.trans ?_ (Below.mono (by assumption) ?_)) | (with_reducible refine Below.alloc ?_ ?_ _) | (with_reducible refine Below.drew ?_) | (with_reducible refine below_drewN ?_ _) | (with_reducible refine Below.setCell ?_ ?_ _) | (simp only [World.size_alloc, World.size_setCell, World.size_drew, size_drewN]; omega) | omega))))).mono ?_; rintro e w1 ⟨rfl, hb⟩; obtain ⟨hc, hf, hz, hs⟩ := bcell hb; (try simp only [World.size_alloc, World.size_setCell, World.size_drew, size_drewN] at hs); (first | have l0 := Nat.lt_of_lt_of_le l0 (show _ ≤ w1.heap.size by omega) | have l0 : w.heap.size < w1.heap.size := (by omega) | skip); (try have l0e := Nat.le_of_lt l0); (try have l0f := Nat.le_add_right_of_le (k := 1) l0e); (try have l1 := Nat.lt_of_lt_of_le l1 (show _ ≤ w1.heap.size by omega)); (try have l1e := Nat.le_of_lt l1); (try have l1f := Nat.le_add_right_of_le (k := 1) l1e); (try have l2 := Nat.lt_of_lt_of_le l2 (show _ ≤ w1.heap.size by omega)); (try have l2e := Nat.le_of_lt l2); (try have l2f := Nat.le_add_right_of_le (k := 1) l2e); (try have l3 := Nat.lt_of_lt_of_le l3 (show _ ≤ w1.heap.size by omega)); (try have l3e := Nat.le_of_lt l3); (try have l3f := Nat.le_add_right_of_le (k := 1) l3e))
    all_goals go_ret
    all_goals exact ⟨rfl, by (repeat' (first | (with_reducible exact Below.refl _ _) | (with_reducible refine Below.mono (by assumption) ?_) | (with_reducible refine Below.trans ?_ (Below.mono (by assumption) ?_)) | (with_reducible refine Below.alloc ?_ ?_ _) | (with_reducible refine Below.drew ?_) | (with_reducible refine below_drewN ?_ _) | (with_reducible refine Below.setCell ?_ ?_ _) | (simp only [World.size_alloc, World.size_setCell, World.size_drew, size_drewN]; omega) | omega))⟩
  · rw [e1] at C
    have C := Lib.hid C
    clear e1
    have hlt : k < h.length := (List.getElem?_eq_some_iff.1 hk).1
    have htv : txnv t = true := by
      rw [histv_eq] at hv
      simp only [Bool.and_eq_true] at hv
      exact List.all_eq_true.1 hv.1.2 t (List.mem_of_getElem? hk)
    obtain ⟨s, ops, d, A', cap, b, off, hxk, rfl, _, hb0, hO, c0, c1, c2⟩ := hx.at_ hlt
    rw [hk] at hxk
    cases hxk
    have hon := hsm.ops hk
    simp only at hon e2
    clear hk hv
    have hll := lwsTo_len ops 3
    have CW := fun S A c w hx => lws_spec_c ⟨s, ops, d⟩ S A c w hx hon htv
    have hkey := fun (o : T3) (ho : o ∈ lwsTo ops 3) (hb : o.b = key) => lws_key (val := val) ho hb
    have hno := lws_nokey (ops := ops) (n := 3) (key := key) (val := val)
    simp only at CW
    generalize lwsTo ops 3 = L at CW hll hkey hno e2
    have CW := Lib.hid CW
    have HK := Lib.hid hkey
    have HN := Lib.hid hno
    have E2 := Lib.hid e2
    clear hkey hno e2
    go_enter Tryd.func97, Tryd.ntmps97
    go_wp2_with (fail)
    go_at_call 96
    refine (C.out _ (hx.ext (by (repeat' (first | (with_reducible exact Below.refl _ _) | (with_reducible refine Below.mono (by assumption) ?_) | (with_reducible refine Below.trans ?_ (Below.mono (by assumption) ?_)) | (with_reducible refine Below.alloc ?_ ?_ _) | (with_reducible refine Below.drew ?_) | (with_reducible refine below_drewN ?_ _) | (with_reducible refine Below.setCell ?_ ?_ _) | (simp only [World.size_alloc, World.size_setCell, World.size_drew, size_drewN]; omega) | omega))))).mono ?_
    rintro e w1 ⟨rfl, hb⟩
    obtain ⟨hc, hf, hz, hs⟩ := bcell hb
    (try simp only [World.size_alloc, World.size_setCell, World.size_drew, size_drewN] at hs); (first | have l0 := Nat.lt_of_lt_of_le l0 (show _ ≤ w1.heap.size by omega) | have l0 : w.heap.size < w1.heap.size := (by omega) | skip); (try have l0e := Nat.le_of_lt l0); (try have l0f := Nat.le_add_right_of_le (k := 1) l0e); (try have l1 := Nat.lt_of_lt_of_le l1 (show _ ≤ w1.heap.size by omega)); (try have l1e := Nat.le_of_lt l1); (try have l1f := Nat.le_add_right_of_le (k := 1) l1e); (try have l2 := Nat.lt_of_lt_of_le l2 (show _ ≤ w1.heap.size by omega)); (try have l2e := Nat.le_of_lt l2); (try have l2f := Nat.le_add_right_of_le (k := 1) l2e); (try have l3 := Nat.lt_of_lt_of_le l3 (show _ ≤ w1.heap.size by omega)); (try have l3e := Nat.le_of_lt l3); (try have l3f := Nat.le_add_right_of_le (k := 1) l3e)
    have f0 := hb.keep hb0 c0
    have f1 := hb.keep hb0 c1
    have f2 := hb.keep hb0 c2
    have e1 := hb
    go_wp2_with (fail)
    go_at_call 85
    refine (CW.out _ _ _ _ (hO.ext e1)).mono ?_
    rintro e w2 ⟨A3, c3, rfl, hW, hf3, hb⟩
    obtain ⟨hc, hf, hz, hs⟩ := bcell hb
    (try simp only [World.size_alloc, World.size_setCell, World.size_drew, size_drewN] at hs); (first | have l0 := Nat.lt_of_lt_of_le l0 (show _ ≤ w2.heap.size by omega) | have l0 : w.heap.size < w2.heap.size := (by omega) | skip); (try have l0e := Nat.le_of_lt l0); (try have l0f := Nat.le_add_right_of_le (k := 1) l0e); (try have l1 := Nat.lt_of_lt_of_le l1 (show _ ≤ w2.heap.size by omega)); (try have l1e := Nat.le_of_lt l1); (try have l1f := Nat.le_add_right_of_le (k := 1) l1e); (try have l2 := Nat.lt_of_lt_of_le l2 (show _ ≤ w2.heap.size by omega)); (try have l2e := Nat.le_of_lt l2); (try have l2f := Nat.le_add_right_of_le (k := 1) l2e); (try have l3 := Nat.lt_of_lt_of_le l3 (show _ ≤ w2.heap.size by omega)); (try have l3e := Nat.le_of_lt l3); (try have l3f := Nat.le_add_right_of_le (k := 1) l3e)
    have e2 := e1.tr hb
    go_wp2
    go_loopw [9] (fun i wr => ∃ j : Nat, j ≤ L.length ∧ i = .int .i64 j ∧ AllTo (fun o => !decide (o.b = key)) L j ∧ Ext w2 wr) (fun i _ => L.length - (intOf i).toNat)
    case atStart => exact ⟨0, Nat.zero_le _, rfl, AllTo.zero, Below.refl _ _⟩
    case round =>
      obtain ⟨j, hj, rfl, hall, hE⟩ := hrel
      have HA := Lib.hid hall
      clear hall
      by_cases hlt2 : j < L.length
      · obtain ⟨x0, x1, x2, b', off', hyk, rfl, _, hb1, d0, d1, d2⟩ := (hW.ext hE).at_ hlt2
        have HX := Lib.hid hyk
        clear hyk
        go_wp2
        · rename_i hw
          have hk1 : x1 = key := by simpa using hw
          have hkk := HK.out _ (List.mem_of_getElem? HX.out) hk1
          go_ret
          exact ⟨ret_bool (by rw [E2.out, Bool.eq_iff_iff]; simp [hkk]), e2.tr hE⟩
        · rename_i hw
          have hv : (fun o : T3 => !decide (o.b = key)) (⟨x0, x1, x2⟩ : T3) = true := by simpa using hw
          exact ⟨⟨j + 1, by omega, by go_num, HA.out.step HX.out hv, hE⟩, by simp [intOf]; omega⟩
      · obtain rfl : j = L.length := by omega
        have hav := HA.out.all
        have HV := Lib.hid hav
        clear hav
        go_wp2
        go_ret
        exact ⟨ret_bool (by rw [E2.out]; have := HN.out (fun o ho hb => by have := List.all_eq_true.1 HV.out o ho; simp [hb] at this); simp [this]), e2.tr hE⟩

end Go.Proofs.YtdgfipoibnjhaaaDoor
