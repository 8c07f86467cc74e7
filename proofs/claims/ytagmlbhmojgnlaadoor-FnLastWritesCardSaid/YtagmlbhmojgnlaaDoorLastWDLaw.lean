/-
  FnLastWrites: a drawn transaction: the program's answer is the reference's; the keys ascend; a transaction of the last writes alone has the same ones.
-/
import Derived.Test.YtagmlbhmojgnlaaDoorDrawHd
import Derived.Test.YtagmlbhmojgnlaaDoorLaid
import Derived.Test.YtagmlbhmojgnlaaDoorReads
import Derived.Test.YtagmlbhmojgnlaaDoorLastV
import Derived.Test.YtagmlbhmojgnlaaDoorSame
namespace Go.Proofs.YtagmlbhmojgnlaaDoor
set_option linter.unusedSimpArgs false
set_option linter.unusedVariables false
set_option maxRecDepth 100000
open Go.ChangeShapes Go.WideShapes Go.ChangeAt Go.RowKit Go.Joins

theorem lastW_mem {ops : List T3} {key : Int} {n : Nat} {o : T3} (h : lastW ops key n = some o) : o ∈ ops := by
  induction n with
  | zero => cases h
  | succ n ih =>
    unfold lastW at h
    split at h
    · rename_i x hx
      split at h
      · cases h
        exact List.mem_of_getElem? hx
      · exact ih h
    · exact ih h
theorem lws_ops {ops : List T3} {n : Nat} {o : T3} (h : o ∈ lwsTo ops n) : o ∈ ops := lastW_mem (lws_mem h).2
theorem lws_below {ops : List T3} {n : Nat} {o : T3} (h : o ∈ lwsTo ops n) : o.b < n := by
  induction n with
  | zero => cases h
  | succ n ih =>
    rcases List.mem_append.1 h with h | h
    · have := ih h
      omega
    · rw [Option.mem_toList] at h
      have := (lastW_ok h).2
      omega
theorem lws_asc {ops : List T3} (n : Nat) : ∀ (i : Nat) o, (lwsTo ops n)[i]? = some o → o.a = 2 ∧ (0 < i → ∃ u, (lwsTo ops n)[i - 1]? = some u ∧ u.b < o.b) := by
  induction n with
  | zero => intro i o h; simp [lwsTo] at h
  | succ n ih =>
    intro i o hi
    refine ⟨(lws_mem (List.mem_of_getElem? hi)).1, fun h0 => ?_⟩
    unfold lwsTo at hi ⊢
    rcases Nat.lt_or_ge i (lwsTo ops n).length with hlt | hge
    · rw [List.getElem?_append_left hlt] at hi
      obtain ⟨u, a, b⟩ := (ih i o hi).2 h0
      exact ⟨u, by rw [List.getElem?_append_left (by omega)]; exact a, b⟩
    · rw [List.getElem?_append_right hge] at hi
      have hm := List.mem_of_getElem? hi
      rw [Option.mem_toList] at hm
      have hb := (lastW_ok hm).2
      have hz : i - (lwsTo ops n).length = 0 := by
        rw [hm] at hi
        cases hx : i - (lwsTo ops n).length with
        | zero => rfl
        | succ m => rw [hx] at hi; simp at hi
      obtain ⟨u, hu⟩ : ∃ u, (lwsTo ops n)[i - 1]? = some u := ⟨_, List.getElem?_eq_getElem (by omega)⟩
      have := lws_below (List.mem_of_getElem? hu)
      exact ⟨u, by rw [List.getElem?_append_left (by omega)]; exact hu, by omega⟩
theorem lastW_pre (xs ys : List T3) (key : Int) : ∀ n, n ≤ xs.length → lastW (xs ++ ys) key n = lastW xs key n := by
  intro n
  induction n with
  | zero => intro _; rfl
  | succ n ih =>
    intro hn
    unfold lastW
    rw [List.getElem?_append_left (by omega)]
    obtain ⟨o, ho⟩ : ∃ o, xs[n]? = some o := ⟨_, List.getElem?_eq_getElem (by omega)⟩
    rw [ho]
    simp only
    rw [ih (by omega)]
theorem lastW_app (xs : List T3) (o : T3) (key : Int) : lastW (xs ++ [o]) key (xs ++ [o]).length = if o.a = 2 ∧ o.b = key then some o else lastW xs key xs.length := by
  rw [List.length_append, List.length_singleton, lastW_succ (o := o) (by simp), lastW_pre xs [o] key _ (Nat.le_refl _)]
theorem lastW_lws (ops : List T3) (n : Nat) (k : Nat) : lastW (lwsTo ops n) k (lwsTo ops n).length = if k < n then lastW ops k ops.length else none := by
  induction n with
  | zero => simp [lwsTo, lastW]
  | succ n ih =>
    cases hq : lastW ops n ops.length with
    | none =>
      rw [lwsTo_none hq, ih]
      by_cases h1 : k < n
      · rw [if_pos h1, if_pos (by omega)]
      · rw [if_neg h1]
        by_cases h2 : k = n
        · subst h2
          rw [if_pos (by omega), hq]
        · rw [if_neg (by omega)]
    | some o =>
      obtain ⟨a1, a2⟩ := lastW_ok hq
      rw [lwsTo_some hq, lastW_app, ih]
      by_cases h2 : k = n
      · subst h2
        rw [if_pos ⟨a1, a2⟩, if_pos (by omega), hq]
      · rw [if_neg (fun h => h2 (by omega))]
        by_cases h1 : k < n
        · rw [if_pos h1, if_pos (by omega)]
        · rw [if_neg h1, if_neg (by omega)]
theorem lws_lws (ops : List T3) (n : Nat) : ∀ m, m ≤ n → lwsTo (lwsTo ops n) m = lwsTo ops m := by
  intro m
  induction m with
  | zero => intro _; rfl
  | succ m ih =>
    intro hm
    have h1 := lastW_lws ops n m
    rw [if_pos (by omega)] at h1
    have e1 : lwsTo (lwsTo ops n) (m + 1) = lwsTo (lwsTo ops n) m ++ (lastW (lwsTo ops n) m (lwsTo ops n).length).toList := rfl
    have e2 : lwsTo ops (m + 1) = lwsTo ops m ++ (lastW ops m ops.length).toList := rfl
    rw [e1, e2, h1, ih (by omega)]
theorem lws_valid {t : TxnT} (hv : txnv t = true) : txnv ⟨0, lwsTo t.ops 3, false⟩ = true := by
  simp only [txnv, Bool.and_eq_true, decide_eq_true_eq, List.all_eq_true] at hv ⊢
  refine ⟨fun o ho => hv.1 o (lws_ops ho), by decide, ?_⟩
  have := lwsTo_len t.ops 3
  omega
theorem lwL (t : TxnT) : (if txnv ⟨0, (if txnv t = true then lwsTo t.ops 3 else []), false⟩ = true then lwsTo (if txnv t = true then lwsTo t.ops 3 else []) 3 else []) = (if txnv t = true then lwsTo t.ops 3 else []) := by
  cases hv : txnv t with
  | true => rw [if_pos rfl, if_pos (lws_valid hv), lws_lws _ 3 3 (Nat.le_refl _)]
  | false =>
    have e : (if (false = true) then lwsTo t.ops 3 else []) = [] := if_neg (by simp)
    rw [e]
    split <;> rfl
theorem specLW_c (t : TxnT) (S : Nat → Prop) (A : Option Addr) (c : Nat) (w : World) (hx : Ops S w A t.ops) (hn : t.ops.length ≤ 1048576) :
    Calls Tryd.prog 23 #[.agg #[.int .i64 t.sess, .slice A t.ops.length c, .bool t.done]] w (Fresh (if txnv t = true then lwsTo t.ops 3 else []) w) := by
  cases hv : txnv t with
  | false => rw [if_neg (by simp)]; exact specLastWrites_bad t S A c w hx hn hv
  | true => rw [if_pos rfl]; exact specLastWrites_ok t S A c w hx hn hv
set_option maxHeartbeats 4000000 in
theorem FnLastWrites_c (xs : List Int) (A : Option Addr) (c : Nat) (w : World) (hx : Byts Any w A xs) (wf : Law.wfL Law.wfU8 xs) (hc : xs.length ≤ c) :
    Calls Tryd.prog 5 #[.slice A xs.length c] w fun e w' => e = .returned (.bool true) ∧ Ext w w' := by
  by_cases hl : 1048576 < xs.length
  · go_enter Tryd.func5, Tryd.ntmps5
    go_wp2
    go_ret
    exact ⟨rfl, by (repeat' (first | (with_reducible exact Below.refl _ _) | (with_reducible refine Below.mono (by assumption) ?_) | (with_reducible refine Below.trans ?_ (Below.mono (by assumption) ?_)) | (with_reducible refine Below.alloc ?_ ?_ _) | (with_reducible refine Below.drew ?_) | (with_reducible refine below_drewN ?_ _) | (with_reducible refine Below.setCell ?_ ?_ _) | (simp only [World.size_alloc, World.size_setCell, World.size_drew, size_drewN]; omega) | omega))⟩
  have HW : Hid (∀ x ∈ xs, 0 ≤ x ∧ x ≤ 255) := Lib.hid wf.2
  go_enter Tryd.func5, Tryd.ntmps5
  go_wp2_with (fail)
  go_at_call 20
  refine (DrawLastWrites_c xs A c _ (hx.ext (by (repeat' (first | (with_reducible exact Below.refl _ _) | (with_reducible refine Below.mono (by assumption) ?_) | (with_reducible refine Below.trans ?_ (Below.mono (by assumption) ?_)) | (with_reducible refine Below.alloc ?_ ?_ _) | (with_reducible refine Below.drew ?_) | (with_reducible refine below_drewN ?_ _) | (with_reducible refine Below.setCell ?_ ?_ _) | (simp only [World.size_alloc, World.size_setCell, World.size_drew, size_drewN]; omega) | omega)))) HW.out hc).mono ?_
  rintro e w1 ⟨t, A2, c2, rfl, hx2, hs2, hl2, hsm2, hb⟩
  obtain ⟨hc, hf, hz, hs⟩ := bcell hb
  (try simp only [World.size_alloc, World.size_setCell, World.size_drew, size_drewN] at hs); (first | have l0 := Nat.lt_of_lt_of_le l0 (show _ ≤ w1.heap.size by omega) | have l0 : w.heap.size < w1.heap.size := (by omega) | skip); (try have l0e := Nat.le_of_lt l0); (try have l0f := Nat.le_add_right_of_le (k := 1) l0e); (try have l1 := Nat.lt_of_lt_of_le l1 (show _ ≤ w1.heap.size by omega)); (try have l1e := Nat.le_of_lt l1); (try have l1f := Nat.le_add_right_of_le (k := 1) l1e); (try have l2 := Nat.lt_of_lt_of_le l2 (show _ ≤ w1.heap.size by omega)); (try have l2e := Nat.le_of_lt l2); (try have l2f := Nat.le_add_right_of_le (k := 1) l2e); (try have l3 := Nat.lt_of_lt_of_le l3 (show _ ≤ w1.heap.size by omega)); (try have l3e := Nat.le_of_lt l3); (try have l3f := Nat.le_add_right_of_le (k := 1) l3e)
  have E1 := Lib.hid (show Ext w w1 from hb)
  have hon : t.ops.length ≤ 1048576 := by omega
  obtain ⟨s, ops, d⟩ := t
  simp only at hx2 hl2 hsm2 hs2 hon
  have C := fun w hx => wrap_lastWrites_c ⟨s, ops, d⟩ Any A2 c2 w hx hon
  have D := fun w hx => specLW_c ⟨s, ops, d⟩ Any A2 c2 w hx hon
  have hLL := lwL ⟨s, ops, d⟩
  have hL3 : (if txnv ⟨s, ops, d⟩ = true then lwsTo ops 3 else []).length ≤ 3 := by
    have := lwsTo_len ops 3
    split
    · exact this
    · simp
  have F : ∀ (i : Nat) o, (if txnv ⟨s, ops, d⟩ = true then lwsTo ops 3 else [])[i]? = some o → o.a = 2 ∧ (0 < i → ∃ u, (if txnv ⟨s, ops, d⟩ = true then lwsTo ops 3 else [])[i - 1]? = some u ∧ u.b < o.b) := by
    intro i o hi
    split at hi
    · rename_i hv
      rw [if_pos hv]
      exact lws_asc 3 i o hi
    · simp at hi
  simp only at C D hLL
  generalize (if txnv ⟨s, ops, d⟩ = true then lwsTo ops 3 else []) = L at C D hLL hL3 F
  have HC := Lib.hid C
  have HD := Lib.hid D
  have HF := Lib.hid F
  have HLL := Lib.hid hLL
  have HX := Lib.hid (show Ops Any w1 A2 ops from SlAt.mono hx2 (fun _ _ _ => trivial) (fun _ _ h => h))
  clear C D F hLL hx2 hb hc hf hz
  go_wp2_with (fail)
  go_at_call 21
  refine (HC.out _ (HX.out.ext (by (repeat' (first | (with_reducible exact Below.refl _ _) | (with_reducible refine Below.mono (by assumption) ?_) | (with_reducible refine Below.trans ?_ (Below.mono (by assumption) ?_)) | (with_reducible refine Below.alloc ?_ ?_ _) | (with_reducible refine Below.drew ?_) | (with_reducible refine below_drewN ?_ _) | (with_reducible refine Below.setCell ?_ ?_ _) | (simp only [World.size_alloc, World.size_setCell, World.size_drew, size_drewN]; omega) | omega))))).mono ?_
  rintro e w2 ⟨A3, c3, rfl, hI3, hf3, hb⟩
  obtain ⟨hc, hf, hz, hs⟩ := bcell hb
  (try simp only [World.size_alloc, World.size_setCell, World.size_drew, size_drewN] at hs); (first | have l0 := Nat.lt_of_lt_of_le l0 (show _ ≤ w2.heap.size by omega) | have l0 : w.heap.size < w2.heap.size := (by omega) | skip); (try have l0e := Nat.le_of_lt l0); (try have l0f := Nat.le_add_right_of_le (k := 1) l0e); (try have l1 := Nat.lt_of_lt_of_le l1 (show _ ≤ w2.heap.size by omega)); (try have l1e := Nat.le_of_lt l1); (try have l1f := Nat.le_add_right_of_le (k := 1) l1e); (try have l2 := Nat.lt_of_lt_of_le l2 (show _ ≤ w2.heap.size by omega)); (try have l2e := Nat.le_of_lt l2); (try have l2f := Nat.le_add_right_of_le (k := 1) l2e); (try have l3 := Nat.lt_of_lt_of_le l3 (show _ ≤ w2.heap.size by omega)); (try have l3e := Nat.le_of_lt l3); (try have l3f := Nat.le_add_right_of_le (k := 1) l3e)
  have E12 := Lib.hid (show Ext (w1.alloc (.cells #[.int .i64 s, .slice A2 ops.length c2, .bool d] 31)) w2 from hb)
  obtain ⟨q0, q1, q2⟩ := box3 E12.out
  have HI2 := Lib.hid hI3
  clear hb hc hf hz hf3 hI3
  go_wp2_with (fail)
  go_at_call 23
  refine (HD.out _ (HX.out.ext (Ext.tr (by (repeat' (first | (with_reducible exact Below.refl _ _) | (with_reducible refine Below.mono (by assumption) ?_) | (with_reducible refine Below.trans ?_ (Below.mono (by assumption) ?_)) | (with_reducible refine Below.alloc ?_ ?_ _) | (with_reducible refine Below.drew ?_) | (with_reducible refine below_drewN ?_ _) | (with_reducible refine Below.setCell ?_ ?_ _) | (simp only [World.size_alloc, World.size_setCell, World.size_drew, size_drewN]; omega) | omega))) E12.out))).mono ?_
  rintro e w3 ⟨A4, c4, rfl, hI4, hf4, hb⟩
  obtain ⟨hc, hf, hz, hs⟩ := bcell hb
  (try simp only [World.size_alloc, World.size_setCell, World.size_drew, size_drewN] at hs); (first | have l0 := Nat.lt_of_lt_of_le l0 (show _ ≤ w3.heap.size by omega) | have l0 : w.heap.size < w3.heap.size := (by omega) | skip); (try have l0e := Nat.le_of_lt l0); (try have l0f := Nat.le_add_right_of_le (k := 1) l0e); (try have l1 := Nat.lt_of_lt_of_le l1 (show _ ≤ w3.heap.size by omega)); (try have l1e := Nat.le_of_lt l1); (try have l1f := Nat.le_add_right_of_le (k := 1) l1e); (try have l2 := Nat.lt_of_lt_of_le l2 (show _ ≤ w3.heap.size by omega)); (try have l2e := Nat.le_of_lt l2); (try have l2f := Nat.le_add_right_of_le (k := 1) l2e); (try have l3 := Nat.lt_of_lt_of_le l3 (show _ ≤ w3.heap.size by omega)); (try have l3e := Nat.le_of_lt l3); (try have l3f := Nat.le_add_right_of_le (k := 1) l3e)
  have E13 := Lib.hid (E12.out.tr hb)
  have HI3 := Lib.hid (Ops.ext HI2.out hb)
  clear HC HD hb hc hf hz hf4 HI2 q0 q1 q2
  go_wp2_with (fail)
  go_at_call 22
  refine (sameOps_c L _ _ _ _ _ _ _ HI3.out hI4 (by omega)).mono ?_
  rintro e w4 ⟨rfl, hb⟩
  obtain ⟨hc, hf, hz, hs⟩ := bcell hb
  (try simp only [World.size_alloc, World.size_setCell, World.size_drew, size_drewN] at hs); (first | have l0 := Nat.lt_of_lt_of_le l0 (show _ ≤ w4.heap.size by omega) | have l0 : w.heap.size < w4.heap.size := (by omega) | skip); (try have l0e := Nat.le_of_lt l0); (try have l0f := Nat.le_add_right_of_le (k := 1) l0e); (try have l1 := Nat.lt_of_lt_of_le l1 (show _ ≤ w4.heap.size by omega)); (try have l1e := Nat.le_of_lt l1); (try have l1f := Nat.le_add_right_of_le (k := 1) l1e); (try have l2 := Nat.lt_of_lt_of_le l2 (show _ ≤ w4.heap.size by omega)); (try have l2e := Nat.le_of_lt l2); (try have l2f := Nat.le_add_right_of_le (k := 1) l2e); (try have l3 := Nat.lt_of_lt_of_le l3 (show _ ≤ w4.heap.size by omega)); (try have l3e := Nat.le_of_lt l3); (try have l3f := Nat.le_add_right_of_le (k := 1) l3e)
  have E14 := Lib.hid (E13.out.tr hb)
  have E4 := Lib.hid (E1.out.tr (Ext.tr (show Ext w1 (w1.alloc (.cells #[.int .i64 s, .slice A2 ops.length c2, .bool d] 31)) by (repeat' (first | (with_reducible exact Below.refl _ _) | (with_reducible refine Below.mono (by assumption) ?_) | (with_reducible refine Below.trans ?_ (Below.mono (by assumption) ?_)) | (with_reducible refine Below.alloc ?_ ?_ _) | (with_reducible refine Below.drew ?_) | (with_reducible refine below_drewN ?_ _) | (with_reducible refine Below.setCell ?_ ?_ _) | (simp only [World.size_alloc, World.size_setCell, World.size_drew, size_drewN]; omega) | omega))) E14.out))
  have HI4 := Lib.hid (Ops.ext HI3.out hb)
  clear hI4 HI3 hb hc hf hz
  go_wp2
  go_loopw [5] (fun i wr => ∃ k : Nat, k ≤ L.length ∧ i = .int .i64 k ∧ Ext w4 wr) (fun i _ => L.length - (intOf i).toNat)
  case atStart => exact ⟨0, Nat.zero_le _, rfl, Below.refl _ _⟩
  case round =>
    obtain ⟨k, hk, rfl, hE⟩ := hrel
    have hE0 := Lib.hid hE
    by_cases hlt : k < L.length
    · obtain ⟨x0, x1, x2, b, off, hxk, rfl, _, hb0, c0, c1, c2'⟩ := (Ops.ext HI4.out hE).at_ hlt
      obtain ⟨ha, hprev⟩ := HF.out k _ hxk
      simp only at ha hprev
      subst ha
      clear hE hxk
      have f4 : (k : Int) < L.length := by omega
      by_cases hk0 : 0 < k
      rotate_left
      · clear hprev
        have f5 : decide ((0 : Int) < (k : Int)) = false := decide_eq_false (by omega)
        have f5n : decide (0 < k) = false := decide_eq_false (by omega)
        clear hk0
        go_wp2
        go_big_quiet (fail)
        go_wp2
        go_roundw
        case measure => simp [intOf]; omega
        case rel => exact ⟨k + 1, by omega, by go_num, below_drewN hE0.out _⟩
      · obtain ⟨u, hu, hlk⟩ := hprev hk0
        obtain ⟨y0, y1, y2, b', off', hu', e', _, hb', d0, d1, d2⟩ := (Ops.ext HI4.out hE0.out).at_ (i := k - 1) (by omega)
        rw [hu] at hu'
        cases hu'
        cases e'
        simp only at hlk
        have hcast : ((k : Int) - 1).toNat = k - 1 := by omega
        have f5 : decide ((0 : Int) < (k : Int)) = true := decide_eq_true (by omega)
        have f5n : decide (0 < k) = true := decide_eq_true (by omega)
        have f6 : decide (x1 ≤ y1) = false := decide_eq_false (by omega)
        have f7 : (k : Int) - 1 < L.length := by omega
        have f8 : (0 : Int) ≤ (k : Int) - 1 := by omega
        clear hu hprev
        go_wp2
        go_big_quiet (fail)
        go_wp2
        go_roundw
        case measure => simp [intOf]; omega
        case rel => exact ⟨k + 1, by omega, by go_num, below_drewN hE0.out _⟩
    · obtain rfl : k = L.length := by omega
      have T := fun w hx => wrap_lastWrites_c ⟨0, L, false⟩ Any A3 c3 w hx (by simp only; omega)
      simp only [HLL.out] at T
      have HT := Lib.hid T
      have HI5 := Lib.hid (show Ops Any wr A3 L from SlAt.mono (Ops.ext HI4.out hE) (fun _ _ _ => trivial) (fun _ _ h => h))
      clear T hE
      go_wp2_with (fail)
      go_at_call 21
      refine (HT.out _ HI5.out).mono ?_
      rintro e w6 ⟨A6, c6, rfl, hI6, hf6, hb⟩
      obtain ⟨hc, hf, hz, hs⟩ := bcell hb
      (try simp only [World.size_alloc, World.size_setCell, World.size_drew, size_drewN] at hs); (first | have l0 := Nat.lt_of_lt_of_le l0 (show _ ≤ w6.heap.size by omega) | have l0 : w.heap.size < w6.heap.size := (by omega) | skip); (try have l0e := Nat.le_of_lt l0); (try have l0f := Nat.le_add_right_of_le (k := 1) l0e); (try have l1 := Nat.lt_of_lt_of_le l1 (show _ ≤ w6.heap.size by omega)); (try have l1e := Nat.le_of_lt l1); (try have l1f := Nat.le_add_right_of_le (k := 1) l1e); (try have l2 := Nat.lt_of_lt_of_le l2 (show _ ≤ w6.heap.size by omega)); (try have l2e := Nat.le_of_lt l2); (try have l2f := Nat.le_add_right_of_le (k := 1) l2e); (try have l3 := Nat.lt_of_lt_of_le l3 (show _ ≤ w6.heap.size by omega)); (try have l3e := Nat.le_of_lt l3); (try have l3f := Nat.le_add_right_of_le (k := 1) l3e)
      have E46 := Lib.hid (hE0.out.tr hb)
      have HI6 := Lib.hid (Ops.ext HI5.out hb)
      clear hb hc hf hz hf6 HI5
      go_wp2_with (fail)
      go_at_call 22
      refine (sameOps_c L _ _ _ _ _ _ _ hI6 HI6.out (by omega)).mono ?_
      rintro e w7 ⟨rfl, hb⟩
      obtain ⟨hc, hf, hz, hs⟩ := bcell hb
      (try simp only [World.size_alloc, World.size_setCell, World.size_drew, size_drewN] at hs); (first | have l0 := Nat.lt_of_lt_of_le l0 (show _ ≤ w7.heap.size by omega) | have l0 : w.heap.size < w7.heap.size := (by omega) | skip); (try have l0e := Nat.le_of_lt l0); (try have l0f := Nat.le_add_right_of_le (k := 1) l0e); (try have l1 := Nat.lt_of_lt_of_le l1 (show _ ≤ w7.heap.size by omega)); (try have l1e := Nat.le_of_lt l1); (try have l1f := Nat.le_add_right_of_le (k := 1) l1e); (try have l2 := Nat.lt_of_lt_of_le l2 (show _ ≤ w7.heap.size by omega)); (try have l2e := Nat.le_of_lt l2); (try have l2f := Nat.le_add_right_of_le (k := 1) l2e); (try have l3 := Nat.lt_of_lt_of_le l3 (show _ ≤ w7.heap.size by omega)); (try have l3e := Nat.le_of_lt l3); (try have l3f := Nat.le_add_right_of_le (k := 1) l3e)
      have E47 := Lib.hid (E46.out.tr hb)
      clear hb hc hf hz hI6
      go_wp2_with (fail)
      go_at_call 16
      refine (alive_c _).mono ?_
      rintro e w9 ⟨rfl, hb⟩
      obtain ⟨hc, hf, hz, hs⟩ := bcell hb
      (try simp only [World.size_alloc, World.size_setCell, World.size_drew, size_drewN] at hs); (first | have l0 := Nat.lt_of_lt_of_le l0 (show _ ≤ w9.heap.size by omega) | have l0 : w.heap.size < w9.heap.size := (by omega) | skip); (try have l0e := Nat.le_of_lt l0); (try have l0f := Nat.le_add_right_of_le (k := 1) l0e); (try have l1 := Nat.lt_of_lt_of_le l1 (show _ ≤ w9.heap.size by omega)); (try have l1e := Nat.le_of_lt l1); (try have l1f := Nat.le_add_right_of_le (k := 1) l1e); (try have l2 := Nat.lt_of_lt_of_le l2 (show _ ≤ w9.heap.size by omega)); (try have l2e := Nat.le_of_lt l2); (try have l2f := Nat.le_add_right_of_le (k := 1) l2e); (try have l3 := Nat.lt_of_lt_of_le l3 (show _ ≤ w9.heap.size by omega)); (try have l3e := Nat.le_of_lt l3); (try have l3f := Nat.le_add_right_of_le (k := 1) l3e)
      go_wp2
      go_ret
      exact ⟨rfl, (E4.out.tr E47.out).tr hb⟩

theorem FnLastWrites_reads (os : Os) {H : Type} (enc : TypeId × Value → H) : ∃ places, DataW.whole enc Tryd.prog ((Law.laidWorld os).forCall (fun _ _ => 0) ⟨#[], #[.slice none 0 0], []⟩).memory Tryd.f5.params.toList Rows.fnLastWritesSpec.vars false (#[.slice none 0 0] : Array Value).toList 8 = some ([.nil], [], places) :=
  ⟨[], by kernel_rfl⟩
theorem FnLastWrites_laid (os : Os) : laidMet Tryd.prog Rows.fnLastWritesRow.laid ((Law.laidWorld os).forCall (fun _ _ => 0) ⟨#[], #[.slice none 0 0], []⟩).memory :=
  laidMet_of_run' 8 (by kernel_rfl) (by kernel_rfl)
set_option maxRecDepth 100000 in
theorem FnLastWrites_lifted (os : Os) (started : os.Started) (H : Type) (enc : TypeId × Value → H) (F : Stop.Interp) :
    ReturnsInHanded {} Tryd.checked os 5 .any ((OpenSpec.ofChange Rows.fnLastWritesSpec).preRow enc Tryd.prog Tryd.f5 Rows.fnLastWritesRow.domain false Rows.fnLastWritesRow.laid) (((OpenSpec.ofChange Rows.fnLastWritesSpec).at F).post enc Tryd.prog Tryd.f5 false true false false) := by
  obtain ⟨places, hx⟩ := FnLastWrites_reads os enc
  refine returnsInHanded_of_row (C := Tryd.checked) (s := OpenSpec.ofChange Rows.fnLastWritesSpec) Law.own started (by kernel_rfl) Tryd.func5
    (witness_row_at (enc := enc) (C := Tryd.checked) false (Law.laidWorld os) #[.slice none 0 0] rfl (by kernel_rfl) (by kernel_rfl) (by kernel_rfl)
      (OpenSpec.preRow_of_cond 8 hx (by kernel_rfl) (fun k hk => by cases hk) (by kernel_rfl) (FnLastWrites_laid os))) ?_
  intro W base args ds gs before hval0 hW _ _ _ hLaid _ _
  have hval : ∀ (j : Nat) t v, Tryd.f5.params[j]? = some t → args[j]? = some v → Value.okWide Tryd.prog W .any base t v := hval0
  have hW' := hW
  obtain ⟨p, q, hA0, hV, rfl, hfz, hnd⟩ := hW
  have hA : DataW.TrodAll enc Tryd.prog W 0 (fun _ => true) true Tryd.f5.params.toList args.toList ds p := hA0
  rw [Tryd.params5] at hA hval
  obtain ⟨v0, vs0, d0, ds0, p0, q0, hargs, hds, rfl, h0, r0⟩ := trodAll_cons hA
  obtain ⟨rfl, rfl, rfl⟩ := trodAll_nil r0
  obtain rfl : args = #[v0] := by cases args; simp_all
  subst hds
  obtain ⟨x0, A0, c0, rfl, hO0, wf0⟩ := Law.open_bytes Tryd.underlying22 Tryd.underlying5 (by kernel_rfl) (hval 0 22 v0 rfl rfl) h0
  refine (FnLastWrites_c x0 A0 c0 W hO0 wf0 (Law.bytes_cap Tryd.underlying22 (hval 0 22 _ rfl rfl))).mono fun e W' ⟨he, hb⟩ => ?_
  subst he
  refine ⟨_, rfl, Law.post_true Law.laidOut ?_ rfl rfl Tryd.underlying4 ⟨rfl, rfl, rfl⟩ hW' hb⟩
  intro t ht
  rw [Tryd.params5] at ht
  simp only [List.mem_cons, List.not_mem_nil, or_false] at ht
  first | (rcases ht with rfl <;> exact ⟨by kernel_rfl, of_decide_eq_true (by kernel_rfl)⟩)

theorem FnLastWrites_holds : Rows.FnLastWritesSaid :=
  OpenClaim.holds_of_cond 5 Tryd.f5 rfl rfl rfl rfl rfl rfl rfl ⟨rfl, rfl, rfl, rfl, rfl⟩ rfl rfl rfl rfl rfl (by kernel_rfl) Tryd.func5 (by kernel_rfl)
    (of_decide_eq_true (by kernel_rfl)) (by unfold Func.isWrapper; first | (rw [if_pos (by decide +kernel)]; kernel_rfl) | (rw [if_neg (by decide +kernel)]; exact ⟨rfl, rfl⟩))
    (fun os started H enc _ F => by rw [OpenClaim.pre_eq_preRow]; exact FnLastWrites_lifted os started H enc F)
theorem FnLastWrites_plain (f : FuncId) (fn : Func) (hf : Tryd.pinned.checked.prog.funcNamed Rows.fnLastWritesRow.func = some f) (hfn : Tryd.pinned.checked.prog.funcs[f]? = some fn) :
    false = Tryd.pinned.checked.prog.looks [] ∧ ∀ (j : Nat) t, fn.params[j]? = some t → Tryd.pinned.checked.prog.wantsStandIn t = false := by
  obtain rfl : f = 5 := Option.some.inj ((show Tryd.prog.funcNamed Rows.fnLastWritesRow.func = some 5 by kernel_rfl).symm.trans hf) |>.symm
  obtain rfl : fn = Tryd.f5 := (Option.some.inj (Tryd.func5.symm.trans hfn)).symm
  refine ⟨by kernel_rfl, fun j t ht => ?_⟩
  rw [Tryd.params5] at ht
  have hm := Array.mem_of_getElem? ht
  simp only [List.mem_toArray, List.mem_cons, List.not_mem_nil, or_false] at hm
  rcases hm with rfl
  · exact (show Tryd.prog.wantsStandIn 22 = false by kernel_rfl)
theorem FnLastWrites_card : Rows.FnLastWritesCardSaid :=
  Claim7.holds_tied_plain_at .later [] _ _ _ _ FnLastWrites_holds (fun _ h => by cases h) (by kernel_rfl) (fun _ h => by cases h) fnLastWrites_row_tie rfl ⟨rfl, rfl⟩ (by kernel_rfl) rfl FnLastWrites_plain (by kernel_rfl)

end Go.Proofs.YtagmlbhmojgnlaaDoor
