/-
  FnFirstReads: a drawn transaction: the program's answer is the reference's; each is a read of the transaction, the keys differ, there are at most three.
-/
import Derived.Test.YtagmlbhmojgnlaaDoorDrawHd
import Derived.Test.YtagmlbhmojgnlaaDoorLaid
import Derived.Test.YtagmlbhmojgnlaaDoorReads
import Derived.Test.YtagmlbhmojgnlaaDoorSame
import Derived.Deep.CutBlock
import Derived.Deep.CutRange
namespace Go.Proofs.YtagmlbhmojgnlaaDoor
set_option linter.unusedSimpArgs false
set_option linter.unusedVariables false
set_option maxRecDepth 100000
open Go.ChangeShapes Go.WideShapes Go.ChangeAt Go.RowKit Go.Joins

theorem mem_take_succ {ops : List T3} {j : Nat} {o x : T3} (hj : ops[j]? = some o) : decide (x ∈ ops.take (j + 1)) = (decide (x ∈ ops.take j) || decide (o = x)) := by
  rw [List.take_add_one, hj]
  simp [eq_comm]
theorem before_none {ops : List T3} (hv : ∀ o ∈ ops, 0 ≤ o.c) {key : Int} : ∀ n, before ops key n < 0 → ∀ (i : Nat) o, i < n → ops[i]? = some o → o.b ≠ key := by
  intro n
  induction n with
  | zero => intro _ i o h; omega
  | succ n ih =>
    intro hb i o hi ho
    unfold before at hb
    cases hn : ops[n]? with
    | none =>
      rw [hn] at hb
      rcases Nat.lt_or_ge i n with h1 | h1
      · exact ih hb i o h1 ho
      · obtain rfl : i = n := by omega
        rw [hn] at ho
        cases ho
    | some x =>
      rw [hn] at hb
      simp only at hb
      split at hb
      · have := hv x (List.mem_of_getElem? hn)
        omega
      · rcases Nat.lt_or_ge i n with h1 | h1
        · exact ih hb i o h1 ho
        · obtain rfl : i = n := by omega
          rw [hn] at ho
          cases ho
          assumption
theorem frs_at {ops : List T3} (hv : ∀ o ∈ ops, 0 ≤ o.c) (n : Nat) : ∀ (i : Nat) o, (frs ops n)[i]? = some o → o.a = 1 ∧ (∃ m, m < n ∧ ops[m]? = some o) ∧ ∀ j, j < i → ∀ u, (frs ops n)[j]? = some u → u.b ≠ o.b := by
  induction n with
  | zero => intro i o h; simp [frs] at h
  | succ n ih =>
    intro i o hi
    have old : ∀ (ys : List T3), (frs ops n)[i]? = some o → o.a = 1 ∧ (∃ m, m < n + 1 ∧ ops[m]? = some o) ∧ ∀ j, j < i → ∀ u, (frs ops n ++ ys)[j]? = some u → u.b ≠ o.b := fun ys h => by
      obtain ⟨a, ⟨m, b, c⟩, d⟩ := ih i o h
      have hlt := (List.getElem?_eq_some_iff.1 h).1
      exact ⟨a, ⟨m, by omega, c⟩, fun j hj u hu => d j hj u (by rwa [List.getElem?_append_left (by omega)] at hu)⟩
    cases hn : ops[n]? with
    | none =>
      have e : frs ops (n + 1) = frs ops n := by
        conv => lhs; unfold frs
        rw [hn]
      rw [e] at hi ⊢
      have := old [] hi
      simpa using this
    | some x =>
      by_cases hc : x.a = 1 ∧ before ops x.b n < 0
      · rw [frs_hit hn hc] at hi ⊢
        rcases Nat.lt_or_ge i (frs ops n).length with hlt | hge
        · rw [List.getElem?_append_left hlt] at hi
          exact old _ hi
        · rw [List.getElem?_append_right hge] at hi
          have hz : i - (frs ops n).length = 0 := by
            cases hx : i - (frs ops n).length with
            | zero => rfl
            | succ m => rw [hx] at hi; simp at hi
          rw [hz] at hi
          obtain rfl : x = o := by simpa using hi
          refine ⟨hc.1, ⟨n, by omega, hn⟩, fun j hj u hu => ?_⟩
          rw [List.getElem?_append_left (by omega)] at hu
          obtain ⟨_, ⟨m, hm1, hm2⟩, _⟩ := ih j u hu
          exact before_none hv n hc.2 m u hm1 hm2
      · rw [frs_miss hn hc] at hi ⊢
        have := old [] hi
        simpa using this
theorem three_keys {L : List T3} (hd : ∀ (i : Nat) o, L[i]? = some o → ∀ j, j < i → ∀ u, L[j]? = some u → u.b ≠ o.b) (hr : ∀ o ∈ L, 0 ≤ o.b ∧ o.b ≤ 2) : L.length ≤ 3 := by
  rcases Nat.lt_or_ge 3 L.length with h | h
  · exfalso
    obtain ⟨a, ha⟩ : ∃ a, L[0]? = some a := ⟨_, List.getElem?_eq_getElem (by omega)⟩
    obtain ⟨b, hb⟩ : ∃ b, L[1]? = some b := ⟨_, List.getElem?_eq_getElem (by omega)⟩
    obtain ⟨c, hc⟩ : ∃ c, L[2]? = some c := ⟨_, List.getElem?_eq_getElem (by omega)⟩
    obtain ⟨d, hdd⟩ : ∃ d, L[3]? = some d := ⟨_, List.getElem?_eq_getElem (by omega)⟩
    have r1 := hr a (List.mem_of_getElem? ha)
    have r2 := hr b (List.mem_of_getElem? hb)
    have r3 := hr c (List.mem_of_getElem? hc)
    have r4 := hr d (List.mem_of_getElem? hdd)
    have n1 := hd 1 b hb 0 (by omega) a ha
    have n2 := hd 2 c hc 0 (by omega) a ha
    have n3 := hd 2 c hc 1 (by omega) b hb
    have n4 := hd 3 d hdd 0 (by omega) a ha
    have n5 := hd 3 d hdd 1 (by omega) b hb
    have n6 := hd 3 d hdd 2 (by omega) c hc
    omega
  · exact h
theorem opv_facts {o : T3} (h : opv o = true) : 0 ≤ o.c ∧ 0 ≤ o.b ∧ o.b ≤ 2 := by
  simp only [opv, inB, Bool.and_eq_true, decide_eq_true_eq] at h
  omega
theorem specFR_c (t : TxnT) (S : Nat → Prop) (A : Option Addr) (c : Nat) (w : World) (hx : Ops S w A t.ops) (hn : t.ops.length ≤ 1048576) :
    Calls Tryd.prog 26 #[.agg #[.int .i64 t.sess, .slice A t.ops.length c, .bool t.done]] w (Fresh (if txnv t = true then frs t.ops t.ops.length else []) w) := by
  cases hv : txnv t with
  | false => rw [if_neg (by simp)]; exact specFirstReads_bad t S A c w hx hn hv
  | true => rw [if_pos rfl]; exact specFirstReads_ok t S A c w hx hn hv
theorem implFR_c (t : TxnT) (S : Nat → Prop) (A : Option Addr) (c : Nat) (w : World) (hx : Ops S w A t.ops) (hn : t.ops.length ≤ 1048576) :
    Calls Tryd.prog 25 #[.agg #[.int .i64 t.sess, .slice A t.ops.length c, .bool t.done]] w (Fresh (if txnv t = true then frs t.ops t.ops.length else []) w) := by
  have h := wrap_firstReads_c t S A c w hx hn
  cases hv : txnv t with
  | false => rw [hv] at h; exact h
  | true => rw [hv, if_pos rfl, frs_eq (txnv_ops hv)] at h; exact h
set_option maxHeartbeats 4000000 in
theorem FnFirstReads_c (xs : List Int) (A : Option Addr) (c : Nat) (w : World) (hx : Byts Any w A xs) (wf : Law.wfL Law.wfU8 xs) (hc : xs.length ≤ c) :
    Calls Tryd.prog 6 #[.slice A xs.length c] w fun e w' => e = .returned (.bool true) ∧ Ext w w' := by
  by_cases hl : 1048576 < xs.length
  · go_enter Tryd.func6, Tryd.ntmps6
    go_wp2
    go_ret
    exact ⟨rfl, by (repeat' (first | (with_reducible exact Below.refl _ _) | (with_reducible refine Below.mono (by assumption) ?_) | (with_reducible refine Below.trans ?_ (Below.mono (by assumption) ?_)) | (with_reducible refine Below.alloc ?_ ?_ _) | (with_reducible refine Below.drew ?_) | (with_reducible refine below_drewN ?_ _) | (with_reducible refine Below.setCell ?_ ?_ _) | (simp only [World.size_alloc, World.size_setCell, World.size_drew, size_drewN]; omega) | omega))⟩
  have HW : Hid (∀ x ∈ xs, 0 ≤ x ∧ x ≤ 255) := Lib.hid wf.2
  have heq := eqOp_run
  have hgd := eqOp_guard
  go_enter Tryd.func6, Tryd.ntmps6
  go_wp2_with (fail)
  go_at_call 24
  refine (DrawFirstReads_c xs A c _ (hx.ext (by (repeat' (first | (with_reducible exact Below.refl _ _) | (with_reducible refine Below.mono (by assumption) ?_) | (with_reducible refine Below.trans ?_ (Below.mono (by assumption) ?_)) | (with_reducible refine Below.alloc ?_ ?_ _) | (with_reducible refine Below.drew ?_) | (with_reducible refine below_drewN ?_ _) | (with_reducible refine Below.setCell ?_ ?_ _) | (simp only [World.size_alloc, World.size_setCell, World.size_drew, size_drewN]; omega) | omega)))) HW.out hc).mono ?_
  rintro e w1 ⟨t, A2, c2, rfl, hx2, hs2, hl2, hsm2, hb⟩
  obtain ⟨hc, hf, hz, hs⟩ := bcell hb
  (try simp only [World.size_alloc, World.size_setCell, World.size_drew, size_drewN] at hs); (first | have l0 := Nat.lt_of_lt_of_le l0 (show _ ≤ w1.heap.size by omega) | have l0 : w.heap.size < w1.heap.size := (by omega) | skip); (try have l0e := Nat.le_of_lt l0); (try have l0f := Nat.le_add_right_of_le (k := 1) l0e); (try have l1 := Nat.lt_of_lt_of_le l1 (show _ ≤ w1.heap.size by omega)); (try have l1e := Nat.le_of_lt l1); (try have l1f := Nat.le_add_right_of_le (k := 1) l1e); (try have l2 := Nat.lt_of_lt_of_le l2 (show _ ≤ w1.heap.size by omega)); (try have l2e := Nat.le_of_lt l2); (try have l2f := Nat.le_add_right_of_le (k := 1) l2e); (try have l3 := Nat.lt_of_lt_of_le l3 (show _ ≤ w1.heap.size by omega)); (try have l3e := Nat.le_of_lt l3); (try have l3f := Nat.le_add_right_of_le (k := 1) l3e)
  have E1 := Lib.hid (show Ext w w1 from hb)
  have hon : t.ops.length ≤ 1048576 := by omega
  obtain ⟨s, ops, d⟩ := t
  simp only at hx2 hl2 hsm2 hs2 hon
  have C := fun w hx => implFR_c ⟨s, ops, d⟩ Any A2 c2 w hx hon
  have D := fun w hx => specFR_c ⟨s, ops, d⟩ Any A2 c2 w hx hon
  have hL9 : (if txnv ⟨s, ops, d⟩ = true then frs ops ops.length else []).length ≤ ops.length := by
    have := frs_len ops ops.length
    split
    · exact this
    · simp
  have F : (∀ (i : Nat) o, (if txnv ⟨s, ops, d⟩ = true then frs ops ops.length else [])[i]? = some o → o.a = 1 ∧ o ∈ ops ∧ ∀ j, j < i → ∀ u, (if txnv ⟨s, ops, d⟩ = true then frs ops ops.length else [])[j]? = some u → u.b ≠ o.b) ∧ (if txnv ⟨s, ops, d⟩ = true then frs ops ops.length else []).length ≤ 3 := by
    cases hv : txnv ⟨s, ops, d⟩ with
    | true =>
      simp only [if_true]
      have ho : ∀ o ∈ ops, opv o = true := by
        simp only [txnv, Bool.and_eq_true, List.all_eq_true] at hv
        exact hv.1
      have ha := frs_at (fun o h => (opv_facts (ho o h)).1) ops.length
      have hb : ∀ (i : Nat) o, (frs ops ops.length)[i]? = some o → o.a = 1 ∧ o ∈ ops ∧ ∀ j, j < i → ∀ u, (frs ops ops.length)[j]? = some u → u.b ≠ o.b := fun i o hi => by
        obtain ⟨a, ⟨m, _, b⟩, c⟩ := ha i o hi
        exact ⟨a, List.mem_of_getElem? b, c⟩
      refine ⟨hb, three_keys (fun i o hi => (hb i o hi).2.2) (fun o h => ?_)⟩
      obtain ⟨i, hi⟩ := List.getElem?_of_mem h
      exact (opv_facts (ho o (hb i o hi).2.1)).2
    | false => exact ⟨fun i o h => by simp at h, by simp⟩
  simp only at C D
  generalize (if txnv ⟨s, ops, d⟩ = true then frs ops ops.length else []) = L at C D hL9 F
  have hL3 := F.2
  have HC := Lib.hid C
  have HD := Lib.hid D
  have HF := Lib.hid F.1
  have HX := Lib.hid (show Ops Any w1 A2 ops from SlAt.mono hx2 (fun _ _ _ => trivial) (fun _ _ h => h))
  clear C D F hx2 hb hc hf hz
  go_wp2_with (fail)
  go_at_call 25
  refine (HC.out _ (HX.out.ext (by (repeat' (first | (with_reducible exact Below.refl _ _) | (with_reducible refine Below.mono (by assumption) ?_) | (with_reducible refine Below.trans ?_ (Below.mono (by assumption) ?_)) | (with_reducible refine Below.alloc ?_ ?_ _) | (with_reducible refine Below.drew ?_) | (with_reducible refine below_drewN ?_ _) | (with_reducible refine Below.setCell ?_ ?_ _) | (simp only [World.size_alloc, World.size_setCell, World.size_drew, size_drewN]; omega) | omega))))).mono ?_
  rintro e w2 ⟨A3, c3, rfl, hI3, hf3, hb⟩
  obtain ⟨hc, hf, hz, hs⟩ := bcell hb
  (try simp only [World.size_alloc, World.size_setCell, World.size_drew, size_drewN] at hs); (first | have l0 := Nat.lt_of_lt_of_le l0 (show _ ≤ w2.heap.size by omega) | have l0 : w.heap.size < w2.heap.size := (by omega) | skip); (try have l0e := Nat.le_of_lt l0); (try have l0f := Nat.le_add_right_of_le (k := 1) l0e); (try have l1 := Nat.lt_of_lt_of_le l1 (show _ ≤ w2.heap.size by omega)); (try have l1e := Nat.le_of_lt l1); (try have l1f := Nat.le_add_right_of_le (k := 1) l1e); (try have l2 := Nat.lt_of_lt_of_le l2 (show _ ≤ w2.heap.size by omega)); (try have l2e := Nat.le_of_lt l2); (try have l2f := Nat.le_add_right_of_le (k := 1) l2e); (try have l3 := Nat.lt_of_lt_of_le l3 (show _ ≤ w2.heap.size by omega)); (try have l3e := Nat.le_of_lt l3); (try have l3f := Nat.le_add_right_of_le (k := 1) l3e)
  have E12 := Lib.hid (show Ext (w1.alloc (.cells #[.int .i64 s, .slice A2 ops.length c2, .bool d] 31)) w2 from hb)
  obtain ⟨q0, q1, q2⟩ := box3 E12.out
  have HI2 := Lib.hid hI3
  clear hb hc hf hz hf3 hI3
  go_wp2_with (fail)
  go_at_call 26
  refine (HD.out _ (HX.out.ext (Ext.tr (by (repeat' (first | (with_reducible exact Below.refl _ _) | (with_reducible refine Below.mono (by assumption) ?_) | (with_reducible refine Below.trans ?_ (Below.mono (by assumption) ?_)) | (with_reducible refine Below.alloc ?_ ?_ _) | (with_reducible refine Below.drew ?_) | (with_reducible refine below_drewN ?_ _) | (with_reducible refine Below.setCell ?_ ?_ _) | (simp only [World.size_alloc, World.size_setCell, World.size_drew, size_drewN]; omega) | omega))) E12.out))).mono ?_
  rintro e w3 ⟨A4, c4, rfl, hI4, hf4, hb⟩
  obtain ⟨hc, hf, hz, hs⟩ := bcell hb
  (try simp only [World.size_alloc, World.size_setCell, World.size_drew, size_drewN] at hs); (first | have l0 := Nat.lt_of_lt_of_le l0 (show _ ≤ w3.heap.size by omega) | have l0 : w.heap.size < w3.heap.size := (by omega) | skip); (try have l0e := Nat.le_of_lt l0); (try have l0f := Nat.le_add_right_of_le (k := 1) l0e); (try have l1 := Nat.lt_of_lt_of_le l1 (show _ ≤ w3.heap.size by omega)); (try have l1e := Nat.le_of_lt l1); (try have l1f := Nat.le_add_right_of_le (k := 1) l1e); (try have l2 := Nat.lt_of_lt_of_le l2 (show _ ≤ w3.heap.size by omega)); (try have l2e := Nat.le_of_lt l2); (try have l2f := Nat.le_add_right_of_le (k := 1) l2e); (try have l3 := Nat.lt_of_lt_of_le l3 (show _ ≤ w3.heap.size by omega)); (try have l3e := Nat.le_of_lt l3); (try have l3f := Nat.le_add_right_of_le (k := 1) l3e)
  have E13 := Lib.hid (E12.out.tr hb)
  have HI3 := Lib.hid (Ops.ext HI2.out hb)
  clear HC HD hb hc hf hz hf4 HI2 q0 q1 q2
  go_wp2_with (fail)
  go_at_call 22
  refine (sameOps_c L _ _ _ _ _ _ _ HI3.out hI4 (by omega)).mono ?_
  rintro e w4 ⟨rfl, hb⟩
  obtain ⟨hc, hf, hz, hs⟩ := bcell hb
  (try simp only [World.size_alloc, World.size_setCell, World.size_drew, size_drewN] at hs); (first | have l0 := Nat.lt_of_lt_of_le l0 (show _ ≤ w4.heap.size by omega) | have l0 : w.heap.size < w4.heap.size := (by omega) | skip); (try have l0e := Nat.le_of_lt l0); (try have l0f := Nat.le_add_right_of_le (k := 1) l0e); (try have l1 := Nat.lt_of_lt_of_le l1 (show _ ≤ w4.heap.size by omega)); (try have l1e := Nat.le_of_lt l1); (try have l1f := Nat.le_add_right_of_le (k := 1) l1e); (try have l2 := Nat.lt_of_lt_of_le l2 (show _ ≤ w4.heap.size by omega)); (try have l2e := Nat.le_of_lt l2); (try have l2f := Nat.le_add_right_of_le (k := 1) l2e); (try have l3 := Nat.lt_of_lt_of_le l3 (show _ ≤ w4.heap.size by omega)); (try have l3e := Nat.le_of_lt l3); (try have l3f := Nat.le_add_right_of_le (k := 1) l3e)
  have E14 := Lib.hid (E13.out.tr hb)
  have E4 := Lib.hid (E1.out.tr (Ext.tr (show Ext w1 (w1.alloc (.cells #[.int .i64 s, .slice A2 ops.length c2, .bool d] 31)) by (repeat' (first | (with_reducible exact Below.refl _ _) | (with_reducible refine Below.mono (by assumption) ?_) | (with_reducible refine Below.trans ?_ (Below.mono (by assumption) ?_)) | (with_reducible refine Below.alloc ?_ ?_ _) | (with_reducible refine Below.drew ?_) | (with_reducible refine below_drewN ?_ _) | (with_reducible refine Below.setCell ?_ ?_ _) | (simp only [World.size_alloc, World.size_setCell, World.size_drew, size_drewN]; omega) | omega))) E14.out))
  have HX4 := Lib.hid (HX.out.ext (Ext.tr (show Ext w1 (w1.alloc (.cells #[.int .i64 s, .slice A2 ops.length c2, .bool d] 31)) by (repeat' (first | (with_reducible exact Below.refl _ _) | (with_reducible refine Below.mono (by assumption) ?_) | (with_reducible refine Below.trans ?_ (Below.mono (by assumption) ?_)) | (with_reducible refine Below.alloc ?_ ?_ _) | (with_reducible refine Below.drew ?_) | (with_reducible refine below_drewN ?_ _) | (with_reducible refine Below.setCell ?_ ?_ _) | (simp only [World.size_alloc, World.size_setCell, World.size_drew, size_drewN]; omega) | omega))) E14.out))
  have HI4 := Lib.hid (Ops.ext HI3.out hb)
  have hb1 : w1.heap.size < w4.heap.size := by have := E14.out.size; rw [World.size_alloc] at this; omega
  have QQ := Lib.hid (box3 E14.out)
  clear hI4 HI3 hb hc hf hz
  go_wp2
  go_loopw [5] (fun i wr => ∃ k : Nat, k ≤ L.length ∧ i = .int .i64 k ∧ Ext w4 wr) (fun i _ => L.length - (intOf i).toNat)
  case atStart => exact ⟨0, Nat.zero_le _, rfl, Below.refl _ _⟩
  case round =>
    obtain ⟨k, hk, rfl, hE⟩ := hrel
    have hE0 := Lib.hid hE
    by_cases hlt : k < L.length
    · obtain ⟨x0, x1, x2, b, off, hxk, rfl, _, hb0, c0, c1, c2'⟩ := (Ops.ext HI4.out hE).at_ hlt
      obtain ⟨ha, hmem, hdiff⟩ := HF.out k _ hxk
      simp only at ha hdiff
      subst ha
      have HM := Lib.hid hmem
      have HDf := Lib.hid hdiff
      clear hE hxk hmem hdiff
      have f4 : (k : Int) < L.length := by omega
      obtain ⟨wo, rfl⟩ : ∃ wo : World, wo = wr := ⟨_, rfl⟩
      go_wp2
      go_loopw [6, 7] (fun q i wa => ∃ j : Nat, j ≤ ops.length ∧ i = .int .i64 j ∧ q = .bool (decide ((⟨1, x1, x2⟩ : T3) ∈ ops.take j)) ∧ Ext wo wa) (fun _ i _ => ops.length - (intOf i).toNat)
      · exact ⟨0, Nat.zero_le _, rfl, by simp, Below.refl _ _⟩
      · obtain ⟨j, hj, rfl, hq, hEa⟩ := hrel
        have hEa0 := Lib.hid hEa
        obtain ⟨q0, q1, q2⟩ := QQ.out
        have g0 := (hE0.out.tr hEa).keep hb1 q0
        have g1 := (hE0.out.tr hEa).keep hb1 q1
        have g2 := (hE0.out.tr hEa).keep hb1 q2
        have d0 := hEa.keep hb0 c0
        have d1 := hEa.keep hb0 c1
        have d2 := hEa.keep hb0 c2'
        clear q0 q1 q2
        by_cases hlj : j < ops.length
        · obtain ⟨y0, y1, y2, b', off', hyk, rfl, _, hb', p0, p1, p2⟩ := (HX4.out.ext (hE0.out.tr hEa)).at_ hlj
          have HY := Lib.hid (mem_take_succ (x := (⟨1, x1, x2⟩ : T3)) hyk)
          clear hyk hEa
          have f6 : (j : Int) < ops.length := by omega
          obtain ⟨q0, hq0⟩ : ∃ q0, decide ((⟨1, x1, x2⟩ : T3) ∈ ops.take j) = q0 := ⟨_, rfl⟩
          rw [hq0] at hq HY
          subst hq
          cases q0
          · go_wp2
            go_big_quiet (fail)
            go_wp2
            go_roundw
            case measure => simp [intOf]; omega
            case rel => exact ⟨j + 1, by omega, by go_num, congrArg Value.bool (by rw [HY.out]; simp [Bool.decide_and]), below_drewN hEa0.out _⟩
          · go_wp2
            go_big_quiet (fail)
            go_wp2
            go_roundw
            case measure => simp [intOf]; omega
            case rel => exact ⟨j + 1, by omega, by go_num, by rw [HY.out]; rfl, below_drewN hEa0.out _⟩
        · obtain rfl : j = ops.length := by omega
          have hqt : decide ((⟨1, x1, x2⟩ : T3) ∈ ops.take ops.length) = true := by rw [List.take_length]; exact decide_eq_true HM.out
          rw [hqt] at hq
          subst hq
          clear hEa hqt
          go_wp2
          go_loopw [6, 8] (fun q i wb => ∃ j : Nat, j ≤ k ∧ i = .int .i64 j ∧ q = .bool true ∧ Ext wo wb) (fun _ i _ => k - (intOf i).toNat)
          · exact ⟨0, Nat.zero_le _, rfl, rfl, hEa0.out⟩
          · obtain ⟨j, hj, rfl, rfl, hEb⟩ := hrel
            have hEb0 := Lib.hid hEb
            have d0 := hEb.keep hb0 c0
            have d1 := hEb.keep hb0 c1
            have d2 := hEb.keep hb0 c2'
            by_cases hlj : j < k
            · obtain ⟨y0, y1, y2, b', off', hyk, e', _, hb', p0, p1, p2⟩ := (Ops.ext HI4.out (hE0.out.tr hEb)).at_ (i := j) (by omega)
              cases e'
              have hdn := HDf.out j hlj _ hyk
              simp only at hdn
              clear hyk hEb
              have f6 : (j : Int) < L.length := by omega
              have f7 : (y1 != x1) = true := by simpa using hdn
              go_wp2
              go_big_quiet (fail)
              go_wp2
              go_roundw
              case measure => simp [intOf]; omega
              case rel => exact ⟨j + 1, by omega, by go_num, rfl, below_drewN hEb0.out _⟩
            · obtain rfl : j = k := by omega
              clear hEb
              go_wp2
              go_roundw
              case measure => simp [intOf]; omega
              case rel => exact ⟨j + 1, by omega, by go_num, hE0.out.tr hEb0.out⟩
    · obtain rfl : k = L.length := by omega
      clear hE
      go_wp2_with (fail)
      go_at_call 16
      refine (alive_c _).mono ?_
      rintro e w9 ⟨rfl, hb⟩
      obtain ⟨hc, hf, hz, hs⟩ := bcell hb
      (try simp only [World.size_alloc, World.size_setCell, World.size_drew, size_drewN] at hs); (first | have l0 := Nat.lt_of_lt_of_le l0 (show _ ≤ w9.heap.size by omega) | have l0 : w.heap.size < w9.heap.size := (by omega) | skip); (try have l0e := Nat.le_of_lt l0); (try have l0f := Nat.le_add_right_of_le (k := 1) l0e); (try have l1 := Nat.lt_of_lt_of_le l1 (show _ ≤ w9.heap.size by omega)); (try have l1e := Nat.le_of_lt l1); (try have l1f := Nat.le_add_right_of_le (k := 1) l1e); (try have l2 := Nat.lt_of_lt_of_le l2 (show _ ≤ w9.heap.size by omega)); (try have l2e := Nat.le_of_lt l2); (try have l2f := Nat.le_add_right_of_le (k := 1) l2e); (try have l3 := Nat.lt_of_lt_of_le l3 (show _ ≤ w9.heap.size by omega)); (try have l3e := Nat.le_of_lt l3); (try have l3f := Nat.le_add_right_of_le (k := 1) l3e)
      go_wp2
      go_ret
      exact ⟨rfl, (E4.out.tr hE0.out).tr hb⟩

theorem FnFirstReads_reads (os : Os) {H : Type} (enc : TypeId × Value → H) : ∃ places, DataW.whole enc Tryd.prog ((Law.laidWorld os).forCall (fun _ _ => 0) ⟨#[], #[.slice none 0 0], []⟩).memory Tryd.f6.params.toList Rows.fnFirstReadsSpec.vars false (#[.slice none 0 0] : Array Value).toList 8 = some ([.nil], [], places) :=
  ⟨[], by kernel_rfl⟩
theorem FnFirstReads_laid (os : Os) : laidMet Tryd.prog Rows.fnFirstReadsRow.laid ((Law.laidWorld os).forCall (fun _ _ => 0) ⟨#[], #[.slice none 0 0], []⟩).memory :=
  laidMet_of_run' 8 (by kernel_rfl) (by kernel_rfl)
set_option maxRecDepth 100000 in
theorem FnFirstReads_lifted (os : Os) (started : os.Started) (H : Type) (enc : TypeId × Value → H) (F : Stop.Interp) :
    ReturnsInHanded {} Tryd.checked os 6 .any ((OpenSpec.ofChange Rows.fnFirstReadsSpec).preRow enc Tryd.prog Tryd.f6 Rows.fnFirstReadsRow.domain false Rows.fnFirstReadsRow.laid) (((OpenSpec.ofChange Rows.fnFirstReadsSpec).at F).post enc Tryd.prog Tryd.f6 false true false false) := by
  obtain ⟨places, hx⟩ := FnFirstReads_reads os enc
  refine returnsInHanded_of_row (C := Tryd.checked) (s := OpenSpec.ofChange Rows.fnFirstReadsSpec) Law.own started (by kernel_rfl) Tryd.func6
    (witness_row_at (enc := enc) (C := Tryd.checked) false (Law.laidWorld os) #[.slice none 0 0] rfl (by kernel_rfl) (by kernel_rfl) (by kernel_rfl)
      (OpenSpec.preRow_of_cond 8 hx (by kernel_rfl) (fun k hk => by cases hk) (by kernel_rfl) (FnFirstReads_laid os))) ?_
  intro W base args ds gs before hval0 hW _ _ _ hLaid _ _
  have hval : ∀ (j : Nat) t v, Tryd.f6.params[j]? = some t → args[j]? = some v → Value.okWide Tryd.prog W .any base t v := hval0
  have hW' := hW
  obtain ⟨p, q, hA0, hV, rfl, hfz, hnd⟩ := hW
  have hA : DataW.TrodAll enc Tryd.prog W 0 (fun _ => true) true Tryd.f6.params.toList args.toList ds p := hA0
  rw [Tryd.params6] at hA hval
  obtain ⟨v0, vs0, d0, ds0, p0, q0, hargs, hds, rfl, h0, r0⟩ := trodAll_cons hA
  obtain ⟨rfl, rfl, rfl⟩ := trodAll_nil r0
  obtain rfl : args = #[v0] := by cases args; simp_all
  subst hds
  obtain ⟨x0, A0, c0, rfl, hO0, wf0⟩ := Law.open_bytes Tryd.underlying22 Tryd.underlying5 (by kernel_rfl) (hval 0 22 v0 rfl rfl) h0
  refine (FnFirstReads_c x0 A0 c0 W hO0 wf0 (Law.bytes_cap Tryd.underlying22 (hval 0 22 _ rfl rfl))).mono fun e W' ⟨he, hb⟩ => ?_
  subst he
  refine ⟨_, rfl, Law.post_true Law.laidOut ?_ rfl rfl Tryd.underlying4 ⟨rfl, rfl, rfl⟩ hW' hb⟩
  intro t ht
  rw [Tryd.params6] at ht
  simp only [List.mem_cons, List.not_mem_nil, or_false] at ht
  first | (rcases ht with rfl <;> exact ⟨by kernel_rfl, of_decide_eq_true (by kernel_rfl)⟩)

theorem FnFirstReads_holds : Rows.FnFirstReadsSaid :=
  OpenClaim.holds_of_cond 6 Tryd.f6 rfl rfl rfl rfl rfl rfl rfl ⟨rfl, rfl, rfl, rfl, rfl⟩ rfl rfl rfl rfl rfl (by kernel_rfl) Tryd.func6 (by kernel_rfl)
    (of_decide_eq_true (by kernel_rfl)) (by unfold Func.isWrapper; first | (rw [if_pos (by decide +kernel)]; kernel_rfl) | (rw [if_neg (by decide +kernel)]; exact ⟨rfl, rfl⟩))
    (fun os started H enc _ F => by rw [OpenClaim.pre_eq_preRow]; exact FnFirstReads_lifted os started H enc F)
theorem FnFirstReads_plain (f : FuncId) (fn : Func) (hf : Tryd.pinned.checked.prog.funcNamed Rows.fnFirstReadsRow.func = some f) (hfn : Tryd.pinned.checked.prog.funcs[f]? = some fn) :
    false = Tryd.pinned.checked.prog.looks [] ∧ ∀ (j : Nat) t, fn.params[j]? = some t → Tryd.pinned.checked.prog.wantsStandIn t = false := by
  obtain rfl : f = 6 := Option.some.inj ((show Tryd.prog.funcNamed Rows.fnFirstReadsRow.func = some 6 by kernel_rfl).symm.trans hf) |>.symm
  obtain rfl : fn = Tryd.f6 := (Option.some.inj (Tryd.func6.symm.trans hfn)).symm
  refine ⟨by kernel_rfl, fun j t ht => ?_⟩
  rw [Tryd.params6] at ht
  have hm := Array.mem_of_getElem? ht
  simp only [List.mem_toArray, List.mem_cons, List.not_mem_nil, or_false] at hm
  rcases hm with rfl
  · exact (show Tryd.prog.wantsStandIn 22 = false by kernel_rfl)
theorem FnFirstReads_card : Rows.FnFirstReadsCardSaid :=
  Claim7.holds_tied_plain_at .later [] _ _ _ _ FnFirstReads_holds (fun _ h => by cases h) (by kernel_rfl) (fun _ h => by cases h) fnFirstReads_row_tie rfl ⟨rfl, rfl⟩ (by kernel_rfl) rfl FnFirstReads_plain (by kernel_rfl)

end Go.Proofs.YtagmlbhmojgnlaaDoor
