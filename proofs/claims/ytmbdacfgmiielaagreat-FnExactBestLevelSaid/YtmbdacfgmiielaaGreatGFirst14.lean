/-
  A value of a valid history has one writer.
-/
import Derived.Test.YtmbdacfgmiielaaGreatInst
import Derived.Test.YtmbdacfgmiielaaGreatGLst10
import Derived.Test.YtmbdacfgmiielaaGreatOwnH
import Derived.Test.YtmbdacfgmiielaaGreatGWr7
/-
  Contracts of FirstOrders, the reference's and the program's.
-/
namespace Go.Proofs.YtmbdacfgmiielaaGreat
set_option linter.unusedSimpArgs false
set_option linter.unusedVariables false
set_option maxRecDepth 100000
open Go.RowKit

def firstV (h : List TxnT) : List (List Int) := if histv h = true then [instd h 0, instd h 1, instd h 2] else []
/-- the first k orders -/
def firstT (h : List TxnT) (k : Nat) : List (List Int) := (List.range k).map fun i : Nat => instd h ((i : Nat) : Int)
theorem firstT_succ (h : List TxnT) (k : Nat) : firstT h (k + 1) = firstT h k ++ [instd h (k : Int)] := by simp [firstT, List.range_succ]
theorem infoRow : (Tryz.prog.info? 45).map (fun i => (i.zero, i.size, i.bytes)) = some (some (.slice none 0 0), 1, 24) := by kernel_rfl
end Go.Proofs.YtmbdacfgmiielaaGreat
/-
  Contracts of WriterOf, the reference's and the program's.
-/
namespace Go.Proofs.YtmbdacfgmiielaaGreat
set_option linter.unusedSimpArgs false
set_option linter.unusedVariables false
set_option maxRecDepth 100000
open Go.RowKit

def isW (key val : Int) (p : Nat × T3) : Bool := decide (p.2 = (⟨2, key, val⟩ : T3))
/-- the number of the transaction that writes a value to a key, or -1 -/
def wrN (h : List TxnT) (key val : Int) : Int := (((prs h).find? (isW key val)).map fun p => (p.1 : Int)).getD (-1)
theorem wrN_hit {h : List TxnT} {k : Nat} {t : TxnT} (hk : h[k]? = some t) {j : Nat} {x : T3} (hj : t.ops[j]? = some x) {key val : Int} (hn : (prs (h.take k) ++ (t.ops.take j).map fun o => (k, o)).find? (isW key val) = none) (hx : x = ⟨2, key, val⟩) : wrN h key val = k := by
  obtain ⟨r, er⟩ := prs_split h hk (j := j + 1)
  unfold wrN
  rw [er, pre_succ _ _ hj, List.append_assoc, List.find?_append, hn]
  simp [isW, hx]
theorem wrN_range (h : List TxnT) (key val : Int) : wrN h key val = -1 ∨ ∃ k : Nat, k < h.length ∧ wrN h key val = k := by
  unfold wrN
  cases e : (prs h).find? (isW key val) with
  | none => left; rfl
  | some p =>
    right
    refine ⟨p.1, ?_, rfl⟩
    have hm := List.mem_of_find?_eq_some e
    unfold prs at hm
    rw [List.mem_flatMap] at hm
    obtain ⟨⟨t, n⟩, hz, ho⟩ := hm
    rw [List.mem_map] at ho
    obtain ⟨o, _, rfl⟩ := ho
    have := List.mem_zipIdx hz
    simp at this ⊢
    omega

theorem wr1_none {h : List TxnT} {key val : Int} (hn : wr1 (prs h) (key, val) = none) : wrN h key val = -1 := by
  unfold wr1 at hn
  unfold wrN
  rw [Option.map_eq_none_iff] at hn
  have e : (isW key val) = fun p : Nat × T3 => decide (p.2 = (⟨2, key, val⟩ : T3)) := rfl
  rw [e, hn]
  rfl
theorem wr1_get {h : List TxnT} {key val : Int} (hn : (wr1 (prs h) (key, val)).isNone = false) : wr1 (prs h) (key, val) = some (.int .i64 (wrN h key val)) := by
  unfold wr1 at hn ⊢
  unfold wrN
  have e : (isW key val) = fun p : Nat × T3 => decide (p.2 = (⟨2, key, val⟩ : T3)) := rfl
  rw [e]
  simp only at hn ⊢
  cases hf : (prs h).find? (fun p : Nat × T3 => decide (p.2 = (⟨2, key, val⟩ : T3))) with
  | none => rw [hf] at hn; cases hn
  | some p => rfl
set_option maxHeartbeats 2000000 in
theorem l5Writer_c (h : List TxnT) (S : Nat → Prop) (A : Option Addr) (c : Nat) (key val : Int) (w : World) (hx : Txns S w A h) (hsm : Small h) :
    Calls Tryz.prog 60 #[.slice A h.length c, .int .i64 key, .int .i64 val] w fun e w' => e = .returned (.int .i64 (wrN h key val)) ∧ Ext w w' := by
  have heq := eqOp_run
  have hgd := eqOp_guard
  have hsl := hsm.len
  go_enter Tryz.func60, Tryz.ntmps60
  go_wp2
  go_loopw [7] (fun i wr => ∃ k : Nat, k ≤ h.length ∧ i = .int .i64 k ∧ (prs (h.take k)).find? (isW key val) = none ∧ Ext w wr) (fun i _ => h.length - (intOf i).toNat)
  case atStart => exact ⟨0, Nat.zero_le _, rfl, by simp [prs], Below.refl _ _⟩
  case round =>
    obtain ⟨k, hk, rfl, hnone, hE⟩ := hrel
    have hEz := hE.size
    have HN := Lib.hid hnone
    clear hnone
    by_cases hlt : k < h.length
    · obtain ⟨s, ops, d, A', cap, b, off, hxk, rfl, _, hb0, hO, c0, c1, c2⟩ := (hx.ext hE).at_ hlt
      have hon := hsm.ops hxk
      simp only at hon
      have HX := Lib.hid hxk
      clear hxk
      go_wp2
      obtain ⟨wo, rfl⟩ : ∃ wo : World, wo = wr := ⟨_, rfl⟩
      go_loopw [8] (fun i wr => ∃ j : Nat, j ≤ ops.length ∧ i = .int .i64 j ∧ (prs (h.take k) ++ (ops.take j).map fun o => (k, o)).find? (isW key val) = none ∧ Ext wo wr) (fun i _ => ops.length - (intOf i).toNat)
      case atStart => exact ⟨0, Nat.zero_le _, rfl, by simpa using HN.out, Below.refl _ _⟩
      case round =>
        obtain ⟨j, hj, rfl, hnone2, hE2⟩ := hrel
        obtain ⟨hc, hf, hz, hs2⟩ := bcell hE2
        have HN2 := Lib.hid hnone2
        clear hnone2
        by_cases hlt2 : j < ops.length
        · obtain ⟨x0, x1, x2, b2, off2, hyk, rfl, _, hb2, d0, d1, d2⟩ := (hO.ext hE2).at_ hlt2
          have HY := Lib.hid hyk
          clear hyk
          go_wp2
          · rename_i hw
            have e := wrN_hit HX.out HY.out HN2.out (by obtain ⟨a1, a2, a3⟩ := hw; rw [a1, a2, a3])
            go_ret
            exact ⟨ret_int e.symm, hE.tr hE2⟩
          · rename_i hw
            refine ⟨⟨j + 1, by omega, by go_num, ?_, by (repeat' (first | (with_reducible exact Below.refl _ _) | (with_reducible refine Below.mono (by assumption) ?_) | (with_reducible refine Below.trans ?_ (Below.mono (by assumption) ?_)) | (with_reducible refine Below.alloc ?_ ?_ _) | (with_reducible refine Below.drew ?_) | (with_reducible refine below_drewN ?_ _) | (with_reducible refine Below.setCell ?_ ?_ _) | (simp only [World.size_alloc, World.size_setCell, World.size_drew, size_drewN]; omega) | omega))⟩, by simp [intOf]; omega⟩
            rw [pre_succ _ _ HY.out, List.find?_append, HN2.out]
            have e : isW key val (k, ⟨x0, x1, x2⟩) = false := by simp [isW]; omega
            simp [e]
        · obtain rfl : j = ops.length := by omega
          go_wp2
          refine ⟨⟨k + 1, by omega, by go_num, ?_, hE.tr hE2⟩, by simp [intOf]; omega⟩
          rw [prs_take HX.out]
          have := HN2.out
          rwa [List.take_length] at this
    · obtain rfl : k = h.length := by omega
      rw [List.take_length] at HN
      have e : wrN h key val = -1 := by unfold wrN; rw [HN.out]; rfl
      go_wp2
      go_ret
      exact ⟨ret_int e.symm, hE⟩


set_option maxHeartbeats 2000000 in
theorem implWriterOf_c (h : List TxnT) (S : Nat → Prop) (A : Option Addr) (c : Nat) (key val : Int) (w : World) (hx : Txns S w A h) (hsm : Small h) :
    Calls Tryz.prog 50 #[.slice A h.length c, .int .i64 key, .int .i64 val] w fun e w' => e = .returned (.int .i64 (if histv h = true then wrN h key val else -1)) ∧ Ext w w' := by
  go_enter Tryz.func50, Tryz.ntmps50
  cases hv : histv h with
  | false =>
    go_wp2_with (go_at_call 43; refine (implHistoryValid_c h _ _ _ _ (hx.ext (by (repeat' (first | (with_reducible exact Below.refl _ _) | (with_reducible refine Below.mono (by assumption) ?_) | (with_reducible refine Below.trans ?_ (Below.mono (by assumption) ?_)) | (with_reducible refine Below.alloc ?_ ?_ _) | (with_reducible refine Below.drew ?_) | (with_reducible refine below_drewN ?_ _) | (with_reducible refine Below.setCell ?_ ?_ _) | (simp only [World.size_alloc, World.size_setCell, World.size_drew, size_drewN]; omega) | omega)))) hsm).mono ?_; rintro e w1 ⟨rfl, hb⟩; obtain ⟨hc, hf, hz, hs⟩ := bcell hb; (try simp only [World.size_alloc, World.size_setCell, World.size_drew, size_drewN] at hs); (first | have l0 := Nat.lt_of_lt_of_le l0 (show _ ≤ w1.heap.size by omega) | have l0 : w.heap.size < w1.heap.size := (by omega) | skip); (try have l0e := Nat.le_of_lt l0); (try have l0f := Nat.le_add_right_of_le (k := 1) l0e); (try have l1 := Nat.lt_of_lt_of_le l1 (show _ ≤ w1.heap.size by omega)); (try have l1e := Nat.le_of_lt l1); (try have l1f := Nat.le_add_right_of_le (k := 1) l1e); (try have l2 := Nat.lt_of_lt_of_le l2 (show _ ≤ w1.heap.size by omega)); (try have l2e := Nat.le_of_lt l2); (try have l2f := Nat.le_add_right_of_le (k := 1) l2e); (try have l3 := Nat.lt_of_lt_of_le l3 (show _ ≤ w1.heap.size by omega)); (try have l3e := Nat.le_of_lt l3); (try have l3f := Nat.le_add_right_of_le (k := 1) l3e))
    all_goals go_ret
    all_goals exact ⟨rfl, by (repeat' (first | (with_reducible exact Below.refl _ _) | (with_reducible refine Below.mono (by assumption) ?_) | (with_reducible refine Below.trans ?_ (Below.mono (by assumption) ?_)) | (with_reducible refine Below.alloc ?_ ?_ _) | (with_reducible refine Below.drew ?_) | (with_reducible refine below_drewN ?_ _) | (with_reducible refine Below.setCell ?_ ?_ _) | (simp only [World.size_alloc, World.size_setCell, World.size_drew, size_drewN]; omega) | omega))⟩
  | true =>
    have hv2 : (wfold (prs h)).isSome = true := by
      rw [histv_eq] at hv
      simp at hv
      exact hv.2
    go_wp2_with (fail)
    go_at_call 43
    refine (implHistoryValid_c h _ _ _ _ (hx.ext (by (repeat' (first | (with_reducible exact Below.refl _ _) | (with_reducible refine Below.mono (by assumption) ?_) | (with_reducible refine Below.trans ?_ (Below.mono (by assumption) ?_)) | (with_reducible refine Below.alloc ?_ ?_ _) | (with_reducible refine Below.drew ?_) | (with_reducible refine below_drewN ?_ _) | (with_reducible refine Below.setCell ?_ ?_ _) | (simp only [World.size_alloc, World.size_setCell, World.size_drew, size_drewN]; omega) | omega)))) hsm).mono ?_
    rintro e w1 ⟨rfl, hb⟩
    obtain ⟨hc, hf, hz, hs⟩ := bcell hb
    (try simp only [World.size_alloc, World.size_setCell, World.size_drew, size_drewN] at hs); (first | have l0 := Nat.lt_of_lt_of_le l0 (show _ ≤ w1.heap.size by omega) | have l0 : w.heap.size < w1.heap.size := (by omega) | skip); (try have l0e := Nat.le_of_lt l0); (try have l0f := Nat.le_add_right_of_le (k := 1) l0e); (try have l1 := Nat.lt_of_lt_of_le l1 (show _ ≤ w1.heap.size by omega)); (try have l1e := Nat.le_of_lt l1); (try have l1f := Nat.le_add_right_of_le (k := 1) l1e); (try have l2 := Nat.lt_of_lt_of_le l2 (show _ ≤ w1.heap.size by omega)); (try have l2e := Nat.le_of_lt l2); (try have l2f := Nat.le_add_right_of_le (k := 1) l2e); (try have l3 := Nat.lt_of_lt_of_le l3 (show _ ≤ w1.heap.size by omega)); (try have l3e := Nat.le_of_lt l3); (try have l3f := Nat.le_add_right_of_le (k := 1) l3e)
    rw [hv]
    go_wp2_with (first
      | (go_at_call 72; refine (writers_c h _ _ _ _ (hx.ext (by (repeat' (first | (with_reducible exact Below.refl _ _) | (with_reducible refine Below.mono (by assumption) ?_) | (with_reducible refine Below.trans ?_ (Below.mono (by assumption) ?_)) | (with_reducible refine Below.alloc ?_ ?_ _) | (with_reducible refine Below.drew ?_) | (with_reducible refine below_drewN ?_ _) | (with_reducible refine Below.setCell ?_ ?_ _) | (simp only [World.size_alloc, World.size_setCell, World.size_drew, size_drewN]; omega) | omega)))) hsm).mono ?_; rintro e w2 (⟨b, n, hR, rfl, hm, hmn, hmb, hb2⟩ | ⟨hR, rfl, hb2⟩); rotate_left; (rw [hR] at hv2; cases hv2))
      | (at_lookup; refine wpList_lookF _ rfl _ _ 90 true rfl Tryz.underlying90 write_keylaw (z := .int .i64 0) (fun W => Tryz.zeroValue3 W) _ _ n rfl (hm.ext (by (repeat' (first | (with_reducible exact Below.refl _ _) | (with_reducible refine Below.mono (by assumption) ?_) | (with_reducible refine Below.trans ?_ (Below.mono (by assumption) ?_)) | (with_reducible refine Below.alloc ?_ ?_ _) | (with_reducible refine Below.drew ?_) | (with_reducible refine below_drewN ?_ _) | (with_reducible refine Below.setCell ?_ ?_ _) | (simp only [World.size_alloc, World.size_setCell, World.size_drew, size_drewN]; omega) | omega)))) (key, val) rfl ?_))
    · rename_i hn
      go_ret
      exact ⟨ret_int (wr1_none (Option.isNone_iff_eq_none.1 hn)).symm, by (repeat' (first | (with_reducible exact Below.refl _ _) | (with_reducible refine Below.mono (by assumption) ?_) | (with_reducible refine Below.trans ?_ (Below.mono (by assumption) ?_)) | (with_reducible refine Below.alloc ?_ ?_ _) | (with_reducible refine Below.drew ?_) | (with_reducible refine below_drewN ?_ _) | (with_reducible refine Below.setCell ?_ ?_ _) | (simp only [World.size_alloc, World.size_setCell, World.size_drew, size_drewN]; omega) | omega))⟩
    · rename_i hn
      have hs := wr1_get hn
      go_ret
      exact ⟨by rw [hs]; rfl, by (repeat' (first | (with_reducible exact Below.refl _ _) | (with_reducible refine Below.mono (by assumption) ?_) | (with_reducible refine Below.trans ?_ (Below.mono (by assumption) ?_)) | (with_reducible refine Below.alloc ?_ ?_ _) | (with_reducible refine Below.drew ?_) | (with_reducible refine below_drewN ?_ _) | (with_reducible refine Below.setCell ?_ ?_ _) | (simp only [World.size_alloc, World.size_setCell, World.size_drew, size_drewN]; omega) | omega))⟩
end Go.Proofs.YtmbdacfgmiielaaGreat
/-
  Plain facts on writers; a drawn history read by anyone.
-/
namespace Go.Proofs.YtmbdacfgmiielaaGreat
set_option linter.unusedSimpArgs false
set_option linter.unusedVariables false
set_option maxRecDepth 100000
open Go.RowKit

theorem prs_mem {h : List TxnT} {p : Nat × T3} (hm : p ∈ prs h) : ∃ t, h[p.1]? = some t ∧ p.2 ∈ t.ops := by
  unfold prs at hm
  rw [List.mem_flatMap] at hm
  obtain ⟨⟨t, n⟩, hz, ho⟩ := hm
  rw [List.mem_map] at ho
  obtain ⟨o, ho, rfl⟩ := ho
  have := List.mem_zipIdx_iff_getElem?.1 hz
  exact ⟨t, by simpa using this, ho⟩
theorem wrN_mem {h : List TxnT} {key val : Int} (hw : 0 ≤ wrN h key val) : ∃ (k : Nat) (t : TxnT), wrN h key val = k ∧ h[k]? = some t ∧ (⟨2, key, val⟩ : T3) ∈ t.ops := by
  unfold wrN at hw ⊢
  cases e : (prs h).find? (isW key val) with
  | none => rw [e] at hw; simp at hw
  | some p =>
    obtain ⟨t, h1, h2⟩ := prs_mem (List.mem_of_find?_eq_some e)
    have h3 := List.find?_some e
    simp only [isW, decide_eq_true_eq] at h3
    exact ⟨p.1, t, rfl, h1, by rw [← h3]; exact h2⟩
end Go.Proofs.YtmbdacfgmiielaaGreat
namespace Go.Proofs.YtmbdacfgmiielaaGreat
set_option linter.unusedSimpArgs false
set_option linter.unusedVariables false
set_option maxRecDepth 100000
open Go.RowKit

theorem two_count {h : List TxnT} {x : T3} : ∀ {i j : Nat} {t t' : TxnT}, i < j → h[i]? = some t → h[j]? = some t' → x ∈ t.ops → x ∈ t'.ops → 2 ≤ (allOps h).count x := by
  induction h with
  | nil => intro i j t t' _ h1; simp at h1
  | cons a h ih =>
    intro i j t t' hij h1 h2 m1 m2
    have e : allOps (a :: h) = a.ops ++ allOps h := by simp [allOps]
    rw [e, List.count_append]
    cases j with
    | zero => omega
    | succ j =>
      cases i with
      | zero =>
        simp at h1
        subst h1
        have c1 : 0 < a.ops.count x := List.count_pos_iff.2 m1
        have c2 : 0 < (allOps h).count x := List.count_pos_iff.2 (by
          unfold allOps
          rw [List.mem_flatMap]
          exact ⟨t', List.mem_of_getElem? (by simpa using h2), m2⟩)
        omega
      | succ i =>
        have := ih (i := i) (j := j) (by omega) (by simpa using h1) (by simpa using h2) m1 m2
        omega
theorem wrN_of {h : List TxnT} {key v : Int} {k : Nat} {t : TxnT} (hv : histv h = true) (hk : h[k]? = some t) (hm : (⟨2, key, v⟩ : T3) ∈ t.ops) : wrN h key v = k := by
  have h0 : 0 ≤ wrN h key v := by
    unfold wrN
    cases e : (prs h).find? (isW key v) with
    | none =>
      rw [List.find?_eq_none] at e
      have hz : (k, (⟨2, key, v⟩ : T3)) ∈ prs h := by
        unfold prs
        rw [List.mem_flatMap]
        exact ⟨(t, k), List.mem_zipIdx_iff_getElem?.2 (by simpa using hk), List.mem_map.2 ⟨_, hm, rfl⟩⟩
      have := e _ hz
      simp [isW] at this
    | some p => simp
  obtain ⟨k', t', e, hk', hm'⟩ := wrN_mem h0
  rw [e]
  rcases Nat.lt_trichotomy k k' with hlt | heq | hlt
  · exfalso
    have h2 := two_count hlt hk hk' hm hm'
    simp only [histv, Bool.and_eq_true, List.all_eq_true] at hv
    have h3 := hv.1 t (List.mem_of_getElem? hk)
    simp only [txnOnce, Bool.and_eq_true, List.all_eq_true] at h3
    have h4 := h3.2 _ hm
    simp only [opOnce, Bool.not_eq_true', Bool.and_eq_false_iff, decide_eq_false_iff_not] at h4
    rcases h4 with h4 | h4
    · simp at h4
    · omega
  · rw [heq]
  · exfalso
    have h2 := two_count hlt hk' hk hm' hm
    simp only [histv, Bool.and_eq_true, List.all_eq_true] at hv
    have h3 := hv.1 t (List.mem_of_getElem? hk)
    simp only [txnOnce, Bool.and_eq_true, List.all_eq_true] at h3
    have h4 := h3.2 _ hm
    simp only [opOnce, Bool.not_eq_true', Bool.and_eq_false_iff, decide_eq_false_iff_not] at h4
    rcases h4 with h4 | h4
    · simp at h4
    · omega
theorem two_in {L : List T3} {i j : Nat} {x : T3} (hij : i < j) (hi : L[i]? = some x) (hj : L[j]? = some x) : 2 ≤ L.count x := by
  have hl : j < L.length := (List.getElem?_eq_some_iff.1 hj).1
  rw [← List.take_append_drop j L, List.count_append]
  have c1 : 0 < (L.take j).count x := List.count_pos_iff.2 (List.mem_of_getElem? (i := i) (by rw [List.getElem?_take, if_pos hij]; exact hi))
  have c2 : 0 < (L.drop j).count x := List.count_pos_iff.2 (List.mem_of_getElem? (i := 0) (by rw [List.getElem?_drop]; exact hj))
  omega
theorem count_ops {h : List TxnT} {t : TxnT} (ht : t ∈ h) (x : T3) : t.ops.count x ≤ (allOps h).count x := by
  induction h with
  | nil => cases ht
  | cons a h ih =>
    have e : allOps (a :: h) = a.ops ++ allOps h := by simp [allOps]
    rw [e, List.count_append]
    rcases List.mem_cons.1 ht with rfl | ht
    · omega
    · have := ih ht
      omega
theorem ops_once {h : List TxnT} (hv : histv h = true) {t : TxnT} (ht : t ∈ h) {i j : Nat} {x : T3} (hx : x.a = 2) (hi : t.ops[i]? = some x) (hj : t.ops[j]? = some x) : i = j := by
  obtain ⟨a, b, c⟩ := x
  simp only at hx
  subst hx
  have hc : (allOps h).count (⟨2, b, c⟩ : T3) < 2 := by
    simp only [histv, Bool.and_eq_true, List.all_eq_true] at hv
    have h3 := hv.1 t ht
    simp only [txnOnce, Bool.and_eq_true, List.all_eq_true] at h3
    have h4 := h3.2 _ (List.mem_of_getElem? hi)
    simp only [opOnce, Bool.not_eq_true', Bool.and_eq_false_iff, decide_eq_false_iff_not] at h4
    rcases h4 with h4 | h4
    · simp at h4
    · omega
  have h2 := count_ops ht (⟨2, b, c⟩ : T3)
  rcases Nat.lt_trichotomy i j with hlt | heq | hlt
  · have := two_in hlt hi hj; omega
  · exact heq
  · have := two_in hlt hj hi; omega
end Go.Proofs.YtmbdacfgmiielaaGreat
