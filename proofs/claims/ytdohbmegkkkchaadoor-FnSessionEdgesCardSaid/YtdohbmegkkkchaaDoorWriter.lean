/-
  Contracts of WriterOf, the reference's and the program's.
-/
import Derived.Test.YtdohbmegkkkchaaDoorWr
namespace Go.Proofs.YtdohbmegkkkchaaDoor
set_option linter.unusedSimpArgs false
set_option linter.unusedVariables false
set_option maxRecDepth 100000
open Go.RowKit

def isW (key val : Int) (p : Nat × T3) : Bool := decide (p.2 = (⟨2, key, val⟩ : T3))
/-- the number of the transaction that writes a value to a key, or -1 -/
def wrN (h : List TxnT) (key val : Int) : Int := (((prs h).find? (isW key val)).map fun p => (p.1 : Int)).getD (-1)
theorem wrN_hit {h : List TxnT} {k : Nat} {t : TxnT} (hk : h[k]? = some t) {j : Nat} {x : T3} (hj : t.ops[j]? = some x) {key val : Int} (hn : (prs (h.take k) ++ (t.ops.take j).map fun o => (k, o)).find? (isW key val) = none) (hx : x = ⟨2, key, val⟩) : wrN h key val = k := by
  obtain ⟨r, er⟩ := prs_split h hk (j := j + 1)
  unfold wrN
  rw [er, pre_succ _ _ hj, List.append_assoc, List.find?_append, hn]
  simp [isW, hx]
theorem wrN_range (h : List TxnT) (key val : Int) : wrN h key val = -1 ∨ ∃ k : Nat, k < h.length ∧ wrN h key val = k := by
  unfold wrN
  cases e : (prs h).find? (isW key val) with
  | none => left; rfl
  | some p =>
    right
    refine ⟨p.1, ?_, rfl⟩
    have hm := List.mem_of_find?_eq_some e
    unfold prs at hm
    rw [List.mem_flatMap] at hm
    obtain ⟨⟨t, n⟩, hz, ho⟩ := hm
    rw [List.mem_map] at ho
    obtain ⟨o, _, rfl⟩ := ho
    have := List.mem_zipIdx hz
    simp at this ⊢
    omega

theorem wr1_none {h : List TxnT} {key val : Int} (hn : wr1 (prs h) (key, val) = none) : wrN h key val = -1 := by
  unfold wr1 at hn
  unfold wrN
  rw [Option.map_eq_none_iff] at hn
  have e : (isW key val) = fun p : Nat × T3 => decide (p.2 = (⟨2, key, val⟩ : T3)) := rfl
  rw [e, hn]
  rfl
theorem wr1_get {h : List TxnT} {key val : Int} (hn : (wr1 (prs h) (key, val)).isNone = false) : wr1 (prs h) (key, val) = some (.int .i64 (wrN h key val)) := by
  unfold wr1 at hn ⊢
  unfold wrN
  have e : (isW key val) = fun p : Nat × T3 => decide (p.2 = (⟨2, key, val⟩ : T3)) := rfl
  rw [e]
  simp only at hn ⊢
  cases hf : (prs h).find? (fun p : Nat × T3 => decide (p.2 = (⟨2, key, val⟩ : T3))) with
  | none => rw [hf] at hn; cases hn
  | some p => rfl


set_option maxHeartbeats 2000000 in
theorem implWriterOf_c (h : List TxnT) (S : Nat → Prop) (A : Option Addr) (c : Nat) (key val : Int) (w : World) (hx : Txns S w A h) (hsm : Small h) :
    Calls Tryd.prog 102 #[.slice A h.length c, .int .i64 key, .int .i64 val] w fun e w' => e = .returned (.int .i64 (if histv h = true then wrN h key val else -1)) ∧ Ext w w' := by
  go_enter Tryd.func102, Tryd.ntmps102
  cases hv : histv h with
  | false =>
    go_wp2_with (go_at_call 31; refine (implHistoryValid_c h _ _ _ _ (hx.ext (by (repeat' (first | (with_reducible exact Below.refl _ _) | (with_reducible refine Below.mono (by assumption) ?_) | (with_reducible refine Below.trans ?_ (Below.mono (by assumption) ?_)) | (with_reducible refine Below.alloc ?_ ?_ _) | (with_reducible refine Below.drew ?_) | (with_reducible refine below_drewN ?_ _) | (with_reducible refine Below.setCell ?_ ?_ _) | (simp only [World.size_alloc, World.size_setCell, World.size_drew, size_drewN]; omega) | omega)))) hsm).mono ?_; rintro e w1 ⟨rfl, hb⟩; obtain ⟨hc, hf, hz, hs⟩ := bcell hb; (try simp only [World.size_alloc, World.size_setCell, World.size_drew, size_drewN] at hs); (first | have l0 := Nat.lt_of_lt_of_le l0 (show _ ≤ w1.heap.size by omega) | have l0 : w.heap.size < w1.heap.size := (by omega) | skip); (try have l0e := Nat.le_of_lt l0); (try have l0f := Nat.le_add_right_of_le (k := 1) l0e); (try have l1 := Nat.lt_of_lt_of_le l1 (show _ ≤ w1.heap.size by omega)); (try have l1e := Nat.le_of_lt l1); (try have l1f := Nat.le_add_right_of_le (k := 1) l1e); (try have l2 := Nat.lt_of_lt_of_le l2 (show _ ≤ w1.heap.size by omega)); (try have l2e := Nat.le_of_lt l2); (try have l2f := Nat.le_add_right_of_le (k := 1) l2e); (try have l3 := Nat.lt_of_lt_of_le l3 (show _ ≤ w1.heap.size by omega)); (try have l3e := Nat.le_of_lt l3); (try have l3f := Nat.le_add_right_of_le (k := 1) l3e))
    all_goals go_ret
    all_goals exact ⟨rfl, by (repeat' (first | (with_reducible exact Below.refl _ _) | (with_reducible refine Below.mono (by assumption) ?_) | (with_reducible refine Below.trans ?_ (Below.mono (by assumption) ?_)) | (with_reducible refine Below.alloc ?_ ?_ _) | (with_reducible refine Below.drew ?_) | (with_reducible refine below_drewN ?_ _) | (with_reducible refine Below.setCell ?_ ?_ _) | (simp only [World.size_alloc, World.size_setCell, World.size_drew, size_drewN]; omega) | omega))⟩
  | true =>
    have hv2 : (wfold (prs h)).isSome = true := by
      rw [histv_eq] at hv
      simp at hv
      exact hv.2
    go_wp2_with (fail)
    go_at_call 31
    refine (implHistoryValid_c h _ _ _ _ (hx.ext (by (repeat' (first | (with_reducible exact Below.refl _ _) | (with_reducible refine Below.mono (by assumption) ?_) | (with_reducible refine Below.trans ?_ (Below.mono (by assumption) ?_)) | (with_reducible refine Below.alloc ?_ ?_ _) | (with_reducible refine Below.drew ?_) | (with_reducible refine below_drewN ?_ _) | (with_reducible refine Below.setCell ?_ ?_ _) | (simp only [World.size_alloc, World.size_setCell, World.size_drew, size_drewN]; omega) | omega)))) hsm).mono ?_
    rintro e w1 ⟨rfl, hb⟩
    obtain ⟨hc, hf, hz, hs⟩ := bcell hb
    (try simp only [World.size_alloc, World.size_setCell, World.size_drew, size_drewN] at hs); (first | have l0 := Nat.lt_of_lt_of_le l0 (show _ ≤ w1.heap.size by omega) | have l0 : w.heap.size < w1.heap.size := (by omega) | skip); (try have l0e := Nat.le_of_lt l0); (try have l0f := Nat.le_add_right_of_le (k := 1) l0e); (try have l1 := Nat.lt_of_lt_of_le l1 (show _ ≤ w1.heap.size by omega)); (try have l1e := Nat.le_of_lt l1); (try have l1f := Nat.le_add_right_of_le (k := 1) l1e); (try have l2 := Nat.lt_of_lt_of_le l2 (show _ ≤ w1.heap.size by omega)); (try have l2e := Nat.le_of_lt l2); (try have l2f := Nat.le_add_right_of_le (k := 1) l2e); (try have l3 := Nat.lt_of_lt_of_le l3 (show _ ≤ w1.heap.size by omega)); (try have l3e := Nat.le_of_lt l3); (try have l3f := Nat.le_add_right_of_le (k := 1) l3e)
    rw [hv]
    go_wp2_with (first
      | (go_at_call 65; refine (writers_c h _ _ _ _ (hx.ext (by (repeat' (first | (with_reducible exact Below.refl _ _) | (with_reducible refine Below.mono (by assumption) ?_) | (with_reducible refine Below.trans ?_ (Below.mono (by assumption) ?_)) | (with_reducible refine Below.alloc ?_ ?_ _) | (with_reducible refine Below.drew ?_) | (with_reducible refine below_drewN ?_ _) | (with_reducible refine Below.setCell ?_ ?_ _) | (simp only [World.size_alloc, World.size_setCell, World.size_drew, size_drewN]; omega) | omega)))) hsm).mono ?_; rintro e w2 (⟨b, n, hR, rfl, hm, hmn, hmb, hb2⟩ | ⟨hR, rfl, hb2⟩); rotate_left; (rw [hR] at hv2; cases hv2))
      | (at_lookup; refine wpList_lookF _ rfl _ _ 84 true rfl Tryd.underlying84 write_keylaw (z := .int .i64 0) (fun W => Tryd.zeroValue3 W) _ _ n rfl (hm.ext (by (repeat' (first | (with_reducible exact Below.refl _ _) | (with_reducible refine Below.mono (by assumption) ?_) | (with_reducible refine Below.trans ?_ (Below.mono (by assumption) ?_)) | (with_reducible refine Below.alloc ?_ ?_ _) | (with_reducible refine Below.drew ?_) | (with_reducible refine below_drewN ?_ _) | (with_reducible refine Below.setCell ?_ ?_ _) | (simp only [World.size_alloc, World.size_setCell, World.size_drew, size_drewN]; omega) | omega)))) (key, val) rfl ?_))
    · rename_i hn
      go_ret
      exact ⟨ret_int (wr1_none (Option.isNone_iff_eq_none.1 hn)).symm, by (repeat' (first | (with_reducible exact Below.refl _ _) | (with_reducible refine Below.mono (by assumption) ?_) | (with_reducible refine Below.trans ?_ (Below.mono (by assumption) ?_)) | (with_reducible refine Below.alloc ?_ ?_ _) | (with_reducible refine Below.drew ?_) | (with_reducible refine below_drewN ?_ _) | (with_reducible refine Below.setCell ?_ ?_ _) | (simp only [World.size_alloc, World.size_setCell, World.size_drew, size_drewN]; omega) | omega))⟩
    · rename_i hn
      have hs := wr1_get hn
      go_ret
      exact ⟨by rw [hs]; rfl, by (repeat' (first | (with_reducible exact Below.refl _ _) | (with_reducible refine Below.mono (by assumption) ?_) | (with_reducible refine Below.trans ?_ (Below.mono (by assumption) ?_)) | (with_reducible refine Below.alloc ?_ ?_ _) | (with_reducible refine Below.drew ?_) | (with_reducible refine below_drewN ?_ _) | (with_reducible refine Below.setCell ?_ ?_ _) | (simp only [World.size_alloc, World.size_setCell, World.size_drew, size_drewN]; omega) | omega))⟩
end Go.Proofs.YtdohbmegkkkchaaDoor
