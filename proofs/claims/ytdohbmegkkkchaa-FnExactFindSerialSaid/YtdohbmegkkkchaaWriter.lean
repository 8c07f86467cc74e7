/-
  Contracts of WriterOf, the reference's and the program's.
-/
import Derived.Test.YtdohbmegkkkchaaWr
namespace Go.Proofs.Ytdohbmegkkkchaa
set_option linter.unusedSimpArgs false
set_option linter.unusedVariables false
set_option maxRecDepth 100000
open Go.RowKit

def isW (key val : Int) (p : Nat × T3) : Bool := decide (p.2 = (⟨2, key, val⟩ : T3))
/-- the number of the transaction that writes a value to a key, or -1 -/
def wrN (h : List TxnT) (key val : Int) : Int := (((prs h).find? (isW key val)).map fun p => (p.1 : Int)).getD (-1)
theorem wrN_hit {h : List TxnT} {k : Nat} {t : TxnT} (hk : h[k]? = some t) {j : Nat} {x : T3} (hj : t.ops[j]? = some x) {key val : Int} (hn : (prs (h.take k) ++ (t.ops.take j).map fun o => (k, o)).find? (isW key val) = none) (hx : x = ⟨2, key, val⟩) : wrN h key val = k := by
  obtain ⟨r, er⟩ := prs_split h hk (j := j + 1)
  unfold wrN
  rw [er, pre_succ _ _ hj, List.append_assoc, List.find?_append, hn]
  simp [isW, hx]
theorem wrN_range (h : List TxnT) (key val : Int) : wrN h key val = -1 ∨ ∃ k : Nat, k < h.length ∧ wrN h key val = k := by
  unfold wrN
  cases e : (prs h).find? (isW key val) with
  | none => left; rfl
  | some p =>
    right
    refine ⟨p.1, ?_, rfl⟩
    have hm := List.mem_of_find?_eq_some e
    unfold prs at hm
    rw [List.mem_flatMap] at hm
    obtain ⟨⟨t, n⟩, hz, ho⟩ := hm
    rw [List.mem_map] at ho
    obtain ⟨o, _, rfl⟩ := ho
    have := List.mem_zipIdx hz
    simp at this ⊢
    omega

theorem wr1_none {h : List TxnT} {key val : Int} (hn : wr1 (prs h) (key, val) = none) : wrN h key val = -1 := by
  unfold wr1 at hn
  unfold wrN
  rw [Option.map_eq_none_iff] at hn
  have e : (isW key val) = fun p : Nat × T3 => decide (p.2 = (⟨2, key, val⟩ : T3)) := rfl
  rw [e, hn]
  rfl
theorem wr1_get {h : List TxnT} {key val : Int} (hn : (wr1 (prs h) (key, val)).isNone = false) : wr1 (prs h) (key, val) = some (.int .i64 (wrN h key val)) := by
  unfold wr1 at hn ⊢
  unfold wrN
  have e : (isW key val) = fun p : Nat × T3 => decide (p.2 = (⟨2, key, val⟩ : T3)) := rfl
  rw [e]
  simp only at hn ⊢
  cases hf : (prs h).find? (fun p : Nat × T3 => decide (p.2 = (⟨2, key, val⟩ : T3))) with
  | none => rw [hf] at hn; cases hn
  | some p => rfl


end Go.Proofs.Ytdohbmegkkkchaa
