/-
  Contracts of Installed, the reference's and the program's.
-/
import Derived.Test.YtnkaenjohkcfbaaDoorRes
import Derived.Test.YtnkaenjohkcfbaaDoorDone
import Derived.Test.YtnkaenjohkcfbaaDoorReads
import Derived.Test.YtnkaenjohkcfbaaDoorWr
namespace Go.Proofs.YtnkaenjohkcfbaaDoor
set_option linter.unusedSimpArgs false
set_option linter.unusedVariables false
set_option maxRecDepth 100000
open Go.RowKit

/-- the values of the operations on a key -/
def kvs (key : Int) : List T3 → List Int
  | [] => []
  | o :: l => if o.b = key then o.c :: kvs key l else kvs key l
theorem kvs_append (key : Int) (l m : List T3) : kvs key (l ++ m) = kvs key l ++ kvs key m := by
  induction l with
  | nil => rfl
  | cons o l ih =>
    simp only [List.cons_append, kvs]
    split <;> simp [ih]
theorem kvs_take {key : Int} {l : List T3} {j : Nat} {o : T3} (h : l[j]? = some o) : kvs key (l.take (j + 1)) = if o.b = key then kvs key (l.take j) ++ [o.c] else kvs key (l.take j) := by
  rw [List.take_add_one, h]
  simp only [Option.toList]
  rw [kvs_append]
  simp only [kvs]
  split <;> simp
theorem kvs_len (key : Int) (l : List T3) : (kvs key l).length ≤ l.length := by
  induction l with
  | nil => exact Nat.le_refl _
  | cons o l ih => simp only [kvs]; split <;> simp <;> omega
/-- the values that the committed ones among the first k transactions write last to a key -/
def inT (h : List TxnT) (key : Int) : Nat → List Int
  | 0 => []
  | k + 1 => match h[k]? with
    | some t => if t.done = true then inT h key k ++ kvs key (lwsTo t.ops 3) else inT h key k
    | none => inT h key k
theorem inT_succ {h : List TxnT} {key : Int} {k : Nat} {t : TxnT} (hk : h[k]? = some t) : inT h key (k + 1) = if t.done = true then inT h key k ++ kvs key (lwsTo t.ops 3) else inT h key k := by
  conv => lhs; unfold inT
  rw [hk]
theorem inT_len (h : List TxnT) (key : Int) (k : Nat) : (inT h key k).length ≤ 3 * k := by
  induction k with
  | zero => exact Nat.le_refl _
  | succ k ih =>
    unfold inT
    split
    · rename_i t _
      have h1 := kvs_len key (lwsTo t.ops 3)
      have h2 := lwsTo_len t.ops 3
      split
      · rw [List.length_append]; omega
      · omega
    · omega
theorem histv_len {h : List TxnT} (hv : histv h = true) : h.length ≤ 6 := by
  unfold histv at hv
  simp only [Bool.and_eq_true, decide_eq_true_eq] at hv
  exact hv.2
theorem histv_txn {h : List TxnT} (hv : histv h = true) : ∀ t ∈ h, txnv t = true := by
  intro t ht
  unfold histv at hv
  simp only [Bool.and_eq_true, List.all_eq_true] at hv
  have h1 := hv.1 t ht
  unfold txnOnce at h1
  simp only [Bool.and_eq_true] at h1
  exact h1.1
/-- what Installed returns -/
def instd (h : List TxnT) (key : Int) : List Int := if histv h = true ∧ inB key 0 2 = true then inT h key h.length else []
theorem instd_len (h : List TxnT) (key : Int) : (instd h key).length ≤ 18 := by
  unfold instd
  split
  · rename_i hc
    have := histv_len hc.1
    have := inT_len h key h.length
    omega
  · simp


/-- the same, over a list of numbers -/
def inD (h : List TxnT) (key : Int) (ns : List Int) : List Int := ns.flatMap fun n => match h[n.toNat]? with | some t => kvs key (lwsTo t.ops 3) | none => []
theorem inD_snoc {h : List TxnT} {key : Int} {ns : List Int} {k : Nat} {t : TxnT} (hk : h[k]? = some t) : inD h key (ns ++ [(k : Int)]) = inD h key ns ++ kvs key (lwsTo t.ops 3) := by
  unfold inD
  rw [List.flatMap_append]
  simp [hk]
theorem inD_dn (h : List TxnT) (key : Int) (k : Nat) : inD h key (dnT h k) = inT h key k := by
  induction k with
  | zero => rfl
  | succ k ih =>
    cases hk : h[k]? with
    | none =>
      have e1 : dnT h (k + 1) = dnT h k := by
        conv => lhs; unfold dnT
        rw [hk]
      have e2 : inT h key (k + 1) = inT h key k := by
        conv => lhs; unfold inT
        rw [hk]
      rw [e1, e2, ih]
    | some t =>
      rw [dnT_succ hk, inT_succ hk]
      split
      · rw [inD_snoc hk, ih]
      · exact ih
/-- the numbers of the committed ones are numbers of transactions -/
theorem dnT_mem {h : List TxnT} {k : Nat} {n : Int} (hn : n ∈ dnT h k) : ∃ (m : Nat) (t : TxnT), n = m ∧ m < k ∧ h[m]? = some t ∧ t.done = true := by
  induction k with
  | zero => cases hn
  | succ k ih =>
    unfold dnT at hn
    cases hk : h[k]? with
    | none =>
      rw [hk] at hn
      obtain ⟨m, t, h1, h2, h3⟩ := ih hn
      exact ⟨m, t, h1, by omega, h3⟩
    | some t =>
      rw [hk] at hn
      simp only at hn
      split at hn
      · rename_i hd
        rcases List.mem_append.1 hn with hn | hn
        · obtain ⟨m, t', h1, h2, h3⟩ := ih hn
          exact ⟨m, t', h1, by omega, h3⟩
        · simp at hn
          exact ⟨k, t, hn, by omega, hk, hd⟩
      · obtain ⟨m, t', h1, h2, h3⟩ := ih hn
        exact ⟨m, t', h1, by omega, h3⟩

end Go.Proofs.YtnkaenjohkcfbaaDoor
