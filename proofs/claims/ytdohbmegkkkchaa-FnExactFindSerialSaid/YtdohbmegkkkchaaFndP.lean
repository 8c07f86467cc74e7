/-
  Plain facts: the first serial order that goes on from a beginning.
-/
import Derived.Test.YtdohbmegkkkchaaSer
namespace Go.Proofs.Ytdohbmegkkkchaa
set_option linter.unusedSimpArgs false
set_option linter.unusedVariables false
set_option maxRecDepth 100000

/-- the first order of all numbers that goes on from a beginning and whose reads are right (n: how many are left) -/
def fnd (h : List TxnT) (all : List Int) : Nat → List Int → Option (List Int)
  | 0, pre => some pre
  | n + 1, pre => all.findSome? fun x => if x ∈ pre then none else if (runH h (pre ++ [x])).isSome = true then fnd h all n (pre ++ [x]) else none
/-- .. with the beginning looked at, too -/
def fndR (h : List TxnT) (all : List Int) (n : Nat) (pre : List Int) : Option (List Int) := if (runH h pre).isSome = true then fnd h all n pre else none
def fndV (h : List TxnT) : Option (List Int) := if histv h = true then fnd h (dnT h h.length) (dnT h h.length).length [] else none
/-- what is left of all numbers behind a beginning -/
def left (all pre : List Int) : List Int := all.filter fun x => decide (x ∉ pre)
theorem left_nil (all : List Int) : left all [] = all := by simp [left]
theorem find_left (all pre : List Int) (G : Int → Option (List Int)) : all.findSome? (fun x => if x ∈ pre then none else G x) = (left all pre).findSome? G := by
  induction all with
  | nil => rfl
  | cons x xs ih =>
    unfold left at ih ⊢
    by_cases hx : x ∈ pre
    · rw [List.findSome?_cons, if_pos hx, List.filter_cons_of_neg (by simpa using hx)]
      exact ih
    · rw [List.findSome?_cons, if_neg hx, List.filter_cons_of_pos (by simpa using hx), List.findSome?_cons]
      cases G x with
      | some y => rfl
      | none => exact ih
theorem fnd_left (h : List TxnT) (all : List Int) (n : Nat) (pre : List Int) : fnd h all (n + 1) pre = (left all pre).findSome? fun x => fndR h all n (pre ++ [x]) := by
  conv => lhs; unfold fnd
  rw [← find_left]
  rfl
theorem erase_flt : ∀ (l : List Int), l.Nodup → ∀ (k : Nat) (x : Int), l[k]? = some x → l.eraseIdx k = l.filter fun y => decide (y ≠ x)
  | [], _, k, x, h => by simp at h
  | z :: zs, hn, k, x, h => by
    obtain ⟨h1, h2⟩ := List.nodup_cons.1 hn
    cases k with
    | zero =>
      simp at h
      subst h
      rw [List.eraseIdx_zero, List.tail_cons, List.filter_cons_of_neg (by simp)]
      symm
      rw [List.filter_eq_self]
      intro y hy
      simp only [ne_eq, decide_eq_true_eq]
      rintro rfl
      exact h1 hy
    | succ k =>
      have hx : zs[k]? = some x := by simpa using h
      have hne : z ≠ x := by rintro rfl; exact h1 (List.mem_of_getElem? hx)
      rw [List.eraseIdx_cons_succ, List.filter_cons_of_pos (by simpa using hne), erase_flt zs h2 k x hx]
theorem left_next {all pre : List Int} (hn : all.Nodup) {k : Nat} {x : Int} (hx : (left all pre)[k]? = some x) : left all (pre ++ [x]) = (left all pre).eraseIdx k := by
  have hnl : (left all pre).Nodup := hn.filter _
  have e1 : left all (pre ++ [x]) = (left all pre).filter (fun y => decide (y ≠ x)) := by
    unfold left
    rw [List.filter_filter]
    congr 1
    funext y
    simp only [List.mem_append, List.mem_singleton, not_or, ne_eq]
    by_cases h1 : y ∈ pre <;> by_cases h2 : y = x <;> simp [h1, h2]
  rw [e1]
  exact (erase_flt _ hnl k x hx).symm
theorem left_len {all pre : List Int} (hn : all.Nodup) {k : Nat} {x : Int} (hx : (left all pre)[k]? = some x) : (left all (pre ++ [x])).length + 1 = (left all pre).length := by
  rw [left_next hn hx, List.length_eraseIdx]
  obtain ⟨hk, _⟩ := List.getElem?_eq_some_iff.1 hx
  rw [if_pos hk]
  omega
theorem erase_split {xs : List Int} (k : Nat) (hk : k < xs.length) : xs.eraseIdx k = xs.take k ++ xs.drop (k + 1) := List.eraseIdx_eq_take_drop_succ xs k
/-- the search, number by number -/
theorem some_at {xs : List Int} {G : Int → Option (List Int)} {k : Nat} {x : Int} {ys : List Int} (hx : xs[k]? = some x) (hno : ∀ (j : Nat) y, j < k → xs[j]? = some y → G y = none) (hy : G x = some ys) : xs.findSome? G = some ys := by
  induction xs generalizing k with
  | nil => simp at hx
  | cons z zs ih =>
    rw [List.findSome?_cons]
    cases k with
    | zero =>
      simp at hx
      subst hx
      rw [hy]
    | succ k =>
      rw [hno 0 z (by omega) rfl]
      exact ih (by simpa using hx) (fun j y hj hjy => hno (j + 1) y (by omega) (by simpa using hjy))
theorem none_all {xs : List Int} {G : Int → Option (List Int)} (hno : ∀ (j : Nat) y, xs[j]? = some y → G y = none) : xs.findSome? G = none := by
  rw [List.findSome?_eq_none_iff]
  intro y hy
  obtain ⟨j, hj⟩ := List.mem_iff_getElem?.1 hy
  exact hno j y hj
end Go.Proofs.Ytdohbmegkkkchaa
