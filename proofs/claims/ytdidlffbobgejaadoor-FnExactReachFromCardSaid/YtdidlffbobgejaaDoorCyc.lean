/-
  Contracts of the reference's CycleOf and l10Upto.
-/
import Derived.Test.YtdidlffbobgejaaDoorFarW
namespace Go.Proofs.YtdidlffbobgejaaDoor
set_option linter.unusedSimpArgs false
set_option linter.unusedVariables false
set_option maxRecDepth 100000
open Go.RowKit

def bstep (s : Nat) (f : Nat → Int) (b : Int) (e : T3) : Int := if e.a = s ∧ 0 ≤ f e.b.toNat ∧ (b < 0 ∨ f e.b.toNat < b) then f e.b.toNat else b
/-- the least distance behind an edge from s, or -1 -/
def best (L : List T3) (f : Nat → Int) (s : Nat) : Int := L.foldl (bstep s f) (-1)
def nstep (a : Int) (f : Nat → Int) (left : Nat) (n : Int) (e : T3) : Int := if e.a = a ∧ f e.b.toNat = left then min n e.b else n
/-- the least number behind an edge from a that is just so far away, or m -/
def nxt (m : Nat) (L : List T3) (f : Nat → Int) (a : Int) (left : Nat) : Int := L.foldl (nstep a f left) m
def way (m : Nat) (L : List T3) (f : Nat → Int) : Nat → Int → List Int
  | 0, _ => []
  | l + 1, a => nxt m L f a (l + 1) :: way m L f l (nxt m L f a (l + 1))
theorem way_len (m : Nat) (L : List T3) (f : Nat → Int) : ∀ l a, (way m L f l a).length = l
  | 0, _ => rfl
  | l + 1, a => by simp [way, way_len m L f l]
def cycS (m : Nat) (L : List T3) (s : Nat) : Option (List Int) :=
  if best L (farT L s m) s < 0 then none else some ((s : Int) :: way m L (farT L s m) (best L (farT L s m) s).toNat s)
/-- the reference's cycle -/
def cycR (m : Nat) (L : List T3) : List Int := ((List.range m).findSome? (cycS m L)).getD []
def cycV (many : Int) (L : List T3) : List Int := if edgesValid many L = true then cycR many.toNat L else []
theorem fold_inv {α β : Type} {g : β → α → β} {P : β → Prop} (hg : ∀ b e, P b → P (g b e)) : ∀ (L : List α) b, P b → P (L.foldl g b)
  | [], _, h => h
  | e :: L, b, h => fold_inv hg L _ (hg b e h)
theorem best_range {f : Nat → Int} {m : Nat} (hf : ∀ v, -1 ≤ f v ∧ f v ≤ m) (L : List T3) (s : Nat) : -1 ≤ best L f s ∧ best L f s ≤ m := by
  unfold best
  refine fold_inv (P := fun b : Int => -1 ≤ b ∧ b ≤ m) (fun b e h => ?_) L _ ⟨by omega, by omega⟩
  unfold bstep
  split
  · exact hf _
  · exact h
theorem bstep_nat (s : Nat) (f : Nat → Int) (b : Int) (a y : Nat) (z : Int) : bstep s f b ⟨(a : Int), (y : Int), z⟩ = if (a : Int) = s ∧ 0 ≤ f y ∧ (b < 0 ∨ f y < b) then f y else b := by simp [bstep]
theorem nstep_nat (a0 : Int) (f : Nat → Int) (left : Nat) (n : Int) (a y : Nat) (z : Int) : nstep a0 f left n ⟨(a : Int), (y : Int), z⟩ = if (a : Int) = a0 ∧ f y = left then min n y else n := by simp [nstep]
theorem findSome_none {α : Type} {g : Nat → Option α} {m : Nat} (h : ∀ s, s < m → g s = none) : (List.range m).findSome? g = none := by
  rw [List.findSome?_eq_none_iff]
  intro x hx
  exact h x (List.mem_range.1 hx)
theorem findSome_at {α : Type} {g : Nat → Option α} {m s : Nat} (hs : s < m) (h : ∀ s', s' < s → g s' = none) {x : α} (hx : g s = some x) : (List.range m).findSome? g = some x := by
  have e : List.range m = List.range s ++ (s :: (List.range' (s + 1) (m - s - 1))) := by
    rw [List.range_eq_range', List.range_eq_range', show m = s + (1 + (m - s - 1)) by omega, ← List.range'_append_1, Nat.zero_add]
    congr 1
    rw [show 1 + (m - s - 1) = (m - s - 1) + 1 by omega, List.range'_succ]
    congr 2
    omega
  rw [e, List.findSome?_append, findSome_none h]
  simp [hx]


/-- the edges whose kinds are at most a kind -/
def upto (kind : Int) (L : List T3) : List T3 := L.filter fun e => decide (e.c ≤ kind)
theorem upto_take {kind : Int} {L : List T3} {k : Nat} {e : T3} (h : L[k]? = some e) : upto kind (L.take (k + 1)) = if e.c ≤ kind then upto kind (L.take k) ++ [e] else upto kind (L.take k) := by
  unfold upto
  rw [List.take_add_one, h]
  simp only [Option.toList, List.filter_append, List.filter_cons, List.filter_nil]
  split <;> simp_all
theorem upto_len (kind : Int) (L : List T3) : (upto kind L).length ≤ L.length := List.length_filter_le _ _
end Go.Proofs.YtdidlffbobgejaaDoor
