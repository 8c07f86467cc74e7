/-
  Rows of ints that a call makes for itself, row by row.
-/
import Derived.Test.YtdgfipoibnjhaaaLst
namespace Go.Proofs.Ytdgfipoibnjhaaa
set_option linter.unusedSimpArgs false
set_option linter.unusedVariables false
set_option maxRecDepth 100000
open Go.RowKit

/-- a row with its place -/
structure PR where
  A : Option Addr
  c : Nat
  xs : List Int
def PR.cell (p : PR) : Value := .slice p.A p.xs.length p.c
def flatR (ps : List PR) : List Value := ps.map PR.cell
/-- a row's memory -/
def RowIn (w : World) (B : Nat) (p : PR) : Prop := Ints (fun b => some b = rowOf p.A) w p.A p.xs ∧ ∀ a, p.A = some a → B ≤ a.block ∧ a.block < w.heap.size ∧ ∀ o, w.frozen? ⟨a.block, o, none⟩ = false
theorem RowIn.grown {w w' : World} {B : Nat} {p : PR} {row : Option Nat} (h : RowIn w B p) (hg : w.grownBy w' row) (hne : ∀ a, p.A = some a → some a.block ≠ row) : RowIn w' B p := by
  refine ⟨h.1.grown hg (fun b hb hlt he => ?_), fun a ha => ?_⟩
  · cases hA : p.A with
    | none => rw [hA] at hb; simp [rowOf] at hb
    | some a =>
      rw [hA] at hb
      have : b = a.block := by simpa [rowOf] using hb
      subst this
      exact hne a hA he
  · obtain ⟨h1, h2, h3⟩ := h.2 a ha
    exact ⟨h1, Nat.lt_of_lt_of_le h2 hg.size, fun o => by rw [World.frozen?_of_block (a := ⟨a.block, o, none⟩) (hg.block a.block h2 (hne a ha))]; exact h3 o⟩
theorem RowIn.ext {w w' : World} {B : Nat} {p : PR} (h : RowIn w B p) (hE : Ext w w') : RowIn w' B p := h.grown (row := none) (grown_ext hE _) (fun a _ => by simp)
theorem RowIn.below {w : World} {B B' : Nat} {p : PR} (h : RowIn w B p) (hb : B' ≤ B) : RowIn w B' p := ⟨h.1, fun a ha => ⟨Nat.le_trans hb (h.2 a ha).1, (h.2 a ha).2⟩⟩
theorem RowIn.of {w : World} {B : Nat} {A : Option Addr} {c : Nat} {xs : List Int} {S : Nat → Prop} (h : Ints S w A xs) (hf : ∀ a, A = some a → B ≤ a.block ∧ a.block < w.heap.size ∧ ∀ o, w.frozen? ⟨a.block, o, none⟩ = false) : RowIn w B ⟨A, c, xs⟩ := by
  refine ⟨fun i x hx => ?_, hf⟩
  obtain ⟨b, off, us, rfl, _, h2, h3, h4, h5⟩ := h i x hx
  exact ⟨b, off, us, rfl, rfl, h2, h3, h4, h5⟩
/-- the slice v holds the rows ps, each in a block apart -/
structure OwnR (w : World) (B : Nat) (v : Value) (ps : List PR) : Prop where
  out : w.ownsRow B 39 1 v ps.length (flatR ps)
  row : ∀ p ∈ ps, RowIn w B p ∧ ∀ a, p.A = some a → some a.block ≠ v.ownBlock
  apart : ∀ (i j : Nat) p q a b, i < j → ps[i]? = some p → ps[j]? = some q → p.A = some a → q.A = some b → a.block ≠ b.block
section
variable {w w' : World} {B : Nat} {v : Value} {ps : List PR}
theorem OwnR.lt (h : OwnR w B v ps) : ∀ g, v.ownBlock = some g → B ≤ g ∧ g < w.heap.size := fun g hg => World.ownsRow.lt h.out g hg
theorem OwnR.grown {row : Option Nat} (h : OwnR w B v ps) (hg : w.grownBy w' row) (h1 : v.ownBlock = none ∨ v.ownBlock ≠ row) (h2 : ∀ p ∈ ps, ∀ a, p.A = some a → some a.block ≠ row) : OwnR w' B v ps :=
  ⟨World.ownsRow.kept h.out hg h1, fun p hp => ⟨(h.row p hp).1.grown hg (h2 p hp), (h.row p hp).2⟩, h.apart⟩
theorem OwnR.ext (h : OwnR w B v ps) (hE : Ext w w') : OwnR w' B v ps := h.grown (row := none) (grown_ext hE _) (by cases v.ownBlock <;> simp) (fun p _ a _ => by simp)
theorem OwnR.below (h : OwnR w B v ps) {B' : Nat} (hb : B' ≤ B) : OwnR w B' v ps := by
  refine ⟨⟨h.out.1, ?_⟩, fun p hp => ⟨(h.row p hp).1.below hb, (h.row p hp).2⟩, h.apart⟩
  rcases h.out.2 with h2 | ⟨g, cap, cur, hv, hg, r⟩
  · exact .inl h2
  · exact .inr ⟨g, cap, cur, hv, by omega, r⟩
theorem OwnR.made (w : World) {B : Nat} (cur : Array Value) (cap : Nat) (hb : B ≤ w.heap.size) (hm : cap ≤ 1048576) (hs : cur.size = cap * 1) : OwnR (w.alloc (.cells cur 39)) B (.slice (some ⟨w.heap.size, 0, none⟩) 0 cap) [] :=
  ⟨World.ownsRow_made _ _ _ hb (by unfold maxLen; omega) hs, (fun p hp => by cases hp), (fun i j p q a b _ h => by simp at h)⟩
theorem OwnR.nil : OwnR w B (.slice none 0 0) [] := ⟨World.ownsRow_nil _ _ _ _, (fun p hp => by cases hp), (fun i j p q a b _ h => by simp at h)⟩
/-- what a call handed back lies apart from what was there -/
theorem OwnR.new {w0 w1 : World} {v : Value} {ps : List PR} (h : OwnR w0 B v ps) (hB : B ≤ w0.heap.size) {A : Option Addr} {c : Nat} {xs : List Int} {S : Nat → Prop} (hI : Ints S w1 A xs) (hf : ∀ a, A = some a → w0.heap.size ≤ a.block ∧ a.block < w1.heap.size ∧ ∀ o, w1.frozen? ⟨a.block, o, none⟩ = false) :
    RowIn w1 B ⟨A, c, xs⟩ ∧ (∀ a, A = some a → some a.block ≠ v.ownBlock) ∧ ∀ q ∈ ps, ∀ a b, A = some a → q.A = some b → b.block ≠ a.block := by
  refine ⟨(RowIn.of hI hf).below hB, fun a ha he => ?_, fun q hq a b ha hb he => ?_⟩
  · have h1 := (h.lt a.block he.symm).2
    have h2 := (hf a ha).1
    omega
  · have h1 := ((h.row q hq).1.2 b hb).2.1
    have h2 := (hf a ha).1
    omega
/-- in the reader's words -/
theorem OwnR.fresh {w w' : World} {v : Value} (h : OwnR w' B v ps) (hb : w.heap.size ≤ B) (hE : Ext w w') : FreshRR (ps.map PR.xs) w (.returned v) w' := by
  rcases h.out.2 with ⟨rfl, hn⟩ | ⟨g, cap, cur, rfl, hB, hg, hle, hm, hs, ht⟩
  · obtain rfl : ps = [] := List.eq_nil_of_length_eq_zero hn
    exact ⟨none, 0, fun _ => none, rfl, ⟨(fun i x hx => by simp at hx), (fun i j a b _ hj => by simp at hj)⟩, hE⟩
  · have hlt : g < w'.heap.size := (Array.getElem?_eq_some_iff.1 hg).1
    refine ⟨some ⟨g, 0, none⟩, cap, fun i => (ps[i]?).bind PR.A, by rw [List.length_map], ⟨fun i x hx => ?_, fun i j a b hij hj ha hbb => ?_⟩, hE⟩
    · rw [List.getElem?_map] at hx
      obtain ⟨p, hp, rfl⟩ := Option.map_eq_some_iff.1 hx
      have hil : i < ps.length := (List.getElem?_eq_some_iff.1 hp).1
      have hr := h.row p (List.mem_of_getElem? hp)
      simp only [hp, Option.bind_some]
      refine ⟨g, 0, p.c, rfl, by omega, hlt, ?_, hr.1.1, fun a ha => ?_⟩
      · have h1 : (flatR ps)[i]? = some p.cell := by simp [flatR, hp]
        rw [cell_of_row w' g _ cur _ (0, 0) hg, show some (Value.slice p.A p.xs.length p.c) = some p.cell from rfl, ← h1, ← ht, List.getElem?_take, if_pos (by omega)]
        simp
      · obtain ⟨h1, h2, h3⟩ := hr.1.2 a ha
        exact ⟨by omega, h2, h3, fun e => hr.2 a ha (by simp [Value.ownBlock, e])⟩
    · obtain ⟨p, hp, ha⟩ := Option.bind_eq_some_iff.1 ha
      obtain ⟨q, hq, hbb⟩ := Option.bind_eq_some_iff.1 hbb
      exact h.apart i j p q a b hij hp hq ha hbb
end
end Go.Proofs.Ytdgfipoibnjhaaa
