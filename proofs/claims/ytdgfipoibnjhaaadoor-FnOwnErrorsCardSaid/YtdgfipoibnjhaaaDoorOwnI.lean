/-
  Slices of ints that a call makes for itself.
-/
import Derived.Test.YtdgfipoibnjhaaaDoorOwn
import Derived.Test.YtdgfipoibnjhaaaDoorInts
namespace Go.Proofs.YtdgfipoibnjhaaaDoor
set_option linter.unusedSimpArgs false
set_option linter.unusedVariables false
set_option maxRecDepth 100000
open Go.RowKit

def flat1 (xs : List Int) : List Value := xs.map (Value.int .i64)

section
variable {w w' : World} {base : Nat} {e : TypeId} {v : Value} {n : Nat} {xs : List Int}
/-- a slice of ints of the call's own -/
def Own1 (w : World) (base : Nat) (e : TypeId) (v : Value) (xs : List Int) : Prop := w.ownsRow base e 1 v xs.length (flat1 xs)
theorem Own1.ext (h : Own1 w base e v xs) (hb : Ext w w') : Own1 w' base e v xs :=
  World.ownsRow.kept (row := none) h ⟨hb.os, hb.tape, hb.output, hb.size, fun k hk _ => hb.block k hk⟩ (by cases v <;> simp [Value.ownBlock]; split <;> simp)
theorem Own1.nil : Own1 w base e (.slice none 0 0) [] := World.ownsRow_nil _ _ _ _
theorem Own1.made (w : World) {g : Nat} (cur : Array Value) (cap : Nat) (hg : g = w.heap.size) (hb : base ≤ w.heap.size) (hm : cap ≤ 1048576) (hs : cur.size = cap * 1) : Own1 (w.alloc (.cells cur e)) base e (.slice (some ⟨g, 0, none⟩) 0 cap) [] := by
  subst hg
  exact World.ownsRow_made _ _ _ hb (by unfold maxLen; omega) hs
theorem Own1.form (h : Own1 w base e v xs) : ∃ A c, v = .slice A xs.length c ∧ Ints (fun b => base ≤ b) w A xs ∧ (∀ a, A = some a → base ≤ a.block ∧ a.block < w.heap.size ∧ ∀ o, w.frozen? ⟨a.block, o, none⟩ = false) := by
  rcases h.2 with ⟨rfl, hn⟩ | ⟨g, cap, cur, rfl, hb, hg, hle, hm, hs, ht⟩
  · have : xs = [] := List.eq_nil_of_length_eq_zero hn
    subst this
    exact ⟨none, 0, rfl, SlAt.nil, fun a ha => by cases ha⟩
  · have hlt : g < w.heap.size := (Array.getElem?_eq_some_iff.1 hg).1
    refine ⟨_, cap, rfl, fun i x hx => ⟨g, 0, _, rfl, hb, hlt, rfl, rfl, fun j u hu => ?_⟩, fun a ha => ?_⟩
    · have h2 : i < xs.length := (List.getElem?_eq_some_iff.1 hx).1
      have h3 : j = 0 := by have := (List.getElem?_eq_some_iff.1 hu).1; simpa using this
      subst h3
      have h1 : (flat1 xs)[i]? = some u := by
        cases hu
        simp [flat1, hx]
      rw [cell_of_row w g _ cur e (0, 0) hg, ← h1, ← ht, List.getElem?_take, if_pos (by omega)]
      simp
    · cases ha
      exact ⟨hb, hlt, fun o => by simp [World.frozen?, hg]⟩
theorem Own1.below (h : Own1 w base e v xs) {base' : Nat} (hb : base' ≤ base) : Own1 w base' e v xs := by
  refine ⟨h.1, ?_⟩
  rcases h.2 with h2 | ⟨g, cap, cur, hv, hg, r⟩
  · exact .inl h2
  · exact .inr ⟨g, cap, cur, hv, by omega, r⟩
end
theorem Own1.grown {w w' : World} {base : Nat} {e : TypeId} {v : Value} {xs : List Int} {row : Option Nat} (h : Own1 w base e v xs) (hg : w.grownBy w' row) (hne : row ≠ v.ownBlock) : Own1 w' base e v xs :=
  World.ownsRow.kept h hg (.inr (fun e => hne e.symm))

theorem own1_block {w : World} {base : Nat} {e : TypeId} {v : Value} {xs : List Int} (h : Own1 w base e v xs) (g : Nat) (hg : v.ownBlock = some g) : base ≤ g := by
  rcases h.2 with ⟨rfl, _⟩ | ⟨g', cap, cur, rfl, hb, _⟩
  · simp [Value.ownBlock] at hg
  · simp only [Value.ownBlock] at hg
    cases hg
    exact hb
/-- append of one int -/
theorem wpList_append1 {P : Program} (w : World) {ops : Array Oper} {rest : List Oper} {o : Oper} {a : Act} {Q : Exit → Act → World → Prop} (hgd : o.guard = none) (s x : Operand) (t : TypeId)
    (ho : o.op = .call { callee := .builtin .append, args := #[s, x], argTypes := #[t, t] })
    (base : Nat) (e : TypeId) {z : Value} (ht : P.underlying t = some (.slice e)) (hinfo : (P.info? e).map (fun i => (i.zero, i.size, i.bytes)) = some (some z, 1, 8)) (hzs : z.cells.size = 1)
    (v : Value) (xs : List Int) (hs : a.eval s = v) (hown : Own1 w base e v xs)
    (g : Nat) (x0 : Int) (hx : a.eval x = .slice (some ⟨g, 0, none⟩) 1 1) (c0 : w.cell? ⟨g, 0, none⟩ = some (.int .i64 x0))
    (hn : xs.length ≤ 1048576) (hbase : base ≤ w.heap.size)
    (h : ∀ v' w', Own1 w' base e v' (xs ++ [x0]) → w.grownBy w' v.ownBlock → wpList P ops Q rest (a.put o.dst v') w') : wpList P ops Q (o :: rest) a w := by
  obtain ⟨i0, hi, hz0, hz1, hz2⟩ := info_parts hinfo
  refine wpList_append_own w hgd s x t ho base e i0 z 1 8 ht hi hz0 hz1 hz2 hzs (by decide) v xs.length (flat1 xs) hs hown ⟨g, 0, none⟩ 1 1 [.int .i64 x0] hx rfl ?_ ?_ (by unfold maxLen; omega) (by omega) hbase ?_
  · intro j u hu
    match j, hu with
    | 0, hu => cases hu; exact c0
    | j + 1, hu => simp at hu
  · intro u hu
    simp at hu
    rcases hu with rfl
    rfl
  · intro v' w' h1 h2 _
    refine h v' w' ?_ h2
    unfold Own1
    rw [show flat1 (xs ++ [x0]) = flat1 xs ++ [.int .i64 x0] by simp [flat1], List.length_append]
    exact h1

/-- a call that hands back new ints -/
def FreshI (xs : List Int) (w : World) (en : Ending) (w' : World) : Prop :=
  ∃ A c, en = .returned (.slice A xs.length c) ∧ Ints (fun b => w.heap.size ≤ b) w' A xs ∧ (∀ a, A = some a → w.heap.size ≤ a.block ∧ a.block < w'.heap.size ∧ ∀ o, w'.frozen? ⟨a.block, o, none⟩ = false) ∧ Ext w w'
theorem Own1.fresh {w w' : World} {base : Nat} {e : TypeId} {v : Value} {xs : List Int} (h : Own1 w' base e v xs) (hb : w.heap.size ≤ base) (hE : Ext w w') : FreshI xs w (.returned v) w' := by
  obtain ⟨A, c, rfl, hA, hf⟩ := (h.below hb).form
  exact ⟨A, c, rfl, hA, hf, hE⟩
end Go.Proofs.YtdgfipoibnjhaaaDoor
