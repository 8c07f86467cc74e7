/-
  Slices that a call makes for itself, element by element; plain functions on operations.
-/
import Derived.Test.YtdgfipoibnjhaaaDoorMap
import Derived.Test.YtdgfipoibnjhaaaDoorValid
import Derived.Maps.AppendAt
namespace Go.Proofs.YtdgfipoibnjhaaaDoor
set_option linter.unusedSimpArgs false
set_option linter.unusedVariables false
set_option maxRecDepth 100000
open Go.RowKit

def flat3 (xs : List T3) : List Value := xs.flatMap fun x => [.int .i64 x.a, .int .i64 x.b, .int .i64 x.c]
theorem flat3_len (xs : List T3) : (flat3 xs).length = xs.length * 3 := by
  induction xs with
  | nil => rfl
  | cons y ys ih => simp [flat3] at ih ⊢; omega
theorem flat3_app (xs ys : List T3) : flat3 (xs ++ ys) = flat3 xs ++ flat3 ys := by simp [flat3]
theorem flat3_at (xs : List T3) : ∀ (i : Nat) (x : T3), xs[i]? = some x → ∀ j u, ([.int .i64 x.a, .int .i64 x.b, .int .i64 x.c] : List Value)[j]? = some u → (flat3 xs)[i * 3 + j]? = some u := by
  induction xs with
  | nil => intro i x h; simp at h
  | cons y ys ih =>
    intro i x h j u hu
    have e : flat3 (y :: ys) = [.int .i64 y.a, .int .i64 y.b, .int .i64 y.c] ++ flat3 ys := by simp [flat3]
    have hj : j < 3 := by
      have := (List.getElem?_eq_some_iff.1 hu).1
      simpa using this
    cases i with
    | zero =>
      simp at h
      subst h
      rw [e, List.getElem?_append_left (by simp; omega)]
      simpa using hu
    | succ i =>
      rw [e, List.getElem?_append_right (by simp; omega)]
      have := ih i x (by simpa using h) j u hu
      simpa [show (i + 1) * 3 + j - 3 = i * 3 + j by omega] using this

section
variable {w w' : World} {base : Nat} {e : TypeId} {v : Value} {n : Nat} {xs : List T3}
/-- a slice of the call's own -/
def Own3 (w : World) (base : Nat) (e : TypeId) (v : Value) (xs : List T3) : Prop := w.ownsRow base e 3 v xs.length (flat3 xs)
theorem Own3.ext (h : Own3 w base e v xs) (hb : Ext w w') : Own3 w' base e v xs :=
  World.ownsRow.kept (row := none) h ⟨hb.os, hb.tape, hb.output, hb.size, fun k hk _ => hb.block k hk⟩ (by cases v <;> simp [Value.ownBlock]; split <;> simp)
theorem Own3.nil : Own3 w base e (.slice none 0 0) [] := World.ownsRow_nil _ _ _ _
theorem Own3.made (w : World) {g : Nat} (cur : Array Value) (cap : Nat) (hg : g = w.heap.size) (hb : base ≤ w.heap.size) (hm : cap ≤ 1048576) (hs : cur.size = cap * 3) : Own3 (w.alloc (.cells cur e)) base e (.slice (some ⟨g, 0, none⟩) 0 cap) [] := by
  subst hg
  exact World.ownsRow_made _ _ _ hb (by unfold maxLen; omega) hs
theorem Own3.form (h : Own3 w base e v xs) : ∃ A c, v = .slice A xs.length c ∧ Ops (fun b => base ≤ b) w A xs ∧ (∀ a, A = some a → base ≤ a.block ∧ a.block < w.heap.size ∧ ∀ o, w.frozen? ⟨a.block, o, none⟩ = false) := by
  rcases h.2 with ⟨rfl, hn⟩ | ⟨g, cap, cur, rfl, hb, hg, hle, hm, hs, ht⟩
  · have : xs = [] := List.eq_nil_of_length_eq_zero hn
    subst this
    exact ⟨none, 0, rfl, SlAt.nil, fun a ha => by cases ha⟩
  · have hlt : g < w.heap.size := (Array.getElem?_eq_some_iff.1 hg).1
    refine ⟨_, cap, rfl, fun i x hx => ⟨g, 0, _, rfl, hb, hlt, rfl, rfl, fun j u hu => ?_⟩, fun a ha => ?_⟩
    · have h1 := flat3_at xs i x hx j u hu
      rw [cell_of_row w g _ cur e (0, 0) hg, ← h1, ← ht, List.getElem?_take, if_pos]
      · simp
      · have h2 : i < xs.length := (List.getElem?_eq_some_iff.1 hx).1
        have h3 : j < 3 := by have := (List.getElem?_eq_some_iff.1 hu).1; simpa using this
        omega
    · cases ha
      exact ⟨hb, hlt, fun o => by simp [World.frozen?, hg]⟩
theorem Own3.below (h : Own3 w base e v xs) {base' : Nat} (hb : base' ≤ base) : Own3 w base' e v xs := by
  refine ⟨h.1, ?_⟩
  rcases h.2 with h2 | ⟨g, cap, cur, hv, hg, r⟩
  · exact .inl h2
  · exact .inr ⟨g, cap, cur, hv, by omega, r⟩
/-- an owned slice and a map lie in different blocks -/
theorem Own3.ne_map {κ : Type} [DecidableEq κ] {ek : κ → Value} {b : Nat} {f : κ → Option Value} {m : Nat} (h : Own3 w base e v xs) (hm : MapF ek w b f m) : some b ≠ v.ownBlock := by
  obtain ⟨es, clk, kvs, hb, _⟩ := hm
  rcases h.2 with ⟨rfl, _⟩ | ⟨g, cap, cur, rfl, _, hg, _⟩
  · simp [Value.ownBlock]
  · simp only [Value.ownBlock]
    intro he
    injection he with he
    subst he
    rw [hb] at hg
    cases hg
end

theorem Own3.grown {w w' : World} {base : Nat} {e : TypeId} {v : Value} {xs : List T3} {row : Option Nat} (h : Own3 w base e v xs) (hg : w.grownBy w' row) (hne : row ≠ v.ownBlock) : Own3 w' base e v xs :=
  World.ownsRow.kept h hg (.inr (fun e => hne e.symm))

/-- append of one three-number struct -/
theorem wpList_append3 {P : Program} (w : World) {ops : Array Oper} {rest : List Oper} {o : Oper} {a : Act} {Q : Exit → Act → World → Prop} (hgd : o.guard = none) (s x : Operand) (t : TypeId)
    (ho : o.op = .call { callee := .builtin .append, args := #[s, x], argTypes := #[t, t] })
    (base : Nat) (e : TypeId) {z : Value} (ht : P.underlying t = some (.slice e)) (hinfo : (P.info? e).map (fun i => (i.zero, i.size, i.bytes)) = some (some z, 3, 24)) (hzs : z.cells.size = 3)
    (v : Value) (xs : List T3) (hs : a.eval s = v) (hown : Own3 w base e v xs)
    (g : Nat) (x0 x1 x2 : Int) (hx : a.eval x = .slice (some ⟨g, 0, none⟩) 1 1) (c0 : w.cell? ⟨g, 0, none⟩ = some (.int .i64 x0)) (c1 : w.cell? ⟨g, 1, none⟩ = some (.int .i64 x1)) (c2 : w.cell? ⟨g, 2, none⟩ = some (.int .i64 x2))
    (hn : xs.length ≤ 1048576) (hbase : base ≤ w.heap.size)
    (h : ∀ v' w', Own3 w' base e v' (xs ++ [⟨x0, x1, x2⟩]) → w.grownBy w' v.ownBlock → wpList P ops Q rest (a.put o.dst v') w') : wpList P ops Q (o :: rest) a w := by
  obtain ⟨i0, hi, hz0, hz1, hz2⟩ := info_parts hinfo
  refine wpList_append_own w hgd s x t ho base e i0 z 3 24 ht hi hz0 hz1 hz2 hzs (by decide) v xs.length (flat3 xs) hs hown ⟨g, 0, none⟩ 1 1 [.int .i64 x0, .int .i64 x1, .int .i64 x2] hx rfl ?_ ?_ (by unfold maxLen; omega) (by omega) hbase ?_
  · intro j u hu
    match j, hu with
    | 0, hu => cases hu; exact c0
    | 1, hu => cases hu; exact c1
    | 2, hu => cases hu; exact c2
    | j + 3, hu => simp at hu
  · intro u hu
    simp at hu
    rcases hu with rfl | rfl | rfl <;> rfl
  · intro v' w' h1 h2 _
    refine h v' w' ?_ h2
    unfold Own3
    rw [flat3_app, List.length_append]
    exact h1

/-- a call that hands back new three-number structs -/
def Fresh (xs : List T3) (w : World) (en : Ending) (w' : World) : Prop :=
  ∃ A c, en = .returned (.slice A xs.length c) ∧ Ops (fun b => w.heap.size ≤ b) w' A xs ∧ (∀ a, A = some a → w.heap.size ≤ a.block ∧ a.block < w'.heap.size ∧ ∀ o, w'.frozen? ⟨a.block, o, none⟩ = false) ∧ Ext w w'
theorem Own3.fresh {w w' : World} {base : Nat} {e : TypeId} {v : Value} {xs : List T3} (h : Own3 w' base e v xs) (hb : w.heap.size ≤ base) (hE : Ext w w') : Fresh xs w (.returned v) w' := by
  obtain ⟨A, c, rfl, hA, hf⟩ := (h.below hb).form
  exact ⟨A, c, rfl, hA, hf, hE⟩
theorem Own3.cut {w : World} {base : Nat} {e : TypeId} {v : Value} {xs : List T3} (h : Own3 w base e v xs) : ∃ A c, v = .slice A xs.length c ∧ xs.length ≤ c ∧ c ≤ maxLen ∧ (A = none → xs.length = 0 ∧ c = 0) ∧ ∀ a, A = some a → ∃ g, a = ⟨g, 0, none⟩ := by
  rcases h.2 with ⟨rfl, hn⟩ | ⟨g, cap, cur, rfl, hb, hg, hle, hm, hs, ht⟩
  · exact ⟨none, 0, by rw [hn], by omega, by omega, fun _ => ⟨hn, rfl⟩, fun a ha => by cases ha⟩
  · exact ⟨_, cap, rfl, hle, hm, (fun h => by cases h), fun a ha => by cases ha; exact ⟨g, rfl⟩⟩

/-- the value of the last operation on a key among the first n, or -1 -/
def before (ops : List T3) (key : Int) : Nat → Int
  | 0 => -1
  | n + 1 => match ops[n]? with
    | some o => if o.b = key then o.c else before ops key n
    | none => before ops key n
/-- the first reads among the first n -/
def frs (ops : List T3) : Nat → List T3
  | 0 => []
  | n + 1 => match ops[n]? with
    | some o => if o.a = 1 ∧ before ops o.b n < 0 then frs ops n ++ [o] else frs ops n
    | none => frs ops n
theorem frs_hit {ops : List T3} {n : Nat} {o : T3} (h : ops[n]? = some o) (hc : o.a = 1 ∧ before ops o.b n < 0) : frs ops (n + 1) = frs ops n ++ [o] := by simp [frs, h, hc]
theorem frs_miss {ops : List T3} {n : Nat} {o : T3} (h : ops[n]? = some o) (hc : ¬ (o.a = 1 ∧ before ops o.b n < 0)) : frs ops (n + 1) = frs ops n := by
  unfold frs
  rw [h]
  simp only [if_neg hc]
  cases n <;> rfl
theorem frs_len (ops : List T3) (n : Nat) : (frs ops n).length ≤ n := by
  induction n with
  | zero => simp [frs]
  | succ n ih =>
    unfold frs
    split
    · split
      · simp; omega
      · omega
    · omega
end Go.Proofs.YtdgfipoibnjhaaaDoor
