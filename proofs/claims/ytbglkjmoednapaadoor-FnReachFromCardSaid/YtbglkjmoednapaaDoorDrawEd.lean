/-
  Contracts of the draws of edges; append of a whole slice of edges.
-/
import Derived.Test.YtbglkjmoednapaaDoorDrawE
import Derived.Test.YtbglkjmoednapaaDoorAlive
import Derived.Laws.AppendOwnNone
namespace Go.Proofs.YtbglkjmoednapaaDoor
set_option linter.unusedSimpArgs false
set_option linter.unusedVariables false
set_option maxRecDepth 100000
open Go.RowKit

theorem grown_new {w w1 w2 : World} {r : Nat} (hE : Ext w w1) (hr : w.heap.size ≤ r) (h : w1.grownBy w2 (some r)) : Ext w w2 :=
  ⟨h.os.trans hE.os, h.tape.trans hE.tape, h.output.trans hE.output, Nat.le_trans hE.size h.size, fun k hk => (h.block k (Nat.lt_of_lt_of_le hk hE.size) (fun e => by have := Option.some.inj e; omega)).trans (hE.block k hk)⟩
/-- drawn edges; old memory is as it was -/
def DrewE (w : World) (e : Ending) (w' : World) : Prop := ∃ (m : Int) (L : List T3) (A : Option Addr) (c : Nat), e = .returned (.tuple #[.int .i64 m, .slice A L.length c]) ∧ Ops (fun b => w.heap.size ≤ b) w' A L ∧ (A = none → c = 0) ∧ -1 ≤ m ∧ m ≤ 7 ∧ L.length ≤ 9 ∧ Ext w w'
/-- append of the elements of a slice of three-number structs, wherever it lies -/
theorem wpList_append3s {P : Program} (w : World) {ops : Array Oper} {rest : List Oper} {o : Oper} {a : Act} {Q : Exit → Act → World → Prop} (hgd : o.guard = none) (s x : Operand) (t : TypeId)
    (ho : o.op = .call { callee := .builtin .append, args := #[s, x], argTypes := #[t, t] })
    (base : Nat) (e : TypeId) {z : Value} (ht : P.underlying t = some (.slice e)) (hinfo : (P.info? e).map (fun i => (i.zero, i.size, i.bytes)) = some (some z, 3, 24)) (hzs : z.cells.size = 3)
    (v : Value) (xs : List T3) (hs : a.eval s = v) (hown : Own3 w base e v xs)
    (S : Nat → Prop) (A : Option Addr) (c : Nat) (ys : List T3) (hx : a.eval x = .slice A ys.length c) (hu : Ops S w A ys) (hc0 : A = none → c = 0)
    (hn : xs.length + ys.length ≤ 4194304) (hbase : base ≤ w.heap.size)
    (h : ∀ v' w', Own3 w' base e v' (xs ++ ys) → w.grownBy w' v.ownBlock → wpList P ops Q rest (a.put o.dst v') w') : wpList P ops Q (o :: rest) a w := by
  obtain ⟨i0, hi, hz0, hz1, hz2⟩ := info_parts hinfo
  have f3 : ∀ (zs : List T3), ∀ u ∈ flat3 zs, u.oneCell' = true := by
    intro zs u hu
    simp only [flat3, List.mem_flatMap] at hu
    obtain ⟨x, _, hu⟩ := hu
    simp at hu
    rcases hu with rfl | rfl | rfl <;> rfl
  have fin : ∀ v' w', w'.ownsRow base e 3 v' (xs.length + ys.length) (flat3 xs ++ flat3 ys) → w.grownBy w' v.ownBlock → wpList P ops Q rest (a.put o.dst v') w' := fun v' w' h1 h2 => by
    refine h v' w' ?_ h2
    unfold Own3
    rw [flat3_app, List.length_append]
    exact h1
  cases A with
  | none =>
    have h0 : ys = [] := by
      cases ys with
      | nil => rfl
      | cons y zs =>
        obtain ⟨b, off, us, e, _⟩ := hu 0 y rfl
        cases e
    subst h0
    obtain rfl := hc0 rfl
    refine wpList_append_own_none hgd s x t ho base e i0 3 ht hi v xs.length (flat3 xs) hs hown hx ?_
    exact h v w (by simpa using hown) (grown_refl _ _)
  | some ad =>
    refine wpList_append_own w hgd s x t ho base e i0 z 3 24 ht hi hz0 hz1 hz2 hzs (by decide) v xs.length (flat3 xs) hs hown ad ys.length c (flat3 ys) hx (flat3_len ys) ?_ (f3 ys) (by unfold maxLen; omega) (by omega) hbase (fun v' w' h1 h2 _ => fin v' w' h1 h2)
    intro n u hu'
    have hn' : n < (flat3 ys).length := (List.getElem?_eq_some_iff.1 hu').1
    rw [flat3_len] at hn'
    obtain ⟨y, hy⟩ : ∃ y, ys[n / 3]? = some y := ⟨_, List.getElem?_eq_getElem (by omega)⟩
    obtain ⟨b', off', us, e, _, _, _, hr, hc⟩ := hu (n / 3) y hy
    cases e
    cases hr
    have hj : ([.int .i64 y.a, .int .i64 y.b, .int .i64 y.c] : List Value)[n % 3]? = some u := by
      have hm : n % 3 < 3 := Nat.mod_lt _ (by omega)
      obtain ⟨u2, hu2⟩ : ∃ u2, ([.int .i64 y.a, .int .i64 y.b, .int .i64 y.c] : List Value)[n % 3]? = some u2 := ⟨_, List.getElem?_eq_getElem (by simpa using hm)⟩
      have := flat3_at ys (n / 3) y hy (n % 3) u2 hu2
      rw [show n / 3 * 3 + n % 3 = n by omega, hu'] at this
      rw [hu2, ← this]
    have := hc (n % 3) u hj
    rw [show off' + n / 3 * 3 + n % 3 = off' + n by omega] at this
    rw [← this]
    unfold Addr.add
    split
    · rename_i h0
      have h0 : n = 0 := by simpa using h0
      subst h0
      rfl
    · rfl

end Go.Proofs.YtbglkjmoednapaaDoor
