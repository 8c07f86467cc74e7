/-
  Results of calls in memory of their own: what keeps them, what marks of them leave.
-/
import Derived.Test.YtdgfipoibnjhaaaDoorMarkH
import Derived.Test.YtdgfipoibnjhaaaDoorOwnI
import Derived.Maps.AppendAt
namespace Go.Proofs.YtdgfipoibnjhaaaDoor
set_option linter.unusedSimpArgs false
set_option linter.unusedVariables false
set_option maxRecDepth 100000
open Go.RowKit

section
variable {S : Nat → Prop} {w w' : World} {A : Option Addr} {lo hi : Nat}
theorem Ints.within {xs : List Int} (h : Ints S w A xs) (hw : Within lo hi w w') (hS : ∀ b, S b → b < w.heap.size → b < lo ∨ hi ≤ b) : Ints S w' A xs :=
  SlAt.keep h (kept_int _ _) hw.size (fun p hp hlt => World.cell?_of_block (hw.block p.block hlt (hS _ hp hlt)))
theorem Ops.within {xs : List T3} (h : Ops S w A xs) (hw : Within lo hi w w') (hS : ∀ b, S b → b < w.heap.size → b < lo ∨ hi ≤ b) : Ops S w' A xs :=
  SlAt.keep h (kept_3 _ _) hw.size (fun p hp hlt => World.cell?_of_block (hw.block p.block hlt (hS _ hp hlt)))
end

/-- a slice of the call's own that may grow lies outside the blocks from lo below hi -/
def Off (v : Value) (lo hi : Nat) : Prop := ∀ g, v.ownBlock = some g → g < lo ∨ hi ≤ g
theorem Off.step {v v' : Value} {lo hi n : Nat} (h : Off v lo hi) (hv : v'.ownBlock = v.ownBlock ∨ v'.ownBlock = some n) (hn : hi ≤ n) : Off v' lo hi := fun g hg => by
  rcases hv with e | e
  · exact h g (e ▸ hg)
  · rw [e] at hg
    cases hg
    exact .inr hn
theorem Off.of_lt {v : Value} {lo hi : Nat} (h : ∀ g, v.ownBlock = some g → g < lo) : Off v lo hi := fun g hg => .inl (h g hg)
theorem Ops.off {lo hi : Nat} {w w' : World} {A : Option Addr} {xs : List T3} {v : Value} (h : Ops (fun b => lo ≤ b ∧ b < hi) w A xs) (hg : w.grownBy w' v.ownBlock) (ho : Off v lo hi) : Ops (fun b => lo ≤ b ∧ b < hi) w' A xs :=
  Ops.grown h hg (fun b hb _ he => by have := ho b he.symm; omega)
theorem Ints.off {lo hi : Nat} {w w' : World} {A : Option Addr} {xs : List Int} {v : Value} (h : Ints (fun b => lo ≤ b ∧ b < hi) w A xs) (hg : w.grownBy w' v.ownBlock) (ho : Off v lo hi) : Ints (fun b => lo ≤ b ∧ b < hi) w' A xs :=
  Ints.grown h hg (fun b hb _ he => by have := ho b he.symm; omega)
theorem Ops.within_hi {lo : Nat} {w : World} {A : Option Addr} {xs : List T3} (h : Ops (fun b => lo ≤ b) w A xs) : Ops (fun b => lo ≤ b ∧ b < w.heap.size) w A xs := SlAt.mono h (fun b hb hl => ⟨hb, hl⟩) (fun _ _ h => h)
theorem Ints.within_hi {lo : Nat} {w : World} {A : Option Addr} {xs : List Int} (h : Ints (fun b => lo ≤ b) w A xs) : Ints (fun b => lo ≤ b ∧ b < w.heap.size) w A xs := SlAt.mono h (fun b hb hl => ⟨hb, hl⟩) (fun _ _ h => h)
theorem own1_lt {w : World} {base : Nat} {e : TypeId} {v : Value} {xs : List Int} (h : Own1 w base e v xs) : ∀ g, v.ownBlock = some g → g < w.heap.size := fun g hg => (World.ownsRow.lt h g hg).2
/-- append of one int, and where the new slice lies -/
theorem wpList_append1_at {P : Program} (w : World) {ops : Array Oper} {rest : List Oper} {o : Oper} {a : Act} {Q : Exit → Act → World → Prop} (hgd : o.guard = none) (s x : Operand) (t : TypeId)
    (ho : o.op = .call { callee := .builtin .append, args := #[s, x], argTypes := #[t, t] })
    (base : Nat) (e : TypeId) {z : Value} (ht : P.underlying t = some (.slice e)) (hinfo : (P.info? e).map (fun i => (i.zero, i.size, i.bytes)) = some (some z, 1, 8)) (hzs : z.cells.size = 1)
    (v : Value) (xs : List Int) (hs : a.eval s = v) (hown : Own1 w base e v xs)
    (g : Nat) (x0 : Int) (hx : a.eval x = .slice (some ⟨g, 0, none⟩) 1 1) (c0 : w.cell? ⟨g, 0, none⟩ = some (.int .i64 x0))
    (hn : xs.length ≤ 1048576) (hbase : base ≤ w.heap.size)
    (h : ∀ v' w', Own1 w' base e v' (xs ++ [x0]) → w.grownBy w' v.ownBlock → (v'.ownBlock = v.ownBlock ∨ v'.ownBlock = some w.heap.size) → wpList P ops Q rest (a.put o.dst v') w') : wpList P ops Q (o :: rest) a w := by
  obtain ⟨i0, hi, hz0, hz1, hz2⟩ := info_parts hinfo
  refine wpList_append_own_at w hgd s x t ho base e i0 z 1 8 ht hi hz0 hz1 hz2 hzs (by decide) v xs.length (flat1 xs) hs hown ⟨g, 0, none⟩ 1 1 [.int .i64 x0] hx rfl ?_ ?_ (by unfold maxLen; omega) (by omega) hbase ?_
  · intro j u hu
    match j, hu with
    | 0, hu => cases hu; exact c0
    | j + 1, hu => simp at hu
  · intro u hu
    simp at hu
    rcases hu with rfl
    rfl
  · intro v' w' h1 h2 _ h3
    refine h v' w' ?_ h2 h3
    unfold Own1
    rw [show flat1 (xs ++ [x0]) = flat1 xs ++ [.int .i64 x0] by simp [flat1], List.length_append]
    exact h1

/-- 'make([]T, 0)' -/
theorem run_make_zero {P : Program} {t e : TypeId} {z : Value} {k n : Nat} (ht : P.underlying t = some (.slice e)) (hinfo : (P.info? e).map (fun i => (i.zero, i.size, i.bytes)) = some (some z, k, n)) (W : World) :
    (Instr.makeSlice t (.int .i64 0) (.int .i64 0)).run P W = .ok (.slice (some ⟨W.heap.size, 0, none⟩) 0 0) (W.alloc (.cells #[] e)) := by
  obtain ⟨i0, hi, hz0, hz1, hz2⟩ := info_parts hinfo
  have hm := run_make_rowN (P := P) t e i0 z ht hi hz0 .i64 .i64 0 0 (Nat.le_refl _) (by omega) (by omega) W
  rw [show madeCells z.cells (0 * i0.size) = #[] by simp [madeCells]] at hm
  exact hm

/-- whatever lies at an address lies in blocks from lo on that may be written -/
def Free (lo : Nat) (w : World) (A : Option Addr) : Prop := ∀ a, A = some a → lo ≤ a.block ∧ a.block < w.heap.size ∧ ∀ o, w.frozen? ⟨a.block, o, none⟩ = false
theorem Free.ext {lo : Nat} {w w' : World} {A : Option Addr} (h : Free lo w A) (hE : Ext w w') : Free lo w' A := fun a ha => by
  obtain ⟨h1, h2, h3⟩ := h a ha
  exact ⟨h1, Nat.lt_of_lt_of_le h2 hE.size, fun o => by rw [hE.frozen (p := ⟨a.block, o, none⟩) h2]; exact h3 o⟩
theorem Free.within {lo lo' hi : Nat} {w w' : World} {A : Option Addr} (h : Free lo w A) (hw : Within lo' hi w w') (hl : hi ≤ lo) : Free lo w' A := fun a ha => by
  obtain ⟨h1, h2, h3⟩ := h a ha
  exact ⟨h1, Nat.lt_of_lt_of_le h2 hw.size, fun o => by rw [World.frozen?_of_block (a := ⟨a.block, o, none⟩) (hw.block a.block h2 (.inr (Nat.le_trans hl h1)))]; exact h3 o⟩
theorem Free.row {lo : Nat} {w : World} {A : Option Addr} (h : Free lo w A) : ∀ g, rowOf A = some g → lo ≤ g ∧ g < w.heap.size := fun g hg => by
  cases A with
  | none => cases hg
  | some a => cases hg; exact ⟨(h a rfl).1, (h a rfl).2.1⟩

/-- ints that are a call's own -/
def RI (lo : Nat) (w : World) (A : Option Addr) (xs : List Int) : Prop := Ints (fun b => lo ≤ b) w A xs ∧ Free lo w A
theorem RI.ext {lo : Nat} {w w' : World} {A : Option Addr} {xs : List Int} (h : RI lo w A xs) (hE : Ext w w') : RI lo w' A xs := ⟨h.1.ext hE, h.2.ext hE⟩
theorem RI.within {lo lo' hi : Nat} {w w' : World} {A : Option Addr} {xs : List Int} (h : RI lo w A xs) (hw : Within lo' hi w w') (hl : hi ≤ lo) : RI lo w' A xs :=
  ⟨h.1.within hw (fun b hb _ => .inr (Nat.le_trans hl hb)), h.2.within hw hl⟩
def HI (w : World) (A : Option Addr) (xs : List Int) : Prop := Ints Any w A (marks1 1 xs.length)
theorem HI.ext {w w' : World} {A : Option Addr} {xs : List Int} (h : HI w A xs) (hE : Ext w w') : HI w' A xs := Ints.ext h hE

/-- structs of three ints that are a call's own -/
def R3s (lo : Nat) (w : World) (A : Option Addr) (xs : List T3) : Prop := Ops (fun b => lo ≤ b) w A xs ∧ Free lo w A
theorem R3s.ext {lo : Nat} {w w' : World} {A : Option Addr} {xs : List T3} (h : R3s lo w A xs) (hE : Ext w w') : R3s lo w' A xs := ⟨h.1.ext hE, h.2.ext hE⟩
theorem R3s.within {lo lo' hi : Nat} {w w' : World} {A : Option Addr} {xs : List T3} (h : R3s lo w A xs) (hw : Within lo' hi w w') (hl : hi ≤ lo) : R3s lo w' A xs :=
  ⟨h.1.within hw (fun b hb _ => .inr (Nat.le_trans hl hb)), h.2.within hw hl⟩
def H3s (w : World) (A : Option Addr) (xs : List T3) : Prop := Ops Any w A (marks3 1 xs.length)
theorem H3s.ext {w w' : World} {A : Option Addr} {xs : List T3} (h : H3s w A xs) (hE : Ext w w') : H3s w' A xs := Ops.ext h hE
end Go.Proofs.YtdgfipoibnjhaaaDoor
