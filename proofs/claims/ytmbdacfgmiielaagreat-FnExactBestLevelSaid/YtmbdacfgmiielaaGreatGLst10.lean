/-
  Rows of ints that a call makes for itself, row by row.
-/
import Derived.Test.YtmbdacfgmiielaaGreatGInts5
/-
  Contracts of the laws' helpers on lists of lists of ints: comparison and marks; results of calls in memory of their own.
-/
namespace Go.Proofs.YtmbdacfgmiielaaGreat
set_option linter.unusedSimpArgs false
set_option linter.unusedVariables false
set_option maxRecDepth 100000
open Go.RowKit

def tot (xs : List (List Int)) : Nat := (xs.map List.length).sum
theorem tot_take {xs : List (List Int)} {k : Nat} {x : List Int} (hk : xs[k]? = some x) : tot (xs.take (k + 1)) = tot (xs.take k) + x.length := by
  unfold tot
  rw [List.take_add_one, hk]
  simp
theorem tot_le (xs : List (List Int)) (k : Nat) : tot (xs.take k) ≤ tot xs := by
  have e : tot xs = tot (xs.take k) + tot (xs.drop k) := by
    unfold tot
    rw [← List.sum_append, ← List.map_append, List.take_append_drop]
  omega
/-- few rows, few numbers -/
def SmallR (xs : List (List Int)) : Prop := xs.length + tot xs ≤ 1048576
theorem SmallR.row {xs : List (List Int)} (h : SmallR xs) {k : Nat} {x : List Int} (hk : xs[k]? = some x) : x.length ≤ 1048576 := by
  have h1 := tot_take hk
  have h2 := tot_le xs (k + 1)
  unfold SmallR at h
  omega
theorem SmallR.len {xs : List (List Int)} (h : SmallR xs) : xs.length ≤ 1048576 := by unfold SmallR at h; omega

/-- rows that are a call's own, each in a block apart; f tells where -/
structure RI2 (lo : Nat) (w : World) (A : Option Addr) (xs : List (List Int)) (f : Nat → Option Addr) : Prop where
  row : ∀ i x, xs[i]? = some x → ∃ g off cap, A = some ⟨g, off, none⟩ ∧ lo ≤ g ∧ g < w.heap.size ∧ w.cell? ⟨g, off + i, none⟩ = some (.slice (f i) x.length cap) ∧ Ints (fun b => some b = rowOf (f i)) w (f i) x ∧
    ∀ a, f i = some a → lo ≤ a.block ∧ a.block < w.heap.size ∧ (∀ o, w.frozen? ⟨a.block, o, none⟩ = false) ∧ a.block ≠ g
  apart : ∀ i j a b, i < j → j < xs.length → f i = some a → f j = some b → a.block ≠ b.block
theorem RI2.ext {lo : Nat} {w w' : World} {A : Option Addr} {xs : List (List Int)} {f : Nat → Option Addr} (h : RI2 lo w A xs f) (hE : Ext w w') : RI2 lo w' A xs f := by
  refine ⟨fun i x hx => ?_, h.apart⟩
  obtain ⟨g, off, cap, rfl, h0, h1, h2, h3, h4⟩ := h.row i x hx
  refine ⟨g, off, cap, rfl, h0, Nat.lt_of_lt_of_le h1 hE.size, hE.keep h1 h2, h3.ext hE, fun a ha => ?_⟩
  obtain ⟨h5, h6, h7, h8⟩ := h4 a ha
  exact ⟨h5, Nat.lt_of_lt_of_le h6 hE.size, fun o => by rw [hE.frozen (p := ⟨a.block, o, none⟩) h6]; exact h7 o, h8⟩
theorem RI2.within {lo lo' hi : Nat} {w w' : World} {A : Option Addr} {xs : List (List Int)} {f : Nat → Option Addr} (h : RI2 lo w A xs f) (hw : Within lo' hi w w') (hl : hi ≤ lo) : RI2 lo w' A xs f := by
  refine ⟨fun i x hx => ?_, h.apart⟩
  obtain ⟨g, off, cap, rfl, h0, h1, h2, h3, h4⟩ := h.row i x hx
  refine ⟨g, off, cap, rfl, h0, Nat.lt_of_lt_of_le h1 hw.size, (World.cell?_of_block (a := ⟨g, off + i, none⟩) (hw.block g h1 (.inr (by omega)))).trans h2, h3.within hw (fun b hb hlt => ?_), fun a ha => ?_⟩
  · cases hf : f i with
    | none => rw [hf] at hb; cases hb
    | some a =>
      rw [hf] at hb
      obtain rfl : b = a.block := by simpa [rowOf] using hb
      have := (h4 a hf).1
      exact .inr (by omega)
  · obtain ⟨h5, h6, h7, h8⟩ := h4 a ha
    exact ⟨h5, Nat.lt_of_lt_of_le h6 hw.size, fun o => by rw [World.frozen?_of_block (a := ⟨a.block, o, none⟩) (hw.block a.block h6 (.inr (by omega)))]; exact h7 o, h8⟩
theorem RI2.rows {lo : Nat} {w : World} {A : Option Addr} {xs : List (List Int)} {f : Nat → Option Addr} (h : RI2 lo w A xs f) : Rows2 Any w A xs := by
  intro i x hx
  obtain ⟨g, off, cap, rfl, h0, h1, h2, h3, h4⟩ := h.row i x hx
  refine ⟨g, off, _, rfl, trivial, h1, rfl, ⟨f i, cap, rfl, SlAt.mono h3 (fun _ _ _ => trivial) (fun _ _ h => h)⟩, fun j u hu => ?_⟩
  match j, hu with
  | 0, hu => cases hu; simpa using h2
  | j + 1, hu => simp at hu
/-- a call that hands back new rows -/
def FreshRR (xs : List (List Int)) (w : World) (e : Ending) (w' : World) : Prop := ∃ A c f, e = .returned (.slice A xs.length c) ∧ RI2 w.heap.size w' A xs f ∧ Ext w w'
/-- what is held behind a mark of rows -/
def HI2 (w : World) (A : Option Addr) (xs : List (List Int)) : Prop := ∀ i x, xs[i]? = some x → ∃ g off B cap, A = some ⟨g, off, none⟩ ∧ g < w.heap.size ∧ w.cell? ⟨g, off + i, none⟩ = some (.slice B x.length cap) ∧ Ints Any w B (marks1 (1 + (tot (xs.take i) : Nat)) x.length)
theorem HI2.ext {w w' : World} {A : Option Addr} {xs : List (List Int)} (h : HI2 w A xs) (hE : Ext w w') : HI2 w' A xs := fun i x hx => by
  obtain ⟨g, off, B, cap, rfl, h1, h2, h3⟩ := h i x hx
  exact ⟨g, off, B, cap, rfl, Nat.lt_of_lt_of_le h1 hE.size, hE.keep h1 h2, h3.ext hE⟩


/-- rows that are a call's own, in the words of the laws' walk -/
def RR (lo : Nat) (w : World) (A : Option Addr) (xs : List (List Int)) : Prop := Rows2 Any w A xs ∧ ∃ f, RI2 lo w A xs f
theorem RR.ext {lo : Nat} {w w' : World} {A : Option Addr} {xs : List (List Int)} (h : RR lo w A xs) (hE : Ext w w') : RR lo w' A xs := by
  obtain ⟨_, f, h⟩ := h
  exact ⟨(h.ext hE).rows, f, h.ext hE⟩
theorem RR.within {lo lo' hi : Nat} {w w' : World} {A : Option Addr} {xs : List (List Int)} (h : RR lo w A xs) (hw : Within lo' hi w w') (hl : hi ≤ lo) : RR lo w' A xs := by
  obtain ⟨_, f, h⟩ := h
  exact ⟨(h.within hw hl).rows, f, h.within hw hl⟩
end Go.Proofs.YtmbdacfgmiielaaGreat
namespace Go.Proofs.YtmbdacfgmiielaaGreat
set_option linter.unusedSimpArgs false
set_option linter.unusedVariables false
set_option maxRecDepth 100000
open Go.RowKit

/-- a row with its place -/
structure PR where
  A : Option Addr
  c : Nat
  xs : List Int
def PR.cell (p : PR) : Value := .slice p.A p.xs.length p.c
def flatR (ps : List PR) : List Value := ps.map PR.cell
/-- a row's memory -/
def RowIn (w : World) (B : Nat) (p : PR) : Prop := Ints (fun b => some b = rowOf p.A) w p.A p.xs ∧ ∀ a, p.A = some a → B ≤ a.block ∧ a.block < w.heap.size ∧ ∀ o, w.frozen? ⟨a.block, o, none⟩ = false
theorem RowIn.grown {w w' : World} {B : Nat} {p : PR} {row : Option Nat} (h : RowIn w B p) (hg : w.grownBy w' row) (hne : ∀ a, p.A = some a → some a.block ≠ row) : RowIn w' B p := by
  refine ⟨h.1.grown hg (fun b hb hlt he => ?_), fun a ha => ?_⟩
  · cases hA : p.A with
    | none => rw [hA] at hb; simp [rowOf] at hb
    | some a =>
      rw [hA] at hb
      have : b = a.block := by simpa [rowOf] using hb
      subst this
      exact hne a hA he
  · obtain ⟨h1, h2, h3⟩ := h.2 a ha
    exact ⟨h1, Nat.lt_of_lt_of_le h2 hg.size, fun o => by rw [World.frozen?_of_block (a := ⟨a.block, o, none⟩) (hg.block a.block h2 (hne a ha))]; exact h3 o⟩
theorem RowIn.ext {w w' : World} {B : Nat} {p : PR} (h : RowIn w B p) (hE : Ext w w') : RowIn w' B p := h.grown (row := none) (grown_ext hE _) (fun a _ => by simp)
theorem RowIn.below {w : World} {B B' : Nat} {p : PR} (h : RowIn w B p) (hb : B' ≤ B) : RowIn w B' p := ⟨h.1, fun a ha => ⟨Nat.le_trans hb (h.2 a ha).1, (h.2 a ha).2⟩⟩
theorem RowIn.of {w : World} {B : Nat} {A : Option Addr} {c : Nat} {xs : List Int} {S : Nat → Prop} (h : Ints S w A xs) (hf : ∀ a, A = some a → B ≤ a.block ∧ a.block < w.heap.size ∧ ∀ o, w.frozen? ⟨a.block, o, none⟩ = false) : RowIn w B ⟨A, c, xs⟩ := by
  refine ⟨fun i x hx => ?_, hf⟩
  obtain ⟨b, off, us, rfl, _, h2, h3, h4, h5⟩ := h i x hx
  exact ⟨b, off, us, rfl, rfl, h2, h3, h4, h5⟩
/-- the slice v holds the rows ps, each in a block apart -/
structure OwnR (w : World) (B : Nat) (v : Value) (ps : List PR) : Prop where
  out : w.ownsRow B 45 1 v ps.length (flatR ps)
  row : ∀ p ∈ ps, RowIn w B p ∧ ∀ a, p.A = some a → some a.block ≠ v.ownBlock
  apart : ∀ (i j : Nat) p q a b, i < j → ps[i]? = some p → ps[j]? = some q → p.A = some a → q.A = some b → a.block ≠ b.block
section
variable {w w' : World} {B : Nat} {v : Value} {ps : List PR}
theorem OwnR.lt (h : OwnR w B v ps) : ∀ g, v.ownBlock = some g → B ≤ g ∧ g < w.heap.size := fun g hg => World.ownsRow.lt h.out g hg
theorem OwnR.grown {row : Option Nat} (h : OwnR w B v ps) (hg : w.grownBy w' row) (h1 : v.ownBlock = none ∨ v.ownBlock ≠ row) (h2 : ∀ p ∈ ps, ∀ a, p.A = some a → some a.block ≠ row) : OwnR w' B v ps :=
  ⟨World.ownsRow.kept h.out hg h1, fun p hp => ⟨(h.row p hp).1.grown hg (h2 p hp), (h.row p hp).2⟩, h.apart⟩
theorem OwnR.ext (h : OwnR w B v ps) (hE : Ext w w') : OwnR w' B v ps := h.grown (row := none) (grown_ext hE _) (by cases v.ownBlock <;> simp) (fun p _ a _ => by simp)
theorem OwnR.below (h : OwnR w B v ps) {B' : Nat} (hb : B' ≤ B) : OwnR w B' v ps := by
  refine ⟨⟨h.out.1, ?_⟩, fun p hp => ⟨(h.row p hp).1.below hb, (h.row p hp).2⟩, h.apart⟩
  rcases h.out.2 with h2 | ⟨g, cap, cur, hv, hg, r⟩
  · exact .inl h2
  · exact .inr ⟨g, cap, cur, hv, by omega, r⟩
theorem OwnR.made (w : World) {B : Nat} (cur : Array Value) (cap : Nat) (hb : B ≤ w.heap.size) (hm : cap ≤ 1048576) (hs : cur.size = cap * 1) : OwnR (w.alloc (.cells cur 45)) B (.slice (some ⟨w.heap.size, 0, none⟩) 0 cap) [] :=
  ⟨World.ownsRow_made _ _ _ hb (by unfold maxLen; omega) hs, (fun p hp => by cases hp), (fun i j p q a b _ h => by simp at h)⟩
theorem OwnR.nil : OwnR w B (.slice none 0 0) [] := ⟨World.ownsRow_nil _ _ _ _, (fun p hp => by cases hp), (fun i j p q a b _ h => by simp at h)⟩
/-- what a call handed back lies apart from what was there -/
theorem OwnR.new {w0 w1 : World} {v : Value} {ps : List PR} (h : OwnR w0 B v ps) (hB : B ≤ w0.heap.size) {A : Option Addr} {c : Nat} {xs : List Int} {S : Nat → Prop} (hI : Ints S w1 A xs) (hf : ∀ a, A = some a → w0.heap.size ≤ a.block ∧ a.block < w1.heap.size ∧ ∀ o, w1.frozen? ⟨a.block, o, none⟩ = false) :
    RowIn w1 B ⟨A, c, xs⟩ ∧ (∀ a, A = some a → some a.block ≠ v.ownBlock) ∧ ∀ q ∈ ps, ∀ a b, A = some a → q.A = some b → b.block ≠ a.block := by
  refine ⟨(RowIn.of hI hf).below hB, fun a ha he => ?_, fun q hq a b ha hb he => ?_⟩
  · have h1 := (h.lt a.block he.symm).2
    have h2 := (hf a ha).1
    omega
  · have h1 := ((h.row q hq).1.2 b hb).2.1
    have h2 := (hf a ha).1
    omega
/-- in the reader's words -/
theorem OwnR.fresh {w w' : World} {v : Value} (h : OwnR w' B v ps) (hb : w.heap.size ≤ B) (hE : Ext w w') : FreshRR (ps.map PR.xs) w (.returned v) w' := by
  rcases h.out.2 with ⟨rfl, hn⟩ | ⟨g, cap, cur, rfl, hB, hg, hle, hm, hs, ht⟩
  · obtain rfl : ps = [] := List.eq_nil_of_length_eq_zero hn
    exact ⟨none, 0, fun _ => none, rfl, ⟨(fun i x hx => by simp at hx), (fun i j a b _ hj => by simp at hj)⟩, hE⟩
  · have hlt : g < w'.heap.size := (Array.getElem?_eq_some_iff.1 hg).1
    refine ⟨some ⟨g, 0, none⟩, cap, fun i => (ps[i]?).bind PR.A, by rw [List.length_map], ⟨fun i x hx => ?_, fun i j a b hij hj ha hbb => ?_⟩, hE⟩
    · rw [List.getElem?_map] at hx
      obtain ⟨p, hp, rfl⟩ := Option.map_eq_some_iff.1 hx
      have hil : i < ps.length := (List.getElem?_eq_some_iff.1 hp).1
      have hr := h.row p (List.mem_of_getElem? hp)
      simp only [hp, Option.bind_some]
      refine ⟨g, 0, p.c, rfl, by omega, hlt, ?_, hr.1.1, fun a ha => ?_⟩
      · have h1 : (flatR ps)[i]? = some p.cell := by simp [flatR, hp]
        rw [cell_of_row w' g _ cur _ (0, 0) hg, show some (Value.slice p.A p.xs.length p.c) = some p.cell from rfl, ← h1, ← ht, List.getElem?_take, if_pos (by omega)]
        simp
      · obtain ⟨h1, h2, h3⟩ := hr.1.2 a ha
        exact ⟨by omega, h2, h3, fun e => hr.2 a ha (by simp [Value.ownBlock, e])⟩
    · obtain ⟨p, hp, ha⟩ := Option.bind_eq_some_iff.1 ha
      obtain ⟨q, hq, hbb⟩ := Option.bind_eq_some_iff.1 hbb
      exact h.apart i j p q a b hij hp hq ha hbb
end
end Go.Proofs.YtmbdacfgmiielaaGreat
