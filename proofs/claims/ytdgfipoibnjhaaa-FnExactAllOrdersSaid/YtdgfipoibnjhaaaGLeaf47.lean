/-
  How the rows' blocks stay apart while orders are put together.
-/
import Derived.Test.YtdgfipoibnjhaaaOutR
import Derived.Test.YtdgfipoibnjhaaaAllI
/-
  The blocks of the rows in lists of rows, apart from one another and from what holds them.
-/
namespace Go.Proofs.Ytdgfipoibnjhaaa
set_option linter.unusedSimpArgs false
set_option linter.unusedVariables false
set_option maxRecDepth 100000
open Go.RowKit

def blkOf (q : PR) : Option Nat := q.A.map Addr.block
def blks (ps : List PR) : List Nat := ps.filterMap blkOf
def leaves (es : List PX) : List Nat := es.flatMap fun p => blks p.ps
theorem blks_app (ps qs : List PR) : blks (ps ++ qs) = blks ps ++ blks qs := by unfold blks; rw [List.filterMap_append]
theorem blks_one (g c : Nat) (xs : List Int) : blks [⟨some ⟨g, 0, none⟩, c, xs⟩] = [g] := rfl
theorem leaves_app (es fs : List PX) : leaves (es ++ fs) = leaves es ++ leaves fs := by unfold leaves; rw [List.flatMap_append]
theorem leaves_one (p : PX) : leaves [p] = blks p.ps := by simp [leaves]
/-- a block that no store has made stiff -/
def Soft (W : World) (b : Nat) : Prop := b < W.heap.size ∧ ∀ o, W.frozen? ⟨b, o, none⟩ = false
theorem Soft.grown {W W' : World} {b : Nat} {row : Option Nat} (h : Soft W b) (hg : W.grownBy W' row) (hn : some b ≠ row) : Soft W' b :=
  ⟨Nat.lt_of_lt_of_le h.1 hg.size, fun o => by rw [World.frozen?_of_block (a := ⟨b, o, none⟩) (hg.block b h.1 hn)]; exact h.2 o⟩
theorem Soft.ext {W W' : World} {b : Nat} (h : Soft W b) (hE : Ext W W') : Soft W' b := h.grown (row := none) (grown_ext hE _) (by simp)
/-- the rows' blocks of a call's own -/
structure LeafX (W : World) (lo : Nat) (vb : Option Nat) (es : List PX) : Prop where
  nodup : (leaves es).Nodup
  soft : ∀ b ∈ leaves es, lo ≤ b ∧ Soft W b ∧ some b ≠ vb
  inner : ∀ p ∈ es, ∀ a, p.A = some a → a.block < W.heap.size ∧ a.block ∉ leaves es
theorem LeafX.ext {W W' : World} {lo : Nat} {vb : Option Nat} {es : List PX} (h : LeafX W lo vb es) (hE : Ext W W') : LeafX W' lo vb es :=
  ⟨h.nodup, fun b hb => ⟨(h.soft b hb).1, (h.soft b hb).2.1.ext hE, (h.soft b hb).2.2⟩, fun p hp a ha => ⟨Nat.lt_of_lt_of_le (h.inner p hp a ha).1 hE.size, (h.inner p hp a ha).2⟩⟩
theorem LeafX.below {W : World} {lo lo' : Nat} {vb : Option Nat} {es : List PX} (h : LeafX W lo vb es) (hl : lo' ≤ lo) : LeafX W lo' vb es :=
  ⟨h.nodup, fun b hb => ⟨Nat.le_trans hl (h.soft b hb).1, (h.soft b hb).2⟩, h.inner⟩
theorem LeafX.nil {W : World} {lo : Nat} {vb : Option Nat} : LeafX W lo vb [] := ⟨List.nodup_nil, (fun b hb => by cases hb), (fun p hp => by cases hp)⟩
theorem LeafX.noRows {W : World} {lo : Nat} {vb : Option Nat} {a : Addr} {c : Nat} (ha : a.block < W.heap.size) : LeafX W lo vb [⟨some a, c, []⟩] :=
  ⟨List.nodup_nil, (fun b hb => by cases hb), fun p hp a' ha' => by
    obtain rfl := List.mem_singleton.1 hp
    cases ha'
    exact ⟨ha, fun h => by cases h⟩⟩
/-- one element more -/
theorem LeafX.push {W W1 W' : World} {lo : Nat} {vb vb' : Option Nat} {es : List PX} {p : PX} (h : LeafX W lo vb es) (hE : Ext W W1) (hg : W1.grownBy W' vb) (hv : vb' = vb ∨ vb' = some W1.heap.size)
    (h1 : (blks p.ps).Nodup) (h2 : ∀ b ∈ blks p.ps, lo ≤ b ∧ Soft W1 b ∧ some b ≠ vb ∧ b ∉ leaves es ∧ ∀ p' ∈ es, ∀ a, p'.A = some a → a.block ≠ b)
    (h3 : ∀ a, p.A = some a → a.block < W1.heap.size ∧ a.block ∉ leaves es ∧ a.block ∉ blks p.ps) : LeafX W' lo vb' (es ++ [p]) := by
  have hne : ∀ b, Soft W1 b → some b ≠ vb → some b ≠ vb' := fun b hs hb e => by
    rcases hv with e' | e'
    · exact hb (e.trans e')
    · rw [e'] at e
      have := Option.some.inj e
      have := hs.1
      omega
  refine ⟨?_, fun b hb => ?_, fun p' hp a ha => ?_⟩
  · rw [leaves_app, leaves_one, List.nodup_append]
    exact ⟨h.nodup, h1, fun x hx y hy e => by subst e; exact (h2 x hy).2.2.2.1 hx⟩
  · rw [leaves_app, leaves_one] at hb
    rcases List.mem_append.1 hb with hb | hb
    · obtain ⟨a, b', c⟩ := h.soft b hb
      exact ⟨a, (b'.ext hE).grown hg c, hne b (b'.ext hE) c⟩
    · obtain ⟨a, b', c, _⟩ := h2 b hb
      exact ⟨a, b'.grown hg c, hne b b' c⟩
  · rw [leaves_app, leaves_one, List.mem_append]
    rcases List.mem_append.1 hp with hp | hp
    · obtain ⟨a1, a2⟩ := h.inner p' hp a ha
      exact ⟨Nat.lt_of_lt_of_le a1 (Nat.le_trans hE.size hg.size), fun hm => by
        rcases hm with hm | hm
        · exact a2 hm
        · exact (h2 _ hm).2.2.2.2 p' hp a ha rfl⟩
    · obtain rfl := List.mem_singleton.1 hp
      obtain ⟨a1, a2, a3⟩ := h3 a ha
      exact ⟨Nat.lt_of_lt_of_le a1 hg.size, fun hm => by
        rcases hm with hm | hm
        · exact a2 hm
        · exact a3 hm⟩
/-- rows' blocks from lo on, none the slice's own -/
structure LeafR (W : World) (lo : Nat) (vb : Option Nat) (qs : List PR) : Prop where
  nodup : (blks qs).Nodup
  soft : ∀ b ∈ blks qs, lo ≤ b ∧ Soft W b ∧ some b ≠ vb
theorem LeafR.nil {W : World} {lo : Nat} {vb : Option Nat} : LeafR W lo vb [] := ⟨List.nodup_nil, fun b hb => by cases hb⟩
theorem LeafR.ext {W W' : World} {lo : Nat} {vb : Option Nat} {qs : List PR} (h : LeafR W lo vb qs) (hE : Ext W W') : LeafR W' lo vb qs :=
  ⟨h.nodup, fun b hb => ⟨(h.soft b hb).1, (h.soft b hb).2.1.ext hE, (h.soft b hb).2.2⟩⟩
/-- one row more, appended to the slice with the block vb -/
theorem LeafR.push {W W1 W' : World} {lo g c : Nat} {xs : List Int} {vb vb' : Option Nat} {qs : List PR} (h : LeafR W lo vb qs) (hE : Ext W W1) (hg : W1.grownBy W' vb) (hv : vb' = vb ∨ vb' = some W1.heap.size)
    (h1 : g ∉ blks qs) (h2 : lo ≤ g ∧ Soft W1 g ∧ some g ≠ vb) : LeafR W' lo vb' (qs ++ [⟨some ⟨g, 0, none⟩, c, xs⟩]) := by
  have hne : ∀ b, Soft W1 b → some b ≠ vb → some b ≠ vb' := fun b hs hb e => by
    rcases hv with e' | e'
    · exact hb (e.trans e')
    · rw [e'] at e
      have := Option.some.inj e
      have := hs.1
      omega
  refine ⟨?_, fun b hb => ?_⟩
  · rw [blks_app, blks_one, List.nodup_append]
    exact ⟨h.nodup, by simp, fun x hx y hy e => by
      rw [List.mem_singleton] at hy
      subst hy
      subst e
      exact h1 hx⟩
  · rw [blks_app, blks_one] at hb
    rcases List.mem_append.1 hb with hb | hb
    · obtain ⟨a, b', c⟩ := h.soft b hb
      exact ⟨a, (b'.ext hE).grown hg c, hne b (b'.ext hE) c⟩
    · rw [List.mem_singleton] at hb
      subst hb
      exact ⟨h2.1, h2.2.1.grown hg h2.2.2, hne b h2.2.1 h2.2.2⟩
end Go.Proofs.Ytdgfipoibnjhaaa
namespace Go.Proofs.Ytdgfipoibnjhaaa
set_option linter.unusedSimpArgs false
set_option linter.unusedVariables false
set_option maxRecDepth 100000
open Go.RowKit

theorem LeafR.pushOld {W W1 W' : World} {lo lo' g c : Nat} {xs : List Int} {vb vb' : Option Nat} {qs : List PR} (h : LeafR W lo vb qs) (hE : Ext W W1) (hg : W1.grownBy W' vb) (hv : vb' = vb ∨ vb' = some W1.heap.size)
    (h0 : lo' ≤ lo) (h1 : g < lo) (h2 : lo' ≤ g ∧ Soft W1 g ∧ some g ≠ vb) : LeafR W' lo' vb' (qs ++ [⟨some ⟨g, 0, none⟩, c, xs⟩]) :=
  LeafR.push (lo := lo') ⟨h.nodup, fun b hb => ⟨Nat.le_trans h0 (h.soft b hb).1, (h.soft b hb).2⟩⟩ hE hg hv (fun hm => by have := (h.soft g hm).1; omega) h2
/-- the elements so far, and the rows of a call that are still to come -/
structure Apart (W : World) (lo l h : Nat) (vb : Option Nat) (ms : List PX) (p9 : List PR) (q : Nat) : Prop where
  leaf : LeafX W lo vb ms
  old : ∀ b ∈ leaves ms, b < l ∨ h ≤ b ∨ ∃ (q' : Nat) (p' : PR), q' < q ∧ p9[q']? = some p' ∧ blkOf p' = some b
  inn : ∀ p ∈ ms, ∀ a, p.A = some a → a.block < l ∨ h ≤ a.block
  soft9 : ∀ p ∈ p9, ∀ a, p.A = some a → l ≤ a.block ∧ a.block < h ∧ Soft W a.block
theorem Apart.start {w4 w5 : World} {lo h : Nat} {vb : Option Nat} {ns : List PX} {p9 : List PR} (h4 : LeafX w4 lo vb ns) (h5 : LeafX w5 lo vb ns) (h9 : ∀ p ∈ p9, ∀ a, p.A = some a → w4.heap.size ≤ a.block ∧ a.block < h ∧ Soft w5 a.block) : Apart w5 lo w4.heap.size h vb ns p9 0 :=
  ⟨h5, fun b hb => .inl (h4.soft b hb).2.1.1, fun p hp a ha => .inl (h4.inner p hp a ha).1, h9⟩
theorem Apart.step {W W1 W' : World} {lo l h q g c cp nn cc : Nat} {vb vb' : Option Nat} {ms : List PX} {p9 qs : List PR} {p : PX} {pxs pys : List Int} (hA : Apart W lo l h vb ms p9 q) (hpq : p9[q]? = some ⟨some ⟨g, 0, none⟩, cp, pxs⟩) (hps : p.ps = qs ++ [⟨some ⟨g, 0, none⟩, c, pys⟩])
    (hE : Ext W W1) (hg : W1.grownBy W' vb) (hv : vb' = vb ∨ vb' = some W1.heap.size) (hnd : (blks p.ps).Nodup) (hsf : ∀ b ∈ blks p.ps, lo ≤ b ∧ Soft W1 b ∧ some b ≠ (Value.slice p.A nn cc).ownBlock) (hq : ∀ b ∈ blks qs, W.heap.size ≤ b)
    (hz : h ≤ W.heap.size) (hvl : ∀ g, vb = some g → g < W.heap.size) (hof : ∀ g, vb = some g → g < l ∨ h ≤ g) (hap : ∀ (i j : Nat) p q a b, i < j → p9[i]? = some p → p9[j]? = some q → p.A = some a → q.A = some b → a.block ≠ b.block)
    (hpa : ∀ a, p.A = some a → W.heap.size ≤ a.block ∧ a.block < W1.heap.size) : Apart W' lo l h vb' (ms ++ [p]) p9 (q + 1) := by
  have hgb : l ≤ g ∧ g < h ∧ Soft W g := hA.soft9 _ (List.mem_of_getElem? hpq) ⟨g, 0, none⟩ rfl
  have hmem : ∀ b ∈ blks p.ps, W.heap.size ≤ b ∨ b = g := fun b hb => by
    rw [hps, blks_app, blks_one, List.mem_append, List.mem_singleton] at hb
    rcases hb with hb | hb
    · exact .inl (hq b hb)
    · exact .inr hb
  have hnot : ∀ b ∈ blks p.ps, b ∉ leaves ms := fun b hb hm => by
    have h1 := (hA.leaf.soft b hm).2.1.1
    rcases hmem b hb with h2 | h2
    · omega
    · subst h2
      rcases hA.old b hm with h3 | h3 | ⟨q', p', h3, h4, h5⟩
      · omega
      · omega
      · unfold blkOf at h5
        obtain ⟨a, ha, h6⟩ := Option.map_eq_some_iff.1 h5
        exact hap q' q p' _ a ⟨b, 0, none⟩ h3 h4 hpq ha rfl h6
  refine ⟨hA.leaf.push hE hg hv hnd (fun b hb => ?_) (fun a ha => ?_), fun b hb => ?_, fun p' hp a ha => ?_, fun p' hp a ha => ?_⟩
  · obtain ⟨a1, a2, _⟩ := hsf b hb
    refine ⟨a1, a2, fun e => ?_, hnot b hb, fun p' hp a ha e => ?_⟩
    · have h1 := hvl b e.symm
      have h2 := hof b e.symm
      rcases hmem b hb with h3 | h3 <;> omega
    · have h1 := hA.inn p' hp a ha
      have h2 := (hA.leaf.inner p' hp a ha).1
      rcases hmem b hb with h3 | h3 <;> omega
  · obtain ⟨a1, a2⟩ := hpa a ha
    refine ⟨a2, fun hm => ?_, fun hm => ?_⟩
    · have := (hA.leaf.soft _ hm).2.1.1
      omega
    · exact (hsf _ hm).2.2 (by rw [ha]; rfl)
  · rw [leaves_app, leaves_one] at hb
    rcases List.mem_append.1 hb with hb | hb
    · rcases hA.old b hb with h1 | h1 | ⟨q', p', h1, h2, h3⟩
      · exact .inl h1
      · exact .inr (.inl h1)
      · exact .inr (.inr ⟨q', p', by omega, h2, h3⟩)
    · rcases hmem b hb with h1 | h1
      · exact .inr (.inl (by omega))
      · exact .inr (.inr ⟨q, _, by omega, hpq, by rw [h1]; rfl⟩)
  · rcases List.mem_append.1 hp with hp | hp
    · exact hA.inn p' hp a ha
    · obtain rfl := List.mem_singleton.1 hp
      have := (hpa a ha).1
      exact .inr (by omega)
  · obtain ⟨a1, a2, a3⟩ := hA.soft9 p' hp a ha
    exact ⟨a1, a2, (a3.ext hE).grown hg (fun e => by have := hof _ e.symm; omega)⟩
/-- lists of rows handed back, the rows' blocks apart -/
def FreshL (X : List (List (List Int))) (w : World) (e : Ending) (w' : World) : Prop :=
  ∃ (es : List PX) (A : Option Addr) (c : Nat), e = .returned (.slice A es.length c) ∧ es.map PX.rows = X ∧ HasX es ∧
    (∀ i p, es[i]? = some p → ∃ g, A = some ⟨g, 0, none⟩ ∧ w.heap.size ≤ g ∧ g < w'.heap.size ∧ w'.cell? ⟨g, i, none⟩ = some p.cell ∧ InX w' (fun b => w.heap.size ≤ b) p) ∧ LeafX w' w.heap.size (A.map Addr.block) es ∧ Ext w w'
theorem FreshL.none {w w' : World} (hE : Ext w w') : FreshL [] w (.returned (.slice none 0 0)) w' :=
  ⟨[], Option.none, 0, rfl, rfl, HasX.nil, (fun i p h => by simp at h), LeafX.nil, hE⟩
theorem FreshL.of {w w' : World} {B n c c' : Nat} {A : Option Addr} {es : List PX} (hO : OutX w' B (.slice A n c) es) (hX : HasX es) (hL : LeafX w' B (Value.slice A n c).ownBlock es) (hB : w.heap.size ≤ B) (hE : Ext w w') : FreshL (es.map PX.rows) w (.returned (.slice A es.length c')) w' := by
  obtain ⟨A', c1, hv, _, hcs⟩ := hO.cells
  simp only [Value.slice.injEq] at hv
  obtain ⟨rfl, _, _⟩ := hv
  refine ⟨es, A, c', rfl, rfl, hX, fun i p hp => ?_, ?_, hE⟩
  · obtain ⟨g, h1, h2, h3, h4, h5⟩ := hcs i p hp
    exact ⟨g, h1, Nat.le_trans hB h2, h3, h4, h5.mono (fun b hb _ => Nat.le_trans hB hb)⟩
  · have e : (Value.slice A n c).ownBlock = A.map Addr.block := by cases A <;> rfl
    rw [e] at hL
    exact hL.below hB
end Go.Proofs.Ytdgfipoibnjhaaa
