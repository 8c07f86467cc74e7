/-
  Copies of histories whose transactions lie apart, and what marking one leaves alone.
-/
import Derived.Test.YtdgfipoibnjhaaaDoorTxns
namespace Go.Proofs.YtdgfipoibnjhaaaDoor
set_option linter.unusedSimpArgs false
set_option linter.unusedVariables false
set_option maxRecDepth 100000
open Go.RowKit

/-- between lo and hi memory may have turned, elsewhere not -/
structure Within (lo hi : Nat) (w w' : World) : Prop where
  os : w'.os = w.os
  tape : w'.tape = w.tape
  output : w'.output = w.output
  size : w.heap.size ≤ w'.heap.size
  block : ∀ k, k < w.heap.size → (k < lo ∨ hi ≤ k) → w'.heap[k]? = w.heap[k]?
theorem Within.refl (lo hi : Nat) (w : World) : Within lo hi w w := ⟨rfl, rfl, rfl, Nat.le_refl _, fun _ _ _ => rfl⟩
theorem Within.tr {lo hi : Nat} {a b c : World} (h : Within lo hi a b) (k : Within lo hi b c) : Within lo hi a c :=
  ⟨k.os.trans h.os, k.tape.trans h.tape, k.output.trans h.output, Nat.le_trans h.size k.size, fun i hi hn => (k.block i (Nat.lt_of_lt_of_le hi h.size) hn).trans (h.block i hi hn)⟩
theorem Within.set_ {lo hi g o : Nat} {w : World} (u : Value) (h1 : lo ≤ g) (h2 : g < hi) : Within lo hi w (w.setCell ⟨g, o, none⟩ u) :=
  ⟨rfl, rfl, rfl, by simp [World.setCell], fun k _ hn => Below.heap_setCell w ⟨g, o, none⟩ u _ (fun e => by simp only at e; omega)⟩
theorem Within.grown {lo hi : Nat} {w w' : World} {row : Option Nat} (h : w.grownBy w' row) (hr : ∀ g, row = some g → lo ≤ g ∧ g < hi) : Within lo hi w w' :=
  ⟨h.os, h.tape, h.output, h.size, fun k hk hn => h.block k hk (fun e => by have := hr k e.symm; omega)⟩
theorem Within.ext {lo hi : Nat} {w w' : World} (h : Ext w w') : Within lo hi w w' := ⟨h.os, h.tape, h.output, h.size, fun k hk _ => h.block k hk⟩
/-- what was old before stays -/
theorem Within.old {lo hi : Nat} {a w w' : World} (h : Ext a w) (hw : Within lo hi w w') (hl : a.heap.size ≤ lo) : Ext a w' :=
  ⟨hw.os.trans h.os, hw.tape.trans h.tape, hw.output.trans h.output, Nat.le_trans h.size hw.size, fun k hk => (hw.block k (Nat.lt_of_lt_of_le hk h.size) (.inl (Nat.lt_of_lt_of_le hk hl))).trans (h.block k hk)⟩

/-- the history h in the cells cs of block g, each transaction's operations between lim i and lim (i + 1) -/
def SepR (w : World) (g : Nat) (cs : Array Value) (h : List TxnT) (lim : Nat → Nat) (lo hi : Nat) : Prop :=
  cs.size = h.length * 3 ∧ g < lim 0 ∧ (∀ i, i < hi → lim i ≤ lim (i + 1)) ∧ lim hi ≤ w.heap.size ∧ ∀ i x, lo ≤ i → i < hi → h[i]? = some x →
    ∃ A cap, cs[i * 3]? = some (.int .i64 x.sess) ∧ cs[i * 3 + 1]? = some (.slice A x.ops.length cap) ∧ cs[i * 3 + 2]? = some (.bool x.done) ∧ Ops (fun b => lim i ≤ b ∧ b < lim (i + 1)) w A x.ops ∧
      ∀ a, A = some a → lim i ≤ a.block ∧ a.block < lim (i + 1) ∧ ∀ o, w.frozen? ⟨a.block, o, none⟩ = false
def Sep (w : World) (g : Nat) (t : TypeId) (h : List TxnT) (lim : Nat → Nat) (lo hi : Nat) : Prop := ∃ cs, Blk w g t cs ∧ SepR w g cs h lim lo hi
theorem lim_le {lim : Nat → Nat} {hi : Nat} (h : ∀ i, i < hi → lim i ≤ lim (i + 1)) {i j : Nat} (hij : i ≤ j) (hj : j ≤ hi) : lim i ≤ lim j := by
  induction j with
  | zero => obtain rfl : i = 0 := by omega
            exact Nat.le_refl _
  | succ j ih =>
    rcases Nat.lt_or_ge i (j + 1) with h1 | h1
    · exact Nat.le_trans (ih (by omega) (by omega)) (h j (by omega))
    · obtain rfl : i = j + 1 := by omega
      exact Nat.le_refl _
theorem Sep.txns {w : World} {g : Nat} {t : TypeId} {h : List TxnT} {lim : Nat → Nat} (hs : Sep w g t h lim 0 h.length) : Txns2 (fun b => b = g) (fun b => g < b) w (some ⟨g, 0, none⟩) h := by
  obtain ⟨cs, hB, h1, h2, h3, h4, h5⟩ := hs
  refine UptoT.txns (cs := cs) (t := t) ⟨h1, fun i x hi hx => ?_⟩ hB rfl
  obtain ⟨A, cap, e0, e1, e2, hO, hA⟩ := h5 i x (Nat.zero_le _) hi hx
  exact ⟨A, cap, e0, e1, e2, hO.mono (fun b hb _ => by have := lim_le h3 (Nat.zero_le i) (by omega); omega) (fun _ _ h => h)⟩

theorem SepR.ext {w w' : World} {g : Nat} {cs : Array Value} {h : List TxnT} {lim : Nat → Nat} {lo hi : Nat} (hs : SepR w g cs h lim lo hi) (hE : Ext w w') : SepR w' g cs h lim lo hi := by
  obtain ⟨h1, h2, h3, h4, h5⟩ := hs
  refine ⟨h1, h2, h3, Nat.le_trans h4 hE.size, fun i x hi hj hx => ?_⟩
  obtain ⟨A, cap, e0, e1, e2, hO, hA⟩ := h5 i x hi hj hx
  refine ⟨A, cap, e0, e1, e2, hO.ext hE, fun a ha => ?_⟩
  obtain ⟨a1, a2, a3⟩ := hA a ha
  have hle := lim_le h3 (i := i + 1) (by omega) (Nat.le_refl _)
  exact ⟨a1, a2, fun o => by rw [hE.frozen (p := ⟨a.block, o, none⟩) (by simp only; omega)]; exact a3 o⟩
theorem Sep.ext {w w' : World} {g : Nat} {t : TypeId} {h : List TxnT} {lim : Nat → Nat} {lo hi : Nat} (hs : Sep w g t h lim lo hi) (hE : Ext w w') : Sep w' g t h lim lo hi := by
  obtain ⟨cs, hB, hR⟩ := hs
  exact ⟨cs, hB.ext hE, hR.ext hE⟩
theorem SepR.setCell {w : World} {g : Nat} {cs : Array Value} {h : List TxnT} {lim : Nat → Nat} {lo hi : Nat} (hs : SepR w g cs h lim lo hi) (o : Nat) (u : Value) : SepR (w.setCell ⟨g, o, none⟩ u) g cs h lim lo hi := by
  obtain ⟨h1, h2, h3, h4, h5⟩ := hs
  refine ⟨h1, h2, h3, by simpa [World.setCell] using h4, fun i x hi hj hx => ?_⟩
  obtain ⟨A, cap, e0, e1, e2, hO, hA⟩ := h5 i x hi hj hx
  have hle := lim_le h3 (Nat.zero_le i) (by omega)
  refine ⟨A, cap, e0, e1, e2, hO.setCell (by simp only; omega) u, fun a ha => ?_⟩
  obtain ⟨a1, a2, a3⟩ := hA a ha
  exact ⟨a1, a2, fun o => by rw [World.frozen?_setCell]; exact a3 o⟩
theorem SepR.step {w : World} {g : Nat} {cs : Array Value} {h : List TxnT} {lim : Nat → Nat} {k m : Nat} {s : Int} {ops : List T3} {d : Bool} {A : Option Addr} {cap : Nat} (hs : SepR w g cs h lim 0 k) (hx : h[k]? = some ⟨s, ops, d⟩)
    (hlm : lim k ≤ m) (hO : Ops (fun b => m ≤ b) w A ops) (hA : ∀ a, A = some a → m ≤ a.block ∧ a.block < w.heap.size ∧ ∀ o, w.frozen? ⟨a.block, o, none⟩ = false) (hm : m ≤ w.heap.size) :
    SepR w g (((cs.setIfInBounds (k * 3) (.int .i64 s)).setIfInBounds (k * 3 + 1) (.slice A ops.length cap)).setIfInBounds (k * 3 + 2) (.bool d)) h (fun i => if i ≤ k then lim i else w.heap.size) 0 (k + 1) := by
  obtain ⟨h1, h2, h3, h4, h5⟩ := hs
  have hk : k < h.length := (List.getElem?_eq_some_iff.1 hx).1
  refine ⟨by simp [h1], by simpa using h2, fun i hi => ?_, by simp only [if_neg (show ¬ k + 1 ≤ k by omega)]; exact Nat.le_refl _, fun i x _ hi hxi => ?_⟩
  · rcases Nat.lt_or_ge i k with hlt | hge
    · simp only [if_pos (Nat.le_of_lt hlt), if_pos (show i + 1 ≤ k by omega)]
      exact h3 i hlt
    · obtain rfl : i = k := by omega
      simp only [Nat.le_refl, if_true, if_neg (show ¬ i + 1 ≤ i by omega)]
      omega
  · rcases Nat.lt_or_ge i k with hlt | hge
    · obtain ⟨A', cap', e0, e1, e2, hO', hA'⟩ := h5 i x (Nat.zero_le _) hlt hxi
      simp only [if_pos (Nat.le_of_lt hlt), if_pos (show i + 1 ≤ k by omega)]
      refine ⟨A', cap', ?_, ?_, ?_, hO', hA'⟩
      · rw [Array.getElem?_setIfInBounds_ne (by omega), Array.getElem?_setIfInBounds_ne (by omega), Array.getElem?_setIfInBounds_ne (by omega)]; exact e0
      · rw [Array.getElem?_setIfInBounds_ne (by omega), Array.getElem?_setIfInBounds_ne (by omega), Array.getElem?_setIfInBounds_ne (by omega)]; exact e1
      · rw [Array.getElem?_setIfInBounds_ne (by omega), Array.getElem?_setIfInBounds_ne (by omega), Array.getElem?_setIfInBounds_ne (by omega)]; exact e2
    · obtain rfl : i = k := by omega
      rw [hx] at hxi
      cases hxi
      simp only [Nat.le_refl, if_true, if_neg (show ¬ i + 1 ≤ i by omega)]
      refine ⟨A, cap, ?_, ?_, ?_, hO.mono (fun b hb hl => ⟨by omega, hl⟩) (fun _ _ h => h), fun a ha => ?_⟩
      · rw [Array.getElem?_setIfInBounds_ne (by omega), Array.getElem?_setIfInBounds_ne (by omega), Array.getElem?_setIfInBounds_self_of_lt (by (try simp); omega)]
      · rw [Array.getElem?_setIfInBounds_ne (by omega), Array.getElem?_setIfInBounds_self_of_lt (by (try simp); omega)]
      · rw [Array.getElem?_setIfInBounds_self_of_lt (by (try simp); omega)]
      · have := hA a ha
        exact ⟨by omega, this.2.1, this.2.2⟩
/-- a copy of a history, its transactions apart -/
def FreshSep (h : List TxnT) (t : TypeId) (w : World) (e : Ending) (w' : World) : Prop :=
  ∃ lim, e = .returned (.slice (some ⟨w.heap.size, 0, none⟩) h.length h.length) ∧ Sep w' w.heap.size t h lim 0 h.length ∧ Ext w w'


/-- what a mark of a history leaves -/
def MarkedH (lo hi : Nat) (w : World) (e : Ending) (w' : World) : Prop := ∃ k : Int, e = .returned (.int .i64 k) ∧ 0 ≤ k ∧ k ≤ 4194304 ∧ Within lo hi w w'
theorem SepR.later {w w' : World} {g : Nat} {cs cs' : Array Value} {h : List TxnT} {lim : Nat → Nat} {j hi : Nat} {row : Option Nat} (hs : SepR w g cs h lim j hi) (hj : j < hi) (hg : w.grownBy w' row) (hr : ∀ b, row = some b → b < lim (j + 1)) (hz : cs'.size = cs.size) (hc : ∀ i, (j + 1) * 3 ≤ i → cs'[i]? = cs[i]?) : SepR w' g cs' h lim (j + 1) hi := by
  obtain ⟨h1, h2, h3, h4, h5⟩ := hs
  refine ⟨hz.trans h1, h2, h3, Nat.le_trans h4 hg.size, fun i x hi' hj' hx => ?_⟩
  obtain ⟨A, cap, e0, e1, e2, hO, hA⟩ := h5 i x (by omega) hj' hx
  have hle := lim_le h3 hi' (by omega)
  have hle2 := lim_le h3 (i := i + 1) (by omega) (Nat.le_refl _)
  refine ⟨A, cap, (hc _ (by omega)).trans e0, (hc _ (by omega)).trans e1, (hc _ (by omega)).trans e2, hO.grown hg (fun b hb _ he => by have := hr b he.symm; omega), fun a ha => ?_⟩
  obtain ⟨a1, a2, a3⟩ := hA a ha
  exact ⟨a1, a2, fun o => by rw [World.frozen?_of_block (a := ⟨a.block, o, none⟩) (hg.block a.block (by omega) (fun he => by have := hr a.block he.symm; omega))]; exact a3 o⟩

end Go.Proofs.YtdgfipoibnjhaaaDoor
