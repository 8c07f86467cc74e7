/-
  Contracts of the laws' helpers on histories: sizes, copies, comparisons.
-/
import Derived.Test.YtdgfipoibnjhaaaDoorOwn
import Derived.Test.YtdgfipoibnjhaaaDoorMark
namespace Go.Proofs.YtdgfipoibnjhaaaDoor
set_option linter.unusedSimpArgs false
set_option linter.unusedVariables false
set_option maxRecDepth 100000
open Go.RowKit

def total (h : List TxnT) : Nat := (h.map fun t => t.ops.length).sum
/-- a history that passes the laws' size check -/
def Small (h : List TxnT) : Prop := h.length + total h ≤ 1048576
theorem total_take (h : List TxnT) (k : Nat) (t : TxnT) (hk : h[k]? = some t) : total (h.take (k + 1)) = total (h.take k) + t.ops.length := by
  unfold total
  rw [List.take_add_one, hk]
  simp
theorem total_le (h : List TxnT) (k : Nat) : total (h.take k) ≤ total h := by
  have e : total h = total (h.take k) + total (h.drop k) := by
    unfold total
    rw [← List.sum_append, ← List.map_append, List.take_append_drop]
  omega
theorem Small.ops {h : List TxnT} (hs : Small h) {k : Nat} {t : TxnT} (hk : h[k]? = some t) : t.ops.length ≤ 1048576 := by
  have h1 := total_take h k t hk
  have h2 := total_le h (k + 1)
  unfold Small at hs
  omega
theorem Small.len {h : List TxnT} (hs : Small h) : h.length ≤ 1048576 := by unfold Small at hs; omega

/-- what is left of a size: below 0 it is not asked further -/
def SzTo (h : List TxnT) (w : World) (e : Ending) (w' : World) : Prop := ∃ r : Int, e = .returned (.int .i64 r) ∧ (r = -1 ∨ (0 ≤ r ∧ Small h)) ∧ Ext w w'



/-- the first k transactions stand in the cells, their operations in S -/
def UptoT (w : World) (S : Nat → Prop) (cs : Array Value) (xs : List TxnT) (k : Nat) : Prop := cs.size = xs.length * 3 ∧ ∀ i x, i < k → xs[i]? = some x →
  ∃ A cap, cs[i * 3]? = some (.int .i64 x.sess) ∧ cs[i * 3 + 1]? = some (.slice A x.ops.length cap) ∧ cs[i * 3 + 2]? = some (.bool x.done) ∧ Ops S w A x.ops
theorem UptoT.ext {w w' : World} {S : Nat → Prop} {cs : Array Value} {xs : List TxnT} {k : Nat} (h : UptoT w S cs xs k) (hE : Ext w w') : UptoT w' S cs xs k :=
  ⟨h.1, fun i x hi hx => by
    obtain ⟨A, cap, e0, e1, e2, hO⟩ := h.2 i x hi hx
    exact ⟨A, cap, e0, e1, e2, hO.ext hE⟩⟩
theorem UptoT.setCell {w : World} {S : Nat → Prop} {cs : Array Value} {xs : List TxnT} {k : Nat} (h : UptoT w S cs xs k) {p : Addr} (hp : ¬ S p.block) (u : Value) : UptoT (w.setCell p u) S cs xs k :=
  ⟨h.1, fun i x hi hx => by
    obtain ⟨A, cap, e0, e1, e2, hO⟩ := h.2 i x hi hx
    exact ⟨A, cap, e0, e1, e2, hO.setCell hp u⟩⟩
theorem UptoT.step {w : World} {S : Nat → Prop} {cs : Array Value} {xs : List TxnT} {k : Nat} {s : Int} {ops : List T3} {d : Bool} {A : Option Addr} {cap : Nat} (h : UptoT w S cs xs k) (hx : xs[k]? = some ⟨s, ops, d⟩) (hO : Ops S w A ops) :
    UptoT w S (((cs.setIfInBounds (k * 3) (.int .i64 s)).setIfInBounds (k * 3 + 1) (.slice A ops.length cap)).setIfInBounds (k * 3 + 2) (.bool d)) xs (k + 1) := by
  obtain ⟨h1, h2⟩ := h
  have hk : k < xs.length := (List.getElem?_eq_some_iff.1 hx).1
  refine ⟨by simp [h1], fun i x hi hxi => ?_⟩
  rcases Nat.lt_or_ge i k with hlt | hge
  · obtain ⟨A', cap', e0, e1, e2, hO'⟩ := h2 i x hlt hxi
    refine ⟨A', cap', ?_, ?_, ?_, hO'⟩
    · rw [Array.getElem?_setIfInBounds_ne (by omega), Array.getElem?_setIfInBounds_ne (by omega), Array.getElem?_setIfInBounds_ne (by omega)]; exact e0
    · rw [Array.getElem?_setIfInBounds_ne (by omega), Array.getElem?_setIfInBounds_ne (by omega), Array.getElem?_setIfInBounds_ne (by omega)]; exact e1
    · rw [Array.getElem?_setIfInBounds_ne (by omega), Array.getElem?_setIfInBounds_ne (by omega), Array.getElem?_setIfInBounds_ne (by omega)]; exact e2
  · obtain rfl : i = k := by omega
    rw [hx] at hxi
    cases hxi
    refine ⟨A, cap, ?_, ?_, ?_, hO⟩
    · rw [Array.getElem?_setIfInBounds_ne (by omega), Array.getElem?_setIfInBounds_ne (by omega), Array.getElem?_setIfInBounds_self_of_lt (by (try simp); omega)]
    · rw [Array.getElem?_setIfInBounds_ne (by omega), Array.getElem?_setIfInBounds_self_of_lt (by (try simp); omega)]
    · rw [Array.getElem?_setIfInBounds_self_of_lt (by (try simp); omega)]
/-- a history whose transactions lie in So, their operations in Si -/
abbrev Txns2 (So Si : Nat → Prop) := SlAt 3 (RTxn Si) So
theorem Txns2.txns {So Si S : Nat → Prop} {w : World} {A : Option Addr} {xs : List TxnT} (h : Txns2 So Si w A xs) (h1 : ∀ b, So b → b < w.heap.size → S b) (h2 : ∀ b, Si b → b < w.heap.size → S b) : Txns S w A xs :=
  SlAt.mono h h1 (mono_txn h2)
theorem UptoT.txns {w : World} {g : Nat} {t : TypeId} {cs : Array Value} {xs : List TxnT} {So Si : Nat → Prop} (h : UptoT w Si cs xs xs.length) (hB : Blk w g t cs) (hS : So g) : Txns2 So Si w (some ⟨g, 0, none⟩) xs := by
  intro i x hx
  have hi : i < xs.length := (List.getElem?_eq_some_iff.1 hx).1
  obtain ⟨A, cap, e0, e1, e2, hO⟩ := h.2 i x hi hx
  refine ⟨g, 0, _, rfl, hS, hB.lt, rfl, ⟨A, cap, rfl, hO⟩, fun j u hu => ?_⟩
  rw [hB.cell]
  match j, hu with
  | 0, hu => cases hu; simpa using e0
  | 1, hu => cases hu; simpa using e1
  | 2, hu => cases hu; simpa using e2
  | j + 3, hu => simp at hu

/-- a copy of a history, in memory of its own -/
def FreshH (h : List TxnT) (w : World) (e : Ending) (w' : World) : Prop :=
  ∃ A, e = .returned (.slice A h.length h.length) ∧ Txns2 (fun b => b = w.heap.size) (fun b => w.heap.size < b) w' A h ∧ Ext w w'

end Go.Proofs.YtdgfipoibnjhaaaDoor
