/-
  Contracts of the laws' helpers on slices of three-number structs: copies, sizes, comparisons.
-/
import Derived.Test.YtdgfipoibnjhaaaDoorProg
import Derived.Test.YtdgfipoibnjhaaaDoorMem
import Derived.Test.YtdgfipoibnjhaaaDoorOp
import Derived.WalkLawsBesides
import Derived.Handy
import Derived.Laws.MakeOwn
import Derived.Laws.Entries
import Derived.Laws.Rows
namespace Go.Proofs.YtdgfipoibnjhaaaDoor
set_option linter.unusedSimpArgs false
set_option linter.unusedVariables false
set_option maxRecDepth 100000
open Go.RowKit

theorem run_make_rowN {P : Program} (t e : TypeId) (i : TypeInfo) (z : Value) (ht : P.underlying t = some (.slice e)) (hi : P.info? e = some i) (hz : i.zero = some z)
    (kl kc : IntKind) (n c : Nat) (hnc : n ≤ c) (hbytes : i.bytes * c ≤ 281474976710656) (h63 : c ≤ 9223372036854775807) (w : World) :
    (Instr.makeSlice t (.int kl (n : Int)) (.int kc (c : Int))).run P w = .ok (.slice (some ⟨w.heap.size, 0, none⟩) n c) (w.alloc (.cells (madeCells z.cells (c * i.size)) e)) := by
  have hb : (i.bytes : Int) * (c : Int) ≤ 281474976710656 := by
    have h : ((i.bytes * c : Nat) : Int) ≤ 281474976710656 := by omega
    rwa [Int.natCast_mul] at h
  have hr := run_make (P := P) w t e i z ht hi hz kl kc n c (by omega) (by omega) hb (by omega)
  simp only [Int.toNat_natCast] at hr
  exact hr

/-- block g holds just the cells cs, none frozen -/
def Blk (w : World) (g : Nat) (t : TypeId) (cs : Array Value) : Prop := w.heap[g]? = some (.cells cs t (0, 0))
section
variable {w w' : World} {g : Nat} {t : TypeId} {cs : Array Value}
theorem Blk.lt (h : Blk w g t cs) : g < w.heap.size := by
  rcases Nat.lt_or_ge g w.heap.size with hlt | hge
  · exact hlt
  · unfold Blk at h; rw [Array.getElem?_eq_none hge] at h; cases h
theorem Blk.cell (h : Blk w g t cs) (i : Nat) : w.cell? ⟨g, i, none⟩ = cs[i]? := cell_of_row w g i cs t (0, 0) h
theorem Blk.at_ (h : Blk w g t cs) {i : Nat} (hi : i < cs.size) : ∃ u, w.cell? ⟨g, i, none⟩ = some u := ⟨cs[i], by rw [h.cell]; exact Array.getElem?_eq_getElem hi⟩
theorem Blk.frozen (h : Blk w g t cs) (i : Nat) : w.frozen? ⟨g, i, none⟩ = false := by
  unfold Blk at h
  simp [World.frozen?, h]
theorem Blk.new (w : World) (t : TypeId) (cs : Array Value) : Blk (w.alloc (.cells cs t)) w.heap.size t cs := heap_alloc_new w _
theorem Blk.alloc (h : Blk w g t cs) (o : Obj) : Blk (w.alloc o) g t cs := (Below.heap_alloc w o g h.lt).trans h
theorem Blk.set_ (h : Blk w g t cs) (i : Nat) (u : Value) : Blk (w.setCell ⟨g, i, none⟩ u) g t (cs.setIfInBounds i u) := by
  unfold Blk at h ⊢
  simp [World.setCell, Array.getElem?_modify, h]
theorem Blk.ext (h : Blk w g t cs) (hb : Ext w w') : Blk w' g t cs := (hb.block g h.lt).trans h
end

/-- the first k elements stand in the cells -/
def Upto3 (cs : Array Value) (xs : List T3) (k : Nat) : Prop := cs.size = xs.length * 3 ∧ ∀ i x, i < k → xs[i]? = some x → cs[i * 3]? = some (.int .i64 x.a) ∧ cs[i * 3 + 1]? = some (.int .i64 x.b) ∧ cs[i * 3 + 2]? = some (.int .i64 x.c)
theorem Upto3.step {cs : Array Value} {xs : List T3} {k : Nat} {a b c : Int} (h : Upto3 cs xs k) (hx : xs[k]? = some ⟨a, b, c⟩) :
    Upto3 (((cs.setIfInBounds (k * 3) (.int .i64 a)).setIfInBounds (k * 3 + 1) (.int .i64 b)).setIfInBounds (k * 3 + 2) (.int .i64 c)) xs (k + 1) := by
  obtain ⟨h1, h2⟩ := h
  have hk : k < xs.length := (List.getElem?_eq_some_iff.1 hx).1
  refine ⟨by simp [h1], fun i x hi hxi => ?_⟩
  rcases Nat.lt_or_ge i k with hlt | hge
  · obtain ⟨e0, e1, e2⟩ := h2 i x hlt hxi
    refine ⟨?_, ?_, ?_⟩
    · rw [Array.getElem?_setIfInBounds_ne (by omega), Array.getElem?_setIfInBounds_ne (by omega), Array.getElem?_setIfInBounds_ne (by omega)]; exact e0
    · rw [Array.getElem?_setIfInBounds_ne (by omega), Array.getElem?_setIfInBounds_ne (by omega), Array.getElem?_setIfInBounds_ne (by omega)]; exact e1
    · rw [Array.getElem?_setIfInBounds_ne (by omega), Array.getElem?_setIfInBounds_ne (by omega), Array.getElem?_setIfInBounds_ne (by omega)]; exact e2
  · obtain rfl : i = k := by omega
    rw [hx] at hxi
    cases hxi
    refine ⟨?_, ?_, ?_⟩
    · rw [Array.getElem?_setIfInBounds_ne (by omega), Array.getElem?_setIfInBounds_ne (by omega), Array.getElem?_setIfInBounds_self_of_lt (by (try simp); omega)]
    · rw [Array.getElem?_setIfInBounds_ne (by omega), Array.getElem?_setIfInBounds_self_of_lt (by (try simp); omega)]
    · rw [Array.getElem?_setIfInBounds_self_of_lt (by (try simp); omega)]
theorem Upto3.ops {w : World} {g : Nat} {t : TypeId} {cs : Array Value} {xs : List T3} {S : Nat → Prop} (h : Upto3 cs xs xs.length) (hB : Blk w g t cs) (hS : S g) : Ops S w (some ⟨g, 0, none⟩) xs := by
  intro i x hx
  have hi : i < xs.length := (List.getElem?_eq_some_iff.1 hx).1
  obtain ⟨e0, e1, e2⟩ := h.2 i x hi hx
  refine ⟨g, 0, _, rfl, hS, hB.lt, rfl, rfl, fun j u hu => ?_⟩
  rw [hB.cell]
  match j, hu with
  | 0, hu => cases hu; simpa using e0
  | 1, hu => cases hu; simpa using e1
  | 2, hu => cases hu; simpa using e2
  | j + 3, hu => simp at hu


def Fresh3 (xs : List T3) (w : World) (e : Ending) (w' : World) : Prop :=
  ∃ A, e = .returned (.slice A xs.length xs.length) ∧ Ops (fun b => w.heap.size ≤ b) w' A xs ∧ (∀ a, A = some a → w.heap.size ≤ a.block ∧ a.block < w'.heap.size ∧ ∀ o, w'.frozen? ⟨a.block, o, none⟩ = false) ∧ Ext w w'

end Go.Proofs.YtdgfipoibnjhaaaDoor
