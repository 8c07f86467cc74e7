/-
  Contracts of the laws' helpers on slices of three-number structs: copies, sizes, comparisons.
-/
import Derived.Test.YtdgfipoibnjhaaaDoorProg
import Derived.Test.YtdgfipoibnjhaaaDoorMem
import Derived.WalkLawsBesides
import Derived.Handy
import Derived.Laws.MakeOwn
import Derived.Laws.Entries
import Derived.Laws.Rows
/-
  Contracts of the functions on single operations.
-/
namespace Go.Proofs.YtdgfipoibnjhaaaDoor
set_option linter.unusedSimpArgs false
set_option linter.unusedVariables false
set_option maxRecDepth 100000
open Go.RowKit

def inB (n lo hi : Int) : Bool := decide (lo ≤ n) && decide (n ≤ hi)
theorem inB_iff {n lo hi : Int} : inB n lo hi = true ↔ lo ≤ n ∧ n ≤ hi := by simp [inB]

set_option maxHeartbeats 400000 in
theorem l1In_c (n lo hi : Int) (w : World) :
    Calls Tryd.prog 68 #[.int .i64 n, .int .i64 lo, .int .i64 hi] w fun e w' => e = .returned (.bool (inB n lo hi)) ∧ w = w' := by
  go_enter Tryd.func68, Tryd.ntmps68
  go_wp2
  · go_ret; exact ⟨by simp [inB, *], rfl⟩
  · go_ret
    exact ⟨by
      have : ¬ lo ≤ n := by omega
      simp [inB, this], rfl⟩

set_option maxHeartbeats 400000 in
theorem within_c (n lo hi : Int) (w : World) :
    Calls Tryd.prog 66 #[.int .i64 n, .int .i64 lo, .int .i64 hi] w fun e w' => e = .returned (.bool (inB n lo hi)) ∧ w = w' := by
  go_enter Tryd.func66, Tryd.ntmps66
  go_wp2
  · go_ret; exact ⟨by simp [inB, *], rfl⟩
  · go_ret
    exact ⟨by
      have : ¬ lo ≤ n := by omega
      simp [inB, this], rfl⟩

theorem keyOk_c (n : Int) (w : World) :
    Calls Tryd.prog 84 #[.int .i64 n] w fun e w' => e = .returned (.bool (inB n 0 2)) ∧ w = w' := by
  go_enter Tryd.func84, Tryd.ntmps84
  go_wp2_with (go_at_call 66; refine (within_c _ _ _ _).mono ?_; rintro e w' ⟨rfl, rfl⟩)
  go_ret
  exact ⟨rfl, rfl⟩


theorem valueOk_c (n : Int) (w : World) :
    Calls Tryd.prog 101 #[.int .i64 n] w fun e w' => e = .returned (.bool (inB n 0 99)) ∧ w = w' := by
  go_enter Tryd.func101, Tryd.ntmps101
  go_wp2_with (go_at_call 66; refine (within_c _ _ _ _).mono ?_; rintro e w' ⟨rfl, rfl⟩)
  go_ret
  exact ⟨rfl, rfl⟩



theorem writes_c (k y v : Int) (w : World) :
    Calls Tryd.prog 87 #[.agg #[.int .i64 k, .int .i64 y, .int .i64 v]] w fun e w' => e = .returned (.bool (k == 2)) ∧ Ext w w' := by
  go_enter Tryd.func87, Tryd.ntmps87
  go_wp2
  go_ret
  exact ⟨rfl, (Below.refl _ _).alloc (Nat.le_refl _) _⟩


theorem sessionOk_c (n : Int) (w : World) :
    Calls Tryd.prog 88 #[.int .i64 n] w fun e w' => e = .returned (.bool (inB n 0 3)) ∧ w = w' := by
  go_enter Tryd.func88, Tryd.ntmps88
  go_wp2_with (go_at_call 66; refine (within_c _ _ _ _).mono ?_; rintro e w' ⟨rfl, rfl⟩)
  go_ret
  exact ⟨rfl, rfl⟩

/-- an operation is valid -/
def opv (o : T3) : Bool := (inB o.a 1 2 && inB o.b 0 2 && inB o.c 0 99) && (o.a == 1 || decide (0 < o.c))
theorem opv_mk {k y v : Int} {r : Bool} (h : ((inB k 1 2 && inB y 0 2 && inB v 0 99) && (k == 1 || decide (0 < v))) = r) : Ending.returned (.bool r) = .returned (.bool (opv ⟨k, y, v⟩)) := by rw [← h]; rfl

set_option maxHeartbeats 400000 in
theorem specOpValid_c (k y v : Int) (w : World) :
    Calls Tryd.prog 92 #[.agg #[.int .i64 k, .int .i64 y, .int .i64 v]] w fun e w' => e = .returned (.bool (opv ⟨k, y, v⟩)) ∧ Ext w w' := by
  go_enter Tryd.func92, Tryd.ntmps92
  go_wp2_with (go_at_call 68; refine (l1In_c _ _ _ _).mono ?_; rintro e w' ⟨rfl, rfl⟩)
  all_goals go_ret
  all_goals exact ⟨opv_mk (by simp_all), (Below.refl _ _).alloc (Nat.le_refl _) _⟩


set_option maxHeartbeats 400000 in
theorem implOpValid_c (k y v : Int) (w : World) :
    Calls Tryd.prog 78 #[.agg #[.int .i64 k, .int .i64 y, .int .i64 v]] w fun e w' => e = .returned (.bool (opv ⟨k, y, v⟩)) ∧ Ext w w' := by
  go_enter Tryd.func78, Tryd.ntmps78
  go_wp2_with (first
    | (go_at_call 84; refine (keyOk_c _ _).mono ?_; rintro e w' ⟨rfl, rfl⟩)
    | (go_at_call 101; refine (valueOk_c _ _).mono ?_; rintro e w' ⟨rfl, rfl⟩) | go_in)
  all_goals go_ret
  all_goals refine ⟨opv_mk ?_, by go_grown⟩
  all_goals (simp only [inB] at *; (try simp_all); (try omega))
  all_goals (rw [Bool.eq_iff_iff]; simp; omega)


end Go.Proofs.YtdgfipoibnjhaaaDoor
namespace Go.Proofs.YtdgfipoibnjhaaaDoor
set_option linter.unusedSimpArgs false
set_option linter.unusedVariables false
set_option maxRecDepth 100000
open Go.RowKit

theorem run_make_rowN {P : Program} (t e : TypeId) (i : TypeInfo) (z : Value) (ht : P.underlying t = some (.slice e)) (hi : P.info? e = some i) (hz : i.zero = some z)
    (kl kc : IntKind) (n c : Nat) (hnc : n ≤ c) (hbytes : i.bytes * c ≤ 281474976710656) (h63 : c ≤ 9223372036854775807) (w : World) :
    (Instr.makeSlice t (.int kl (n : Int)) (.int kc (c : Int))).run P w = .ok (.slice (some ⟨w.heap.size, 0, none⟩) n c) (w.alloc (.cells (madeCells z.cells (c * i.size)) e)) := by
  have hb : (i.bytes : Int) * (c : Int) ≤ 281474976710656 := by
    have h : ((i.bytes * c : Nat) : Int) ≤ 281474976710656 := by omega
    rwa [Int.natCast_mul] at h
  have hr := run_make (P := P) w t e i z ht hi hz kl kc n c (by omega) (by omega) hb (by omega)
  simp only [Int.toNat_natCast] at hr
  exact hr

/-- block g holds just the cells cs, none frozen -/
def Blk (w : World) (g : Nat) (t : TypeId) (cs : Array Value) : Prop := w.heap[g]? = some (.cells cs t (0, 0))
section
variable {w w' : World} {g : Nat} {t : TypeId} {cs : Array Value}
theorem Blk.lt (h : Blk w g t cs) : g < w.heap.size := by
  rcases Nat.lt_or_ge g w.heap.size with hlt | hge
  · exact hlt
  · unfold Blk at h; rw [Array.getElem?_eq_none hge] at h; cases h
theorem Blk.cell (h : Blk w g t cs) (i : Nat) : w.cell? ⟨g, i, none⟩ = cs[i]? := cell_of_row w g i cs t (0, 0) h
theorem Blk.at_ (h : Blk w g t cs) {i : Nat} (hi : i < cs.size) : ∃ u, w.cell? ⟨g, i, none⟩ = some u := ⟨cs[i], by rw [h.cell]; exact Array.getElem?_eq_getElem hi⟩
theorem Blk.frozen (h : Blk w g t cs) (i : Nat) : w.frozen? ⟨g, i, none⟩ = false := by
  unfold Blk at h
  simp [World.frozen?, h]
theorem Blk.new (w : World) (t : TypeId) (cs : Array Value) : Blk (w.alloc (.cells cs t)) w.heap.size t cs := heap_alloc_new w _
theorem Blk.alloc (h : Blk w g t cs) (o : Obj) : Blk (w.alloc o) g t cs := (Below.heap_alloc w o g h.lt).trans h
theorem Blk.set_ (h : Blk w g t cs) (i : Nat) (u : Value) : Blk (w.setCell ⟨g, i, none⟩ u) g t (cs.setIfInBounds i u) := by
  unfold Blk at h ⊢
  simp [World.setCell, Array.getElem?_modify, h]
theorem Blk.ext (h : Blk w g t cs) (hb : Ext w w') : Blk w' g t cs := (hb.block g h.lt).trans h
end

/-- the first k elements stand in the cells -/
def Upto3 (cs : Array Value) (xs : List T3) (k : Nat) : Prop := cs.size = xs.length * 3 ∧ ∀ i x, i < k → xs[i]? = some x → cs[i * 3]? = some (.int .i64 x.a) ∧ cs[i * 3 + 1]? = some (.int .i64 x.b) ∧ cs[i * 3 + 2]? = some (.int .i64 x.c)
theorem Upto3.step {cs : Array Value} {xs : List T3} {k : Nat} {a b c : Int} (h : Upto3 cs xs k) (hx : xs[k]? = some ⟨a, b, c⟩) :
    Upto3 (((cs.setIfInBounds (k * 3) (.int .i64 a)).setIfInBounds (k * 3 + 1) (.int .i64 b)).setIfInBounds (k * 3 + 2) (.int .i64 c)) xs (k + 1) := by
  obtain ⟨h1, h2⟩ := h
  have hk : k < xs.length := (List.getElem?_eq_some_iff.1 hx).1
  refine ⟨by simp [h1], fun i x hi hxi => ?_⟩
  rcases Nat.lt_or_ge i k with hlt | hge
  · obtain ⟨e0, e1, e2⟩ := h2 i x hlt hxi
    refine ⟨?_, ?_, ?_⟩
    · rw [Array.getElem?_setIfInBounds_ne (by omega), Array.getElem?_setIfInBounds_ne (by omega), Array.getElem?_setIfInBounds_ne (by omega)]; exact e0
    · rw [Array.getElem?_setIfInBounds_ne (by omega), Array.getElem?_setIfInBounds_ne (by omega), Array.getElem?_setIfInBounds_ne (by omega)]; exact e1
    · rw [Array.getElem?_setIfInBounds_ne (by omega), Array.getElem?_setIfInBounds_ne (by omega), Array.getElem?_setIfInBounds_ne (by omega)]; exact e2
  · obtain rfl : i = k := by omega
    rw [hx] at hxi
    cases hxi
    refine ⟨?_, ?_, ?_⟩
    · rw [Array.getElem?_setIfInBounds_ne (by omega), Array.getElem?_setIfInBounds_ne (by omega), Array.getElem?_setIfInBounds_self_of_lt (by (try simp); omega)]
    · rw [Array.getElem?_setIfInBounds_ne (by omega), Array.getElem?_setIfInBounds_self_of_lt (by (try simp); omega)]
    · rw [Array.getElem?_setIfInBounds_self_of_lt (by (try simp); omega)]
theorem Upto3.ops {w : World} {g : Nat} {t : TypeId} {cs : Array Value} {xs : List T3} {S : Nat → Prop} (h : Upto3 cs xs xs.length) (hB : Blk w g t cs) (hS : S g) : Ops S w (some ⟨g, 0, none⟩) xs := by
  intro i x hx
  have hi : i < xs.length := (List.getElem?_eq_some_iff.1 hx).1
  obtain ⟨e0, e1, e2⟩ := h.2 i x hi hx
  refine ⟨g, 0, _, rfl, hS, hB.lt, rfl, rfl, fun j u hu => ?_⟩
  rw [hB.cell]
  match j, hu with
  | 0, hu => cases hu; simpa using e0
  | 1, hu => cases hu; simpa using e1
  | 2, hu => cases hu; simpa using e2
  | j + 3, hu => simp at hu


end Go.Proofs.YtdgfipoibnjhaaaDoor
