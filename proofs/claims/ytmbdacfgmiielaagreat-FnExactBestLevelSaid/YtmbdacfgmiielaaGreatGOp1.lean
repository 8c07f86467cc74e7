/-
  Maps that a call makes for itself: what a block holds as a function of the keys, and the laws of look-ups and stores.
-/
import Derived.Test.YtmbdacfgmiielaaGreatProg
import Derived.Test.YtmbdacfgmiielaaGreatGMem0
import Derived.WalkLawsBesides
import Derived.Handy
import Derived.Laws.MakeOwn
import Derived.Laws.Entries
import Derived.Laws.Rows
import Derived.Laws.StructEq
import Derived.Maps.OwnOps
import Derived.Carry
/-
  Contracts of the functions on single operations.
-/
namespace Go.Proofs.YtmbdacfgmiielaaGreat
set_option linter.unusedSimpArgs false
set_option linter.unusedVariables false
set_option maxRecDepth 100000
open Go.RowKit

def inB (n lo hi : Int) : Bool := decide (lo ≤ n) && decide (n ≤ hi)
theorem inB_iff {n lo hi : Int} : inB n lo hi = true ↔ lo ≤ n ∧ n ≤ hi := by simp [inB]

set_option maxHeartbeats 400000 in
theorem l1In_c (n lo hi : Int) (w : World) :
    Calls Tryz.prog 36 #[.int .i64 n, .int .i64 lo, .int .i64 hi] w fun e w' => e = .returned (.bool (inB n lo hi)) ∧ w = w' := by
  go_enter Tryz.func36, Tryz.ntmps36
  go_wp2
  · go_ret; exact ⟨by simp [inB, *], rfl⟩
  · go_ret
    exact ⟨by
      have : ¬ lo ≤ n := by omega
      simp [inB, this], rfl⟩

set_option maxHeartbeats 400000 in
theorem within_c (n lo hi : Int) (w : World) :
    Calls Tryz.prog 101 #[.int .i64 n, .int .i64 lo, .int .i64 hi] w fun e w' => e = .returned (.bool (inB n lo hi)) ∧ w = w' := by
  go_enter Tryz.func101, Tryz.ntmps101
  go_wp2
  · go_ret; exact ⟨by simp [inB, *], rfl⟩
  · go_ret
    exact ⟨by
      have : ¬ lo ≤ n := by omega
      simp [inB, this], rfl⟩

theorem keyOk_c (n : Int) (w : World) :
    Calls Tryz.prog 73 #[.int .i64 n] w fun e w' => e = .returned (.bool (inB n 0 2)) ∧ w = w' := by
  go_enter Tryz.func73, Tryz.ntmps73
  go_wp2_with (go_at_call 101; refine (within_c _ _ _ _).mono ?_; rintro e w' ⟨rfl, rfl⟩)
  go_ret
  exact ⟨rfl, rfl⟩


theorem valueOk_c (n : Int) (w : World) :
    Calls Tryz.prog 115 #[.int .i64 n] w fun e w' => e = .returned (.bool (inB n 0 99)) ∧ w = w' := by
  go_enter Tryz.func115, Tryz.ntmps115
  go_wp2_with (go_at_call 101; refine (within_c _ _ _ _).mono ?_; rintro e w' ⟨rfl, rfl⟩)
  go_ret
  exact ⟨rfl, rfl⟩



theorem reads_c (k y v : Int) (w : World) :
    Calls Tryz.prog 79 #[.agg #[.int .i64 k, .int .i64 y, .int .i64 v]] w fun e w' => e = .returned (.bool (k == 1)) ∧ Ext w w' := by
  go_enter Tryz.func79, Tryz.ntmps79
  go_wp2
  go_ret
  exact ⟨rfl, (Below.refl _ _).alloc (Nat.le_refl _) _⟩


theorem writes_c (k y v : Int) (w : World) :
    Calls Tryz.prog 100 #[.agg #[.int .i64 k, .int .i64 y, .int .i64 v]] w fun e w' => e = .returned (.bool (k == 2)) ∧ Ext w w' := by
  go_enter Tryz.func100, Tryz.ntmps100
  go_wp2
  go_ret
  exact ⟨rfl, (Below.refl _ _).alloc (Nat.le_refl _) _⟩


theorem sessionOk_c (n : Int) (w : World) :
    Calls Tryz.prog 96 #[.int .i64 n] w fun e w' => e = .returned (.bool (inB n 0 3)) ∧ w = w' := by
  go_enter Tryz.func96, Tryz.ntmps96
  go_wp2_with (go_at_call 101; refine (within_c _ _ _ _).mono ?_; rintro e w' ⟨rfl, rfl⟩)
  go_ret
  exact ⟨rfl, rfl⟩

/-- an operation is valid -/
def opv (o : T3) : Bool := (inB o.a 1 2 && inB o.b 0 2 && inB o.c 0 99) && (o.a == 1 || decide (0 < o.c))
theorem opv_mk {k y v : Int} {r : Bool} (h : ((inB k 1 2 && inB y 0 2 && inB v 0 99) && (k == 1 || decide (0 < v))) = r) : Ending.returned (.bool r) = .returned (.bool (opv ⟨k, y, v⟩)) := by rw [← h]; rfl

set_option maxHeartbeats 400000 in
theorem specOpValid_c (k y v : Int) (w : World) :
    Calls Tryz.prog 58 #[.agg #[.int .i64 k, .int .i64 y, .int .i64 v]] w fun e w' => e = .returned (.bool (opv ⟨k, y, v⟩)) ∧ Ext w w' := by
  go_enter Tryz.func58, Tryz.ntmps58
  go_wp2_with (go_at_call 36; refine (l1In_c _ _ _ _).mono ?_; rintro e w' ⟨rfl, rfl⟩)
  all_goals go_ret
  all_goals exact ⟨opv_mk (by simp_all), (Below.refl _ _).alloc (Nat.le_refl _) _⟩


set_option maxHeartbeats 400000 in
theorem implOpValid_c (k y v : Int) (w : World) :
    Calls Tryz.prog 99 #[.agg #[.int .i64 k, .int .i64 y, .int .i64 v]] w fun e w' => e = .returned (.bool (opv ⟨k, y, v⟩)) ∧ Ext w w' := by
  go_enter Tryz.func99, Tryz.ntmps99
  go_wp2_with (first
    | (go_at_call 73; refine (keyOk_c _ _).mono ?_; rintro e w' ⟨rfl, rfl⟩)
    | (go_at_call 115; refine (valueOk_c _ _).mono ?_; rintro e w' ⟨rfl, rfl⟩) | go_in)
  all_goals go_ret
  all_goals refine ⟨opv_mk ?_, by go_grown⟩
  all_goals (simp only [inB] at *; (try simp_all); (try omega))
  all_goals (rw [Bool.eq_iff_iff]; simp; omega)


/-- the law's own conversion of an operation: a copy -/
theorem toOp_c (k y v : Int) (w : World) :
    Calls Tryz.prog 42 #[.agg #[.int .i64 k, .int .i64 y, .int .i64 v]] w fun e w' => e = .returned (.agg #[.int .i64 k, .int .i64 y, .int .i64 v]) ∧ Ext w w' := by
  go_enter Tryz.func42, Tryz.ntmps42
  go_wp2
  go_returns
  exact ⟨rfl, by go_grown⟩
end Go.Proofs.YtmbdacfgmiielaaGreat
/-
  Contracts of the laws' helpers on slices of three-number structs: copies, sizes, comparisons.
-/
namespace Go.Proofs.YtmbdacfgmiielaaGreat
set_option linter.unusedSimpArgs false
set_option linter.unusedVariables false
set_option maxRecDepth 100000
open Go.RowKit

theorem run_make_rowN {P : Program} (t e : TypeId) (i : TypeInfo) (z : Value) (ht : P.underlying t = some (.slice e)) (hi : P.info? e = some i) (hz : i.zero = some z)
    (kl kc : IntKind) (n c : Nat) (hnc : n ≤ c) (hbytes : i.bytes * c ≤ 281474976710656) (h63 : c ≤ 9223372036854775807) (w : World) :
    (Instr.makeSlice t (.int kl (n : Int)) (.int kc (c : Int))).run P w = .ok (.slice (some ⟨w.heap.size, 0, none⟩) n c) (w.alloc (.cells (madeCells z.cells (c * i.size)) e)) := by
  have hb : (i.bytes : Int) * (c : Int) ≤ 281474976710656 := by
    have h : ((i.bytes * c : Nat) : Int) ≤ 281474976710656 := by omega
    rwa [Int.natCast_mul] at h
  have hr := run_make (P := P) w t e i z ht hi hz kl kc n c (by omega) (by omega) hb (by omega)
  simp only [Int.toNat_natCast] at hr
  exact hr

/-- block g holds just the cells cs, none frozen -/
def Blk (w : World) (g : Nat) (t : TypeId) (cs : Array Value) : Prop := w.heap[g]? = some (.cells cs t (0, 0))
section
variable {w w' : World} {g : Nat} {t : TypeId} {cs : Array Value}
theorem Blk.lt (h : Blk w g t cs) : g < w.heap.size := by
  rcases Nat.lt_or_ge g w.heap.size with hlt | hge
  · exact hlt
  · unfold Blk at h; rw [Array.getElem?_eq_none hge] at h; cases h
theorem Blk.cell (h : Blk w g t cs) (i : Nat) : w.cell? ⟨g, i, none⟩ = cs[i]? := cell_of_row w g i cs t (0, 0) h
theorem Blk.at_ (h : Blk w g t cs) {i : Nat} (hi : i < cs.size) : ∃ u, w.cell? ⟨g, i, none⟩ = some u := ⟨cs[i], by rw [h.cell]; exact Array.getElem?_eq_getElem hi⟩
theorem Blk.frozen (h : Blk w g t cs) (i : Nat) : w.frozen? ⟨g, i, none⟩ = false := by
  unfold Blk at h
  simp [World.frozen?, h]
theorem Blk.new (w : World) (t : TypeId) (cs : Array Value) : Blk (w.alloc (.cells cs t)) w.heap.size t cs := heap_alloc_new w _
theorem Blk.alloc (h : Blk w g t cs) (o : Obj) : Blk (w.alloc o) g t cs := (Below.heap_alloc w o g h.lt).trans h
theorem Blk.set_ (h : Blk w g t cs) (i : Nat) (u : Value) : Blk (w.setCell ⟨g, i, none⟩ u) g t (cs.setIfInBounds i u) := by
  unfold Blk at h ⊢
  simp [World.setCell, Array.getElem?_modify, h]
theorem Blk.ext (h : Blk w g t cs) (hb : Ext w w') : Blk w' g t cs := (hb.block g h.lt).trans h
end

/-- the first k elements stand in the cells -/
def Upto3 (cs : Array Value) (xs : List T3) (k : Nat) : Prop := cs.size = xs.length * 3 ∧ ∀ i x, i < k → xs[i]? = some x → cs[i * 3]? = some (.int .i64 x.a) ∧ cs[i * 3 + 1]? = some (.int .i64 x.b) ∧ cs[i * 3 + 2]? = some (.int .i64 x.c)
theorem Upto3.step {cs : Array Value} {xs : List T3} {k : Nat} {a b c : Int} (h : Upto3 cs xs k) (hx : xs[k]? = some ⟨a, b, c⟩) :
    Upto3 (((cs.setIfInBounds (k * 3) (.int .i64 a)).setIfInBounds (k * 3 + 1) (.int .i64 b)).setIfInBounds (k * 3 + 2) (.int .i64 c)) xs (k + 1) := by
  obtain ⟨h1, h2⟩ := h
  have hk : k < xs.length := (List.getElem?_eq_some_iff.1 hx).1
  refine ⟨by simp [h1], fun i x hi hxi => ?_⟩
  rcases Nat.lt_or_ge i k with hlt | hge
  · obtain ⟨e0, e1, e2⟩ := h2 i x hlt hxi
    refine ⟨?_, ?_, ?_⟩
    · rw [Array.getElem?_setIfInBounds_ne (by omega), Array.getElem?_setIfInBounds_ne (by omega), Array.getElem?_setIfInBounds_ne (by omega)]; exact e0
    · rw [Array.getElem?_setIfInBounds_ne (by omega), Array.getElem?_setIfInBounds_ne (by omega), Array.getElem?_setIfInBounds_ne (by omega)]; exact e1
    · rw [Array.getElem?_setIfInBounds_ne (by omega), Array.getElem?_setIfInBounds_ne (by omega), Array.getElem?_setIfInBounds_ne (by omega)]; exact e2
  · obtain rfl : i = k := by omega
    rw [hx] at hxi
    cases hxi
    refine ⟨?_, ?_, ?_⟩
    · rw [Array.getElem?_setIfInBounds_ne (by omega), Array.getElem?_setIfInBounds_ne (by omega), Array.getElem?_setIfInBounds_self_of_lt (by (try simp); omega)]
    · rw [Array.getElem?_setIfInBounds_ne (by omega), Array.getElem?_setIfInBounds_self_of_lt (by (try simp); omega)]
    · rw [Array.getElem?_setIfInBounds_self_of_lt (by (try simp); omega)]
theorem Upto3.ops {w : World} {g : Nat} {t : TypeId} {cs : Array Value} {xs : List T3} {S : Nat → Prop} (h : Upto3 cs xs xs.length) (hB : Blk w g t cs) (hS : S g) : Ops S w (some ⟨g, 0, none⟩) xs := by
  intro i x hx
  have hi : i < xs.length := (List.getElem?_eq_some_iff.1 hx).1
  obtain ⟨e0, e1, e2⟩ := h.2 i x hi hx
  refine ⟨g, 0, _, rfl, hS, hB.lt, rfl, rfl, fun j u hu => ?_⟩
  rw [hB.cell]
  match j, hu with
  | 0, hu => cases hu; simpa using e0
  | 1, hu => cases hu; simpa using e1
  | 2, hu => cases hu; simpa using e2
  | j + 3, hu => simp at hu


def Fresh3 (xs : List T3) (w : World) (e : Ending) (w' : World) : Prop :=
  ∃ A, e = .returned (.slice A xs.length xs.length) ∧ Ops (fun b => w.heap.size ≤ b) w' A xs ∧ (∀ a, A = some a → w.heap.size ≤ a.block ∧ a.block < w'.heap.size ∧ ∀ o, w'.frozen? ⟨a.block, o, none⟩ = false) ∧ Ext w w'

theorem info_toOp : (Tryz.prog.info? 62).map (fun i => (i.zero, i.size, i.bytes)) = some (some (.agg #[.int .i64 0, .int .i64 0, .int .i64 0]), 3, 24) := by kernel_rfl

set_option maxHeartbeats 1000000 in
theorem toOpS_c (xs : List T3) (S : Nat → Prop) (A : Option Addr) (c : Nat) (w : World) (hx : Ops S w A xs) (hn : xs.length ≤ 1048576) :
    Calls Tryz.prog 23 #[.slice A xs.length c] w (Fresh3 xs w) := by
  obtain ⟨i0, hi, hz0, hz1, hz2⟩ := info_parts info_toOp
  have hmk := fun W => run_make_rowN (P := Tryz.prog) 37 62 i0 _ Tryz.underlying37 hi hz0 .i64 .i64 xs.length xs.length (Nat.le_refl _) (by rw [hz2]; omega) (by omega) W
  rw [hz1] at hmk
  go_enter Tryz.func23, Tryz.ntmps23
  go_wp2
  go_loopw [4] (fun i wr => ∃ (k : Nat) (cs : Array Value), k ≤ xs.length ∧ i = .int .i64 k ∧ Blk wr w.heap.size 62 cs ∧ Upto3 cs xs k ∧ Ext w wr) (fun i _ => xs.length - (intOf i).toNat)
  case atStart => exact ⟨0, _, Nat.zero_le _, rfl, Blk.new _ _ _, ⟨by simp [madeCells], fun i x h => by omega⟩, by (repeat' (first | (with_reducible exact Below.refl _ _) | (with_reducible refine Below.mono (by assumption) ?_) | (with_reducible refine Below.trans ?_ (Below.mono (by assumption) ?_)) | (with_reducible refine Below.alloc ?_ ?_ _) | (with_reducible refine Below.drew ?_) | (with_reducible refine below_drewN ?_ _) | (with_reducible refine Below.setCell ?_ ?_ _) | (simp only [World.size_alloc, World.size_setCell, World.size_drew, size_drewN]; omega) | omega))⟩
  case round =>
    obtain ⟨k, cs, hk, rfl, hB, hU, hE⟩ := hrel
    by_cases hlt : k < xs.length
    · obtain ⟨x0, x1, x2, b, off, hxk, rfl, _, hb0, c0, c1, c2⟩ := (hx.ext hE).at_ hlt
      have hg := hB.lt
      have hs3 := hU.1
      obtain ⟨u0, d0⟩ := hB.at_ (i := k * 3) (by omega)
      obtain ⟨u1, d1⟩ := hB.at_ (i := k * 3 + 1) (by omega)
      obtain ⟨u2, d2⟩ := hB.at_ (i := k * 3 + 2) (by omega)
      have hfz := hB.frozen
      have HX := Lib.hid hxk; have HU := Lib.hid hU; have HS := Lib.hid hs3
      clear hxk hU hs3
      go_wp2_with (go_at_call 42; refine (toOp_c _ _ _ _).mono ?_; rintro e w1 ⟨rfl, hb⟩; obtain ⟨hc, hf, hz, hs⟩ := bcell hb; (try simp only [World.size_alloc, World.size_setCell, World.size_drew, size_drewN] at hs); (first | have l0 := Nat.lt_of_lt_of_le l0 (show _ ≤ w1.heap.size by omega) | have l0 : w.heap.size < w1.heap.size := (by omega) | skip); (try have l0e := Nat.le_of_lt l0); (try have l0f := Nat.le_add_right_of_le (k := 1) l0e); (try have l1 := Nat.lt_of_lt_of_le l1 (show _ ≤ w1.heap.size by omega)); (try have l1e := Nat.le_of_lt l1); (try have l1f := Nat.le_add_right_of_le (k := 1) l1e); (try have l2 := Nat.lt_of_lt_of_le l2 (show _ ≤ w1.heap.size by omega)); (try have l2e := Nat.le_of_lt l2); (try have l2f := Nat.le_add_right_of_le (k := 1) l2e); (try have l3 := Nat.lt_of_lt_of_le l3 (show _ ≤ w1.heap.size by omega)); (try have l3e := Nat.le_of_lt l3); (try have l3f := Nat.le_add_right_of_le (k := 1) l3e))
      go_roundw
      case rel =>
        refine ⟨k + 1, _, by omega, by go_num, (((hB.ext hb).set_ _ _).set_ _ _).set_ _ _, HU.out.step HX.out, by (repeat' (first | (with_reducible exact Below.refl _ _) | (with_reducible refine Below.mono (by assumption) ?_) | (with_reducible refine Below.trans ?_ (Below.mono (by assumption) ?_)) | (with_reducible refine Below.alloc ?_ ?_ _) | (with_reducible refine Below.drew ?_) | (with_reducible refine below_drewN ?_ _) | (with_reducible refine Below.setCell ?_ ?_ _) | (simp only [World.size_alloc, World.size_setCell, World.size_drew, size_drewN]; omega) | omega))⟩
      case measure => simp [intOf]; omega
    · obtain rfl : k = xs.length := by omega
      go_wp2
      go_ret
      exact ⟨_, rfl, hU.ops hB (Nat.le_refl _), fun a ha => by cases ha; exact ⟨Nat.le_refl _, hB.lt, fun o => hB.frozen o⟩, hE⟩
end Go.Proofs.YtmbdacfgmiielaaGreat
namespace Go.Proofs.YtmbdacfgmiielaaGreat
set_option linter.unusedSimpArgs false
set_option linter.unusedVariables false
set_option maxRecDepth 100000
open Go.RowKit Go.Instr

/-- what is asked of a key's type: ek lays a key out as a value -/
structure KeyLaw {κ : Type} [DecidableEq κ] (P : Program) (kt : TypeId) (ek : κ → Value) : Prop where
  check : ∀ (e : Bool) (k : κ) (w : World), (checkKey e 10000 kt (ek k)).run P w = .ok () w
  find : ∀ (k : κ) (es : List MapEntry) (kvs : List (κ × Value)) (w : World), es.map (fun e => (e.key, e.val)) = kvs.map (fun p => (ek p.1, p.2)) →
    ∃ r, (findKey kt (ek k) es).run P w = .ok r w ∧ (r = none → ∀ p ∈ kvs, p.1 ≠ k) ∧ (∀ i v, r = some (i, v) → ∃ h : i < kvs.length, kvs[i] = (k, v) ∧ ∀ j (hj : j < i), (kvs[j]'(by omega)).1 ≠ k)
  same : ∀ k : κ, sameBits 10000 (ek k) (ek k) = true

section
variable {κ : Type} [DecidableEq κ] {P : Program} {kt : TypeId} {ek : κ → Value}

/-- block b is a map that holds f -/
def MapF (ek : κ → Value) (w : World) (b : Nat) (f : κ → Option Value) (n : Nat) : Prop :=
  ∃ es clk, ∃ kvs : List (κ × Value), w.heap[b]? = some (.map es clk) ∧ es.toList.map (fun e => (e.key, e.val)) = kvs.map (fun p => (ek p.1, p.2)) ∧ (∀ k, (kvs.find? (fun p => decide (p.1 = k))).map (·.2) = f k) ∧ kvs.length ≤ n

theorem MapF.made (w : World) : MapF ek (w.alloc (.map #[] 0)) w.heap.size (fun _ => none) 0 := ⟨#[], 0, [], (MapKept.heap_alloc w _).1, rfl, (fun _ => rfl), Nat.le_refl _⟩
theorem MapF.lt {w : World} {b : Nat} {f : κ → Option Value} {n : Nat} (h : MapF ek w b f n) : b < w.heap.size := by
  obtain ⟨es, clk, kvs, hb, _⟩ := h
  rcases Nat.lt_or_ge b w.heap.size with hlt | hge
  · exact hlt
  · rw [Array.getElem?_eq_none hge] at hb; cases hb
theorem MapF.ext {w w' : World} {b : Nat} {f : κ → Option Value} {n : Nat} (h : MapF ek w b f n) (hb : Ext w w') : MapF ek w' b f n := by
  have hlt := h.lt
  obtain ⟨es, clk, kvs, h0, h1, h2, h3⟩ := h
  exact ⟨es, clk, kvs, (hb.block b hlt).trans h0, h1, h2, h3⟩
theorem MapF.keep {w w' : World} {b : Nat} {f : κ → Option Value} {n : Nat} (h : MapF ek w b f n) (hb : w'.heap[b]? = w.heap[b]?) : MapF ek w' b f n := by
  obtain ⟨es, clk, kvs, h0, h1, h2, h3⟩ := h
  exact ⟨es, clk, kvs, hb.trans h0, h1, h2, h3⟩
theorem MapF.grown {w w' : World} {b : Nat} {f : κ → Option Value} {n : Nat} {row : Option Nat} (h : MapF ek w b f n) (hg : w.grownBy w' row) (hne : some b ≠ row) : MapF ek w' b f n :=
  h.keep (hg.block b h.lt hne)

theorem find_at {kvs : List (κ × Value)} {k : κ} {v : Value} {i : Nat} (h : i < kvs.length) (he : kvs[i] = (k, v)) (hj : ∀ j (hj : j < i), (kvs[j]'(by omega)).1 ≠ k) : (kvs.find? (fun p => decide (p.1 = k))).map (·.2) = some v := by
  induction kvs generalizing i with
  | nil => simp at h
  | cons p ps ih =>
    cases i with
    | zero => simp at he; subst he; simp
    | succ i =>
      have h0 := hj 0 (by omega)
      simp at h0
      rw [List.find?_cons_of_neg (by simpa using h0)]
      exact ih (i := i) (by simpa using h) (by simpa using he) (fun j hj' => by simpa using hj (j + 1) (by omega))
theorem find_none {kvs : List (κ × Value)} {k : κ} (h : ∀ p ∈ kvs, p.1 ≠ k) : (kvs.find? (fun p => decide (p.1 = k))).map (·.2) = none := by
  rw [List.find?_eq_none.2 (fun p hp => by simpa using h p hp)]; rfl

theorem MapF.look {w : World} {b : Nat} {f : κ → Option Value} {n : Nat} (h : MapF ek w b f n) (L : KeyLaw P kt ek) {t et : TypeId} (ht : P.underlying t = some (.map kt et)) {z : Value} (hz : ∀ W, (zeroValue et).run P W = .ok z W) (k : κ) (ok : Bool) :
    (Instr.lookup t (.map (some b)) (ek k) ok).run P w = .ok (if ok = true then .tuple #[(f k).getD z, .bool (f k).isSome] else (f k).getD z) w := by
  obtain ⟨es, clk, kvs, h0, h1, h2, h3⟩ := h
  obtain ⟨r, hr, hn, hs⟩ := L.find k es.toList kvs w h1
  have hobj : (getObj b).run P w = .ok (.map es clk) w := by simp [getObj, Sem.run, h0]
  unfold Instr.lookup
  simp only [Sem.run_bind, run_underlying ht, Result.andThen_ok, hobj, Sem.run_pure, L.check, hr]
  cases r with
  | none =>
    have hf : f k = none := (h2 k).symm.trans (find_none (hn rfl))
    cases ok <;> simp [hz, hf]
  | some iv =>
    obtain ⟨i, v⟩ := iv
    obtain ⟨hi, he, hj⟩ := hs i v rfl
    have hf : f k = some v := (h2 k).symm.trans (find_at hi he hj)
    cases ok <;> simp [hf]

theorem find_put_hit {kvs : List (κ × Value)} {k : κ} {v v' : Value} {i : Nat} (h : i < kvs.length) (he : kvs[i] = (k, v)) (hj : ∀ j (hj : j < i), (kvs[j]'(by omega)).1 ≠ k) (k' : κ) :
    ((kvs.modify i fun p => (k, v')).find? (fun p => decide (p.1 = k'))).map (·.2) = if k' = k then some v' else (kvs.find? (fun p => decide (p.1 = k'))).map (·.2) := by
  induction kvs generalizing i with
  | nil => simp at h
  | cons p ps ih =>
    cases i with
    | zero =>
      simp at he
      subst he
      simp only [List.modify_cons, if_pos]
      by_cases hk : k' = k
      · subst hk; simp
      · rw [List.find?_cons_of_neg (by simpa using fun h => hk h.symm), List.find?_cons_of_neg (by simpa using fun h => hk h.symm), if_neg hk]
    | succ i =>
      have h0 := hj 0 (by omega)
      simp at h0
      have IH := ih (i := i) (by simpa using h) (by simpa using he) (fun j hj' => by simpa using hj (j + 1) (by omega))
      simp only [List.modify_succ_cons]
      by_cases hp : p.1 = k'
      · rw [List.find?_cons_of_pos (by simpa using hp), List.find?_cons_of_pos (by simpa using hp), if_neg (fun e => h0 (hp.trans e))]
      · rw [List.find?_cons_of_neg (by simpa using hp), List.find?_cons_of_neg (by simpa using hp)]
        exact IH
theorem find_put_new {kvs : List (κ × Value)} {k : κ} {v' : Value} (h : ∀ p ∈ kvs, p.1 ≠ k) (k' : κ) :
    ((kvs ++ [(k, v')]).find? (fun p => decide (p.1 = k'))).map (·.2) = if k' = k then some v' else (kvs.find? (fun p => decide (p.1 = k'))).map (·.2) := by
  rw [List.find?_append]
  by_cases hk : k' = k
  · subst hk
    rw [List.find?_eq_none.2 (fun p hp => by simpa using h p hp)]
    simp
  · rw [if_neg hk]
    cases (kvs.find? (fun p => decide (p.1 = k'))) with
    | none => simp; exact fun e => hk e.symm
    | some x => simp

theorem MapF.put {w : World} {b : Nat} {f : κ → Option Value} {n : Nat} (h : MapF ek w b f n) (L : KeyLaw P kt ek) {t et : TypeId} (ht : P.underlying t = some (.map kt et)) (k : κ) (v : Value) :
    ∃ w', (Instr.mapUpdate t (.map (some b)) (ek k) v).run P w = .ok () w' ∧ MapF ek w' b (fun k' => if k' = k then some v else f k') (n + 1) ∧ w.grownBy w' (some b) := by
  obtain ⟨es, clk, kvs, h0, h1, h2, h3⟩ := h
  obtain ⟨r, hr, hn, hs⟩ := L.find k es.toList kvs w h1
  have hobj : (getObj b).run P w = .ok (.map es clk) w := by simp [getObj, Sem.run, h0]
  have hset : ∀ o : Obj, (setObj b o).run P w = .ok () { w with heap := w.heap.setIfInBounds b o } := fun o => by simp [setObj, Sem.run, h0]
  have hlt : b < w.heap.size := by
    rcases Nat.lt_or_ge b w.heap.size with hlt | hge
    · exact hlt
    · rw [Array.getElem?_eq_none hge] at h0; cases h0
  have hgb : ∀ o : Obj, w.grownBy { w with heap := w.heap.setIfInBounds b o } (some b) := fun o =>
    ⟨rfl, rfl, rfl, by simp, fun i _ hi => Array.getElem?_setIfInBounds_ne (fun e => hi (by rw [e]))⟩
  have hself : ∀ o : Obj, (w.heap.setIfInBounds b o)[b]? = some o := fun o => Array.getElem?_setIfInBounds_self_of_lt hlt
  unfold Instr.mapUpdate
  simp only [Sem.run_bind, run_underlying ht, Result.andThen_ok, hobj, L.check, hr]
  cases r with
  | none =>
    refine ⟨_, hset _, ⟨es.push { key := ek k, val := v, born := clk }, clk + 1, kvs ++ [(k, v)], hself _, by simp [h1], fun k' => ?_, by simp; omega⟩, hgb _⟩
    rw [find_put_new (hn rfl), h2]
  | some iv =>
    obtain ⟨i, v0⟩ := iv
    obtain ⟨hi, he, hj⟩ := hs i v0 rfl
    have hl : es.size = kvs.length := by simpa using congrArg List.length h1
    have hkey : ((es[i]?).map (·.key)).getD (ek k) = ek k := by
      have := congrArg (fun l => l[i]?) h1
      simp [List.getElem?_map, List.getElem?_eq_getElem hi, he, Array.getElem?_eq_getElem (show i < es.size by omega)] at this
      simp [Array.getElem?_eq_getElem (show i < es.size by omega), this.1]
    have hst : (keyThatStays (ek k) (ek k)).run P w = .ok (ek k) w := by simp [keyThatStays, L.same]
    simp only [hkey, hst, Result.andThen_ok, Sem.run_bind]
    refine ⟨_, hset _, ⟨es.modify i fun e => { e with key := ek k, val := v }, clk, kvs.modify i fun _ => (k, v), hself _, ?_, fun k' => ?_, by simp; omega⟩, hgb _⟩
    · rw [Array.toList_modify]
      apply List.ext_getElem?
      intro j
      have hj' := congrArg (fun l => l[j]?) h1
      simp only [List.getElem?_map, List.getElem?_modify] at hj' ⊢
      by_cases e : i = j
      · subst e
        have hie : i < es.size := by omega
        simp [Array.getElem?_eq_getElem hie, List.getElem?_eq_getElem hi]
      · simp [e]
        simpa using hj'
    · rw [find_put_hit hi he hj, h2]
end

theorem MapF.len {κ : Type} [DecidableEq κ] {P : Program} {kt : TypeId} {ek : κ → Value} {w : World} {b : Nat} {f : κ → Option Value} {n : Nat} (h : MapF ek w b f n) {t et : TypeId} (ht : P.underlying t = some (.map kt et)) :
    ∃ m : Nat, m ≤ n ∧ ∀ ty, (Builtin.len_ #[t] ty #[.map (some b)]).run P w = .ok (.int .i64 m) w := by
  obtain ⟨es, clk, kvs, h0, h1, h2, h3⟩ := h
  have hl : es.size = kvs.length := by simpa using congrArg List.length h1
  have hobj : (getObj b).run P w = .ok (.map es clk) w := by simp [getObj, Sem.run, h0]
  refine ⟨es.size, by omega, fun ty => ?_⟩
  simp [Builtin.len_, run_underlying ht, hobj]
  rfl

/-- 'm[k] = v' at the operation -/
theorem wpList_putF {κ : Type} [DecidableEq κ] {P : Program} {kt : TypeId} {ek : κ → Value} (w : World) {ops : Array Oper} {rest : List Oper} {o : Oper} {a : Act} {Q : Exit → Act → World → Prop} (hg : o.guard = none) (m x v : Operand) (t : TypeId) (hop : o.op = Op.mapUpdate t m x v)
    {et : TypeId} (ht : P.underlying t = some (.map kt et)) (L : KeyLaw P kt ek) (b : Nat) (f : κ → Option Value) (n : Nat) (hm : a.eval m = .map (some b)) (hown : MapF ek w b f n) (k : κ) (val : Value) (hx : a.eval x = ek k) (hv : a.eval v = val)
    (hK : ∀ w', MapF ek w' b (fun k' => if k' = k then some val else f k') (n + 1) → w.grownBy w' (some b) → wpList P ops Q rest (a.put o.dst undef) w') : wpList P ops Q (o :: rest) a w := by
  refine wpList_plain hg fun K' hK' => ?_
  obtain ⟨w', hrun, r1, r2⟩ := hown.put L ht k val
  unfold Oper.wp
  simp [execOp, hop, hm, hx, hv, hrun, Result.andThen]
  exact hK' _ _ (hK w' r1 r2)

theorem int_keylaw {P : Program} {kt : TypeId} (h : P.underlying kt = some (.int .i64)) : KeyLaw P kt (fun k : Int => Value.int .i64 k) where
  check e k w := by
    rw [show (10000 : Nat) = 9999 + 1 from rfl]
    unfold checkKey
    simp [run_underlying h]
  same k := by
    rw [show (10000 : Nat) = 9999 + 1 from rfl]
    simp [sameBits]
  find k es kvs w he := by
    have key : ∀ (es : List MapEntry) (kvs : List (Int × Value)) (s : Nat), es.map (fun e => (e.key, e.val)) = kvs.map (fun p => (Value.int .i64 p.1, p.2)) →
        ∃ r, findNow (.int .i64) (.int .i64 k) es s = some r ∧ (r = none → ∀ p ∈ kvs, p.1 ≠ k) ∧ (∀ i v, r = some (i, v) → s ≤ i ∧ ∃ h : i - s < kvs.length, kvs[i - s] = (k, v) ∧ ∀ j (hj : j < i - s), (kvs[j]'(by omega)).1 ≠ k) := by
      intro es
      induction es with
      | nil =>
        intro kvs s he
        cases kvs with
        | nil => exact ⟨none, rfl, (fun _ p hp => by simp at hp), (fun i v h => by cases h)⟩
        | cons p ps => simp at he
      | cons e es ih =>
        intro kvs s he
        cases kvs with
        | nil => simp at he
        | cons p ps =>
          simp only [List.map_cons, List.cons.injEq, Prod.mk.injEq] at he
          obtain ⟨⟨hk, hv⟩, he⟩ := he
          unfold findNow
          simp only [hk, sameNow, if_pos]
          by_cases hp : k = p.1
          · subst hp
            refine ⟨some (s, e.val), by simp, (fun h => by cases h), fun i v h => ?_⟩
            cases h
            exact ⟨Nat.le_refl _, by simp, by simp [hv], (fun j hj => by omega)⟩
          · have : (k == p.1) = false := by simpa using hp
            simp only [this]
            obtain ⟨r, hr, hn, hs⟩ := ih ps (s + 1) he
            refine ⟨r, hr, fun h q hq => ?_, fun i v h => ?_⟩
            · rcases List.mem_cons.1 hq with rfl | hq
              · exact fun e => hp e.symm
              · exact hn h q hq
            · obtain ⟨hle, hi, hkv, hj⟩ := hs i v h
              refine ⟨by omega, by simp; omega, ?_, fun j hj' => ?_⟩
              · have e1 : i - s = (i - (s + 1)) + 1 := by omega
                simp only [e1, List.getElem_cons_succ]
                exact hkv
              · cases j with
                | zero => exact fun e => hp e.symm
                | succ j => simpa using hj j (by omega)
    obtain ⟨r, hr, hn, hs⟩ := key es kvs 0 he
    refine ⟨r, ?_, hn, fun i v h => ?_⟩
    · unfold findKey
      simp [run_underlying h, hr]
    · obtain ⟨_, h1, h2, h3⟩ := hs i v h
      exact ⟨by simpa using h1, by simpa using h2, fun j hj => h3 j (by simpa using hj)⟩

end Go.Proofs.YtmbdacfgmiielaaGreat
