/-
  What a slice of this program reads as in memory: elements of k cells each, the blocks that it touches lying in a set S; kept while those blocks keep their cells.
-/
import Derived.WalkKit
import Derived.ProofKit
import Derived.Lib.Hide
import Derived.Deep.Draws
namespace Go.Proofs.YtdgfipoibnjhaaaDoor
set_option linter.unusedSimpArgs false
set_option linter.unusedVariables false
set_option maxRecDepth 100000
open Go.RowKit

structure T3 where
  a : Int
  b : Int
  c : Int
deriving DecidableEq, Inhabited

structure TxnT where
  sess : Int
  ops : List T3
  done : Bool
deriving DecidableEq, Inhabited

/-- slice address A, elements of k cells, reading as xs; each element by R; every block touched lies in S -/
def SlAt {α : Type} (k : Nat) (R : World → α → List Value → Prop) (S : Nat → Prop) (w : World) (A : Option Addr) (xs : List α) : Prop :=
  ∀ i x, xs[i]? = some x → ∃ b off us, A = some ⟨b, off, none⟩ ∧ S b ∧ b < w.heap.size ∧ us.length = k ∧ R w x us ∧ ∀ j u, us[j]? = some u → w.cell? ⟨b, off + i * k + j, none⟩ = some u

def RInt (_ : World) (x : Int) (us : List Value) : Prop := us = [.int .i64 x]
def RU8 (_ : World) (x : Int) (us : List Value) : Prop := us = [.int .u8 x]
def R3 (_ : World) (x : T3) (us : List Value) : Prop := us = [.int .i64 x.a, .int .i64 x.b, .int .i64 x.c]
def RTxn (S : Nat → Prop) (w : World) (t : TxnT) (us : List Value) : Prop :=
  ∃ A cap, us = [.int .i64 t.sess, .slice A t.ops.length cap, .bool t.done] ∧ SlAt 3 R3 S w A t.ops
def RRow (S : Nat → Prop) (w : World) (l : List Int) (us : List Value) : Prop :=
  ∃ A cap, us = [.slice A l.length cap] ∧ SlAt 1 RInt S w A l
def RRows (S : Nat → Prop) (w : World) (l : List (List Int)) (us : List Value) : Prop :=
  ∃ A cap, us = [.slice A l.length cap] ∧ SlAt 1 (RRow S) S w A l

/-- R is kept from w to w' -/
def Kept {α : Type} (R : World → α → List Value → Prop) (w w' : World) : Prop := ∀ x us, R w x us → R w' x us

section
variable {α : Type} {k : Nat} {R R' : World → α → List Value → Prop} {S S' : Nat → Prop} {w w' : World} {A : Option Addr} {xs : List α}

theorem SlAt.keep (h : SlAt k R S w A xs) (hR : Kept R w w') (hz : w.heap.size ≤ w'.heap.size) (hk : ∀ p : Addr, S p.block → p.block < w.heap.size → w'.cell? p = w.cell? p) : SlAt k R S w' A xs := by
  intro i x hx
  obtain ⟨b, off, us, rfl, hS, hb, hl, hr, hc⟩ := h i x hx
  exact ⟨b, off, us, rfl, hS, by omega, hl, hR _ _ hr, fun j u hu => (hk ⟨b, _, none⟩ hS hb).trans (hc j u hu)⟩

theorem SlAt.mono (h : SlAt k R S w A xs) (hS : ∀ b, S b → b < w.heap.size → S' b) (hR : ∀ x us, R w x us → R' w x us) : SlAt k R' S' w A xs := by
  intro i x hx
  obtain ⟨b, off, us, rfl, hS', hb, hl, hr, hc⟩ := h i x hx
  exact ⟨b, off, us, rfl, hS b hS' hb, hb, hl, hR _ _ hr, hc⟩

theorem SlAt.nil : SlAt k R S w A ([] : List α) := fun i x hx => by simp at hx
end

theorem kept_int (w w' : World) : Kept RInt w w' := fun _ _ h => h
theorem kept_u8 (w w' : World) : Kept RU8 w w' := fun _ _ h => h
theorem kept_3 (w w' : World) : Kept R3 w w' := fun _ _ h => h

section
variable {S S' : Nat → Prop} {w w' : World}
theorem kept_txn (hz : w.heap.size ≤ w'.heap.size) (hk : ∀ p : Addr, S p.block → p.block < w.heap.size → w'.cell? p = w.cell? p) : Kept (RTxn S) w w' :=
  fun _ _ ⟨A, cap, e, h⟩ => ⟨A, cap, e, h.keep (kept_3 _ _) hz hk⟩
theorem kept_row (hz : w.heap.size ≤ w'.heap.size) (hk : ∀ p : Addr, S p.block → p.block < w.heap.size → w'.cell? p = w.cell? p) : Kept (RRow S) w w' :=
  fun _ _ ⟨A, cap, e, h⟩ => ⟨A, cap, e, h.keep (kept_int _ _) hz hk⟩
theorem kept_rows (hz : w.heap.size ≤ w'.heap.size) (hk : ∀ p : Addr, S p.block → p.block < w.heap.size → w'.cell? p = w.cell? p) : Kept (RRows S) w w' :=
  fun _ _ ⟨A, cap, e, h⟩ => ⟨A, cap, e, h.keep (kept_row hz hk) hz hk⟩
theorem mono_txn (hS : ∀ b, S b → b < w.heap.size → S' b) : ∀ x us, RTxn S w x us → RTxn S' w x us :=
  fun _ _ ⟨A, cap, e, h⟩ => ⟨A, cap, e, h.mono hS (fun _ _ h => h)⟩
theorem mono_row (hS : ∀ b, S b → b < w.heap.size → S' b) : ∀ x us, RRow S w x us → RRow S' w x us :=
  fun _ _ ⟨A, cap, e, h⟩ => ⟨A, cap, e, h.mono hS (fun _ _ h => h)⟩
theorem mono_rows (hS : ∀ b, S b → b < w.heap.size → S' b) : ∀ x us, RRows S w x us → RRows S' w x us :=
  fun _ _ ⟨A, cap, e, h⟩ => ⟨A, cap, e, h.mono hS (mono_row hS)⟩
end

/-- the whole heap -/
def Any : Nat → Prop := fun _ => True

/-- the world below is as it was -/
abbrev Ext (w w' : World) : Prop := Below w.heap.size w w'
theorem Ext.cells {w w' : World} (h : Ext w w') {S : Nat → Prop} : ∀ p : Addr, S p.block → p.block < w.heap.size → w'.cell? p = w.cell? p := fun _ _ hp => h.cell hp
theorem Ext.tr {a b c : World} (h : Ext a b) (k : Ext b c) : Ext a c := Below.trans h (k.mono h.size)

abbrev Ints (S : Nat → Prop) := SlAt 1 RInt S
abbrev Byts (S : Nat → Prop) := SlAt 1 RU8 S
abbrev Ops (S : Nat → Prop) := SlAt 3 R3 S
abbrev Txns (S : Nat → Prop) := SlAt 3 (RTxn S) S
abbrev Rows2 (S : Nat → Prop) := SlAt 1 (RRow S) S
abbrev Rows3 (S : Nat → Prop) := SlAt 1 (RRows S) S

section
variable {S S' : Nat → Prop} {w w' : World} {A : Option Addr}
theorem Ints.ext {xs : List Int} (h : Ints S w A xs) (hb : Ext w w') : Ints S w' A xs := SlAt.keep h (kept_int _ _) hb.size hb.cells
theorem Byts.ext {xs : List Int} (h : Byts S w A xs) (hb : Ext w w') : Byts S w' A xs := SlAt.keep h (kept_u8 _ _) hb.size hb.cells
theorem Ops.ext {xs : List T3} (h : Ops S w A xs) (hb : Ext w w') : Ops S w' A xs := SlAt.keep h (kept_3 _ _) hb.size hb.cells
theorem Txns.ext {xs : List TxnT} (h : Txns S w A xs) (hb : Ext w w') : Txns S w' A xs := SlAt.keep h (kept_txn hb.size hb.cells) hb.size hb.cells
theorem Rows2.ext {xs : List (List Int)} (h : Rows2 S w A xs) (hb : Ext w w') : Rows2 S w' A xs := SlAt.keep h (kept_row hb.size hb.cells) hb.size hb.cells
theorem Rows3.ext {xs : List (List (List Int))} (h : Rows3 S w A xs) (hb : Ext w w') : Rows3 S w' A xs := SlAt.keep h (kept_rows hb.size hb.cells) hb.size hb.cells

theorem Ops.setCell {xs : List T3} (h : Ops S w A xs) {p : Addr} (hp : ¬ S p.block) (u : Value) : Ops S (w.setCell p u) A xs :=
  SlAt.keep h (kept_3 _ _) (by simp [World.setCell]) (fun q hq _ => World.cell?_setCell_other w p q u (fun e => hp (e ▸ hq)))
theorem Ints.setCell {xs : List Int} (h : Ints S w A xs) {p : Addr} (hp : ¬ S p.block) (u : Value) : Ints S (w.setCell p u) A xs :=
  SlAt.keep h (kept_int _ _) (by simp [World.setCell]) (fun q hq _ => World.cell?_setCell_other w p q u (fun e => hp (e ▸ hq)))

/-- one element, its cells as the walk spells them -/
theorem Ints.at_ {xs : List Int} (h : Ints S w A xs) {i : Nat} (hi : i < xs.length) :
    ∃ x b off, xs[i]? = some x ∧ A = some ⟨b, off, none⟩ ∧ S b ∧ b < w.heap.size ∧ w.cell? ⟨b, off + i, none⟩ = some (.int .i64 x) := by
  obtain ⟨b, off, us, e, hS, hb, _, hr, hc⟩ := h i xs[i] (List.getElem?_eq_getElem hi)
  cases hr
  exact ⟨_, b, off, List.getElem?_eq_getElem hi, e, hS, hb, by simpa using hc 0 _ rfl⟩
theorem Byts.at_ {xs : List Int} (h : Byts S w A xs) {i : Nat} (hi : i < xs.length) :
    ∃ x b off, xs[i]? = some x ∧ A = some ⟨b, off, none⟩ ∧ S b ∧ b < w.heap.size ∧ w.cell? ⟨b, off + i, none⟩ = some (.int .u8 x) := by
  obtain ⟨b, off, us, e, hS, hb, _, hr, hc⟩ := h i xs[i] (List.getElem?_eq_getElem hi)
  cases hr
  exact ⟨_, b, off, List.getElem?_eq_getElem hi, e, hS, hb, by simpa using hc 0 _ rfl⟩
theorem Ops.at_ {xs : List T3} (h : Ops S w A xs) {i : Nat} (hi : i < xs.length) :
    ∃ x0 x1 x2 b off, xs[i]? = some ⟨x0, x1, x2⟩ ∧ A = some ⟨b, off, none⟩ ∧ S b ∧ b < w.heap.size ∧ w.cell? ⟨b, off + i * 3, none⟩ = some (.int .i64 x0) ∧
      w.cell? ⟨b, off + i * 3 + 1, none⟩ = some (.int .i64 x1) ∧ w.cell? ⟨b, off + i * 3 + 2, none⟩ = some (.int .i64 x2) := by
  obtain ⟨b, off, us, e, hS, hb, _, hr, hc⟩ := h i xs[i] (List.getElem?_eq_getElem hi)
  cases hr
  exact ⟨_, _, _, b, off, List.getElem?_eq_getElem hi, e, hS, hb, by simpa using hc 0 _ rfl, by simpa using hc 1 _ rfl, by simpa using hc 2 _ rfl⟩
theorem Txns.at_ {xs : List TxnT} (h : Txns S w A xs) {i : Nat} (hi : i < xs.length) :
    ∃ s ops d A' cap b off, xs[i]? = some ⟨s, ops, d⟩ ∧ A = some ⟨b, off, none⟩ ∧ S b ∧ b < w.heap.size ∧ Ops S w A' ops ∧ w.cell? ⟨b, off + i * 3, none⟩ = some (.int .i64 s) ∧
      w.cell? ⟨b, off + i * 3 + 1, none⟩ = some (.slice A' ops.length cap) ∧ w.cell? ⟨b, off + i * 3 + 2, none⟩ = some (.bool d) := by
  obtain ⟨b, off, us, e, hS, hb, _, ⟨A', cap, rfl, ho⟩, hc⟩ := h i xs[i] (List.getElem?_eq_getElem hi)
  exact ⟨_, _, _, A', cap, b, off, List.getElem?_eq_getElem hi, e, hS, hb, ho, by simpa using hc 0 _ rfl, by simpa using hc 1 _ rfl, by simpa using hc 2 _ rfl⟩
theorem Rows2.at_ {xs : List (List Int)} (h : Rows2 S w A xs) {i : Nat} (hi : i < xs.length) :
    ∃ l A' cap b off, xs[i]? = some l ∧ A = some ⟨b, off, none⟩ ∧ S b ∧ b < w.heap.size ∧ Ints S w A' l ∧ w.cell? ⟨b, off + i, none⟩ = some (.slice A' l.length cap) := by
  obtain ⟨b, off, us, e, hS, hb, _, ⟨A', cap, rfl, ho⟩, hc⟩ := h i xs[i] (List.getElem?_eq_getElem hi)
  exact ⟨_, A', cap, b, off, List.getElem?_eq_getElem hi, e, hS, hb, ho, by simpa using hc 0 _ rfl⟩
theorem Rows3.at_ {xs : List (List (List Int))} (h : Rows3 S w A xs) {i : Nat} (hi : i < xs.length) :
    ∃ l A' cap b off, xs[i]? = some l ∧ A = some ⟨b, off, none⟩ ∧ S b ∧ b < w.heap.size ∧ Rows2 S w A' l ∧ w.cell? ⟨b, off + i, none⟩ = some (.slice A' l.length cap) := by
  obtain ⟨b, off, us, e, hS, hb, _, ⟨A', cap, rfl, ho⟩, hc⟩ := h i xs[i] (List.getElem?_eq_getElem hi)
  exact ⟨_, A', cap, b, off, List.getElem?_eq_getElem hi, e, hS, hb, ho, by simpa using hc 0 _ rfl⟩
end

/-- 'Below' gives the walk its two rules, and that the heap has grown -/
theorem bcell {W w1 : World} (hb : Below W.heap.size W w1) : (∀ b o, b < W.heap.size → w1.cell? ⟨b, o, none⟩ = W.cell? ⟨b, o, none⟩) ∧ (∀ b o, b < W.heap.size → w1.frozen? ⟨b, o, none⟩ = W.frozen? ⟨b, o, none⟩) ∧ (∀ n, n < W.heap.size → n < w1.heap.size) ∧ W.heap.size ≤ w1.heap.size :=
  ⟨fun b o h => hb.cell (p := ⟨b, o, none⟩) h, fun b o h => hb.frozen (p := ⟨b, o, none⟩) h, fun _ h => Nat.lt_of_lt_of_le h hb.size, hb.size⟩
theorem below_drewN {B : Nat} {a w : World} (h : Below B a w) (n : Nat) : Below B a (w.drewN n) := ⟨h.os, h.tape, h.output, h.size, h.block⟩
theorem size_drewN (w : World) (n : Nat) : (w.drewN n).heap.size = w.heap.size := rfl
/-- a struct of three cells, boxed: read behind whatever left old memory alone -/
theorem box3 {w w' : World} {a b c : Value} {t : TypeId} (h : Ext (w.alloc (.cells #[a, b, c] t)) w') : w'.cell? ⟨w.heap.size, 0, none⟩ = some a ∧ w'.cell? ⟨w.heap.size, 1, none⟩ = some b ∧ w'.cell? ⟨w.heap.size, 2, none⟩ = some c := by
  refine ⟨?_, ?_, ?_⟩ <;> (rw [h.cell (by simp)]; simp [World.cell?_alloc_new])
theorem Ext.keep {W w1 : World} (h : Ext W w1) {b o : Nat} {v : Value} (hlt : b < W.heap.size) (q : W.cell? ⟨b, o, none⟩ = some v) : w1.cell? ⟨b, o, none⟩ = some v := (h.cell (p := ⟨b, o, none⟩) hlt).trans q
theorem ret_bool {a b : Bool} (h : a = b) : Ending.returned (.bool a) = .returned (.bool b) := by rw [h]
theorem ret_int {k : IntKind} {a b : Int} (h : a = b) : Ending.returned (.int k a) = .returned (.int k b) := by rw [h]
end Go.Proofs.YtdgfipoibnjhaaaDoor
