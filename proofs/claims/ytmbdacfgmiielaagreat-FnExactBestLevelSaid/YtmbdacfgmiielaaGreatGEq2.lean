/-
  Contracts of EdgesValid and TxnValid, the reference's and the program's.
-/
import Derived.Test.YtmbdacfgmiielaaGreatGOp1
import Derived.StillTailTactics
import Derived.Deep.RegionHeld3
import Derived.Deep.QuietTactic
import Derived.BigQuiet
/-
  Contracts of the laws' size checks and comparisons.
-/
namespace Go.Proofs.YtmbdacfgmiielaaGreat
set_option linter.unusedSimpArgs false
set_option linter.unusedVariables false
set_option maxRecDepth 100000
open Go.RowKit

/-- what is left of a size behind n more -/
def szf (left n : Int) : Int := if left - n < 0 then -1 else left - n
theorem szf_cases (left n : Int) : szf left n = -1 ∨ 0 ≤ szf left n := by unfold szf; split <;> omega
theorem szOpS_c (A : Option Addr) (n c : Nat) (left : Int) (hn : n ≤ maxLen) (h0 : 0 ≤ left) (h1 : left ≤ 1048576) (w : World) :
    Calls Tryz.prog 16 #[.slice A n c, .int .i64 left] w fun e w' => e = .returned (.int .i64 (szf left n)) ∧ w = w' := by
  unfold maxLen at hn
  go_enter Tryz.func16, Tryz.ntmps16
  by_cases h : left - n < 0
  · have e : szf left n = -1 := by simp [szf, h]
    rw [e]
    go_wp2
    go_ret
    exact ⟨rfl, rfl⟩
  · have e : szf left n = left - n := by simp [szf, h]
    rw [e]
    go_wp2
    go_ret
    exact ⟨rfl, rfl⟩

theorem eqOp_c (k y v : Int) (w : World) :
    Calls Tryz.prog 57 #[.agg #[.int .i64 k, .int .i64 y, .int .i64 v], .agg #[.int .i64 k, .int .i64 y, .int .i64 v]] w fun e w' => e = .returned (.bool true) ∧ Ext w w' := by
  have e1 : (k != k) = false := by simp
  have e2 : (y != y) = false := by simp
  have e3 : (v != v) = false := by simp
  go_enter Tryz.func57, Tryz.ntmps57
  go_wp2
  go_ret
  exact ⟨rfl, by (repeat' (first | (with_reducible exact Below.refl _ _) | (with_reducible refine Below.mono (by assumption) ?_) | (with_reducible refine Below.trans ?_ (Below.mono (by assumption) ?_)) | (with_reducible refine Below.alloc ?_ ?_ _) | (with_reducible refine Below.drew ?_) | (with_reducible refine below_drewN ?_ _) | (with_reducible refine Below.setCell ?_ ?_ _) | (simp only [World.size_alloc, World.size_setCell, World.size_drew, size_drewN]; omega) | omega))⟩

set_option maxHeartbeats 1000000 in
theorem eqOpS_c (xs : List T3) (S S' : Nat → Prop) (A B : Option Addr) (c d : Nat) (w : World) (hx : Ops S w A xs) (hy : Ops S' w B xs) (hn : xs.length ≤ 1048576) :
    Calls Tryz.prog 32 #[.slice A xs.length c, .slice B xs.length d] w fun e w' => e = .returned (.bool true) ∧ Ext w w' := by
  have e1 : ((xs.length : Int) != (xs.length : Int)) = false := by simp
  go_enter Tryz.func32, Tryz.ntmps32
  go_wp2
  go_loopw [5] (fun i wr => ∃ k : Nat, k ≤ xs.length ∧ i = .int .i64 k ∧ Ext w wr) (fun i _ => xs.length - (intOf i).toNat)
  case atStart => exact ⟨0, Nat.zero_le _, rfl, Below.refl _ _⟩
  case round =>
    obtain ⟨k, hk, rfl, hE⟩ := hrel
    have hEz := hE.size
    by_cases hlt : k < xs.length
    · obtain ⟨x0, x1, x2, b, off, hxk, rfl, _, hb0, c0, c1, c2⟩ := (hx.ext hE).at_ hlt
      obtain ⟨y0, y1, y2, b', off', hyk, rfl, _, hb0', d0, d1, d2⟩ := (hy.ext hE).at_ hlt
      rw [hxk] at hyk
      cases hyk
      clear hxk
      go_wp2
      go_still_tail 8, (by kernel_rfl)
      change wpList _ _ _ _ _ wr.drew
      go_wp2_with (go_at_call 57; refine (eqOp_c _ _ _ _).mono ?_; rintro e w1 ⟨rfl, hb⟩; obtain ⟨hc, hf, hz, hs⟩ := bcell hb; (try simp only [World.size_alloc, World.size_setCell, World.size_drew, size_drewN] at hs); (first | have l0 := Nat.lt_of_lt_of_le l0 (show _ ≤ w1.heap.size by omega) | have l0 : w.heap.size < w1.heap.size := (by omega) | skip); (try have l0e := Nat.le_of_lt l0); (try have l0f := Nat.le_add_right_of_le (k := 1) l0e); (try have l1 := Nat.lt_of_lt_of_le l1 (show _ ≤ w1.heap.size by omega)); (try have l1e := Nat.le_of_lt l1); (try have l1f := Nat.le_add_right_of_le (k := 1) l1e); (try have l2 := Nat.lt_of_lt_of_le l2 (show _ ≤ w1.heap.size by omega)); (try have l2e := Nat.le_of_lt l2); (try have l2f := Nat.le_add_right_of_le (k := 1) l2e); (try have l3 := Nat.lt_of_lt_of_le l3 (show _ ≤ w1.heap.size by omega)); (try have l3e := Nat.le_of_lt l3); (try have l3f := Nat.le_add_right_of_le (k := 1) l3e))
      go_roundw
      case rel => exact ⟨k + 1, by omega, by go_num, by (repeat' (first | (with_reducible exact Below.refl _ _) | (with_reducible refine Below.mono (by assumption) ?_) | (with_reducible refine Below.trans ?_ (Below.mono (by assumption) ?_)) | (with_reducible refine Below.alloc ?_ ?_ _) | (with_reducible refine Below.drew ?_) | (with_reducible refine below_drewN ?_ _) | (with_reducible refine Below.setCell ?_ ?_ _) | (simp only [World.size_alloc, World.size_setCell, World.size_drew, size_drewN]; omega) | omega))⟩
      case measure => simp [intOf]; omega
    · go_wp2
      go_ret
      exact ⟨rfl, hE⟩

theorem szTxn_c (s : Int) (A : Option Addr) (n c : Nat) (d : Bool) (left : Int) (hn : n ≤ maxLen) (h0 : 0 ≤ left) (h1 : left ≤ 1048576) (w : World) :
    Calls Tryz.prog 9 #[.agg #[.int .i64 s, .slice A n c, .bool d], .int .i64 left] w fun e w' => e = .returned (.int .i64 (szf left n)) ∧ Ext w w' := by
  have C := szOpS_c A n c left hn h0 h1
  have hs := szf_cases left n
  generalize szf left n = r at C hs ⊢
  rcases hs with rfl | hs
  · have C := Lib.hid C
    go_enter Tryz.func9, Tryz.ntmps9
    go_wp2_with (go_at_call 16; refine (C.out _).mono ?_; rintro e w' ⟨rfl, rfl⟩)
    go_ret
    exact ⟨rfl, by (repeat' (first | (with_reducible exact Below.refl _ _) | (with_reducible refine Below.mono (by assumption) ?_) | (with_reducible refine Below.trans ?_ (Below.mono (by assumption) ?_)) | (with_reducible refine Below.alloc ?_ ?_ _) | (with_reducible refine Below.drew ?_) | (with_reducible refine below_drewN ?_ _) | (with_reducible refine Below.setCell ?_ ?_ _) | (simp only [World.size_alloc, World.size_setCell, World.size_drew, size_drewN]; omega) | omega))⟩
  · have C := Lib.hid C
    go_enter Tryz.func9, Tryz.ntmps9
    go_wp2_with (go_at_call 16; refine (C.out _).mono ?_; rintro e w' ⟨rfl, rfl⟩)
    go_ret
    exact ⟨rfl, by (repeat' (first | (with_reducible exact Below.refl _ _) | (with_reducible refine Below.mono (by assumption) ?_) | (with_reducible refine Below.trans ?_ (Below.mono (by assumption) ?_)) | (with_reducible refine Below.alloc ?_ ?_ _) | (with_reducible refine Below.drew ?_) | (with_reducible refine below_drewN ?_ _) | (with_reducible refine Below.setCell ?_ ?_ _) | (simp only [World.size_alloc, World.size_setCell, World.size_drew, size_drewN]; omega) | omega))⟩

def FreshTxn (t : TxnT) (w : World) (e : Ending) (w' : World) : Prop :=
  ∃ A, e = .returned (.agg #[.int .i64 t.sess, .slice A t.ops.length t.ops.length, .bool t.done]) ∧ Ops (fun b => w.heap.size ≤ b) w' A t.ops ∧ (∀ a, A = some a → w.heap.size ≤ a.block ∧ a.block < w'.heap.size ∧ ∀ o, w'.frozen? ⟨a.block, o, none⟩ = false) ∧ Ext w w'

set_option maxHeartbeats 1000000 in
theorem toTxn_c (t : TxnT) (S : Nat → Prop) (A : Option Addr) (c : Nat) (w : World) (hx : Ops S w A t.ops) (hn : t.ops.length ≤ 1048576) :
    Calls Tryz.prog 12 #[.agg #[.int .i64 t.sess, .slice A t.ops.length c, .bool t.done]] w (FreshTxn t w) := by
  obtain ⟨s, ops, d⟩ := t
  simp only at hx hn ⊢
  go_enter Tryz.func12, Tryz.ntmps12
  go_wp2_with (go_at_call 23; refine (toOpS_c _ _ _ _ _ (hx.ext (by (repeat' (first | (with_reducible exact Below.refl _ _) | (with_reducible refine Below.mono (by assumption) ?_) | (with_reducible refine Below.trans ?_ (Below.mono (by assumption) ?_)) | (with_reducible refine Below.alloc ?_ ?_ _) | (with_reducible refine Below.drew ?_) | (with_reducible refine below_drewN ?_ _) | (with_reducible refine Below.setCell ?_ ?_ _) | (simp only [World.size_alloc, World.size_setCell, World.size_drew, size_drewN]; omega) | omega)))) hn).mono ?_; rintro e w1 ⟨A', rfl, hA', hf', hb⟩; obtain ⟨hc, hf, hz, hs⟩ := bcell hb; (try simp only [World.size_alloc, World.size_setCell, World.size_drew, size_drewN] at hs); (first | have l0 := Nat.lt_of_lt_of_le l0 (show _ ≤ w1.heap.size by omega) | have l0 : w.heap.size < w1.heap.size := (by omega) | skip); (try have l0e := Nat.le_of_lt l0); (try have l0f := Nat.le_add_right_of_le (k := 1) l0e); (try have l1 := Nat.lt_of_lt_of_le l1 (show _ ≤ w1.heap.size by omega)); (try have l1e := Nat.le_of_lt l1); (try have l1f := Nat.le_add_right_of_le (k := 1) l1e); (try have l2 := Nat.lt_of_lt_of_le l2 (show _ ≤ w1.heap.size by omega)); (try have l2e := Nat.le_of_lt l2); (try have l2f := Nat.le_add_right_of_le (k := 1) l2e); (try have l3 := Nat.lt_of_lt_of_le l3 (show _ ≤ w1.heap.size by omega)); (try have l3e := Nat.le_of_lt l3); (try have l3f := Nat.le_add_right_of_le (k := 1) l3e))
  refine bodyPost_ret (v := .agg #[.int .i64 s, .slice A' ops.length ops.length, .bool d]) (by simp [results, Tryz.results12, go_sem, hc, hz, hf]) rfl ?_
  have key : Ops (fun b => w.heap.size + 3 ≤ b) w1 A' ops := hA'.mono (fun b h _ => by simp only [World.size_alloc] at h; omega) (fun _ _ h => h)
  refine ⟨A', rfl, ?_, ?_, by (repeat' (first | (with_reducible exact Below.refl _ _) | (with_reducible refine Below.mono (by assumption) ?_) | (with_reducible refine Below.trans ?_ (Below.mono (by assumption) ?_)) | (with_reducible refine Below.alloc ?_ ?_ _) | (with_reducible refine Below.drew ?_) | (with_reducible refine below_drewN ?_ _) | (with_reducible refine Below.setCell ?_ ?_ _) | (simp only [World.size_alloc, World.size_setCell, World.size_drew, size_drewN]; omega) | omega))⟩
  · refine SlAt.mono (S := fun b => w.heap.size + 3 ≤ b) (R := R3) ?_ (fun b h _ => by omega) (fun _ _ h => h)
    repeat' (first | (with_reducible exact key) | (with_reducible refine Ops.setCell ?_ (by simp only; omega) _))
  · intro a ha
    have h1 := hf' a ha
    simp only [World.size_alloc] at h1
    refine ⟨by omega, by simp only [World.size_setCell]; exact h1.2.1, fun o => ?_⟩
    simp only [World.frozen?_setCell]
    exact h1.2.2 o

set_option maxHeartbeats 1000000 in
theorem eqTxn_c (t : TxnT) (S S' : Nat → Prop) (A B : Option Addr) (c d : Nat) (w : World) (hx : Ops S w A t.ops) (hy : Ops S' w B t.ops) (hn : t.ops.length ≤ 1048576) :
    Calls Tryz.prog 15 #[.agg #[.int .i64 t.sess, .slice A t.ops.length c, .bool t.done], .agg #[.int .i64 t.sess, .slice B t.ops.length d, .bool t.done]] w fun e w' => e = .returned (.bool true) ∧ Ext w w' := by
  obtain ⟨s, ops, dn⟩ := t
  simp only at hx hy hn ⊢
  have e1 : (s != s) = false := by simp
  have e2 : (dn != dn) = false := by simp
  have hb0 : Ext w ((w.alloc (.cells #[.int .i64 s, .slice A ops.length c, .bool dn] 39)).alloc (.cells #[.int .i64 s, .slice B ops.length d, .bool dn] 39)) := by (repeat' (first | (with_reducible exact Below.refl _ _) | (with_reducible refine Below.mono (by assumption) ?_) | (with_reducible refine Below.trans ?_ (Below.mono (by assumption) ?_)) | (with_reducible refine Below.alloc ?_ ?_ _) | (with_reducible refine Below.drew ?_) | (with_reducible refine below_drewN ?_ _) | (with_reducible refine Below.setCell ?_ ?_ _) | (simp only [World.size_alloc, World.size_setCell, World.size_drew, size_drewN]; omega) | omega))
  have hx' := hx.ext hb0
  have hy' := hy.ext hb0
  have H1 := Lib.hid hb0
  clear hb0
  go_enter Tryz.func15, Tryz.ntmps15
  go_wp2_with (go_at_call 32; refine (eqOpS_c _ _ _ _ _ _ _ _ hx' hy' hn).mono ?_; rintro e w1 ⟨rfl, hb⟩; obtain ⟨hc, hf, hz, hs⟩ := bcell hb; (try simp only [World.size_alloc, World.size_setCell, World.size_drew, size_drewN] at hs); (first | have l0 := Nat.lt_of_lt_of_le l0 (show _ ≤ w1.heap.size by omega) | have l0 : w.heap.size < w1.heap.size := (by omega) | skip); (try have l0e := Nat.le_of_lt l0); (try have l0f := Nat.le_add_right_of_le (k := 1) l0e); (try have l1 := Nat.lt_of_lt_of_le l1 (show _ ≤ w1.heap.size by omega)); (try have l1e := Nat.le_of_lt l1); (try have l1f := Nat.le_add_right_of_le (k := 1) l1e); (try have l2 := Nat.lt_of_lt_of_le l2 (show _ ≤ w1.heap.size by omega)); (try have l2e := Nat.le_of_lt l2); (try have l2f := Nat.le_add_right_of_le (k := 1) l2e); (try have l3 := Nat.lt_of_lt_of_le l3 (show _ ≤ w1.heap.size by omega)); (try have l3e := Nat.le_of_lt l3); (try have l3f := Nat.le_add_right_of_le (k := 1) l3e))
  go_ret
  exact ⟨rfl, by (repeat' (first | (with_reducible exact Below.refl _ _) | (with_reducible refine Below.mono (by assumption) ?_) | (with_reducible refine Below.trans ?_ (Below.mono (by assumption) ?_)) | (with_reducible refine Below.alloc ?_ ?_ _) | (with_reducible refine Below.drew ?_) | (with_reducible refine below_drewN ?_ _) | (with_reducible refine Below.setCell ?_ ?_ _) | (simp only [World.size_alloc, World.size_setCell, World.size_drew, size_drewN]; omega) | omega))⟩
end Go.Proofs.YtmbdacfgmiielaaGreat
namespace Go.Proofs.YtmbdacfgmiielaaGreat
set_option linter.unusedSimpArgs false
set_option linter.unusedVariables false
set_option maxRecDepth 100000
open Go.RowKit

/-- the first k elements meet p -/
def AllTo {α : Type} (p : α → Bool) (xs : List α) (k : Nat) : Prop := ∀ i x, i < k → xs[i]? = some x → p x = true
section
variable {α : Type} {p : α → Bool} {xs : List α} {k : Nat} {x : α}
theorem AllTo.zero : AllTo p xs 0 := fun i x h => by omega
theorem AllTo.step (h : AllTo p xs k) (hx : xs[k]? = some x) (hp : p x = true) : AllTo p xs (k + 1) := by
  intro i y hi hy
  rcases Nat.lt_or_ge i k with hlt | hge
  · exact h i y hlt hy
  · obtain rfl : i = k := by omega
    rw [hx] at hy
    cases hy
    exact hp
theorem AllTo.all (h : AllTo p xs xs.length) : xs.all p = true := by
  rw [List.all_eq_true]
  intro x hx
  obtain ⟨i, hi, rfl⟩ := List.mem_iff_getElem.1 hx
  exact h i _ hi (List.getElem?_eq_getElem hi)
theorem all_false (hx : xs[k]? = some x) (hp : p x = false) : xs.all p = false := by
  rw [List.all_eq_false]
  exact ⟨x, List.mem_of_getElem? hx, by simp [hp]⟩
theorem any_true (hx : xs[k]? = some x) (hp : p x = true) : xs.any p = true := by
  rw [List.any_eq_true]
  exact ⟨x, List.mem_of_getElem? hx, hp⟩
theorem AllTo.any_not (h : AllTo (fun x => !p x) xs xs.length) : xs.any p = false := by
  have := h.all
  rw [List.any_eq_false]
  intro x hx
  have := List.all_eq_true.1 this x hx
  simpa using this
end

/-- an edge is valid, mm the greatest number -/
def edv (mm : Int) (e : T3) : Bool := inB e.a 0 mm && inB e.b 0 mm && !(e.a == e.b) && inB e.c 1 4
def edgesValid (many : Int) (xs : List T3) : Bool := xs.all (edv (wrap64 (many - 1))) && (inB many 0 6 && decide (xs.length ≤ 144))

set_option maxHeartbeats 1000000 in
theorem specEdgesValid_c (many : Int) (xs : List T3) (S : Nat → Prop) (A : Option Addr) (c : Nat) (w : World) (hx : Ops S w A xs) (hn : xs.length ≤ 1048576) :
    Calls Tryz.prog 64 #[.int .i64 many, .slice A xs.length c] w fun e w' => e = .returned (.bool (edgesValid many xs)) ∧ Ext w w' := by
  go_enter Tryz.func64, Tryz.ntmps64
  go_wp2
  go_loopw [5] (fun i wr => ∃ k : Nat, k ≤ xs.length ∧ i = .int .i64 k ∧ AllTo (edv (wrap64 (many - 1))) xs k ∧ Ext w wr) (fun i _ => xs.length - (intOf i).toNat)
  case atStart => exact ⟨0, Nat.zero_le _, rfl, AllTo.zero, Below.refl _ _⟩
  case round =>
    obtain ⟨k, hk, rfl, hall, hE⟩ := hrel
    have hEz := hE.size
    have HA := Lib.hid hall
    clear hall
    by_cases hlt : k < xs.length
    · obtain ⟨x0, x1, x2, b, off, hxk, rfl, _, hb0, c0, c1, c2⟩ := (hx.ext hE).at_ hlt
      have HX := Lib.hid hxk
      clear hxk
      go_wp2_with (go_at_call 36; refine (l1In_c _ _ _ _).mono ?_; rintro e w' ⟨rfl, rfl⟩)
      case roundEnd =>
        have hv : edv (wrap64 (many - 1)) ⟨x0, x1, x2⟩ = true := by simp_all [edv]
        exact ⟨⟨k + 1, by omega, by go_num, HA.out.step HX.out hv, by (repeat' (first | (with_reducible exact Below.refl _ _) | (with_reducible refine Below.mono (by assumption) ?_) | (with_reducible refine Below.trans ?_ (Below.mono (by assumption) ?_)) | (with_reducible refine Below.alloc ?_ ?_ _) | (with_reducible refine Below.drew ?_) | (with_reducible refine below_drewN ?_ _) | (with_reducible refine Below.setCell ?_ ?_ _) | (simp only [World.size_alloc, World.size_setCell, World.size_drew, size_drewN]; omega) | omega))⟩, by simp [intOf]; omega⟩
      all_goals
        have hv : edv (wrap64 (many - 1)) ⟨x0, x1, x2⟩ = false := by first | (simp_all [edv]; done) | (simp_all [edv]; omega)
        go_ret
        exact ⟨ret_bool (by unfold edgesValid; rw [all_false HX.out hv]; rfl), by (repeat' (first | (with_reducible exact Below.refl _ _) | (with_reducible refine Below.mono (by assumption) ?_) | (with_reducible refine Below.trans ?_ (Below.mono (by assumption) ?_)) | (with_reducible refine Below.alloc ?_ ?_ _) | (with_reducible refine Below.drew ?_) | (with_reducible refine below_drewN ?_ _) | (with_reducible refine Below.setCell ?_ ?_ _) | (simp only [World.size_alloc, World.size_setCell, World.size_drew, size_drewN]; omega) | omega))⟩
    · obtain rfl : k = xs.length := by omega
      have hav := HA.out.all
      go_wp2_with (go_at_call 36; refine (l1In_c _ _ _ _).mono ?_; rintro e w' ⟨rfl, rfl⟩)
      all_goals
        go_ret
        exact ⟨ret_bool (by unfold edgesValid; rw [hav]; simp [*]; try omega), by (repeat' (first | (with_reducible exact Below.refl _ _) | (with_reducible refine Below.mono (by assumption) ?_) | (with_reducible refine Below.trans ?_ (Below.mono (by assumption) ?_)) | (with_reducible refine Below.alloc ?_ ?_ _) | (with_reducible refine Below.drew ?_) | (with_reducible refine below_drewN ?_ _) | (with_reducible refine Below.setCell ?_ ?_ _) | (simp only [World.size_alloc, World.size_setCell, World.size_drew, size_drewN]; omega) | omega))⟩

set_option maxHeartbeats 1000000 in
theorem implEdge1_c (many : Int) (e : T3) (B : Nat) (w : World) (hc0 : w.cell? ⟨B, 0, none⟩ = some (.int .i64 many)) (hB : B < w.heap.size) :
    Calls Tryz.prog 109 #[.agg #[.int .i64 e.a, .int .i64 e.b, .int .i64 e.c], .pointer (some ⟨B, 0, none⟩)] w fun e' w' => e' = .returned (.bool (!edv (wrap64 (many - 1)) e)) ∧ Ext w w' := by
  obtain ⟨x0, x1, x2⟩ := e
  simp only
  go_enter Tryz.func109, Tryz.ntmps109
  go_wp2_with (go_at_call 101; refine (within_c _ _ _ _).mono ?_; rintro e w' ⟨rfl, rfl⟩)
  all_goals
    go_ret
    exact ⟨ret_bool (by first | (simp_all [edv]; done) | (simp_all [edv]; omega)), by (repeat' (first | (with_reducible exact Below.refl _ _) | (with_reducible refine Below.mono (by assumption) ?_) | (with_reducible refine Below.trans ?_ (Below.mono (by assumption) ?_)) | (with_reducible refine Below.alloc ?_ ?_ _) | (with_reducible refine Below.drew ?_) | (with_reducible refine below_drewN ?_ _) | (with_reducible refine Below.setCell ?_ ?_ _) | (simp only [World.size_alloc, World.size_setCell, World.size_drew, size_drewN]; omega) | omega))⟩

theorem implTxn1_c (o : T3) (w : World) :
    Calls Tryz.prog 98 #[.agg #[.int .i64 o.a, .int .i64 o.b, .int .i64 o.c]] w fun e' w' => e' = .returned (.bool (!opv o)) ∧ Ext w w' := by
  obtain ⟨x0, x1, x2⟩ := o
  simp only
  go_enter Tryz.func98, Tryz.ntmps98
  go_wp2_with (go_at_call 99; refine (implOpValid_c _ _ _ _).mono ?_; rintro e w1 ⟨rfl, hb⟩; obtain ⟨hc, hf, hz, hs⟩ := bcell hb; (try simp only [World.size_alloc, World.size_setCell, World.size_drew, size_drewN] at hs); (first | have l0 := Nat.lt_of_lt_of_le l0 (show _ ≤ w1.heap.size by omega) | have l0 : w.heap.size < w1.heap.size := (by omega) | skip); (try have l0e := Nat.le_of_lt l0); (try have l0f := Nat.le_add_right_of_le (k := 1) l0e); (try have l1 := Nat.lt_of_lt_of_le l1 (show _ ≤ w1.heap.size by omega)); (try have l1e := Nat.le_of_lt l1); (try have l1f := Nat.le_add_right_of_le (k := 1) l1e); (try have l2 := Nat.lt_of_lt_of_le l2 (show _ ≤ w1.heap.size by omega)); (try have l2e := Nat.le_of_lt l2); (try have l2f := Nat.le_add_right_of_le (k := 1) l2e); (try have l3 := Nat.lt_of_lt_of_le l3 (show _ ≤ w1.heap.size by omega)); (try have l3e := Nat.le_of_lt l3); (try have l3f := Nat.le_add_right_of_le (k := 1) l3e))
  go_ret
  exact ⟨rfl, by (repeat' (first | (with_reducible exact Below.refl _ _) | (with_reducible refine Below.mono (by assumption) ?_) | (with_reducible refine Below.trans ?_ (Below.mono (by assumption) ?_)) | (with_reducible refine Below.alloc ?_ ?_ _) | (with_reducible refine Below.drew ?_) | (with_reducible refine below_drewN ?_ _) | (with_reducible refine Below.setCell ?_ ?_ _) | (simp only [World.size_alloc, World.size_setCell, World.size_drew, size_drewN]; omega) | omega))⟩

/-- what IndexFunc hands back: not below 0 just where one element meets p -/
def IdxOf {α : Type} (p : α → Bool) (xs : List α) (w : World) (e : Ending) (w' : World) : Prop := ∃ r : Int, e = .returned (.int .i64 r) ∧ decide (0 ≤ r) = xs.any p ∧ Ext w w'

set_option maxHeartbeats 1000000 in
theorem idxOp_c  (xs : List T3) (S : Nat → Prop) (A : Option Addr) (c : Nat) (w : World)  (hx : Ops S w A xs) (hn : xs.length ≤ 1048576) :
    Calls Tryz.prog 114 #[.slice A xs.length c, .func (.func 98) #[] #[]] w (IdxOf (fun o => !opv o) xs w) := by
  go_enter Tryz.func114, Tryz.ntmps114
  go_wp2
  go_loopw [8] (fun i wr => ∃ k : Nat, k ≤ xs.length ∧ i = .int .i64 k ∧ AllTo opv xs k ∧ Ext w wr) (fun i _ => xs.length - (intOf i).toNat)
  case atStart => exact ⟨0, Nat.zero_le _, rfl, AllTo.zero, Below.refl _ _⟩
  case round =>
    obtain ⟨k, hk, rfl, hall, hE⟩ := hrel
    have hEz := hE.size
    have HA := Lib.hid hall
    clear hall
    by_cases hlt : k < xs.length
    · obtain ⟨x0, x1, x2, b, off, hxk, rfl, _, hb0, c0, c1, c2⟩ := (hx.ext hE).at_ hlt
      have HX := Lib.hid hxk
      clear hxk
      skip
      go_wp2_with (go_at_call 98; refine (implTxn1_c ⟨x0, x1, x2⟩ _).mono ?_; rintro e w1 ⟨rfl, hb⟩; obtain ⟨hc, hf, hz, hs⟩ := bcell hb; (try simp only [World.size_alloc, World.size_setCell, World.size_drew, size_drewN] at hs); (first | have l0 := Nat.lt_of_lt_of_le l0 (show _ ≤ w1.heap.size by omega) | have l0 : w.heap.size < w1.heap.size := (by omega) | skip); (try have l0e := Nat.le_of_lt l0); (try have l0f := Nat.le_add_right_of_le (k := 1) l0e); (try have l1 := Nat.lt_of_lt_of_le l1 (show _ ≤ w1.heap.size by omega)); (try have l1e := Nat.le_of_lt l1); (try have l1f := Nat.le_add_right_of_le (k := 1) l1e); (try have l2 := Nat.lt_of_lt_of_le l2 (show _ ≤ w1.heap.size by omega)); (try have l2e := Nat.le_of_lt l2); (try have l2f := Nat.le_add_right_of_le (k := 1) l2e); (try have l3 := Nat.lt_of_lt_of_le l3 (show _ ≤ w1.heap.size by omega)); (try have l3e := Nat.le_of_lt l3); (try have l3f := Nat.le_add_right_of_le (k := 1) l3e))
      case roundEnd =>
        have hv : opv ⟨x0, x1, x2⟩ = true := by simp_all
        exact ⟨⟨k + 1, by omega, by go_num, HA.out.step HX.out hv, by (repeat' (first | (with_reducible exact Below.refl _ _) | (with_reducible refine Below.mono (by assumption) ?_) | (with_reducible refine Below.trans ?_ (Below.mono (by assumption) ?_)) | (with_reducible refine Below.alloc ?_ ?_ _) | (with_reducible refine Below.drew ?_) | (with_reducible refine below_drewN ?_ _) | (with_reducible refine Below.setCell ?_ ?_ _) | (simp only [World.size_alloc, World.size_setCell, World.size_drew, size_drewN]; omega) | omega))⟩, by simp [intOf]; omega⟩
      go_ret
      have hv : (fun o => !opv o) (⟨x0, x1, x2⟩ : T3) = true := by assumption
      exact ⟨_, rfl, by rw [any_true HX.out hv]; simp, by (repeat' (first | (with_reducible exact Below.refl _ _) | (with_reducible refine Below.mono (by assumption) ?_) | (with_reducible refine Below.trans ?_ (Below.mono (by assumption) ?_)) | (with_reducible refine Below.alloc ?_ ?_ _) | (with_reducible refine Below.drew ?_) | (with_reducible refine below_drewN ?_ _) | (with_reducible refine Below.setCell ?_ ?_ _) | (simp only [World.size_alloc, World.size_setCell, World.size_drew, size_drewN]; omega) | omega))⟩
    · obtain rfl : k = xs.length := by omega
      have hav : xs.any (fun o => !opv o) = false := by
        have := HA.out.all
        rw [List.any_eq_false]
        intro x hx
        simpa using List.all_eq_true.1 this x hx
      have HV := Lib.hid hav
      clear hav
      go_wp2
      go_ret
      exact ⟨_, rfl, by rw [HV.out]; rfl, by (repeat' (first | (with_reducible exact Below.refl _ _) | (with_reducible refine Below.mono (by assumption) ?_) | (with_reducible refine Below.trans ?_ (Below.mono (by assumption) ?_)) | (with_reducible refine Below.alloc ?_ ?_ _) | (with_reducible refine Below.drew ?_) | (with_reducible refine below_drewN ?_ _) | (with_reducible refine Below.setCell ?_ ?_ _) | (simp only [World.size_alloc, World.size_setCell, World.size_drew, size_drewN]; omega) | omega))⟩

/-- ContainsFunc, the predicate turned round -/
theorem hasOp_c  (xs : List T3) (S : Nat → Prop) (A : Option Addr) (c : Nat) (w : World)  (hx : Ops S w A xs) (hn : xs.length ≤ 1048576) :
    Calls Tryz.prog 97 #[.slice A xs.length c, .func (.func 98) #[] #[]] w fun e w' => e = .returned (.bool (!xs.all opv)) ∧ Ext w w' := by
  have hal : xs.any (fun o => !opv o) = !xs.all opv := by rw [List.not_all_eq_any_not]
  rw [← hal]
  have HL := Lib.hid hal
  clear hal
  go_enter Tryz.func97, Tryz.ntmps97
  go_wp2_with (go_at_call 114; refine (idxOp_c  xs S A c _  (hx.ext (by (repeat' (first | (with_reducible exact Below.refl _ _) | (with_reducible refine Below.mono (by assumption) ?_) | (with_reducible refine Below.trans ?_ (Below.mono (by assumption) ?_)) | (with_reducible refine Below.alloc ?_ ?_ _) | (with_reducible refine Below.drew ?_) | (with_reducible refine below_drewN ?_ _) | (with_reducible refine Below.setCell ?_ ?_ _) | (simp only [World.size_alloc, World.size_setCell, World.size_drew, size_drewN]; omega) | omega)))) hn).mono ?_; rintro e w1 ⟨r, rfl, hr, hb⟩; have HR := Lib.hid hr; clear hr)
  go_ret
  exact ⟨ret_bool HR.out, by (repeat' (first | (with_reducible exact Below.refl _ _) | (with_reducible refine Below.mono (by assumption) ?_) | (with_reducible refine Below.trans ?_ (Below.mono (by assumption) ?_)) | (with_reducible refine Below.alloc ?_ ?_ _) | (with_reducible refine Below.drew ?_) | (with_reducible refine below_drewN ?_ _) | (with_reducible refine Below.setCell ?_ ?_ _) | (simp only [World.size_alloc, World.size_setCell, World.size_drew, size_drewN]; omega) | omega))⟩
set_option maxHeartbeats 1000000 in
theorem idxEdge_c (many : Int) (B : Nat) (xs : List T3) (S : Nat → Prop) (A : Option Addr) (c : Nat) (w : World) (hm : w.cell? ⟨B, 0, none⟩ = some (.int .i64 many)) (hB : B < w.heap.size) (hx : Ops S w A xs) (hn : xs.length ≤ 1048576) :
    Calls Tryz.prog 136 #[.slice A xs.length c, .func (.func 109) #[] #[.pointer (some ⟨B, 0, none⟩)]] w (IdxOf (fun o => !edv (wrap64 (many - 1)) o) xs w) := by
  go_enter Tryz.func136, Tryz.ntmps136
  go_wp2
  go_loopw [8] (fun i wr => ∃ k : Nat, k ≤ xs.length ∧ i = .int .i64 k ∧ AllTo (edv (wrap64 (many - 1))) xs k ∧ Ext w wr) (fun i _ => xs.length - (intOf i).toNat)
  case atStart => exact ⟨0, Nat.zero_le _, rfl, AllTo.zero, Below.refl _ _⟩
  case round =>
    obtain ⟨k, hk, rfl, hall, hE⟩ := hrel
    have hEz := hE.size
    have HA := Lib.hid hall
    clear hall
    by_cases hlt : k < xs.length
    · obtain ⟨x0, x1, x2, b, off, hxk, rfl, _, hb0, c0, c1, c2⟩ := (hx.ext hE).at_ hlt
      have HX := Lib.hid hxk
      clear hxk
      (have hmr := (hE.cell (p := ⟨B, 0, none⟩) hB).trans hm; have hBr : B < wr.heap.size := by omega)
      go_wp2_with (go_at_call 109; refine (implEdge1_c many ⟨x0, x1, x2⟩ B _ hmr hBr).mono ?_; rintro e w1 ⟨rfl, hb⟩; obtain ⟨hc, hf, hz, hs⟩ := bcell hb; (try simp only [World.size_alloc, World.size_setCell, World.size_drew, size_drewN] at hs); (first | have l0 := Nat.lt_of_lt_of_le l0 (show _ ≤ w1.heap.size by omega) | have l0 : w.heap.size < w1.heap.size := (by omega) | skip); (try have l0e := Nat.le_of_lt l0); (try have l0f := Nat.le_add_right_of_le (k := 1) l0e); (try have l1 := Nat.lt_of_lt_of_le l1 (show _ ≤ w1.heap.size by omega)); (try have l1e := Nat.le_of_lt l1); (try have l1f := Nat.le_add_right_of_le (k := 1) l1e); (try have l2 := Nat.lt_of_lt_of_le l2 (show _ ≤ w1.heap.size by omega)); (try have l2e := Nat.le_of_lt l2); (try have l2f := Nat.le_add_right_of_le (k := 1) l2e); (try have l3 := Nat.lt_of_lt_of_le l3 (show _ ≤ w1.heap.size by omega)); (try have l3e := Nat.le_of_lt l3); (try have l3f := Nat.le_add_right_of_le (k := 1) l3e))
      case roundEnd =>
        have hv : (edv (wrap64 (many - 1))) ⟨x0, x1, x2⟩ = true := by simp_all
        exact ⟨⟨k + 1, by omega, by go_num, HA.out.step HX.out hv, by (repeat' (first | (with_reducible exact Below.refl _ _) | (with_reducible refine Below.mono (by assumption) ?_) | (with_reducible refine Below.trans ?_ (Below.mono (by assumption) ?_)) | (with_reducible refine Below.alloc ?_ ?_ _) | (with_reducible refine Below.drew ?_) | (with_reducible refine below_drewN ?_ _) | (with_reducible refine Below.setCell ?_ ?_ _) | (simp only [World.size_alloc, World.size_setCell, World.size_drew, size_drewN]; omega) | omega))⟩, by simp [intOf]; omega⟩
      go_ret
      have hv : (fun o => !edv (wrap64 (many - 1)) o) (⟨x0, x1, x2⟩ : T3) = true := by assumption
      exact ⟨_, rfl, by rw [any_true HX.out hv]; simp, by (repeat' (first | (with_reducible exact Below.refl _ _) | (with_reducible refine Below.mono (by assumption) ?_) | (with_reducible refine Below.trans ?_ (Below.mono (by assumption) ?_)) | (with_reducible refine Below.alloc ?_ ?_ _) | (with_reducible refine Below.drew ?_) | (with_reducible refine below_drewN ?_ _) | (with_reducible refine Below.setCell ?_ ?_ _) | (simp only [World.size_alloc, World.size_setCell, World.size_drew, size_drewN]; omega) | omega))⟩
    · obtain rfl : k = xs.length := by omega
      have hav : xs.any (fun o => !edv (wrap64 (many - 1)) o) = false := by
        have := HA.out.all
        rw [List.any_eq_false]
        intro x hx
        simpa using List.all_eq_true.1 this x hx
      have HV := Lib.hid hav
      clear hav
      go_wp2
      go_ret
      exact ⟨_, rfl, by rw [HV.out]; rfl, by (repeat' (first | (with_reducible exact Below.refl _ _) | (with_reducible refine Below.mono (by assumption) ?_) | (with_reducible refine Below.trans ?_ (Below.mono (by assumption) ?_)) | (with_reducible refine Below.alloc ?_ ?_ _) | (with_reducible refine Below.drew ?_) | (with_reducible refine below_drewN ?_ _) | (with_reducible refine Below.setCell ?_ ?_ _) | (simp only [World.size_alloc, World.size_setCell, World.size_drew, size_drewN]; omega) | omega))⟩

/-- ContainsFunc, the predicate turned round -/
theorem hasEdge_c (many : Int) (B : Nat) (xs : List T3) (S : Nat → Prop) (A : Option Addr) (c : Nat) (w : World) (hm : w.cell? ⟨B, 0, none⟩ = some (.int .i64 many)) (hB : B < w.heap.size) (hx : Ops S w A xs) (hn : xs.length ≤ 1048576) :
    Calls Tryz.prog 108 #[.slice A xs.length c, .func (.func 109) #[] #[.pointer (some ⟨B, 0, none⟩)]] w fun e w' => e = .returned (.bool (!xs.all (edv (wrap64 (many - 1))))) ∧ Ext w w' := by
  have hal : xs.any (fun o => !edv (wrap64 (many - 1)) o) = !xs.all (edv (wrap64 (many - 1))) := by rw [List.not_all_eq_any_not]
  rw [← hal]
  have HL := Lib.hid hal
  clear hal
  go_enter Tryz.func108, Tryz.ntmps108
  go_wp2_with (go_at_call 136; refine (idxEdge_c many B xs S A c _ hm hB (hx.ext (by (repeat' (first | (with_reducible exact Below.refl _ _) | (with_reducible refine Below.mono (by assumption) ?_) | (with_reducible refine Below.trans ?_ (Below.mono (by assumption) ?_)) | (with_reducible refine Below.alloc ?_ ?_ _) | (with_reducible refine Below.drew ?_) | (with_reducible refine below_drewN ?_ _) | (with_reducible refine Below.setCell ?_ ?_ _) | (simp only [World.size_alloc, World.size_setCell, World.size_drew, size_drewN]; omega) | omega)))) hn).mono ?_; rintro e w1 ⟨r, rfl, hr, hb⟩; have HR := Lib.hid hr; clear hr)
  go_ret
  exact ⟨ret_bool HR.out, by (repeat' (first | (with_reducible exact Below.refl _ _) | (with_reducible refine Below.mono (by assumption) ?_) | (with_reducible refine Below.trans ?_ (Below.mono (by assumption) ?_)) | (with_reducible refine Below.alloc ?_ ?_ _) | (with_reducible refine Below.drew ?_) | (with_reducible refine below_drewN ?_ _) | (with_reducible refine Below.setCell ?_ ?_ _) | (simp only [World.size_alloc, World.size_setCell, World.size_drew, size_drewN]; omega) | omega))⟩

def txnv (t : TxnT) : Bool := t.ops.all opv && (inB t.sess 0 3 && decide (t.ops.length ≤ 6))

set_option maxHeartbeats 1000000 in
theorem implTxnValid_c (t : TxnT) (S : Nat → Prop) (A : Option Addr) (c : Nat) (w : World) (hx : Ops S w A t.ops) (hn : t.ops.length ≤ 1048576) :
    Calls Tryz.prog 71 #[.agg #[.int .i64 t.sess, .slice A t.ops.length c, .bool t.done]] w fun e w' => e = .returned (.bool (txnv t)) ∧ Ext w w' := by
  obtain ⟨s, ops, d⟩ := t
  simp only at hx hn ⊢
  go_enter Tryz.func71, Tryz.ntmps71
  go_wp2_with (first | (go_at_call 96; refine (sessionOk_c _ _).mono ?_; rintro e w' ⟨rfl, rfl⟩) | (go_at_call 97; refine (hasOp_c _ _ _ _ _ (hx.ext (by (repeat' (first | (with_reducible exact Below.refl _ _) | (with_reducible refine Below.mono (by assumption) ?_) | (with_reducible refine Below.trans ?_ (Below.mono (by assumption) ?_)) | (with_reducible refine Below.alloc ?_ ?_ _) | (with_reducible refine Below.drew ?_) | (with_reducible refine below_drewN ?_ _) | (with_reducible refine Below.setCell ?_ ?_ _) | (simp only [World.size_alloc, World.size_setCell, World.size_drew, size_drewN]; omega) | omega)))) hn).mono ?_; rintro e w1 ⟨rfl, hb⟩; obtain ⟨hc, hf, hz, hs⟩ := bcell hb; (try simp only [World.size_alloc, World.size_setCell, World.size_drew, size_drewN] at hs); (first | have l0 := Nat.lt_of_lt_of_le l0 (show _ ≤ w1.heap.size by omega) | have l0 : w.heap.size < w1.heap.size := (by omega) | skip); (try have l0e := Nat.le_of_lt l0); (try have l0f := Nat.le_add_right_of_le (k := 1) l0e); (try have l1 := Nat.lt_of_lt_of_le l1 (show _ ≤ w1.heap.size by omega)); (try have l1e := Nat.le_of_lt l1); (try have l1f := Nat.le_add_right_of_le (k := 1) l1e); (try have l2 := Nat.lt_of_lt_of_le l2 (show _ ≤ w1.heap.size by omega)); (try have l2e := Nat.le_of_lt l2); (try have l2f := Nat.le_add_right_of_le (k := 1) l2e); (try have l3 := Nat.lt_of_lt_of_le l3 (show _ ≤ w1.heap.size by omega)); (try have l3e := Nat.le_of_lt l3); (try have l3f := Nat.le_add_right_of_le (k := 1) l3e)))
  all_goals
    go_ret
    exact ⟨ret_bool (by unfold txnv; simp [*]; try omega), by (repeat' (first | (with_reducible exact Below.refl _ _) | (with_reducible refine Below.mono (by assumption) ?_) | (with_reducible refine Below.trans ?_ (Below.mono (by assumption) ?_)) | (with_reducible refine Below.alloc ?_ ?_ _) | (with_reducible refine Below.drew ?_) | (with_reducible refine below_drewN ?_ _) | (with_reducible refine Below.setCell ?_ ?_ _) | (simp only [World.size_alloc, World.size_setCell, World.size_drew, size_drewN]; omega) | omega))⟩

set_option maxHeartbeats 1000000 in
theorem specTxnValid_c (t : TxnT) (S : Nat → Prop) (A : Option Addr) (c : Nat) (w : World) (hx : Ops S w A t.ops) (hn : t.ops.length ≤ 1048576) :
    Calls Tryz.prog 34 #[.agg #[.int .i64 t.sess, .slice A t.ops.length c, .bool t.done]] w fun e w' => e = .returned (.bool (txnv t)) ∧ Ext w w' := by
  obtain ⟨s, ops, d⟩ := t
  simp only at hx hn ⊢
  go_enter Tryz.func34, Tryz.ntmps34
  go_wp2
  go_loopw [3] (fun i wr => ∃ k : Nat, k ≤ ops.length ∧ i = .int .i64 k ∧ AllTo opv ops k ∧ Ext (w.alloc (.cells #[.int .i64 s, .slice A ops.length c, .bool d] 39)) wr) (fun i _ => ops.length - (intOf i).toNat)
  case atStart => exact ⟨0, Nat.zero_le _, rfl, AllTo.zero, Below.refl _ _⟩
  case round =>
    obtain ⟨k, hk, rfl, hall, hE⟩ := hrel
    have HA := Lib.hid hall
    clear hall
    have hE0 : Ext w wr := by have h := hE.size; simp only [World.size_alloc] at h; (repeat' (first | (with_reducible exact Below.refl _ _) | (with_reducible refine Below.mono (by assumption) ?_) | (with_reducible refine Below.trans ?_ (Below.mono (by assumption) ?_)) | (with_reducible refine Below.alloc ?_ ?_ _) | (with_reducible refine Below.drew ?_) | (with_reducible refine below_drewN ?_ _) | (with_reducible refine Below.setCell ?_ ?_ _) | (simp only [World.size_alloc, World.size_setCell, World.size_drew, size_drewN]; omega) | omega))
    obtain ⟨hcr, hfr, hzr, hsr⟩ := bcell hE
    simp only [World.size_alloc] at hsr
    by_cases hlt : k < ops.length
    · obtain ⟨x0, x1, x2, b, off, hxk, rfl, _, hb0, c0, c1, c2⟩ := (hx.ext hE0).at_ hlt
      have HX := Lib.hid hxk
      clear hxk
      go_wp2_with (go_at_call 58; refine (specOpValid_c _ _ _ _).mono ?_; rintro e w1 ⟨rfl, hb⟩; obtain ⟨hc, hf, hz, hs⟩ := bcell hb; (try simp only [World.size_alloc, World.size_setCell, World.size_drew, size_drewN] at hs); (first | have l0 := Nat.lt_of_lt_of_le l0 (show _ ≤ w1.heap.size by omega) | have l0 : w.heap.size < w1.heap.size := (by omega) | skip); (try have l0e := Nat.le_of_lt l0); (try have l0f := Nat.le_add_right_of_le (k := 1) l0e); (try have l1 := Nat.lt_of_lt_of_le l1 (show _ ≤ w1.heap.size by omega)); (try have l1e := Nat.le_of_lt l1); (try have l1f := Nat.le_add_right_of_le (k := 1) l1e); (try have l2 := Nat.lt_of_lt_of_le l2 (show _ ≤ w1.heap.size by omega)); (try have l2e := Nat.le_of_lt l2); (try have l2f := Nat.le_add_right_of_le (k := 1) l2e); (try have l3 := Nat.lt_of_lt_of_le l3 (show _ ≤ w1.heap.size by omega)); (try have l3e := Nat.le_of_lt l3); (try have l3f := Nat.le_add_right_of_le (k := 1) l3e))
      case roundEnd =>
        have hv : opv ⟨x0, x1, x2⟩ = true := by simp_all
        exact ⟨⟨k + 1, by omega, by go_num, HA.out.step HX.out hv, by (repeat' (first | (with_reducible exact Below.refl _ _) | (with_reducible refine Below.mono (by assumption) ?_) | (with_reducible refine Below.trans ?_ (Below.mono (by assumption) ?_)) | (with_reducible refine Below.alloc ?_ ?_ _) | (with_reducible refine Below.drew ?_) | (with_reducible refine below_drewN ?_ _) | (with_reducible refine Below.setCell ?_ ?_ _) | (simp only [World.size_alloc, World.size_setCell, World.size_drew, size_drewN]; omega) | omega))⟩, by simp [intOf]; omega⟩
      have hv : opv ⟨x0, x1, x2⟩ = false := by simp_all
      go_ret
      exact ⟨ret_bool (by unfold txnv; rw [all_false HX.out hv]; rfl), by (repeat' (first | (with_reducible exact Below.refl _ _) | (with_reducible refine Below.mono (by assumption) ?_) | (with_reducible refine Below.trans ?_ (Below.mono (by assumption) ?_)) | (with_reducible refine Below.alloc ?_ ?_ _) | (with_reducible refine Below.drew ?_) | (with_reducible refine below_drewN ?_ _) | (with_reducible refine Below.setCell ?_ ?_ _) | (simp only [World.size_alloc, World.size_setCell, World.size_drew, size_drewN]; omega) | omega))⟩
    · obtain rfl : k = ops.length := by omega
      have hav := HA.out.all
      go_wp2_with (go_at_call 36; refine (l1In_c _ _ _ _).mono ?_; rintro e w' ⟨rfl, rfl⟩)
      all_goals
        go_ret
        exact ⟨ret_bool (by unfold txnv; rw [hav]; simp [*]; try omega), by (repeat' (first | (with_reducible exact Below.refl _ _) | (with_reducible refine Below.mono (by assumption) ?_) | (with_reducible refine Below.trans ?_ (Below.mono (by assumption) ?_)) | (with_reducible refine Below.alloc ?_ ?_ _) | (with_reducible refine Below.drew ?_) | (with_reducible refine below_drewN ?_ _) | (with_reducible refine Below.setCell ?_ ?_ _) | (simp only [World.size_alloc, World.size_setCell, World.size_drew, size_drewN]; omega) | omega))⟩
set_option maxHeartbeats 1000000 in
theorem implEdgesValid_c (many : Int) (xs : List T3) (S : Nat → Prop) (A : Option Addr) (c : Nat) (w : World) (hx : Ops S w A xs) (hn : xs.length ≤ 1048576) :
    Calls Tryz.prog 84 #[.int .i64 many, .slice A xs.length c] w fun e w' => e = .returned (.bool (edgesValid many xs)) ∧ Ext w w' := by
  go_enter Tryz.func84, Tryz.ntmps84
  go_wp2_with (first | (go_at_call 101; refine (within_c _ _ _ _).mono ?_; rintro e w' ⟨rfl, rfl⟩) | (go_at_call 108; refine (hasEdge_c many _ _ _ _ _ _ (by simp) (by simp) (hx.ext (by (repeat' (first | (with_reducible exact Below.refl _ _) | (with_reducible refine Below.mono (by assumption) ?_) | (with_reducible refine Below.trans ?_ (Below.mono (by assumption) ?_)) | (with_reducible refine Below.alloc ?_ ?_ _) | (with_reducible refine Below.drew ?_) | (with_reducible refine below_drewN ?_ _) | (with_reducible refine Below.setCell ?_ ?_ _) | (simp only [World.size_alloc, World.size_setCell, World.size_drew, size_drewN]; omega) | omega)))) hn).mono ?_; rintro e w1 ⟨rfl, hb⟩; obtain ⟨hc, hf, hz, hs⟩ := bcell hb; (try simp only [World.size_alloc, World.size_setCell, World.size_drew, size_drewN] at hs); (first | have l0 := Nat.lt_of_lt_of_le l0 (show _ ≤ w1.heap.size by omega) | have l0 : w.heap.size < w1.heap.size := (by omega) | skip); (try have l0e := Nat.le_of_lt l0); (try have l0f := Nat.le_add_right_of_le (k := 1) l0e); (try have l1 := Nat.lt_of_lt_of_le l1 (show _ ≤ w1.heap.size by omega)); (try have l1e := Nat.le_of_lt l1); (try have l1f := Nat.le_add_right_of_le (k := 1) l1e); (try have l2 := Nat.lt_of_lt_of_le l2 (show _ ≤ w1.heap.size by omega)); (try have l2e := Nat.le_of_lt l2); (try have l2f := Nat.le_add_right_of_le (k := 1) l2e); (try have l3 := Nat.lt_of_lt_of_le l3 (show _ ≤ w1.heap.size by omega)); (try have l3e := Nat.le_of_lt l3); (try have l3f := Nat.le_add_right_of_le (k := 1) l3e)))
  all_goals
    go_ret
    exact ⟨ret_bool (by unfold edgesValid; simp [*]; try omega), by (repeat' (first | (with_reducible exact Below.refl _ _) | (with_reducible refine Below.mono (by assumption) ?_) | (with_reducible refine Below.trans ?_ (Below.mono (by assumption) ?_)) | (with_reducible refine Below.alloc ?_ ?_ _) | (with_reducible refine Below.drew ?_) | (with_reducible refine below_drewN ?_ _) | (with_reducible refine Below.setCell ?_ ?_ _) | (simp only [World.size_alloc, World.size_setCell, World.size_drew, size_drewN]; omega) | omega))⟩
end Go.Proofs.YtmbdacfgmiielaaGreat
