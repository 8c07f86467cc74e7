/-
  Contracts of the laws' helpers on lists of ints: comparison and marks.
-/
import Derived.Test.YtdgfipoibnjhaaaMark
namespace Go.Proofs.Ytdgfipoibnjhaaa
set_option linter.unusedSimpArgs false
set_option linter.unusedVariables false
set_option maxRecDepth 100000
open Go.RowKit

def marks1 (k : Int) (n : Nat) : List Int := (List.range n).map fun i : Nat => k + (i : Int)
theorem marks1_len (k : Int) (n : Nat) : (marks1 k n).length = n := by simp [marks1]
theorem marks1_at {k : Int} {n i : Nat} (h : i < n) : (marks1 k n)[i]? = some (k + i) := by simp [marks1, h]
theorem marks1_step {k : Int} {j : Nat} {xs : List Int} (h : j < xs.length) : (marks1 k j ++ xs.drop j).set j (k + j) = marks1 k (j + 1) ++ xs.drop (j + 1) := by
  apply List.ext_getElem?
  intro i
  rw [List.getElem?_set, List.length_append, marks1_len, List.length_drop]
  rcases Nat.lt_trichotomy i j with h1 | h1 | h1
  · rw [if_neg (by omega), List.getElem?_append_left (by rw [marks1_len]; omega), List.getElem?_append_left (by rw [marks1_len]; omega), marks1_at h1, marks1_at (by omega)]
  · subst h1
    rw [if_pos rfl, if_pos (by omega), List.getElem?_append_left (by rw [marks1_len]; omega), marks1_at (by omega)]
  · rw [if_neg (by omega), List.getElem?_append_right (by rw [marks1_len]; omega), List.getElem?_append_right (by rw [marks1_len]; omega), marks1_len, marks1_len, List.getElem?_drop, List.getElem?_drop]
    congr 1
    omega

section
variable {S : Nat → Prop} {w w' : World} {A : Option Addr} {xs : List Int} {b off i : Nat}
theorem Ints.grown {row : Option Nat} (h : Ints S w A xs) (hg : w.grownBy w' row) (hS : ∀ b, S b → b < w.heap.size → some b ≠ row) : Ints S w' A xs :=
  SlAt.keep h (kept_int _ _) hg.size (fun p hp hlt => World.cell?_of_block (hg.block p.block hlt (hS _ hp hlt)))
theorem Ints.set1 (h : Ints S w (some ⟨b, off, none⟩) xs) (hi : i < xs.length) (x : Int) : Ints S (w.setCell ⟨b, off + i, none⟩ (.int .i64 x)) (some ⟨b, off, none⟩) (xs.set i x) := by
  obtain ⟨y0, b', off', _, e, hS, hb, c0⟩ := h.at_ hi
  cases e
  have hz : (w.setCell ⟨b, off + i, none⟩ (.int .i64 x)).heap.size = w.heap.size := by simp [World.setCell]
  intro j y hx
  rw [List.getElem?_set] at hx
  by_cases hj : i = j
  · subst hj
    rw [if_pos rfl, if_pos hi] at hx
    cases hx
    refine ⟨b, off, _, rfl, hS, by rw [hz]; exact hb, rfl, rfl, fun q u hu => ?_⟩
    match q, hu with
    | 0, hu => cases hu; go_simp
    | q + 1, hu => simp at hu
  · rw [if_neg hj] at hx
    obtain ⟨b', off', us, e, _, _, hl, hr, hc⟩ := h j y hx
    cases e
    refine ⟨b, off, us, rfl, hS, by rw [hz]; exact hb, hl, hr, fun q u hu => ?_⟩
    have hq : q < 1 := by have := (List.getElem?_eq_some_iff.1 hu).1; omega
    rw [World.cell?_setCell_other _ _ _ _ (by first | (simp; done) | (simp; omega))]
    exact hc q u hu
end

/-- what a mark of ints leaves -/
def Marked1 (S : Nat → Prop) (A : Option Addr) (k : Int) (n : Nat) (w : World) (e : Ending) (w' : World) : Prop :=
  e = .returned (.int .i64 (k + n)) ∧ Ints S w' A (marks1 k n) ∧ w.grownBy w' (rowOf A) ∧ ∀ a, A = some a → ∀ o, w'.frozen? ⟨a.block, o, none⟩ = false

set_option maxHeartbeats 1000000 in
theorem eqIntS_c (xs : List Int) (S S' : Nat → Prop) (A B : Option Addr) (c d : Nat) (w : World) (hx : Ints S w A xs) (hy : Ints S' w B xs) (hn : xs.length ≤ 1048576) :
    Calls Try.prog 40 #[.slice A xs.length c, .slice B xs.length d] w fun e w' => e = .returned (.bool true) ∧ Ext w w' := by
  have e1 : ((xs.length : Int) != (xs.length : Int)) = false := by simp
  go_enter Try.func40, Try.ntmps40
  go_wp2
  go_loopw [5] (fun i wr => ∃ k : Nat, k ≤ xs.length ∧ i = .int .i64 k ∧ Ext w wr) (fun i _ => xs.length - (intOf i).toNat)
  case atStart => exact ⟨0, Nat.zero_le _, rfl, Below.refl _ _⟩
  case round =>
    obtain ⟨k, hk, rfl, hE⟩ := hrel
    by_cases hlt : k < xs.length
    · obtain ⟨x0, b, off, hxk, rfl, _, hb0, c0⟩ := (hx.ext hE).at_ hlt
      obtain ⟨y0, b', off', hyk, rfl, _, hb0', d0⟩ := (hy.ext hE).at_ hlt
      rw [hxk] at hyk
      cases hyk
      clear hxk
      have e2 : (x0 != x0) = false := by simp
      go_wp2
      go_quiet (fail)
      go_wp2
      go_roundw
      case rel => exact ⟨k + 1, by omega, by go_num, below_drewN hE _⟩
      case measure => simp [intOf]; omega
    · obtain rfl : k = xs.length := by omega
      go_wp2
      go_ret
      exact ⟨rfl, hE⟩

set_option maxHeartbeats 1000000 in
theorem markIntS_c (xs : List Int) (S : Nat → Prop) (A : Option Addr) (c : Nat) (k : Int) (w : World) (hx : Ints S w A xs) (hf : ∀ a, A = some a → ∀ o, w.frozen? ⟨a.block, o, none⟩ = false) (hn : xs.length ≤ 1048576) (h0 : 0 ≤ k) (h1 : k ≤ 1073741824) :
    Calls Try.prog 42 #[.slice A xs.length c, .int .i64 k] w (Marked1 S A k xs.length w) := by
  go_enter Try.func42, Try.ntmps42
  go_wp2
  go_loopw [1, 5] (fun q i wr => ∃ j : Nat, j ≤ xs.length ∧ i = .int .i64 j ∧ q = .int .i64 (k + j) ∧ Ints S wr A (marks1 k j ++ xs.drop j) ∧ w.grownBy wr (rowOf A) ∧ (∀ a, A = some a → ∀ o, wr.frozen? ⟨a.block, o, none⟩ = false)) (fun _ i _ => xs.length - (intOf i).toNat)
  case atStart => exact ⟨0, Nat.zero_le _, rfl, by simp, by simpa [marks1] using hx, grown_refl _ _, hf⟩
  case round =>
    obtain ⟨j, hj, rfl, rfl, hO, hg, hfr⟩ := hrel
    by_cases hlt : j < xs.length
    · obtain ⟨y0, b, off, _, rfl, _, hb0, c0⟩ := hO.at_ (i := j) (by rw [List.length_append, marks1_len, List.length_drop]; omega)
      have hfz := hfr _ rfl
      simp only at hfz
      have hset := hO.set1 (i := j) (by rw [List.length_append, marks1_len, List.length_drop]; omega) (k + j)
      rw [marks1_step hlt] at hset
      have HS := Lib.hid hset
      have HG := Lib.hid hg
      clear hset hg hfr
      go_wp2
      refine ⟨⟨j + 1, by omega, by go_num, by go_num, HS.out, grown_trans HG.out (grown_set _), ?_⟩, by simp [intOf]; omega⟩
      intro a ha o
      cases ha
      simp only [World.frozen?_setCell]
      exact hfz o
    · obtain rfl : j = xs.length := by omega
      have HO := Lib.hid hO
      have HG := Lib.hid hg
      have HF := Lib.hid hfr
      clear hO hg hfr
      go_wp2
      go_ret
      exact ⟨rfl, by simpa using HO.out, HG.out, HF.out⟩

set_option maxHeartbeats 1000000 in
theorem heldIntS_c (n : Nat) (S : Nat → Prop) (A : Option Addr) (c : Nat) (k : Int) (w : World) (hx : Ints S w A (marks1 k n)) (hn : n ≤ 1048576) (h0 : 0 ≤ k) (h1 : k ≤ 1073741824) :
    Calls Try.prog 43 #[.slice A n c, .int .i64 k] w fun e w' => e = .returned (.int .i64 (k + n)) ∧ w = w' := by
  go_enter Try.func43, Try.ntmps43
  go_wp2
  go_loop [1, 5] (fun q i => ∃ j : Nat, j ≤ n ∧ i = .int .i64 j ∧ q = .int .i64 (k + j)) (fun _ i => n - (intOf i).toNat)
  case atStart => exact ⟨0, Nat.zero_le _, rfl, by simp⟩
  case round =>
    obtain ⟨j, hj, rfl, rfl⟩ := hrel
    by_cases hlt : j < n
    · obtain ⟨y0, b, off, hy, rfl, _, hb0, c0⟩ := hx.at_ (i := j) (by rw [marks1_len]; omega)
      rw [marks1_at hlt] at hy
      cases hy
      have e1 : ((k + (j : Int)) != (k + (j : Int))) = false := by simp
      go_wp2
      exact ⟨⟨j + 1, by omega, by go_num, by go_num⟩, by simp [intOf]; omega⟩
    · obtain rfl : j = n := by omega
      go_wp2
      go_ret
      exact ⟨rfl, rfl⟩
end Go.Proofs.Ytdgfipoibnjhaaa
