/-
  Contracts of DoneTxns, the reference's and the program's.
-/
import Derived.Test.YtdgfipoibnjhaaaWr
import Derived.Test.YtdgfipoibnjhaaaOwnI
namespace Go.Proofs.Ytdgfipoibnjhaaa
set_option linter.unusedSimpArgs false
set_option linter.unusedVariables false
set_option maxRecDepth 100000
open Go.RowKit

/-- the numbers of the committed ones among the first k transactions -/
def dnT (h : List TxnT) : Nat → List Int
  | 0 => []
  | k + 1 => match h[k]? with
    | some t => if t.done = true then dnT h k ++ [(k : Int)] else dnT h k
    | none => dnT h k
theorem dnT_succ {h : List TxnT} {k : Nat} {t : TxnT} (hk : h[k]? = some t) : dnT h (k + 1) = if t.done = true then dnT h k ++ [(k : Int)] else dnT h k := by
  simp only [dnT, hk]
theorem dnT_len (h : List TxnT) (k : Nat) : (dnT h k).length ≤ k := by
  induction k with
  | zero => exact Nat.le_refl _
  | succ k ih =>
    unfold dnT
    split
    · split
      · simp; omega
      · omega
    · omega
theorem info1 : (Try.prog.info? 3).map (fun i => (i.zero, i.size, i.bytes)) = some (some (.int .i64 0), 1, 8) := by kernel_rfl

set_option maxHeartbeats 2000000 in
theorem done_c (h : List TxnT) (S : Nat → Prop) (A : Option Addr) (c : Nat) (w : World) (hx : Txns S w A h) (hsm : Small h) :
    Calls Try.prog 51 #[.slice A h.length c] w (FreshI (dnT h h.length) w) := by
  have hn := hsm.len
  obtain ⟨i0, hi, hz0, hz1, hz2⟩ := info_parts info1
  have hmk : ∀ W, (Instr.makeSlice 39 (.int .i64 0) (.int .i64 h.length)).run Try.prog W = .ok (.slice (some ⟨W.heap.size, 0, none⟩) 0 h.length) (W.alloc (.cells (madeCells (Value.int .i64 0).cells (h.length * 1)) 3)) := fun W => by
    have hm := run_make_rowN (P := Try.prog) 39 3 i0 _ Try.underlying39 hi hz0 .i64 .i64 0 h.length (Nat.zero_le _) (by rw [hz2]; omega) (by omega) W
    rw [hz1] at hm
    exact hm
  go_enter Try.func51, Try.ntmps51
  go_wp2
  have hO : Own1 (w.alloc (.cells (madeCells #[Value.int .i64 0] h.length) 3)) w.heap.size 3 (.slice (some ⟨w.heap.size, 0, none⟩) 0 h.length) (dnT h 0) :=
    Own1.made w _ h.length rfl (by omega) (by omega) (by simp [madeCells])
  clear hmk
  go_loopw [3, 11] (fun v i wr => ∃ k : Nat, k ≤ h.length ∧ i = .int .i64 k ∧ Own1 wr w.heap.size 3 v (dnT h k) ∧ Ext w wr) (fun _ i _ => h.length - (intOf i).toNat)
  case atStart => exact ⟨0, Nat.zero_le _, rfl, hO, by (repeat' (first | (with_reducible exact Below.refl _ _) | (with_reducible refine Below.mono (by assumption) ?_) | (with_reducible refine Below.trans ?_ (Below.mono (by assumption) ?_)) | (with_reducible refine Below.alloc ?_ ?_ _) | (with_reducible refine Below.drew ?_) | (with_reducible refine below_drewN ?_ _) | (with_reducible refine Below.setCell ?_ ?_ _) | (simp only [World.size_alloc, World.size_setCell, World.size_drew, size_drewN]; omega) | omega))⟩
  case round =>
    obtain ⟨k, hk, rfl, hown, hE⟩ := hrel
    have hEz := hE.size
    clear hO
    by_cases hlt : k < h.length
    · obtain ⟨s, ops, d, A', cap, b, off, hxk, rfl, _, hb0, hOp, c0, c1, c2⟩ := (hx.ext hE).at_ hlt
      have hst := dnT_succ hxk
      have hdl := dnT_len h k
      have HS := Lib.hid hst
      clear hxk hst
      cases d with
      | false =>
        go_wp2
        exact ⟨⟨k + 1, by omega, by go_num, by rw [HS.out]; exact hown.ext (by (repeat' (first | (with_reducible exact Below.refl _ _) | (with_reducible refine Below.mono (by assumption) ?_) | (with_reducible refine Below.trans ?_ (Below.mono (by assumption) ?_)) | (with_reducible refine Below.alloc ?_ ?_ _) | (with_reducible refine Below.drew ?_) | (with_reducible refine below_drewN ?_ _) | (with_reducible refine Below.setCell ?_ ?_ _) | (simp only [World.size_alloc, World.size_setCell, World.size_drew, size_drewN]; omega) | omega))), hE.tr (by (repeat' (first | (with_reducible exact Below.refl _ _) | (with_reducible refine Below.mono (by assumption) ?_) | (with_reducible refine Below.trans ?_ (Below.mono (by assumption) ?_)) | (with_reducible refine Below.alloc ?_ ?_ _) | (with_reducible refine Below.drew ?_) | (with_reducible refine below_drewN ?_ _) | (with_reducible refine Below.setCell ?_ ?_ _) | (simp only [World.size_alloc, World.size_setCell, World.size_drew, size_drewN]; omega) | omega)))⟩, by simp [intOf]; omega⟩
      | true =>
        go_wp2_with (at_builtin; refine wpList_append1 _ rfl _ _ 39 rfl w.heap.size 3 Try.underlying39 info1 rfl _ (dnT h k) rfl (hown.ext (by (repeat' (first | (with_reducible exact Below.refl _ _) | (with_reducible refine Below.mono (by assumption) ?_) | (with_reducible refine Below.trans ?_ (Below.mono (by assumption) ?_)) | (with_reducible refine Below.alloc ?_ ?_ _) | (with_reducible refine Below.drew ?_) | (with_reducible refine below_drewN ?_ _) | (with_reducible refine Below.setCell ?_ ?_ _) | (simp only [World.size_alloc, World.size_setCell, World.size_drew, size_drewN]; omega) | omega)))) _ k rfl ?_ ?_ ?_ ?_)
        · omega
        · omega
        · intro v' w' hown' hgrow
          have hE2 : Ext w w' := Below.grown (hE.tr (by (repeat' (first | (with_reducible exact Below.refl _ _) | (with_reducible refine Below.mono (by assumption) ?_) | (with_reducible refine Below.trans ?_ (Below.mono (by assumption) ?_)) | (with_reducible refine Below.alloc ?_ ?_ _) | (with_reducible refine Below.drew ?_) | (with_reducible refine below_drewN ?_ _) | (with_reducible refine Below.setCell ?_ ?_ _) | (simp only [World.size_alloc, World.size_setCell, World.size_drew, size_drewN]; omega) | omega)))) hgrow (by first | omega | (simp only [World.size_alloc]; omega)) (fun g hg => (own1_block hown g hg))
          clear hown
          go_wp2
          go_roundw
          case measure => simp [intOf]; omega
          case rel => exact ⟨k + 1, by omega, by go_num, by rw [HS.out]; exact hown', hE2⟩
    · obtain rfl : k = h.length := by omega
      have hfr := hown.fresh (Nat.le_refl _) hE
      go_wp2
      go_ret
      exact hfr

theorem FreshI.nil (w w' : World) (hE : Ext w w') : FreshI [] w (.returned (.slice none 0 0)) w' := ⟨none, 0, rfl, SlAt.nil, (fun a ha => by cases ha), hE⟩
theorem FreshI.old {w w1 w2 : World} {xs : List Int} {e : Ending} (h : FreshI xs w1 e w2) (hE : Ext w w1) : FreshI xs w e w2 := by
  obtain ⟨A, c, he, hA, hf, hb⟩ := h
  have hz := hE.size
  exact ⟨A, c, he, hA.mono (fun b h _ => by omega) (fun _ _ h => h), (fun a ha => by have := hf a ha; exact ⟨by omega, this.2⟩), hE.tr hb⟩

end Go.Proofs.Ytdgfipoibnjhaaa
