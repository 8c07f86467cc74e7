/-
  The program's search for a serial order: its closures.
-/
import Derived.Test.YtdgfipoibnjhaaaFndM
import Derived.Deep.AppendLies
namespace Go.Proofs.Ytdgfipoibnjhaaa
set_option linter.unusedSimpArgs false
set_option linter.unusedVariables false
set_option maxRecDepth 100000
open Go.RowKit

/-- append of a slice of numbers wherever it lies -/
theorem wpList_app1n (w : World) {ops : Array Oper} {rest : List Oper} {o : Oper} {a : Act} {Q : Exit → Act → World → Prop} (hgd : o.guard = none) (s x : Operand)
    (ho : o.op = .call { callee := .builtin .append, args := #[s, x], argTypes := #[39, 39] })
    (base : Nat) (v : Value) (xs : List Int) (hs : a.eval s = v) (hown : Own1 w base 3 v xs)
    (S : Nat → Prop) (b off m c : Nat) (ys : List Int) (hx : a.eval x = .slice (some ⟨b, off, none⟩) m c) (hm : m = ys.length) (hu : Ints S w (some ⟨b, off, none⟩) ys)
    (hn : xs.length + ys.length ≤ 1048576) (hbase : base ≤ w.heap.size)
    (h : ∀ v' w', Own1 w' base 3 v' (xs ++ ys) → w.grownBy w' v.ownBlock → (v'.ownBlock = v.ownBlock ∨ v'.ownBlock = some w.heap.size) → wpList Try.prog ops Q rest (a.put o.dst v') w') : wpList Try.prog ops Q (o :: rest) a w := by
  obtain ⟨i0, hi, hz0, hz1, hz2⟩ := info_parts info1
  subst hm
  refine wpList_append_own_at w hgd s x 39 ho base 3 i0 _ 1 8 Try.underlying39 hi hz0 hz1 hz2 rfl (by decide) v xs.length (flat1 xs) hs hown ⟨b, off, none⟩ ys.length c (flat1 ys) hx (by simp [flat1]) ?_ ?_ (by unfold maxLen; omega) (by omega) hbase ?_
  · intro j u hu'
    simp only [flat1, List.getElem?_map] at hu'
    cases hy : ys[j]? with
    | none => rw [hy] at hu'; cases hu'
    | some y =>
      rw [hy] at hu'
      cases hu'
      obtain ⟨y', b', off', hy', e, _, _, hc⟩ := hu.at_ (i := j) (List.getElem?_eq_some_iff.1 hy).1
      rw [hy] at hy'
      cases hy'
      cases e
      rw [← hc]
      unfold Addr.add
      split
      · rename_i h0
        have h0 : j = 0 := by simpa using h0
        subst h0
        rfl
      · rfl
  · intro u hu'
    simp only [flat1, List.mem_map] at hu'
    obtain ⟨x, _, rfl⟩ := hu'
    rfl
  · intro v' w' h1 h2 _ h3
    refine h v' w' ?_ h2 h3
    unfold Own1
    rw [show flat1 (xs ++ ys) = flat1 xs ++ flat1 ys by simp [flat1], List.length_append]
    exact h1
set_option maxHeartbeats 1000000 in
theorem clone_c (xs : List Int) (S : Nat → Prop) (b off c : Nat) (w : World) (hi : Ints S w (some ⟨b, off, none⟩) xs) (hn : xs.length ≤ 1000) :
    Calls Try.prog 22 #[.slice (some ⟨b, off, none⟩) xs.length c] w fun e w' => ∃ v, e = .returned v ∧ Own1 w' w.heap.size 3 v xs ∧ Ext w w' ∧ ∃ g, v.ownBlock = some g := by
  have hO : Own1 (w.alloc (.cells #[] 3)) w.heap.size 3 (.slice (some ⟨w.heap.size, 0, none⟩) 0 0) [] := Own1.made w #[] 0 rfl (Nat.le_refl _) (by omega) rfl
  have hnil : ∀ W : World, (binOp .eql 39 (.slice (some ⟨b, off, none⟩) xs.length c) (.slice none 0 0)).run Try.prog W = .ok (.bool false) W := fun W => by first | rfl | kernel_rfl | simp [binOp]
  have HI := Lib.hid hi
  clear hi
  go_enter Try.func22, Try.ntmps22
  go_wp2_with (at_builtin; refine wpList_app1n _ rfl _ _ rfl w.heap.size _ [] rfl (hO.ext (by (repeat' (first | (with_reducible exact Below.refl _ _) | (with_reducible refine Below.mono (by assumption) ?_) | (with_reducible refine Below.trans ?_ (Below.mono (by assumption) ?_)) | (with_reducible refine Below.alloc ?_ ?_ _) | (with_reducible refine Below.drew ?_) | (with_reducible refine below_drewN ?_ _) | (with_reducible refine Below.setCell ?_ ?_ _) | (simp only [World.size_alloc, World.size_setCell, World.size_drew, size_drewN]; omega) | omega)))) S b off xs.length _ xs rfl rfl (Ints.ext HI.out (by (repeat' (first | (with_reducible exact Below.refl _ _) | (with_reducible refine Below.mono (by assumption) ?_) | (with_reducible refine Below.trans ?_ (Below.mono (by assumption) ?_)) | (with_reducible refine Below.alloc ?_ ?_ _) | (with_reducible refine Below.drew ?_) | (with_reducible refine below_drewN ?_ _) | (with_reducible refine Below.setCell ?_ ?_ _) | (simp only [World.size_alloc, World.size_setCell, World.size_drew, size_drewN]; omega) | omega)))) (by simp only [List.length_nil]; omega) (by simp only [World.size_alloc]; omega) ?_)
  intro v' w' hown hg hat
  have hE : Ext w w' := by
    refine Below.grown ?_ hg ?_ (fun g hg => (World.ownsRow.lt hO g hg).1)
    · (repeat' (first | (with_reducible exact Below.refl _ _) | (with_reducible refine Below.mono (by assumption) ?_) | (with_reducible refine Below.trans ?_ (Below.mono (by assumption) ?_)) | (with_reducible refine Below.alloc ?_ ?_ _) | (with_reducible refine Below.drew ?_) | (with_reducible refine below_drewN ?_ _) | (with_reducible refine Below.setCell ?_ ?_ _) | (simp only [World.size_alloc, World.size_setCell, World.size_drew, size_drewN]; omega) | omega))
    · simp only [World.size_alloc]; omega
  have hsm : ∃ g, v'.ownBlock = some g := by
    rcases hat with e | e
    · exact ⟨w.heap.size, e⟩
    · exact ⟨_, e⟩
  have HF := Lib.hid (show _ ∧ _ ∧ _ from ⟨hown, hE, hsm⟩)
  clear hown hg hat hE hsm
  go_wp2
  go_ret
  exact ⟨_, rfl, by simpa using HF.out.1, HF.out.2.1, HF.out.2.2⟩
end Go.Proofs.Ytdgfipoibnjhaaa
