/-
  The program's search for a serial order: its closures.
-/
import Derived.Test.YtdgfipoibnjhaaaDoorFndM
import Derived.Deep.AppendLies
namespace Go.Proofs.YtdgfipoibnjhaaaDoor
set_option linter.unusedSimpArgs false
set_option linter.unusedVariables false
set_option maxRecDepth 100000
open Go.RowKit

/-- append of a slice of numbers wherever it lies -/
theorem wpList_app1n (w : World) {ops : Array Oper} {rest : List Oper} {o : Oper} {a : Act} {Q : Exit → Act → World → Prop} (hgd : o.guard = none) (s x : Operand)
    (ho : o.op = .call { callee := .builtin .append, args := #[s, x], argTypes := #[41, 41] })
    (base : Nat) (v : Value) (xs : List Int) (hs : a.eval s = v) (hown : Own1 w base 3 v xs)
    (S : Nat → Prop) (b off m c : Nat) (ys : List Int) (hx : a.eval x = .slice (some ⟨b, off, none⟩) m c) (hm : m = ys.length) (hu : Ints S w (some ⟨b, off, none⟩) ys)
    (hn : xs.length + ys.length ≤ 1048576) (hbase : base ≤ w.heap.size)
    (h : ∀ v' w', Own1 w' base 3 v' (xs ++ ys) → w.grownBy w' v.ownBlock → (v'.ownBlock = v.ownBlock ∨ v'.ownBlock = some w.heap.size) → wpList Tryd.prog ops Q rest (a.put o.dst v') w') : wpList Tryd.prog ops Q (o :: rest) a w := by
  obtain ⟨i0, hi, hz0, hz1, hz2⟩ := info_parts info1
  subst hm
  refine wpList_append_own_at w hgd s x 41 ho base 3 i0 _ 1 8 Tryd.underlying41 hi hz0 hz1 hz2 rfl (by decide) v xs.length (flat1 xs) hs hown ⟨b, off, none⟩ ys.length c (flat1 ys) hx (by simp [flat1]) ?_ ?_ (by unfold maxLen; omega) (by omega) hbase ?_
  · intro j u hu'
    simp only [flat1, List.getElem?_map] at hu'
    cases hy : ys[j]? with
    | none => rw [hy] at hu'; cases hu'
    | some y =>
      rw [hy] at hu'
      cases hu'
      obtain ⟨y', b', off', hy', e, _, _, hc⟩ := hu.at_ (i := j) (List.getElem?_eq_some_iff.1 hy).1
      rw [hy] at hy'
      cases hy'
      cases e
      rw [← hc]
      unfold Addr.add
      split
      · rename_i h0
        have h0 : j = 0 := by simpa using h0
        subst h0
        rfl
      · rfl
  · intro u hu'
    simp only [flat1, List.mem_map] at hu'
    obtain ⟨x, _, rfl⟩ := hu'
    rfl
  · intro v' w' h1 h2 _ h3
    refine h v' w' ?_ h2 h3
    unfold Own1
    rw [show flat1 (xs ++ ys) = flat1 xs ++ flat1 ys by simp [flat1], List.length_append]
    exact h1
set_option maxHeartbeats 1000000 in
theorem clone_c (xs : List Int) (S : Nat → Prop) (b off c : Nat) (w : World) (hi : Ints S w (some ⟨b, off, none⟩) xs) (hn : xs.length ≤ 1000) :
    Calls Tryd.prog 60 #[.slice (some ⟨b, off, none⟩) xs.length c] w fun e w' => ∃ v, e = .returned v ∧ Own1 w' w.heap.size 3 v xs ∧ Ext w w' ∧ ∃ g, v.ownBlock = some g := by
  have hO : Own1 (w.alloc (.cells #[] 3)) w.heap.size 3 (.slice (some ⟨w.heap.size, 0, none⟩) 0 0) [] := Own1.made w #[] 0 rfl (Nat.le_refl _) (by omega) rfl
  have hnil : ∀ W : World, (binOp .eql 41 (.slice (some ⟨b, off, none⟩) xs.length c) (.slice none 0 0)).run Tryd.prog W = .ok (.bool false) W := fun W => by first | rfl | kernel_rfl | simp [binOp]
  have HI := Lib.hid hi
  clear hi
  go_enter Tryd.func60, Tryd.ntmps60
  go_wp2_with (at_builtin; refine wpList_app1n _ rfl _ _ rfl w.heap.size _ [] rfl (hO.ext (by (repeat' (first | (with_reducible exact Below.refl _ _) | (with_reducible refine Below.mono (by assumption) ?_) | (with_reducible refine Below.trans ?_ (Below.mono (by assumption) ?_)) | (with_reducible refine Below.alloc ?_ ?_ _) | (with_reducible refine Below.drew ?_) | (with_reducible refine below_drewN ?_ _) | (with_reducible refine Below.setCell ?_ ?_ _) | (simp only [World.size_alloc, World.size_setCell, World.size_drew, size_drewN]; omega) | omega)))) S b off xs.length _ xs rfl rfl (Ints.ext HI.out (by (repeat' (first | (with_reducible exact Below.refl _ _) | (with_reducible refine Below.mono (by assumption) ?_) | (with_reducible refine Below.trans ?_ (Below.mono (by assumption) ?_)) | (with_reducible refine Below.alloc ?_ ?_ _) | (with_reducible refine Below.drew ?_) | (with_reducible refine below_drewN ?_ _) | (with_reducible refine Below.setCell ?_ ?_ _) | (simp only [World.size_alloc, World.size_setCell, World.size_drew, size_drewN]; omega) | omega)))) (by simp only [List.length_nil]; omega) (by simp only [World.size_alloc]; omega) ?_)
  intro v' w' hown hg hat
  have hE : Ext w w' := by
    refine Below.grown ?_ hg ?_ (fun g hg => (World.ownsRow.lt hO g hg).1)
    · (repeat' (first | (with_reducible exact Below.refl _ _) | (with_reducible refine Below.mono (by assumption) ?_) | (with_reducible refine Below.trans ?_ (Below.mono (by assumption) ?_)) | (with_reducible refine Below.alloc ?_ ?_ _) | (with_reducible refine Below.drew ?_) | (with_reducible refine below_drewN ?_ _) | (with_reducible refine Below.setCell ?_ ?_ _) | (simp only [World.size_alloc, World.size_setCell, World.size_drew, size_drewN]; omega) | omega))
    · simp only [World.size_alloc]; omega
  have hsm : ∃ g, v'.ownBlock = some g := by
    rcases hat with e | e
    · exact ⟨w.heap.size, e⟩
    · exact ⟨_, e⟩
  have HF := Lib.hid (show _ ∧ _ ∧ _ from ⟨hown, hE, hsm⟩)
  clear hown hg hat hE hsm
  go_wp2
  go_ret
  exact ⟨_, rfl, by simpa using HF.out.1, HF.out.2.1, HF.out.2.2⟩
set_option maxHeartbeats 1000000 in
theorem anyone_c (g n : Int) (w : World) : Calls Tryd.prog 71 #[.int .u64 g, .int .i64 n] w fun e w' => e = .returned (.bool true) ∧ w = w' := by
  go_enter Tryd.func71, Tryd.ntmps71
  go_wp2
  go_ret
  exact ⟨rfl, rfl⟩
set_option maxHeartbeats 2000000 in
/-- the closure that takes what is found -/
theorem found_c (w0 : World) (B : FB) (A : Option Addr) (hn c : Nat) (Da : Option Addr) (all : List Int) (ca : Nat) (cv lv fv v : Value) (pre : List Int) (W : World) (hB : B.ok) (s : FSt w0 B A hn c Da all ca cv lv fv v pre W) (hv : ∃ g, v.ownBlock = some g) (hp : pre.length ≤ 100) :
    Calls Tryd.prog 99 #[v, .pointer (some ⟨B.bfo, 0, none⟩), .pointer (some ⟨B.bok, 0, none⟩)] W fun e W' => e = .returned (.bool false) ∧ FEnd w0 B pre W' := by
  obtain ⟨Ao, co, rfl, hI, hf⟩ := s.own.form
  obtain ⟨ad, rfl⟩ : ∃ g, Ao = some ⟨g, 0, none⟩ := by
    rcases s.own.2 with ⟨hv0, _⟩ | ⟨g, cap, cur, hv0, _⟩
    · obtain ⟨g, hg⟩ := hv
      rw [hv0] at hg
      cases hg
    · simp only [Value.slice.injEq] at hv0
      exact ⟨g, hv0.1⟩
  have hbz := s.bz
  have h5 := hB.fo
  have h6 := hB.ok_
  have h9 := hB.ne
  have hlo := s.low
  have HS := Lib.hid s
  have HI := Lib.hid hI
  clear s hI hf hv
  go_enter Tryd.func99, Tryd.ntmps99
  go_wp2_with (fail)
  go_at_call 60
  refine (clone_c pre _ _ _ _ _ (Ints.ext HI.out (by (repeat' (first | (with_reducible exact Below.refl _ _) | (with_reducible refine Below.mono (by assumption) ?_) | (with_reducible refine Below.trans ?_ (Below.mono (by assumption) ?_)) | (with_reducible refine Below.alloc ?_ ?_ _) | (with_reducible refine Below.drew ?_) | (with_reducible refine below_drewN ?_ _) | (with_reducible refine Below.setCell ?_ ?_ _) | (simp only [World.size_alloc, World.size_setCell, World.size_drew, size_drewN]; omega) | omega)))) (by omega)).mono ?_
  rintro e w2 ⟨v2, rfl, hO2, hE2, hs2⟩
  have hE2 : Ext W w2 := by (repeat' (first | (with_reducible exact Below.refl _ _) | (with_reducible refine Below.mono (by assumption) ?_) | (with_reducible refine Below.trans ?_ (Below.mono (by assumption) ?_)) | (with_reducible refine Below.alloc ?_ ?_ _) | (with_reducible refine Below.drew ?_) | (with_reducible refine below_drewN ?_ _) | (with_reducible refine Below.setCell ?_ ?_ _) | (simp only [World.size_alloc, World.size_setCell, World.size_drew, size_drewN]; omega) | omega))
  have s2 := HS.out.to hB hE2
  obtain ⟨A2, c2, rfl, hI2, hf2⟩ := hO2.form
  have hcap : pre.length ≤ c2 := by
    rcases hO2.2 with ⟨hv0, h0⟩ | ⟨g, cap, cur, hv0, _, _, hle, _⟩
    · omega
    · simp only [Value.slice.injEq] at hv0
      omega
  have f0 : w2.cell? ⟨B.bfo, 0, none⟩ = some (.slice none 0 0) := (s2.fo.cell 0).trans rfl
  have ff : w2.frozen? ⟨B.bfo, 0, none⟩ = false := s2.fo.frozen 0
  have k0 : w2.cell? ⟨B.bok, 0, none⟩ = some (.bool false) := (s2.ok.cell 0).trans rfl
  have kf : w2.frozen? ⟨B.bok, 0, none⟩ = false := s2.ok.frozen 0
  have hneq : B.bok ≠ B.bfo := fun e => h9.2.1 e.symm
  have k0' : (w2.setCell ⟨B.bfo, 0, none⟩ (.slice A2 pre.length c2)).cell? ⟨B.bok, 0, none⟩ = some (.bool false) := by
    rw [World.cell?_setCell_other _ _ _ _ (fun e => by have h8 := congrArg Addr.block e; simp only at h8; exact hneq (h8.symm))]
    exact k0
  have kf' : (w2.setCell ⟨B.bfo, 0, none⟩ (.slice A2 pre.length c2)).frozen? ⟨B.bok, 0, none⟩ = false := by
    simpa using kf
  have HF := Lib.hid (show _ ∧ _ ∧ _ from ⟨s2, hI2, hf2⟩)
  have hz2 := hE2.size
  clear s2 hI2 hf2 hO2 hE2
  go_wp2
  go_ret
  obtain ⟨s2, hI2, hf2⟩ := HF.out
  have hbk : ∀ b, b ≠ B.bfo → b ≠ B.bok → ((w2.setCell ⟨B.bfo, 0, none⟩ (.slice A2 pre.length c2)).setCell ⟨B.bok, 0, none⟩ (.bool true)).heap[b]? = w2.heap[b]? := fun b hb1 hb2 => by
    rw [Below.heap_setCell _ ⟨B.bok, 0, none⟩ _ b (by simpa using hb2), Below.heap_setCell _ ⟨B.bfo, 0, none⟩ _ b (by simpa using hb1)]
  refine ⟨rfl, ⟨s2.ext.os, s2.ext.tape, s2.ext.output, by simp only [World.size_setCell]; exact s2.ext.size, fun k hk => (hbk k (by omega) (by omega)).trans (s2.ext.block k hk)⟩, A2, c2, ?_, hcap, SlAt.keep (SlAt.mono hI2 (fun b h _ => Nat.le_trans hbz h) (fun _ _ h => h)) (kept_int _ _) (by simp only [World.size_setCell]; exact Nat.le_refl _) (fun p hp _ => World.cell?_of_block (hbk _ (by omega) (by omega))), fun a ha => ?_, ?_⟩
  · have h1 := s2.fo.set_ 0 (.slice A2 pre.length c2)
    have h2 : Blk (w2.setCell ⟨B.bfo, 0, none⟩ (.slice A2 pre.length c2)) B.bfo 41 #[.slice A2 pre.length c2] := by simpa using h1
    exact (Below.heap_setCell _ ⟨B.bok, 0, none⟩ _ B.bfo (by simp only; exact h9.2.1)).trans h2
  · have h1 := hf2 a ha
    refine ⟨Nat.le_trans hbz h1.1, by simp only [World.size_setCell]; exact h1.2.1, fun o => ?_⟩
    have h3 := h1.2.2 o
    rw [World.frozen?_of_block (a := ⟨a.block, o, none⟩) (hbk a.block (by omega) (by omega))]
    exact h3
  · have h2 : Blk (w2.setCell ⟨B.bfo, 0, none⟩ (.slice A2 pre.length c2)) B.bok 4 #[.bool false] := (Below.heap_setCell _ ⟨B.bfo, 0, none⟩ _ B.bok (by simp only; exact hneq)).trans s2.ok
    have h1 := h2.set_ 0 (.bool true)
    simpa using h1
end Go.Proofs.YtdgfipoibnjhaaaDoor
