/-
  slices.Concat of two slices of numbers: a new slice of the call's own.
-/
import Derived.Test.YtdgfipoibnjhaaaAppN
import Derived.Test.YtdgfipoibnjhaaaFndI
import Derived.Shelf.Spec.SlicesGrow
namespace Go.Proofs.Ytdgfipoibnjhaaa
set_option linter.unusedSimpArgs false
set_option linter.unusedVariables false
set_option maxRecDepth 100000
open Go.RowKit Go.Shelf

def Try.growI_ren : Go.Shelf.Ren := ⟨fun | 4 => 53 | n => n, fun | 22 => 39 | 25 => 3 | 3 => 3 | 4 => 4 | 9 => 9 | 20 => 20 | 0 => 0 | n => n, fun | n => n⟩
theorem Try.growI : Go.Proofs.Lays8.n4 Try.prog Try.growI_ren := {
  mixed := by kernel_rfl
  f4 := ⟨Try.f53.name, by decide, Try.func53.trans (congrArg some (by kernel_rfl))⟩
  t0 := Try.underlying0
  a0 := Try.isAgg0
  z0 := Try.sizeOf0
  v0 := Try.zeroValue0
  t3 := Try.underlying3
  a3 := Try.isAgg3
  z3 := Try.sizeOf3
  v3 := Try.zeroValue3
  t4 := Try.underlying4
  a4 := Try.isAgg4
  z4 := Try.sizeOf4
  v4 := Try.zeroValue4
  t9 := Try.underlying9
  a9 := Try.isAgg9
  z9 := Try.sizeOf9
  v9 := Try.zeroValue9
  t20 := Try.underlying20
  a20 := Try.isAgg20
  z20 := Try.sizeOf20
  v20 := Try.zeroValue20
  t22 := Try.underlying39
  a22 := Try.isAgg39
  z22 := Try.sizeOf39
  v22 := Try.zeroValue39 }
theorem grow_c (n : Nat) (w : World) (hn : n ≤ 1000) : Calls Try.prog 53 #[.slice none 0 0, .int .i64 n] w fun e w' => ∃ v, e = .returned v ∧ Own1 w' w.heap.size 3 v [] ∧ Ext w w' := by
  by_cases h0 : n = 0
  · subst h0
    refine (Any8.slices_Grow_room Try.growI none 0 0 0 w (Nat.le_refl _) (by omega) (by omega) (by omega)).mono ?_
    rintro e w' ⟨rfl, rfl⟩
    exact ⟨_, rfl, World.ownsRow_nil _ _ _ _, Below.refl _ _⟩
  · obtain ⟨i0, hi, hz0, hz1, hz2⟩ := info_parts info1
    refine (Any8.slices_Grow_grow Try.growI i0 _ hi hz0 (by omega) none 0 0 n [] w (Nat.le_refl _) (by omega) (by rw [hz2]; omega) (by omega) (by simp) (fun _ => rfl) (fun a ha => by cases ha)).mono ?_
    rintro e w' ⟨rfl, rfl⟩
    refine ⟨_, rfl, World.ownsRow_made w.drew _ _ (Nat.le_refl _) (grownCap_le_maxLen w _ _ _ (by unfold maxLen; omega)) ?_, Below.alloc (Below.drew (Below.refl _ _)) (Nat.le_refl _) _⟩
    have hge := grownCap_ge w (0 + n) 0 3
    simp only [Array.size_append, size_zeroCells]
    show 0 + (0 + n - 0) * 1 + (grownCap w (0 + n) 0 3 - (0 + n)) * 1 = grownCap w (0 + n) 0 3 * 1
    omega
set_option maxHeartbeats 4000000 in
theorem concat_c (xs ys : List Int) (g b1 o1 c1 b2 o2 c2 : Nat) (S1 S2 : Nat → Prop) (w : World) (hB : Blk w g 39 #[.slice (some ⟨b1, o1, none⟩) xs.length c1, .slice (some ⟨b2, o2, none⟩) ys.length c2]) (hx : Ints S1 w (some ⟨b1, o1, none⟩) xs) (hy : Ints S2 w (some ⟨b2, o2, none⟩) ys) (hn : xs.length + ys.length ≤ 1000) :
    Calls Try.prog 39 #[.slice (some ⟨g, 0, none⟩) 2 2] w fun e w' => ∃ v, e = .returned v ∧ Own1 w' w.heap.size 3 v (xs ++ ys) ∧ Ext w w' := by
  have q0 := hB.cell 0
  have q1 := hB.cell 1
  simp only [List.getElem?_toArray, List.getElem?_cons_zero, List.getElem?_cons_succ] at q0 q1
  have hgl := hB.lt
  have HX := Lib.hid hx
  have HY := Lib.hid hy
  have CG := Lib.hid (fun w => grow_c (xs.length + ys.length) w (by omega))
  clear hB hx hy
  have hnn : ¬ ((xs.length : Int) + (ys.length : Int) < 0) := by omega
  have hnx : ¬ ((xs.length : Int) < 0) := by omega
  go_enter Try.func39, Try.ntmps39
  go_wp2
  go_loopw [3, 11] (fun s i W => ((i = .int .i64 0 ∧ s = .int .i64 0) ∨ (i = .int .i64 1 ∧ s = .int .i64 xs.length) ∨ (i = .int .i64 2 ∧ s = .int .i64 ((xs.length : Int) + ys.length))) ∧ W = w) (fun _ i _ => 2 - (intOf i).toNat)
  case atStart => exact ⟨.inl ⟨rfl, rfl⟩, rfl⟩
  case round =>
    obtain ⟨⟨rfl, rfl⟩ | ⟨rfl, rfl⟩ | ⟨rfl, rfl⟩, rfl⟩ := hrel
    · go_wp2
      go_roundw
      case measure => simp [intOf]
      case rel => exact ⟨.inr (.inl ⟨by go_num, by go_num⟩), trivial⟩
    · go_wp2
      go_roundw
      case measure => simp [intOf]
      case rel => exact ⟨.inr (.inr ⟨by go_num, by go_num⟩), trivial⟩
    · obtain ⟨wo, hwo⟩ : ∃ wo, wo = wr := ⟨_, rfl⟩
      subst hwo
      go_wp2_with (fail)
      go_at_call 53
      refine (CG.out _).mono ?_
      rintro e w1 ⟨v, rfl, hO, hb⟩
      obtain ⟨hc, hf, hz, hs⟩ := bcell hb
      (try simp only [World.size_alloc, World.size_setCell, World.size_drew, size_drewN] at hs); (first | have l0 := Nat.lt_of_lt_of_le l0 (show _ ≤ w1.heap.size by omega) | have l0 : w.heap.size < w1.heap.size := (by omega) | skip); (try have l0e := Nat.le_of_lt l0); (try have l0f := Nat.le_add_right_of_le (k := 1) l0e); (try have l1 := Nat.lt_of_lt_of_le l1 (show _ ≤ w1.heap.size by omega)); (try have l1e := Nat.le_of_lt l1); (try have l1f := Nat.le_add_right_of_le (k := 1) l1e); (try have l2 := Nat.lt_of_lt_of_le l2 (show _ ≤ w1.heap.size by omega)); (try have l2e := Nat.le_of_lt l2); (try have l2f := Nat.le_add_right_of_le (k := 1) l2e); (try have l3 := Nat.lt_of_lt_of_le l3 (show _ ≤ w1.heap.size by omega)); (try have l3e := Nat.le_of_lt l3); (try have l3f := Nat.le_add_right_of_le (k := 1) l3e)
      have HO := Lib.hid hO
      have HE1 := Lib.hid (show Ext wo w1 from hb)
      clear hO hb hc hf hz
      go_wp2
      go_loopw [6, 27] (fun v i W => ((i = .int .i64 0 ∧ Own1 W wo.heap.size 3 v []) ∨ (i = .int .i64 1 ∧ Own1 W wo.heap.size 3 v xs) ∨ (i = .int .i64 2 ∧ Own1 W wo.heap.size 3 v (xs ++ ys))) ∧ Ext wo W) (fun _ i _ => 2 - (intOf i).toNat)
      case atStart => exact ⟨.inl ⟨rfl, HO.out⟩, HE1.out⟩
      case round =>
        obtain ⟨⟨rfl, hO⟩ | ⟨rfl, hO⟩ | ⟨rfl, hO⟩, hE⟩ := hrel
        · have p0 := hE.keep hgl q0
          have HO2 := Lib.hid hO
          have hz9 := hE.size
          clear HO hO
          go_wp2_with (at_builtin; go_loud (refine wpList_app1n _ rfl _ _ rfl wo.heap.size _ [] rfl HO2.out S1 b1 o1 xs.length c1 xs rfl rfl (HX.out.ext hE) ?_ ?_ ?_))
          · simp only [List.length_nil]; omega
          · omega
          · intro v' w' hown' hgrow _
            have hE8 : Ext wo w' := Below.grown hE hgrow hz9 (fun g hg => (World.ownsRow.lt HO2.out g hg).1)
            try rw [List.nil_append] at hown'
            have HO8 := Lib.hid hown'
            have HE8 := Lib.hid hE8
            clear hown' hgrow hE8 hE
            go_wp2
            go_roundw
            case measure => simp [intOf]
            case rel => exact ⟨.inr (.inl ⟨by go_num, HO8.out⟩), HE8.out⟩
        · have p1 := hE.keep hgl q1
          have HO2 := Lib.hid hO
          have hz9 := hE.size
          clear HO hO
          go_wp2_with (at_builtin; go_loud (refine wpList_app1n _ rfl _ _ rfl wo.heap.size _ xs rfl HO2.out S2 b2 o2 ys.length c2 ys rfl rfl (HY.out.ext hE) ?_ ?_ ?_))
          · omega
          · omega
          · intro v' w' hown' hgrow _
            have hE8 : Ext wo w' := Below.grown hE hgrow hz9 (fun g hg => (World.ownsRow.lt HO2.out g hg).1)
            have HO8 := Lib.hid hown'
            have HE8 := Lib.hid hE8
            clear hown' hgrow hE8 hE
            go_wp2
            go_roundw
            case measure => simp [intOf]
            case rel => exact ⟨.inr (.inr ⟨by go_num, HO8.out⟩), HE8.out⟩
        · have HF := Lib.hid (And.intro hO hE)
          clear HO hO hE
          go_wp2
          go_ret
          exact ⟨_, rfl, HF.out.1, HF.out.2⟩
end Go.Proofs.Ytdgfipoibnjhaaa
