/-
  Contract of the reference's comparison of lists of different numbers; the same as sorting both.
-/
import Derived.Test.YtdgfipoibnjhaaaDoorInstF
import Derived.Test.YtdgfipoibnjhaaaDoorSort
namespace Go.Proofs.YtdgfipoibnjhaaaDoor
set_option linter.unusedSimpArgs false
set_option linter.unusedVariables false
set_option maxRecDepth 100000
open Go.RowKit

theorem srt_perm (a b : List Int) : srt a = srt b ↔ a.Perm b := by
  constructor
  · intro h
    have h1 := List.mergeSort_perm a (fun x y : Int => decide (x ≤ y))
    have h2 := List.mergeSort_perm b (fun x y : Int => decide (x ≤ y))
    unfold srt at h
    rw [h] at h1
    exact h1.symm.trans h2
  · intro h
    have h1 := List.mergeSort_perm a (fun x y : Int => decide (x ≤ y))
    have h2 := List.mergeSort_perm b (fun x y : Int => decide (x ≤ y))
    have p1 := List.pairwise_mergeSort (le := fun x y : Int => decide (x ≤ y)) (fun a b c h1 h2 => by simp at *; omega) (fun a b => by simp; omega) a
    have p2 := List.pairwise_mergeSort (le := fun x y : Int => decide (x ≤ y)) (fun a b c h1 h2 => by simp at *; omega) (fun a b => by simp; omega) b
    refine List.Perm.eq_of_pairwise (le := fun x y : Int => x ≤ y) ?_ ?_ ?_ ((h1.trans h).trans h2.symm)
    · intro a b _ _ h1 h2; omega
    · exact p1.imp (fun h => by simpa using h)
    · exact p2.imp (fun h => by simpa using h)
theorem srt_sorted {a : List Int} (h : a.Pairwise (fun x y => x < y)) : srt a = a := by
  have p1 := List.pairwise_mergeSort (le := fun x y : Int => decide (x ≤ y)) (fun a b c h1 h2 => by simp at *; omega) (fun a b => by simp; omega) a
  refine List.Perm.eq_of_pairwise (le := fun x y : Int => x ≤ y) ?_ ?_ ?_ (List.mergeSort_perm a _)
  · intro a b _ _ h1 h2; omega
  · exact p1.imp (fun h => by simpa using h)
  · exact h.imp (fun h => by omega)
theorem l7v_srt {a b : List Int} (hb : b.Nodup) : l7v a b = decide (srt a = srt b) := by
  rw [Bool.eq_iff_iff, decide_eq_true_eq, l7v_perm hb, srt_perm]
theorem count_take1 {xs : List Int} {j : Nat} {x y : Int} (hj : xs[j]? = some x) : (xs.take (j + 1)).count y = (xs.take j).count y + if x = y then 1 else 0 := by
  rw [List.take_add_one, hj, List.count_append]
  simp [List.count_cons]
set_option maxHeartbeats 2000000 in
theorem l7Same_c (a b : List Int) (S S' : Nat → Prop) (A B : Option Addr) (c d : Nat) (w : World) (hx : Ints S w A a) (hy : Ints S' w B b) (hn : a.length ≤ 1048576) (hm : b.length ≤ 1048576) :
    Calls Tryd.prog 45 #[.slice A a.length c, .slice B b.length d] w fun e w' => e = .returned (.bool (l7v a b)) ∧ Ext w w' := by
  have hv : l7v a b = (b.all (fun x => decide (a.count x = 1)) && decide (a.length = b.length)) := rfl
  generalize l7v a b = r at hv ⊢
  have HV := Lib.hid hv
  clear hv
  go_enter Tryd.func45, Tryd.ntmps45
  go_wp2
  go_loopw [5] (fun i wr => ∃ k : Nat, k ≤ b.length ∧ i = .int .i64 k ∧ (∀ x ∈ b.take k, a.count x = 1) ∧ Ext w wr) (fun i _ => b.length - (intOf i).toNat)
  case atStart => exact ⟨0, Nat.zero_le _, rfl, (fun x h => by simp at h), Below.refl _ _⟩
  case round =>
    obtain ⟨k, hk, rfl, hal, hE⟩ := hrel
    have HA := Lib.hid hal
    have HE := Lib.hid hE
    clear hal
    by_cases hlt : k < b.length
    · obtain ⟨y, b', off', hyk, rfl, _, hb0', d0⟩ := (hy.ext hE).at_ hlt
      have HY := Lib.hid hyk
      have hki : (k : Int) < b.length := by omega
      clear hyk hE
      obtain ⟨wo, rfl⟩ : ∃ wo : World, wo = wr := ⟨_, rfl⟩
      go_wp2
      go_loopw [6, 7] (fun q i W => ∃ j : Nat, j ≤ a.length ∧ i = .int .i64 j ∧ q = .int .i64 ((a.take j).count y : Nat) ∧ Ext wo W) (fun _ i _ => a.length - (intOf i).toNat)
      case atStart => exact ⟨0, Nat.zero_le _, rfl, by simp, Below.refl _ _⟩
      case round =>
        obtain ⟨j, hj, rfl, rfl, hEi⟩ := hrel
        have HEi := Lib.hid hEi
        have hcl : (a.take j).count y ≤ j := Nat.le_trans (List.count_le_length) (by simp; omega)
        have d1 := hEi.keep hb0' d0
        by_cases hlj : j < a.length
        · obtain ⟨x, b2, off2, hxk, rfl, _, hb2, c0⟩ := (hx.ext (HE.out.tr hEi)).at_ hlj
          have hct := count_take1 (y := y) hxk
          have hji : (j : Int) < a.length := by omega
          clear hxk hEi
          by_cases he : x = y
          · subst he
            have e2 : (x == x) = true := by simp
            rw [if_pos rfl] at hct
            have HCt := Lib.hid hct
            clear hct
            go_wp2
            go_quiet (fail)
            go_wp2
            go_roundw
            case rel => exact ⟨j + 1, by omega, by go_num, by rw [HCt.out]; go_num, below_drewN HEi.out _⟩
            case measure => simp [intOf]; omega
          · have e2 : (x == y) = false := by simpa using he
            rw [if_neg he] at hct
            have HCt := Lib.hid hct
            clear hct he
            go_wp2
            go_quiet (fail)
            go_wp2
            go_roundw
            case rel => exact ⟨j + 1, by omega, by go_num, by rw [HCt.out]; go_num, below_drewN HEi.out _⟩
            case measure => simp [intOf]; omega
        · obtain rfl : j = a.length := by omega
          rw [List.take_length] at hcl ⊢
          clear hEi
          by_cases h1 : a.count y = 1
          · have e3 : (((a.count y : Nat) : Int) != 1) = false := by simp; omega
            have hst : ∀ x ∈ b.take (k + 1), a.count x = 1 := fun x hx => by
              rw [List.take_add_one, HY.out] at hx
              rcases List.mem_append.1 hx with hx | hx
              · exact HA.out x hx
              · simp at hx
                subst hx
                exact h1
            have HSt := Lib.hid hst
            clear hst h1
            go_wp2
            exact ⟨⟨k + 1, by omega, by go_num, HSt.out, HE.out.tr HEi.out⟩, by simp [intOf]; omega⟩
          · have e3 : (((a.count y : Nat) : Int) != 1) = true := by simp; omega
            have hr : r = false := by
              rw [HV.out, Bool.and_eq_false_iff]
              left
              rw [List.all_eq_false]
              exact ⟨y, List.mem_of_getElem? HY.out, by simpa using h1⟩
            have HR := Lib.hid hr
            clear hr h1
            go_wp2
            go_ret
            exact ⟨ret_bool HR.out.symm, HE.out.tr HEi.out⟩
    · obtain rfl : k = b.length := by omega
      have hall : b.all (fun x => decide (a.count x = 1)) = true := by
        rw [List.all_eq_true]
        intro x hx
        have := HA.out x (by rw [List.take_length]; exact hx)
        simpa using this
      have hr : r = decide (a.length = b.length) := by rw [HV.out, hall, Bool.true_and]
      have HR := Lib.hid hr
      clear hr hall hE
      go_wp2
      go_ret
      exact ⟨ret_bool (by rw [HR.out]; rw [Bool.eq_iff_iff]; simp; try omega), HE.out⟩
end Go.Proofs.YtdgfipoibnjhaaaDoor
