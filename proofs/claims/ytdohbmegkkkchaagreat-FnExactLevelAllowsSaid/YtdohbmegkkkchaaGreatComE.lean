/-
  Edges of one's own, sorted, each once; slices.Compact where no two neighbours are alike; slices.Clip.
-/
import Derived.Test.YtdohbmegkkkchaaGreatSortE
import Derived.BigQuiet
namespace Go.Proofs.YtdohbmegkkkchaaGreat
set_option linter.unusedSimpArgs false
set_option linter.unusedVariables false
set_option maxRecDepth 100000
open Go.RowKit

theorem eqEd_run (a b c a' b' c' : Int) (w : World) : (binOp .eql 51 (.agg #[.int .i64 a, .int .i64 b, .int .i64 c]) (.agg #[.int .i64 a', .int .i64 b', .int .i64 c'])).run Tryz.prog w = .ok (.bool (decide ((⟨a, b, c⟩ : T3) = ⟨a', b', c'⟩))) w := by
  have u3 := Tryz.underlying3
  have hS : Tryz.prog.underlying 51 = some (.struct (Tryz.prog.fieldsOf 51)) := by kernel_rfl
  have hp : Tryz.prog.stoodInHeld 51 = false := by kernel_rfl
  rw [run_eql_struct, show (10000 : Nat) = 9999 + 1 from rfl, run_equalIn_agg w 9999 51 _ _ hS hp]
  simp only [Program.fieldsOf, Tryz.underlying51]
  go_simp
  by_cases h1 : a = a' <;> by_cases h2 : b = b' <;> by_cases h3 : c = c' <;> simp [h1, h2, h3]
theorem eqEd_guard : Tryz.prog.eqGuardType Tryz.prog.depth 51 = false := by kernel_rfl

set_option maxHeartbeats 2000000 in
/-- no two neighbours alike: the slice as it is -/
theorem compact_c (xs : List T3) (S : Nat → Prop) (A : Option Addr) (c : Nat) (w : World) (hx : Ops S w A xs) (hl : xs.length ≤ 1048576) (hne : ∀ k, k + 1 < xs.length → xs[k]? ≠ xs[k + 1]?) :
    Calls Tryz.prog 72 #[.slice A xs.length c] w fun e w' => e = .returned (.slice A xs.length c) ∧ Ext w w' := by
  have heq := eqEd_run
  have hgd := eqEd_guard
  have HN := Lib.hid hne
  clear hne
  go_enter Tryz.func72, Tryz.ntmps72
  by_cases h2 : xs.length < 2
  · go_wp2
    go_ret
    exact ⟨rfl, by (repeat' (first | (with_reducible exact Below.refl _ _) | (with_reducible refine Below.mono (by assumption) ?_) | (with_reducible refine Below.trans ?_ (Below.mono (by assumption) ?_)) | (with_reducible refine Below.alloc ?_ ?_ _) | (with_reducible refine Below.drew ?_) | (with_reducible refine below_drewN ?_ _) | (with_reducible refine Below.setCell ?_ ?_ _) | (simp only [World.size_alloc, World.size_setCell, World.size_drew, size_drewN]; omega) | omega))⟩
  go_wp2
  go_loopw [3] (fun i wr => ∃ k : Nat, 1 ≤ k ∧ k ≤ xs.length ∧ i = .int .i64 k ∧ Ext w wr) (fun i _ => xs.length - (intOf i).toNat)
  case atStart => exact ⟨1, Nat.le_refl _, by omega, rfl, by (repeat' (first | (with_reducible exact Below.refl _ _) | (with_reducible refine Below.mono (by assumption) ?_) | (with_reducible refine Below.trans ?_ (Below.mono (by assumption) ?_)) | (with_reducible refine Below.alloc ?_ ?_ _) | (with_reducible refine Below.drew ?_) | (with_reducible refine below_drewN ?_ _) | (with_reducible refine Below.setCell ?_ ?_ _) | (simp only [World.size_alloc, World.size_setCell, World.size_drew, size_drewN]; omega) | omega))⟩
  case round =>
    obtain ⟨k, hk1, hk, rfl, hE⟩ := hrel
    by_cases hlt : k < xs.length
    · obtain ⟨k, rfl⟩ : ∃ m, k = m + 1 := ⟨k - 1, by omega⟩
      obtain ⟨x0, x1, x2, b, off, hxk, rfl, _, hb0, c0, c1, c2⟩ := (hx.ext hE).at_ hlt
      obtain ⟨y0, y1, y2, b', off', hyk, he', _, hb0', d0, d1, d2⟩ := (hx.ext hE).at_ (i := k) (by omega)
      simp only [Option.some.injEq, Addr.mk.injEq] at he'
      obtain ⟨rfl, rfl, _⟩ := he'
      have hd : decide ((⟨x0, x1, x2⟩ : T3) = ⟨y0, y1, y2⟩) = false := by
        rw [decide_eq_false_iff_not]
        intro e
        have := HN.out k hlt
        rw [hyk, hxk, e] at this
        exact this rfl
      have hd2 : (x0 = y0 ∧ x1 = y1 ∧ x2 = y2) = False := by
        simp only [decide_eq_false_iff_not, T3.mk.injEq] at hd
        simpa using hd
      have hsub : ((k + 1 : Nat) : Int) - 1 = (k : Int) := by omega
      have hi : ((k + 1 : Nat) : Int) = (k : Int) + 1 := by omega
      clear hxk hyk
      go_upto_region 6 with (fail)
      go_quiet (fail)
      go_wp2
      exact ⟨⟨k + 2, by omega, by omega, by go_num, hE.tr (by (repeat' (first | (with_reducible exact Below.refl _ _) | (with_reducible refine Below.mono (by assumption) ?_) | (with_reducible refine Below.trans ?_ (Below.mono (by assumption) ?_)) | (with_reducible refine Below.alloc ?_ ?_ _) | (with_reducible refine Below.drew ?_) | (with_reducible refine below_drewN ?_ _) | (with_reducible refine Below.setCell ?_ ?_ _) | (simp only [World.size_alloc, World.size_setCell, World.size_drew, size_drewN]; omega) | omega)))⟩, by simp [intOf]; omega⟩
    · obtain rfl : k = xs.length := by omega
      go_wp2
      go_ret
      exact ⟨rfl, hE.tr (by (repeat' (first | (with_reducible exact Below.refl _ _) | (with_reducible refine Below.mono (by assumption) ?_) | (with_reducible refine Below.trans ?_ (Below.mono (by assumption) ?_)) | (with_reducible refine Below.alloc ?_ ?_ _) | (with_reducible refine Below.drew ?_) | (with_reducible refine below_drewN ?_ _) | (with_reducible refine Below.setCell ?_ ?_ _) | (simp only [World.size_alloc, World.size_setCell, World.size_drew, size_drewN]; omega) | omega)))⟩
theorem clipE_c (A : Option Addr) (n c : Nat) (w : World) (h : n ≤ c) : Calls Tryz.prog 71 #[.slice A n c] w fun e w' => e = .returned (.slice A n n) ∧ w = w' := by
  go_enter Tryz.func71, Tryz.ntmps71
  go_wp2
  go_ret
  exact ⟨rfl, rfl⟩
theorem pw_ltE {ys : List T3} (hn : ys.Nodup) (hp : ys.Pairwise (fun x y => ¬ ltE y x)) : ys.Pairwise ltE := by
  refine (List.pairwise_and_iff.2 ⟨hn, hp⟩).imp ?_
  rintro ⟨a, b, c⟩ ⟨a', b', c'⟩ ⟨h1, h2⟩
  simp only [ne_eq, T3.mk.injEq] at h1
  unfold ltE at *
  simp only at *
  omega
/-- a call's own edges, sorted, none twice -/
def SortedE (xs : List T3) (base : Nat) (w : World) (e : Ending) (w' : World) : Prop :=
  ∃ ys A c, ys.Perm xs ∧ ys.Pairwise ltE ∧ e = .returned (.slice A ys.length c) ∧ Ops (fun b => base ≤ b) w' A ys ∧ (∀ a, A = some a → base ≤ a.block ∧ a.block < w'.heap.size ∧ ∀ o, w'.frozen? ⟨a.block, o, none⟩ = false) ∧ Below base w w'
set_option maxHeartbeats 2000000 in
theorem sortedE_c (xs : List T3) (base : Nat) (v : Value) (w : World) (h : Own3 w base 51 v xs) (hv : ∃ g, v.ownBlock = some g) (hb0 : base ≤ w.heap.size) (hl : xs.length ≤ 1048576) (hn : xs.Nodup) :
    Calls Tryz.prog 41 #[v] w (SortedE xs base w) := by
  have CF := fun w h hb => sortFunc_c xs base v w h hv hb hl
  have CF := Lib.hid CF
  go_enter Tryz.func41, Tryz.ntmps41
  go_wp2_with (fail)
  go_at_call 69
  refine (CF.out _ (h.ext (by (repeat' (first | (with_reducible exact Below.refl _ _) | (with_reducible refine Below.mono (by assumption) ?_) | (with_reducible refine Below.trans ?_ (Below.mono (by assumption) ?_)) | (with_reducible refine Below.alloc ?_ ?_ _) | (with_reducible refine Below.drew ?_) | (with_reducible refine below_drewN ?_ _) | (with_reducible refine Below.setCell ?_ ?_ _) | (simp only [World.size_alloc, World.size_setCell, World.size_drew, size_drewN]; omega) | omega)))) (by first | omega | (simp; omega))).mono ?_
  rintro e w1 ⟨rfl, ys, hp, hpw, hO, hB⟩
  have hny : ys.Nodup := hp.nodup_iff.2 hn
  have hlt := pw_ltE hny hpw
  have hly := hp.length_eq
  obtain ⟨A, c, rfl, hA, hfz⟩ := hO.form
  obtain ⟨A2, c2, he2, hle, _⟩ := hO.cut
  simp only [Value.slice.injEq] at he2
  obtain ⟨rfl, _, rfl⟩ := he2
  have hsz := hB.size
  try simp only [World.size_alloc, World.size_drew, size_drewN] at hsz
  have HP := Lib.hid hp
  have HL := Lib.hid hlt
  have HA := Lib.hid hA
  have HFz := Lib.hid hfz
  have HB := Lib.hid (show Below base w w1 from by first | exact hB | exact Below.trans (by (repeat' (first | (with_reducible exact Below.refl _ _) | (with_reducible refine Below.mono (by assumption) ?_) | (with_reducible refine Below.trans ?_ (Below.mono (by assumption) ?_)) | (with_reducible refine Below.alloc ?_ ?_ _) | (with_reducible refine Below.drew ?_) | (with_reducible refine below_drewN ?_ _) | (with_reducible refine Below.setCell ?_ ?_ _) | (simp only [World.size_alloc, World.size_setCell, World.size_drew, size_drewN]; omega) | omega))) hB)
  have hne : ∀ k, k + 1 < ys.length → ys[k]? ≠ ys[k + 1]? := by
    intro k hk he
    have h1 := List.getElem?_eq_getElem (l := ys) (i := k) (by omega)
    have h2 := List.getElem?_eq_getElem hk
    rw [h1, h2] at he
    have h3 := (List.pairwise_iff_getElem.1 hny) k (k + 1) (by omega) hk (by omega)
    exact h3 (by simpa using he)
  have CC := fun w hx => compact_c ys (fun b => base ≤ b) A c w hx (by omega) hne
  have CC := Lib.hid CC
  have hly2 : ys.length ≤ 1048576 := by omega
  clear hly hne hp hpw hny hlt hA hfz hB hO hn h CF
  go_wp2_with (fail)
  go_at_call 72
  refine (CC.out _ (HA.out.ext (by (repeat' (first | (with_reducible exact Below.refl _ _) | (with_reducible refine Below.mono (by assumption) ?_) | (with_reducible refine Below.trans ?_ (Below.mono (by assumption) ?_)) | (with_reducible refine Below.alloc ?_ ?_ _) | (with_reducible refine Below.drew ?_) | (with_reducible refine below_drewN ?_ _) | (with_reducible refine Below.setCell ?_ ?_ _) | (simp only [World.size_alloc, World.size_setCell, World.size_drew, size_drewN]; omega) | omega))))).mono ?_
  rintro e w2 ⟨rfl, hb⟩
  obtain ⟨hc, hf, hz, hs⟩ := bcell hb
  (try simp only [World.size_alloc, World.size_setCell, World.size_drew, size_drewN] at hs); (first | have l0 := Nat.lt_of_lt_of_le l0 (show _ ≤ w2.heap.size by omega) | have l0 : w.heap.size < w2.heap.size := (by omega) | skip); (try have l0e := Nat.le_of_lt l0); (try have l0f := Nat.le_add_right_of_le (k := 1) l0e); (try have l1 := Nat.lt_of_lt_of_le l1 (show _ ≤ w2.heap.size by omega)); (try have l1e := Nat.le_of_lt l1); (try have l1f := Nat.le_add_right_of_le (k := 1) l1e); (try have l2 := Nat.lt_of_lt_of_le l2 (show _ ≤ w2.heap.size by omega)); (try have l2e := Nat.le_of_lt l2); (try have l2f := Nat.le_add_right_of_le (k := 1) l2e); (try have l3 := Nat.lt_of_lt_of_le l3 (show _ ≤ w2.heap.size by omega)); (try have l3e := Nat.le_of_lt l3); (try have l3f := Nat.le_add_right_of_le (k := 1) l3e)
  have HE := Lib.hid hb
  clear hb
  go_wp2_with (fail)
  go_at_call 71
  refine (clipE_c _ _ _ _ hle).mono ?_
  rintro e w3 ⟨rfl, rfl⟩
  go_wp2
  go_ret
  refine ⟨ys, A, ys.length, HP.out, HL.out, rfl, HA.out.ext (by have := HE.out; (repeat' (first | (with_reducible exact Below.refl _ _) | (with_reducible refine Below.mono (by assumption) ?_) | (with_reducible refine Below.trans ?_ (Below.mono (by assumption) ?_)) | (with_reducible refine Below.alloc ?_ ?_ _) | (with_reducible refine Below.drew ?_) | (with_reducible refine below_drewN ?_ _) | (with_reducible refine Below.setCell ?_ ?_ _) | (simp only [World.size_alloc, World.size_setCell, World.size_drew, size_drewN]; omega) | omega))), ?_, ?_⟩
  · intro a ha
    have h1 := HFz.out a ha
    have hE := HE.out
    exact ⟨h1.1, by omega, fun o => by rw [hE.frozen (p := ⟨a.block, o, none⟩) h1.2.1]; exact h1.2.2 o⟩
  · exact HB.out.trans (HE.out.mono (by omega))
end Go.Proofs.YtdohbmegkkkchaaGreat
