/-
  The program's order of edges: a strict weak order; its walk.
-/
import Derived.Test.YtdohbmegkkkchaaGreatOwn
import Derived.Deep.RegionHeld3
import Derived.Sort.Grow
import Derived.Shelf.SlSortCmp.WholeK
namespace Go.Proofs.YtdohbmegkkkchaaGreat
set_option linter.unusedSimpArgs false
set_option linter.unusedVariables false
set_option maxRecDepth 100000
open Go.RowKit Go.Shelf Go.Sort

def cmpI (x y : Int) : Int := if x < y then -1 else if y < x then 1 else 0
def firstNZ (x y z : Int) : Int := if x ≠ 0 then x else if y ≠ 0 then y else z
def cfE (x y : T3) : Int := firstNZ (cmpI x.a y.a) (cmpI x.b y.b) (cmpI x.c y.c)
/-- earlier in the order -/
def ltE (x y : T3) : Prop := x.a < y.a ∨ (x.a = y.a ∧ (x.b < y.b ∨ (x.b = y.b ∧ x.c < y.c)))
theorem cfE_lt (x y : T3) : cfE x y < 0 ↔ ltE x y := by
  unfold cfE firstNZ cmpI ltE
  rcases Int.lt_trichotomy x.a y.a with h1 | h1 | h1 <;> rcases Int.lt_trichotomy x.b y.b with h2 | h2 | h2 <;> rcases Int.lt_trichotomy x.c y.c with h3 | h3 | h3 <;> simp [h1, h2, h3] <;> omega
theorem swoE : SWO (ltOf cfE) where
  irrefl x := by simp only [ltOf, decide_eq_false_iff_not, cfE_lt]; unfold ltE; omega
  trans x y z h1 h2 := by simp only [ltOf, decide_eq_true_eq, cfE_lt] at *; unfold ltE at *; omega
  ntrans x y z h1 h2 := by simp only [ltOf, decide_eq_false_iff_not, cfE_lt] at *; unfold ltE at *; omega
/-- an edge's three cells -/
def encE (x : T3) : List Value := [.int .i64 x.a, .int .i64 x.b, .int .i64 x.c]
set_option maxHeartbeats 1000000 in
theorem isNaN_c (x : Int) (w : World) : Calls Tryz.prog 135 #[.int .i64 x] w fun e w' => e = .returned (.bool false) ∧ w = w' := by
  have hx : (x != x) = false := by simp
  go_enter Tryz.func135, Tryz.ntmps135
  go_wp2
  go_ret
  exact ⟨rfl, rfl⟩
set_option maxHeartbeats 1000000 in
theorem cmpInt_c (x y : Int) (w : World) : Calls Tryz.prog 105 #[.int .i64 x, .int .i64 y] w fun e w' => e = .returned (.int .i64 (cmpI x y)) ∧ w = w' := by
  have hr : cmpI x y = if x < y then -1 else if y < x then 1 else 0 := rfl
  rcases Int.lt_trichotomy x y with h | h | h
  · have hr2 : cmpI x y = -1 := by rw [hr, if_pos h]
    rw [hr2]
    clear hr hr2
    go_enter Tryz.func105, Tryz.ntmps105
    go_wp2_with (go_at_call 135; refine (isNaN_c _ _).mono ?_; rintro e w' ⟨rfl, rfl⟩)
    go_ret
    exact ⟨rfl, rfl⟩
  · subst h
    have hr2 : cmpI x x = 0 := by rw [hr, if_neg (by omega), if_neg (by omega)]
    rw [hr2]
    clear hr hr2
    go_enter Tryz.func105, Tryz.ntmps105
    go_wp2_with (go_at_call 135; refine (isNaN_c _ _).mono ?_; rintro e w' ⟨rfl, rfl⟩)
    go_ret
    exact ⟨rfl, rfl⟩
  · have hr2 : cmpI x y = 1 := by rw [hr, if_neg (by omega), if_pos h]
    have hn : ¬ x < y := by omega
    rw [hr2]
    clear hr hr2
    go_enter Tryz.func105, Tryz.ntmps105
    go_wp2_with (go_at_call 135; refine (isNaN_c _ _).mono ?_; rintro e w' ⟨rfl, rfl⟩)
    go_ret
    exact ⟨rfl, rfl⟩
set_option maxHeartbeats 1000000 in
theorem or3_c (x y z : Int) (g : Nat) (w : World) (c0 : w.cell? ⟨g, 0, none⟩ = some (.int .i64 x)) (c1 : w.cell? ⟨g, 1, none⟩ = some (.int .i64 y)) (c2 : w.cell? ⟨g, 2, none⟩ = some (.int .i64 z)) :
    Calls Tryz.prog 104 #[.slice (some ⟨g, 0, none⟩) 3 3] w fun e w' => e = .returned (.int .i64 (firstNZ x y z)) ∧ w = w' := by
  have hr : firstNZ x y z = if x ≠ 0 then x else if y ≠ 0 then y else z := rfl
  by_cases hx : x = 0
  · subst hx
    by_cases hy : y = 0
    · subst hy
      have hr2 : firstNZ 0 0 z = z := by rw [hr]; simp
      rw [hr2]
      clear hr hr2
      have e0 : ((0 : Int) != 0) = false := rfl
      by_cases hz : z = 0
      · subst hz
        go_enter Tryz.func104, Tryz.ntmps104
        go_wp2
        refine wp_loop_rounds 4 ?_
        rw [rounds_succ]
        go_wp2
        rw [rounds_succ]
        go_wp2
        rw [rounds_succ]
        go_wp2
        rw [rounds_succ]
        go_wp2
        go_ret
        exact ⟨rfl, rfl⟩
      · have e1 : (z != 0) = true := by simpa using hz
        go_enter Tryz.func104, Tryz.ntmps104
        go_wp2
        refine wp_loop_rounds 4 ?_
        rw [rounds_succ]
        go_wp2
        rw [rounds_succ]
        go_wp2
        rw [rounds_succ]
        go_wp2
        go_ret
        exact ⟨rfl, rfl⟩
    · have e1 : (y != 0) = true := by simpa using hy
      have e0 : ((0 : Int) != 0) = false := rfl
      have hr2 : firstNZ 0 y z = y := by rw [hr]; simp [hy]
      rw [hr2]
      clear hr hr2
      go_enter Tryz.func104, Tryz.ntmps104
      go_wp2
      refine wp_loop_rounds 4 ?_
      rw [rounds_succ]
      go_wp2
      rw [rounds_succ]
      go_wp2
      go_ret
      exact ⟨rfl, rfl⟩
  · have e1 : (x != 0) = true := by simpa using hx
    have hr2 : firstNZ x y z = x := by rw [hr]; simp [hx]
    rw [hr2]
    clear hr hr2
    go_enter Tryz.func104, Tryz.ntmps104
    go_wp2
    refine wp_loop_rounds 4 ?_
    rw [rounds_succ]
    go_wp2
    go_ret
    exact ⟨rfl, rfl⟩
set_option maxHeartbeats 4000000 in
theorem compare_c (x y : T3) (W : World) : Calls Tryz.prog 70 #[.agg #[.int .i64 x.a, .int .i64 x.b, .int .i64 x.c], .agg #[.int .i64 y.a, .int .i64 y.b, .int .i64 y.c]] W fun e w' => e = .returned (.int .i64 (cfE x y)) ∧ ∃ q os', w' = grow (W.drewN q) os' := by
  obtain ⟨x0, x1, x2⟩ := x
  obtain ⟨y0, y1, y2⟩ := y
  have CO := Lib.hid (fun g w c0 c1 c2 => or3_c (cmpI x0 y0) (cmpI x1 y1) (cmpI x2 y2) g w c0 c1 c2)
  have C0 := Lib.hid (fun w => cmpInt_c x0 y0 w)
  have C1 := Lib.hid (fun w => cmpInt_c x1 y1 w)
  have C2 := Lib.hid (fun w => cmpInt_c x2 y2 w)
  show Calls Tryz.prog 70 #[.agg #[.int .i64 x0, .int .i64 x1, .int .i64 x2], .agg #[.int .i64 y0, .int .i64 y1, .int .i64 y2]] W fun e w' => e = .returned (.int .i64 (firstNZ (cmpI x0 y0) (cmpI x1 y1) (cmpI x2 y2))) ∧ ∃ q os', w' = grow (W.drewN q) os'
  generalize cmpI x0 y0 = r0 at CO C0 ⊢
  generalize cmpI x1 y1 = r1 at CO C1 ⊢
  generalize cmpI x2 y2 = r2 at CO C2 ⊢
  generalize firstNZ r0 r1 r2 = R at CO ⊢
  go_enter Tryz.func70, Tryz.ntmps70
  go_wp2
  have hb0 := Blk.alloc (Blk.new W 51 #[.int .i64 x0, .int .i64 x1, .int .i64 x2]) (.cells #[.int .i64 y0, .int .i64 y1, .int .i64 y2] 51)
  have hb1 := Blk.new (W.alloc (.cells #[.int .i64 x0, .int .i64 x1, .int .i64 x2] 51)) 51 #[.int .i64 y0, .int .i64 y1, .int .i64 y2]
  rw [World.size_alloc] at hb1
  have a0 := hb0.cell 0
  have a1 := hb0.cell 1
  have a2 := hb0.cell 2
  have b0 := hb1.cell 0
  have b1 := hb1.cell 1
  have b2 := hb1.cell 2
  have hl0 := hb0.lt
  have hl1 := hb1.lt
  clear hb0 hb1
  obtain ⟨V, hV⟩ : ∃ V, (W.alloc (.cells #[.int .i64 x0, .int .i64 x1, .int .i64 x2] 51)).alloc (.cells #[.int .i64 y0, .int .i64 y1, .int .i64 y2] 51) = V := ⟨_, rfl⟩
  rw [hV] at a0 a1 a2 b0 b1 b2 hl0 hl1 ⊢
  have HV := Lib.hid hV
  clear hV
  have a0 : V.cell? ⟨W.heap.size, 0, none⟩ = some (.int .i64 x0) := a0
  have a1 : V.cell? ⟨W.heap.size, 1, none⟩ = some (.int .i64 x1) := a1
  have a2 : V.cell? ⟨W.heap.size, 2, none⟩ = some (.int .i64 x2) := a2
  have b0 : V.cell? ⟨W.heap.size + 1, 0, none⟩ = some (.int .i64 y0) := b0
  have b1 : V.cell? ⟨W.heap.size + 1, 1, none⟩ = some (.int .i64 y1) := b1
  have b2 : V.cell? ⟨W.heap.size + 1, 2, none⟩ = some (.int .i64 y2) := b2
  go_region_held3 (fun U => U.cell? ⟨W.heap.size, 0, none⟩ = some (.int .i64 x0) ∧ U.cell? ⟨W.heap.size, 1, none⟩ = some (.int .i64 x1) ∧ U.cell? ⟨W.heap.size, 2, none⟩ = some (.int .i64 x2) ∧ U.cell? ⟨W.heap.size + 1, 0, none⟩ = some (.int .i64 y0) ∧ U.cell? ⟨W.heap.size + 1, 1, none⟩ = some (.int .i64 y1) ∧ U.cell? ⟨W.heap.size + 1, 2, none⟩ = some (.int .i64 y2)) (go_keep)
    (first
      | (go_at_call 105; first | ((with_reducible refine (C0.out _).mono ?_); rintro e w' ⟨rfl, rfl⟩) | ((with_reducible refine (C1.out _).mono ?_); rintro e w' ⟨rfl, rfl⟩) | ((with_reducible refine (C2.out _).mono ?_); rintro e w' ⟨rfl, rfl⟩))
      | (go_at_call 104; refine (CO.out V.heap.size _ (by go_simp) (by go_simp) (by go_simp)).mono ?_; rintro e w' ⟨rfl, rfl⟩))
  all_goals go_wp2
  all_goals go_ret
  all_goals exact ⟨rfl, 1, _, by rw [← HV.out, alloc_eq_grow, alloc_eq_grow, alloc_eq_grow, grow_grow, grow_grow]; rfl⟩
end Go.Proofs.YtdohbmegkkkchaaGreat
