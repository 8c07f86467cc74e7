/-
  Edges of one's own, sorted, each once; slices.Compact where no two neighbours are alike; slices.Clip.
-/
import Derived.Test.YtmbdacfgmiielaaGreatDoorGOwn3
import Derived.Deep.RegionHeld3
import Derived.Sort.Grow
import Derived.Shelf.SlSortCmp.WholeK
import Derived.BigQuiet
/-
  The program's order of edges: a strict weak order; its walk.
-/
namespace Go.Proofs.YtmbdacfgmiielaaGreatDoor
set_option linter.unusedSimpArgs false
set_option linter.unusedVariables false
set_option maxRecDepth 100000
open Go.RowKit Go.Shelf Go.Sort

def cmpI (x y : Int) : Int := if x < y then -1 else if y < x then 1 else 0
def firstNZ (x y z : Int) : Int := if x ≠ 0 then x else if y ≠ 0 then y else z
def cfE (x y : T3) : Int := firstNZ (cmpI x.a y.a) (cmpI x.b y.b) (cmpI x.c y.c)
/-- earlier in the order -/
def ltE (x y : T3) : Prop := x.a < y.a ∨ (x.a = y.a ∧ (x.b < y.b ∨ (x.b = y.b ∧ x.c < y.c)))
theorem cfE_lt (x y : T3) : cfE x y < 0 ↔ ltE x y := by
  unfold cfE firstNZ cmpI ltE
  rcases Int.lt_trichotomy x.a y.a with h1 | h1 | h1 <;> rcases Int.lt_trichotomy x.b y.b with h2 | h2 | h2 <;> rcases Int.lt_trichotomy x.c y.c with h3 | h3 | h3 <;> simp [h1, h2, h3] <;> omega
theorem swoE : SWO (ltOf cfE) where
  irrefl x := by simp only [ltOf, decide_eq_false_iff_not, cfE_lt]; unfold ltE; omega
  trans x y z h1 h2 := by simp only [ltOf, decide_eq_true_eq, cfE_lt] at *; unfold ltE at *; omega
  ntrans x y z h1 h2 := by simp only [ltOf, decide_eq_false_iff_not, cfE_lt] at *; unfold ltE at *; omega
/-- an edge's three cells -/
def encE (x : T3) : List Value := [.int .i64 x.a, .int .i64 x.b, .int .i64 x.c]
set_option maxHeartbeats 1000000 in
theorem isNaN_c (x : Int) (w : World) : Calls Tryz.prog 118 #[.int .i64 x] w fun e w' => e = .returned (.bool false) ∧ w = w' := by
  have hx : (x != x) = false := by simp
  go_enter Tryz.func118, Tryz.ntmps118
  go_wp2
  go_ret
  exact ⟨rfl, rfl⟩
set_option maxHeartbeats 1000000 in
theorem cmpInt_c (x y : Int) (w : World) : Calls Tryz.prog 89 #[.int .i64 x, .int .i64 y] w fun e w' => e = .returned (.int .i64 (cmpI x y)) ∧ w = w' := by
  have hr : cmpI x y = if x < y then -1 else if y < x then 1 else 0 := rfl
  rcases Int.lt_trichotomy x y with h | h | h
  · have hr2 : cmpI x y = -1 := by rw [hr, if_pos h]
    rw [hr2]
    clear hr hr2
    go_enter Tryz.func89, Tryz.ntmps89
    go_wp2_with (go_at_call 118; refine (isNaN_c _ _).mono ?_; rintro e w' ⟨rfl, rfl⟩)
    go_ret
    exact ⟨rfl, rfl⟩
  · subst h
    have hr2 : cmpI x x = 0 := by rw [hr, if_neg (by omega), if_neg (by omega)]
    rw [hr2]
    clear hr hr2
    go_enter Tryz.func89, Tryz.ntmps89
    go_wp2_with (go_at_call 118; refine (isNaN_c _ _).mono ?_; rintro e w' ⟨rfl, rfl⟩)
    go_ret
    exact ⟨rfl, rfl⟩
  · have hr2 : cmpI x y = 1 := by rw [hr, if_neg (by omega), if_pos h]
    have hn : ¬ x < y := by omega
    rw [hr2]
    clear hr hr2
    go_enter Tryz.func89, Tryz.ntmps89
    go_wp2_with (go_at_call 118; refine (isNaN_c _ _).mono ?_; rintro e w' ⟨rfl, rfl⟩)
    go_ret
    exact ⟨rfl, rfl⟩
set_option maxHeartbeats 1000000 in
theorem or3_c (x y z : Int) (g : Nat) (w : World) (c0 : w.cell? ⟨g, 0, none⟩ = some (.int .i64 x)) (c1 : w.cell? ⟨g, 1, none⟩ = some (.int .i64 y)) (c2 : w.cell? ⟨g, 2, none⟩ = some (.int .i64 z)) :
    Calls Tryz.prog 88 #[.slice (some ⟨g, 0, none⟩) 3 3] w fun e w' => e = .returned (.int .i64 (firstNZ x y z)) ∧ w = w' := by
  have hr : firstNZ x y z = if x ≠ 0 then x else if y ≠ 0 then y else z := rfl
  by_cases hx : x = 0
  · subst hx
    by_cases hy : y = 0
    · subst hy
      have hr2 : firstNZ 0 0 z = z := by rw [hr]; simp
      rw [hr2]
      clear hr hr2
      have e0 : ((0 : Int) != 0) = false := rfl
      by_cases hz : z = 0
      · subst hz
        go_enter Tryz.func88, Tryz.ntmps88
        go_wp2
        refine wp_loop_rounds 4 ?_
        rw [rounds_succ]
        go_wp2
        rw [rounds_succ]
        go_wp2
        rw [rounds_succ]
        go_wp2
        rw [rounds_succ]
        go_wp2
        go_ret
        exact ⟨rfl, rfl⟩
      · have e1 : (z != 0) = true := by simpa using hz
        go_enter Tryz.func88, Tryz.ntmps88
        go_wp2
        refine wp_loop_rounds 4 ?_
        rw [rounds_succ]
        go_wp2
        rw [rounds_succ]
        go_wp2
        rw [rounds_succ]
        go_wp2
        go_ret
        exact ⟨rfl, rfl⟩
    · have e1 : (y != 0) = true := by simpa using hy
      have e0 : ((0 : Int) != 0) = false := rfl
      have hr2 : firstNZ 0 y z = y := by rw [hr]; simp [hy]
      rw [hr2]
      clear hr hr2
      go_enter Tryz.func88, Tryz.ntmps88
      go_wp2
      refine wp_loop_rounds 4 ?_
      rw [rounds_succ]
      go_wp2
      rw [rounds_succ]
      go_wp2
      go_ret
      exact ⟨rfl, rfl⟩
  · have e1 : (x != 0) = true := by simpa using hx
    have hr2 : firstNZ x y z = x := by rw [hr]; simp [hx]
    rw [hr2]
    clear hr hr2
    go_enter Tryz.func88, Tryz.ntmps88
    go_wp2
    refine wp_loop_rounds 4 ?_
    rw [rounds_succ]
    go_wp2
    go_ret
    exact ⟨rfl, rfl⟩
set_option maxHeartbeats 4000000 in
theorem compare_c (x y : T3) (W : World) : Calls Tryz.prog 57 #[.agg #[.int .i64 x.a, .int .i64 x.b, .int .i64 x.c], .agg #[.int .i64 y.a, .int .i64 y.b, .int .i64 y.c]] W fun e w' => e = .returned (.int .i64 (cfE x y)) ∧ ∃ q os', w' = grow (W.drewN q) os' := by
  obtain ⟨x0, x1, x2⟩ := x
  obtain ⟨y0, y1, y2⟩ := y
  have CO := Lib.hid (fun g w c0 c1 c2 => or3_c (cmpI x0 y0) (cmpI x1 y1) (cmpI x2 y2) g w c0 c1 c2)
  have C0 := Lib.hid (fun w => cmpInt_c x0 y0 w)
  have C1 := Lib.hid (fun w => cmpInt_c x1 y1 w)
  have C2 := Lib.hid (fun w => cmpInt_c x2 y2 w)
  show Calls Tryz.prog 57 #[.agg #[.int .i64 x0, .int .i64 x1, .int .i64 x2], .agg #[.int .i64 y0, .int .i64 y1, .int .i64 y2]] W fun e w' => e = .returned (.int .i64 (firstNZ (cmpI x0 y0) (cmpI x1 y1) (cmpI x2 y2))) ∧ ∃ q os', w' = grow (W.drewN q) os'
  generalize cmpI x0 y0 = r0 at CO C0 ⊢
  generalize cmpI x1 y1 = r1 at CO C1 ⊢
  generalize cmpI x2 y2 = r2 at CO C2 ⊢
  generalize firstNZ r0 r1 r2 = R at CO ⊢
  go_enter Tryz.func57, Tryz.ntmps57
  go_wp2
  have hb0 := Blk.alloc (Blk.new W 34 #[.int .i64 x0, .int .i64 x1, .int .i64 x2]) (.cells #[.int .i64 y0, .int .i64 y1, .int .i64 y2] 34)
  have hb1 := Blk.new (W.alloc (.cells #[.int .i64 x0, .int .i64 x1, .int .i64 x2] 34)) 34 #[.int .i64 y0, .int .i64 y1, .int .i64 y2]
  rw [World.size_alloc] at hb1
  have a0 := hb0.cell 0
  have a1 := hb0.cell 1
  have a2 := hb0.cell 2
  have b0 := hb1.cell 0
  have b1 := hb1.cell 1
  have b2 := hb1.cell 2
  have hl0 := hb0.lt
  have hl1 := hb1.lt
  clear hb0 hb1
  obtain ⟨V, hV⟩ : ∃ V, (W.alloc (.cells #[.int .i64 x0, .int .i64 x1, .int .i64 x2] 34)).alloc (.cells #[.int .i64 y0, .int .i64 y1, .int .i64 y2] 34) = V := ⟨_, rfl⟩
  rw [hV] at a0 a1 a2 b0 b1 b2 hl0 hl1 ⊢
  have HV := Lib.hid hV
  clear hV
  have a0 : V.cell? ⟨W.heap.size, 0, none⟩ = some (.int .i64 x0) := a0
  have a1 : V.cell? ⟨W.heap.size, 1, none⟩ = some (.int .i64 x1) := a1
  have a2 : V.cell? ⟨W.heap.size, 2, none⟩ = some (.int .i64 x2) := a2
  have b0 : V.cell? ⟨W.heap.size + 1, 0, none⟩ = some (.int .i64 y0) := b0
  have b1 : V.cell? ⟨W.heap.size + 1, 1, none⟩ = some (.int .i64 y1) := b1
  have b2 : V.cell? ⟨W.heap.size + 1, 2, none⟩ = some (.int .i64 y2) := b2
  go_region_held3 (fun U => U.cell? ⟨W.heap.size, 0, none⟩ = some (.int .i64 x0) ∧ U.cell? ⟨W.heap.size, 1, none⟩ = some (.int .i64 x1) ∧ U.cell? ⟨W.heap.size, 2, none⟩ = some (.int .i64 x2) ∧ U.cell? ⟨W.heap.size + 1, 0, none⟩ = some (.int .i64 y0) ∧ U.cell? ⟨W.heap.size + 1, 1, none⟩ = some (.int .i64 y1) ∧ U.cell? ⟨W.heap.size + 1, 2, none⟩ = some (.int .i64 y2)) (go_keep)
    (first
      | (go_at_call 89; first | ((with_reducible refine (C0.out _).mono ?_); rintro e w' ⟨rfl, rfl⟩) | ((with_reducible refine (C1.out _).mono ?_); rintro e w' ⟨rfl, rfl⟩) | ((with_reducible refine (C2.out _).mono ?_); rintro e w' ⟨rfl, rfl⟩))
      | (go_at_call 88; refine (CO.out V.heap.size _ (by go_simp) (by go_simp) (by go_simp)).mono ?_; rintro e w' ⟨rfl, rfl⟩))
  all_goals go_wp2
  all_goals go_ret
  all_goals exact ⟨rfl, 1, _, by rw [← HV.out, alloc_eq_grow, alloc_eq_grow, alloc_eq_grow, grow_grow, grow_grow]; rfl⟩
end Go.Proofs.YtmbdacfgmiielaaGreatDoor
/-
  slices.SortFunc of edges by the program's order.
-/
namespace Go.Proofs.YtmbdacfgmiielaaGreatDoor
set_option linter.unusedSimpArgs false
set_option linter.unusedVariables false
set_option maxRecDepth 100000
open Go.RowKit Go.Shelf Go.Sort

def Tryz.sortEd_ren : Go.Shelf.Ren := ⟨fun | 6 => 56 | 15 => 87 | 14 => 86 | 28 => 116 | 29 => 117 | 20 => 108 | 21 => 109 | 22 => 110 | 23 => 111 | 24 => 112 | 25 => 113 | 26 => 114 | 27 => 115 | 46 => 134 | 47 => 135 | 48 => 136 | 49 => 137 | 50 => 138 | 57 => 147 | n => n, fun | 22 => 27 | 24 => 34 | 25 => 83 | 3 => 3 | 39 => 102 | 0 => 0 | 53 => 129 | 55 => 131 | 4 => 4 | 46 => 123 | 45 => 122 | 50 => 78 | 5 => 5 | 9 => 9 | 66 => 142 | 70 => 146 | 76 => 155 | 77 => 156 | n => n, fun | n => n⟩
theorem Tryz.sortEd : Go.Proofs.SlLaysF0.n6 Tryz.prog Tryz.sortEd_ren := {
  mixed := by kernel_rfl
  f6 := ⟨Tryz.f56.name, by decide, Tryz.func56.trans (congrArg some (by kernel_rfl))⟩
  f14 := ⟨Tryz.f86.name, by decide, Tryz.func86.trans (congrArg some (by kernel_rfl))⟩
  f15 := Tryz.func87.trans (congrArg some (by kernel_rfl))
  f20 := ⟨Tryz.f108.name, by decide, Tryz.func108.trans (congrArg some (by kernel_rfl))⟩
  f21 := ⟨Tryz.f109.name, by decide, Tryz.func109.trans (congrArg some (by kernel_rfl))⟩
  f22 := ⟨Tryz.f110.name, by decide, Tryz.func110.trans (congrArg some (by kernel_rfl))⟩
  f23 := ⟨Tryz.f111.name, by decide, Tryz.func111.trans (congrArg some (by kernel_rfl))⟩
  f24 := ⟨Tryz.f112.name, by decide, Tryz.func112.trans (congrArg some (by kernel_rfl))⟩
  f25 := ⟨Tryz.f113.name, by decide, Tryz.func113.trans (congrArg some (by kernel_rfl))⟩
  f26 := ⟨Tryz.f114.name, by decide, Tryz.func114.trans (congrArg some (by kernel_rfl))⟩
  f27 := ⟨Tryz.f115.name, by decide, Tryz.func115.trans (congrArg some (by kernel_rfl))⟩
  f28 := Tryz.func116.trans (congrArg some (by kernel_rfl))
  f29 := Tryz.func117.trans (congrArg some (by kernel_rfl))
  f46 := ⟨Tryz.f134.name, by decide, Tryz.func134.trans (congrArg some (by kernel_rfl))⟩
  f47 := Tryz.func135.trans (congrArg some (by kernel_rfl))
  f48 := Tryz.func136.trans (congrArg some (by kernel_rfl))
  f49 := ⟨Tryz.f137.name, by decide, Tryz.func137.trans (congrArg some (by kernel_rfl))⟩
  f50 := ⟨Tryz.f138.name, by decide, Tryz.func138.trans (congrArg some (by kernel_rfl))⟩
  f57 := ⟨Tryz.f147.name, by decide, Tryz.func147.trans (congrArg some (by kernel_rfl))⟩
  t0 := Tryz.underlying0
  a0 := Tryz.isAgg0
  z0 := Tryz.sizeOf0
  v0 := Tryz.zeroValue0
  t3 := Tryz.underlying3
  a3 := Tryz.isAgg3
  z3 := Tryz.sizeOf3
  v3 := Tryz.zeroValue3
  t4 := Tryz.underlying4
  a4 := Tryz.isAgg4
  z4 := Tryz.sizeOf4
  v4 := Tryz.zeroValue4
  t5 := Tryz.underlying5
  a5 := Tryz.isAgg5
  z5 := Tryz.sizeOf5
  v5 := Tryz.zeroValue5
  t9 := Tryz.underlying9
  a9 := Tryz.isAgg9
  z9 := Tryz.sizeOf9
  v9 := Tryz.zeroValue9
  t22 := Tryz.underlying27
  a22 := Tryz.isAgg27
  z22 := Tryz.sizeOf27
  v22 := Tryz.zeroValue27
  t25 := Tryz.underlying83
  a25 := Tryz.isAgg83
  z25 := Tryz.sizeOf83
  v25 := Tryz.zeroValue83
  t39 := Tryz.underlying102
  a39 := Tryz.isAgg102
  z39 := Tryz.sizeOf102
  v39 := Tryz.zeroValue102
  t45 := Tryz.underlying122
  a45 := Tryz.isAgg122
  z45 := Tryz.sizeOf122
  v45 := Tryz.zeroValue122
  t46 := Tryz.underlying123
  a46 := Tryz.isAgg123
  z46 := Tryz.sizeOf123
  v46 := Tryz.zeroValue123
  t50 := Tryz.underlying78
  a50 := Tryz.isAgg78
  z50 := Tryz.sizeOf78
  v50 := Tryz.zeroValue78
  t53 := Tryz.underlying129
  a53 := Tryz.isAgg129
  z53 := Tryz.sizeOf129
  v53 := Tryz.zeroValue129
  t55 := Tryz.underlying131
  a55 := Tryz.isAgg131
  z55 := Tryz.sizeOf131
  v55 := Tryz.zeroValue131
  t66 := Tryz.underlying142
  a66 := Tryz.isAgg142
  z66 := Tryz.sizeOf142
  v66 := Tryz.zeroValue142
  t70 := Tryz.underlying146
  a70 := Tryz.isAgg146
  z70 := Tryz.sizeOf146
  v70 := Tryz.zeroValue146
  t76 := Tryz.underlying155
  a76 := Tryz.isAgg155
  z76 := Tryz.sizeOf155
  v76 := Tryz.zeroValue155
  t77 := Tryz.underlying156
  a77 := Tryz.isAgg156
  z77 := Tryz.sizeOf156
  v77 := Tryz.zeroValue156 }
theorem flat_eq (d : Array T3) : flatK encE 3 d = (flat3 d.toList).toArray := by
  refine ext_get! (by simp [flat3_len]) (fun t ht => ?_)
  rw [size_flatK] at ht
  rw [get_flatK _ _ _ t ht]
  have hi : t / 3 < d.size := by omega
  have hd : d.toList[t / 3]? = some d[t / 3]! := by
    rw [getElem!_pos d (t / 3) hi, Array.getElem?_toList, Array.getElem?_eq_getElem hi]
  have hm : t % 3 < 3 := Nat.mod_lt _ (by omega)
  have hu : (encE d[t / 3]!)[t % 3]? = some (encE d[t / 3]!)[t % 3]! := by
    rw [getElem!_pos (encE d[t / 3]!) (t % 3) (by simpa [encE] using hm)]
    exact List.getElem?_eq_getElem _
  have h3 := flat3_at d.toList (t / 3) d[t / 3]! hd (t % 3) _ hu
  rw [show t / 3 * 3 + t % 3 = t by omega] at h3
  have hl : t < (flat3 d.toList).length := by rw [flat3_len, Array.length_toList]; omega
  rw [getElem!_pos (flat3 d.toList).toArray t (by simpa using hl)]
  rw [List.getElem?_eq_getElem hl] at h3
  have h3 := Option.some.inj h3
  simp only [List.getElem_toArray]
  exact h3.symm
theorem put_take (cur F : Array Value) (h : F.size ≤ cur.size) : (putCells id 0 F cur).toList.take F.size = F.toList := by
  apply List.ext_getElem?
  intro j
  by_cases hj : j < F.size
  · rw [List.getElem?_take_of_lt hj, Array.getElem?_toList, Array.getElem?_toList]
    simp [putCells, hj, show j < cur.size by omega]
  · rw [List.getElem?_take_eq_none (by omega), Array.getElem?_toList, Array.getElem?_eq_none (by omega)]
theorem isAggE (w : World) : (isAgg 34).run Tryz.prog w = .ok true w := by kernel_rfl
theorem sizeOfE (w : World) : (Go.sizeOf 34).run Tryz.prog w = .ok 3 w := by kernel_rfl
set_option maxHeartbeats 1000000 in
/-- edges of a slice of the call's own, sorted -/
theorem sortFunc_c (xs : List T3) (base : Nat) (v : Value) (w : World) (h : Own3 w base 34 v xs) (hv : ∃ g, v.ownBlock = some g) (hb : base ≤ w.heap.size) (hl : xs.length ≤ 1048576) :
    Calls Tryz.prog 56 #[v, .func (.func 57) #[] #[]] w fun e w' => e = .returned (.tuple #[]) ∧ ∃ ys : List T3, ys.Perm xs ∧ ys.Pairwise (fun x y => ¬ ltE y x) ∧ Own3 w' base 34 v ys ∧ Below base w w' := by
  rcases h.2 with ⟨rfl, hz⟩ | ⟨gb, cap, cur, rfl, hbase, hgb, r1, r2, r3, r4⟩
  · obtain ⟨g, hg⟩ := hv
    simp [Value.ownBlock] at hg
  · have hgl : gb < w.heap.size := (Array.getElem?_eq_some_iff.1 hgb).1
    have hfl : (flatK encE 3 xs.toArray) = (flat3 xs).toArray := by rw [flat_eq]
    have hH : HoldsK encE 3 w gb 0 xs.toArray := by
      unfold HoldsK
      rw [hfl]
      intro j hj
      have hj' : j < (flat3 xs).length := by simpa using hj
      refine ⟨?_, by simp [World.frozen?, hgb]⟩
      rw [cell_of_row w gb _ cur _ (0, 0) hgb, getElem!_pos (flat3 xs).toArray j hj, Nat.zero_add]
      have h1 : (flat3 xs)[j]? = some (flat3 xs)[j] := List.getElem?_eq_getElem hj'
      have h2 : (cur.toList.take (xs.length * 3))[j]? = (flat3 xs)[j]? := by rw [r4]
      rw [List.getElem?_take, if_pos (by rw [flat3_len] at hj'; omega), h1, Array.getElem?_toList] at h2
      exact h2
    have eg : ∀ args w, (callFunc 57 args).run Tryz.prog w = .ok (.enter 57 args) w := enters_of Tryz.func57 (by kernel_rfl) rfl
    have hC : CmpLays Tryz.prog 57 #[] encE 3 cfE gb 0 xs.toArray.size w := fun m os dk _ x y => compare_c x y _
    have hcon := AnyQ.slices_SortFunc Tryz.sortEd 3 isAggE sizeOfE encE (fun _ => rfl) (fun x v hv => by simp [encE] at hv; rcases hv with rfl | rfl | rfl <;> rfl) cfE swoE 57 #[] gb 0 cap xs.toArray w eg hC hH hgl (by simp; omega)
    have hcon2 : Calls Tryz.prog 56 #[.slice (some ⟨gb, 0, none⟩) xs.length cap, .func (.func 57) #[] #[]] w (fun e w' => e = .returned (.tuple #[]) ∧ ∃ d' n os, PermIn 0 xs.toArray.size xs.toArray d' ∧ SortedIn (ltOf cfE) 0 xs.toArray.size d' ∧ w' = sortWorldK encE 3 w gb 0 n d' os) := hcon
    refine hcon2.mono ?_
    rintro e w' ⟨rfl, d', nn, os, ⟨hs, _, hp⟩, hsort, rfl⟩
    have hs' : d'.size = xs.length := by simpa using hs
    have hperm : d'.toList.Perm xs := by
      have e1 : d'.extract 0 xs.toArray.size = d' := by
        apply Array.extract_eq_self_of_le
        simp [hs']
      have e2 : xs.toArray.extract 0 xs.toArray.size = xs.toArray := Array.extract_size
      rw [e1, e2] at hp
      exact hp
    have hlen : d'.toList.length = xs.length := by simpa using hs'
    refine ⟨rfl, d'.toList, hperm, ?_, ?_, ?_⟩
    · rw [List.pairwise_iff_getElem]
      intro i j hi hj hij hlt
      have h1 := hsort i j (Nat.zero_le _) hij (by simp at hj ⊢; omega)
      have hi' : i < d'.size := by simpa using hi
      have hj' : j < d'.size := by simpa using hj
      rw [getElem!_pos d' j hj', getElem!_pos d' i hi'] at h1
      simp only [ltOf, decide_eq_false_iff_not, cfE_lt] at h1
      exact h1 hlt
    · unfold sortWorldK putRowK
      rw [flat_eq]
      unfold Own3
      rw [hlen]
      refine ⟨by rw [flat3_len, hlen], .inr ⟨gb, cap, putCells id 0 (flat3 d'.toList).toArray cur, rfl, hbase, ?_, r1, r2, by simpa [putCells] using r3, ?_⟩⟩
      · rw [heap_grow_old _ _ (by simpa using hgl)]
        simp [putRow, mapBlock, Sort.ahead, Array.getElem?_modify, hgb, onCells]
      · have h1 : (flat3 d'.toList).toArray.size = xs.length * 3 := by rw [List.size_toArray, flat3_len, hlen]
        have h2 := put_take cur (flat3 d'.toList).toArray (by rw [h1, r3]; exact Nat.mul_le_mul_right 3 r1)
        rw [h1] at h2
        exact h2
    · unfold sortWorldK putRowK
      have hg : w.grownBy (grow (putRow id (Sort.ahead w nn) gb 0 (flatK encE 3 d')) os) (some gb) := by
        refine ⟨rfl, rfl, rfl, by simp, fun k hk hne => ?_⟩
        rw [heap_grow_old _ _ (by simpa using hk)]
        have : gb ≠ k := fun e => hne (by rw [e])
        simp [putRow, mapBlock, Sort.ahead, Array.getElem?_modify, this]
      exact (Below.refl base w).grown hg hb (fun j hj => by cases hj; exact hbase)
end Go.Proofs.YtmbdacfgmiielaaGreatDoor
namespace Go.Proofs.YtmbdacfgmiielaaGreatDoor
set_option linter.unusedSimpArgs false
set_option linter.unusedVariables false
set_option maxRecDepth 100000
open Go.RowKit

theorem eqEd_run (a b c a' b' c' : Int) (w : World) : (binOp .eql 34 (.agg #[.int .i64 a, .int .i64 b, .int .i64 c]) (.agg #[.int .i64 a', .int .i64 b', .int .i64 c'])).run Tryz.prog w = .ok (.bool (decide ((⟨a, b, c⟩ : T3) = ⟨a', b', c'⟩))) w := by
  have u3 := Tryz.underlying3
  have hS : Tryz.prog.underlying 34 = some (.struct (Tryz.prog.fieldsOf 34)) := by kernel_rfl
  have hp : Tryz.prog.stoodInHeld 34 = false := by kernel_rfl
  rw [run_eql_struct, show (10000 : Nat) = 9999 + 1 from rfl, run_equalIn_agg w 9999 34 _ _ hS hp]
  simp only [Program.fieldsOf, Tryz.underlying34]
  go_simp
  by_cases h1 : a = a' <;> by_cases h2 : b = b' <;> by_cases h3 : c = c' <;> simp [h1, h2, h3]
theorem eqEd_guard : Tryz.prog.eqGuardType Tryz.prog.depth 34 = false := by kernel_rfl

theorem clipE_c (A : Option Addr) (n c : Nat) (w : World) (h : n ≤ c) : Calls Tryz.prog 58 #[.slice A n c] w fun e w' => e = .returned (.slice A n n) ∧ w = w' := by
  go_enter Tryz.func58, Tryz.ntmps58
  go_wp2
  go_ret
  exact ⟨rfl, rfl⟩
end Go.Proofs.YtmbdacfgmiielaaGreatDoor
