/-
  Edges of one's own, sorted, each once; slices.Compact where no two neighbours are alike; slices.Clip.
-/
import Derived.Test.YtmbdacfgmiielaaGreatGOwn3
import Derived.Deep.RegionHeld3
import Derived.Sort.Grow
import Derived.Shelf.SlSortCmp.WholeK
import Derived.BigQuiet
/-
  The program's order of edges: a strict weak order; its walk.
-/
namespace Go.Proofs.YtmbdacfgmiielaaGreat
set_option linter.unusedSimpArgs false
set_option linter.unusedVariables false
set_option maxRecDepth 100000
open Go.RowKit Go.Shelf Go.Sort

def cmpI (x y : Int) : Int := if x < y then -1 else if y < x then 1 else 0
def firstNZ (x y z : Int) : Int := if x ≠ 0 then x else if y ≠ 0 then y else z
def cfE (x y : T3) : Int := firstNZ (cmpI x.a y.a) (cmpI x.b y.b) (cmpI x.c y.c)
/-- earlier in the order -/
def ltE (x y : T3) : Prop := x.a < y.a ∨ (x.a = y.a ∧ (x.b < y.b ∨ (x.b = y.b ∧ x.c < y.c)))
theorem cfE_lt (x y : T3) : cfE x y < 0 ↔ ltE x y := by
  unfold cfE firstNZ cmpI ltE
  rcases Int.lt_trichotomy x.a y.a with h1 | h1 | h1 <;> rcases Int.lt_trichotomy x.b y.b with h2 | h2 | h2 <;> rcases Int.lt_trichotomy x.c y.c with h3 | h3 | h3 <;> simp [h1, h2, h3] <;> omega
theorem swoE : SWO (ltOf cfE) where
  irrefl x := by simp only [ltOf, decide_eq_false_iff_not, cfE_lt]; unfold ltE; omega
  trans x y z h1 h2 := by simp only [ltOf, decide_eq_true_eq, cfE_lt] at *; unfold ltE at *; omega
  ntrans x y z h1 h2 := by simp only [ltOf, decide_eq_false_iff_not, cfE_lt] at *; unfold ltE at *; omega
/-- an edge's three cells -/
def encE (x : T3) : List Value := [.int .i64 x.a, .int .i64 x.b, .int .i64 x.c]
set_option maxHeartbeats 1000000 in
theorem isNaN_c (x : Int) (w : World) : Calls Tryz.prog 135 #[.int .i64 x] w fun e w' => e = .returned (.bool false) ∧ w = w' := by
  have hx : (x != x) = false := by simp
  go_enter Tryz.func135, Tryz.ntmps135
  go_wp2
  go_ret
  exact ⟨rfl, rfl⟩
set_option maxHeartbeats 1000000 in
theorem cmpInt_c (x y : Int) (w : World) : Calls Tryz.prog 107 #[.int .i64 x, .int .i64 y] w fun e w' => e = .returned (.int .i64 (cmpI x y)) ∧ w = w' := by
  have hr : cmpI x y = if x < y then -1 else if y < x then 1 else 0 := rfl
  rcases Int.lt_trichotomy x y with h | h | h
  · have hr2 : cmpI x y = -1 := by rw [hr, if_pos h]
    rw [hr2]
    clear hr hr2
    go_enter Tryz.func107, Tryz.ntmps107
    go_wp2_with (go_at_call 135; refine (isNaN_c _ _).mono ?_; rintro e w' ⟨rfl, rfl⟩)
    go_ret
    exact ⟨rfl, rfl⟩
  · subst h
    have hr2 : cmpI x x = 0 := by rw [hr, if_neg (by omega), if_neg (by omega)]
    rw [hr2]
    clear hr hr2
    go_enter Tryz.func107, Tryz.ntmps107
    go_wp2_with (go_at_call 135; refine (isNaN_c _ _).mono ?_; rintro e w' ⟨rfl, rfl⟩)
    go_ret
    exact ⟨rfl, rfl⟩
  · have hr2 : cmpI x y = 1 := by rw [hr, if_neg (by omega), if_pos h]
    have hn : ¬ x < y := by omega
    rw [hr2]
    clear hr hr2
    go_enter Tryz.func107, Tryz.ntmps107
    go_wp2_with (go_at_call 135; refine (isNaN_c _ _).mono ?_; rintro e w' ⟨rfl, rfl⟩)
    go_ret
    exact ⟨rfl, rfl⟩
set_option maxHeartbeats 1000000 in
theorem or3_c (x y z : Int) (g : Nat) (w : World) (c0 : w.cell? ⟨g, 0, none⟩ = some (.int .i64 x)) (c1 : w.cell? ⟨g, 1, none⟩ = some (.int .i64 y)) (c2 : w.cell? ⟨g, 2, none⟩ = some (.int .i64 z)) :
    Calls Tryz.prog 106 #[.slice (some ⟨g, 0, none⟩) 3 3] w fun e w' => e = .returned (.int .i64 (firstNZ x y z)) ∧ w = w' := by
  have hr : firstNZ x y z = if x ≠ 0 then x else if y ≠ 0 then y else z := rfl
  by_cases hx : x = 0
  · subst hx
    by_cases hy : y = 0
    · subst hy
      have hr2 : firstNZ 0 0 z = z := by rw [hr]; simp
      rw [hr2]
      clear hr hr2
      have e0 : ((0 : Int) != 0) = false := rfl
      by_cases hz : z = 0
      · subst hz
        go_enter Tryz.func106, Tryz.ntmps106
        go_wp2
        refine wp_loop_rounds 4 ?_
        rw [rounds_succ]
        go_wp2
        rw [rounds_succ]
        go_wp2
        rw [rounds_succ]
        go_wp2
        rw [rounds_succ]
        go_wp2
        go_ret
        exact ⟨rfl, rfl⟩
      · have e1 : (z != 0) = true := by simpa using hz
        go_enter Tryz.func106, Tryz.ntmps106
        go_wp2
        refine wp_loop_rounds 4 ?_
        rw [rounds_succ]
        go_wp2
        rw [rounds_succ]
        go_wp2
        rw [rounds_succ]
        go_wp2
        go_ret
        exact ⟨rfl, rfl⟩
    · have e1 : (y != 0) = true := by simpa using hy
      have e0 : ((0 : Int) != 0) = false := rfl
      have hr2 : firstNZ 0 y z = y := by rw [hr]; simp [hy]
      rw [hr2]
      clear hr hr2
      go_enter Tryz.func106, Tryz.ntmps106
      go_wp2
      refine wp_loop_rounds 4 ?_
      rw [rounds_succ]
      go_wp2
      rw [rounds_succ]
      go_wp2
      go_ret
      exact ⟨rfl, rfl⟩
  · have e1 : (x != 0) = true := by simpa using hx
    have hr2 : firstNZ x y z = x := by rw [hr]; simp [hx]
    rw [hr2]
    clear hr hr2
    go_enter Tryz.func106, Tryz.ntmps106
    go_wp2
    refine wp_loop_rounds 4 ?_
    rw [rounds_succ]
    go_wp2
    go_ret
    exact ⟨rfl, rfl⟩
set_option maxHeartbeats 4000000 in
theorem compare_c (x y : T3) (W : World) : Calls Tryz.prog 81 #[.agg #[.int .i64 x.a, .int .i64 x.b, .int .i64 x.c], .agg #[.int .i64 y.a, .int .i64 y.b, .int .i64 y.c]] W fun e w' => e = .returned (.int .i64 (cfE x y)) ∧ ∃ q os', w' = grow (W.drewN q) os' := by
  obtain ⟨x0, x1, x2⟩ := x
  obtain ⟨y0, y1, y2⟩ := y
  have CO := Lib.hid (fun g w c0 c1 c2 => or3_c (cmpI x0 y0) (cmpI x1 y1) (cmpI x2 y2) g w c0 c1 c2)
  have C0 := Lib.hid (fun w => cmpInt_c x0 y0 w)
  have C1 := Lib.hid (fun w => cmpInt_c x1 y1 w)
  have C2 := Lib.hid (fun w => cmpInt_c x2 y2 w)
  show Calls Tryz.prog 81 #[.agg #[.int .i64 x0, .int .i64 x1, .int .i64 x2], .agg #[.int .i64 y0, .int .i64 y1, .int .i64 y2]] W fun e w' => e = .returned (.int .i64 (firstNZ (cmpI x0 y0) (cmpI x1 y1) (cmpI x2 y2))) ∧ ∃ q os', w' = grow (W.drewN q) os'
  generalize cmpI x0 y0 = r0 at CO C0 ⊢
  generalize cmpI x1 y1 = r1 at CO C1 ⊢
  generalize cmpI x2 y2 = r2 at CO C2 ⊢
  generalize firstNZ r0 r1 r2 = R at CO ⊢
  go_enter Tryz.func81, Tryz.ntmps81
  go_wp2
  have hb0 := Blk.alloc (Blk.new W 76 #[.int .i64 x0, .int .i64 x1, .int .i64 x2]) (.cells #[.int .i64 y0, .int .i64 y1, .int .i64 y2] 76)
  have hb1 := Blk.new (W.alloc (.cells #[.int .i64 x0, .int .i64 x1, .int .i64 x2] 76)) 76 #[.int .i64 y0, .int .i64 y1, .int .i64 y2]
  rw [World.size_alloc] at hb1
  have a0 := hb0.cell 0
  have a1 := hb0.cell 1
  have a2 := hb0.cell 2
  have b0 := hb1.cell 0
  have b1 := hb1.cell 1
  have b2 := hb1.cell 2
  have hl0 := hb0.lt
  have hl1 := hb1.lt
  clear hb0 hb1
  obtain ⟨V, hV⟩ : ∃ V, (W.alloc (.cells #[.int .i64 x0, .int .i64 x1, .int .i64 x2] 76)).alloc (.cells #[.int .i64 y0, .int .i64 y1, .int .i64 y2] 76) = V := ⟨_, rfl⟩
  rw [hV] at a0 a1 a2 b0 b1 b2 hl0 hl1 ⊢
  have HV := Lib.hid hV
  clear hV
  have a0 : V.cell? ⟨W.heap.size, 0, none⟩ = some (.int .i64 x0) := a0
  have a1 : V.cell? ⟨W.heap.size, 1, none⟩ = some (.int .i64 x1) := a1
  have a2 : V.cell? ⟨W.heap.size, 2, none⟩ = some (.int .i64 x2) := a2
  have b0 : V.cell? ⟨W.heap.size + 1, 0, none⟩ = some (.int .i64 y0) := b0
  have b1 : V.cell? ⟨W.heap.size + 1, 1, none⟩ = some (.int .i64 y1) := b1
  have b2 : V.cell? ⟨W.heap.size + 1, 2, none⟩ = some (.int .i64 y2) := b2
  go_region_held3 (fun U => U.cell? ⟨W.heap.size, 0, none⟩ = some (.int .i64 x0) ∧ U.cell? ⟨W.heap.size, 1, none⟩ = some (.int .i64 x1) ∧ U.cell? ⟨W.heap.size, 2, none⟩ = some (.int .i64 x2) ∧ U.cell? ⟨W.heap.size + 1, 0, none⟩ = some (.int .i64 y0) ∧ U.cell? ⟨W.heap.size + 1, 1, none⟩ = some (.int .i64 y1) ∧ U.cell? ⟨W.heap.size + 1, 2, none⟩ = some (.int .i64 y2)) (go_keep)
    (first
      | (go_at_call 107; first | ((with_reducible refine (C0.out _).mono ?_); rintro e w' ⟨rfl, rfl⟩) | ((with_reducible refine (C1.out _).mono ?_); rintro e w' ⟨rfl, rfl⟩) | ((with_reducible refine (C2.out _).mono ?_); rintro e w' ⟨rfl, rfl⟩))
      | (go_at_call 106; refine (CO.out V.heap.size _ (by go_simp) (by go_simp) (by go_simp)).mono ?_; rintro e w' ⟨rfl, rfl⟩))
  all_goals go_wp2
  all_goals go_ret
  all_goals exact ⟨rfl, 1, _, by rw [← HV.out, alloc_eq_grow, alloc_eq_grow, alloc_eq_grow, grow_grow, grow_grow]; rfl⟩
end Go.Proofs.YtmbdacfgmiielaaGreat
/-
  slices.SortFunc of edges by the program's order.
-/
namespace Go.Proofs.YtmbdacfgmiielaaGreat
set_option linter.unusedSimpArgs false
set_option linter.unusedVariables false
set_option maxRecDepth 100000
open Go.RowKit Go.Shelf Go.Sort

def Tryz.sortEd_ren : Go.Shelf.Ren := ⟨fun | 6 => 80 | 15 => 104 | 14 => 105 | 28 => 125 | 29 => 126 | 20 => 127 | 21 => 128 | 22 => 129 | 23 => 130 | 24 => 131 | 25 => 132 | 26 => 133 | 27 => 134 | 46 => 143 | 47 => 139 | 48 => 140 | 49 => 144 | 50 => 145 | 57 => 148 | n => n, fun | 22 => 55 | 24 => 76 | 25 => 102 | 3 => 3 | 39 => 104 | 0 => 0 | 53 => 140 | 55 => 142 | 4 => 4 | 46 => 134 | 45 => 133 | 50 => 96 | 5 => 5 | 9 => 9 | 66 => 150 | 70 => 154 | 76 => 159 | 77 => 160 | n => n, fun | n => n⟩
theorem Tryz.sortEd : Go.Proofs.SlLaysF0.n6 Tryz.prog Tryz.sortEd_ren := {
  mixed := by kernel_rfl
  f6 := ⟨Tryz.f80.name, by decide, Tryz.func80.trans (congrArg some (by kernel_rfl))⟩
  f14 := ⟨Tryz.f105.name, by decide, Tryz.func105.trans (congrArg some (by kernel_rfl))⟩
  f15 := Tryz.func104.trans (congrArg some (by kernel_rfl))
  f20 := ⟨Tryz.f127.name, by decide, Tryz.func127.trans (congrArg some (by kernel_rfl))⟩
  f21 := ⟨Tryz.f128.name, by decide, Tryz.func128.trans (congrArg some (by kernel_rfl))⟩
  f22 := ⟨Tryz.f129.name, by decide, Tryz.func129.trans (congrArg some (by kernel_rfl))⟩
  f23 := ⟨Tryz.f130.name, by decide, Tryz.func130.trans (congrArg some (by kernel_rfl))⟩
  f24 := ⟨Tryz.f131.name, by decide, Tryz.func131.trans (congrArg some (by kernel_rfl))⟩
  f25 := ⟨Tryz.f132.name, by decide, Tryz.func132.trans (congrArg some (by kernel_rfl))⟩
  f26 := ⟨Tryz.f133.name, by decide, Tryz.func133.trans (congrArg some (by kernel_rfl))⟩
  f27 := ⟨Tryz.f134.name, by decide, Tryz.func134.trans (congrArg some (by kernel_rfl))⟩
  f28 := Tryz.func125.trans (congrArg some (by kernel_rfl))
  f29 := Tryz.func126.trans (congrArg some (by kernel_rfl))
  f46 := ⟨Tryz.f143.name, by decide, Tryz.func143.trans (congrArg some (by kernel_rfl))⟩
  f47 := Tryz.func139.trans (congrArg some (by kernel_rfl))
  f48 := Tryz.func140.trans (congrArg some (by kernel_rfl))
  f49 := ⟨Tryz.f144.name, by decide, Tryz.func144.trans (congrArg some (by kernel_rfl))⟩
  f50 := ⟨Tryz.f145.name, by decide, Tryz.func145.trans (congrArg some (by kernel_rfl))⟩
  f57 := ⟨Tryz.f148.name, by decide, Tryz.func148.trans (congrArg some (by kernel_rfl))⟩
  t0 := Tryz.underlying0
  a0 := Tryz.isAgg0
  z0 := Tryz.sizeOf0
  v0 := Tryz.zeroValue0
  t3 := Tryz.underlying3
  a3 := Tryz.isAgg3
  z3 := Tryz.sizeOf3
  v3 := Tryz.zeroValue3
  t4 := Tryz.underlying4
  a4 := Tryz.isAgg4
  z4 := Tryz.sizeOf4
  v4 := Tryz.zeroValue4
  t5 := Tryz.underlying5
  a5 := Tryz.isAgg5
  z5 := Tryz.sizeOf5
  v5 := Tryz.zeroValue5
  t9 := Tryz.underlying9
  a9 := Tryz.isAgg9
  z9 := Tryz.sizeOf9
  v9 := Tryz.zeroValue9
  t22 := Tryz.underlying55
  a22 := Tryz.isAgg55
  z22 := Tryz.sizeOf55
  v22 := Tryz.zeroValue55
  t25 := Tryz.underlying102
  a25 := Tryz.isAgg102
  z25 := Tryz.sizeOf102
  v25 := Tryz.zeroValue102
  t39 := Tryz.underlying104
  a39 := Tryz.isAgg104
  z39 := Tryz.sizeOf104
  v39 := Tryz.zeroValue104
  t45 := Tryz.underlying133
  a45 := Tryz.isAgg133
  z45 := Tryz.sizeOf133
  v45 := Tryz.zeroValue133
  t46 := Tryz.underlying134
  a46 := Tryz.isAgg134
  z46 := Tryz.sizeOf134
  v46 := Tryz.zeroValue134
  t50 := Tryz.underlying96
  a50 := Tryz.isAgg96
  z50 := Tryz.sizeOf96
  v50 := Tryz.zeroValue96
  t53 := Tryz.underlying140
  a53 := Tryz.isAgg140
  z53 := Tryz.sizeOf140
  v53 := Tryz.zeroValue140
  t55 := Tryz.underlying142
  a55 := Tryz.isAgg142
  z55 := Tryz.sizeOf142
  v55 := Tryz.zeroValue142
  t66 := Tryz.underlying150
  a66 := Tryz.isAgg150
  z66 := Tryz.sizeOf150
  v66 := Tryz.zeroValue150
  t70 := Tryz.underlying154
  a70 := Tryz.isAgg154
  z70 := Tryz.sizeOf154
  v70 := Tryz.zeroValue154
  t76 := Tryz.underlying159
  a76 := Tryz.isAgg159
  z76 := Tryz.sizeOf159
  v76 := Tryz.zeroValue159
  t77 := Tryz.underlying160
  a77 := Tryz.isAgg160
  z77 := Tryz.sizeOf160
  v77 := Tryz.zeroValue160 }
theorem flat_eq (d : Array T3) : flatK encE 3 d = (flat3 d.toList).toArray := by
  refine ext_get! (by simp [flat3_len]) (fun t ht => ?_)
  rw [size_flatK] at ht
  rw [get_flatK _ _ _ t ht]
  have hi : t / 3 < d.size := by omega
  have hd : d.toList[t / 3]? = some d[t / 3]! := by
    rw [getElem!_pos d (t / 3) hi, Array.getElem?_toList, Array.getElem?_eq_getElem hi]
  have hm : t % 3 < 3 := Nat.mod_lt _ (by omega)
  have hu : (encE d[t / 3]!)[t % 3]? = some (encE d[t / 3]!)[t % 3]! := by
    rw [getElem!_pos (encE d[t / 3]!) (t % 3) (by simpa [encE] using hm)]
    exact List.getElem?_eq_getElem _
  have h3 := flat3_at d.toList (t / 3) d[t / 3]! hd (t % 3) _ hu
  rw [show t / 3 * 3 + t % 3 = t by omega] at h3
  have hl : t < (flat3 d.toList).length := by rw [flat3_len, Array.length_toList]; omega
  rw [getElem!_pos (flat3 d.toList).toArray t (by simpa using hl)]
  rw [List.getElem?_eq_getElem hl] at h3
  have h3 := Option.some.inj h3
  simp only [List.getElem_toArray]
  exact h3.symm
theorem put_take (cur F : Array Value) (h : F.size ≤ cur.size) : (putCells id 0 F cur).toList.take F.size = F.toList := by
  apply List.ext_getElem?
  intro j
  by_cases hj : j < F.size
  · rw [List.getElem?_take_of_lt hj, Array.getElem?_toList, Array.getElem?_toList]
    simp [putCells, hj, show j < cur.size by omega]
  · rw [List.getElem?_take_eq_none (by omega), Array.getElem?_toList, Array.getElem?_eq_none (by omega)]
theorem isAggE (w : World) : (isAgg 76).run Tryz.prog w = .ok true w := by kernel_rfl
theorem sizeOfE (w : World) : (Go.sizeOf 76).run Tryz.prog w = .ok 3 w := by kernel_rfl
set_option maxHeartbeats 1000000 in
/-- edges of a slice of the call's own, sorted -/
theorem sortFunc_c (xs : List T3) (base : Nat) (v : Value) (w : World) (h : Own3 w base 76 v xs) (hv : ∃ g, v.ownBlock = some g) (hb : base ≤ w.heap.size) (hl : xs.length ≤ 1048576) :
    Calls Tryz.prog 80 #[v, .func (.func 81) #[] #[]] w fun e w' => e = .returned (.tuple #[]) ∧ ∃ ys : List T3, ys.Perm xs ∧ ys.Pairwise (fun x y => ¬ ltE y x) ∧ Own3 w' base 76 v ys ∧ Below base w w' := by
  rcases h.2 with ⟨rfl, hz⟩ | ⟨gb, cap, cur, rfl, hbase, hgb, r1, r2, r3, r4⟩
  · obtain ⟨g, hg⟩ := hv
    simp [Value.ownBlock] at hg
  · have hgl : gb < w.heap.size := (Array.getElem?_eq_some_iff.1 hgb).1
    have hfl : (flatK encE 3 xs.toArray) = (flat3 xs).toArray := by rw [flat_eq]
    have hH : HoldsK encE 3 w gb 0 xs.toArray := by
      unfold HoldsK
      rw [hfl]
      intro j hj
      have hj' : j < (flat3 xs).length := by simpa using hj
      refine ⟨?_, by simp [World.frozen?, hgb]⟩
      rw [cell_of_row w gb _ cur _ (0, 0) hgb, getElem!_pos (flat3 xs).toArray j hj, Nat.zero_add]
      have h1 : (flat3 xs)[j]? = some (flat3 xs)[j] := List.getElem?_eq_getElem hj'
      have h2 : (cur.toList.take (xs.length * 3))[j]? = (flat3 xs)[j]? := by rw [r4]
      rw [List.getElem?_take, if_pos (by rw [flat3_len] at hj'; omega), h1, Array.getElem?_toList] at h2
      exact h2
    have eg : ∀ args w, (callFunc 81 args).run Tryz.prog w = .ok (.enter 81 args) w := enters_of Tryz.func81 (by kernel_rfl) rfl
    have hC : CmpLays Tryz.prog 81 #[] encE 3 cfE gb 0 xs.toArray.size w := fun m os dk _ x y => compare_c x y _
    have hcon := AnyQ.slices_SortFunc Tryz.sortEd 3 isAggE sizeOfE encE (fun _ => rfl) (fun x v hv => by simp [encE] at hv; rcases hv with rfl | rfl | rfl <;> rfl) cfE swoE 81 #[] gb 0 cap xs.toArray w eg hC hH hgl (by simp; omega)
    have hcon2 : Calls Tryz.prog 80 #[.slice (some ⟨gb, 0, none⟩) xs.length cap, .func (.func 81) #[] #[]] w (fun e w' => e = .returned (.tuple #[]) ∧ ∃ d' n os, PermIn 0 xs.toArray.size xs.toArray d' ∧ SortedIn (ltOf cfE) 0 xs.toArray.size d' ∧ w' = sortWorldK encE 3 w gb 0 n d' os) := hcon
    refine hcon2.mono ?_
    rintro e w' ⟨rfl, d', nn, os, ⟨hs, _, hp⟩, hsort, rfl⟩
    have hs' : d'.size = xs.length := by simpa using hs
    have hperm : d'.toList.Perm xs := by
      have e1 : d'.extract 0 xs.toArray.size = d' := by
        apply Array.extract_eq_self_of_le
        simp [hs']
      have e2 : xs.toArray.extract 0 xs.toArray.size = xs.toArray := Array.extract_size
      rw [e1, e2] at hp
      exact hp
    have hlen : d'.toList.length = xs.length := by simpa using hs'
    refine ⟨rfl, d'.toList, hperm, ?_, ?_, ?_⟩
    · rw [List.pairwise_iff_getElem]
      intro i j hi hj hij hlt
      have h1 := hsort i j (Nat.zero_le _) hij (by simp at hj ⊢; omega)
      have hi' : i < d'.size := by simpa using hi
      have hj' : j < d'.size := by simpa using hj
      rw [getElem!_pos d' j hj', getElem!_pos d' i hi'] at h1
      simp only [ltOf, decide_eq_false_iff_not, cfE_lt] at h1
      exact h1 hlt
    · unfold sortWorldK putRowK
      rw [flat_eq]
      unfold Own3
      rw [hlen]
      refine ⟨by rw [flat3_len, hlen], .inr ⟨gb, cap, putCells id 0 (flat3 d'.toList).toArray cur, rfl, hbase, ?_, r1, r2, by simpa [putCells] using r3, ?_⟩⟩
      · rw [heap_grow_old _ _ (by simpa using hgl)]
        simp [putRow, mapBlock, Sort.ahead, Array.getElem?_modify, hgb, onCells]
      · have h1 : (flat3 d'.toList).toArray.size = xs.length * 3 := by rw [List.size_toArray, flat3_len, hlen]
        have h2 := put_take cur (flat3 d'.toList).toArray (by rw [h1, r3]; exact Nat.mul_le_mul_right 3 r1)
        rw [h1] at h2
        exact h2
    · unfold sortWorldK putRowK
      have hg : w.grownBy (grow (putRow id (Sort.ahead w nn) gb 0 (flatK encE 3 d')) os) (some gb) := by
        refine ⟨rfl, rfl, rfl, by simp, fun k hk hne => ?_⟩
        rw [heap_grow_old _ _ (by simpa using hk)]
        have : gb ≠ k := fun e => hne (by rw [e])
        simp [putRow, mapBlock, Sort.ahead, Array.getElem?_modify, this]
      exact (Below.refl base w).grown hg hb (fun j hj => by cases hj; exact hbase)
end Go.Proofs.YtmbdacfgmiielaaGreat
namespace Go.Proofs.YtmbdacfgmiielaaGreat
set_option linter.unusedSimpArgs false
set_option linter.unusedVariables false
set_option maxRecDepth 100000
open Go.RowKit

theorem eqEd_run (a b c a' b' c' : Int) (w : World) : (binOp .eql 76 (.agg #[.int .i64 a, .int .i64 b, .int .i64 c]) (.agg #[.int .i64 a', .int .i64 b', .int .i64 c'])).run Tryz.prog w = .ok (.bool (decide ((⟨a, b, c⟩ : T3) = ⟨a', b', c'⟩))) w := by
  have u3 := Tryz.underlying3
  have hS : Tryz.prog.underlying 76 = some (.struct (Tryz.prog.fieldsOf 76)) := by kernel_rfl
  have hp : Tryz.prog.stoodInHeld 76 = false := by kernel_rfl
  rw [run_eql_struct, show (10000 : Nat) = 9999 + 1 from rfl, run_equalIn_agg w 9999 76 _ _ hS hp]
  simp only [Program.fieldsOf, Tryz.underlying76]
  go_simp
  by_cases h1 : a = a' <;> by_cases h2 : b = b' <;> by_cases h3 : c = c' <;> simp [h1, h2, h3]
theorem eqEd_guard : Tryz.prog.eqGuardType Tryz.prog.depth 76 = false := by kernel_rfl

theorem clipE_c (A : Option Addr) (n c : Nat) (w : World) (h : n ≤ c) : Calls Tryz.prog 82 #[.slice A n c] w fun e w' => e = .returned (.slice A n n) ∧ w = w' := by
  go_enter Tryz.func82, Tryz.ntmps82
  go_wp2
  go_ret
  exact ⟨rfl, rfl⟩
end Go.Proofs.YtmbdacfgmiielaaGreat
