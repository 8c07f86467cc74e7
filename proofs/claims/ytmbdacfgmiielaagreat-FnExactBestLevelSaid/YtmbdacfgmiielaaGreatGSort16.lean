/-
  Contract of the reference's comparison of lists of different numbers; the same as sorting both.
-/
import Derived.Test.YtmbdacfgmiielaaGreatGLastV15
import Derived.Test.YtmbdacfgmiielaaGreatGInts5
import Derived.Lib.SlKeysI
import Derived.Shelf.Sort.Plain
import Derived.Shelf.Slices.In.SortNone
import Derived.Sort.EveryDepth
import Derived.Deep.QuietTactic
import Derived.BigQuiet
/-
  slices.Sorted(slices.Values(xs)): a new slice with the same numbers, ascending; slices.Equal.
-/
namespace Go.Proofs.YtmbdacfgmiielaaGreat
set_option linter.unusedSimpArgs false
set_option linter.unusedVariables false
set_option maxRecDepth 100000
open Go.RowKit Go.Shelf Go.Sort

def Tryz.lays189_ren : Go.Shelf.Ren := ⟨fun | 189 => 77 | 125 => 104 | 257 => 103 | 128 => 125 | 129 => 126 | 294 => 116 | 295 => 117 | 296 => 118 | 297 => 119 | 298 => 120 | 299 => 121 | 216 => 122 | 300 => 123 | 301 => 124 | 328 => 138 | 329 => 139 | 330 => 140 | 331 => 141 | 332 => 142 | 215 => 135 | 343 => 147 | n => n, fun | 28 => 45 | 3 => 3 | 46 => 104 | 0 => 0 | 51 => 140 | 53 => 142 | 4 => 4 | 183 => 134 | 182 => 133 | 131 => 96 | 5 => 5 | 9 => 9 | 218 => 150 | 222 => 154 | 228 => 159 | 229 => 160 | n => n, fun | n => n⟩
theorem Tryz.lays189 : Go.Proofs.Lays.n189 Tryz.prog Tryz.lays189_ren := {
  mixed := by kernel_rfl
  f125 := Tryz.func104.trans (congrArg some (by kernel_rfl))
  f128 := Tryz.func125.trans (congrArg some (by kernel_rfl))
  f129 := Tryz.func126.trans (congrArg some (by kernel_rfl))
  f189 := Tryz.func77.trans (congrArg some (by kernel_rfl))
  f215 := Tryz.func135.trans (congrArg some (by kernel_rfl))
  f216 := Tryz.func122.trans (congrArg some (by kernel_rfl))
  f257 := Tryz.func103.trans (congrArg some (by kernel_rfl))
  f294 := Tryz.func116.trans (congrArg some (by kernel_rfl))
  f295 := Tryz.func117.trans (congrArg some (by kernel_rfl))
  f296 := Tryz.func118.trans (congrArg some (by kernel_rfl))
  f297 := Tryz.func119.trans (congrArg some (by kernel_rfl))
  f298 := Tryz.func120.trans (congrArg some (by kernel_rfl))
  f299 := Tryz.func121.trans (congrArg some (by kernel_rfl))
  f300 := Tryz.func123.trans (congrArg some (by kernel_rfl))
  f301 := Tryz.func124.trans (congrArg some (by kernel_rfl))
  f328 := Tryz.func138.trans (congrArg some (by kernel_rfl))
  f329 := Tryz.func139.trans (congrArg some (by kernel_rfl))
  f330 := Tryz.func140.trans (congrArg some (by kernel_rfl))
  f331 := Tryz.func141.trans (congrArg some (by kernel_rfl))
  f332 := Tryz.func142.trans (congrArg some (by kernel_rfl))
  f343 := Tryz.func147.trans (congrArg some (by kernel_rfl))
  t0 := Tryz.underlying0
  a0 := Tryz.isAgg0
  z0 := Tryz.sizeOf0
  v0 := Tryz.zeroValue0
  t3 := Tryz.underlying3
  a3 := Tryz.isAgg3
  z3 := Tryz.sizeOf3
  v3 := Tryz.zeroValue3
  t4 := Tryz.underlying4
  a4 := Tryz.isAgg4
  z4 := Tryz.sizeOf4
  v4 := Tryz.zeroValue4
  t5 := Tryz.underlying5
  a5 := Tryz.isAgg5
  z5 := Tryz.sizeOf5
  v5 := Tryz.zeroValue5
  t9 := Tryz.underlying9
  a9 := Tryz.isAgg9
  z9 := Tryz.sizeOf9
  v9 := Tryz.zeroValue9
  t28 := Tryz.underlying45
  a28 := Tryz.isAgg45
  z28 := Tryz.sizeOf45
  v28 := Tryz.zeroValue45
  t46 := Tryz.underlying104
  a46 := Tryz.isAgg104
  z46 := Tryz.sizeOf104
  v46 := Tryz.zeroValue104
  t51 := Tryz.underlying140
  a51 := Tryz.isAgg140
  z51 := Tryz.sizeOf140
  v51 := Tryz.zeroValue140
  t53 := Tryz.underlying142
  a53 := Tryz.isAgg142
  z53 := Tryz.sizeOf142
  v53 := Tryz.zeroValue142
  t131 := Tryz.underlying96
  a131 := Tryz.isAgg96
  z131 := Tryz.sizeOf96
  v131 := Tryz.zeroValue96
  t182 := Tryz.underlying133
  a182 := Tryz.isAgg133
  z182 := Tryz.sizeOf133
  v182 := Tryz.zeroValue133
  t183 := Tryz.underlying134
  a183 := Tryz.isAgg134
  z183 := Tryz.sizeOf134
  v183 := Tryz.zeroValue134
  t218 := Tryz.underlying150
  a218 := Tryz.isAgg150
  z218 := Tryz.sizeOf150
  v218 := Tryz.zeroValue150
  t222 := Tryz.underlying154
  a222 := Tryz.isAgg154
  z222 := Tryz.sizeOf154
  v222 := Tryz.zeroValue154
  t228 := Tryz.underlying159
  a228 := Tryz.isAgg159
  z228 := Tryz.sizeOf159
  v228 := Tryz.zeroValue159
  t229 := Tryz.underlying160
  a229 := Tryz.isAgg160
  z229 := Tryz.sizeOf160
  v229 := Tryz.zeroValue160 }
/-- ascending -/
def srt (xs : List Int) : List Int := xs.mergeSort fun x y => decide (x ≤ y)
theorem srt_len (xs : List Int) : (srt xs).length = xs.length := by simp [srt]
theorem values_c (A : Option Addr) (n c : Nat) (w : World) : Calls Tryz.prog 47 #[.slice A n c] w fun e w' => e = .returned (.func (.func 78) #[] #[.pointer (some ⟨w.heap.size, 0, none⟩)]) ∧ w' = w.alloc (.cells #[.slice A n c] 45) := by
  go_enter Tryz.func47, Tryz.ntmps47
  go_wp2
  go_ret
  exact ⟨rfl, rfl⟩
/-- what Collect asks of the box that Values made -/
def Boxd (w : World) (Bs : Nat) (zs : List Int) : Prop := ∃ A cap, Bs < w.heap.size ∧ w.cell? ⟨Bs, 0, none⟩ = some (.slice A zs.length cap) ∧ Ints Any w A zs
theorem Boxd.ext {w w' : World} {Bs : Nat} {zs : List Int} (h : Boxd w Bs zs) (hE : Ext w w') : Boxd w' Bs zs := by
  obtain ⟨A, cap, h1, h2, h3⟩ := h
  exact ⟨A, cap, Nat.lt_of_lt_of_le h1 hE.size, hE.keep h1 h2, h3.ext hE⟩
theorem Boxd.made {w : World} {S : Nat → Prop} {A : Option Addr} {c : Nat} {zs : List Int} (h : Ints S w A zs) : Boxd (w.alloc (.cells #[.slice A zs.length c] 45)) w.heap.size zs :=
  ⟨A, c, by simp, (Blk.new w 45 #[.slice A zs.length c]).cell 0, SlAt.mono (h.ext (show Ext w (w.alloc (.cells #[.slice A zs.length c] 45)) by (repeat' (first | (with_reducible exact Below.refl _ _) | (with_reducible refine Below.mono (by assumption) ?_) | (with_reducible refine Below.trans ?_ (Below.mono (by assumption) ?_)) | (with_reducible refine Below.alloc ?_ ?_ _) | (with_reducible refine Below.drew ?_) | (with_reducible refine below_drewN ?_ _) | (with_reducible refine Below.setCell ?_ ?_ _) | (simp only [World.size_alloc, World.size_setCell, World.size_drew, size_drewN]; omega) | omega)))) (fun _ _ _ => trivial) (fun _ _ h => h)⟩
theorem collect_c (Bs : Nat) (zs : List Int) (hl : zs.length ≤ 1048576) (w : World) (h : Boxd w Bs zs) :
    Calls Tryz.prog 76 #[.func (.func 78) #[] #[.pointer (some ⟨Bs, 0, none⟩)]] w fun e w' => ∃ v, e = .returned v ∧ Own1 w' w.heap.size 3 v zs ∧ Ext w w' := by
  obtain ⟨A, cap, h1, h2, h3⟩ := h
  have C := callsIn_wide.1 (appendSeq_in 3 (Nat.le_refl _) Bs A cap zs hl w h1 h2 (fun j x hx => by
    obtain ⟨b, off, us, e, _, hb, _, hr, hc⟩ := h3 j x hx
    cases hr
    exact ⟨b, off, e, hb, by simpa using hc 0 _ rfl⟩))
  have HC := Lib.hid C
  clear h2 h3 C
  go_enter Tryz.func76, Tryz.ntmps76
  go_wp2_with (fail)
  go_at_call 102
  refine HC.out.mono ?_
  rintro e w1 ⟨v, rfl, ho, hb⟩
  have HO := Lib.hid (show Own1 w1 w.heap.size 3 v zs from ho)
  clear ho
  go_wp2
  go_ret
  exact ⟨v, rfl, HO.out, hb⟩
theorem sort_c (zs : List Int) (hl : zs.length ≤ 1048576) (base : Nat) (v : Value) (w : World) (h : Own1 w base 3 v zs) (hb : base ≤ w.heap.size) :
    Calls Tryz.prog 77 #[v] w fun e w' => e = .returned (.tuple #[]) ∧ Own1 w' base 3 v (srt zs) ∧ Below base w w' := by
  rcases h.2 with ⟨rfl, hz⟩ | ⟨gb, cap, cur, rfl, hbase, hgb, r1, r2, r3, r4⟩
  · obtain rfl : zs = [] := List.eq_nil_of_length_eq_zero hz
    refine (calls_of_every_depth (fun D => AnyS.slices_Sort_int_none_alone Tryz.lays189 D none 0 w) : Calls Tryz.prog 77 #[.slice none 0 0] w _).mono ?_
    rintro e w' ⟨rfl, rfl⟩
    exact ⟨rfl, by simpa [srt] using h, Below.refl _ _⟩
  · have hH : Holds (Value.int .i64) w gb 0 zs.toArray := holds_of_block_i hgb (by simpa [flat1] using r4)
    have hgl : gb < w.heap.size := (Array.getElem?_eq_some_iff.1 hgb).1
    refine (Any.slices_Sort_int Tryz.lays189 gb 0 cap zs w hH hgl (by omega) : Calls Tryz.prog 77 #[.slice (some ⟨gb, 0, none⟩) zs.length cap] w _).mono ?_
    rintro e w' ⟨rfl, nn, os, rfl⟩
    refine ⟨rfl, ?_, (Below.refl base w).grown (grownBy_sorted_i _) hb (fun j hj => by cases hj; exact hbase)⟩
    have := ownsRow_sorted_i (w := w) (n := nn) (os := os) (ss := zs) (ts := srt zs) (srt_len zs) hbase hgb r1 r2 r3
    unfold Own1
    rw [srt_len]
    exact this
theorem sorted_c (Bs : Nat) (zs : List Int) (hl : zs.length ≤ 1048576) (w : World) (h : Boxd w Bs zs) :
    Calls Tryz.prog 46 #[.func (.func 78) #[] #[.pointer (some ⟨Bs, 0, none⟩)]] w fun e w' => ∃ v, e = .returned v ∧ Own1 w' w.heap.size 3 v (srt zs) ∧ Ext w w' := by
  have HB := Lib.hid h
  clear h
  go_enter Tryz.func46, Tryz.ntmps46
  go_wp2_with (fail)
  go_at_call 76
  refine (collect_c Bs zs hl _ HB.out).mono ?_
  rintro e w1 ⟨v, rfl, ho, hb⟩
  have HO := Lib.hid ho
  have HE := Lib.hid hb
  have hz := hb.size
  clear ho hb
  go_wp2_with (fail)
  go_at_call 77
  refine (sort_c zs hl w.heap.size v _ HO.out (by omega)).mono ?_
  rintro e w2 ⟨rfl, ho2, hb2⟩
  have HO2 := Lib.hid ho2
  have hE2 : Ext w w2 := HE.out.trans hb2
  have HE2 := Lib.hid hE2
  clear ho2 hb2 hE2
  go_wp2
  go_ret
  exact ⟨v, rfl, HO2.out, HE2.out⟩
set_option maxHeartbeats 1000000 in
theorem equalInt_c (xs ys : List Int) (S S' : Nat → Prop) (A B : Option Addr) (c d : Nat) (w : World) (hx : Ints S w A xs) (hy : Ints S' w B ys) (hn : xs.length ≤ 1048576) (hm : ys.length ≤ 1048576) :
    Calls Tryz.prog 48 #[.slice A xs.length c, .slice B ys.length d] w fun e w' => e = .returned (.bool (decide (xs = ys))) ∧ Ext w w' := by
  by_cases hl : xs.length = ys.length
  · have e1 : ((xs.length : Int) != (ys.length : Int)) = false := by simp; omega
    have e1n : (xs.length != ys.length) = false := by simp; omega
    have HL := Lib.hid hl
    clear hl
    go_enter Tryz.func48, Tryz.ntmps48
    go_wp2
    go_loopw [13] (fun i wr => ∃ k : Nat, k ≤ xs.length ∧ i = .int .i64 k ∧ xs.take k = ys.take k ∧ Ext w wr) (fun i _ => xs.length - (intOf i).toNat)
    case atStart => exact ⟨0, Nat.zero_le _, rfl, rfl, Below.refl _ _⟩
    case round =>
      obtain ⟨k, hk, rfl, htk, hE⟩ := hrel
      have HTk := Lib.hid htk
      have HE := Lib.hid hE
      have hl := HL.out
      clear htk
      by_cases hlt : k < xs.length
      · obtain ⟨x0, b, off, hxk, rfl, _, hb0, c0⟩ := (hx.ext hE).at_ hlt
        obtain ⟨y0, b', off', hyk, rfl, _, hb0', d0⟩ := (hy.ext hE).at_ (i := k) (by omega)
        have hk2 : k < ys.length := by omega
        have hki : (k : Int) < xs.length := by omega
        have hki2 : (k : Int) < ys.length := by omega
        have HX := Lib.hid hxk
        have HY := Lib.hid hyk
        clear hxk hyk hE hl
        by_cases he : x0 = y0
        · subst he
          have e2 : (x0 != x0) = false := by simp
          have hst : xs.take (k + 1) = ys.take (k + 1) := by rw [List.take_add_one, List.take_add_one, HX.out, HY.out, HTk.out]
          have HSt := Lib.hid hst
          clear hst
          go_wp2
          go_quiet (fail)
          go_wp2
          go_roundw
          case rel => exact ⟨k + 1, by omega, by go_num, HSt.out, below_drewN HE.out _⟩
          case measure => simp [intOf]; omega
        · have e2 : (x0 != y0) = true := by simpa using he
          have hne : decide (xs = ys) = false := decide_eq_false (fun e => he (by have h1 := HX.out; rw [e, HY.out] at h1; exact (Option.some.inj h1).symm))
          have HNe := Lib.hid hne
          clear hne he
          go_wp2
          go_quiet (fail)
          go_wp2
          go_ret
          exact ⟨ret_bool HNe.out.symm, below_drewN HE.out _⟩
      · obtain rfl : k = xs.length := by omega
        have heq : xs = ys := by
          have h1 := HTk.out
          rw [List.take_length, hl, List.take_length] at h1
          exact h1
        have HEq := Lib.hid (decide_eq_true heq)
        clear heq hl hE
        go_wp2
        go_ret
        exact ⟨ret_bool HEq.out.symm, HE.out⟩
  · have e1 : ((xs.length : Int) != (ys.length : Int)) = true := by simp; omega
    have hne : decide (xs = ys) = false := decide_eq_false (fun e => hl (by rw [e]))
    rw [hne]
    clear hne
    have HL := Lib.hid hl
    clear hl
    go_enter Tryz.func48, Tryz.ntmps48
    go_wp2
    go_ret
    exact ⟨rfl, by (repeat' (first | (with_reducible exact Below.refl _ _) | (with_reducible refine Below.mono (by assumption) ?_) | (with_reducible refine Below.trans ?_ (Below.mono (by assumption) ?_)) | (with_reducible refine Below.alloc ?_ ?_ _) | (with_reducible refine Below.drew ?_) | (with_reducible refine below_drewN ?_ _) | (with_reducible refine Below.setCell ?_ ?_ _) | (simp only [World.size_alloc, World.size_setCell, World.size_drew, size_drewN]; omega) | omega))⟩
end Go.Proofs.YtmbdacfgmiielaaGreat
namespace Go.Proofs.YtmbdacfgmiielaaGreat
set_option linter.unusedSimpArgs false
set_option linter.unusedVariables false
set_option maxRecDepth 100000
open Go.RowKit

theorem srt_perm (a b : List Int) : srt a = srt b ↔ a.Perm b := by
  constructor
  · intro h
    have h1 := List.mergeSort_perm a (fun x y : Int => decide (x ≤ y))
    have h2 := List.mergeSort_perm b (fun x y : Int => decide (x ≤ y))
    unfold srt at h
    rw [h] at h1
    exact h1.symm.trans h2
  · intro h
    have h1 := List.mergeSort_perm a (fun x y : Int => decide (x ≤ y))
    have h2 := List.mergeSort_perm b (fun x y : Int => decide (x ≤ y))
    have p1 := List.pairwise_mergeSort (le := fun x y : Int => decide (x ≤ y)) (fun a b c h1 h2 => by simp at *; omega) (fun a b => by simp; omega) a
    have p2 := List.pairwise_mergeSort (le := fun x y : Int => decide (x ≤ y)) (fun a b c h1 h2 => by simp at *; omega) (fun a b => by simp; omega) b
    refine List.Perm.eq_of_pairwise (le := fun x y : Int => x ≤ y) ?_ ?_ ?_ ((h1.trans h).trans h2.symm)
    · intro a b _ _ h1 h2; omega
    · exact p1.imp (fun h => by simpa using h)
    · exact p2.imp (fun h => by simpa using h)
theorem l7v_srt {a b : List Int} (hb : b.Nodup) : l7v a b = decide (srt a = srt b) := by
  rw [Bool.eq_iff_iff, decide_eq_true_eq, l7v_perm hb, srt_perm]
theorem count_take1 {xs : List Int} {j : Nat} {x y : Int} (hj : xs[j]? = some x) : (xs.take (j + 1)).count y = (xs.take j).count y + if x = y then 1 else 0 := by
  rw [List.take_add_one, hj, List.count_append]
  simp [List.count_cons]
set_option maxHeartbeats 2000000 in
theorem l7Same_c (a b : List Int) (S S' : Nat → Prop) (A B : Option Addr) (c d : Nat) (w : World) (hx : Ints S w A a) (hy : Ints S' w B b) (hn : a.length ≤ 1048576) (hm : b.length ≤ 1048576) :
    Calls Tryz.prog 59 #[.slice A a.length c, .slice B b.length d] w fun e w' => e = .returned (.bool (l7v a b)) ∧ Ext w w' := by
  have hv : l7v a b = (b.all (fun x => decide (a.count x = 1)) && decide (a.length = b.length)) := rfl
  generalize l7v a b = r at hv ⊢
  have HV := Lib.hid hv
  clear hv
  go_enter Tryz.func59, Tryz.ntmps59
  go_wp2
  go_loopw [5] (fun i wr => ∃ k : Nat, k ≤ b.length ∧ i = .int .i64 k ∧ (∀ x ∈ b.take k, a.count x = 1) ∧ Ext w wr) (fun i _ => b.length - (intOf i).toNat)
  case atStart => exact ⟨0, Nat.zero_le _, rfl, (fun x h => by simp at h), Below.refl _ _⟩
  case round =>
    obtain ⟨k, hk, rfl, hal, hE⟩ := hrel
    have HA := Lib.hid hal
    have HE := Lib.hid hE
    clear hal
    by_cases hlt : k < b.length
    · obtain ⟨y, b', off', hyk, rfl, _, hb0', d0⟩ := (hy.ext hE).at_ hlt
      have HY := Lib.hid hyk
      have hki : (k : Int) < b.length := by omega
      clear hyk hE
      obtain ⟨wo, rfl⟩ : ∃ wo : World, wo = wr := ⟨_, rfl⟩
      go_wp2
      go_loopw [6, 7] (fun q i W => ∃ j : Nat, j ≤ a.length ∧ i = .int .i64 j ∧ q = .int .i64 ((a.take j).count y : Nat) ∧ Ext wo W) (fun _ i _ => a.length - (intOf i).toNat)
      case atStart => exact ⟨0, Nat.zero_le _, rfl, by simp, Below.refl _ _⟩
      case round =>
        obtain ⟨j, hj, rfl, rfl, hEi⟩ := hrel
        have HEi := Lib.hid hEi
        have hcl : (a.take j).count y ≤ j := Nat.le_trans (List.count_le_length) (by simp; omega)
        have d1 := hEi.keep hb0' d0
        by_cases hlj : j < a.length
        · obtain ⟨x, b2, off2, hxk, rfl, _, hb2, c0⟩ := (hx.ext (HE.out.tr hEi)).at_ hlj
          have hct := count_take1 (y := y) hxk
          have hji : (j : Int) < a.length := by omega
          clear hxk hEi
          by_cases he : x = y
          · subst he
            have e2 : (x == x) = true := by simp
            rw [if_pos rfl] at hct
            have HCt := Lib.hid hct
            clear hct
            go_wp2
            go_quiet (fail)
            go_wp2
            go_roundw
            case rel => exact ⟨j + 1, by omega, by go_num, by rw [HCt.out]; go_num, below_drewN HEi.out _⟩
            case measure => simp [intOf]; omega
          · have e2 : (x == y) = false := by simpa using he
            rw [if_neg he] at hct
            have HCt := Lib.hid hct
            clear hct he
            go_wp2
            go_quiet (fail)
            go_wp2
            go_roundw
            case rel => exact ⟨j + 1, by omega, by go_num, by rw [HCt.out]; go_num, below_drewN HEi.out _⟩
            case measure => simp [intOf]; omega
        · obtain rfl : j = a.length := by omega
          rw [List.take_length] at hcl ⊢
          clear hEi
          by_cases h1 : a.count y = 1
          · have e3 : (((a.count y : Nat) : Int) != 1) = false := by simp; omega
            have hst : ∀ x ∈ b.take (k + 1), a.count x = 1 := fun x hx => by
              rw [List.take_add_one, HY.out] at hx
              rcases List.mem_append.1 hx with hx | hx
              · exact HA.out x hx
              · simp at hx
                subst hx
                exact h1
            have HSt := Lib.hid hst
            clear hst h1
            go_wp2
            exact ⟨⟨k + 1, by omega, by go_num, HSt.out, HE.out.tr HEi.out⟩, by simp [intOf]; omega⟩
          · have e3 : (((a.count y : Nat) : Int) != 1) = true := by simp; omega
            have hr : r = false := by
              rw [HV.out, Bool.and_eq_false_iff]
              left
              rw [List.all_eq_false]
              exact ⟨y, List.mem_of_getElem? HY.out, by simpa using h1⟩
            have HR := Lib.hid hr
            clear hr h1
            go_wp2
            go_ret
            exact ⟨ret_bool HR.out.symm, HE.out.tr HEi.out⟩
    · obtain rfl : k = b.length := by omega
      have hall : b.all (fun x => decide (a.count x = 1)) = true := by
        rw [List.all_eq_true]
        intro x hx
        have := HA.out x (by rw [List.take_length]; exact hx)
        simpa using this
      have hr : r = decide (a.length = b.length) := by rw [HV.out, hall, Bool.true_and]
      have HR := Lib.hid hr
      clear hr hall hE
      go_wp2
      go_ret
      exact ⟨ret_bool (by rw [HR.out]; rw [Bool.eq_iff_iff]; simp; try omega), HE.out⟩
end Go.Proofs.YtmbdacfgmiielaaGreat
