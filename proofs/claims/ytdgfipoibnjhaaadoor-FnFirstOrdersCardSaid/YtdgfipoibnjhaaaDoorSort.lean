/-
  slices.Sorted(slices.Values(xs)): a new slice with the same numbers, ascending; slices.Equal.
-/
import Derived.Test.YtdgfipoibnjhaaaDoorVals
import Derived.Test.YtdgfipoibnjhaaaDoorRes
import Derived.Lib.SlKeysI
import Derived.Shelf.Sort.Plain
import Derived.Shelf.Slices.In.SortNone
import Derived.Sort.EveryDepth
import Derived.Deep.QuietTactic
import Derived.BigQuiet
namespace Go.Proofs.YtdgfipoibnjhaaaDoor
set_option linter.unusedSimpArgs false
set_option linter.unusedVariables false
set_option maxRecDepth 100000
open Go.RowKit Go.Shelf Go.Sort

def Tryd.lays189_ren : Go.Shelf.Ren := ⟨fun | 189 => 82 | 125 => 105 | 257 => 104 | 128 => 121 | 129 => 122 | 294 => 112 | 295 => 113 | 296 => 114 | 297 => 115 | 298 => 116 | 299 => 117 | 216 => 118 | 300 => 119 | 301 => 120 | 328 => 128 | 329 => 129 | 330 => 130 | 331 => 131 | 332 => 132 | 215 => 133 | 343 => 138 | n => n, fun | 28 => 41 | 3 => 3 | 46 => 108 | 0 => 0 | 51 => 130 | 53 => 132 | 4 => 4 | 183 => 123 | 182 => 122 | 131 => 94 | 5 => 5 | 9 => 9 | 218 => 138 | 222 => 142 | 228 => 147 | 229 => 148 | n => n, fun | n => n⟩
theorem Tryd.lays189 : Go.Proofs.Lays.n189 Tryd.prog Tryd.lays189_ren := {
  mixed := by kernel_rfl
  f125 := Tryd.func105.trans (congrArg some (by kernel_rfl))
  f128 := Tryd.func121.trans (congrArg some (by kernel_rfl))
  f129 := Tryd.func122.trans (congrArg some (by kernel_rfl))
  f189 := Tryd.func82.trans (congrArg some (by kernel_rfl))
  f215 := Tryd.func133.trans (congrArg some (by kernel_rfl))
  f216 := Tryd.func118.trans (congrArg some (by kernel_rfl))
  f257 := Tryd.func104.trans (congrArg some (by kernel_rfl))
  f294 := Tryd.func112.trans (congrArg some (by kernel_rfl))
  f295 := Tryd.func113.trans (congrArg some (by kernel_rfl))
  f296 := Tryd.func114.trans (congrArg some (by kernel_rfl))
  f297 := Tryd.func115.trans (congrArg some (by kernel_rfl))
  f298 := Tryd.func116.trans (congrArg some (by kernel_rfl))
  f299 := Tryd.func117.trans (congrArg some (by kernel_rfl))
  f300 := Tryd.func119.trans (congrArg some (by kernel_rfl))
  f301 := Tryd.func120.trans (congrArg some (by kernel_rfl))
  f328 := Tryd.func128.trans (congrArg some (by kernel_rfl))
  f329 := Tryd.func129.trans (congrArg some (by kernel_rfl))
  f330 := Tryd.func130.trans (congrArg some (by kernel_rfl))
  f331 := Tryd.func131.trans (congrArg some (by kernel_rfl))
  f332 := Tryd.func132.trans (congrArg some (by kernel_rfl))
  f343 := Tryd.func138.trans (congrArg some (by kernel_rfl))
  t0 := Tryd.underlying0
  a0 := Tryd.isAgg0
  z0 := Tryd.sizeOf0
  v0 := Tryd.zeroValue0
  t3 := Tryd.underlying3
  a3 := Tryd.isAgg3
  z3 := Tryd.sizeOf3
  v3 := Tryd.zeroValue3
  t4 := Tryd.underlying4
  a4 := Tryd.isAgg4
  z4 := Tryd.sizeOf4
  v4 := Tryd.zeroValue4
  t5 := Tryd.underlying5
  a5 := Tryd.isAgg5
  z5 := Tryd.sizeOf5
  v5 := Tryd.zeroValue5
  t9 := Tryd.underlying9
  a9 := Tryd.isAgg9
  z9 := Tryd.sizeOf9
  v9 := Tryd.zeroValue9
  t28 := Tryd.underlying41
  a28 := Tryd.isAgg41
  z28 := Tryd.sizeOf41
  v28 := Tryd.zeroValue41
  t46 := Tryd.underlying108
  a46 := Tryd.isAgg108
  z46 := Tryd.sizeOf108
  v46 := Tryd.zeroValue108
  t51 := Tryd.underlying130
  a51 := Tryd.isAgg130
  z51 := Tryd.sizeOf130
  v51 := Tryd.zeroValue130
  t53 := Tryd.underlying132
  a53 := Tryd.isAgg132
  z53 := Tryd.sizeOf132
  v53 := Tryd.zeroValue132
  t131 := Tryd.underlying94
  a131 := Tryd.isAgg94
  z131 := Tryd.sizeOf94
  v131 := Tryd.zeroValue94
  t182 := Tryd.underlying122
  a182 := Tryd.isAgg122
  z182 := Tryd.sizeOf122
  v182 := Tryd.zeroValue122
  t183 := Tryd.underlying123
  a183 := Tryd.isAgg123
  z183 := Tryd.sizeOf123
  v183 := Tryd.zeroValue123
  t218 := Tryd.underlying138
  a218 := Tryd.isAgg138
  z218 := Tryd.sizeOf138
  v218 := Tryd.zeroValue138
  t222 := Tryd.underlying142
  a222 := Tryd.isAgg142
  z222 := Tryd.sizeOf142
  v222 := Tryd.zeroValue142
  t228 := Tryd.underlying147
  a228 := Tryd.isAgg147
  z228 := Tryd.sizeOf147
  v228 := Tryd.zeroValue147
  t229 := Tryd.underlying148
  a229 := Tryd.isAgg148
  z229 := Tryd.sizeOf148
  v229 := Tryd.zeroValue148 }
/-- ascending -/
def srt (xs : List Int) : List Int := xs.mergeSort fun x y => decide (x ≤ y)
theorem srt_len (xs : List Int) : (srt xs).length = xs.length := by simp [srt]
theorem values_c (A : Option Addr) (n c : Nat) (w : World) : Calls Tryd.prog 42 #[.slice A n c] w fun e w' => e = .returned (.func (.func 83) #[] #[.pointer (some ⟨w.heap.size, 0, none⟩)]) ∧ w' = w.alloc (.cells #[.slice A n c] 41) := by
  go_enter Tryd.func42, Tryd.ntmps42
  go_wp2
  go_ret
  exact ⟨rfl, rfl⟩
/-- what Collect asks of the box that Values made -/
def Boxd (w : World) (Bs : Nat) (zs : List Int) : Prop := ∃ A cap, Bs < w.heap.size ∧ w.cell? ⟨Bs, 0, none⟩ = some (.slice A zs.length cap) ∧ Ints Any w A zs
theorem Boxd.ext {w w' : World} {Bs : Nat} {zs : List Int} (h : Boxd w Bs zs) (hE : Ext w w') : Boxd w' Bs zs := by
  obtain ⟨A, cap, h1, h2, h3⟩ := h
  exact ⟨A, cap, Nat.lt_of_lt_of_le h1 hE.size, hE.keep h1 h2, h3.ext hE⟩
theorem Boxd.made {w : World} {S : Nat → Prop} {A : Option Addr} {c : Nat} {zs : List Int} (h : Ints S w A zs) : Boxd (w.alloc (.cells #[.slice A zs.length c] 41)) w.heap.size zs :=
  ⟨A, c, by simp, (Blk.new w 41 #[.slice A zs.length c]).cell 0, SlAt.mono (h.ext (show Ext w (w.alloc (.cells #[.slice A zs.length c] 41)) by (repeat' (first | (with_reducible exact Below.refl _ _) | (with_reducible refine Below.mono (by assumption) ?_) | (with_reducible refine Below.trans ?_ (Below.mono (by assumption) ?_)) | (with_reducible refine Below.alloc ?_ ?_ _) | (with_reducible refine Below.drew ?_) | (with_reducible refine below_drewN ?_ _) | (with_reducible refine Below.setCell ?_ ?_ _) | (simp only [World.size_alloc, World.size_setCell, World.size_drew, size_drewN]; omega) | omega)))) (fun _ _ _ => trivial) (fun _ _ h => h)⟩
theorem collect_c (Bs : Nat) (zs : List Int) (hl : zs.length ≤ 1048576) (w : World) (h : Boxd w Bs zs) :
    Calls Tryd.prog 81 #[.func (.func 83) #[] #[.pointer (some ⟨Bs, 0, none⟩)]] w fun e w' => ∃ v, e = .returned v ∧ Own1 w' w.heap.size 3 v zs ∧ Ext w w' := by
  obtain ⟨A, cap, h1, h2, h3⟩ := h
  have C := callsIn_wide.1 (appendSeq_in 3 (Nat.le_refl _) Bs A cap zs hl w h1 h2 (fun j x hx => by
    obtain ⟨b, off, us, e, _, hb, _, hr, hc⟩ := h3 j x hx
    cases hr
    exact ⟨b, off, e, hb, by simpa using hc 0 _ rfl⟩))
  have HC := Lib.hid C
  clear h2 h3 C
  go_enter Tryd.func81, Tryd.ntmps81
  go_wp2_with (fail)
  go_at_call 103
  refine HC.out.mono ?_
  rintro e w1 ⟨v, rfl, ho, hb⟩
  have HO := Lib.hid (show Own1 w1 w.heap.size 3 v zs from ho)
  clear ho
  go_wp2
  go_ret
  exact ⟨v, rfl, HO.out, hb⟩
theorem sort_c (zs : List Int) (hl : zs.length ≤ 1048576) (base : Nat) (v : Value) (w : World) (h : Own1 w base 3 v zs) (hb : base ≤ w.heap.size) :
    Calls Tryd.prog 82 #[v] w fun e w' => e = .returned (.tuple #[]) ∧ Own1 w' base 3 v (srt zs) ∧ Below base w w' := by
  rcases h.2 with ⟨rfl, hz⟩ | ⟨gb, cap, cur, rfl, hbase, hgb, r1, r2, r3, r4⟩
  · obtain rfl : zs = [] := List.eq_nil_of_length_eq_zero hz
    refine (calls_of_every_depth (fun D => AnyS.slices_Sort_int_none_alone Tryd.lays189 D none 0 w) : Calls Tryd.prog 82 #[.slice none 0 0] w _).mono ?_
    rintro e w' ⟨rfl, rfl⟩
    exact ⟨rfl, by simpa [srt] using h, Below.refl _ _⟩
  · have hH : Holds (Value.int .i64) w gb 0 zs.toArray := holds_of_block_i hgb (by simpa [flat1] using r4)
    have hgl : gb < w.heap.size := (Array.getElem?_eq_some_iff.1 hgb).1
    refine (Any.slices_Sort_int Tryd.lays189 gb 0 cap zs w hH hgl (by omega) : Calls Tryd.prog 82 #[.slice (some ⟨gb, 0, none⟩) zs.length cap] w _).mono ?_
    rintro e w' ⟨rfl, nn, os, rfl⟩
    refine ⟨rfl, ?_, (Below.refl base w).grown (grownBy_sorted_i _) hb (fun j hj => by cases hj; exact hbase)⟩
    have := ownsRow_sorted_i (w := w) (n := nn) (os := os) (ss := zs) (ts := srt zs) (srt_len zs) hbase hgb r1 r2 r3
    unfold Own1
    rw [srt_len]
    exact this
theorem sorted_c (Bs : Nat) (zs : List Int) (hl : zs.length ≤ 1048576) (w : World) (h : Boxd w Bs zs) :
    Calls Tryd.prog 41 #[.func (.func 83) #[] #[.pointer (some ⟨Bs, 0, none⟩)]] w fun e w' => ∃ v, e = .returned v ∧ Own1 w' w.heap.size 3 v (srt zs) ∧ Ext w w' := by
  have HB := Lib.hid h
  clear h
  go_enter Tryd.func41, Tryd.ntmps41
  go_wp2_with (fail)
  go_at_call 81
  refine (collect_c Bs zs hl _ HB.out).mono ?_
  rintro e w1 ⟨v, rfl, ho, hb⟩
  have HO := Lib.hid ho
  have HE := Lib.hid hb
  have hz := hb.size
  clear ho hb
  go_wp2_with (fail)
  go_at_call 82
  refine (sort_c zs hl w.heap.size v _ HO.out (by omega)).mono ?_
  rintro e w2 ⟨rfl, ho2, hb2⟩
  have HO2 := Lib.hid ho2
  have hE2 : Ext w w2 := HE.out.trans hb2
  have HE2 := Lib.hid hE2
  clear ho2 hb2 hE2
  go_wp2
  go_ret
  exact ⟨v, rfl, HO2.out, HE2.out⟩
set_option maxHeartbeats 1000000 in
theorem equalInt_c (xs ys : List Int) (S S' : Nat → Prop) (A B : Option Addr) (c d : Nat) (w : World) (hx : Ints S w A xs) (hy : Ints S' w B ys) (hn : xs.length ≤ 1048576) (hm : ys.length ≤ 1048576) :
    Calls Tryd.prog 44 #[.slice A xs.length c, .slice B ys.length d] w fun e w' => e = .returned (.bool (decide (xs = ys))) ∧ Ext w w' := by
  by_cases hl : xs.length = ys.length
  · have e1 : ((xs.length : Int) != (ys.length : Int)) = false := by simp; omega
    have e1n : (xs.length != ys.length) = false := by simp; omega
    have HL := Lib.hid hl
    clear hl
    go_enter Tryd.func44, Tryd.ntmps44
    go_wp2
    go_loopw [13] (fun i wr => ∃ k : Nat, k ≤ xs.length ∧ i = .int .i64 k ∧ xs.take k = ys.take k ∧ Ext w wr) (fun i _ => xs.length - (intOf i).toNat)
    case atStart => exact ⟨0, Nat.zero_le _, rfl, rfl, Below.refl _ _⟩
    case round =>
      obtain ⟨k, hk, rfl, htk, hE⟩ := hrel
      have HTk := Lib.hid htk
      have HE := Lib.hid hE
      have hl := HL.out
      clear htk
      by_cases hlt : k < xs.length
      · obtain ⟨x0, b, off, hxk, rfl, _, hb0, c0⟩ := (hx.ext hE).at_ hlt
        obtain ⟨y0, b', off', hyk, rfl, _, hb0', d0⟩ := (hy.ext hE).at_ (i := k) (by omega)
        have hk2 : k < ys.length := by omega
        have hki : (k : Int) < xs.length := by omega
        have hki2 : (k : Int) < ys.length := by omega
        have HX := Lib.hid hxk
        have HY := Lib.hid hyk
        clear hxk hyk hE hl
        by_cases he : x0 = y0
        · subst he
          have e2 : (x0 != x0) = false := by simp
          have hst : xs.take (k + 1) = ys.take (k + 1) := by rw [List.take_add_one, List.take_add_one, HX.out, HY.out, HTk.out]
          have HSt := Lib.hid hst
          clear hst
          go_wp2
          go_quiet (fail)
          go_wp2
          go_roundw
          case rel => exact ⟨k + 1, by omega, by go_num, HSt.out, below_drewN HE.out _⟩
          case measure => simp [intOf]; omega
        · have e2 : (x0 != y0) = true := by simpa using he
          have hne : decide (xs = ys) = false := decide_eq_false (fun e => he (by have h1 := HX.out; rw [e, HY.out] at h1; exact (Option.some.inj h1).symm))
          have HNe := Lib.hid hne
          clear hne he
          go_wp2
          go_quiet (fail)
          go_wp2
          go_ret
          exact ⟨ret_bool HNe.out.symm, below_drewN HE.out _⟩
      · obtain rfl : k = xs.length := by omega
        have heq : xs = ys := by
          have h1 := HTk.out
          rw [List.take_length, hl, List.take_length] at h1
          exact h1
        have HEq := Lib.hid (decide_eq_true heq)
        clear heq hl hE
        go_wp2
        go_ret
        exact ⟨ret_bool HEq.out.symm, HE.out⟩
  · have e1 : ((xs.length : Int) != (ys.length : Int)) = true := by simp; omega
    have hne : decide (xs = ys) = false := decide_eq_false (fun e => hl (by rw [e]))
    rw [hne]
    clear hne
    have HL := Lib.hid hl
    clear hl
    go_enter Tryd.func44, Tryd.ntmps44
    go_wp2
    go_ret
    exact ⟨rfl, by (repeat' (first | (with_reducible exact Below.refl _ _) | (with_reducible refine Below.mono (by assumption) ?_) | (with_reducible refine Below.trans ?_ (Below.mono (by assumption) ?_)) | (with_reducible refine Below.alloc ?_ ?_ _) | (with_reducible refine Below.drew ?_) | (with_reducible refine below_drewN ?_ _) | (with_reducible refine Below.setCell ?_ ?_ _) | (simp only [World.size_alloc, World.size_setCell, World.size_drew, size_drewN]; omega) | omega))⟩
end Go.Proofs.YtdgfipoibnjhaaaDoor
