/-
  slices.Sorted(slices.Values(xs)): a new slice with the same numbers, ascending; slices.Equal.
-/
import Derived.Test.YtknphamfindohaaVals
import Derived.Test.YtknphamfindohaaRes
import Derived.Lib.SlKeysI
import Derived.Shelf.Sort.Plain
import Derived.Shelf.Slices.In.SortNone
import Derived.Sort.EveryDepth
import Derived.Deep.QuietTactic
import Derived.BigQuiet
namespace Go.Proofs.Ytknphamfindohaa
set_option linter.unusedSimpArgs false
set_option linter.unusedVariables false
set_option maxRecDepth 100000
open Go.RowKit Go.Shelf Go.Sort

def Try.lays189_ren : Go.Shelf.Ren := ⟨fun | 189 => 74 | 125 => 88 | 257 => 92 | 128 => 104 | 129 => 105 | 294 => 107 | 295 => 108 | 296 => 109 | 297 => 110 | 298 => 111 | 299 => 112 | 216 => 113 | 300 => 114 | 301 => 115 | 328 => 121 | 329 => 117 | 330 => 118 | 331 => 122 | 332 => 123 | 215 => 106 | 343 => 125 | n => n, fun | 28 => 40 | 3 => 3 | 46 => 106 | 0 => 0 | 51 => 120 | 53 => 122 | 4 => 4 | 183 => 114 | 182 => 113 | 131 => 64 | 5 => 5 | 9 => 9 | 218 => 129 | 222 => 133 | 228 => 137 | 229 => 138 | n => n, fun | n => n⟩
theorem Try.lays189 : Go.Proofs.Lays.n189 Try.prog Try.lays189_ren := {
  mixed := by kernel_rfl
  f125 := Try.func88.trans (congrArg some (by kernel_rfl))
  f128 := Try.func104.trans (congrArg some (by kernel_rfl))
  f129 := Try.func105.trans (congrArg some (by kernel_rfl))
  f189 := Try.func74.trans (congrArg some (by kernel_rfl))
  f215 := Try.func106.trans (congrArg some (by kernel_rfl))
  f216 := Try.func113.trans (congrArg some (by kernel_rfl))
  f257 := Try.func92.trans (congrArg some (by kernel_rfl))
  f294 := Try.func107.trans (congrArg some (by kernel_rfl))
  f295 := Try.func108.trans (congrArg some (by kernel_rfl))
  f296 := Try.func109.trans (congrArg some (by kernel_rfl))
  f297 := Try.func110.trans (congrArg some (by kernel_rfl))
  f298 := Try.func111.trans (congrArg some (by kernel_rfl))
  f299 := Try.func112.trans (congrArg some (by kernel_rfl))
  f300 := Try.func114.trans (congrArg some (by kernel_rfl))
  f301 := Try.func115.trans (congrArg some (by kernel_rfl))
  f328 := Try.func121.trans (congrArg some (by kernel_rfl))
  f329 := Try.func117.trans (congrArg some (by kernel_rfl))
  f330 := Try.func118.trans (congrArg some (by kernel_rfl))
  f331 := Try.func122.trans (congrArg some (by kernel_rfl))
  f332 := Try.func123.trans (congrArg some (by kernel_rfl))
  f343 := Try.func125.trans (congrArg some (by kernel_rfl))
  t0 := Try.underlying0
  a0 := Try.isAgg0
  z0 := Try.sizeOf0
  v0 := Try.zeroValue0
  t3 := Try.underlying3
  a3 := Try.isAgg3
  z3 := Try.sizeOf3
  v3 := Try.zeroValue3
  t4 := Try.underlying4
  a4 := Try.isAgg4
  z4 := Try.sizeOf4
  v4 := Try.zeroValue4
  t5 := Try.underlying5
  a5 := Try.isAgg5
  z5 := Try.sizeOf5
  v5 := Try.zeroValue5
  t9 := Try.underlying9
  a9 := Try.isAgg9
  z9 := Try.sizeOf9
  v9 := Try.zeroValue9
  t28 := Try.underlying40
  a28 := Try.isAgg40
  z28 := Try.sizeOf40
  v28 := Try.zeroValue40
  t46 := Try.underlying106
  a46 := Try.isAgg106
  z46 := Try.sizeOf106
  v46 := Try.zeroValue106
  t51 := Try.underlying120
  a51 := Try.isAgg120
  z51 := Try.sizeOf120
  v51 := Try.zeroValue120
  t53 := Try.underlying122
  a53 := Try.isAgg122
  z53 := Try.sizeOf122
  v53 := Try.zeroValue122
  t131 := Try.underlying64
  a131 := Try.isAgg64
  z131 := Try.sizeOf64
  v131 := Try.zeroValue64
  t182 := Try.underlying113
  a182 := Try.isAgg113
  z182 := Try.sizeOf113
  v182 := Try.zeroValue113
  t183 := Try.underlying114
  a183 := Try.isAgg114
  z183 := Try.sizeOf114
  v183 := Try.zeroValue114
  t218 := Try.underlying129
  a218 := Try.isAgg129
  z218 := Try.sizeOf129
  v218 := Try.zeroValue129
  t222 := Try.underlying133
  a222 := Try.isAgg133
  z222 := Try.sizeOf133
  v222 := Try.zeroValue133
  t228 := Try.underlying137
  a228 := Try.isAgg137
  z228 := Try.sizeOf137
  v228 := Try.zeroValue137
  t229 := Try.underlying138
  a229 := Try.isAgg138
  z229 := Try.sizeOf138
  v229 := Try.zeroValue138 }
/-- ascending -/
def srt (xs : List Int) : List Int := xs.mergeSort fun x y => decide (x ≤ y)
theorem srt_len (xs : List Int) : (srt xs).length = xs.length := by simp [srt]
theorem values_c (A : Option Addr) (n c : Nat) (w : World) : Calls Try.prog 49 #[.slice A n c] w fun e w' => e = .returned (.func (.func 75) #[] #[.pointer (some ⟨w.heap.size, 0, none⟩)]) ∧ w' = w.alloc (.cells #[.slice A n c] 40) := by
  go_enter Try.func49, Try.ntmps49
  go_wp2
  go_ret
  exact ⟨rfl, rfl⟩
/-- what Collect asks of the box that Values made -/
def Boxd (w : World) (Bs : Nat) (zs : List Int) : Prop := ∃ A cap, Bs < w.heap.size ∧ w.cell? ⟨Bs, 0, none⟩ = some (.slice A zs.length cap) ∧ Ints Any w A zs
theorem Boxd.ext {w w' : World} {Bs : Nat} {zs : List Int} (h : Boxd w Bs zs) (hE : Ext w w') : Boxd w' Bs zs := by
  obtain ⟨A, cap, h1, h2, h3⟩ := h
  exact ⟨A, cap, Nat.lt_of_lt_of_le h1 hE.size, hE.keep h1 h2, h3.ext hE⟩
theorem Boxd.made {w : World} {S : Nat → Prop} {A : Option Addr} {c : Nat} {zs : List Int} (h : Ints S w A zs) : Boxd (w.alloc (.cells #[.slice A zs.length c] 40)) w.heap.size zs :=
  ⟨A, c, by simp, (Blk.new w 40 #[.slice A zs.length c]).cell 0, SlAt.mono (h.ext (show Ext w (w.alloc (.cells #[.slice A zs.length c] 40)) by (repeat' (first | (with_reducible exact Below.refl _ _) | (with_reducible refine Below.mono (by assumption) ?_) | (with_reducible refine Below.trans ?_ (Below.mono (by assumption) ?_)) | (with_reducible refine Below.alloc ?_ ?_ _) | (with_reducible refine Below.drew ?_) | (with_reducible refine below_drewN ?_ _) | (with_reducible refine Below.setCell ?_ ?_ _) | (simp only [World.size_alloc, World.size_setCell, World.size_drew, size_drewN]; omega) | omega)))) (fun _ _ _ => trivial) (fun _ _ h => h)⟩
theorem collect_c (Bs : Nat) (zs : List Int) (hl : zs.length ≤ 1048576) (w : World) (h : Boxd w Bs zs) :
    Calls Try.prog 73 #[.func (.func 75) #[] #[.pointer (some ⟨Bs, 0, none⟩)]] w fun e w' => ∃ v, e = .returned v ∧ Own1 w' w.heap.size 3 v zs ∧ Ext w w' := by
  obtain ⟨A, cap, h1, h2, h3⟩ := h
  have C := callsIn_wide.1 (appendSeq_in 3 (Nat.le_refl _) Bs A cap zs hl w h1 h2 (fun j x hx => by
    obtain ⟨b, off, us, e, _, hb, _, hr, hc⟩ := h3 j x hx
    cases hr
    exact ⟨b, off, e, hb, by simpa using hc 0 _ rfl⟩))
  have HC := Lib.hid C
  clear h2 h3 C
  go_enter Try.func73, Try.ntmps73
  go_wp2_with (fail)
  go_at_call 91
  refine HC.out.mono ?_
  rintro e w1 ⟨v, rfl, ho, hb⟩
  have HO := Lib.hid (show Own1 w1 w.heap.size 3 v zs from ho)
  clear ho
  go_wp2
  go_ret
  exact ⟨v, rfl, HO.out, hb⟩
theorem sort_c (zs : List Int) (hl : zs.length ≤ 1048576) (base : Nat) (v : Value) (w : World) (h : Own1 w base 3 v zs) (hb : base ≤ w.heap.size) :
    Calls Try.prog 74 #[v] w fun e w' => e = .returned (.tuple #[]) ∧ Own1 w' base 3 v (srt zs) ∧ Below base w w' := by
  rcases h.2 with ⟨rfl, hz⟩ | ⟨gb, cap, cur, rfl, hbase, hgb, r1, r2, r3, r4⟩
  · obtain rfl : zs = [] := List.eq_nil_of_length_eq_zero hz
    refine (calls_of_every_depth (fun D => AnyS.slices_Sort_int_none_alone Try.lays189 D none 0 w) : Calls Try.prog 74 #[.slice none 0 0] w _).mono ?_
    rintro e w' ⟨rfl, rfl⟩
    exact ⟨rfl, by simpa [srt] using h, Below.refl _ _⟩
  · have hH : Holds (Value.int .i64) w gb 0 zs.toArray := holds_of_block_i hgb (by simpa [flat1] using r4)
    have hgl : gb < w.heap.size := (Array.getElem?_eq_some_iff.1 hgb).1
    refine (Any.slices_Sort_int Try.lays189 gb 0 cap zs w hH hgl (by omega) : Calls Try.prog 74 #[.slice (some ⟨gb, 0, none⟩) zs.length cap] w _).mono ?_
    rintro e w' ⟨rfl, nn, os, rfl⟩
    refine ⟨rfl, ?_, (Below.refl base w).grown (grownBy_sorted_i _) hb (fun j hj => by cases hj; exact hbase)⟩
    have := ownsRow_sorted_i (w := w) (n := nn) (os := os) (ss := zs) (ts := srt zs) (srt_len zs) hbase hgb r1 r2 r3
    unfold Own1
    rw [srt_len]
    exact this
theorem sorted_c (Bs : Nat) (zs : List Int) (hl : zs.length ≤ 1048576) (w : World) (h : Boxd w Bs zs) :
    Calls Try.prog 48 #[.func (.func 75) #[] #[.pointer (some ⟨Bs, 0, none⟩)]] w fun e w' => ∃ v, e = .returned v ∧ Own1 w' w.heap.size 3 v (srt zs) ∧ Ext w w' := by
  have HB := Lib.hid h
  clear h
  go_enter Try.func48, Try.ntmps48
  go_wp2_with (fail)
  go_at_call 73
  refine (collect_c Bs zs hl _ HB.out).mono ?_
  rintro e w1 ⟨v, rfl, ho, hb⟩
  have HO := Lib.hid ho
  have HE := Lib.hid hb
  have hz := hb.size
  clear ho hb
  go_wp2_with (fail)
  go_at_call 74
  refine (sort_c zs hl w.heap.size v _ HO.out (by omega)).mono ?_
  rintro e w2 ⟨rfl, ho2, hb2⟩
  have HO2 := Lib.hid ho2
  have hE2 : Ext w w2 := HE.out.trans hb2
  have HE2 := Lib.hid hE2
  clear ho2 hb2 hE2
  go_wp2
  go_ret
  exact ⟨v, rfl, HO2.out, HE2.out⟩
set_option maxHeartbeats 1000000 in
theorem equalInt_c (xs ys : List Int) (S S' : Nat → Prop) (A B : Option Addr) (c d : Nat) (w : World) (hx : Ints S w A xs) (hy : Ints S' w B ys) (hn : xs.length ≤ 1048576) (hm : ys.length ≤ 1048576) :
    Calls Try.prog 50 #[.slice A xs.length c, .slice B ys.length d] w fun e w' => e = .returned (.bool (decide (xs = ys))) ∧ Ext w w' := by
  by_cases hl : xs.length = ys.length
  · have e1 : ((xs.length : Int) != (ys.length : Int)) = false := by simp; omega
    have e1n : (xs.length != ys.length) = false := by simp; omega
    have HL := Lib.hid hl
    clear hl
    go_enter Try.func50, Try.ntmps50
    go_wp2
    go_loopw [13] (fun i wr => ∃ k : Nat, k ≤ xs.length ∧ i = .int .i64 k ∧ xs.take k = ys.take k ∧ Ext w wr) (fun i _ => xs.length - (intOf i).toNat)
    case atStart => exact ⟨0, Nat.zero_le _, rfl, rfl, Below.refl _ _⟩
    case round =>
      obtain ⟨k, hk, rfl, htk, hE⟩ := hrel
      have HTk := Lib.hid htk
      have HE := Lib.hid hE
      have hl := HL.out
      clear htk
      by_cases hlt : k < xs.length
      · obtain ⟨x0, b, off, hxk, rfl, _, hb0, c0⟩ := (hx.ext hE).at_ hlt
        obtain ⟨y0, b', off', hyk, rfl, _, hb0', d0⟩ := (hy.ext hE).at_ (i := k) (by omega)
        have hk2 : k < ys.length := by omega
        have hki : (k : Int) < xs.length := by omega
        have hki2 : (k : Int) < ys.length := by omega
        have HX := Lib.hid hxk
        have HY := Lib.hid hyk
        clear hxk hyk hE hl
        by_cases he : x0 = y0
        · subst he
          have e2 : (x0 != x0) = false := by simp
          have hst : xs.take (k + 1) = ys.take (k + 1) := by rw [List.take_add_one, List.take_add_one, HX.out, HY.out, HTk.out]
          have HSt := Lib.hid hst
          clear hst
          go_wp2
          go_quiet (fail)
          go_wp2
          go_roundw
          case rel => exact ⟨k + 1, by omega, by go_num, HSt.out, below_drewN HE.out _⟩
          case measure => simp [intOf]; omega
        · have e2 : (x0 != y0) = true := by simpa using he
          have hne : decide (xs = ys) = false := decide_eq_false (fun e => he (by have h1 := HX.out; rw [e, HY.out] at h1; exact (Option.some.inj h1).symm))
          have HNe := Lib.hid hne
          clear hne he
          go_wp2
          go_quiet (fail)
          go_wp2
          go_ret
          exact ⟨ret_bool HNe.out.symm, below_drewN HE.out _⟩
      · obtain rfl : k = xs.length := by omega
        have heq : xs = ys := by
          have h1 := HTk.out
          rw [List.take_length, hl, List.take_length] at h1
          exact h1
        have HEq := Lib.hid (decide_eq_true heq)
        clear heq hl hE
        go_wp2
        go_ret
        exact ⟨ret_bool HEq.out.symm, HE.out⟩
  · have e1 : ((xs.length : Int) != (ys.length : Int)) = true := by simp; omega
    have hne : decide (xs = ys) = false := decide_eq_false (fun e => hl (by rw [e]))
    rw [hne]
    clear hne
    have HL := Lib.hid hl
    clear hl
    go_enter Try.func50, Try.ntmps50
    go_wp2
    go_ret
    exact ⟨rfl, by (repeat' (first | (with_reducible exact Below.refl _ _) | (with_reducible refine Below.mono (by assumption) ?_) | (with_reducible refine Below.trans ?_ (Below.mono (by assumption) ?_)) | (with_reducible refine Below.alloc ?_ ?_ _) | (with_reducible refine Below.drew ?_) | (with_reducible refine below_drewN ?_ _) | (with_reducible refine Below.setCell ?_ ?_ _) | (simp only [World.size_alloc, World.size_setCell, World.size_drew, size_drewN]; omega) | omega))⟩
end Go.Proofs.Ytknphamfindohaa
