/-
  slices.Sorted(slices.Values(xs)): a new slice with the same numbers, ascending; slices.Equal.
-/
import Derived.Test.YtdohbmegkkkchaaGreatVals
import Derived.Test.YtdohbmegkkkchaaGreatRes
import Derived.Lib.SlKeysI
import Derived.Shelf.Sort.Plain
import Derived.Shelf.Slices.In.SortNone
import Derived.Sort.EveryDepth
import Derived.Deep.QuietTactic
import Derived.BigQuiet
namespace Go.Proofs.YtdohbmegkkkchaaGreat
set_option linter.unusedSimpArgs false
set_option linter.unusedVariables false
set_option maxRecDepth 100000
open Go.RowKit Go.Shelf Go.Sort

def Tryz.lays189_ren : Go.Shelf.Ren := ⟨fun | 189 => 97 | 125 => 103 | 257 => 124 | 128 => 133 | 129 => 134 | 294 => 145 | 295 => 146 | 296 => 147 | 297 => 148 | 298 => 149 | 299 => 150 | 216 => 151 | 300 => 152 | 301 => 153 | 328 => 161 | 329 => 155 | 330 => 156 | 331 => 162 | 332 => 163 | 215 => 135 | 343 => 166 | n => n, fun | 28 => 47 | 3 => 3 | 46 => 113 | 0 => 0 | 51 => 142 | 53 => 144 | 4 => 4 | 183 => 136 | 182 => 135 | 131 => 86 | 5 => 5 | 9 => 9 | 218 => 157 | 222 => 161 | 228 => 167 | 229 => 168 | n => n, fun | n => n⟩
theorem Tryz.lays189 : Go.Proofs.Lays.n189 Tryz.prog Tryz.lays189_ren := {
  mixed := by kernel_rfl
  f125 := Tryz.func103.trans (congrArg some (by kernel_rfl))
  f128 := Tryz.func133.trans (congrArg some (by kernel_rfl))
  f129 := Tryz.func134.trans (congrArg some (by kernel_rfl))
  f189 := Tryz.func97.trans (congrArg some (by kernel_rfl))
  f215 := Tryz.func135.trans (congrArg some (by kernel_rfl))
  f216 := Tryz.func151.trans (congrArg some (by kernel_rfl))
  f257 := Tryz.func124.trans (congrArg some (by kernel_rfl))
  f294 := Tryz.func145.trans (congrArg some (by kernel_rfl))
  f295 := Tryz.func146.trans (congrArg some (by kernel_rfl))
  f296 := Tryz.func147.trans (congrArg some (by kernel_rfl))
  f297 := Tryz.func148.trans (congrArg some (by kernel_rfl))
  f298 := Tryz.func149.trans (congrArg some (by kernel_rfl))
  f299 := Tryz.func150.trans (congrArg some (by kernel_rfl))
  f300 := Tryz.func152.trans (congrArg some (by kernel_rfl))
  f301 := Tryz.func153.trans (congrArg some (by kernel_rfl))
  f328 := Tryz.func161.trans (congrArg some (by kernel_rfl))
  f329 := Tryz.func155.trans (congrArg some (by kernel_rfl))
  f330 := Tryz.func156.trans (congrArg some (by kernel_rfl))
  f331 := Tryz.func162.trans (congrArg some (by kernel_rfl))
  f332 := Tryz.func163.trans (congrArg some (by kernel_rfl))
  f343 := Tryz.func166.trans (congrArg some (by kernel_rfl))
  t0 := Tryz.underlying0
  a0 := Tryz.isAgg0
  z0 := Tryz.sizeOf0
  v0 := Tryz.zeroValue0
  t3 := Tryz.underlying3
  a3 := Tryz.isAgg3
  z3 := Tryz.sizeOf3
  v3 := Tryz.zeroValue3
  t4 := Tryz.underlying4
  a4 := Tryz.isAgg4
  z4 := Tryz.sizeOf4
  v4 := Tryz.zeroValue4
  t5 := Tryz.underlying5
  a5 := Tryz.isAgg5
  z5 := Tryz.sizeOf5
  v5 := Tryz.zeroValue5
  t9 := Tryz.underlying9
  a9 := Tryz.isAgg9
  z9 := Tryz.sizeOf9
  v9 := Tryz.zeroValue9
  t28 := Tryz.underlying47
  a28 := Tryz.isAgg47
  z28 := Tryz.sizeOf47
  v28 := Tryz.zeroValue47
  t46 := Tryz.underlying113
  a46 := Tryz.isAgg113
  z46 := Tryz.sizeOf113
  v46 := Tryz.zeroValue113
  t51 := Tryz.underlying142
  a51 := Tryz.isAgg142
  z51 := Tryz.sizeOf142
  v51 := Tryz.zeroValue142
  t53 := Tryz.underlying144
  a53 := Tryz.isAgg144
  z53 := Tryz.sizeOf144
  v53 := Tryz.zeroValue144
  t131 := Tryz.underlying86
  a131 := Tryz.isAgg86
  z131 := Tryz.sizeOf86
  v131 := Tryz.zeroValue86
  t182 := Tryz.underlying135
  a182 := Tryz.isAgg135
  z182 := Tryz.sizeOf135
  v182 := Tryz.zeroValue135
  t183 := Tryz.underlying136
  a183 := Tryz.isAgg136
  z183 := Tryz.sizeOf136
  v183 := Tryz.zeroValue136
  t218 := Tryz.underlying157
  a218 := Tryz.isAgg157
  z218 := Tryz.sizeOf157
  v218 := Tryz.zeroValue157
  t222 := Tryz.underlying161
  a222 := Tryz.isAgg161
  z222 := Tryz.sizeOf161
  v222 := Tryz.zeroValue161
  t228 := Tryz.underlying167
  a228 := Tryz.isAgg167
  z228 := Tryz.sizeOf167
  v228 := Tryz.zeroValue167
  t229 := Tryz.underlying168
  a229 := Tryz.isAgg168
  z229 := Tryz.sizeOf168
  v229 := Tryz.zeroValue168 }
/-- ascending -/
def srt (xs : List Int) : List Int := xs.mergeSort fun x y => decide (x ≤ y)
theorem srt_len (xs : List Int) : (srt xs).length = xs.length := by simp [srt]
theorem values_c (A : Option Addr) (n c : Nat) (w : World) : Calls Tryz.prog 64 #[.slice A n c] w fun e w' => e = .returned (.func (.func 98) #[] #[.pointer (some ⟨w.heap.size, 0, none⟩)]) ∧ w' = w.alloc (.cells #[.slice A n c] 47) := by
  go_enter Tryz.func64, Tryz.ntmps64
  go_wp2
  go_ret
  exact ⟨rfl, rfl⟩
/-- what Collect asks of the box that Values made -/
def Boxd (w : World) (Bs : Nat) (zs : List Int) : Prop := ∃ A cap, Bs < w.heap.size ∧ w.cell? ⟨Bs, 0, none⟩ = some (.slice A zs.length cap) ∧ Ints Any w A zs
theorem Boxd.ext {w w' : World} {Bs : Nat} {zs : List Int} (h : Boxd w Bs zs) (hE : Ext w w') : Boxd w' Bs zs := by
  obtain ⟨A, cap, h1, h2, h3⟩ := h
  exact ⟨A, cap, Nat.lt_of_lt_of_le h1 hE.size, hE.keep h1 h2, h3.ext hE⟩
theorem Boxd.made {w : World} {S : Nat → Prop} {A : Option Addr} {c : Nat} {zs : List Int} (h : Ints S w A zs) : Boxd (w.alloc (.cells #[.slice A zs.length c] 47)) w.heap.size zs :=
  ⟨A, c, by simp, (Blk.new w 47 #[.slice A zs.length c]).cell 0, SlAt.mono (h.ext (show Ext w (w.alloc (.cells #[.slice A zs.length c] 47)) by (repeat' (first | (with_reducible exact Below.refl _ _) | (with_reducible refine Below.mono (by assumption) ?_) | (with_reducible refine Below.trans ?_ (Below.mono (by assumption) ?_)) | (with_reducible refine Below.alloc ?_ ?_ _) | (with_reducible refine Below.drew ?_) | (with_reducible refine below_drewN ?_ _) | (with_reducible refine Below.setCell ?_ ?_ _) | (simp only [World.size_alloc, World.size_setCell, World.size_drew, size_drewN]; omega) | omega)))) (fun _ _ _ => trivial) (fun _ _ h => h)⟩
theorem collect_c (Bs : Nat) (zs : List Int) (hl : zs.length ≤ 1048576) (w : World) (h : Boxd w Bs zs) :
    Calls Tryz.prog 96 #[.func (.func 98) #[] #[.pointer (some ⟨Bs, 0, none⟩)]] w fun e w' => ∃ v, e = .returned v ∧ Own1 w' w.heap.size 3 v zs ∧ Ext w w' := by
  obtain ⟨A, cap, h1, h2, h3⟩ := h
  have C := callsIn_wide.1 (appendSeq_in 3 (Nat.le_refl _) Bs A cap zs hl w h1 h2 (fun j x hx => by
    obtain ⟨b, off, us, e, _, hb, _, hr, hc⟩ := h3 j x hx
    cases hr
    exact ⟨b, off, e, hb, by simpa using hc 0 _ rfl⟩))
  have HC := Lib.hid C
  clear h2 h3 C
  go_enter Tryz.func96, Tryz.ntmps96
  go_wp2_with (fail)
  go_at_call 123
  refine HC.out.mono ?_
  rintro e w1 ⟨v, rfl, ho, hb⟩
  have HO := Lib.hid (show Own1 w1 w.heap.size 3 v zs from ho)
  clear ho
  go_wp2
  go_ret
  exact ⟨v, rfl, HO.out, hb⟩
theorem sort_c (zs : List Int) (hl : zs.length ≤ 1048576) (base : Nat) (v : Value) (w : World) (h : Own1 w base 3 v zs) (hb : base ≤ w.heap.size) :
    Calls Tryz.prog 97 #[v] w fun e w' => e = .returned (.tuple #[]) ∧ Own1 w' base 3 v (srt zs) ∧ Below base w w' := by
  rcases h.2 with ⟨rfl, hz⟩ | ⟨gb, cap, cur, rfl, hbase, hgb, r1, r2, r3, r4⟩
  · obtain rfl : zs = [] := List.eq_nil_of_length_eq_zero hz
    refine (calls_of_every_depth (fun D => AnyS.slices_Sort_int_none_alone Tryz.lays189 D none 0 w) : Calls Tryz.prog 97 #[.slice none 0 0] w _).mono ?_
    rintro e w' ⟨rfl, rfl⟩
    exact ⟨rfl, by simpa [srt] using h, Below.refl _ _⟩
  · have hH : Holds (Value.int .i64) w gb 0 zs.toArray := holds_of_block_i hgb (by simpa [flat1] using r4)
    have hgl : gb < w.heap.size := (Array.getElem?_eq_some_iff.1 hgb).1
    refine (Any.slices_Sort_int Tryz.lays189 gb 0 cap zs w hH hgl (by omega) : Calls Tryz.prog 97 #[.slice (some ⟨gb, 0, none⟩) zs.length cap] w _).mono ?_
    rintro e w' ⟨rfl, nn, os, rfl⟩
    refine ⟨rfl, ?_, (Below.refl base w).grown (grownBy_sorted_i _) hb (fun j hj => by cases hj; exact hbase)⟩
    have := ownsRow_sorted_i (w := w) (n := nn) (os := os) (ss := zs) (ts := srt zs) (srt_len zs) hbase hgb r1 r2 r3
    unfold Own1
    rw [srt_len]
    exact this
theorem sorted_c (Bs : Nat) (zs : List Int) (hl : zs.length ≤ 1048576) (w : World) (h : Boxd w Bs zs) :
    Calls Tryz.prog 63 #[.func (.func 98) #[] #[.pointer (some ⟨Bs, 0, none⟩)]] w fun e w' => ∃ v, e = .returned v ∧ Own1 w' w.heap.size 3 v (srt zs) ∧ Ext w w' := by
  have HB := Lib.hid h
  clear h
  go_enter Tryz.func63, Tryz.ntmps63
  go_wp2_with (fail)
  go_at_call 96
  refine (collect_c Bs zs hl _ HB.out).mono ?_
  rintro e w1 ⟨v, rfl, ho, hb⟩
  have HO := Lib.hid ho
  have HE := Lib.hid hb
  have hz := hb.size
  clear ho hb
  go_wp2_with (fail)
  go_at_call 97
  refine (sort_c zs hl w.heap.size v _ HO.out (by omega)).mono ?_
  rintro e w2 ⟨rfl, ho2, hb2⟩
  have HO2 := Lib.hid ho2
  have hE2 : Ext w w2 := HE.out.trans hb2
  have HE2 := Lib.hid hE2
  clear ho2 hb2 hE2
  go_wp2
  go_ret
  exact ⟨v, rfl, HO2.out, HE2.out⟩
set_option maxHeartbeats 1000000 in
theorem equalInt_c (xs ys : List Int) (S S' : Nat → Prop) (A B : Option Addr) (c d : Nat) (w : World) (hx : Ints S w A xs) (hy : Ints S' w B ys) (hn : xs.length ≤ 1048576) (hm : ys.length ≤ 1048576) :
    Calls Tryz.prog 66 #[.slice A xs.length c, .slice B ys.length d] w fun e w' => e = .returned (.bool (decide (xs = ys))) ∧ Ext w w' := by
  by_cases hl : xs.length = ys.length
  · have e1 : ((xs.length : Int) != (ys.length : Int)) = false := by simp; omega
    have e1n : (xs.length != ys.length) = false := by simp; omega
    have HL := Lib.hid hl
    clear hl
    go_enter Tryz.func66, Tryz.ntmps66
    go_wp2
    go_loopw [13] (fun i wr => ∃ k : Nat, k ≤ xs.length ∧ i = .int .i64 k ∧ xs.take k = ys.take k ∧ Ext w wr) (fun i _ => xs.length - (intOf i).toNat)
    case atStart => exact ⟨0, Nat.zero_le _, rfl, rfl, Below.refl _ _⟩
    case round =>
      obtain ⟨k, hk, rfl, htk, hE⟩ := hrel
      have HTk := Lib.hid htk
      have HE := Lib.hid hE
      have hl := HL.out
      clear htk
      by_cases hlt : k < xs.length
      · obtain ⟨x0, b, off, hxk, rfl, _, hb0, c0⟩ := (hx.ext hE).at_ hlt
        obtain ⟨y0, b', off', hyk, rfl, _, hb0', d0⟩ := (hy.ext hE).at_ (i := k) (by omega)
        have hk2 : k < ys.length := by omega
        have hki : (k : Int) < xs.length := by omega
        have hki2 : (k : Int) < ys.length := by omega
        have HX := Lib.hid hxk
        have HY := Lib.hid hyk
        clear hxk hyk hE hl
        by_cases he : x0 = y0
        · subst he
          have e2 : (x0 != x0) = false := by simp
          have hst : xs.take (k + 1) = ys.take (k + 1) := by rw [List.take_add_one, List.take_add_one, HX.out, HY.out, HTk.out]
          have HSt := Lib.hid hst
          clear hst
          go_wp2
          go_quiet (fail)
          go_wp2
          go_roundw
          case rel => exact ⟨k + 1, by omega, by go_num, HSt.out, below_drewN HE.out _⟩
          case measure => simp [intOf]; omega
        · have e2 : (x0 != y0) = true := by simpa using he
          have hne : decide (xs = ys) = false := decide_eq_false (fun e => he (by have h1 := HX.out; rw [e, HY.out] at h1; exact (Option.some.inj h1).symm))
          have HNe := Lib.hid hne
          clear hne he
          go_wp2
          go_quiet (fail)
          go_wp2
          go_ret
          exact ⟨ret_bool HNe.out.symm, below_drewN HE.out _⟩
      · obtain rfl : k = xs.length := by omega
        have heq : xs = ys := by
          have h1 := HTk.out
          rw [List.take_length, hl, List.take_length] at h1
          exact h1
        have HEq := Lib.hid (decide_eq_true heq)
        clear heq hl hE
        go_wp2
        go_ret
        exact ⟨ret_bool HEq.out.symm, HE.out⟩
  · have e1 : ((xs.length : Int) != (ys.length : Int)) = true := by simp; omega
    have hne : decide (xs = ys) = false := decide_eq_false (fun e => hl (by rw [e]))
    rw [hne]
    clear hne
    have HL := Lib.hid hl
    clear hl
    go_enter Tryz.func66, Tryz.ntmps66
    go_wp2
    go_ret
    exact ⟨rfl, by (repeat' (first | (with_reducible exact Below.refl _ _) | (with_reducible refine Below.mono (by assumption) ?_) | (with_reducible refine Below.trans ?_ (Below.mono (by assumption) ?_)) | (with_reducible refine Below.alloc ?_ ?_ _) | (with_reducible refine Below.drew ?_) | (with_reducible refine below_drewN ?_ _) | (with_reducible refine Below.setCell ?_ ?_ _) | (simp only [World.size_alloc, World.size_setCell, World.size_drew, size_drewN]; omega) | omega))⟩
end Go.Proofs.YtdohbmegkkkchaaGreat
