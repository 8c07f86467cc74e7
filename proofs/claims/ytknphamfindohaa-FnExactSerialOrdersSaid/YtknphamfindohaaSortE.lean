/-
  slices.SortFunc of edges by the program's order.
-/
import Derived.Test.YtknphamfindohaaCmpE
namespace Go.Proofs.Ytknphamfindohaa
set_option linter.unusedSimpArgs false
set_option linter.unusedVariables false
set_option maxRecDepth 100000
open Go.RowKit Go.Shelf Go.Sort

def Try.sortEd_ren : Go.Shelf.Ren := ⟨fun | 6 => 69 | 15 => 88 | 14 => 87 | 28 => 104 | 29 => 105 | 20 => 96 | 21 => 97 | 22 => 98 | 23 => 99 | 24 => 100 | 25 => 101 | 26 => 102 | 27 => 103 | 46 => 116 | 47 => 117 | 48 => 118 | 49 => 119 | 50 => 120 | 57 => 124 | n => n, fun | 22 => 33 | 24 => 61 | 25 => 89 | 3 => 3 | 39 => 106 | 0 => 0 | 53 => 120 | 55 => 122 | 4 => 4 | 46 => 114 | 45 => 113 | 50 => 64 | 5 => 5 | 9 => 9 | 66 => 129 | 70 => 133 | 76 => 137 | 77 => 138 | n => n, fun | n => n⟩
theorem Try.sortEd : Go.Proofs.SlLaysF0.n6 Try.prog Try.sortEd_ren := {
  mixed := by kernel_rfl
  f6 := ⟨Try.f69.name, by decide, Try.func69.trans (congrArg some (by kernel_rfl))⟩
  f14 := ⟨Try.f87.name, by decide, Try.func87.trans (congrArg some (by kernel_rfl))⟩
  f15 := Try.func88.trans (congrArg some (by kernel_rfl))
  f20 := ⟨Try.f96.name, by decide, Try.func96.trans (congrArg some (by kernel_rfl))⟩
  f21 := ⟨Try.f97.name, by decide, Try.func97.trans (congrArg some (by kernel_rfl))⟩
  f22 := ⟨Try.f98.name, by decide, Try.func98.trans (congrArg some (by kernel_rfl))⟩
  f23 := ⟨Try.f99.name, by decide, Try.func99.trans (congrArg some (by kernel_rfl))⟩
  f24 := ⟨Try.f100.name, by decide, Try.func100.trans (congrArg some (by kernel_rfl))⟩
  f25 := ⟨Try.f101.name, by decide, Try.func101.trans (congrArg some (by kernel_rfl))⟩
  f26 := ⟨Try.f102.name, by decide, Try.func102.trans (congrArg some (by kernel_rfl))⟩
  f27 := ⟨Try.f103.name, by decide, Try.func103.trans (congrArg some (by kernel_rfl))⟩
  f28 := Try.func104.trans (congrArg some (by kernel_rfl))
  f29 := Try.func105.trans (congrArg some (by kernel_rfl))
  f46 := ⟨Try.f116.name, by decide, Try.func116.trans (congrArg some (by kernel_rfl))⟩
  f47 := Try.func117.trans (congrArg some (by kernel_rfl))
  f48 := Try.func118.trans (congrArg some (by kernel_rfl))
  f49 := ⟨Try.f119.name, by decide, Try.func119.trans (congrArg some (by kernel_rfl))⟩
  f50 := ⟨Try.f120.name, by decide, Try.func120.trans (congrArg some (by kernel_rfl))⟩
  f57 := ⟨Try.f124.name, by decide, Try.func124.trans (congrArg some (by kernel_rfl))⟩
  t0 := Try.underlying0
  a0 := Try.isAgg0
  z0 := Try.sizeOf0
  v0 := Try.zeroValue0
  t3 := Try.underlying3
  a3 := Try.isAgg3
  z3 := Try.sizeOf3
  v3 := Try.zeroValue3
  t4 := Try.underlying4
  a4 := Try.isAgg4
  z4 := Try.sizeOf4
  v4 := Try.zeroValue4
  t5 := Try.underlying5
  a5 := Try.isAgg5
  z5 := Try.sizeOf5
  v5 := Try.zeroValue5
  t9 := Try.underlying9
  a9 := Try.isAgg9
  z9 := Try.sizeOf9
  v9 := Try.zeroValue9
  t22 := Try.underlying33
  a22 := Try.isAgg33
  z22 := Try.sizeOf33
  v22 := Try.zeroValue33
  t25 := Try.underlying89
  a25 := Try.isAgg89
  z25 := Try.sizeOf89
  v25 := Try.zeroValue89
  t39 := Try.underlying106
  a39 := Try.isAgg106
  z39 := Try.sizeOf106
  v39 := Try.zeroValue106
  t45 := Try.underlying113
  a45 := Try.isAgg113
  z45 := Try.sizeOf113
  v45 := Try.zeroValue113
  t46 := Try.underlying114
  a46 := Try.isAgg114
  z46 := Try.sizeOf114
  v46 := Try.zeroValue114
  t50 := Try.underlying64
  a50 := Try.isAgg64
  z50 := Try.sizeOf64
  v50 := Try.zeroValue64
  t53 := Try.underlying120
  a53 := Try.isAgg120
  z53 := Try.sizeOf120
  v53 := Try.zeroValue120
  t55 := Try.underlying122
  a55 := Try.isAgg122
  z55 := Try.sizeOf122
  v55 := Try.zeroValue122
  t66 := Try.underlying129
  a66 := Try.isAgg129
  z66 := Try.sizeOf129
  v66 := Try.zeroValue129
  t70 := Try.underlying133
  a70 := Try.isAgg133
  z70 := Try.sizeOf133
  v70 := Try.zeroValue133
  t76 := Try.underlying137
  a76 := Try.isAgg137
  z76 := Try.sizeOf137
  v76 := Try.zeroValue137
  t77 := Try.underlying138
  a77 := Try.isAgg138
  z77 := Try.sizeOf138
  v77 := Try.zeroValue138 }
theorem flat_eq (d : Array T3) : flatK encE 3 d = (flat3 d.toList).toArray := by
  refine ext_get! (by simp [flat3_len]) (fun t ht => ?_)
  rw [size_flatK] at ht
  rw [get_flatK _ _ _ t ht]
  have hi : t / 3 < d.size := by omega
  have hd : d.toList[t / 3]? = some d[t / 3]! := by
    rw [getElem!_pos d (t / 3) hi, Array.getElem?_toList, Array.getElem?_eq_getElem hi]
  have hm : t % 3 < 3 := Nat.mod_lt _ (by omega)
  have hu : (encE d[t / 3]!)[t % 3]? = some (encE d[t / 3]!)[t % 3]! := by
    rw [getElem!_pos (encE d[t / 3]!) (t % 3) (by simpa [encE] using hm)]
    exact List.getElem?_eq_getElem _
  have h3 := flat3_at d.toList (t / 3) d[t / 3]! hd (t % 3) _ hu
  rw [show t / 3 * 3 + t % 3 = t by omega] at h3
  have hl : t < (flat3 d.toList).length := by rw [flat3_len, Array.length_toList]; omega
  rw [getElem!_pos (flat3 d.toList).toArray t (by simpa using hl)]
  rw [List.getElem?_eq_getElem hl] at h3
  have h3 := Option.some.inj h3
  simp only [List.getElem_toArray]
  exact h3.symm
theorem put_take (cur F : Array Value) (h : F.size ≤ cur.size) : (putCells id 0 F cur).toList.take F.size = F.toList := by
  apply List.ext_getElem?
  intro j
  by_cases hj : j < F.size
  · rw [List.getElem?_take_of_lt hj, Array.getElem?_toList, Array.getElem?_toList]
    simp [putCells, hj, show j < cur.size by omega]
  · rw [List.getElem?_take_eq_none (by omega), Array.getElem?_toList, Array.getElem?_eq_none (by omega)]
theorem isAggE (w : World) : (isAgg 61).run Try.prog w = .ok true w := by kernel_rfl
theorem sizeOfE (w : World) : (Go.sizeOf 61).run Try.prog w = .ok 3 w := by kernel_rfl
set_option maxHeartbeats 1000000 in
/-- edges of a slice of the call's own, sorted -/
theorem sortFunc_c (xs : List T3) (base : Nat) (v : Value) (w : World) (h : Own3 w base 61 v xs) (hv : ∃ g, v.ownBlock = some g) (hb : base ≤ w.heap.size) (hl : xs.length ≤ 1048576) :
    Calls Try.prog 69 #[v, .func (.func 70) #[] #[]] w fun e w' => e = .returned (.tuple #[]) ∧ ∃ ys : List T3, ys.Perm xs ∧ ys.Pairwise (fun x y => ¬ ltE y x) ∧ Own3 w' base 61 v ys ∧ Below base w w' := by
  rcases h.2 with ⟨rfl, hz⟩ | ⟨gb, cap, cur, rfl, hbase, hgb, r1, r2, r3, r4⟩
  · obtain ⟨g, hg⟩ := hv
    simp [Value.ownBlock] at hg
  · have hgl : gb < w.heap.size := (Array.getElem?_eq_some_iff.1 hgb).1
    have hfl : (flatK encE 3 xs.toArray) = (flat3 xs).toArray := by rw [flat_eq]
    have hH : HoldsK encE 3 w gb 0 xs.toArray := by
      unfold HoldsK
      rw [hfl]
      intro j hj
      have hj' : j < (flat3 xs).length := by simpa using hj
      refine ⟨?_, by simp [World.frozen?, hgb]⟩
      rw [cell_of_row w gb _ cur _ (0, 0) hgb, getElem!_pos (flat3 xs).toArray j hj, Nat.zero_add]
      have h1 : (flat3 xs)[j]? = some (flat3 xs)[j] := List.getElem?_eq_getElem hj'
      have h2 : (cur.toList.take (xs.length * 3))[j]? = (flat3 xs)[j]? := by rw [r4]
      rw [List.getElem?_take, if_pos (by rw [flat3_len] at hj'; omega), h1, Array.getElem?_toList] at h2
      exact h2
    have eg : ∀ args w, (callFunc 70 args).run Try.prog w = .ok (.enter 70 args) w := enters_of Try.func70 (by kernel_rfl) rfl
    have hC : CmpLays Try.prog 70 #[] encE 3 cfE gb 0 xs.toArray.size w := fun m os dk _ x y => compare_c x y _
    have hcon := AnyQ.slices_SortFunc Try.sortEd 3 isAggE sizeOfE encE (fun _ => rfl) (fun x v hv => by simp [encE] at hv; rcases hv with rfl | rfl | rfl <;> rfl) cfE swoE 70 #[] gb 0 cap xs.toArray w eg hC hH hgl (by simp; omega)
    have hcon2 : Calls Try.prog 69 #[.slice (some ⟨gb, 0, none⟩) xs.length cap, .func (.func 70) #[] #[]] w (fun e w' => e = .returned (.tuple #[]) ∧ ∃ d' n os, PermIn 0 xs.toArray.size xs.toArray d' ∧ SortedIn (ltOf cfE) 0 xs.toArray.size d' ∧ w' = sortWorldK encE 3 w gb 0 n d' os) := hcon
    refine hcon2.mono ?_
    rintro e w' ⟨rfl, d', nn, os, ⟨hs, _, hp⟩, hsort, rfl⟩
    have hs' : d'.size = xs.length := by simpa using hs
    have hperm : d'.toList.Perm xs := by
      have e1 : d'.extract 0 xs.toArray.size = d' := by
        apply Array.extract_eq_self_of_le
        simp [hs']
      have e2 : xs.toArray.extract 0 xs.toArray.size = xs.toArray := Array.extract_size
      rw [e1, e2] at hp
      exact hp
    have hlen : d'.toList.length = xs.length := by simpa using hs'
    refine ⟨rfl, d'.toList, hperm, ?_, ?_, ?_⟩
    · rw [List.pairwise_iff_getElem]
      intro i j hi hj hij hlt
      have h1 := hsort i j (Nat.zero_le _) hij (by simp at hj ⊢; omega)
      have hi' : i < d'.size := by simpa using hi
      have hj' : j < d'.size := by simpa using hj
      rw [getElem!_pos d' j hj', getElem!_pos d' i hi'] at h1
      simp only [ltOf, decide_eq_false_iff_not, cfE_lt] at h1
      exact h1 hlt
    · unfold sortWorldK putRowK
      rw [flat_eq]
      unfold Own3
      rw [hlen]
      refine ⟨by rw [flat3_len, hlen], .inr ⟨gb, cap, putCells id 0 (flat3 d'.toList).toArray cur, rfl, hbase, ?_, r1, r2, by simpa [putCells] using r3, ?_⟩⟩
      · rw [heap_grow_old _ _ (by simpa using hgl)]
        simp [putRow, mapBlock, Sort.ahead, Array.getElem?_modify, hgb, onCells]
      · have h1 : (flat3 d'.toList).toArray.size = xs.length * 3 := by rw [List.size_toArray, flat3_len, hlen]
        have h2 := put_take cur (flat3 d'.toList).toArray (by rw [h1, r3]; exact Nat.mul_le_mul_right 3 r1)
        rw [h1] at h2
        exact h2
    · unfold sortWorldK putRowK
      have hg : w.grownBy (grow (putRow id (Sort.ahead w nn) gb 0 (flatK encE 3 d')) os) (some gb) := by
        refine ⟨rfl, rfl, rfl, by simp, fun k hk hne => ?_⟩
        rw [heap_grow_old _ _ (by simpa using hk)]
        have : gb ≠ k := fun e => hne (by rw [e])
        simp [putRow, mapBlock, Sort.ahead, Array.getElem?_modify, this]
      exact (Below.refl base w).grown hg hb (fun j hj => by cases hj; exact hbase)
end Go.Proofs.Ytknphamfindohaa
