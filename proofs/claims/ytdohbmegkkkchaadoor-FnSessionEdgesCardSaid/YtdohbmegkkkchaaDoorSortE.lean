/-
  slices.SortFunc of edges by the program's order.
-/
import Derived.Test.YtdohbmegkkkchaaDoorCmpE
namespace Go.Proofs.YtdohbmegkkkchaaDoor
set_option linter.unusedSimpArgs false
set_option linter.unusedVariables false
set_option maxRecDepth 100000
open Go.RowKit Go.Shelf Go.Sort

def Tryd.sortEd_ren : Go.Shelf.Ren := ⟨fun | 6 => 66 | 15 => 93 | 14 => 92 | 28 => 113 | 29 => 114 | 20 => 105 | 21 => 106 | 22 => 107 | 23 => 108 | 24 => 109 | 25 => 110 | 26 => 111 | 27 => 112 | 46 => 127 | 47 => 128 | 48 => 129 | 49 => 130 | 50 => 131 | 57 => 140 | n => n, fun | 22 => 25 | 24 => 29 | 25 => 88 | 3 => 3 | 39 => 112 | 0 => 0 | 53 => 129 | 55 => 131 | 4 => 4 | 46 => 123 | 45 => 122 | 50 => 54 | 5 => 5 | 9 => 9 | 66 => 140 | 70 => 144 | 76 => 153 | 77 => 154 | n => n, fun | n => n⟩
theorem Tryd.sortEd : Go.Proofs.SlLaysF0.n6 Tryd.prog Tryd.sortEd_ren := {
  mixed := by kernel_rfl
  f6 := ⟨Tryd.f66.name, by decide, Tryd.func66.trans (congrArg some (by kernel_rfl))⟩
  f14 := ⟨Tryd.f92.name, by decide, Tryd.func92.trans (congrArg some (by kernel_rfl))⟩
  f15 := Tryd.func93.trans (congrArg some (by kernel_rfl))
  f20 := ⟨Tryd.f105.name, by decide, Tryd.func105.trans (congrArg some (by kernel_rfl))⟩
  f21 := ⟨Tryd.f106.name, by decide, Tryd.func106.trans (congrArg some (by kernel_rfl))⟩
  f22 := ⟨Tryd.f107.name, by decide, Tryd.func107.trans (congrArg some (by kernel_rfl))⟩
  f23 := ⟨Tryd.f108.name, by decide, Tryd.func108.trans (congrArg some (by kernel_rfl))⟩
  f24 := ⟨Tryd.f109.name, by decide, Tryd.func109.trans (congrArg some (by kernel_rfl))⟩
  f25 := ⟨Tryd.f110.name, by decide, Tryd.func110.trans (congrArg some (by kernel_rfl))⟩
  f26 := ⟨Tryd.f111.name, by decide, Tryd.func111.trans (congrArg some (by kernel_rfl))⟩
  f27 := ⟨Tryd.f112.name, by decide, Tryd.func112.trans (congrArg some (by kernel_rfl))⟩
  f28 := Tryd.func113.trans (congrArg some (by kernel_rfl))
  f29 := Tryd.func114.trans (congrArg some (by kernel_rfl))
  f46 := ⟨Tryd.f127.name, by decide, Tryd.func127.trans (congrArg some (by kernel_rfl))⟩
  f47 := Tryd.func128.trans (congrArg some (by kernel_rfl))
  f48 := Tryd.func129.trans (congrArg some (by kernel_rfl))
  f49 := ⟨Tryd.f130.name, by decide, Tryd.func130.trans (congrArg some (by kernel_rfl))⟩
  f50 := ⟨Tryd.f131.name, by decide, Tryd.func131.trans (congrArg some (by kernel_rfl))⟩
  f57 := ⟨Tryd.f140.name, by decide, Tryd.func140.trans (congrArg some (by kernel_rfl))⟩
  t0 := Tryd.underlying0
  a0 := Tryd.isAgg0
  z0 := Tryd.sizeOf0
  v0 := Tryd.zeroValue0
  t3 := Tryd.underlying3
  a3 := Tryd.isAgg3
  z3 := Tryd.sizeOf3
  v3 := Tryd.zeroValue3
  t4 := Tryd.underlying4
  a4 := Tryd.isAgg4
  z4 := Tryd.sizeOf4
  v4 := Tryd.zeroValue4
  t5 := Tryd.underlying5
  a5 := Tryd.isAgg5
  z5 := Tryd.sizeOf5
  v5 := Tryd.zeroValue5
  t9 := Tryd.underlying9
  a9 := Tryd.isAgg9
  z9 := Tryd.sizeOf9
  v9 := Tryd.zeroValue9
  t22 := Tryd.underlying25
  a22 := Tryd.isAgg25
  z22 := Tryd.sizeOf25
  v22 := Tryd.zeroValue25
  t25 := Tryd.underlying88
  a25 := Tryd.isAgg88
  z25 := Tryd.sizeOf88
  v25 := Tryd.zeroValue88
  t39 := Tryd.underlying112
  a39 := Tryd.isAgg112
  z39 := Tryd.sizeOf112
  v39 := Tryd.zeroValue112
  t45 := Tryd.underlying122
  a45 := Tryd.isAgg122
  z45 := Tryd.sizeOf122
  v45 := Tryd.zeroValue122
  t46 := Tryd.underlying123
  a46 := Tryd.isAgg123
  z46 := Tryd.sizeOf123
  v46 := Tryd.zeroValue123
  t50 := Tryd.underlying54
  a50 := Tryd.isAgg54
  z50 := Tryd.sizeOf54
  v50 := Tryd.zeroValue54
  t53 := Tryd.underlying129
  a53 := Tryd.isAgg129
  z53 := Tryd.sizeOf129
  v53 := Tryd.zeroValue129
  t55 := Tryd.underlying131
  a55 := Tryd.isAgg131
  z55 := Tryd.sizeOf131
  v55 := Tryd.zeroValue131
  t66 := Tryd.underlying140
  a66 := Tryd.isAgg140
  z66 := Tryd.sizeOf140
  v66 := Tryd.zeroValue140
  t70 := Tryd.underlying144
  a70 := Tryd.isAgg144
  z70 := Tryd.sizeOf144
  v70 := Tryd.zeroValue144
  t76 := Tryd.underlying153
  a76 := Tryd.isAgg153
  z76 := Tryd.sizeOf153
  v76 := Tryd.zeroValue153
  t77 := Tryd.underlying154
  a77 := Tryd.isAgg154
  z77 := Tryd.sizeOf154
  v77 := Tryd.zeroValue154 }
theorem flat_eq (d : Array T3) : flatK encE 3 d = (flat3 d.toList).toArray := by
  refine ext_get! (by simp [flat3_len]) (fun t ht => ?_)
  rw [size_flatK] at ht
  rw [get_flatK _ _ _ t ht]
  have hi : t / 3 < d.size := by omega
  have hd : d.toList[t / 3]? = some d[t / 3]! := by
    rw [getElem!_pos d (t / 3) hi, Array.getElem?_toList, Array.getElem?_eq_getElem hi]
  have hm : t % 3 < 3 := Nat.mod_lt _ (by omega)
  have hu : (encE d[t / 3]!)[t % 3]? = some (encE d[t / 3]!)[t % 3]! := by
    rw [getElem!_pos (encE d[t / 3]!) (t % 3) (by simpa [encE] using hm)]
    exact List.getElem?_eq_getElem _
  have h3 := flat3_at d.toList (t / 3) d[t / 3]! hd (t % 3) _ hu
  rw [show t / 3 * 3 + t % 3 = t by omega] at h3
  have hl : t < (flat3 d.toList).length := by rw [flat3_len, Array.length_toList]; omega
  rw [getElem!_pos (flat3 d.toList).toArray t (by simpa using hl)]
  rw [List.getElem?_eq_getElem hl] at h3
  have h3 := Option.some.inj h3
  simp only [List.getElem_toArray]
  exact h3.symm
theorem put_take (cur F : Array Value) (h : F.size ≤ cur.size) : (putCells id 0 F cur).toList.take F.size = F.toList := by
  apply List.ext_getElem?
  intro j
  by_cases hj : j < F.size
  · rw [List.getElem?_take_of_lt hj, Array.getElem?_toList, Array.getElem?_toList]
    simp [putCells, hj, show j < cur.size by omega]
  · rw [List.getElem?_take_eq_none (by omega), Array.getElem?_toList, Array.getElem?_eq_none (by omega)]
theorem isAggE (w : World) : (isAgg 29).run Tryd.prog w = .ok true w := by kernel_rfl
theorem sizeOfE (w : World) : (Go.sizeOf 29).run Tryd.prog w = .ok 3 w := by kernel_rfl
set_option maxHeartbeats 1000000 in
/-- edges of a slice of the call's own, sorted -/
theorem sortFunc_c (xs : List T3) (base : Nat) (v : Value) (w : World) (h : Own3 w base 29 v xs) (hv : ∃ g, v.ownBlock = some g) (hb : base ≤ w.heap.size) (hl : xs.length ≤ 1048576) :
    Calls Tryd.prog 66 #[v, .func (.func 67) #[] #[]] w fun e w' => e = .returned (.tuple #[]) ∧ ∃ ys : List T3, ys.Perm xs ∧ ys.Pairwise (fun x y => ¬ ltE y x) ∧ Own3 w' base 29 v ys ∧ Below base w w' := by
  rcases h.2 with ⟨rfl, hz⟩ | ⟨gb, cap, cur, rfl, hbase, hgb, r1, r2, r3, r4⟩
  · obtain ⟨g, hg⟩ := hv
    simp [Value.ownBlock] at hg
  · have hgl : gb < w.heap.size := (Array.getElem?_eq_some_iff.1 hgb).1
    have hfl : (flatK encE 3 xs.toArray) = (flat3 xs).toArray := by rw [flat_eq]
    have hH : HoldsK encE 3 w gb 0 xs.toArray := by
      unfold HoldsK
      rw [hfl]
      intro j hj
      have hj' : j < (flat3 xs).length := by simpa using hj
      refine ⟨?_, by simp [World.frozen?, hgb]⟩
      rw [cell_of_row w gb _ cur _ (0, 0) hgb, getElem!_pos (flat3 xs).toArray j hj, Nat.zero_add]
      have h1 : (flat3 xs)[j]? = some (flat3 xs)[j] := List.getElem?_eq_getElem hj'
      have h2 : (cur.toList.take (xs.length * 3))[j]? = (flat3 xs)[j]? := by rw [r4]
      rw [List.getElem?_take, if_pos (by rw [flat3_len] at hj'; omega), h1, Array.getElem?_toList] at h2
      exact h2
    have eg : ∀ args w, (callFunc 67 args).run Tryd.prog w = .ok (.enter 67 args) w := enters_of Tryd.func67 (by kernel_rfl) rfl
    have hC : CmpLays Tryd.prog 67 #[] encE 3 cfE gb 0 xs.toArray.size w := fun m os dk _ x y => compare_c x y _
    have hcon := AnyQ.slices_SortFunc Tryd.sortEd 3 isAggE sizeOfE encE (fun _ => rfl) (fun x v hv => by simp [encE] at hv; rcases hv with rfl | rfl | rfl <;> rfl) cfE swoE 67 #[] gb 0 cap xs.toArray w eg hC hH hgl (by simp; omega)
    have hcon2 : Calls Tryd.prog 66 #[.slice (some ⟨gb, 0, none⟩) xs.length cap, .func (.func 67) #[] #[]] w (fun e w' => e = .returned (.tuple #[]) ∧ ∃ d' n os, PermIn 0 xs.toArray.size xs.toArray d' ∧ SortedIn (ltOf cfE) 0 xs.toArray.size d' ∧ w' = sortWorldK encE 3 w gb 0 n d' os) := hcon
    refine hcon2.mono ?_
    rintro e w' ⟨rfl, d', nn, os, ⟨hs, _, hp⟩, hsort, rfl⟩
    have hs' : d'.size = xs.length := by simpa using hs
    have hperm : d'.toList.Perm xs := by
      have e1 : d'.extract 0 xs.toArray.size = d' := by
        apply Array.extract_eq_self_of_le
        simp [hs']
      have e2 : xs.toArray.extract 0 xs.toArray.size = xs.toArray := Array.extract_size
      rw [e1, e2] at hp
      exact hp
    have hlen : d'.toList.length = xs.length := by simpa using hs'
    refine ⟨rfl, d'.toList, hperm, ?_, ?_, ?_⟩
    · rw [List.pairwise_iff_getElem]
      intro i j hi hj hij hlt
      have h1 := hsort i j (Nat.zero_le _) hij (by simp at hj ⊢; omega)
      have hi' : i < d'.size := by simpa using hi
      have hj' : j < d'.size := by simpa using hj
      rw [getElem!_pos d' j hj', getElem!_pos d' i hi'] at h1
      simp only [ltOf, decide_eq_false_iff_not, cfE_lt] at h1
      exact h1 hlt
    · unfold sortWorldK putRowK
      rw [flat_eq]
      unfold Own3
      rw [hlen]
      refine ⟨by rw [flat3_len, hlen], .inr ⟨gb, cap, putCells id 0 (flat3 d'.toList).toArray cur, rfl, hbase, ?_, r1, r2, by simpa [putCells] using r3, ?_⟩⟩
      · rw [heap_grow_old _ _ (by simpa using hgl)]
        simp [putRow, mapBlock, Sort.ahead, Array.getElem?_modify, hgb, onCells]
      · have h1 : (flat3 d'.toList).toArray.size = xs.length * 3 := by rw [List.size_toArray, flat3_len, hlen]
        have h2 := put_take cur (flat3 d'.toList).toArray (by rw [h1, r3]; exact Nat.mul_le_mul_right 3 r1)
        rw [h1] at h2
        exact h2
    · unfold sortWorldK putRowK
      have hg : w.grownBy (grow (putRow id (Sort.ahead w nn) gb 0 (flatK encE 3 d')) os) (some gb) := by
        refine ⟨rfl, rfl, rfl, by simp, fun k hk hne => ?_⟩
        rw [heap_grow_old _ _ (by simpa using hk)]
        have : gb ≠ k := fun e => hne (by rw [e])
        simp [putRow, mapBlock, Sort.ahead, Array.getElem?_modify, this]
      exact (Below.refl base w).grown hg hb (fun j hj => by cases hj; exact hbase)
end Go.Proofs.YtdohbmegkkkchaaDoor
