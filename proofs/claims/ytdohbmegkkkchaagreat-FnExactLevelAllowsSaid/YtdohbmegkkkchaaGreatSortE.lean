/-
  slices.SortFunc of edges by the program's order.
-/
import Derived.Test.YtdohbmegkkkchaaGreatCmpE
namespace Go.Proofs.YtdohbmegkkkchaaGreat
set_option linter.unusedSimpArgs false
set_option linter.unusedVariables false
set_option maxRecDepth 100000
open Go.RowKit Go.Shelf Go.Sort

def Tryz.sortEd_ren : Go.Shelf.Ren := ⟨fun | 6 => 69 | 15 => 103 | 14 => 102 | 28 => 133 | 29 => 134 | 20 => 125 | 21 => 126 | 22 => 127 | 23 => 128 | 24 => 129 | 25 => 130 | 26 => 131 | 27 => 132 | 46 => 154 | 47 => 155 | 48 => 156 | 49 => 157 | 50 => 158 | 57 => 164 | n => n, fun | 22 => 26 | 24 => 51 | 25 => 92 | 3 => 3 | 39 => 113 | 0 => 0 | 53 => 142 | 55 => 144 | 4 => 4 | 46 => 136 | 45 => 135 | 50 => 86 | 5 => 5 | 9 => 9 | 66 => 157 | 70 => 161 | 76 => 167 | 77 => 168 | n => n, fun | n => n⟩
theorem Tryz.sortEd : Go.Proofs.SlLaysF0.n6 Tryz.prog Tryz.sortEd_ren := {
  mixed := by kernel_rfl
  f6 := ⟨Tryz.f69.name, by decide, Tryz.func69.trans (congrArg some (by kernel_rfl))⟩
  f14 := ⟨Tryz.f102.name, by decide, Tryz.func102.trans (congrArg some (by kernel_rfl))⟩
  f15 := Tryz.func103.trans (congrArg some (by kernel_rfl))
  f20 := ⟨Tryz.f125.name, by decide, Tryz.func125.trans (congrArg some (by kernel_rfl))⟩
  f21 := ⟨Tryz.f126.name, by decide, Tryz.func126.trans (congrArg some (by kernel_rfl))⟩
  f22 := ⟨Tryz.f127.name, by decide, Tryz.func127.trans (congrArg some (by kernel_rfl))⟩
  f23 := ⟨Tryz.f128.name, by decide, Tryz.func128.trans (congrArg some (by kernel_rfl))⟩
  f24 := ⟨Tryz.f129.name, by decide, Tryz.func129.trans (congrArg some (by kernel_rfl))⟩
  f25 := ⟨Tryz.f130.name, by decide, Tryz.func130.trans (congrArg some (by kernel_rfl))⟩
  f26 := ⟨Tryz.f131.name, by decide, Tryz.func131.trans (congrArg some (by kernel_rfl))⟩
  f27 := ⟨Tryz.f132.name, by decide, Tryz.func132.trans (congrArg some (by kernel_rfl))⟩
  f28 := Tryz.func133.trans (congrArg some (by kernel_rfl))
  f29 := Tryz.func134.trans (congrArg some (by kernel_rfl))
  f46 := ⟨Tryz.f154.name, by decide, Tryz.func154.trans (congrArg some (by kernel_rfl))⟩
  f47 := Tryz.func155.trans (congrArg some (by kernel_rfl))
  f48 := Tryz.func156.trans (congrArg some (by kernel_rfl))
  f49 := ⟨Tryz.f157.name, by decide, Tryz.func157.trans (congrArg some (by kernel_rfl))⟩
  f50 := ⟨Tryz.f158.name, by decide, Tryz.func158.trans (congrArg some (by kernel_rfl))⟩
  f57 := ⟨Tryz.f164.name, by decide, Tryz.func164.trans (congrArg some (by kernel_rfl))⟩
  t0 := Tryz.underlying0
  a0 := Tryz.isAgg0
  z0 := Tryz.sizeOf0
  v0 := Tryz.zeroValue0
  t3 := Tryz.underlying3
  a3 := Tryz.isAgg3
  z3 := Tryz.sizeOf3
  v3 := Tryz.zeroValue3
  t4 := Tryz.underlying4
  a4 := Tryz.isAgg4
  z4 := Tryz.sizeOf4
  v4 := Tryz.zeroValue4
  t5 := Tryz.underlying5
  a5 := Tryz.isAgg5
  z5 := Tryz.sizeOf5
  v5 := Tryz.zeroValue5
  t9 := Tryz.underlying9
  a9 := Tryz.isAgg9
  z9 := Tryz.sizeOf9
  v9 := Tryz.zeroValue9
  t22 := Tryz.underlying26
  a22 := Tryz.isAgg26
  z22 := Tryz.sizeOf26
  v22 := Tryz.zeroValue26
  t25 := Tryz.underlying92
  a25 := Tryz.isAgg92
  z25 := Tryz.sizeOf92
  v25 := Tryz.zeroValue92
  t39 := Tryz.underlying113
  a39 := Tryz.isAgg113
  z39 := Tryz.sizeOf113
  v39 := Tryz.zeroValue113
  t45 := Tryz.underlying135
  a45 := Tryz.isAgg135
  z45 := Tryz.sizeOf135
  v45 := Tryz.zeroValue135
  t46 := Tryz.underlying136
  a46 := Tryz.isAgg136
  z46 := Tryz.sizeOf136
  v46 := Tryz.zeroValue136
  t50 := Tryz.underlying86
  a50 := Tryz.isAgg86
  z50 := Tryz.sizeOf86
  v50 := Tryz.zeroValue86
  t53 := Tryz.underlying142
  a53 := Tryz.isAgg142
  z53 := Tryz.sizeOf142
  v53 := Tryz.zeroValue142
  t55 := Tryz.underlying144
  a55 := Tryz.isAgg144
  z55 := Tryz.sizeOf144
  v55 := Tryz.zeroValue144
  t66 := Tryz.underlying157
  a66 := Tryz.isAgg157
  z66 := Tryz.sizeOf157
  v66 := Tryz.zeroValue157
  t70 := Tryz.underlying161
  a70 := Tryz.isAgg161
  z70 := Tryz.sizeOf161
  v70 := Tryz.zeroValue161
  t76 := Tryz.underlying167
  a76 := Tryz.isAgg167
  z76 := Tryz.sizeOf167
  v76 := Tryz.zeroValue167
  t77 := Tryz.underlying168
  a77 := Tryz.isAgg168
  z77 := Tryz.sizeOf168
  v77 := Tryz.zeroValue168 }
theorem flat_eq (d : Array T3) : flatK encE 3 d = (flat3 d.toList).toArray := by
  refine ext_get! (by simp [flat3_len]) (fun t ht => ?_)
  rw [size_flatK] at ht
  rw [get_flatK _ _ _ t ht]
  have hi : t / 3 < d.size := by omega
  have hd : d.toList[t / 3]? = some d[t / 3]! := by
    rw [getElem!_pos d (t / 3) hi, Array.getElem?_toList, Array.getElem?_eq_getElem hi]
  have hm : t % 3 < 3 := Nat.mod_lt _ (by omega)
  have hu : (encE d[t / 3]!)[t % 3]? = some (encE d[t / 3]!)[t % 3]! := by
    rw [getElem!_pos (encE d[t / 3]!) (t % 3) (by simpa [encE] using hm)]
    exact List.getElem?_eq_getElem _
  have h3 := flat3_at d.toList (t / 3) d[t / 3]! hd (t % 3) _ hu
  rw [show t / 3 * 3 + t % 3 = t by omega] at h3
  have hl : t < (flat3 d.toList).length := by rw [flat3_len, Array.length_toList]; omega
  rw [getElem!_pos (flat3 d.toList).toArray t (by simpa using hl)]
  rw [List.getElem?_eq_getElem hl] at h3
  have h3 := Option.some.inj h3
  simp only [List.getElem_toArray]
  exact h3.symm
theorem put_take (cur F : Array Value) (h : F.size ≤ cur.size) : (putCells id 0 F cur).toList.take F.size = F.toList := by
  apply List.ext_getElem?
  intro j
  by_cases hj : j < F.size
  · rw [List.getElem?_take_of_lt hj, Array.getElem?_toList, Array.getElem?_toList]
    simp [putCells, hj, show j < cur.size by omega]
  · rw [List.getElem?_take_eq_none (by omega), Array.getElem?_toList, Array.getElem?_eq_none (by omega)]
theorem isAggE (w : World) : (isAgg 51).run Tryz.prog w = .ok true w := by kernel_rfl
theorem sizeOfE (w : World) : (Go.sizeOf 51).run Tryz.prog w = .ok 3 w := by kernel_rfl
set_option maxHeartbeats 1000000 in
/-- edges of a slice of the call's own, sorted -/
theorem sortFunc_c (xs : List T3) (base : Nat) (v : Value) (w : World) (h : Own3 w base 51 v xs) (hv : ∃ g, v.ownBlock = some g) (hb : base ≤ w.heap.size) (hl : xs.length ≤ 1048576) :
    Calls Tryz.prog 69 #[v, .func (.func 70) #[] #[]] w fun e w' => e = .returned (.tuple #[]) ∧ ∃ ys : List T3, ys.Perm xs ∧ ys.Pairwise (fun x y => ¬ ltE y x) ∧ Own3 w' base 51 v ys ∧ Below base w w' := by
  rcases h.2 with ⟨rfl, hz⟩ | ⟨gb, cap, cur, rfl, hbase, hgb, r1, r2, r3, r4⟩
  · obtain ⟨g, hg⟩ := hv
    simp [Value.ownBlock] at hg
  · have hgl : gb < w.heap.size := (Array.getElem?_eq_some_iff.1 hgb).1
    have hfl : (flatK encE 3 xs.toArray) = (flat3 xs).toArray := by rw [flat_eq]
    have hH : HoldsK encE 3 w gb 0 xs.toArray := by
      unfold HoldsK
      rw [hfl]
      intro j hj
      have hj' : j < (flat3 xs).length := by simpa using hj
      refine ⟨?_, by simp [World.frozen?, hgb]⟩
      rw [cell_of_row w gb _ cur _ (0, 0) hgb, getElem!_pos (flat3 xs).toArray j hj, Nat.zero_add]
      have h1 : (flat3 xs)[j]? = some (flat3 xs)[j] := List.getElem?_eq_getElem hj'
      have h2 : (cur.toList.take (xs.length * 3))[j]? = (flat3 xs)[j]? := by rw [r4]
      rw [List.getElem?_take, if_pos (by rw [flat3_len] at hj'; omega), h1, Array.getElem?_toList] at h2
      exact h2
    have eg : ∀ args w, (callFunc 70 args).run Tryz.prog w = .ok (.enter 70 args) w := enters_of Tryz.func70 (by kernel_rfl) rfl
    have hC : CmpLays Tryz.prog 70 #[] encE 3 cfE gb 0 xs.toArray.size w := fun m os dk _ x y => compare_c x y _
    have hcon := AnyQ.slices_SortFunc Tryz.sortEd 3 isAggE sizeOfE encE (fun _ => rfl) (fun x v hv => by simp [encE] at hv; rcases hv with rfl | rfl | rfl <;> rfl) cfE swoE 70 #[] gb 0 cap xs.toArray w eg hC hH hgl (by simp; omega)
    have hcon2 : Calls Tryz.prog 69 #[.slice (some ⟨gb, 0, none⟩) xs.length cap, .func (.func 70) #[] #[]] w (fun e w' => e = .returned (.tuple #[]) ∧ ∃ d' n os, PermIn 0 xs.toArray.size xs.toArray d' ∧ SortedIn (ltOf cfE) 0 xs.toArray.size d' ∧ w' = sortWorldK encE 3 w gb 0 n d' os) := hcon
    refine hcon2.mono ?_
    rintro e w' ⟨rfl, d', nn, os, ⟨hs, _, hp⟩, hsort, rfl⟩
    have hs' : d'.size = xs.length := by simpa using hs
    have hperm : d'.toList.Perm xs := by
      have e1 : d'.extract 0 xs.toArray.size = d' := by
        apply Array.extract_eq_self_of_le
        simp [hs']
      have e2 : xs.toArray.extract 0 xs.toArray.size = xs.toArray := Array.extract_size
      rw [e1, e2] at hp
      exact hp
    have hlen : d'.toList.length = xs.length := by simpa using hs'
    refine ⟨rfl, d'.toList, hperm, ?_, ?_, ?_⟩
    · rw [List.pairwise_iff_getElem]
      intro i j hi hj hij hlt
      have h1 := hsort i j (Nat.zero_le _) hij (by simp at hj ⊢; omega)
      have hi' : i < d'.size := by simpa using hi
      have hj' : j < d'.size := by simpa using hj
      rw [getElem!_pos d' j hj', getElem!_pos d' i hi'] at h1
      simp only [ltOf, decide_eq_false_iff_not, cfE_lt] at h1
      exact h1 hlt
    · unfold sortWorldK putRowK
      rw [flat_eq]
      unfold Own3
      rw [hlen]
      refine ⟨by rw [flat3_len, hlen], .inr ⟨gb, cap, putCells id 0 (flat3 d'.toList).toArray cur, rfl, hbase, ?_, r1, r2, by simpa [putCells] using r3, ?_⟩⟩
      · rw [heap_grow_old _ _ (by simpa using hgl)]
        simp [putRow, mapBlock, Sort.ahead, Array.getElem?_modify, hgb, onCells]
      · have h1 : (flat3 d'.toList).toArray.size = xs.length * 3 := by rw [List.size_toArray, flat3_len, hlen]
        have h2 := put_take cur (flat3 d'.toList).toArray (by rw [h1, r3]; exact Nat.mul_le_mul_right 3 r1)
        rw [h1] at h2
        exact h2
    · unfold sortWorldK putRowK
      have hg : w.grownBy (grow (putRow id (Sort.ahead w nn) gb 0 (flatK encE 3 d')) os) (some gb) := by
        refine ⟨rfl, rfl, rfl, by simp, fun k hk hne => ?_⟩
        rw [heap_grow_old _ _ (by simpa using hk)]
        have : gb ≠ k := fun e => hne (by rw [e])
        simp [putRow, mapBlock, Sort.ahead, Array.getElem?_modify, this]
      exact (Below.refl base w).grown hg hb (fun j hj => by cases hj; exact hbase)
end Go.Proofs.YtdohbmegkkkchaaGreat
