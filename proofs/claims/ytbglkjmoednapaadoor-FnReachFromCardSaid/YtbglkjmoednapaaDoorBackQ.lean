/-
  A queue that is a slice of the call's own, whose head moves on; a row of six ints; slices.Repeat at one int and six.
-/
import Derived.Test.YtbglkjmoednapaaDoorBack
import Derived.Test.YtbglkjmoednapaaDoorTop
import Derived.ArgAppend
import Derived.Laws.CopyOwn
import Derived.Deep.CutRange
import Derived.Deep.CutBlock
import Derived.Deep.RegionHeld3
import Derived.Deep.LoopGhost
namespace Go.Proofs.YtbglkjmoednapaaDoor
set_option linter.unusedSimpArgs false
set_option linter.unusedVariables false
set_option maxRecDepth 100000
open Go.RowKit

/-- the slice v, in a block at or above base, holds the numbers q; what lies ahead of it in the block does not matter -/
def OwnQ (w : World) (base : Nat) (e : TypeId) (v : Value) (q : List Nat) : Prop :=
  ∃ g off cap cur, v = .slice (some ⟨g, off, none⟩) q.length cap ∧ base ≤ g ∧ Blk w g e cur ∧ q.length ≤ cap ∧ off + cap ≤ cur.size ∧ ∀ j x, q[j]? = some x → cur[off + j]? = some (.int .i64 ((x : Nat) : Int))
section
variable {w w' : World} {base : Nat} {e : TypeId} {v : Value} {q : List Nat}
theorem OwnQ.ext (h : OwnQ w base e v q) (hE : Ext w w') : OwnQ w' base e v q := by
  obtain ⟨g, off, cap, cur, h1, h2, h3, h4⟩ := h
  exact ⟨g, off, cap, cur, h1, h2, h3.ext hE, h4⟩
theorem OwnQ.set_ (h : OwnQ w base e v q) {g' i : Nat} {u : Value} (hg : g' < base) : OwnQ (w.setCell ⟨g', i, none⟩ u) base e v q := by
  obtain ⟨g, off, cap, cur, h1, h2, h3, h4⟩ := h
  refine ⟨g, off, cap, cur, h1, h2, ?_, h4⟩
  have : (w.setCell ⟨g', i, none⟩ u).heap[g]? = w.heap[g]? := by
    simp only [World.setCell, Array.getElem?_modify]
    rw [if_neg (by omega)]
  exact this.trans h3
theorem OwnQ.own (h : OwnQ w base e v q) : ∀ g, v.ownBlock = some g → base ≤ g ∧ g < w.heap.size := by
  obtain ⟨g, off, cap, cur, rfl, h2, h3, h4⟩ := h
  intro g' hg
  simp only [Value.ownBlock] at hg
  cases hg
  exact ⟨h2, h3.lt⟩
theorem OwnQ.made (w : World) {base : Nat} (hb : base ≤ w.heap.size) (e : TypeId) : OwnQ (w.alloc (.cells #[] e)) base e (.slice (some ⟨w.heap.size, 0, none⟩) 0 0) [] :=
  ⟨w.heap.size, 0, 0, #[], rfl, hb, Blk.new _ _ _, Nat.le_refl _, by simp, fun j x h => by cases h⟩
theorem OwnQ.below {base' : Nat} (h : OwnQ w base e v q) (hb : base' ≤ base) : OwnQ w base' e v q := by
  obtain ⟨g, off, cap, cur, h1, h2, h3⟩ := h
  exact ⟨g, off, cap, cur, h1, by omega, h3⟩
theorem OwnQ.of_own {n : Nat} {xs : List Value} (h : w.ownsRow base e 1 v n xs) (hx : xs = q.map fun x => Value.int .i64 ((x : Nat) : Int)) (hn : n = q.length) (hne : 0 < n) : OwnQ w base e v q := by
  subst hn
  rcases h.2 with ⟨_, h0⟩ | ⟨g, cap, cur, hv, hb, hg, hle, hm, hs, ht⟩
  · omega
  · refine ⟨g, 0, cap, cur, hv, hb, hg, hle, by omega, fun j x hj => ?_⟩
    have hlt : j < q.length := (List.getElem?_eq_some_iff.1 hj).1
    have h1 : xs[j]? = some (.int .i64 ((x : Nat) : Int)) := by rw [hx, List.getElem?_map, hj]; rfl
    rw [← ht, List.getElem?_take, if_pos (by omega)] at h1
    rw [Nat.zero_add]
    simpa using h1
end
/-- append of one number -/
theorem wpList_appendQ {P : Program} (w : World) {ops : Array Oper} {rest : List Oper} {o : Oper} {a : Act} {Q : Exit → Act → World → Prop} (hgd : o.guard = none) (s x : Operand) (t : TypeId)
    (ho : o.op = .call { callee := .builtin .append, args := #[s, x], argTypes := #[t, t] })
    (base : Nat) (e : TypeId) {z : Value} (ht : P.underlying t = some (.slice e)) (hinfo : (P.info? e).map (fun i => (i.zero, i.size, i.bytes)) = some (some z, 1, 8)) (hzs : z.cells.size = 1)
    (v : Value) (q : List Nat) (hs : a.eval s = v) (hown : OwnQ w base e v q)
    (g : Nat) (x0 : Nat) (hx : a.eval x = .slice (some ⟨g, 0, none⟩) 1 1) (c0 : w.cell? ⟨g, 0, none⟩ = some (.int .i64 ((x0 : Nat) : Int)))
    (hn : q.length ≤ 1048576) (hbase : base ≤ w.heap.size)
    (h : ∀ v' w', OwnQ w' base e v' (q ++ [x0]) → w.grownBy w' v.ownBlock → wpList P ops Q rest (a.put o.dst v') w') : wpList P ops Q (o :: rest) a w := by
  obtain ⟨i0, hi, hz0, hz1, hz2⟩ := info_parts hinfo
  obtain ⟨g', off, cap, cur, rfl, hb, hB, hle, hsz, hcur⟩ := hown
  have hcell : ∀ j, w.cell? ⟨g', off + j, none⟩ = cur[off + j]? := fun j => hB.cell _
  refine wpList_append_arg w hgd s x t ho e i0 z 1 8 ht hi hz0 hz1 hz2 hzs (by decide) g' off q.length cap (q.map fun x => Value.int .i64 ((x : Nat) : Int)) hs (by simp) ?_ ⟨g, 0, none⟩ 1 1 [.int .i64 ((x0 : Nat) : Int)] hx rfl ?_ ?_ ?_ (by unfold maxLen; omega) (by omega) ?_ ?_
  · intro j u hu
    rw [List.getElem?_map] at hu
    obtain ⟨y, hy, rfl⟩ := Option.map_eq_some_iff.1 hu
    rw [hcell, hcur j y hy]
  · intro j u hu
    match j, hu with
    | 0, hu => cases hu; exact c0
    | j + 1, hu => simp at hu
  · intro u hu
    simp at hu
    rcases hu with rfl
    rfl
  · intro hr j hj
    have hj : j = 0 := by simpa using hj
    subst hj
    refine ⟨?_, hB.frozen _⟩
    rw [hB.cell, Array.getElem?_eq_getElem (by omega)]
    rfl
  · intro hr
    simp only [Nat.mul_one]
    refine h _ _ ⟨g', off, cap, cur.setIfInBounds (off + q.length) (.int .i64 ((x0 : Nat) : Int)), by simp, hb, ?_, by simpa using hr, by simpa using hsz, fun j y hy => ?_⟩ ?_
    · exact hB.set_ _ _
    · rw [Array.getElem?_setIfInBounds]
      rcases Nat.lt_trichotomy j q.length with hj | hj | hj
      · rw [if_neg (by omega)]
        rw [List.getElem?_append_left hj] at hy
        exact hcur j y hy
      · subst hj
        rw [if_pos rfl, if_pos (by omega)]
        simp at hy
        rw [hy]
      · rw [List.getElem?_eq_none (by simp; omega)] at hy
        cases hy
    · refine ⟨rfl, rfl, rfl, by simp [World.setCells, World.setCell], fun k hk hne => ?_⟩
      have hne : g' ≠ k := fun e => hne (by simp [Value.ownBlock, e])
      simp only [World.setCells, World.setCell, Array.getElem?_modify]
      rw [if_neg hne]
  · intro hr v' w' h1 h2
    refine h v' w' ((OwnQ.of_own (q := q ++ [x0]) h1 (by simp) (by simp) (by omega)).below hbase) ⟨h2.os, h2.tape, h2.output, h2.size, fun k hk _ => h2.block k hk (by simp)⟩

/-- six ints -/
def farA (fr : Nat → Int) : Array Value := #[.int .i64 (fr 0), .int .i64 (fr 1), .int .i64 (fr 2), .int .i64 (fr 3), .int .i64 (fr 4), .int .i64 (fr 5)]
theorem farA_size (fr : Nat → Int) : (farA fr).size = 6 := rfl
theorem farA_get (fr : Nat → Int) {i : Nat} (hi : i < 6) : (farA fr)[i]? = some (.int .i64 (fr i)) := by
  match i, hi with
  | 0, _ => rfl
  | 1, _ => rfl
  | 2, _ => rfl
  | 3, _ => rfl
  | 4, _ => rfl
  | 5, _ => rfl
theorem farA_set (fr : Nat → Int) {i : Nat} (hi : i < 6) (x : Int) : (farA fr).setIfInBounds i (.int .i64 x) = farA (updI fr i x) := by
  apply Array.ext_getElem?
  intro j
  rw [Array.getElem?_setIfInBounds]
  by_cases hj : j < 6
  · rw [farA_get _ hj]
    by_cases e : i = j
    · subst e
      rw [if_pos rfl, if_pos (by rw [farA_size]; exact hi), farA_get _ hi, updI_same]
    · rw [if_neg e, farA_get _ hj, updI_other _ _ (fun h => e h.symm)]
  · have h1 : ∀ g, (farA g)[j]? = none := fun g => Array.getElem?_eq_none (by rw [farA_size]; omega)
    rw [h1, h1]
    split
    · rename_i e
      subst e
      omega
    · rfl
theorem far_cell {w : World} {g : Nat} {T : TypeId} {fr : Nat → Int} (h : Blk w g T (farA fr)) {i : Nat} (hi : i < 6) : w.cell? ⟨g, i, none⟩ = some (.int .i64 (fr i)) := by
  rw [h.cell, farA_get fr hi]

set_option maxHeartbeats 1000000 in
theorem mul64_c (w : World) : Calls Tryd.prog 56 #[.int .u64 1, .int .u64 6] w fun e w' => e = .returned (.tuple #[.int .u64 0, .int .u64 6]) ∧ w = w' := by
  go_enter Tryd.func56, Tryd.ntmps56
  go_wp2
  go_ret2
  exact ⟨by kernel_rfl, rfl⟩
set_option maxHeartbeats 1000000 in
theorem mul_c (w : World) : Calls Tryd.prog 48 #[.int .u64 1, .int .u64 6] w fun e w' => e = .returned (.tuple #[.int .u64 0, .int .u64 6]) ∧ w = w' := by
  go_enter Tryd.func48, Tryd.ntmps48
  go_wp2_with (go_at_call 56; refine (mul64_c _).mono ?_; rintro e w1 ⟨rfl, rfl⟩)
  go_ret2
  exact ⟨rfl, rfl⟩
def rp (n : Nat) : List Value := List.replicate n (.int .i64 (-1)) ++ List.replicate (6 - n) (.int .i64 0)
set_option maxHeartbeats 2000000 in
theorem repeat_c (b c : Nat) (w : World) (hb0 : b < w.heap.size) (c0 : w.cell? ⟨b, 0, none⟩ = some (.int .i64 (-1))) :
    Calls Tryd.prog 37 #[.slice (some ⟨b, 0, none⟩) 1 1, .int .i64 6] w fun e w' => ∃ g, e = .returned (.slice (some ⟨g, 0, none⟩) 6 6) ∧ w.heap.size ≤ g ∧ Blk w' g 3 (farA fun _ => -1) ∧ Ext w w' := by
  obtain ⟨i0, hi, hz0, hz1, hz2⟩ := info_parts infoInt
  have hmk : (Instr.makeSlice 26 (.int .i64 6) (.int .i64 6)).run Tryd.prog w = .ok (.slice (some ⟨w.heap.size, 0, none⟩) 6 6) (w.alloc (.cells (rp 0).toArray 3)) := by
    have hq := run_make_rowN (P := Tryd.prog) 26 3 i0 _ Tryd.underlying26 hi hz0 .i64 .i64 6 6 (Nat.le_refl _) (by rw [hz2]; omega) (by omega) w
    rw [hz1, show madeCells (Value.int .i64 0).cells (6 * 1) = (rp 0).toArray from by kernel_rfl] at hq
    exact hq
  have hinf : (Tryd.prog.info? 3).map (·.size) = some 1 := by kernel_rfl
  have HI := Lib.hid hinf
  have HC := Lib.hid c0
  clear hinf c0
  go_enter Tryd.func37, Tryd.ntmps37
  go_wp2_with (first
    | (go_at_call 48; refine (mul_c _).mono ?_; rintro e w1 ⟨rfl, rfl⟩)
    | (with_reducible refine wpList_copy_splice rfl (.tmp 31) (.tmp 32) 26 26 rfl 3 Tryd.underlying26 HI.out (some ⟨w.heap.size, 0, none⟩) (some ⟨b, 0, none⟩) 6 6 1 1 rfl rfl w.heap.size 0 (rp 0) 3 (heap_alloc_new w _) [.int .i64 (-1)] rfl (fun _ => ⟨rfl, _, rfl, ?_⟩) (by decide) ?_ w.heap.size w (by (repeat' (first | (with_reducible exact Below.refl _ _) | (with_reducible refine Below.mono (by assumption) ?_) | (with_reducible refine Below.trans ?_ (Below.mono (by assumption) ?_)) | (with_reducible refine Below.alloc ?_ ?_ _) | (with_reducible refine Below.drew ?_) | (with_reducible refine below_drewN ?_ _) | (with_reducible refine Below.setCell ?_ ?_ _) | (simp only [World.size_alloc, World.size_setCell, World.size_drew, size_drewN]; omega) | omega))) (Nat.le_refl _) ?_))
  · intro j u hu
    match j, hu with
    | 0, hu =>
      cases hu
      exact (show Ext w (w.alloc (.cells (rp 0).toArray 3)) by (repeat' (first | (with_reducible exact Below.refl _ _) | (with_reducible refine Below.mono (by assumption) ?_) | (with_reducible refine Below.trans ?_ (Below.mono (by assumption) ?_)) | (with_reducible refine Below.alloc ?_ ?_ _) | (with_reducible refine Below.drew ?_) | (with_reducible refine below_drewN ?_ _) | (with_reducible refine Below.setCell ?_ ?_ _) | (simp only [World.size_alloc, World.size_setCell, World.size_drew, size_drewN]; omega) | omega))).keep hb0 HC.out
    | j + 1, hu => simp at hu
  · intro u hu
    simp at hu
    rcases hu with rfl
    rfl
  intro w2 HG hB2
  have HG1 : Hid (Blk w2 w.heap.size 3 (rp 1).toArray) := Lib.hid HG.out
  clear HG
  go_wp2
  go_loopw [8] (fun i wr => ∃ n : Nat, (n = 1 ∨ n = 2 ∨ n = 4 ∨ n = 6) ∧ i = .int .i64 n ∧ Blk wr w.heap.size 3 (rp n).toArray ∧ Below w.heap.size w wr) (fun i _ => 6 - (intOf i).toNat)
  case atStart => exact ⟨1, .inl rfl, rfl, HG1.out, hB2⟩
  case round =>
    obtain ⟨n, hn, rfl, hG, hE⟩ := hrel
    clear hB2 HG1
    have HG := Lib.hid hG
    have cpy : ∀ (W : World) (n m : Nat), 0 < n → n ≤ 6 → Blk W w.heap.size 3 (rp n).toArray → ∀ j u, (List.replicate m (Value.int .i64 (-1)))[j]? = some u → m ≤ n → W.cell? ((⟨w.heap.size, 0, none⟩ : Addr).add j) = some u := by
      intro W n m h0 h6 hG j u hu hm
      have hj : j < m := by have := (List.getElem?_eq_some_iff.1 hu).1; simpa using this
      rw [Addr.add_lit, Nat.zero_add, hG.cell, ← hu]
      simp only [rp, List.getElem?_toArray]
      rw [List.getElem?_append_left (by simp; omega), List.getElem?_replicate, List.getElem?_replicate, if_pos (by omega), if_pos hj]
    have HCP := Lib.hid cpy
    clear cpy hG
    rcases hn with rfl | rfl | rfl | rfl
    · go_upto_region 9 with (fail)
      go_region_held3 (fun _ => True) (trivial) ((refine step_copy_splice rfl (.tmp 41) (.tmp 44) 26 26 rfl 3 Tryd.underlying26 HI.out (some ⟨w.heap.size, 1, none⟩) (some ⟨w.heap.size, 0, none⟩) 5 5 1 6 rfl rfl w.heap.size 1 (rp 1) 3 (HG.out.ext (by (repeat' (first | (with_reducible exact Below.refl _ _) | (with_reducible refine Below.mono (by assumption) ?_) | (with_reducible refine Below.trans ?_ (Below.mono (by assumption) ?_)) | (with_reducible refine Below.alloc ?_ ?_ _) | (with_reducible refine Below.drew ?_) | (with_reducible refine below_drewN ?_ _) | (with_reducible refine Below.setCell ?_ ?_ _) | (simp only [World.size_alloc, World.size_setCell, World.size_drew, size_drewN]; omega) | omega)))) (List.replicate 1 (.int .i64 (-1))) rfl (fun _ => ⟨rfl, _, rfl, fun j u hu => HCP.out _ 1 1 (by omega) (by omega) (HG.out.ext (by (repeat' (first | (with_reducible exact Below.refl _ _) | (with_reducible refine Below.mono (by assumption) ?_) | (with_reducible refine Below.trans ?_ (Below.mono (by assumption) ?_)) | (with_reducible refine Below.alloc ?_ ?_ _) | (with_reducible refine Below.drew ?_) | (with_reducible refine below_drewN ?_ _) | (with_reducible refine Below.setCell ?_ ?_ _) | (simp only [World.size_alloc, World.size_setCell, World.size_drew, size_drewN]; omega) | omega)))) j u hu (by omega)⟩) (by decide) (fun u hu => by rw [(List.mem_replicate.1 hu).2]; rfl) w.heap.size w hE.drew (Nat.le_refl _) ?_; intro w9 hg9 hE9))
      go_wp2
      exact ⟨⟨2, by simp, rfl, hg9.out, hE9⟩, by simp [intOf] <;> decide⟩
    · go_upto_region 9 with (fail)
      go_region_held3 (fun _ => True) (trivial) ((refine step_copy_splice rfl (.tmp 41) (.tmp 44) 26 26 rfl 3 Tryd.underlying26 HI.out (some ⟨w.heap.size, 2, none⟩) (some ⟨w.heap.size, 0, none⟩) 4 4 2 6 rfl rfl w.heap.size 2 (rp 2) 3 (HG.out.ext (by (repeat' (first | (with_reducible exact Below.refl _ _) | (with_reducible refine Below.mono (by assumption) ?_) | (with_reducible refine Below.trans ?_ (Below.mono (by assumption) ?_)) | (with_reducible refine Below.alloc ?_ ?_ _) | (with_reducible refine Below.drew ?_) | (with_reducible refine below_drewN ?_ _) | (with_reducible refine Below.setCell ?_ ?_ _) | (simp only [World.size_alloc, World.size_setCell, World.size_drew, size_drewN]; omega) | omega)))) (List.replicate 2 (.int .i64 (-1))) rfl (fun _ => ⟨rfl, _, rfl, fun j u hu => HCP.out _ 2 2 (by omega) (by omega) (HG.out.ext (by (repeat' (first | (with_reducible exact Below.refl _ _) | (with_reducible refine Below.mono (by assumption) ?_) | (with_reducible refine Below.trans ?_ (Below.mono (by assumption) ?_)) | (with_reducible refine Below.alloc ?_ ?_ _) | (with_reducible refine Below.drew ?_) | (with_reducible refine below_drewN ?_ _) | (with_reducible refine Below.setCell ?_ ?_ _) | (simp only [World.size_alloc, World.size_setCell, World.size_drew, size_drewN]; omega) | omega)))) j u hu (by omega)⟩) (by decide) (fun u hu => by rw [(List.mem_replicate.1 hu).2]; rfl) w.heap.size w hE.drew (Nat.le_refl _) ?_; intro w9 hg9 hE9))
      go_wp2
      exact ⟨⟨4, by simp, rfl, hg9.out, hE9⟩, by simp [intOf] <;> decide⟩
    · go_upto_region 9 with (fail)
      go_region_held3 (fun _ => True) (trivial) ((refine step_copy_splice rfl (.tmp 41) (.tmp 44) 26 26 rfl 3 Tryd.underlying26 HI.out (some ⟨w.heap.size, 4, none⟩) (some ⟨w.heap.size, 0, none⟩) 2 2 4 6 rfl rfl w.heap.size 4 (rp 4) 3 (HG.out.ext (by (repeat' (first | (with_reducible exact Below.refl _ _) | (with_reducible refine Below.mono (by assumption) ?_) | (with_reducible refine Below.trans ?_ (Below.mono (by assumption) ?_)) | (with_reducible refine Below.alloc ?_ ?_ _) | (with_reducible refine Below.drew ?_) | (with_reducible refine below_drewN ?_ _) | (with_reducible refine Below.setCell ?_ ?_ _) | (simp only [World.size_alloc, World.size_setCell, World.size_drew, size_drewN]; omega) | omega)))) (List.replicate 2 (.int .i64 (-1))) rfl (fun _ => ⟨rfl, _, rfl, fun j u hu => HCP.out _ 4 2 (by omega) (by omega) (HG.out.ext (by (repeat' (first | (with_reducible exact Below.refl _ _) | (with_reducible refine Below.mono (by assumption) ?_) | (with_reducible refine Below.trans ?_ (Below.mono (by assumption) ?_)) | (with_reducible refine Below.alloc ?_ ?_ _) | (with_reducible refine Below.drew ?_) | (with_reducible refine below_drewN ?_ _) | (with_reducible refine Below.setCell ?_ ?_ _) | (simp only [World.size_alloc, World.size_setCell, World.size_drew, size_drewN]; omega) | omega)))) j u hu (by omega)⟩) (by decide) (fun u hu => by rw [(List.mem_replicate.1 hu).2]; rfl) w.heap.size w hE.drew (Nat.le_refl _) ?_; intro w9 hg9 hE9))
      go_wp2
      exact ⟨⟨6, by simp, rfl, hg9.out, hE9⟩, by simp [intOf] <;> decide⟩
    · go_wp2
      go_ret
      exact ⟨_, rfl, Nat.le_refl _, HG.out, hE⟩
end Go.Proofs.YtbglkjmoednapaaDoor
