/-
  slices.Concat of two slices of numbers: a new slice of the call's own.
-/
import Derived.Test.YtmbdacfgmiielaaGreatSer
import Derived.Deep.RegionHeld3
import Derived.Deep.CutRange
import Derived.Deep.CutBlock
import Derived.Deep.AppendLies
import Derived.Test.YtmbdacfgmiielaaGreatGLevP34
import Derived.Shelf.Spec.SlicesGrow
/-
  Plain facts: the first serial order that goes on from a beginning.
-/
namespace Go.Proofs.YtmbdacfgmiielaaGreat
set_option linter.unusedSimpArgs false
set_option linter.unusedVariables false
set_option maxRecDepth 100000

/-- what is left of all numbers behind a beginning -/
def left (all pre : List Int) : List Int := all.filter fun x => decide (x ∉ pre)
end Go.Proofs.YtmbdacfgmiielaaGreat
/-
  The program's search for a serial order: what its closure keeps.
-/
namespace Go.Proofs.YtmbdacfgmiielaaGreat
set_option linter.unusedSimpArgs false
set_option linter.unusedVariables false
set_option maxRecDepth 100000
open Go.RowKit

theorem own1_setF {w : World} {base g' i : Nat} {e : TypeId} {v u : Value} {xs : List Int} (h : Own1 w base e v xs) (hg : v.ownBlock ≠ some g') : Own1 (w.setCell ⟨g', i, none⟩ u) base e v xs :=
  World.ownsRow.kept h (grown_set u) (.inr hg)
/-- the blocks of the search's variables -/
structure FB where
  (h0 b0 : Nat)
  (bh ba bc bl bf bo bfo bok : Nat)
structure FB.ok (B : FB) : Prop where
  h : B.h0 ≤ B.bh ∧ B.bh < B.b0
  a : B.h0 ≤ B.ba ∧ B.ba < B.b0
  c : B.h0 ≤ B.bc ∧ B.bc < B.b0
  l : B.h0 ≤ B.bl ∧ B.bl < B.b0
  f : B.b0 ≤ B.bf
  o : B.b0 ≤ B.bo
  fo : B.h0 ≤ B.bfo ∧ B.bfo < B.b0
  ok_ : B.h0 ≤ B.bok ∧ B.bok < B.b0
  ne : B.bo ≠ B.bf ∧ B.bfo ≠ B.bok ∧ B.bfo ≠ B.bh ∧ B.bfo ≠ B.ba ∧ B.bfo ≠ B.bc ∧ B.bfo ≠ B.bl ∧ B.bok ≠ B.bh ∧ B.bok ≠ B.ba ∧ B.bok ≠ B.bc ∧ B.bok ≠ B.bl
/-- what the search keeps while it goes on -/
structure FSt (w0 : World) (B : FB) (A : Option Addr) (hn c : Nat) (Da : Option Addr) (all : List Int) (ca : Nat) (cv lv fv : Value) (v : Value) (pre : List Int) (W : World) : Prop where
  ext : Ext w0 W
  low : w0.heap.size ≤ B.h0
  bh : W.cell? ⟨B.bh, 0, none⟩ = some (.slice A hn c)
  ba : W.cell? ⟨B.ba, 0, none⟩ = some (.slice Da all.length ca)
  bc : W.cell? ⟨B.bc, 0, none⟩ = some cv
  bl : W.cell? ⟨B.bl, 0, none⟩ = some lv
  bf : W.cell? ⟨B.bf, 0, none⟩ = some fv
  fl : B.bf < W.heap.size
  bo : Blk W B.bo 45 #[v]
  own : Own1 W B.b0 3 v pre
  neo : v.ownBlock ≠ some B.bo
  nef : v.ownBlock ≠ some B.bf
  fo : Blk W B.bfo 45 #[.slice none 0 0]
  ok : Blk W B.bok 4 #[.bool false]
  D : Ints (fun b => b < B.b0) W Da all
  bz : B.b0 ≤ W.heap.size
section
variable {w0 W W' : World} {B : FB} {A Da : Option Addr} {hn c ca : Nat} {all pre : List Int} {cv lv fv v : Value}
theorem FSt.to (s : FSt w0 B A hn c Da all ca cv lv fv v pre W) (hB : B.ok) (hE : Ext W W') : FSt w0 B A hn c Da all ca cv lv fv v pre W' := by
  have hz := s.bz
  have h1 := hB.h; have h2 := hB.a; have h3 := hB.c; have h4 := hB.l
  exact ⟨s.ext.tr hE, s.low, hE.keep (by omega) s.bh, hE.keep (by omega) s.ba, hE.keep (by omega) s.bc, hE.keep (by omega) s.bl, hE.keep s.fl s.bf, Nat.lt_of_lt_of_le s.fl hE.size, s.bo.ext hE, s.own.ext hE, s.neo, s.nef, s.fo.ext hE, s.ok.ext hE, s.D.ext hE, Nat.le_trans hz hE.size⟩
/-- one more number -/
theorem FSt.push {v' : Value} {x : Int} (s : FSt w0 B A hn c Da all ca cv lv fv v pre W) (hB : B.ok) (hO : Own1 W' B.b0 3 v' (pre ++ [x])) (hg : W.grownBy W' v.ownBlock) (hat : v'.ownBlock = v.ownBlock ∨ v'.ownBlock = some W.heap.size) :
    FSt w0 B A hn c Da all ca cv lv fv v' (pre ++ [x]) (W'.setCell ⟨B.bo, 0, none⟩ v') := by
  have hz := s.bz
  have hol := s.bo.lt
  have hfl := s.fl
  have hlo := s.low
  have h1 := hB.h; have h2 := hB.a; have h3 := hB.c; have h4 := hB.l; have h5 := hB.fo; have h6 := hB.ok_; have h7 := hB.o; have h8 := hB.f; have h9 := hB.ne
  have hvg : ∀ g, v.ownBlock = some g → B.b0 ≤ g := fun g hg => (World.ownsRow.lt s.own g hg).1
  have low : ∀ b, b < B.b0 → (W'.setCell ⟨B.bo, 0, none⟩ v').heap[b]? = W.heap[b]? := fun b hb => by
    rw [Below.heap_setCell _ ⟨B.bo, 0, none⟩ _ b (by simp only; omega)]
    exact hg.block b (by omega) (fun e => by have := hvg b e.symm; omega)
  have lc : ∀ (p : Addr), p.block < B.b0 → (W'.setCell ⟨B.bo, 0, none⟩ v').cell? p = W.cell? p := fun p hp => World.cell?_of_block (low _ hp)
  have hbo : Blk W' B.bo 45 #[v] := (hg.block B.bo hol (fun e => s.neo e.symm)).trans s.bo
  have hbs : (W'.setCell ⟨B.bo, 0, none⟩ v').heap.size = W'.heap.size := World.size_setCell _ _ _
  have hne : v'.ownBlock ≠ some B.bo := by
    rcases hat with e | e
    · rw [e]; exact s.neo
    · rw [e]; intro h; injection h with h; omega
  have hnf : v'.ownBlock ≠ some B.bf := by
    rcases hat with e | e
    · rw [e]; exact s.nef
    · rw [e]; intro h; injection h with h; omega
  refine ⟨?_, s.low, (lc _ h1.2).trans s.bh, (lc _ h2.2).trans s.ba, (lc _ h3.2).trans s.bc, (lc _ h4.2).trans s.bl, ?_, by rw [hbs]; exact Nat.lt_of_lt_of_le hfl hg.size, ?_, own1_setF hO hne, hne, hnf, (low _ h5.2).trans s.fo, (low _ h6.2).trans s.ok, SlAt.keep s.D (kept_int _ _) (by rw [hbs]; exact hg.size) (fun p hp _ => lc p hp), by rw [hbs]; exact Nat.le_trans hz hg.size⟩
  · refine ⟨hg.os.trans s.ext.os, hg.tape.trans s.ext.tape, hg.output.trans s.ext.output, by rw [hbs]; exact Nat.le_trans s.ext.size hg.size, fun k hk => (low k (by omega)).trans (s.ext.block k hk)⟩
  · rw [World.cell?_of_block (a := ⟨B.bf, 0, none⟩) (show (W'.setCell ⟨B.bo, 0, none⟩ v').heap[B.bf]? = W.heap[B.bf]? from by
      rw [Below.heap_setCell _ ⟨B.bo, 0, none⟩ _ B.bf (fun e => h9.1 e.symm)]
      exact hg.block B.bf hfl (fun e => s.nef e.symm))]
    exact s.bf
  · have := hbo.set_ 0 v'
    simpa using this
end
end Go.Proofs.YtmbdacfgmiielaaGreat
/-
  The program's search for a serial order: its closures.
-/
namespace Go.Proofs.YtmbdacfgmiielaaGreat
set_option linter.unusedSimpArgs false
set_option linter.unusedVariables false
set_option maxRecDepth 100000
open Go.RowKit

/-- append of a slice of numbers wherever it lies -/
theorem wpList_app1n (w : World) {ops : Array Oper} {rest : List Oper} {o : Oper} {a : Act} {Q : Exit → Act → World → Prop} (hgd : o.guard = none) (s x : Operand)
    (ho : o.op = .call { callee := .builtin .append, args := #[s, x], argTypes := #[45, 45] })
    (base : Nat) (v : Value) (xs : List Int) (hs : a.eval s = v) (hown : Own1 w base 3 v xs)
    (S : Nat → Prop) (b off m c : Nat) (ys : List Int) (hx : a.eval x = .slice (some ⟨b, off, none⟩) m c) (hm : m = ys.length) (hu : Ints S w (some ⟨b, off, none⟩) ys)
    (hn : xs.length + ys.length ≤ 1048576) (hbase : base ≤ w.heap.size)
    (h : ∀ v' w', Own1 w' base 3 v' (xs ++ ys) → w.grownBy w' v.ownBlock → (v'.ownBlock = v.ownBlock ∨ v'.ownBlock = some w.heap.size) → wpList Tryz.prog ops Q rest (a.put o.dst v') w') : wpList Tryz.prog ops Q (o :: rest) a w := by
  obtain ⟨i0, hi, hz0, hz1, hz2⟩ := info_parts info1
  subst hm
  refine wpList_append_own_at w hgd s x 45 ho base 3 i0 _ 1 8 Tryz.underlying45 hi hz0 hz1 hz2 rfl (by decide) v xs.length (flat1 xs) hs hown ⟨b, off, none⟩ ys.length c (flat1 ys) hx (by simp [flat1]) ?_ ?_ (by unfold maxLen; omega) (by omega) hbase ?_
  · intro j u hu'
    simp only [flat1, List.getElem?_map] at hu'
    cases hy : ys[j]? with
    | none => rw [hy] at hu'; cases hu'
    | some y =>
      rw [hy] at hu'
      cases hu'
      obtain ⟨y', b', off', hy', e, _, _, hc⟩ := hu.at_ (i := j) (List.getElem?_eq_some_iff.1 hy).1
      rw [hy] at hy'
      cases hy'
      cases e
      rw [← hc]
      unfold Addr.add
      split
      · rename_i h0
        have h0 : j = 0 := by simpa using h0
        subst h0
        rfl
      · rfl
  · intro u hu'
    simp only [flat1, List.mem_map] at hu'
    obtain ⟨x, _, rfl⟩ := hu'
    rfl
  · intro v' w' h1 h2 _ h3
    refine h v' w' ?_ h2 h3
    unfold Own1
    rw [show flat1 (xs ++ ys) = flat1 xs ++ flat1 ys by simp [flat1], List.length_append]
    exact h1
set_option maxHeartbeats 1000000 in
theorem clone_c (xs : List Int) (S : Nat → Prop) (b off c : Nat) (w : World) (hi : Ints S w (some ⟨b, off, none⟩) xs) (hn : xs.length ≤ 1000) :
    Calls Tryz.prog 26 #[.slice (some ⟨b, off, none⟩) xs.length c] w fun e w' => ∃ v, e = .returned v ∧ Own1 w' w.heap.size 3 v xs ∧ Ext w w' ∧ ∃ g, v.ownBlock = some g := by
  have hO : Own1 (w.alloc (.cells #[] 3)) w.heap.size 3 (.slice (some ⟨w.heap.size, 0, none⟩) 0 0) [] := Own1.made w #[] 0 rfl (Nat.le_refl _) (by omega) rfl
  have hnil : ∀ W : World, (binOp .eql 45 (.slice (some ⟨b, off, none⟩) xs.length c) (.slice none 0 0)).run Tryz.prog W = .ok (.bool false) W := fun W => by first | rfl | kernel_rfl | simp [binOp]
  have HI := Lib.hid hi
  clear hi
  go_enter Tryz.func26, Tryz.ntmps26
  go_wp2_with (at_builtin; refine wpList_app1n _ rfl _ _ rfl w.heap.size _ [] rfl (hO.ext (by (repeat' (first | (with_reducible exact Below.refl _ _) | (with_reducible refine Below.mono (by assumption) ?_) | (with_reducible refine Below.trans ?_ (Below.mono (by assumption) ?_)) | (with_reducible refine Below.alloc ?_ ?_ _) | (with_reducible refine Below.drew ?_) | (with_reducible refine below_drewN ?_ _) | (with_reducible refine Below.setCell ?_ ?_ _) | (simp only [World.size_alloc, World.size_setCell, World.size_drew, size_drewN]; omega) | omega)))) S b off xs.length _ xs rfl rfl (Ints.ext HI.out (by (repeat' (first | (with_reducible exact Below.refl _ _) | (with_reducible refine Below.mono (by assumption) ?_) | (with_reducible refine Below.trans ?_ (Below.mono (by assumption) ?_)) | (with_reducible refine Below.alloc ?_ ?_ _) | (with_reducible refine Below.drew ?_) | (with_reducible refine below_drewN ?_ _) | (with_reducible refine Below.setCell ?_ ?_ _) | (simp only [World.size_alloc, World.size_setCell, World.size_drew, size_drewN]; omega) | omega)))) (by simp only [List.length_nil]; omega) (by simp only [World.size_alloc]; omega) ?_)
  intro v' w' hown hg hat
  have hE : Ext w w' := by
    refine Below.grown ?_ hg ?_ (fun g hg => (World.ownsRow.lt hO g hg).1)
    · (repeat' (first | (with_reducible exact Below.refl _ _) | (with_reducible refine Below.mono (by assumption) ?_) | (with_reducible refine Below.trans ?_ (Below.mono (by assumption) ?_)) | (with_reducible refine Below.alloc ?_ ?_ _) | (with_reducible refine Below.drew ?_) | (with_reducible refine below_drewN ?_ _) | (with_reducible refine Below.setCell ?_ ?_ _) | (simp only [World.size_alloc, World.size_setCell, World.size_drew, size_drewN]; omega) | omega))
    · simp only [World.size_alloc]; omega
  have hsm : ∃ g, v'.ownBlock = some g := by
    rcases hat with e | e
    · exact ⟨w.heap.size, e⟩
    · exact ⟨_, e⟩
  have HF := Lib.hid (show _ ∧ _ ∧ _ from ⟨hown, hE, hsm⟩)
  clear hown hg hat hE hsm
  go_wp2
  go_ret
  exact ⟨_, rfl, by simpa using HF.out.1, HF.out.2.1, HF.out.2.2⟩
end Go.Proofs.YtmbdacfgmiielaaGreat
namespace Go.Proofs.YtmbdacfgmiielaaGreat
set_option linter.unusedSimpArgs false
set_option linter.unusedVariables false
set_option maxRecDepth 100000
open Go.RowKit Go.Shelf

def Tryz.growI_ren : Go.Shelf.Ren := ⟨fun | 4 => 75 | n => n, fun | 22 => 45 | 25 => 3 | 3 => 3 | 4 => 4 | 9 => 9 | 20 => 20 | 0 => 0 | n => n, fun | n => n⟩
theorem Tryz.growI : Go.Proofs.Lays8.n4 Tryz.prog Tryz.growI_ren := {
  mixed := by kernel_rfl
  f4 := ⟨Tryz.f75.name, by decide, Tryz.func75.trans (congrArg some (by kernel_rfl))⟩
  t0 := Tryz.underlying0
  a0 := Tryz.isAgg0
  z0 := Tryz.sizeOf0
  v0 := Tryz.zeroValue0
  t3 := Tryz.underlying3
  a3 := Tryz.isAgg3
  z3 := Tryz.sizeOf3
  v3 := Tryz.zeroValue3
  t4 := Tryz.underlying4
  a4 := Tryz.isAgg4
  z4 := Tryz.sizeOf4
  v4 := Tryz.zeroValue4
  t9 := Tryz.underlying9
  a9 := Tryz.isAgg9
  z9 := Tryz.sizeOf9
  v9 := Tryz.zeroValue9
  t20 := Tryz.underlying20
  a20 := Tryz.isAgg20
  z20 := Tryz.sizeOf20
  v20 := Tryz.zeroValue20
  t22 := Tryz.underlying45
  a22 := Tryz.isAgg45
  z22 := Tryz.sizeOf45
  v22 := Tryz.zeroValue45 }
theorem grow_c (n : Nat) (w : World) (hn : n ≤ 1000) : Calls Tryz.prog 75 #[.slice none 0 0, .int .i64 n] w fun e w' => ∃ v, e = .returned v ∧ Own1 w' w.heap.size 3 v [] ∧ Ext w w' := by
  by_cases h0 : n = 0
  · subst h0
    refine (Any8.slices_Grow_room Tryz.growI none 0 0 0 w (Nat.le_refl _) (by omega) (by omega) (by omega)).mono ?_
    rintro e w' ⟨rfl, rfl⟩
    exact ⟨_, rfl, World.ownsRow_nil _ _ _ _, Below.refl _ _⟩
  · obtain ⟨i0, hi, hz0, hz1, hz2⟩ := info_parts info1
    refine (Any8.slices_Grow_grow Tryz.growI i0 _ hi hz0 (by omega) none 0 0 n [] w (Nat.le_refl _) (by omega) (by rw [hz2]; omega) (by omega) (by simp) (fun _ => rfl) (fun a ha => by cases ha)).mono ?_
    rintro e w' ⟨rfl, rfl⟩
    refine ⟨_, rfl, World.ownsRow_made w.drew _ _ (Nat.le_refl _) (grownCap_le_maxLen w _ _ _ (by unfold maxLen; omega)) ?_, Below.alloc (Below.drew (Below.refl _ _)) (Nat.le_refl _) _⟩
    have hge := grownCap_ge w (0 + n) 0 3
    simp only [Array.size_append, size_zeroCells]
    show 0 + (0 + n - 0) * 1 + (grownCap w (0 + n) 0 3 - (0 + n)) * 1 = grownCap w (0 + n) 0 3 * 1
    omega
set_option maxHeartbeats 4000000 in
theorem concat_c (xs ys : List Int) (g b1 o1 c1 b2 o2 c2 : Nat) (S1 S2 : Nat → Prop) (w : World) (hB : Blk w g 45 #[.slice (some ⟨b1, o1, none⟩) xs.length c1, .slice (some ⟨b2, o2, none⟩) ys.length c2]) (hx : Ints S1 w (some ⟨b1, o1, none⟩) xs) (hy : Ints S2 w (some ⟨b2, o2, none⟩) ys) (hn : xs.length + ys.length ≤ 1000) :
    Calls Tryz.prog 45 #[.slice (some ⟨g, 0, none⟩) 2 2] w fun e w' => ∃ v, e = .returned v ∧ Own1 w' w.heap.size 3 v (xs ++ ys) ∧ Ext w w' := by
  have q0 := hB.cell 0
  have q1 := hB.cell 1
  simp only [List.getElem?_toArray, List.getElem?_cons_zero, List.getElem?_cons_succ] at q0 q1
  have hgl := hB.lt
  have HX := Lib.hid hx
  have HY := Lib.hid hy
  have CG := Lib.hid (fun w => grow_c (xs.length + ys.length) w (by omega))
  clear hB hx hy
  have hnn : ¬ ((xs.length : Int) + (ys.length : Int) < 0) := by omega
  have hnx : ¬ ((xs.length : Int) < 0) := by omega
  go_enter Tryz.func45, Tryz.ntmps45
  go_wp2
  go_loopw [3, 11] (fun s i W => ((i = .int .i64 0 ∧ s = .int .i64 0) ∨ (i = .int .i64 1 ∧ s = .int .i64 xs.length) ∨ (i = .int .i64 2 ∧ s = .int .i64 ((xs.length : Int) + ys.length))) ∧ W = w) (fun _ i _ => 2 - (intOf i).toNat)
  case atStart => exact ⟨.inl ⟨rfl, rfl⟩, rfl⟩
  case round =>
    obtain ⟨⟨rfl, rfl⟩ | ⟨rfl, rfl⟩ | ⟨rfl, rfl⟩, rfl⟩ := hrel
    · go_wp2
      go_roundw
      case measure => simp [intOf]
      case rel => exact ⟨.inr (.inl ⟨by go_num, by go_num⟩), trivial⟩
    · go_wp2
      go_roundw
      case measure => simp [intOf]
      case rel => exact ⟨.inr (.inr ⟨by go_num, by go_num⟩), trivial⟩
    · obtain ⟨wo, hwo⟩ : ∃ wo, wo = wr := ⟨_, rfl⟩
      subst hwo
      go_wp2_with (fail)
      go_at_call 75
      refine (CG.out _).mono ?_
      rintro e w1 ⟨v, rfl, hO, hb⟩
      obtain ⟨hc, hf, hz, hs⟩ := bcell hb
      (try simp only [World.size_alloc, World.size_setCell, World.size_drew, size_drewN] at hs); (first | have l0 := Nat.lt_of_lt_of_le l0 (show _ ≤ w1.heap.size by omega) | have l0 : w.heap.size < w1.heap.size := (by omega) | skip); (try have l0e := Nat.le_of_lt l0); (try have l0f := Nat.le_add_right_of_le (k := 1) l0e); (try have l1 := Nat.lt_of_lt_of_le l1 (show _ ≤ w1.heap.size by omega)); (try have l1e := Nat.le_of_lt l1); (try have l1f := Nat.le_add_right_of_le (k := 1) l1e); (try have l2 := Nat.lt_of_lt_of_le l2 (show _ ≤ w1.heap.size by omega)); (try have l2e := Nat.le_of_lt l2); (try have l2f := Nat.le_add_right_of_le (k := 1) l2e); (try have l3 := Nat.lt_of_lt_of_le l3 (show _ ≤ w1.heap.size by omega)); (try have l3e := Nat.le_of_lt l3); (try have l3f := Nat.le_add_right_of_le (k := 1) l3e)
      have HO := Lib.hid hO
      have HE1 := Lib.hid (show Ext wo w1 from hb)
      clear hO hb hc hf hz
      go_wp2
      go_loopw [6, 27] (fun v i W => ((i = .int .i64 0 ∧ Own1 W wo.heap.size 3 v []) ∨ (i = .int .i64 1 ∧ Own1 W wo.heap.size 3 v xs) ∨ (i = .int .i64 2 ∧ Own1 W wo.heap.size 3 v (xs ++ ys))) ∧ Ext wo W) (fun _ i _ => 2 - (intOf i).toNat)
      case atStart => exact ⟨.inl ⟨rfl, HO.out⟩, HE1.out⟩
      case round =>
        obtain ⟨⟨rfl, hO⟩ | ⟨rfl, hO⟩ | ⟨rfl, hO⟩, hE⟩ := hrel
        · have p0 := hE.keep hgl q0
          have HO2 := Lib.hid hO
          have hz9 := hE.size
          clear HO hO
          go_wp2_with (at_builtin; go_loud (refine wpList_app1n _ rfl _ _ rfl wo.heap.size _ [] rfl HO2.out S1 b1 o1 xs.length c1 xs rfl rfl (HX.out.ext hE) ?_ ?_ ?_))
          · simp only [List.length_nil]; omega
          · omega
          · intro v' w' hown' hgrow _
            have hE8 : Ext wo w' := Below.grown hE hgrow hz9 (fun g hg => (World.ownsRow.lt HO2.out g hg).1)
            try rw [List.nil_append] at hown'
            have HO8 := Lib.hid hown'
            have HE8 := Lib.hid hE8
            clear hown' hgrow hE8 hE
            go_wp2
            go_roundw
            case measure => simp [intOf]
            case rel => exact ⟨.inr (.inl ⟨by go_num, HO8.out⟩), HE8.out⟩
        · have p1 := hE.keep hgl q1
          have HO2 := Lib.hid hO
          have hz9 := hE.size
          clear HO hO
          go_wp2_with (at_builtin; go_loud (refine wpList_app1n _ rfl _ _ rfl wo.heap.size _ xs rfl HO2.out S2 b2 o2 ys.length c2 ys rfl rfl (HY.out.ext hE) ?_ ?_ ?_))
          · omega
          · omega
          · intro v' w' hown' hgrow _
            have hE8 : Ext wo w' := Below.grown hE hgrow hz9 (fun g hg => (World.ownsRow.lt HO2.out g hg).1)
            have HO8 := Lib.hid hown'
            have HE8 := Lib.hid hE8
            clear hown' hgrow hE8 hE
            go_wp2
            go_roundw
            case measure => simp [intOf]
            case rel => exact ⟨.inr (.inr ⟨by go_num, HO8.out⟩), HE8.out⟩
        · have HF := Lib.hid (And.intro hO hE)
          clear HO hO hE
          go_wp2
          go_ret
          exact ⟨_, rfl, HF.out.1, HF.out.2⟩
end Go.Proofs.YtmbdacfgmiielaaGreat
