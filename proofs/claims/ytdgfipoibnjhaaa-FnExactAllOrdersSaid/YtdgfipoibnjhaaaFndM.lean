/-
  The program's search for a serial order: what its closure keeps.
-/
import Derived.Test.YtdgfipoibnjhaaaFndP
import Derived.Deep.RegionHeld3
import Derived.Deep.CutRange
import Derived.Deep.CutBlock
namespace Go.Proofs.Ytdgfipoibnjhaaa
set_option linter.unusedSimpArgs false
set_option linter.unusedVariables false
set_option maxRecDepth 100000
open Go.RowKit

theorem own1_setF {w : World} {base g' i : Nat} {e : TypeId} {v u : Value} {xs : List Int} (h : Own1 w base e v xs) (hg : v.ownBlock ≠ some g') : Own1 (w.setCell ⟨g', i, none⟩ u) base e v xs :=
  World.ownsRow.kept h (grown_set u) (.inr hg)
/-- the blocks of the search's variables -/
structure FB where
  (h0 b0 : Nat)
  (bh ba bc bl bf bo bfo bok : Nat)
structure FB.ok (B : FB) : Prop where
  h : B.h0 ≤ B.bh ∧ B.bh < B.b0
  a : B.h0 ≤ B.ba ∧ B.ba < B.b0
  c : B.h0 ≤ B.bc ∧ B.bc < B.b0
  l : B.h0 ≤ B.bl ∧ B.bl < B.b0
  f : B.b0 ≤ B.bf
  o : B.b0 ≤ B.bo
  fo : B.h0 ≤ B.bfo ∧ B.bfo < B.b0
  ok_ : B.h0 ≤ B.bok ∧ B.bok < B.b0
  ne : B.bo ≠ B.bf ∧ B.bfo ≠ B.bok ∧ B.bfo ≠ B.bh ∧ B.bfo ≠ B.ba ∧ B.bfo ≠ B.bc ∧ B.bfo ≠ B.bl ∧ B.bok ≠ B.bh ∧ B.bok ≠ B.ba ∧ B.bok ≠ B.bc ∧ B.bok ≠ B.bl
/-- what the search keeps while it goes on -/
structure FSt (w0 : World) (B : FB) (A : Option Addr) (hn c : Nat) (Da : Option Addr) (all : List Int) (ca : Nat) (cv lv fv : Value) (v : Value) (pre : List Int) (W : World) : Prop where
  ext : Ext w0 W
  low : w0.heap.size ≤ B.h0
  bh : W.cell? ⟨B.bh, 0, none⟩ = some (.slice A hn c)
  ba : W.cell? ⟨B.ba, 0, none⟩ = some (.slice Da all.length ca)
  bc : W.cell? ⟨B.bc, 0, none⟩ = some cv
  bl : W.cell? ⟨B.bl, 0, none⟩ = some lv
  bf : W.cell? ⟨B.bf, 0, none⟩ = some fv
  fl : B.bf < W.heap.size
  bo : Blk W B.bo 39 #[v]
  own : Own1 W B.b0 3 v pre
  neo : v.ownBlock ≠ some B.bo
  nef : v.ownBlock ≠ some B.bf
  fo : Blk W B.bfo 39 #[.slice none 0 0]
  ok : Blk W B.bok 4 #[.bool false]
  D : Ints (fun b => b < B.b0) W Da all
  bz : B.b0 ≤ W.heap.size
section
variable {w0 W W' : World} {B : FB} {A Da : Option Addr} {hn c ca : Nat} {all pre : List Int} {cv lv fv v : Value}
theorem FSt.to (s : FSt w0 B A hn c Da all ca cv lv fv v pre W) (hB : B.ok) (hE : Ext W W') : FSt w0 B A hn c Da all ca cv lv fv v pre W' := by
  have hz := s.bz
  have h1 := hB.h; have h2 := hB.a; have h3 := hB.c; have h4 := hB.l
  exact ⟨s.ext.tr hE, s.low, hE.keep (by omega) s.bh, hE.keep (by omega) s.ba, hE.keep (by omega) s.bc, hE.keep (by omega) s.bl, hE.keep s.fl s.bf, Nat.lt_of_lt_of_le s.fl hE.size, s.bo.ext hE, s.own.ext hE, s.neo, s.nef, s.fo.ext hE, s.ok.ext hE, s.D.ext hE, Nat.le_trans hz hE.size⟩
/-- one more number -/
theorem FSt.push {v' : Value} {x : Int} (s : FSt w0 B A hn c Da all ca cv lv fv v pre W) (hB : B.ok) (hO : Own1 W' B.b0 3 v' (pre ++ [x])) (hg : W.grownBy W' v.ownBlock) (hat : v'.ownBlock = v.ownBlock ∨ v'.ownBlock = some W.heap.size) :
    FSt w0 B A hn c Da all ca cv lv fv v' (pre ++ [x]) (W'.setCell ⟨B.bo, 0, none⟩ v') := by
  have hz := s.bz
  have hol := s.bo.lt
  have hfl := s.fl
  have hlo := s.low
  have h1 := hB.h; have h2 := hB.a; have h3 := hB.c; have h4 := hB.l; have h5 := hB.fo; have h6 := hB.ok_; have h7 := hB.o; have h8 := hB.f; have h9 := hB.ne
  have hvg : ∀ g, v.ownBlock = some g → B.b0 ≤ g := fun g hg => (World.ownsRow.lt s.own g hg).1
  have low : ∀ b, b < B.b0 → (W'.setCell ⟨B.bo, 0, none⟩ v').heap[b]? = W.heap[b]? := fun b hb => by
    rw [Below.heap_setCell _ ⟨B.bo, 0, none⟩ _ b (by simp only; omega)]
    exact hg.block b (by omega) (fun e => by have := hvg b e.symm; omega)
  have lc : ∀ (p : Addr), p.block < B.b0 → (W'.setCell ⟨B.bo, 0, none⟩ v').cell? p = W.cell? p := fun p hp => World.cell?_of_block (low _ hp)
  have hbo : Blk W' B.bo 39 #[v] := (hg.block B.bo hol (fun e => s.neo e.symm)).trans s.bo
  have hbs : (W'.setCell ⟨B.bo, 0, none⟩ v').heap.size = W'.heap.size := World.size_setCell _ _ _
  have hne : v'.ownBlock ≠ some B.bo := by
    rcases hat with e | e
    · rw [e]; exact s.neo
    · rw [e]; intro h; injection h with h; omega
  have hnf : v'.ownBlock ≠ some B.bf := by
    rcases hat with e | e
    · rw [e]; exact s.nef
    · rw [e]; intro h; injection h with h; omega
  refine ⟨?_, s.low, (lc _ h1.2).trans s.bh, (lc _ h2.2).trans s.ba, (lc _ h3.2).trans s.bc, (lc _ h4.2).trans s.bl, ?_, by rw [hbs]; exact Nat.lt_of_lt_of_le hfl hg.size, ?_, own1_setF hO hne, hne, hnf, (low _ h5.2).trans s.fo, (low _ h6.2).trans s.ok, SlAt.keep s.D (kept_int _ _) (by rw [hbs]; exact hg.size) (fun p hp _ => lc p hp), by rw [hbs]; exact Nat.le_trans hz hg.size⟩
  · refine ⟨hg.os.trans s.ext.os, hg.tape.trans s.ext.tape, hg.output.trans s.ext.output, by rw [hbs]; exact Nat.le_trans s.ext.size hg.size, fun k hk => (low k (by omega)).trans (s.ext.block k hk)⟩
  · rw [World.cell?_of_block (a := ⟨B.bf, 0, none⟩) (show (W'.setCell ⟨B.bo, 0, none⟩ v').heap[B.bf]? = W.heap[B.bf]? from by
      rw [Below.heap_setCell _ ⟨B.bo, 0, none⟩ _ B.bf (fun e => h9.1 e.symm)]
      exact hg.block B.bf hfl (fun e => s.nef e.symm))]
    exact s.bf
  · have := hbo.set_ 0 v'
    simpa using this
end
end Go.Proofs.Ytdgfipoibnjhaaa
