/-
  Plain facts: an order that the search finds is a serial order.
-/
import Derived.Test.YtdgfipoibnjhaaaDoorSer
import Derived.Deep.RegionHeld3
import Derived.Deep.CutRange
import Derived.Deep.CutBlock
import Derived.Deep.AppendLies
import Derived.Test.YtdgfipoibnjhaaaDoorRes
import Derived.Test.YtdgfipoibnjhaaaDoorDone
import Derived.Laws.EntriesVeiled
import Derived.Deep.QuietTactic
import Derived.BigQuiet
/-
  Plain facts: the first serial order that goes on from a beginning.
-/
namespace Go.Proofs.YtdgfipoibnjhaaaDoor
set_option linter.unusedSimpArgs false
set_option linter.unusedVariables false
set_option maxRecDepth 100000

/-- the first order of all numbers that goes on from a beginning and whose reads are right (n: how many are left) -/
def fnd (h : List TxnT) (all : List Int) : Nat → List Int → Option (List Int)
  | 0, pre => some pre
  | n + 1, pre => all.findSome? fun x => if x ∈ pre then none else if (runH h (pre ++ [x])).isSome = true then fnd h all n (pre ++ [x]) else none
/-- .. with the beginning looked at, too -/
def fndR (h : List TxnT) (all : List Int) (n : Nat) (pre : List Int) : Option (List Int) := if (runH h pre).isSome = true then fnd h all n pre else none
def fndV (h : List TxnT) : Option (List Int) := if histv h = true then fnd h (dnT h h.length) (dnT h h.length).length [] else none
/-- what is left of all numbers behind a beginning -/
def left (all pre : List Int) : List Int := all.filter fun x => decide (x ∉ pre)
theorem left_nil (all : List Int) : left all [] = all := by simp [left]
theorem find_left (all pre : List Int) (G : Int → Option (List Int)) : all.findSome? (fun x => if x ∈ pre then none else G x) = (left all pre).findSome? G := by
  induction all with
  | nil => rfl
  | cons x xs ih =>
    unfold left at ih ⊢
    by_cases hx : x ∈ pre
    · rw [List.findSome?_cons, if_pos hx, List.filter_cons_of_neg (by simpa using hx)]
      exact ih
    · rw [List.findSome?_cons, if_neg hx, List.filter_cons_of_pos (by simpa using hx), List.findSome?_cons]
      cases G x with
      | some y => rfl
      | none => exact ih
theorem fnd_left (h : List TxnT) (all : List Int) (n : Nat) (pre : List Int) : fnd h all (n + 1) pre = (left all pre).findSome? fun x => fndR h all n (pre ++ [x]) := by
  conv => lhs; unfold fnd
  rw [← find_left]
  rfl
theorem erase_flt : ∀ (l : List Int), l.Nodup → ∀ (k : Nat) (x : Int), l[k]? = some x → l.eraseIdx k = l.filter fun y => decide (y ≠ x)
  | [], _, k, x, h => by simp at h
  | z :: zs, hn, k, x, h => by
    obtain ⟨h1, h2⟩ := List.nodup_cons.1 hn
    cases k with
    | zero =>
      simp at h
      subst h
      rw [List.eraseIdx_zero, List.tail_cons, List.filter_cons_of_neg (by simp)]
      symm
      rw [List.filter_eq_self]
      intro y hy
      simp only [ne_eq, decide_eq_true_eq]
      rintro rfl
      exact h1 hy
    | succ k =>
      have hx : zs[k]? = some x := by simpa using h
      have hne : z ≠ x := by rintro rfl; exact h1 (List.mem_of_getElem? hx)
      rw [List.eraseIdx_cons_succ, List.filter_cons_of_pos (by simpa using hne), erase_flt zs h2 k x hx]
theorem left_next {all pre : List Int} (hn : all.Nodup) {k : Nat} {x : Int} (hx : (left all pre)[k]? = some x) : left all (pre ++ [x]) = (left all pre).eraseIdx k := by
  have hnl : (left all pre).Nodup := hn.filter _
  have e1 : left all (pre ++ [x]) = (left all pre).filter (fun y => decide (y ≠ x)) := by
    unfold left
    rw [List.filter_filter]
    congr 1
    funext y
    simp only [List.mem_append, List.mem_singleton, not_or, ne_eq]
    by_cases h1 : y ∈ pre <;> by_cases h2 : y = x <;> simp [h1, h2]
  rw [e1]
  exact (erase_flt _ hnl k x hx).symm
theorem left_len {all pre : List Int} (hn : all.Nodup) {k : Nat} {x : Int} (hx : (left all pre)[k]? = some x) : (left all (pre ++ [x])).length + 1 = (left all pre).length := by
  rw [left_next hn hx, List.length_eraseIdx]
  obtain ⟨hk, _⟩ := List.getElem?_eq_some_iff.1 hx
  rw [if_pos hk]
  omega
theorem erase_split {xs : List Int} (k : Nat) (hk : k < xs.length) : xs.eraseIdx k = xs.take k ++ xs.drop (k + 1) := List.eraseIdx_eq_take_drop_succ xs k
/-- the search, number by number -/
theorem some_at {xs : List Int} {G : Int → Option (List Int)} {k : Nat} {x : Int} {ys : List Int} (hx : xs[k]? = some x) (hno : ∀ (j : Nat) y, j < k → xs[j]? = some y → G y = none) (hy : G x = some ys) : xs.findSome? G = some ys := by
  induction xs generalizing k with
  | nil => simp at hx
  | cons z zs ih =>
    rw [List.findSome?_cons]
    cases k with
    | zero =>
      simp at hx
      subst hx
      rw [hy]
    | succ k =>
      rw [hno 0 z (by omega) rfl]
      exact ih (by simpa using hx) (fun j y hj hjy => hno (j + 1) y (by omega) (by simpa using hjy))
theorem none_all {xs : List Int} {G : Int → Option (List Int)} (hno : ∀ (j : Nat) y, xs[j]? = some y → G y = none) : xs.findSome? G = none := by
  rw [List.findSome?_eq_none_iff]
  intro y hy
  obtain ⟨j, hj⟩ := List.mem_iff_getElem?.1 hy
  exact hno j y hj
end Go.Proofs.YtdgfipoibnjhaaaDoor
/-
  The program's search for a serial order: what its closure keeps.
-/
namespace Go.Proofs.YtdgfipoibnjhaaaDoor
set_option linter.unusedSimpArgs false
set_option linter.unusedVariables false
set_option maxRecDepth 100000
open Go.RowKit

theorem bits_or_u64 (a b : Nat) (ha : a < 4294967296) (hb : b < 4294967296) : bits .or .u64 (a : Int) (b : Int) = ((a ||| b : Nat) : Int) := by
  have hx : a ||| b < 2 ^ 32 := Nat.or_lt_two_pow (by omega) (by omega)
  have h1 : (BitVec.ofInt 64 (a : Int)).toNat = a := by
    rw [BitVec.ofInt_natCast, BitVec.toNat_ofNat]; exact Nat.mod_eq_of_lt (by omega)
  have h2 : (BitVec.ofInt 64 (b : Int)).toNat = b := by
    rw [BitVec.ofInt_natCast, BitVec.toNat_ofNat]; exact Nat.mod_eq_of_lt (by omega)
  show IntKind.u64.wrap ((BitVec.ofInt 64 (a : Int) ||| BitVec.ofInt 64 (b : Int)).toNat : Int) = _
  rw [BitVec.toNat_or, h1, h2, IntKind.wrap_u64]
  omega
theorem bits_and_u64 (a b : Nat) (ha : a < 4294967296) (hb : b < 4294967296) : bits .and .u64 (a : Int) (b : Int) = ((a &&& b : Nat) : Int) := by
  have hx : a &&& b < 2 ^ 32 := Nat.and_lt_two_pow _ (by omega)
  have h1 : (BitVec.ofInt 64 (a : Int)).toNat = a := by
    rw [BitVec.ofInt_natCast, BitVec.toNat_ofNat]; exact Nat.mod_eq_of_lt (by omega)
  have h2 : (BitVec.ofInt 64 (b : Int)).toNat = b := by
    rw [BitVec.ofInt_natCast, BitVec.toNat_ofNat]; exact Nat.mod_eq_of_lt (by omega)
  show IntKind.u64.wrap ((BitVec.ofInt 64 (a : Int) &&& BitVec.ofInt 64 (b : Int)).toNat : Int) = _
  rw [BitVec.toNat_and, h1, h2, IntKind.wrap_u64]
  omega
theorem own1_setF {w : World} {base g' i : Nat} {e : TypeId} {v u : Value} {xs : List Int} (h : Own1 w base e v xs) (hg : v.ownBlock ≠ some g') : Own1 (w.setCell ⟨g', i, none⟩ u) base e v xs :=
  World.ownsRow.kept h (grown_set u) (.inr hg)
/-- the last number dropped -/
theorem own1_drop {w : World} {base : Nat} {e : TypeId} {A : Option Addr} {n c : Nat} {xs : List Int} {x : Int} (h : Own1 w base e (.slice A n c) (xs ++ [x])) : Own1 w base e (.slice A (n - 1) c) xs := by
  have hl : (xs ++ [x]).length = xs.length + 1 := by simp
  rcases h.2 with ⟨hv, hn⟩ | ⟨g, cap, cur, hv, hb, hg, hle, hm, hs, ht⟩
  · omega
  · simp only [Value.slice.injEq] at hv
    obtain ⟨rfl, rfl, rfl⟩ := hv
    refine ⟨by simp [flat1], .inr ⟨g, c, cur, ?_, hb, hg, by omega, hm, hs, ?_⟩⟩
    · rw [hl]; rfl
    · rw [hl] at ht
      have h1 : (cur.toList.take ((xs.length + 1) * 1)).take (xs.length * 1) = (flat1 (xs ++ [x])).take (xs.length * 1) := by rw [ht]
      rw [List.take_take, Nat.min_eq_left (by omega)] at h1
      rw [h1]
      simp [flat1]

/-- the blocks of the search's variables -/
structure FB where
  (h0 b0 : Nat)
  (bh ba bc bl bf bo bfo bok : Nat)
structure FB.ok (B : FB) : Prop where
  h : B.h0 ≤ B.bh ∧ B.bh < B.b0
  a : B.h0 ≤ B.ba ∧ B.ba < B.b0
  c : B.h0 ≤ B.bc ∧ B.bc < B.b0
  l : B.h0 ≤ B.bl ∧ B.bl < B.b0
  f : B.b0 ≤ B.bf
  o : B.b0 ≤ B.bo
  fo : B.h0 ≤ B.bfo ∧ B.bfo < B.b0
  ok_ : B.h0 ≤ B.bok ∧ B.bok < B.b0
  ne : B.bo ≠ B.bf ∧ B.bfo ≠ B.bok ∧ B.bfo ≠ B.bh ∧ B.bfo ≠ B.ba ∧ B.bfo ≠ B.bc ∧ B.bfo ≠ B.bl ∧ B.bok ≠ B.bh ∧ B.bok ≠ B.ba ∧ B.bok ≠ B.bc ∧ B.bok ≠ B.bl
/-- what the search keeps while it goes on -/
structure FSt (w0 : World) (B : FB) (A : Option Addr) (hn c : Nat) (Da : Option Addr) (all : List Int) (ca : Nat) (cv lv fv : Value) (v : Value) (pre : List Int) (W : World) : Prop where
  ext : Ext w0 W
  low : w0.heap.size ≤ B.h0
  bh : W.cell? ⟨B.bh, 0, none⟩ = some (.slice A hn c)
  ba : W.cell? ⟨B.ba, 0, none⟩ = some (.slice Da all.length ca)
  bc : W.cell? ⟨B.bc, 0, none⟩ = some cv
  bl : W.cell? ⟨B.bl, 0, none⟩ = some lv
  bf : W.cell? ⟨B.bf, 0, none⟩ = some fv
  fl : B.bf < W.heap.size
  bo : Blk W B.bo 41 #[v]
  own : Own1 W B.b0 3 v pre
  neo : v.ownBlock ≠ some B.bo
  nef : v.ownBlock ≠ some B.bf
  fo : Blk W B.bfo 41 #[.slice none 0 0]
  ok : Blk W B.bok 4 #[.bool false]
  D : Ints (fun b => b < B.b0) W Da all
  bz : B.b0 ≤ W.heap.size
section
variable {w0 W W' : World} {B : FB} {A Da : Option Addr} {hn c ca : Nat} {all pre : List Int} {cv lv fv v : Value}
theorem FSt.to (s : FSt w0 B A hn c Da all ca cv lv fv v pre W) (hB : B.ok) (hE : Ext W W') : FSt w0 B A hn c Da all ca cv lv fv v pre W' := by
  have hz := s.bz
  have h1 := hB.h; have h2 := hB.a; have h3 := hB.c; have h4 := hB.l
  exact ⟨s.ext.tr hE, s.low, hE.keep (by omega) s.bh, hE.keep (by omega) s.ba, hE.keep (by omega) s.bc, hE.keep (by omega) s.bl, hE.keep s.fl s.bf, Nat.lt_of_lt_of_le s.fl hE.size, s.bo.ext hE, s.own.ext hE, s.neo, s.nef, s.fo.ext hE, s.ok.ext hE, s.D.ext hE, Nat.le_trans hz hE.size⟩
/-- one more number -/
theorem FSt.push {v' : Value} {x : Int} (s : FSt w0 B A hn c Da all ca cv lv fv v pre W) (hB : B.ok) (hO : Own1 W' B.b0 3 v' (pre ++ [x])) (hg : W.grownBy W' v.ownBlock) (hat : v'.ownBlock = v.ownBlock ∨ v'.ownBlock = some W.heap.size) :
    FSt w0 B A hn c Da all ca cv lv fv v' (pre ++ [x]) (W'.setCell ⟨B.bo, 0, none⟩ v') := by
  have hz := s.bz
  have hol := s.bo.lt
  have hfl := s.fl
  have hlo := s.low
  have h1 := hB.h; have h2 := hB.a; have h3 := hB.c; have h4 := hB.l; have h5 := hB.fo; have h6 := hB.ok_; have h7 := hB.o; have h8 := hB.f; have h9 := hB.ne
  have hvg : ∀ g, v.ownBlock = some g → B.b0 ≤ g := fun g hg => (World.ownsRow.lt s.own g hg).1
  have low : ∀ b, b < B.b0 → (W'.setCell ⟨B.bo, 0, none⟩ v').heap[b]? = W.heap[b]? := fun b hb => by
    rw [Below.heap_setCell _ ⟨B.bo, 0, none⟩ _ b (by simp only; omega)]
    exact hg.block b (by omega) (fun e => by have := hvg b e.symm; omega)
  have lc : ∀ (p : Addr), p.block < B.b0 → (W'.setCell ⟨B.bo, 0, none⟩ v').cell? p = W.cell? p := fun p hp => World.cell?_of_block (low _ hp)
  have hbo : Blk W' B.bo 41 #[v] := (hg.block B.bo hol (fun e => s.neo e.symm)).trans s.bo
  have hbs : (W'.setCell ⟨B.bo, 0, none⟩ v').heap.size = W'.heap.size := World.size_setCell _ _ _
  have hne : v'.ownBlock ≠ some B.bo := by
    rcases hat with e | e
    · rw [e]; exact s.neo
    · rw [e]; intro h; injection h with h; omega
  have hnf : v'.ownBlock ≠ some B.bf := by
    rcases hat with e | e
    · rw [e]; exact s.nef
    · rw [e]; intro h; injection h with h; omega
  refine ⟨?_, s.low, (lc _ h1.2).trans s.bh, (lc _ h2.2).trans s.ba, (lc _ h3.2).trans s.bc, (lc _ h4.2).trans s.bl, ?_, by rw [hbs]; exact Nat.lt_of_lt_of_le hfl hg.size, ?_, own1_setF hO hne, hne, hnf, (low _ h5.2).trans s.fo, (low _ h6.2).trans s.ok, SlAt.keep s.D (kept_int _ _) (by rw [hbs]; exact hg.size) (fun p hp _ => lc p hp), by rw [hbs]; exact Nat.le_trans hz hg.size⟩
  · refine ⟨hg.os.trans s.ext.os, hg.tape.trans s.ext.tape, hg.output.trans s.ext.output, by rw [hbs]; exact Nat.le_trans s.ext.size hg.size, fun k hk => (low k (by omega)).trans (s.ext.block k hk)⟩
  · rw [World.cell?_of_block (a := ⟨B.bf, 0, none⟩) (show (W'.setCell ⟨B.bo, 0, none⟩ v').heap[B.bf]? = W.heap[B.bf]? from by
      rw [Below.heap_setCell _ ⟨B.bo, 0, none⟩ _ B.bf (fun e => h9.1 e.symm)]
      exact hg.block B.bf hfl (fun e => s.nef e.symm))]
    exact s.bf
  · have := hbo.set_ 0 v'
    simpa using this
/-- the last number dropped -/
theorem FSt.pop {Av : Option Addr} {n cp : Nat} {x : Int} (s : FSt w0 B A hn c Da all ca cv lv fv (.slice Av n cp) (pre ++ [x]) W) (hB : B.ok) :
    FSt w0 B A hn c Da all ca cv lv fv (.slice Av (n - 1) cp) pre (W.setCell ⟨B.bo, 0, none⟩ (.slice Av (n - 1) cp)) := by
  have hz := s.bz
  have hol := s.bo.lt
  have hfl := s.fl
  have hlo := s.low
  have h1 := hB.h; have h2 := hB.a; have h3 := hB.c; have h4 := hB.l; have h5 := hB.fo; have h6 := hB.ok_; have h7 := hB.o; have h8 := hB.f; have h9 := hB.ne
  have hO := own1_drop s.own
  have e0 : (Value.slice Av (n - 1) cp).ownBlock = (Value.slice Av n cp).ownBlock := by cases Av <;> rfl
  have low : ∀ b, b ≠ B.bo → (W.setCell ⟨B.bo, 0, none⟩ (.slice Av (n - 1) cp)).heap[b]? = W.heap[b]? := fun b hb => Below.heap_setCell _ ⟨B.bo, 0, none⟩ _ b (by simpa using hb)
  have lc : ∀ (p : Addr), p.block ≠ B.bo → (W.setCell ⟨B.bo, 0, none⟩ (.slice Av (n - 1) cp)).cell? p = W.cell? p := fun p hp => World.cell?_of_block (low _ hp)
  have hbs : (W.setCell ⟨B.bo, 0, none⟩ (.slice Av (n - 1) cp)).heap.size = W.heap.size := World.size_setCell _ _ _
  have hne : (Value.slice Av (n - 1) cp).ownBlock ≠ some B.bo := by rw [e0]; exact s.neo
  refine ⟨?_, s.low, (lc _ (by simp only; omega)).trans s.bh, (lc _ (by simp only; omega)).trans s.ba, (lc _ (by simp only; omega)).trans s.bc, (lc _ (by simp only; omega)).trans s.bl, (lc _ (by simp only; exact fun e => h9.1 e.symm)).trans s.bf, by rw [hbs]; exact hfl, ?_, own1_setF hO hne, hne, by rw [e0]; exact s.nef, (low _ (by omega)).trans s.fo, (low _ (by omega)).trans s.ok, SlAt.keep s.D (kept_int _ _) (by rw [hbs]; exact Nat.le_refl _) (fun p hp _ => lc p (by omega)), by rw [hbs]; exact hz⟩
  · refine ⟨s.ext.os, s.ext.tape, s.ext.output, by rw [hbs]; exact s.ext.size, fun k hk => (low k (by omega)).trans (s.ext.block k hk)⟩
  · have := s.bo.set_ 0 (.slice Av (n - 1) cp)
    simpa using this
end
/-- what a search that has found leaves -/
def FEnd (w0 : World) (B : FB) (ys : List Int) (W : World) : Prop := Ext w0 W ∧ ∃ Ay cy, Blk W B.bfo 41 #[.slice Ay ys.length cy] ∧ ys.length ≤ cy ∧ Ints (fun b => B.b0 ≤ b) W Ay ys ∧ (∀ a, Ay = some a → B.b0 ≤ a.block ∧ a.block < W.heap.size ∧ ∀ o, W.frozen? ⟨a.block, o, none⟩ = false) ∧ Blk W B.bok 4 #[.bool true]
end Go.Proofs.YtdgfipoibnjhaaaDoor
/-
  The program's search for a serial order: its closures.
-/
namespace Go.Proofs.YtdgfipoibnjhaaaDoor
set_option linter.unusedSimpArgs false
set_option linter.unusedVariables false
set_option maxRecDepth 100000
open Go.RowKit

/-- append of a slice of numbers wherever it lies -/
theorem wpList_app1n (w : World) {ops : Array Oper} {rest : List Oper} {o : Oper} {a : Act} {Q : Exit → Act → World → Prop} (hgd : o.guard = none) (s x : Operand)
    (ho : o.op = .call { callee := .builtin .append, args := #[s, x], argTypes := #[41, 41] })
    (base : Nat) (v : Value) (xs : List Int) (hs : a.eval s = v) (hown : Own1 w base 3 v xs)
    (S : Nat → Prop) (b off m c : Nat) (ys : List Int) (hx : a.eval x = .slice (some ⟨b, off, none⟩) m c) (hm : m = ys.length) (hu : Ints S w (some ⟨b, off, none⟩) ys)
    (hn : xs.length + ys.length ≤ 1048576) (hbase : base ≤ w.heap.size)
    (h : ∀ v' w', Own1 w' base 3 v' (xs ++ ys) → w.grownBy w' v.ownBlock → (v'.ownBlock = v.ownBlock ∨ v'.ownBlock = some w.heap.size) → wpList Tryd.prog ops Q rest (a.put o.dst v') w') : wpList Tryd.prog ops Q (o :: rest) a w := by
  obtain ⟨i0, hi, hz0, hz1, hz2⟩ := info_parts info1
  subst hm
  refine wpList_append_own_at w hgd s x 41 ho base 3 i0 _ 1 8 Tryd.underlying41 hi hz0 hz1 hz2 rfl (by decide) v xs.length (flat1 xs) hs hown ⟨b, off, none⟩ ys.length c (flat1 ys) hx (by simp [flat1]) ?_ ?_ (by unfold maxLen; omega) (by omega) hbase ?_
  · intro j u hu'
    simp only [flat1, List.getElem?_map] at hu'
    cases hy : ys[j]? with
    | none => rw [hy] at hu'; cases hu'
    | some y =>
      rw [hy] at hu'
      cases hu'
      obtain ⟨y', b', off', hy', e, _, _, hc⟩ := hu.at_ (i := j) (List.getElem?_eq_some_iff.1 hy).1
      rw [hy] at hy'
      cases hy'
      cases e
      rw [← hc]
      unfold Addr.add
      split
      · rename_i h0
        have h0 : j = 0 := by simpa using h0
        subst h0
        rfl
      · rfl
  · intro u hu'
    simp only [flat1, List.mem_map] at hu'
    obtain ⟨x, _, rfl⟩ := hu'
    rfl
  · intro v' w' h1 h2 _ h3
    refine h v' w' ?_ h2 h3
    unfold Own1
    rw [show flat1 (xs ++ ys) = flat1 xs ++ flat1 ys by simp [flat1], List.length_append]
    exact h1
set_option maxHeartbeats 1000000 in
theorem clone_c (xs : List Int) (S : Nat → Prop) (b off c : Nat) (w : World) (hi : Ints S w (some ⟨b, off, none⟩) xs) (hn : xs.length ≤ 1000) :
    Calls Tryd.prog 60 #[.slice (some ⟨b, off, none⟩) xs.length c] w fun e w' => ∃ v, e = .returned v ∧ Own1 w' w.heap.size 3 v xs ∧ Ext w w' ∧ ∃ g, v.ownBlock = some g := by
  have hO : Own1 (w.alloc (.cells #[] 3)) w.heap.size 3 (.slice (some ⟨w.heap.size, 0, none⟩) 0 0) [] := Own1.made w #[] 0 rfl (Nat.le_refl _) (by omega) rfl
  have hnil : ∀ W : World, (binOp .eql 41 (.slice (some ⟨b, off, none⟩) xs.length c) (.slice none 0 0)).run Tryd.prog W = .ok (.bool false) W := fun W => by first | rfl | kernel_rfl | simp [binOp]
  have HI := Lib.hid hi
  clear hi
  go_enter Tryd.func60, Tryd.ntmps60
  go_wp2_with (at_builtin; refine wpList_app1n _ rfl _ _ rfl w.heap.size _ [] rfl (hO.ext (by (repeat' (first | (with_reducible exact Below.refl _ _) | (with_reducible refine Below.mono (by assumption) ?_) | (with_reducible refine Below.trans ?_ (Below.mono (by assumption) ?_)) | (with_reducible refine Below.alloc ?_ ?_ _) | (with_reducible refine Below.drew ?_) | (with_reducible refine below_drewN ?_ _) | (with_reducible refine Below.setCell ?_ ?_ _) | (simp only [World.size_alloc, World.size_setCell, World.size_drew, size_drewN]; omega) | omega)))) S b off xs.length _ xs rfl rfl (Ints.ext HI.out (by (repeat' (first | (with_reducible exact Below.refl _ _) | (with_reducible refine Below.mono (by assumption) ?_) | (with_reducible refine Below.trans ?_ (Below.mono (by assumption) ?_)) | (with_reducible refine Below.alloc ?_ ?_ _) | (with_reducible refine Below.drew ?_) | (with_reducible refine below_drewN ?_ _) | (with_reducible refine Below.setCell ?_ ?_ _) | (simp only [World.size_alloc, World.size_setCell, World.size_drew, size_drewN]; omega) | omega)))) (by simp only [List.length_nil]; omega) (by simp only [World.size_alloc]; omega) ?_)
  intro v' w' hown hg hat
  have hE : Ext w w' := by
    refine Below.grown ?_ hg ?_ (fun g hg => (World.ownsRow.lt hO g hg).1)
    · (repeat' (first | (with_reducible exact Below.refl _ _) | (with_reducible refine Below.mono (by assumption) ?_) | (with_reducible refine Below.trans ?_ (Below.mono (by assumption) ?_)) | (with_reducible refine Below.alloc ?_ ?_ _) | (with_reducible refine Below.drew ?_) | (with_reducible refine below_drewN ?_ _) | (with_reducible refine Below.setCell ?_ ?_ _) | (simp only [World.size_alloc, World.size_setCell, World.size_drew, size_drewN]; omega) | omega))
    · simp only [World.size_alloc]; omega
  have hsm : ∃ g, v'.ownBlock = some g := by
    rcases hat with e | e
    · exact ⟨w.heap.size, e⟩
    · exact ⟨_, e⟩
  have HF := Lib.hid (show _ ∧ _ ∧ _ from ⟨hown, hE, hsm⟩)
  clear hown hg hat hE hsm
  go_wp2
  go_ret
  exact ⟨_, rfl, by simpa using HF.out.1, HF.out.2.1, HF.out.2.2⟩
set_option maxHeartbeats 1000000 in
theorem anyone_c (g n : Int) (w : World) : Calls Tryd.prog 71 #[.int .u64 g, .int .i64 n] w fun e w' => e = .returned (.bool true) ∧ w = w' := by
  go_enter Tryd.func71, Tryd.ntmps71
  go_wp2
  go_ret
  exact ⟨rfl, rfl⟩
set_option maxHeartbeats 2000000 in
/-- the closure that takes what is found -/
theorem found_c (w0 : World) (B : FB) (A : Option Addr) (hn c : Nat) (Da : Option Addr) (all : List Int) (ca : Nat) (cv lv fv v : Value) (pre : List Int) (W : World) (hB : B.ok) (s : FSt w0 B A hn c Da all ca cv lv fv v pre W) (hv : ∃ g, v.ownBlock = some g) (hp : pre.length ≤ 100) :
    Calls Tryd.prog 99 #[v, .pointer (some ⟨B.bfo, 0, none⟩), .pointer (some ⟨B.bok, 0, none⟩)] W fun e W' => e = .returned (.bool false) ∧ FEnd w0 B pre W' := by
  obtain ⟨Ao, co, rfl, hI, hf⟩ := s.own.form
  obtain ⟨ad, rfl⟩ : ∃ g, Ao = some ⟨g, 0, none⟩ := by
    rcases s.own.2 with ⟨hv0, _⟩ | ⟨g, cap, cur, hv0, _⟩
    · obtain ⟨g, hg⟩ := hv
      rw [hv0] at hg
      cases hg
    · simp only [Value.slice.injEq] at hv0
      exact ⟨g, hv0.1⟩
  have hbz := s.bz
  have h5 := hB.fo
  have h6 := hB.ok_
  have h9 := hB.ne
  have hlo := s.low
  have HS := Lib.hid s
  have HI := Lib.hid hI
  clear s hI hf hv
  go_enter Tryd.func99, Tryd.ntmps99
  go_wp2_with (fail)
  go_at_call 60
  refine (clone_c pre _ _ _ _ _ (Ints.ext HI.out (by (repeat' (first | (with_reducible exact Below.refl _ _) | (with_reducible refine Below.mono (by assumption) ?_) | (with_reducible refine Below.trans ?_ (Below.mono (by assumption) ?_)) | (with_reducible refine Below.alloc ?_ ?_ _) | (with_reducible refine Below.drew ?_) | (with_reducible refine below_drewN ?_ _) | (with_reducible refine Below.setCell ?_ ?_ _) | (simp only [World.size_alloc, World.size_setCell, World.size_drew, size_drewN]; omega) | omega)))) (by omega)).mono ?_
  rintro e w2 ⟨v2, rfl, hO2, hE2, hs2⟩
  have hE2 : Ext W w2 := by (repeat' (first | (with_reducible exact Below.refl _ _) | (with_reducible refine Below.mono (by assumption) ?_) | (with_reducible refine Below.trans ?_ (Below.mono (by assumption) ?_)) | (with_reducible refine Below.alloc ?_ ?_ _) | (with_reducible refine Below.drew ?_) | (with_reducible refine below_drewN ?_ _) | (with_reducible refine Below.setCell ?_ ?_ _) | (simp only [World.size_alloc, World.size_setCell, World.size_drew, size_drewN]; omega) | omega))
  have s2 := HS.out.to hB hE2
  obtain ⟨A2, c2, rfl, hI2, hf2⟩ := hO2.form
  have hcap : pre.length ≤ c2 := by
    rcases hO2.2 with ⟨hv0, h0⟩ | ⟨g, cap, cur, hv0, _, _, hle, _⟩
    · omega
    · simp only [Value.slice.injEq] at hv0
      omega
  have f0 : w2.cell? ⟨B.bfo, 0, none⟩ = some (.slice none 0 0) := (s2.fo.cell 0).trans rfl
  have ff : w2.frozen? ⟨B.bfo, 0, none⟩ = false := s2.fo.frozen 0
  have k0 : w2.cell? ⟨B.bok, 0, none⟩ = some (.bool false) := (s2.ok.cell 0).trans rfl
  have kf : w2.frozen? ⟨B.bok, 0, none⟩ = false := s2.ok.frozen 0
  have hneq : B.bok ≠ B.bfo := fun e => h9.2.1 e.symm
  have k0' : (w2.setCell ⟨B.bfo, 0, none⟩ (.slice A2 pre.length c2)).cell? ⟨B.bok, 0, none⟩ = some (.bool false) := by
    rw [World.cell?_setCell_other _ _ _ _ (fun e => by have h8 := congrArg Addr.block e; simp only at h8; exact hneq (h8.symm))]
    exact k0
  have kf' : (w2.setCell ⟨B.bfo, 0, none⟩ (.slice A2 pre.length c2)).frozen? ⟨B.bok, 0, none⟩ = false := by
    simpa using kf
  have HF := Lib.hid (show _ ∧ _ ∧ _ from ⟨s2, hI2, hf2⟩)
  have hz2 := hE2.size
  clear s2 hI2 hf2 hO2 hE2
  go_wp2
  go_ret
  obtain ⟨s2, hI2, hf2⟩ := HF.out
  have hbk : ∀ b, b ≠ B.bfo → b ≠ B.bok → ((w2.setCell ⟨B.bfo, 0, none⟩ (.slice A2 pre.length c2)).setCell ⟨B.bok, 0, none⟩ (.bool true)).heap[b]? = w2.heap[b]? := fun b hb1 hb2 => by
    rw [Below.heap_setCell _ ⟨B.bok, 0, none⟩ _ b (by simpa using hb2), Below.heap_setCell _ ⟨B.bfo, 0, none⟩ _ b (by simpa using hb1)]
  refine ⟨rfl, ⟨s2.ext.os, s2.ext.tape, s2.ext.output, by simp only [World.size_setCell]; exact s2.ext.size, fun k hk => (hbk k (by omega) (by omega)).trans (s2.ext.block k hk)⟩, A2, c2, ?_, hcap, SlAt.keep (SlAt.mono hI2 (fun b h _ => Nat.le_trans hbz h) (fun _ _ h => h)) (kept_int _ _) (by simp only [World.size_setCell]; exact Nat.le_refl _) (fun p hp _ => World.cell?_of_block (hbk _ (by omega) (by omega))), fun a ha => ?_, ?_⟩
  · have h1 := s2.fo.set_ 0 (.slice A2 pre.length c2)
    have h2 : Blk (w2.setCell ⟨B.bfo, 0, none⟩ (.slice A2 pre.length c2)) B.bfo 41 #[.slice A2 pre.length c2] := by simpa using h1
    exact (Below.heap_setCell _ ⟨B.bok, 0, none⟩ _ B.bfo (by simp only; exact h9.2.1)).trans h2
  · have h1 := hf2 a ha
    refine ⟨Nat.le_trans hbz h1.1, by simp only [World.size_setCell]; exact h1.2.1, fun o => ?_⟩
    have h3 := h1.2.2 o
    rw [World.frozen?_of_block (a := ⟨a.block, o, none⟩) (hbk a.block (by omega) (by omega))]
    exact h3
  · have h2 : Blk (w2.setCell ⟨B.bfo, 0, none⟩ (.slice A2 pre.length c2)) B.bok 4 #[.bool false] := (Below.heap_setCell _ ⟨B.bfo, 0, none⟩ _ B.bok (by simp only; exact hneq)).trans s2.ok
    have h1 := h2.set_ 0 (.bool true)
    simpa using h1
end Go.Proofs.YtdgfipoibnjhaaaDoor
/-
  The program's search for a serial order: the recursive closure.
-/
namespace Go.Proofs.YtdgfipoibnjhaaaDoor
set_option linter.unusedSimpArgs false
set_option linter.unusedVariables false
set_option maxRecDepth 100000
open Go.RowKit

theorem runH_snoc (h : List TxnT) (pre : List Int) (x : Int) : runH h (pre ++ [x]) = (runH h pre).bind fun f => runT h f x := by
  unfold runH
  rw [List.foldl_append]
  rfl
theorem bit_push {g m : Nat} (hg : g < 64) (hm : m < 6) {pre : List Int} (hb : ∀ j : Nat, j < 6 → g.testBit j = decide ((j : Int) ∈ pre)) : g ||| 2 ^ m < 64 ∧ ∀ j : Nat, j < 6 → (g ||| 2 ^ m).testBit j = decide ((j : Int) ∈ pre ++ [(m : Int)]) := by
  refine ⟨Nat.or_lt_two_pow (n := 6) hg (Nat.pow_lt_pow_right (by omega) hm), fun j hj => ?_⟩
  rw [Nat.testBit_or, hb j hj, Nat.testBit_two_pow]
  by_cases h1 : (j : Int) ∈ pre
  · simp [h1]
  · by_cases h2 : m = j
    · subst h2; simp
    · have h3 : ¬ ((j : Int) = (m : Int)) := by omega
      simp [h1, h2, h3]
theorem bit_val {g m : Nat} {b : Bool} (h : g.testBit m = b) : (g >>> m) &&& 1 = if b = true then 1 else 0 := by
  rw [Nat.testBit, Nat.and_comm] at h
  have h1 : (g >>> m) &&& 1 ≤ 1 := Nat.and_le_right
  cases b with
  | true =>
    rw [if_pos rfl]
    have : (g >>> m) &&& 1 ≠ 0 := by simpa using h
    omega
  | false =>
    rw [if_neg (by simp)]
    simpa using h
theorem shr_run (g m : Nat) (hm : m < 6) (W : World) : (binOp .shr 108 (.int .u64 (g : Int)) (.int .i64 (m : Int))).run Tryd.prog W = .ok (.int .u64 ((g >>> m : Nat) : Int)) W := by
  have e : (g : Int).fdiv (2 ^ m) = ((g >>> m : Nat) : Int) := by
    rw [Nat.shiftRight_eq_div_pow]
    obtain rfl | rfl | rfl | rfl | rfl | rfl : m = 0 ∨ m = 1 ∨ m = 2 ∨ m = 3 ∨ m = 4 ∨ m = 5 := by omega
    all_goals
      rw [Int.fdiv_eq_ediv_of_nonneg _ (by decide)]
      omega
  show (Op.shift .shr .u64 (g : Int) .i64 (m : Int)).run Tryd.prog W = _
  unfold Op.shift
  rw [if_neg (by omega)]
  have h2 : min (m : Int).toNat IntKind.u64.bits = m := by
    rw [Int.toNat_natCast]
    exact Nat.min_eq_left (by show m ≤ 64; omega)
  simp only [h2, e]
  rfl
theorem shl_run (m : Nat) (hm : m < 6) (W : World) : (binOp .shl 108 (.int .u64 1) (.int .i64 (m : Int))).run Tryd.prog W = .ok (.int .u64 ((2 ^ m : Nat) : Int)) W := by
  obtain rfl | rfl | rfl | rfl | rfl | rfl : m = 0 ∨ m = 1 ∨ m = 2 ∨ m = 3 ∨ m = 4 ∨ m = 5 := by omega
  all_goals rfl
theorem and_run (a : Nat) (ha : a < 64) (W : World) : (binOp .and 108 (.int .u64 (a : Int)) (.int .u64 1)).run Tryd.prog W = .ok (.int .u64 ((a &&& 1 : Nat) : Int)) W := by
  have h := bits_and_u64 a 1 (by omega) (by omega)
  show (Op.intBits .and .u64 (a : Int) 1).run Tryd.prog W = _
  unfold Op.intBits
  rw [← h]
  rfl
theorem or_run (a b : Nat) (ha : a < 64) (hb : b < 64) (W : World) : (binOp .or 108 (.int .u64 (a : Int)) (.int .u64 (b : Int))).run Tryd.prog W = .ok (.int .u64 ((a ||| b : Nat) : Int)) W := by
  have h := bits_or_u64 a b (by omega) (by omega)
  show (Op.intBits .or .u64 (a : Int) (b : Int)).run Tryd.prog W = _
  unfold Op.intBits
  rw [← h]
  rfl
/-- what the search leaves as it was -/
structure Kp (B : FB) (v v' : Value) (w w' : World) : Prop where
  size : w.heap.size ≤ w'.heap.size
  keep : ∀ b, b < w.heap.size → b ≠ B.bo → some b ≠ v.ownBlock → w'.heap[b]? = w.heap[b]?
  own : v'.ownBlock = v.ownBlock ∨ ∃ q, v'.ownBlock = some q ∧ w.heap.size ≤ q
theorem Kp.refl (B : FB) (v : Value) (w : World) : Kp B v v w w := ⟨Nat.le_refl _, fun _ _ _ _ => rfl, .inl rfl⟩
theorem Kp.ext {B : FB} {v v' : Value} {w w1 w2 : World} (h : Kp B v v' w w1) (hE : Ext w1 w2) : Kp B v v' w w2 :=
  ⟨Nat.le_trans h.size hE.size, fun b h1 h2 h3 => (hE.block b (Nat.lt_of_lt_of_le h1 h.size)).trans (h.keep b h1 h2 h3), h.own⟩
theorem Kp.old {B : FB} {v v' : Value} {w w1 w2 : World} (hE : Ext w w1) (h : Kp B v v' w1 w2) : Kp B v v' w w2 :=
  ⟨Nat.le_trans hE.size h.size, fun b h1 h2 h3 => (h.keep b (Nat.lt_of_lt_of_le h1 hE.size) h2 h3).trans (hE.block b h1), by
    rcases h.own with e | ⟨q, e, hq⟩
    · exact .inl e
    · exact .inr ⟨q, e, Nat.le_trans hE.size hq⟩⟩
theorem Kp.tr {B : FB} {v v1 v2 : Value} {w w1 w2 : World} (h : Kp B v v1 w w1) (k : Kp B v1 v2 w1 w2) : Kp B v v2 w w2 :=
  ⟨Nat.le_trans h.size k.size, fun b h1 h2 h3 => (k.keep b (Nat.lt_of_lt_of_le h1 h.size) h2 (fun e => by
    rcases h.own with e1 | ⟨q, e1, hq⟩
    · rw [e1] at e; exact h3 e
    · rw [e1] at e; injection e with e; omega)).trans (h.keep b h1 h2 h3), by
    rcases k.own with e | ⟨q, e, hq⟩
    · rcases h.own with e1 | ⟨q, e1, hq⟩
      · exact .inl (e.trans e1)
      · exact .inr ⟨q, e.trans e1, hq⟩
    · exact .inr ⟨q, e, Nat.le_trans h.size hq⟩⟩
theorem Kp.push {B : FB} {v v' : Value} {w w' : World} (hg : w.grownBy w' v.ownBlock) (hat : v'.ownBlock = v.ownBlock ∨ v'.ownBlock = some w.heap.size) : Kp B v v' w (w'.setCell ⟨B.bo, 0, none⟩ v') :=
  ⟨by rw [World.size_setCell]; exact hg.size, fun b h1 h2 h3 => by
    rw [Below.heap_setCell _ ⟨B.bo, 0, none⟩ _ b (by simpa using h2)]
    exact hg.block b h1 h3, by
    rcases hat with e | e
    · exact .inl e
    · exact .inr ⟨_, e, Nat.le_refl _⟩⟩
theorem Kp.pop {B : FB} {Av : Option Addr} {n m cp : Nat} {w : World} : Kp B (.slice Av n cp) (.slice Av m cp) w (w.setCell ⟨B.bo, 0, none⟩ (.slice Av m cp)) :=
  ⟨by rw [World.size_setCell]; exact Nat.le_refl _, fun b _ h2 _ => Below.heap_setCell _ ⟨B.bo, 0, none⟩ _ b (by simpa using h2), .inl (by cases Av <;> rfl)⟩
end Go.Proofs.YtdgfipoibnjhaaaDoor
/-
  The program's FindSerial: the recursive closure walked.
-/
namespace Go.Proofs.YtdgfipoibnjhaaaDoor
set_option linter.unusedSimpArgs false
set_option linter.unusedVariables false
set_option maxRecDepth 100000
open Go.RowKit

/-- what a search from a beginning hands back -/
abbrev FromQ (h : List TxnT) (w0 : World) (B : FB) (A : Option Addr) (c : Nat) (Da : Option Addr) (all : List Int) (ca n : Nat) (v : Value) (pre : List Int) (W : World) (e : Ending) (W' : World) : Prop :=
  ∃ b, e = .returned (.bool b) ∧ (b = true → fnd h all n pre = none ∧ ∃ v', (∃ q, v'.ownBlock = some q) ∧ FSt w0 B A h.length c Da all ca (.func (.func 99) #[] #[.pointer (some ⟨B.bfo, 0, none⟩), .pointer (some ⟨B.bok, 0, none⟩)]) (.func (.func 71) #[] #[]) (.func (.func 110) #[] #[.pointer (some ⟨B.bo, 0, none⟩), .pointer (some ⟨B.ba, 0, none⟩), .pointer (some ⟨B.bc, 0, none⟩), .pointer (some ⟨B.bl, 0, none⟩), .pointer (some ⟨B.bh, 0, none⟩), .pointer (some ⟨B.bf, 0, none⟩)]) v' pre W' ∧ Kp B v v' W W') ∧ (b = false → ∃ ys, fnd h all n pre = some ys ∧ FEnd w0 B ys W')
set_option maxHeartbeats 8000000 in
theorem from_c (h : List TxnT) (hsm : Small h) (hh6 : h.length ≤ 6) (all : List Int) (hal : all.length ≤ 6) (hdf : ∀ n, n ∈ all → ∃ (m : Nat) (t : TxnT), n = m ∧ m < h.length ∧ h[m]? = some t ∧ (∀ o ∈ t.ops, opv o = true) ∧ t.ops.length ≤ 6)
    (w0 : World) (B : FB) (hB : B.ok) (A : Option Addr) (c : Nat) (Da : Option Addr) (ca : Nat) (hx0 : Txns (fun b => b < w0.heap.size) w0 A h) :
    ∀ (n : Nat) (pre : List Int) (f : Nat → Int) (g : Nat) (v : Value) (W : World), pre.length + n = all.length → runH h pre = some f → g < 64 → (∀ j : Nat, j < 6 → g.testBit j = decide ((j : Int) ∈ pre)) → (∃ q, v.ownBlock = some q) →
    FSt w0 B A h.length c Da all ca (.func (.func 99) #[] #[.pointer (some ⟨B.bfo, 0, none⟩), .pointer (some ⟨B.bok, 0, none⟩)]) (.func (.func 71) #[] #[]) (.func (.func 110) #[] #[.pointer (some ⟨B.bo, 0, none⟩), .pointer (some ⟨B.ba, 0, none⟩), .pointer (some ⟨B.bc, 0, none⟩), .pointer (some ⟨B.bl, 0, none⟩), .pointer (some ⟨B.bh, 0, none⟩), .pointer (some ⟨B.bf, 0, none⟩)]) v pre W →
    Calls Tryd.prog 110 #[.agg (st3 f), .int .u64 (g : Int), .pointer (some ⟨B.bo, 0, none⟩), .pointer (some ⟨B.ba, 0, none⟩), .pointer (some ⟨B.bc, 0, none⟩), .pointer (some ⟨B.bl, 0, none⟩), .pointer (some ⟨B.bh, 0, none⟩), .pointer (some ⟨B.bf, 0, none⟩)] W (FromQ h w0 B A c Da all ca n v pre W) := by
  intro n
  induction n with
  | zero =>
    intro pre f g v W hpl hrun hg hbit hv s
    obtain ⟨Ao, co, rfl, hI, hf⟩ := s.own.form
    have hpp : pre.length = all.length := by omega
    have o0 : W.cell? ⟨B.bo, 0, none⟩ = some (.slice Ao pre.length co) := (s.bo.cell 0).trans rfl
    have a0 := s.ba
    have c0 := s.bc
    have hz := s.bz
    have h3 := hB.c
    have hol := s.bo.lt
    have heq : ((pre.length : Int) == (all.length : Int)) = true := by rw [hpp]; simp
    have CF := fun W s => found_c w0 B A h.length c Da all ca (.func (.func 99) #[] #[.pointer (some ⟨B.bfo, 0, none⟩), .pointer (some ⟨B.bok, 0, none⟩)]) (.func (.func 71) #[] #[]) (.func (.func 110) #[] #[.pointer (some ⟨B.bo, 0, none⟩), .pointer (some ⟨B.ba, 0, none⟩), .pointer (some ⟨B.bc, 0, none⟩), .pointer (some ⟨B.bl, 0, none⟩), .pointer (some ⟨B.bh, 0, none⟩), .pointer (some ⟨B.bf, 0, none⟩)]) (.slice Ao pre.length co) pre W hB s hv (by omega)
    have CF := Lib.hid CF
    have HS := Lib.hid s
    have HPp := Lib.hid hpp
    have hal2 : B.ba < W.heap.size := by have := hB.a; omega
    have hal3 : B.bc < W.heap.size := by omega
    clear s hI hf hv hpp hpl
    go_enter Tryd.func110, Tryd.ntmps110
    go_wp2_with (fail)
    go_at_call 99
    refine (CF.out _ (HS.out.to hB (by (repeat' (first | (with_reducible exact Below.refl _ _) | (with_reducible refine Below.mono (by assumption) ?_) | (with_reducible refine Below.trans ?_ (Below.mono (by assumption) ?_)) | (with_reducible refine Below.alloc ?_ ?_ _) | (with_reducible refine Below.drew ?_) | (with_reducible refine below_drewN ?_ _) | (with_reducible refine Below.setCell ?_ ?_ _) | (simp only [World.size_alloc, World.size_setCell, World.size_drew, size_drewN]; omega) | omega))))).mono ?_
    rintro e w2 ⟨rfl, hF⟩
    have HF := Lib.hid hF
    clear hF
    go_wp2
    go_ret
    exact ⟨false, rfl, (fun h => by cases h), fun _ => ⟨pre, rfl, HF.out⟩⟩
  | succ n ih =>
    intro pre f g v W hpl hrun hg hbit hv s
    have hz := s.bz
    have hol := s.bo.lt
    have hfl := s.fl
    have hBa := hB.a; have hBh := hB.h; have hBc := hB.c; have hBl := hB.l
    obtain ⟨Ao, co, rfl, _, _⟩ := s.own.form
    have o0 : W.cell? ⟨B.bo, 0, none⟩ = some (.slice Ao pre.length co) := (s.bo.cell 0).trans rfl
    have a0 := s.ba
    have hne : ((pre.length : Int) == (all.length : Int)) = false := beq_eq_false_iff_ne.2 (by omega)
    have hba : B.ba < W.heap.size := by omega
    have HS := Lib.hid s
    have HV := Lib.hid hv
    have HRun := Lib.hid hrun
    have HBit := Lib.hid hbit
    have HD := Lib.hid hdf
    have HX := Lib.hid hx0
    have HIh := Lib.hid ih
    have hlow := s.low
    have hr2 := fun x => (runH_snoc h pre x).trans (by rw [hrun]; rfl : _ = runT h f x)
    have HR2 := Lib.hid hr2
    have hfn : fnd h all (n + 1) pre = all.findSome? fun x => if x ∈ pre then none else if (runH h (pre ++ [x])).isSome = true then fnd h all n (pre ++ [x]) else none := rfl
    have HFn := Lib.hid hfn
    have hEb : Ext W (W.alloc (.cells (st3 f) 72)) := by (repeat' (first | (with_reducible exact Below.refl _ _) | (with_reducible refine Below.mono (by assumption) ?_) | (with_reducible refine Below.trans ?_ (Below.mono (by assumption) ?_)) | (with_reducible refine Below.alloc ?_ ?_ _) | (with_reducible refine Below.drew ?_) | (with_reducible refine below_drewN ?_ _) | (with_reducible refine Below.setCell ?_ ?_ _) | (simp only [World.size_alloc, World.size_setCell, World.size_drew, size_drewN]; omega) | omega))
    have hnbo : (Value.slice Ao pre.length co).ownBlock ≠ some W.heap.size := fun e => by
      have := (World.ownsRow.lt s.own _ e).2
      omega
    clear s hv hrun hbit hdf hx0 ih hr2 hfn
    go_enter Tryd.func110, Tryd.ntmps110
    go_wp2
    go_loopw [24] (fun i wr => ∃ (k : Nat) (v' : Value), k ≤ all.length ∧ i = .int .i64 k ∧ (∃ q, v'.ownBlock = some q) ∧ FSt w0 B A h.length c Da all ca (.func (.func 99) #[] #[.pointer (some ⟨B.bfo, 0, none⟩), .pointer (some ⟨B.bok, 0, none⟩)]) (.func (.func 71) #[] #[]) (.func (.func 110) #[] #[.pointer (some ⟨B.bo, 0, none⟩), .pointer (some ⟨B.ba, 0, none⟩), .pointer (some ⟨B.bc, 0, none⟩), .pointer (some ⟨B.bl, 0, none⟩), .pointer (some ⟨B.bh, 0, none⟩), .pointer (some ⟨B.bf, 0, none⟩)]) v' pre wr ∧ Kp B (.slice Ao pre.length co) v' (W.alloc (.cells (st3 f) 72)) wr ∧ (∀ (j : Nat) y, j < k → all[j]? = some y → (if y ∈ pre then none else if (runH h (pre ++ [y])).isSome = true then fnd h all n (pre ++ [y]) else none) = none)) (fun i _ => all.length - (intOf i).toNat)
    case atStart => exact ⟨0, _, Nat.zero_le _, rfl, HV.out, HS.out.to hB (by (repeat' (first | (with_reducible exact Below.refl _ _) | (with_reducible refine Below.mono (by assumption) ?_) | (with_reducible refine Below.trans ?_ (Below.mono (by assumption) ?_)) | (with_reducible refine Below.alloc ?_ ?_ _) | (with_reducible refine Below.drew ?_) | (with_reducible refine below_drewN ?_ _) | (with_reducible refine Below.setCell ?_ ?_ _) | (simp only [World.size_alloc, World.size_setCell, World.size_drew, size_drewN]; omega) | omega))), Kp.refl _ _ _, fun j y hj => by omega⟩
    case round =>
      obtain ⟨k, v', hk, rfl, hv', hst, hkp, hno⟩ := hrel
      have HNo := Lib.hid hno
      have HKp := Lib.hid hkp
      have HV' := Lib.hid hv'
      have HSt := Lib.hid hst
      clear hno hv' o0 a0
      by_cases hlt : k < all.length
      rotate_left
      · obtain rfl : k = all.length := by omega
        have HN := Lib.hid (HFn.out.trans (none_all (fun j y hy => HNo.out j y (List.getElem?_eq_some_iff.1 hy).1 hy)))
        have HKq := Lib.hid (HKp.out.old hEb)
        clear hkp hst
        go_wp2
        go_ret
        exact ⟨true, rfl, (fun _ => ⟨HN.out, v', HV'.out, HSt.out, HKq.out⟩), fun h => by cases h⟩
      obtain ⟨x, bd, offd, hxk, rfl, hbd, hbdl, cd⟩ := hst.D.at_ hlt
      obtain ⟨m, t, rfl, hml, hmt, hmo, hm6⟩ := HD.out x (List.mem_of_getElem? hxk)
      have hm : m < 6 := by omega
      have hki : (k : Int) < all.length := by omega
      have HXk := Lib.hid hxk
      have sB : Blk wr W.heap.size 72 (st3 f) := (hkp.keep W.heap.size (by simp) (by omega) (fun e => hnbo e.symm)).trans (Blk.new W 72 (st3 f))
      have s0 : wr.cell? ⟨W.heap.size, 0, none⟩ = some (.int .i64 (f 0)) := (sB.cell 0).trans rfl
      have s1 : wr.cell? ⟨W.heap.size, 1, none⟩ = some (.int .i64 (f 1)) := (sB.cell 1).trans rfl
      have s2 : wr.cell? ⟨W.heap.size, 2, none⟩ = some (.int .i64 (f 2)) := (sB.cell 2).trans rfl
      have hzr := hst.bz
      have hsbl := sB.lt
      have hg0 : g >>> m < 64 := Nat.lt_of_le_of_lt (Nat.shiftRight_le _ _) hg
      have hbv := bit_val (HBit.out m hm)
      have hb1 := hst.bl
      have hb2 := hst.bh
      have hbl1 : B.bl < wr.heap.size := by omega
      have hbl2 : B.bh < wr.heap.size := by omega
      by_cases hin : (m : Int) ∈ pre
      · rw [if_pos (decide_eq_true hin)] at hbv
        have hbt : bits .and .u64 ((g : Int) / 2 ^ m) 1 = 1 := by
          rw [show (g : Int) / 2 ^ m = ((g >>> m : Nat) : Int) from by rw [Nat.shiftRight_eq_div_pow]; simp]
          exact (bits_and_u64 (g >>> m) 1 (by omega) (by omega)).trans (by rw [hbv]; rfl)
        have HN2 := Lib.hid (show ∀ (j : Nat) y, j < k + 1 → all[j]? = some y → (if y ∈ pre then none else if (runH h (pre ++ [y])).isSome = true then fnd h all n (pre ++ [y]) else none) = none from fun j y hj hy => by
          by_cases e : j = k
          · subst e
            rw [HXk.out] at hy
            cases hy
            rw [if_pos hin]
          · exact HNo.out j y (by omega) hy)
        clear hxk hkp hst hin hbv hmt hmo
        go_wp2
        go_roundw
        case measure => simp [intOf]; omega
        case rel => exact ⟨k + 1, v', by omega, by go_num, HV'.out, HSt.out.to hB (by (repeat' (first | (with_reducible exact Below.refl _ _) | (with_reducible refine Below.mono (by assumption) ?_) | (with_reducible refine Below.trans ?_ (Below.mono (by assumption) ?_)) | (with_reducible refine Below.alloc ?_ ?_ _) | (with_reducible refine Below.drew ?_) | (with_reducible refine below_drewN ?_ _) | (with_reducible refine Below.setCell ?_ ?_ _) | (simp only [World.size_alloc, World.size_setCell, World.size_drew, size_drewN]; omega) | omega))), HKp.out.ext (by (repeat' (first | (with_reducible exact Below.refl _ _) | (with_reducible refine Below.mono (by assumption) ?_) | (with_reducible refine Below.trans ?_ (Below.mono (by assumption) ?_)) | (with_reducible refine Below.alloc ?_ ?_ _) | (with_reducible refine Below.drew ?_) | (with_reducible refine below_drewN ?_ _) | (with_reducible refine Below.setCell ?_ ?_ _) | (simp only [World.size_alloc, World.size_setCell, World.size_drew, size_drewN]; omega) | omega))), HN2.out⟩
      rw [if_neg (by simpa using hin)] at hbv
      have hbt : bits .and .u64 ((g : Int) / 2 ^ m) 1 = 0 := by
          rw [show (g : Int) / 2 ^ m = ((g >>> m : Nat) : Int) from by rw [Nat.shiftRight_eq_div_pow]; simp]
          exact (bits_and_u64 (g >>> m) 1 (by omega) (by omega)).trans (by rw [hbv]; rfl)
      have HIn := Lib.hid hin
      obtain ⟨s9, ops, dn, A', cap, b, off, hxm, rfl, _, hb0, hOp, c0w, c1w, c2w⟩ := HX.out.at_ hml
      rw [hmt] at hxm
      cases hxm
      simp only at hmo hm6
      have c0 := hst.ext.keep hb0 c0w
      have c1 := hst.ext.keep hb0 c1w
      have c2 := hst.ext.keep hb0 c2w
      have hbw : b < wr.heap.size := by have := hst.ext.size; omega
      have hmi : (m : Int) < h.length := by omega
      have hnB : Blk (wr.alloc (.cells #[.int .i64 (f 0), .int .i64 (f 1), .int .i64 (f 2)] 72)) wr.heap.size 72 (st3 f) := Blk.new wr 72 (st3 f)
      have hrt : runT h f (m : Int) = runO f ops := by unfold runT; rw [Int.toNat_natCast, hmt]
      have HRt := Lib.hid hrt
      have HOp := Lib.hid hOp
      have HMo := Lib.hid hmo
      have CF := fun W hB hO => follow_c f s9 ops dn (fun b => b < w0.heap.size) A' cap wr.heap.size W hB hO (by show ¬ wr.heap.size < w0.heap.size; have := hst.ext.size; omega) hmo hm6
      have CF := Lib.hid CF
      clear hbv hxk hin hmt hmo hOp hrt hkp
      go_wp2_with (fail)
      go_at_call 71
      refine (anyone_c _ _ _).mono ?_
      rintro e w2 ⟨rfl, rfl⟩
      go_wp2_with (fail)
      go_at_call 49
      refine (CF.out _ hnB (HOp.out.ext (HSt.out.ext.tr (by (repeat' (first | (with_reducible exact Below.refl _ _) | (with_reducible refine Below.mono (by assumption) ?_) | (with_reducible refine Below.trans ?_ (Below.mono (by assumption) ?_)) | (with_reducible refine Below.alloc ?_ ?_ _) | (with_reducible refine Below.drew ?_) | (with_reducible refine below_drewN ?_ _) | (with_reducible refine Below.setCell ?_ ?_ _) | (simp only [World.size_alloc, World.size_setCell, World.size_drew, size_drewN]; omega) | omega)))))).mono ?_
      rintro e w2 ⟨bb, f', rfl, hB2, hG2, ht, hf⟩
      have hE2 : Ext wr w2 := grown_ext_new (show Ext wr (wr.alloc (.cells #[.int .i64 (f 0), .int .i64 (f 1), .int .i64 (f 2)] 72)) by (repeat' (first | (with_reducible exact Below.refl _ _) | (with_reducible refine Below.mono (by assumption) ?_) | (with_reducible refine Below.trans ?_ (Below.mono (by assumption) ?_)) | (with_reducible refine Below.alloc ?_ ?_ _) | (with_reducible refine Below.drew ?_) | (with_reducible refine below_drewN ?_ _) | (with_reducible refine Below.setCell ?_ ?_ _) | (simp only [World.size_alloc, World.size_setCell, World.size_drew, size_drewN]; omega) | omega))) (Nat.le_refl _) hG2
      cases bb with
      | false =>
        have hrn : (runH h (pre ++ [(m : Int)])).isSome = false := by rw [HR2.out, HRt.out, hf rfl]; rfl
        have HN2 := Lib.hid (show ∀ (j : Nat) y, j < k + 1 → all[j]? = some y → (if y ∈ pre then none else if (runH h (pre ++ [y])).isSome = true then fnd h all n (pre ++ [y]) else none) = none from fun j y hj hy => by
          by_cases e : j = k
          · subst e
            rw [HXk.out] at hy
            cases hy
            rw [if_neg HIn.out, hrn]
            rfl
          · exact HNo.out j y (by omega) hy)
        have HE2 := Lib.hid hE2
        clear ht hf hG2 hB2 hE2 hrn hst
        go_wp2
        go_roundw
        case measure => simp [intOf]; omega
        case rel => exact ⟨k + 1, v', by omega, by go_num, HV'.out, HSt.out.to hB HE2.out, HKp.out.ext HE2.out, HN2.out⟩
      | true =>
        have hrs : runH h (pre ++ [(m : Int)]) = some f' := by rw [HR2.out, HRt.out]; exact ht rfl
        have hst2 := HSt.out.to hB hE2
        have hkp2 := HKp.out.ext hE2
        have hvlt := fun q hq => (World.ownsRow.lt hst.own q hq).2
        have hz2 := hE2.size
        have hbol : B.bo < wr.heap.size := hst.bo.lt
        have hEl : Ext w2 (w2.alloc (.cells #[.int .i64 (m : Int)] 3)) := by (repeat' (first | (with_reducible exact Below.refl _ _) | (with_reducible refine Below.mono (by assumption) ?_) | (with_reducible refine Below.trans ?_ (Below.mono (by assumption) ?_)) | (with_reducible refine Below.alloc ?_ ?_ _) | (with_reducible refine Below.drew ?_) | (with_reducible refine below_drewN ?_ _) | (with_reducible refine Below.setCell ?_ ?_ _) | (simp only [World.size_alloc, World.size_setCell, World.size_drew, size_drewN]; omega) | omega))
        have hstl := hst2.to hB hEl
        have hkpl := hkp2.ext hEl
        have hBl := hB2.ext hEl
        have hb0l := hst2.bz
        have o2 : w2.cell? ⟨B.bo, 0, none⟩ = some v' := (hst2.bo.cell 0).trans rfl
        have hbol2 : B.bo < w2.heap.size := by omega
        have hpl6 : pre.length ≤ 1048576 := by omega
        have hnbl : wr.heap.size < w2.heap.size := hB2.lt
        go_wp2_with (at_builtin; refine wpList_append1_at _ rfl _ _ 41 rfl B.b0 3 Tryd.underlying41 info1 rfl v' pre rfl (hst2.own.ext (by (repeat' (first | (with_reducible exact Below.refl _ _) | (with_reducible refine Below.mono (by assumption) ?_) | (with_reducible refine Below.trans ?_ (Below.mono (by assumption) ?_)) | (with_reducible refine Below.alloc ?_ ?_ _) | (with_reducible refine Below.drew ?_) | (with_reducible refine below_drewN ?_ _) | (with_reducible refine Below.setCell ?_ ?_ _) | (simp only [World.size_alloc, World.size_setCell, World.size_drew, size_drewN]; omega) | omega)))) _ m rfl ((by simp [World.cell?_alloc_new] : World.cell? (w2.alloc (.cells #[.int .i64 (m : Int)] 3)) ⟨w2.heap.size, 0, none⟩ = some (.int .i64 (m : Int)))) hpl6 (by simp only [World.size_alloc]; omega) ?_)
        intro v2 w3 hO3 hg3 hat3
        have hsz3 : w2.heap.size < w3.heap.size := by have := hg3.size; simp only [World.size_alloc] at this; omega
        have hv2 : ∃ q, v2.ownBlock = some q := by
          rcases hat3 with e | e
          · rw [e]; exact HV'.out
          · exact ⟨_, e⟩
        have hat4 : v2.ownBlock = v'.ownBlock ∨ v2.ownBlock = some (w2.alloc (.cells #[.int .i64 (m : Int)] 3)).heap.size := by rw [World.size_alloc]; exact hat3
        have SP := hstl.push hB hO3 hg3 hat4
        have KP := hkpl.tr (Kp.push (B := B) hg3 hat4)
        clear hat4
        have hbo3 : Blk w3 B.bo 41 #[v'] := (hg3.block B.bo (by simp only [World.size_alloc]; omega) (fun e => hstl.neo e.symm)).trans hstl.bo
        have z0 : w3.cell? ⟨B.bo, 0, none⟩ = some v' := (hbo3.cell 0).trans rfl
        have zf : w3.frozen? ⟨B.bo, 0, none⟩ = false := hbo3.frozen 0
        have hnb3 : Blk w3 wr.heap.size 72 (st3 f') := (hg3.block wr.heap.size (by simp only [World.size_alloc]; omega) (fun e => by have := hvlt _ e.symm; omega)).trans hBl
        have hnbP : Blk (w3.setCell ⟨B.bo, 0, none⟩ v2) wr.heap.size 72 (st3 f') := (Below.heap_setCell _ ⟨B.bo, 0, none⟩ _ wr.heap.size (by simp only; omega)).trans hnb3
        obtain ⟨A9, c9, hv9, _⟩ := hO3.form
        generalize hn9 : (pre ++ [(m : Int)]).length = n9 at hv9
        subst hv9
        have n0 := (hnbP.cell 0).trans (show (st3 f')[0]? = some (.int .i64 (f' 0)) from rfl)
        have n1 := (hnbP.cell 1).trans (show (st3 f')[1]? = some (.int .i64 (f' 1)) from rfl)
        have n2 := (hnbP.cell 2).trans (show (st3 f')[2]? = some (.int .i64 (f' 2)) from rfl)
        have bfP := SP.bf
        have hflP := SP.fl
        have hnblP : wr.heap.size < (w3.setCell ⟨B.bo, 0, none⟩ (.slice A9 n9 c9)).heap.size := hnbP.lt
        have HSP := Lib.hid SP
        have HKP := Lib.hid KP
        have HV2 := Lib.hid hv2
        have HN9 := Lib.hid hn9
        clear ht hf hG2 hB2 hst2 hkp2 hstl hkpl hBl hO3 hg3 hat3 hbo3 hnb3 hnbP SP KP hv2 hn9
        generalize hWp : w3.setCell ⟨B.bo, 0, none⟩ (.slice A9 n9 c9) = Wp at n0 n1 n2 bfP hflP hnblP HSP HKP
        have hbp := bit_push hg hm HBit.out
        have hor : bits .or .u64 (g : Int) (IntKind.u64.wrap (2 ^ m)) = ((g ||| 2 ^ m : Nat) : Int) := by
          have h6 : 2 ^ m < 2 ^ 6 := Nat.pow_lt_pow_right (by omega) hm
          have e : IntKind.u64.wrap (2 ^ m) = ((2 ^ m : Nat) : Int) := by
            obtain rfl | rfl | rfl | rfl | rfl | rfl : m = 0 ∨ m = 1 ∨ m = 2 ∨ m = 3 ∨ m = 4 ∨ m = 5 := by omega
            all_goals rfl
          rw [e]
          exact bits_or_u64 g (2 ^ m) (by omega) (by omega)
        have IH : ∀ W, FSt w0 B (some ⟨b, off, none⟩) h.length c (some ⟨bd, offd, none⟩) all ca (.func (.func 99) #[] #[.pointer (some ⟨B.bfo, 0, none⟩), .pointer (some ⟨B.bok, 0, none⟩)]) (.func (.func 71) #[] #[]) (.func (.func 110) #[] #[.pointer (some ⟨B.bo, 0, none⟩), .pointer (some ⟨B.ba, 0, none⟩), .pointer (some ⟨B.bc, 0, none⟩), .pointer (some ⟨B.bl, 0, none⟩), .pointer (some ⟨B.bh, 0, none⟩), .pointer (some ⟨B.bf, 0, none⟩)]) (.slice A9 n9 c9) (pre ++ [(m : Int)]) W →
            Calls Tryd.prog 110 #[.agg #[.int .i64 (f' 0), .int .i64 (f' 1), .int .i64 (f' 2)], .int .u64 (bits .or .u64 (g : Int) (IntKind.u64.wrap (2 ^ m))), .pointer (some ⟨B.bo, 0, none⟩), .pointer (some ⟨B.ba, 0, none⟩), .pointer (some ⟨B.bc, 0, none⟩), .pointer (some ⟨B.bl, 0, none⟩), .pointer (some ⟨B.bh, 0, none⟩), .pointer (some ⟨B.bf, 0, none⟩)] W (FromQ h w0 B (some ⟨b, off, none⟩) c (some ⟨bd, offd, none⟩) all ca n (.slice A9 n9 c9) (pre ++ [(m : Int)]) W) := fun W s => by
          have := HIh.out (pre ++ [(m : Int)]) f' (g ||| 2 ^ m) (.slice A9 n9 c9) W (by rw [List.length_append, List.length_singleton]; omega) hrs hbp.1 hbp.2 HV2.out s
          rw [← hor] at this
          exact this
        have IH := Lib.hid IH
        have HRs := Lib.hid hrs
        clear hbp hor hrs hst
        go_upto_region 9 with (fail)
        have bfPd : Wp.drew.cell? ⟨B.bf, 0, none⟩ = some (.func (.func 110) #[] #[.pointer (some ⟨B.bo, 0, none⟩), .pointer (some ⟨B.ba, 0, none⟩), .pointer (some ⟨B.bc, 0, none⟩), .pointer (some ⟨B.bl, 0, none⟩), .pointer (some ⟨B.bh, 0, none⟩), .pointer (some ⟨B.bf, 0, none⟩)]) := bfP
        refine wp_region_held_drew (S := fun _ => True) (by kernel_rfl) trivial (fun hHeld => ?_)
        refine wpAnyH_take (i := 2) (oi := ?_) (v := ?_) ?_ ?_ ?_ ?_ ?_ ?_ hHeld ?_
        rotate_left 2
        · (simp only [List.getElem?_toArray, List.getElem?_cons_succ, List.getElem?_cons_zero]; rfl)
        · kernel_rfl
        · kernel_rfl
        · kernel_rfl
        · exact fun _ _ _ h => h
        · refine Or.inl ⟨by rfl, ?_⟩
          (intro w hSw; (try dsimp only at hSw); go_simp; try (with_reducible rfl))
        try simp only [Act.put, List.setIfInBounds_toArray, List.set_cons_zero, List.set_cons_succ]
        refine wpAnyH_take (i := 3) (oi := ?_) (v := ?_) ?_ ?_ ?_ ?_ ?_ ?_ hHeld ?_
        rotate_left 2
        · (simp only [List.getElem?_toArray, List.getElem?_cons_succ, List.getElem?_cons_zero]; rfl)
        · kernel_rfl
        · kernel_rfl
        · kernel_rfl
        · exact fun _ _ _ h => h
        · refine Or.inl ⟨by rfl, ?_⟩
          (intro w hSw; (try dsimp only at hSw); go_simp; try (with_reducible rfl))
        try simp only [Act.put, List.setIfInBounds_toArray, List.set_cons_zero, List.set_cons_succ]
        refine wpAnyH_take (i := 4) (oi := ?_) (v := ?_) ?_ ?_ ?_ ?_ ?_ ?_ hHeld ?_
        rotate_left 2
        · (simp only [List.getElem?_toArray, List.getElem?_cons_succ, List.getElem?_cons_zero]; rfl)
        · kernel_rfl
        · kernel_rfl
        · kernel_rfl
        · exact fun _ _ _ h => h
        · refine Or.inl ⟨by rfl, ?_⟩
          (intro w hSw; (try dsimp only at hSw); go_simp; try (with_reducible rfl))
        try simp only [Act.put, List.setIfInBounds_toArray, List.set_cons_zero, List.set_cons_succ]
        refine wpAnyH_take (i := 5) (oi := ?_) (v := ?_) ?_ ?_ ?_ ?_ ?_ ?_ hHeld ?_
        rotate_left 2
        · (simp only [List.getElem?_toArray, List.getElem?_cons_succ, List.getElem?_cons_zero]; rfl)
        · kernel_rfl
        · kernel_rfl
        · kernel_rfl
        · exact fun _ _ _ h => h
        · refine Or.inl ⟨by rfl, ?_⟩
          (intro w hSw; (try dsimp only at hSw); go_simp; try (with_reducible rfl))
        try simp only [Act.put, List.setIfInBounds_toArray, List.set_cons_zero, List.set_cons_succ]
        refine wpAnyH_ready (rs := [0, 1]) (by kernel_rfl) (by simp) ?_
        refine AllReadyH.cons rfl (fun K hK => ?_) (AllReadyH.cons rfl (fun K hK => ?_) AllReadyH.nil)
        all_goals
          rw [if_pos (by kernel_rfl)]
          go_wp2_with (fail)
          clear hHeld
          refine hK.out _ _ trivial (fun hHeld => ?_)
          clear hK K
          try simp only [Act.put, List.setIfInBounds_toArray, List.set_cons_zero, List.set_cons_succ]
        refine wpAnyH_ready (rs := [1]) (by kernel_rfl) (by simp) ?_
        refine AllReadyH.cons rfl (fun K hK => ?_) AllReadyH.nil
        rotate_left
        refine wpAnyH_ready (rs := [0]) (by kernel_rfl) (by simp) ?_
        refine AllReadyH.cons rfl (fun K hK => ?_) AllReadyH.nil
        rotate_left
        all_goals
          rw [if_pos (by kernel_rfl)]
          go_wp2_with (fail)
          clear hHeld
          refine hK.out _ _ trivial (fun hHeld => ?_)
          clear hK K
          try simp only [Act.put, List.setIfInBounds_toArray, List.set_cons_zero, List.set_cons_succ]
          refine wpAnyH_ready (rs := [6]) (by kernel_rfl) (by simp) ?_
          refine AllReadyH.cons rfl (fun K hK => ?_) AllReadyH.nil
          rw [if_pos (by kernel_rfl)]
          go_wp2_with (fail)
          go_at_call 110
          refine (IH.out _ (HSP.out.to hB (by (repeat' (first | (with_reducible exact Below.refl _ _) | (with_reducible refine Below.mono (by assumption) ?_) | (with_reducible refine Below.trans ?_ (Below.mono (by assumption) ?_)) | (with_reducible refine Below.alloc ?_ ?_ _) | (with_reducible refine Below.drew ?_) | (with_reducible refine below_drewN ?_ _) | (with_reducible refine Below.setCell ?_ ?_ _) | (simp only [World.size_alloc, World.size_setCell, World.size_drew, size_drewN]; omega) | omega))))).mono ?_
          rintro e w5 ⟨bb, rfl, hbt5, hbf5⟩
          have hE5 : Ext Wp Wp.drew := by (repeat' (first | (with_reducible exact Below.refl _ _) | (with_reducible refine Below.mono (by assumption) ?_) | (with_reducible refine Below.trans ?_ (Below.mono (by assumption) ?_)) | (with_reducible refine Below.alloc ?_ ?_ _) | (with_reducible refine Below.drew ?_) | (with_reducible refine below_drewN ?_ _) | (with_reducible refine Below.setCell ?_ ?_ _) | (simp only [World.size_alloc, World.size_setCell, World.size_drew, size_drewN]; omega) | omega))
          go_wp2_with (fail)
          clear hHeld
          refine hK.out _ _ trivial (fun hHeld => ?_)
          clear hK K
          try simp only [Act.put, List.setIfInBounds_toArray, List.set_cons_zero, List.set_cons_succ]
          refine wpAnyH_take (i := 7) (oi := ?_) (v := ?_) ?_ ?_ ?_ ?_ ?_ ?_ hHeld ?_
          rotate_left 2
          · (simp only [List.getElem?_toArray, List.getElem?_cons_succ, List.getElem?_cons_zero]; rfl)
          · kernel_rfl
          · kernel_rfl
          · kernel_rfl
          · exact fun _ _ _ h => h
          · refine Or.inl ⟨by rfl, ?_⟩
            (intro w hSw; (try dsimp only at hSw); go_simp; try (with_reducible rfl))
          try simp only [Act.put, List.setIfInBounds_toArray, List.set_cons_zero, List.set_cons_succ]
          refine wpAnyH_done (by kernel_rfl) ?_ _
        all_goals
          cases bb with
          | false =>
            obtain ⟨ys, hys, hEnd⟩ := hbf5 rfl
            have HS := Lib.hid (HFn.out.trans (some_at HXk.out (fun j y hj hy => HNo.out j y hj hy) (by rw [if_neg HIn.out, HRs.out, if_pos (show (some f').isSome = true from rfl)]; exact hys)))
            have HEnd := Lib.hid hEnd
            clear hbt5 hbf5 hys hEnd
            go_wp2
            go_ret
            exact ⟨false, rfl, (fun h => by cases h), fun _ => ⟨ys, HS.out, HEnd.out⟩⟩
          | true =>
            obtain ⟨hno9, v3, hv3, hst3, hkp3⟩ := hbt5 rfl
            have hkp4 := HKP.out.tr (hkp3.old hE5)
            have hpl1 : (pre ++ [(m : Int)]).length = pre.length + 1 := by simp
            obtain ⟨g3, c3, rfl, hle3⟩ : ∃ g c, v3 = .slice (some ⟨g, 0, none⟩) (pre.length + 1) c ∧ pre.length + 1 ≤ c := by
              rcases hst3.own.2 with ⟨hv0, _⟩ | ⟨g, cap, cur, hv0, _, _, hle, _⟩
              · obtain ⟨q, hq⟩ := hv3
                rw [hv0] at hq
                cases hq
              · rw [hpl1] at hv0 hle
                exact ⟨g, cap, hv0, hle⟩
            have o5 : w5.cell? ⟨B.bo, 0, none⟩ = some (.slice (some ⟨g3, 0, none⟩) (pre.length + 1) c3) := (hst3.bo.cell 0).trans rfl
            have of5 : w5.frozen? ⟨B.bo, 0, none⟩ = false := hst3.bo.frozen 0
            have p1 : ((pre.length + 1 : Nat) : Int) - 1 = (pre.length : Int) := by omega
            have p2 : (0 : Int) ≤ (pre.length : Int) := by omega
            have p3 : (pre.length : Int) ≤ (c3 : Int) := by omega
            have p4 : (pre.length : Int) + 1 - 1 = (pre.length : Int) := by omega
            have HPop := Lib.hid (show FSt w0 B (some ⟨b, off, none⟩) h.length c (some ⟨bd, offd, none⟩) all ca (.func (.func 99) #[] #[.pointer (some ⟨B.bfo, 0, none⟩), .pointer (some ⟨B.bok, 0, none⟩)]) (.func (.func 71) #[] #[]) (.func (.func 110) #[] #[.pointer (some ⟨B.bo, 0, none⟩), .pointer (some ⟨B.ba, 0, none⟩), .pointer (some ⟨B.bc, 0, none⟩), .pointer (some ⟨B.bl, 0, none⟩), .pointer (some ⟨B.bh, 0, none⟩), .pointer (some ⟨B.bf, 0, none⟩)]) (.slice (some ⟨g3, 0, none⟩) pre.length c3) pre (w5.setCell ⟨B.bo, 0, none⟩ (.slice (some ⟨g3, 0, none⟩) pre.length c3)) from hst3.pop hB)
            have HKq := Lib.hid (hkp4.tr (Kp.pop (B := B) (m := pre.length)))
            have HN2 := Lib.hid (show ∀ (j : Nat) y, j < k + 1 → all[j]? = some y → (if y ∈ pre then none else if (runH h (pre ++ [y])).isSome = true then fnd h all n (pre ++ [y]) else none) = none from fun j y hj hy => by
              by_cases e : j = k
              · subst e
                rw [HXk.out] at hy
                cases hy
                rw [if_neg HIn.out, HRs.out, if_pos (show (some f').isSome = true from rfl)]
                exact hno9
              · exact HNo.out j y (by omega) hy)
            clear hbt5 hbf5 hno9 hkp3 hkp4 hst3 hv3 hE5
            go_wp2
            go_roundw
            case measure => simp [intOf]; omega
            case rel => exact ⟨k + 1, _, by omega, by go_num, ⟨_, rfl⟩, HPop.out, HKq.out, HN2.out⟩
end Go.Proofs.YtdgfipoibnjhaaaDoor
/-
  The program's FindSerial.
-/
namespace Go.Proofs.YtdgfipoibnjhaaaDoor
set_option linter.unusedSimpArgs false
set_option linter.unusedVariables false
set_option maxRecDepth 100000
open Go.RowKit

theorem extR (w : World) : Ext w w := Below.refl _ _
theorem extA {w w' : World} (h : Ext w w') (o : Obj) : Ext w (w'.alloc o) := Below.alloc h h.size o
theorem litX (w : World) (cs : Array Value) (t : TypeId) (i : Nat) : (w.alloc (.cells cs t)).cell? ⟨w.heap.size, i, none⟩ = cs[i]? := by simp [World.cell?_alloc_new]
theorem SlAt.ext_lt {lo : Nat} {w w' : World} {A : Option Addr} {xs : List Int} (h : Ints (fun b => lo ≤ b) w A xs) (hE : Ext w w') : Ints (fun b => b < w.heap.size + 1) w' A xs := Ints.ext (SlAt.mono h (fun b _ hl => Nat.lt_succ_of_lt hl) (fun _ _ h => h)) hE
/-- what a search that has found leaves, in the caller's words -/
def FEndE (w0 : World) (fo ok : Nat) (ys : List Int) (W : World) : Prop := ∃ Ay cy, Blk W fo 41 #[.slice Ay ys.length cy] ∧ ys.length ≤ cy ∧ Ints (fun b => w0.heap.size ≤ b) W Ay ys ∧ (∀ a, Ay = some a → w0.heap.size ≤ a.block ∧ a.block < W.heap.size ∧ ∀ o, W.frozen? ⟨a.block, o, none⟩ = false) ∧ Blk W ok 4 #[.bool true]
set_option maxHeartbeats 4000000 in
theorem each_c (h : List TxnT) (hsm : Small h) (hv : histv h = true) (w0 w : World) (fo ok : Nat) (A : Option Addr) (c : Nat) (hx0 : Txns (fun b => b < w0.heap.size) w0 A h) (hE0 : Ext w0 w) (h1 : w0.heap.size ≤ fo ∧ fo < w.heap.size) (h2 : w0.heap.size ≤ ok ∧ ok < w.heap.size) (h3 : fo ≠ ok)
    (hfo : Blk w fo 41 #[.slice none 0 0]) (hok : Blk w ok 4 #[.bool false]) :
    Calls Tryd.prog 98 #[.slice A h.length c, (.func (.func 71) #[] #[]), .func (.func 99) #[] #[.pointer (some ⟨fo, 0, none⟩), .pointer (some ⟨ok, 0, none⟩)]] w fun e W => e = .returned (.tuple #[]) ∧ Ext w0 W ∧ ((fndV h = none ∧ Blk W fo 41 #[.slice none 0 0] ∧ Blk W ok 4 #[.bool false]) ∨ ∃ ys, fndV h = some ys ∧ FEndE w0 fo ok ys W) := by
  have CD := fun w hx => done_c h (fun b => b < w0.heap.size) A c w hx hsm
  have hdl := dnT_len h h.length
  have hh6 := histv_len hv
  have hdf : ∀ n, n ∈ dnT h h.length → ∃ (m : Nat) (t : TxnT), n = m ∧ m < h.length ∧ h[m]? = some t ∧ (∀ o ∈ t.ops, opv o = true) ∧ t.ops.length ≤ 6 := fun n hn => by
    obtain ⟨m, t, e, hm, ht, _⟩ := dnT_mem hn
    have h1 := histv_txn hv t (List.mem_of_getElem? ht)
    exact ⟨m, t, e, hm, ht, txnv_opv h1, txnv_len h1⟩
  have hfv : fndV h = fnd h (dnT h h.length) (dnT h h.length).length [] := by unfold fndV; rw [if_pos hv]
  generalize dnT h h.length = D at CD hdl hdf hfv
  have CD := Lib.hid CD
  have HX := Lib.hid hx0
  have HE0 := Lib.hid hE0
  have HDf := Lib.hid hdf
  have HFv := Lib.hid hfv
  have HFo := Lib.hid hfo
  have HOk := Lib.hid hok
  obtain ⟨i0, hi, hz0, hz1, hz2⟩ := info_parts info1
  have hmk : ∀ W, (Instr.makeSlice 41 (.int .i64 0) (.int .i64 D.length)).run Tryd.prog W = .ok (.slice (some ⟨W.heap.size, 0, none⟩) 0 D.length) (W.alloc (.cells (madeCells (Value.int .i64 0).cells (D.length * 1)) 3)) := fun W => by
    have hm := run_make_rowN (P := Tryd.prog) 41 3 i0 _ Tryd.underlying41 hi hz0 .i64 .i64 0 D.length (Nat.zero_le _) (by rw [hz2]; omega) (by omega) W
    rw [hz1] at hm
    exact hm
  have hmf : ∀ (fn : Fn) (first cap : Array Value) (w : World), (Instr.makeFunc fn first cap).run Tryd.prog w = .ok (.func fn first cap) w := fun _ _ _ _ => rfl
  clear hx0 hE0 hdf hfv hfo hok hi hz0 hz1 hz2
  go_enter Tryd.func98, Tryd.ntmps98
  go_wp2_with (fail)
  go_at_call 48
  refine (CD.out _ (HX.out.ext (HE0.out.tr (by (repeat' (first | (with_reducible exact Below.refl _ _) | (with_reducible refine Below.mono (by assumption) ?_) | (with_reducible refine Below.trans ?_ (Below.mono (by assumption) ?_)) | (with_reducible refine Below.alloc ?_ ?_ _) | (with_reducible refine Below.drew ?_) | (with_reducible refine below_drewN ?_ _) | (with_reducible refine Below.setCell ?_ ?_ _) | (simp only [World.size_alloc, World.size_setCell, World.size_drew, size_drewN]; omega) | omega)))))).mono ?_
  rintro e w3 ⟨A3, c3, rfl, hD, hfD, hb⟩
  obtain ⟨hc, hf, hz, hs⟩ := bcell hb
  (try simp only [World.size_alloc, World.size_setCell, World.size_drew, size_drewN] at hs); (first | have l0 := Nat.lt_of_lt_of_le l0 (show _ ≤ w3.heap.size by omega) | have l0 : w.heap.size < w3.heap.size := (by omega) | skip); (try have l0e := Nat.le_of_lt l0); (try have l0f := Nat.le_add_right_of_le (k := 1) l0e); (try have l1 := Nat.lt_of_lt_of_le l1 (show _ ≤ w3.heap.size by omega)); (try have l1e := Nat.le_of_lt l1); (try have l1f := Nat.le_add_right_of_le (k := 1) l1e); (try have l2 := Nat.lt_of_lt_of_le l2 (show _ ≤ w3.heap.size by omega)); (try have l2e := Nat.le_of_lt l2); (try have l2f := Nat.le_add_right_of_le (k := 1) l2e); (try have l3 := Nat.lt_of_lt_of_le l3 (show _ ≤ w3.heap.size by omega)); (try have l3e := Nat.le_of_lt l3); (try have l3f := Nat.le_add_right_of_le (k := 1) l3e)
  have hbc := hb
  clear hb hc hf hz
  have hz3 : w.heap.size + 3 ≤ w3.heap.size := by have := hbc.size; simp only [World.size_alloc] at this; omega
  have x1 := hbc.keep (by simp only [World.size_alloc]; omega) ((show Ext (w.alloc (.cells #[.slice A h.length c] 23)) (((w.alloc (.cells #[.slice A h.length c] 23)).alloc (.cells #[(.func (.func 71) #[] #[])] 84)).alloc (.cells #[.func (.func 99) #[] #[.pointer (some ⟨fo, 0, none⟩), .pointer (some ⟨ok, 0, none⟩)]] 107)) from by (repeat' (first | (with_reducible exact Below.refl _ _) | (with_reducible refine Below.mono (by assumption) ?_) | (with_reducible refine Below.trans ?_ (Below.mono (by assumption) ?_)) | (with_reducible refine Below.alloc ?_ ?_ _) | (with_reducible refine Below.drew ?_) | (with_reducible refine below_drewN ?_ _) | (with_reducible refine Below.setCell ?_ ?_ _) | (simp only [World.size_alloc, World.size_setCell, World.size_drew, size_drewN]; omega) | omega))).keep (by simp) ((litX w #[.slice A h.length c] 23 0).trans rfl))
  have x2 := hbc.keep (by simp only [World.size_alloc]; omega) ((show Ext ((w.alloc (.cells #[.slice A h.length c] 23)).alloc (.cells #[(.func (.func 71) #[] #[])] 84)) (((w.alloc (.cells #[.slice A h.length c] 23)).alloc (.cells #[(.func (.func 71) #[] #[])] 84)).alloc (.cells #[.func (.func 99) #[] #[.pointer (some ⟨fo, 0, none⟩), .pointer (some ⟨ok, 0, none⟩)]] 107)) from by (repeat' (first | (with_reducible exact Below.refl _ _) | (with_reducible refine Below.mono (by assumption) ?_) | (with_reducible refine Below.trans ?_ (Below.mono (by assumption) ?_)) | (with_reducible refine Below.alloc ?_ ?_ _) | (with_reducible refine Below.drew ?_) | (with_reducible refine below_drewN ?_ _) | (with_reducible refine Below.setCell ?_ ?_ _) | (simp only [World.size_alloc, World.size_setCell, World.size_drew, size_drewN]; omega) | omega))).keep (by simp) ((litX (w.alloc (.cells #[.slice A h.length c] 23)) #[(.func (.func 71) #[] #[])] 84 0).trans rfl))
  have x3 := hbc.keep (by simp only [World.size_alloc]; omega) ((litX ((w.alloc (.cells #[.slice A h.length c] 23)).alloc (.cells #[(.func (.func 71) #[] #[])] 84)) #[.func (.func 99) #[] #[.pointer (some ⟨fo, 0, none⟩), .pointer (some ⟨ok, 0, none⟩)]] 107 0).trans rfl)
  simp only [World.size_alloc] at x1 x2 x3
  have hE3 : Ext w w3 := by (repeat' (first | (with_reducible exact Below.refl _ _) | (with_reducible refine Below.mono (by assumption) ?_) | (with_reducible refine Below.trans ?_ (Below.mono (by assumption) ?_)) | (with_reducible refine Below.alloc ?_ ?_ _) | (with_reducible refine Below.drew ?_) | (with_reducible refine below_drewN ?_ _) | (with_reducible refine Below.setCell ?_ ?_ _) | (simp only [World.size_alloc, World.size_setCell, World.size_drew, size_drewN]; omega) | omega))
  obtain ⟨B, hBdef⟩ : ∃ B : FB, B = ⟨w0.heap.size, w3.heap.size + 1, w.heap.size, w3.heap.size, w.heap.size + 1 + 1, w.heap.size + 1, w3.heap.size + 1 + 1 + 1, w3.heap.size + 1 + 1, fo, ok⟩ := ⟨_, rfl⟩
  have hB : B.ok := by
    have := HE0.out.size
    subst hBdef
    refine ⟨?_, ?_, ?_, ?_, ?_, ?_, ?_, ?_, ?_⟩ <;> simp only <;> omega
  have hst : ∀ W5, W5 = ((((w3.alloc (.cells #[.slice A3 D.length c3] 41)).alloc (.cells (madeCells #[.int .i64 0] D.length) 3)).alloc (.cells #[.slice (some ⟨w3.heap.size + 1, 0, none⟩) 0 D.length] 41)).alloc (.cells #[.func (.func 110) #[] #[.pointer (some ⟨w3.heap.size + 1 + 1, 0, none⟩), .pointer (some ⟨w3.heap.size, 0, none⟩), .pointer (some ⟨w.heap.size + 1 + 1, 0, none⟩), .pointer (some ⟨w.heap.size + 1, 0, none⟩), .pointer (some ⟨w.heap.size, 0, none⟩), .pointer (some ⟨w3.heap.size + 1 + 1 + 1, 0, none⟩)]] 119)) →
      FSt w0 B A h.length c A3 D c3 (.func (.func 99) #[] #[.pointer (some ⟨B.bfo, 0, none⟩), .pointer (some ⟨B.bok, 0, none⟩)]) (.func (.func 71) #[] #[]) (.func (.func 110) #[] #[.pointer (some ⟨B.bo, 0, none⟩), .pointer (some ⟨B.ba, 0, none⟩), .pointer (some ⟨B.bc, 0, none⟩), .pointer (some ⟨B.bl, 0, none⟩), .pointer (some ⟨B.bh, 0, none⟩), .pointer (some ⟨B.bf, 0, none⟩)]) (.slice (some ⟨w3.heap.size + 1, 0, none⟩) 0 D.length) [] W5 := by
    intro W5 hW5
    subst hBdef
    have hEw : Ext w3 W5 := by
      rw [hW5]
      exact extA (extA (extA (extA (extR _) _) _) _) _
    have hsz : W5.heap.size = w3.heap.size + 4 := by subst hW5; simp
    refine ⟨HE0.out.tr (hE3.tr hEw), Nat.le_refl _, hEw.keep (by simp only; omega) x1, ?_, hEw.keep (by simp only; omega) x3, hEw.keep (by simp only; omega) x2, ?_, by simp only; omega, ?_, ?_, by simp [Value.ownBlock], by simp [Value.ownBlock], HFo.out.ext (hE3.tr hEw), HOk.out.ext (hE3.tr hEw), SlAt.ext_lt hD hEw, by simp only; omega⟩
    · subst hW5
      exact (show Ext (w3.alloc (.cells #[.slice A3 D.length c3] 41)) _ from extA (extA (extA (extR _) _) _) _).keep (by simp) ((litX w3 #[.slice A3 D.length c3] 41 0).trans rfl)
    · subst hW5
      have := litX (((w3.alloc (.cells #[.slice A3 D.length c3] 41)).alloc (.cells (madeCells #[.int .i64 0] D.length) 3)).alloc (.cells #[.slice (some ⟨w3.heap.size + 1, 0, none⟩) 0 D.length] 41)) #[.func (.func 110) #[] #[.pointer (some ⟨w3.heap.size + 1 + 1, 0, none⟩), .pointer (some ⟨w3.heap.size, 0, none⟩), .pointer (some ⟨w.heap.size + 1 + 1, 0, none⟩), .pointer (some ⟨w.heap.size + 1, 0, none⟩), .pointer (some ⟨w.heap.size, 0, none⟩), .pointer (some ⟨w3.heap.size + 1 + 1 + 1, 0, none⟩)]] 119 0
      simp only [World.size_alloc] at this
      exact this.trans rfl
    · subst hW5
      have := Blk.new ((w3.alloc (.cells #[.slice A3 D.length c3] 41)).alloc (.cells (madeCells #[.int .i64 0] D.length) 3)) 41 #[.slice (some ⟨w3.heap.size + 1, 0, none⟩) 0 D.length]
      simp only [World.size_alloc] at this
      exact Blk.ext this (extA (extR _) _)
    · subst hW5
      have := Own1.made (e := 3) (w3.alloc (.cells #[.slice A3 D.length c3] 41)) (g := w3.heap.size + 1) (base := w3.heap.size + 1) (madeCells #[.int .i64 0] D.length) D.length (by simp) (by simp) (by omega) (by simp [madeCells])
      exact Own1.ext this (extA (extA (extR _) _) _)
  have CF := fun W s => from_c h hsm hh6 D (by omega) HDf.out w0 B hB A c A3 c3 HX.out D.length [] (fun _ => 0) 0 (.slice (some ⟨w3.heap.size + 1, 0, none⟩) 0 D.length) W (by simp) rfl (by omega) (by simp) ⟨_, rfl⟩ s
  have CF := fun W e => CF W (hst W e)
  have hsl : w3.heap.size + 4 ≤ (((((w3.alloc (.cells #[.slice A3 D.length c3] 41)).alloc (.cells (madeCells #[.int .i64 0] D.length) 3)).alloc (.cells #[.slice (some ⟨w3.heap.size + 1, 0, none⟩) 0 D.length] 41)).alloc (.cells #[.func (.func 110) #[] #[.pointer (some ⟨w3.heap.size + 1 + 1, 0, none⟩), .pointer (some ⟨w3.heap.size, 0, none⟩), .pointer (some ⟨w.heap.size + 1 + 1, 0, none⟩), .pointer (some ⟨w.heap.size + 1, 0, none⟩), .pointer (some ⟨w.heap.size, 0, none⟩), .pointer (some ⟨w3.heap.size + 1 + 1 + 1, 0, none⟩)]] 119)).heap.size) := by simp
  have hbd0 : w0.heap.size ≤ B.b0 := by have := HE0.out.size; subst hBdef; simp only; omega
  subst hBdef
  have CF := Lib.hid CF
  clear hst hD hfD hbc x1 x2 x3 hB
  go_wp2_with (fail)
  go_at_call 110
  refine (CF.out _ rfl).mono ?_
  rintro e W9 ⟨b, rfl, hbt, hbf⟩
  have HT := Lib.hid hbt
  have HF := Lib.hid hbf
  clear hbt hbf
  go_wp2_with (fail)
  go_end0
  refine ⟨rfl, ?_⟩
  rw [HFv.out]
  cases b with
  | true =>
    obtain ⟨h5, v', _, s5, _⟩ := HT.out rfl
    exact ⟨s5.ext, .inl ⟨h5, s5.fo, s5.ok⟩⟩
  | false =>
    obtain ⟨ys, h5, h6, Ay, cy, h7, h8, h9, h10, h11⟩ := HF.out rfl
    refine ⟨h6, .inr ⟨ys, h5, Ay, cy, h7, h8, SlAt.mono h9 (fun b hl _ => Nat.le_trans hbd0 hl) (fun _ _ h => h), fun a ha => ⟨Nat.le_trans hbd0 (h10 a ha).1, (h10 a ha).2⟩, h11⟩⟩
end Go.Proofs.YtdgfipoibnjhaaaDoor
/-
  The program's FindSerial.
-/
namespace Go.Proofs.YtdgfipoibnjhaaaDoor
set_option linter.unusedSimpArgs false
set_option linter.unusedVariables false
set_option maxRecDepth 100000
open Go.RowKit

/-- a list of the call's own, and whether there is one -/
def FreshB (r : Option (List Int)) (w : World) (e : Ending) (w' : World) : Prop :=
  ∃ A c, e = .returned (.tuple #[.slice A (r.getD []).length c, .bool r.isSome]) ∧ Ints (fun b => w.heap.size ≤ b) w' A (r.getD []) ∧ (∀ a, A = some a → w.heap.size ≤ a.block ∧ a.block < w'.heap.size ∧ ∀ o, w'.frozen? ⟨a.block, o, none⟩ = false) ∧ Ext w w'
theorem clipF_c (A : Option Addr) (n c : Nat) (w : World) (h : n ≤ c) : Calls Tryd.prog 61 #[.slice A n c] w fun e w' => e = .returned (.slice A n n) ∧ w' = w := by
  go_enter Tryd.func61, Tryd.ntmps61
  go_wp2
  go_ret
  exact ⟨rfl, rfl⟩
set_option maxHeartbeats 4000000 in
theorem firstSerial_c (h : List TxnT) (hsm : Small h) (hv : histv h = true) (w : World) (A : Option Addr) (c : Nat) (hx : Txns (fun b => b < w.heap.size) w A h) :
    Calls Tryd.prog 70 #[.slice A h.length c, .func (.func 71) #[] #[]] w (FreshB (fndV h) w) := by
  have hmf : ∀ (fn : Fn) (first cap : Array Value) (w : World), (Instr.makeFunc fn first cap).run Tryd.prog w = .ok (.func fn first cap) w := fun _ _ _ _ => rfl
  have HE : Ext w ((w.alloc (.cells #[.slice none 0 0] 41)).alloc (.cells #[.bool false] 4)) := extA (extA (extR _) _) _
  have hb1 : Blk ((w.alloc (.cells #[.slice none 0 0] 41)).alloc (.cells #[.bool false] 4)) w.heap.size 41 #[.slice none 0 0] := (Blk.new w 41 #[.slice none 0 0]).ext (extA (extR _) _)
  have hb2 : Blk ((w.alloc (.cells #[.slice none 0 0] 41)).alloc (.cells #[.bool false] 4)) (w.heap.size + 1) 4 #[.bool false] := by
    have := Blk.new (w.alloc (.cells #[.slice none 0 0] 41)) 4 #[.bool false]
    rw [World.size_alloc] at this
    exact this
  have hsz : ((w.alloc (.cells #[.slice none 0 0] 41)).alloc (.cells #[.bool false] 4)).heap.size = w.heap.size + 2 := by simp
  have CE := each_c h hsm hv w _ w.heap.size (w.heap.size + 1) A c hx HE ⟨Nat.le_refl _, by omega⟩ ⟨by omega, by omega⟩ (by omega) hb1 hb2
  have CE := Lib.hid CE
  clear HE hb1 hb2 hsz hx
  go_enter Tryd.func70, Tryd.ntmps70
  go_wp2_with (fail)
  go_at_call 98
  refine CE.out.mono ?_
  rintro e W ⟨rfl, hE, hr⟩
  have HEx := Lib.hid hE
  rcases hr with ⟨hf, b1, b2⟩ | ⟨ys, hf, Ay, cy, b1, hle, hI, hfr, b2⟩
  · have k1 := (b1.cell 0).trans (show (#[.slice none 0 0] : Array Value)[0]? = some (.slice none 0 0) from rfl)
    have k2 := (b2.cell 0).trans (show (#[.bool false] : Array Value)[0]? = some (.bool false) from rfl)
    clear b1 b2 hE
    go_wp2_with (fail)
    go_quiet ((go_at_call 61; exact Calls.quiet_of_same (clipF_c _ _ _ _ (Nat.le_refl _))))
    go_wp2
    go_ret2
    rw [hf]
    exact ⟨none, 0, rfl, SlAt.nil, (fun a ha => by cases ha), below_drewN HEx.out _⟩
  · have k1 := (b1.cell 0).trans (show (#[.slice Ay ys.length cy] : Array Value)[0]? = some (.slice Ay ys.length cy) from rfl)
    have k2 := (b2.cell 0).trans (show (#[.bool true] : Array Value)[0]? = some (.bool true) from rfl)
    have HI := Lib.hid hI
    have HFr := Lib.hid hfr
    clear b1 b2 hE hI hfr
    go_wp2_with (fail)
    go_quiet ((go_at_call 61; exact Calls.quiet_of_same (clipF_c _ _ _ _ hle)))
    go_wp2
    go_ret2
    rw [hf]
    exact ⟨Ay, ys.length, rfl, HI.out, HFr.out, below_drewN HEx.out _⟩
set_option maxHeartbeats 4000000 in
theorem implFindSerial_c (h : List TxnT) (w : World) (A : Option Addr) (c : Nat) (hx : Txns (fun b => b < w.heap.size) w A h) (hsm : Small h) :
    Calls Tryd.prog 33 #[.slice A h.length c] w (FreshB (fndV h) w) := by
  have C := fun w1 hx => implHistoryValid_c h (fun b => b < w.heap.size) A c w1 hx hsm
  cases hv : histv h with
  | false =>
    rw [hv] at C
    have C := Lib.hid C
    have hfv : fndV h = none := by unfold fndV; rw [hv]; rfl
    go_enter Tryd.func33, Tryd.ntmps33
    go_wp2_with (fail)
    go_at_call 36
    refine (C.out _ hx).mono ?_
    rintro e w2 ⟨rfl, hb⟩
    obtain ⟨hc, hf, hz, hs⟩ := bcell hb
    (try simp only [World.size_alloc, World.size_setCell, World.size_drew, size_drewN] at hs); (first | have l0 := Nat.lt_of_lt_of_le l0 (show _ ≤ w2.heap.size by omega) | have l0 : w.heap.size < w2.heap.size := (by omega) | skip); (try have l0e := Nat.le_of_lt l0); (try have l0f := Nat.le_add_right_of_le (k := 1) l0e); (try have l1 := Nat.lt_of_lt_of_le l1 (show _ ≤ w2.heap.size by omega)); (try have l1e := Nat.le_of_lt l1); (try have l1f := Nat.le_add_right_of_le (k := 1) l1e); (try have l2 := Nat.lt_of_lt_of_le l2 (show _ ≤ w2.heap.size by omega)); (try have l2e := Nat.le_of_lt l2); (try have l2f := Nat.le_add_right_of_le (k := 1) l2e); (try have l3 := Nat.lt_of_lt_of_le l3 (show _ ≤ w2.heap.size by omega)); (try have l3e := Nat.le_of_lt l3); (try have l3f := Nat.le_add_right_of_le (k := 1) l3e)
    go_wp2
    go_ret2
    rw [hfv]
    exact ⟨none, 0, rfl, SlAt.nil, (fun a ha => by cases ha), by (repeat' (first | (with_reducible exact Below.refl _ _) | (with_reducible refine Below.mono (by assumption) ?_) | (with_reducible refine Below.trans ?_ (Below.mono (by assumption) ?_)) | (with_reducible refine Below.alloc ?_ ?_ _) | (with_reducible refine Below.drew ?_) | (with_reducible refine below_drewN ?_ _) | (with_reducible refine Below.setCell ?_ ?_ _) | (simp only [World.size_alloc, World.size_setCell, World.size_drew, size_drewN]; omega) | omega))⟩
  | true =>
    rw [hv] at C
    have C := Lib.hid C
    have HX := Lib.hid hx
    clear hx
    go_enter Tryd.func33, Tryd.ntmps33
    go_wp2_with (fail)
    go_at_call 36
    refine (C.out _ HX.out).mono ?_
    rintro e w2 ⟨rfl, hb⟩
    obtain ⟨hc, hf, hz, hs⟩ := bcell hb
    (try simp only [World.size_alloc, World.size_setCell, World.size_drew, size_drewN] at hs); (first | have l0 := Nat.lt_of_lt_of_le l0 (show _ ≤ w2.heap.size by omega) | have l0 : w.heap.size < w2.heap.size := (by omega) | skip); (try have l0e := Nat.le_of_lt l0); (try have l0f := Nat.le_add_right_of_le (k := 1) l0e); (try have l1 := Nat.lt_of_lt_of_le l1 (show _ ≤ w2.heap.size by omega)); (try have l1e := Nat.le_of_lt l1); (try have l1f := Nat.le_add_right_of_le (k := 1) l1e); (try have l2 := Nat.lt_of_lt_of_le l2 (show _ ≤ w2.heap.size by omega)); (try have l2e := Nat.le_of_lt l2); (try have l2f := Nat.le_add_right_of_le (k := 1) l2e); (try have l3 := Nat.lt_of_lt_of_le l3 (show _ ≤ w2.heap.size by omega)); (try have l3e := Nat.le_of_lt l3); (try have l3f := Nat.le_add_right_of_le (k := 1) l3e)
    have hE2 : Ext w w2 := by (repeat' (first | (with_reducible exact Below.refl _ _) | (with_reducible refine Below.mono (by assumption) ?_) | (with_reducible refine Below.trans ?_ (Below.mono (by assumption) ?_)) | (with_reducible refine Below.alloc ?_ ?_ _) | (with_reducible refine Below.drew ?_) | (with_reducible refine below_drewN ?_ _) | (with_reducible refine Below.setCell ?_ ?_ _) | (simp only [World.size_alloc, World.size_setCell, World.size_drew, size_drewN]; omega) | omega))
    have hx2 : Txns (fun b => b < w2.heap.size) w2 A h := SlAt.mono (HX.out.ext hE2) (fun b hl _ => Nat.lt_of_lt_of_le hl hE2.size) (mono_txn (fun b hl _ => Nat.lt_of_lt_of_le hl hE2.size))
    have CF := firstSerial_c h hsm hv w2 A c hx2
    have CF := Lib.hid CF
    have HE2 := Lib.hid hE2
    clear hx2 hE2
    go_wp2_with (fail)
    go_at_call 70
    refine CF.out.mono ?_
    rintro e w3 ⟨A3, c3, rfl, hI, hfr, hE3⟩
    have HI := Lib.hid hI
    have HFr := Lib.hid hfr
    have HE3 := Lib.hid hE3
    clear hI hfr hE3
    go_wp2
    go_ret2
    have hs := HE2.out.size
    exact ⟨A3, c3, rfl, SlAt.mono HI.out (fun b hl _ => Nat.le_trans hs hl) (fun _ _ h => h), fun a ha => ⟨Nat.le_trans hs (HFr.out a ha).1, (HFr.out a ha).2⟩, HE2.out.tr HE3.out⟩
end Go.Proofs.YtdgfipoibnjhaaaDoor
namespace Go.Proofs.YtdgfipoibnjhaaaDoor
set_option linter.unusedSimpArgs false
set_option linter.unusedVariables false
set_option maxRecDepth 100000

theorem fnd_ok (h : List TxnT) (all : List Int) : ∀ (n : Nat) (pre ys : List Int), fnd h all n pre = some ys → (runH h pre).isSome = true → pre.Nodup → (∀ x ∈ pre, x ∈ all) →
    (runH h ys).isSome = true ∧ ys.Nodup ∧ (∀ x ∈ ys, x ∈ all) ∧ ys.length = pre.length + n
  | 0, pre, ys, e, h1, h2, h3 => by
    simp only [fnd, Option.some.injEq] at e
    subst e
    exact ⟨h1, h2, h3, rfl⟩
  | n + 1, pre, ys, e, h1, h2, h3 => by
    simp only [fnd] at e
    obtain ⟨x, hxa, hx⟩ := List.exists_of_findSome?_eq_some e
    split at hx
    · cases hx
    · rename_i hxp
      split at hx
      · rename_i hr
        obtain ⟨a, b, c, d⟩ := fnd_ok h all n _ _ hx hr (by
          rw [List.nodup_append]
          exact ⟨h2, by simp, fun y hy z hz => by
            rw [List.mem_singleton] at hz
            subst hz
            rintro rfl
            exact hxp hy⟩) (fun y hy => by
          rcases List.mem_append.1 hy with h4 | h4
          · exact h3 y h4
          · rw [List.mem_singleton] at h4
            subst h4
            exact hxa)
        exact ⟨a, b, c, by rw [d, List.length_append, List.length_singleton]; omega⟩
      · cases hx
theorem fndV_ok {h : List TxnT} {ys : List Int} (e : fndV h = some ys) : histv h = true ∧ l7v ys (dnT h h.length) = true ∧ (runH h ys).isSome = true := by
  unfold fndV at e
  split at e
  · rename_i hv
    obtain ⟨a, b, c, d⟩ := fnd_ok h _ _ _ _ e rfl List.nodup_nil (fun x hx => by cases hx)
    exact ⟨hv, (l7v_perm (dnT_nodup (h := h) h.length)).2 (perm_of_sub ys _ b c (by simp only [List.length_nil] at d; omega)).symm, a⟩
  · cases e
end Go.Proofs.YtdgfipoibnjhaaaDoor
