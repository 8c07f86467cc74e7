/-
  Three rows of ints in a slice of the call's own, each of which is appended to.
-/
import Derived.Test.YtknphamfindohaaSOr
import Derived.Deep.AppendLies
import Derived.Deep.RegionLaw
namespace Go.Proofs.Ytknphamfindohaa
set_option linter.unusedSimpArgs false
set_option linter.unusedVariables false
set_option maxRecDepth 100000
open Go.RowKit

def rw3 (f : Nat → Value) : Array Value := #[f 0, f 1, f 2]
theorem rw3_get (f : Nat → Value) {i : Nat} (hi : i < 3) : (rw3 f)[i]? = some (f i) := by
  obtain rfl | rfl | rfl : i = 0 ∨ i = 1 ∨ i = 2 := by omega
  all_goals rfl
def upV (f : Nat → Value) (i : Nat) (x : Value) : Nat → Value := fun j => if j = i then x else f j
theorem rw3_set (f : Nat → Value) {i : Nat} (hi : i < 3) (x : Value) : (rw3 f).setIfInBounds i x = rw3 (upV f i x) := by
  obtain rfl | rfl | rfl : i = 0 ∨ i = 1 ∨ i = 2 := by omega
  all_goals rfl
theorem blkRow {w w' : World} {g : Nat} {t : TypeId} {cs : Array Value} {row : Option Nat} (h : Blk w g t cs) (hg : w.grownBy w' row) (hne : row ≠ some g) : Blk w' g t cs := (hg.block g h.lt (fun e => hne e.symm)).trans h
structure Ins (w : World) (B g : Nat) (f : Nat → Value) (xs : Nat → List Int) : Prop where
  blk : Blk w g 40 (rw3 f)
  own : ∀ i, i < 3 → Own1 w B 3 (f i) (xs i)
  ne : ∀ i, i < 3 → (f i).ownBlock ≠ some g
  apart : ∀ i j, i < 3 → j < 3 → i ≠ j → ∀ b, (f i).ownBlock = some b → (f j).ownBlock ≠ some b
theorem own1_kept {w w' : World} {B : Nat} {e : TypeId} {v : Value} {xs : List Int} {row : Option Nat} (h : Own1 w B e v xs) (hg : w.grownBy w' row) (hr : ∀ b, v.ownBlock = some b → row ≠ some b) : Own1 w' B e v xs :=
  World.ownsRow.kept h hg (by
    cases hv : v.ownBlock with
    | none => exact .inl rfl
    | some b => exact .inr (fun e => hr b hv e.symm))
theorem Ins.ext {w w' : World} {B g : Nat} {f : Nat → Value} {xs : Nat → List Int} (h : Ins w B g f xs) (hE : Ext w w') : Ins w' B g f xs :=
  ⟨h.blk.ext hE, fun i hi => (h.own i hi).ext hE, h.ne, h.apart⟩
theorem Ins.app {W W' : World} {B g y : Nat} {f : Nat → Value} {xs ys : Nat → List Int} {v' : Value} (h : Ins W B g f xs) (hy : y < 3) (ho : Own1 W' B 3 v' (ys y)) (hys : ∀ i, i < 3 → i ≠ y → ys i = xs i) (hg : W.grownBy W' (f y).ownBlock)
    (hat : v'.ownBlock = (f y).ownBlock ∨ v'.ownBlock = some W.heap.size) : Ins (W'.setCell ⟨g, y, none⟩ v') B g (upV f y v') ys := by
  have hgl := h.blk.lt
  have hvne : v'.ownBlock ≠ some g := by
    rcases hat with e | e
    · rw [e]; exact h.ne y hy
    · rw [e]
      intro e
      injection e with e
      omega
  have hsg : W'.grownBy (W'.setCell ⟨g, y, none⟩ v') (some g) := grown_set _
  have hlt := fun i (hi : i < 3) b (hb : (f i).ownBlock = some b) => World.ownsRow.lt (h.own i hi) b hb
  refine ⟨?_, fun i hi => ?_, fun i hi => ?_, fun i j hi hj hij b hb hb' => ?_⟩
  · have := (blkRow h.blk hg (h.ne y hy)).set_ y v'
    rwa [rw3_set f hy] at this
  · unfold upV
    by_cases e : i = y
    · subst e
      rw [if_pos rfl]
      exact own1_kept ho hsg (fun b hb e => hvne (by rw [hb]; exact e.symm))
    · rw [if_neg e, hys i hi e]
      refine own1_kept (own1_kept (h.own i hi) hg (fun b hb e2 => h.apart i y hi hy e b hb e2)) hsg (fun b hb e2 => h.ne i hi (by rw [hb]; exact e2.symm))
  · unfold upV
    split
    · exact hvne
    · exact h.ne i hi
  · unfold upV at hb hb'
    by_cases e1 : i = y
    · subst e1
      rw [if_pos rfl] at hb
      rw [if_neg (fun e => hij e.symm)] at hb'
      rcases hat with e | e
      · exact h.apart i j hi hj hij b (by rw [← e]; exact hb) hb'
      · rw [e] at hb
        injection hb with hb
        have := (hlt j hj b hb').2
        omega
    · rw [if_neg e1] at hb
      by_cases e2 : j = y
      · subst e2
        rw [if_pos rfl] at hb'
        rcases hat with e | e
        · exact h.apart i j hi hj hij b hb (by rw [← e]; exact hb')
        · rw [e] at hb'
          injection hb' with hb'
          have := (hlt i hi b hb).2
          omega
      · rw [if_neg e2] at hb'
        exact h.apart i j hi hj hij b hb hb'

/-- the same, as rows to be read -/
structure InsP (w : World) (B g : Nat) (P : Nat → PR) : Prop where
  blk : Blk w g 40 (rw3 fun i => (P i).cell)
  row : ∀ i, i < 3 → RowIn w B (P i)
  ne : ∀ i, i < 3 → ∀ a, (P i).A = some a → a.block ≠ g
  apart : ∀ i j, i < 3 → j < 3 → i ≠ j → ∀ a b, (P i).A = some a → (P j).A = some b → a.block ≠ b.block
  cap : ∀ i, i < 3 → (P i).xs.length ≤ (P i).c
theorem InsP.ext {w w' : World} {B g : Nat} {P : Nat → PR} (h : InsP w B g P) (hE : Ext w w') : InsP w' B g P :=
  ⟨h.blk.ext hE, fun i hi => (h.row i hi).ext hE, h.ne, h.apart, h.cap⟩
theorem own1_cap {w : World} {B : Nat} {e : TypeId} {v : Value} {xs : List Int} (h : Own1 w B e v xs) : ∃ A c, v = .slice A xs.length c ∧ Ints (fun b => B ≤ b) w A xs ∧ (∀ a, A = some a → B ≤ a.block ∧ a.block < w.heap.size ∧ ∀ o, w.frozen? ⟨a.block, o, none⟩ = false) ∧ xs.length ≤ c ∧ ∀ a, A = some a → v.ownBlock = some a.block := by
  obtain ⟨A, c, rfl, h1, h2⟩ := h.form
  refine ⟨A, c, rfl, h1, h2, ?_, fun a ha => ?_⟩
  · rcases h.2 with ⟨hv, hn⟩ | ⟨g, cap, cur, hv, hb, hg, hle, _⟩
    · omega
    · simp only [Value.slice.injEq] at hv
      omega
  · subst ha
    rcases h.2 with ⟨hv, hn⟩ | ⟨g, cap, cur, hv, hb, hg, hle, _⟩
    · simp at hv
    · simp only [Value.slice.injEq, Option.some.injEq] at hv
      obtain ⟨rfl, _, _⟩ := hv
      rfl
theorem Ins.toP {w : World} {B g : Nat} {f : Nat → Value} {xs : Nat → List Int} (h : Ins w B g f xs) : ∃ P : Nat → PR, InsP w B g P ∧ ∀ i, i < 3 → (P i).xs = xs i := by
  obtain ⟨A0, c0, e0, i0, f0, l0, o0⟩ := own1_cap (h.own 0 (by omega))
  obtain ⟨A1, c1, e1, i1, f1, l1, o1⟩ := own1_cap (h.own 1 (by omega))
  obtain ⟨A2, c2, e2, i2, f2, l2, o2⟩ := own1_cap (h.own 2 (by omega))
  let P : Nat → PR := fun i => if i = 0 then ⟨A0, c0, xs 0⟩ else if i = 1 then ⟨A1, c1, xs 1⟩ else ⟨A2, c2, xs 2⟩
  have hA : ∀ i, i < 3 → ∀ a, (P i).A = some a → (f i).ownBlock = some a.block := by
    intro i hi a ha
    obtain rfl | rfl | rfl : i = 0 ∨ i = 1 ∨ i = 2 := by omega
    · exact o0 a ha
    · exact o1 a ha
    · exact o2 a ha
  refine ⟨P, ⟨?_, fun i hi => ?_, fun i hi a ha e => h.ne i hi (by rw [hA i hi a ha, e]), fun i j hi hj hij a b ha hb e => h.apart i j hi hj hij a.block (hA i hi a ha) (by rw [hA j hj b hb, e]), fun i hi => ?_⟩, fun i hi => ?_⟩
  · have : rw3 (fun i => (P i).cell) = rw3 f := by
      unfold rw3
      rw [e0, e1, e2]
      rfl
    rw [this]
    exact h.blk
  all_goals obtain rfl | rfl | rfl : i = 0 ∨ i = 1 ∨ i = 2 := by omega
  · exact RowIn.of i0 f0
  · exact RowIn.of i1 f1
  · exact RowIn.of i2 f2
  · exact l0
  · exact l1
  · exact l2
  · rfl
  · rfl
  · rfl
def clipP (P : Nat → PR) (i : Nat) : Nat → PR := fun j => if j = i then ⟨(P j).A, (P j).xs.length, (P j).xs⟩ else P j
theorem clipP_A (P : Nat → PR) (i j : Nat) : (clipP P i j).A = (P j).A := by unfold clipP; split <;> rfl
theorem clipP_xs (P : Nat → PR) (i j : Nat) : (clipP P i j).xs = (P j).xs := by unfold clipP; split <;> rfl
theorem InsP.clip {w : World} {B g i : Nat} {P : Nat → PR} (h : InsP w B g P) (hi : i < 3) : InsP (w.setCell ⟨g, i, none⟩ (.slice (P i).A (P i).xs.length (P i).xs.length)) B g (clipP P i) := by
  have hsg : w.grownBy (w.setCell ⟨g, i, none⟩ (.slice (P i).A (P i).xs.length (P i).xs.length)) (some g) := grown_set _
  refine ⟨?_, fun j hj => ?_, fun j hj a ha => h.ne j hj a (by rw [← clipP_A P i j]; exact ha), fun j k hj hk hjk a b ha hb => h.apart j k hj hk hjk a b (by rw [← clipP_A P i j]; exact ha) (by rw [← clipP_A P i k]; exact hb), fun j hj => ?_⟩
  · have h1 := h.blk.set_ i (.slice (P i).A (P i).xs.length (P i).xs.length)
    rw [rw3_set _ hi] at h1
    have h2 : (fun j => (clipP P i j).cell) = upV (fun j => (P j).cell) i (.slice (P i).A (P i).xs.length (P i).xs.length) := by
      funext j
      unfold clipP upV
      by_cases e : j = i
      · subst e; simp [PR.cell]
      · simp [e]
    rw [h2]
    exact h1
  · have h1 := (h.row j hj).grown hsg (fun a ha e => h.ne j hj a ha (by injection e))
    unfold clipP
    split
    · exact h1
    · exact h1
  · unfold clipP
    split
    · exact Nat.le_refl _
    · exact h.cap j hj
theorem InsP.own {w : World} {B g : Nat} {P : Nat → PR} (h : InsP w B g P) (hB : B ≤ g) : OwnR w B (.slice (some ⟨g, 0, none⟩) 3 3) [P 0, P 1, P 2] := by
  refine ⟨⟨rfl, .inr ⟨g, 3, rw3 fun i => (P i).cell, rfl, hB, h.blk, by simp, by unfold maxLen; omega, rfl, rfl⟩⟩, fun p hp => ?_, fun i j p q a b hij hp hq ha hb => ?_⟩
  · simp only [List.mem_cons, List.not_mem_nil, or_false] at hp
    have key : ∀ i, i < 3 → RowIn w B (P i) ∧ ∀ a, (P i).A = some a → some a.block ≠ (Value.slice (some ⟨g, 0, none⟩) 3 3).ownBlock := fun i hi => ⟨h.row i hi, fun a ha e => h.ne i hi a ha (by simp [Value.ownBlock] at e; exact e)⟩
    rcases hp with rfl | rfl | rfl
    · exact key 0 (by omega)
    · exact key 1 (by omega)
    · exact key 2 (by omega)
  · have hj : j < 3 := by have := (List.getElem?_eq_some_iff.1 hq).1; simpa using this
    have hpi : p = P i := by
      obtain rfl | rfl : i = 0 ∨ i = 1 := by omega
      all_goals simpa using hp.symm
    have hqj : q = P j := by
      obtain rfl | rfl : j = 1 ∨ j = 2 := by omega
      all_goals simpa using hq.symm
    subst hpi
    subst hqj
    exact h.apart i j (by omega) hj (by omega) a b ha hb
/-- append of one int inside a region that draws -/
theorem step_row {ops : Array Oper} {o : Oper} {a : Act} {w : World} {K : Act → World → Prop} {Q : Exit → Act → World → Prop} {E : Prop} (hg : o.guard = none) (s x : Operand)
    (hop : o.op = Op.call { callee := Callee.builtin Builtin.append, args := #[s, x], argTypes := #[40, 40] }) (base : Nat) (v : Value) (hs : a.eval s = v) (xs : List Int) (hown : Own1 w base 3 v xs) (B : Nat) (z : Int) (hx : a.eval x = .slice (some ⟨B, 0, none⟩) 1 1)
    (c0 : w.cell? ⟨B, 0, none⟩ = some (.int .i64 z)) (hl : xs.length ≤ 1048576) (hbase : base ≤ w.heap.size) (H : Nat) (hH : w.heap.size = H)
    (hK : ∀ v' w', Own1 w' base 3 v' (xs ++ [z]) → w.grownBy w' v.ownBlock → (v'.ownBlock = v.ownBlock ∨ v'.ownBlock = some H) → K (a.put o.dst v') w') :
    if Region.wanted o (yielded ops a.tmps) = true then Oper.wp Try.prog o a w K Q else E := by
  obtain ⟨i0, hi, hz0, hz1, hz2⟩ := info_parts info1
  refine step_append_lies w hg s x _ hop base _ i0 _ 1 8 Try.underlying40 hi hz0 hz1 hz2 rfl (by decide) v xs.length (flat1 xs) hs hown ⟨B, 0, none⟩ 1 1 [.int .i64 z] hx rfl ?_ ?_ (by omega) (by unfold maxLen; omega) (by omega) hbase H hH (fun g cap w' h1 h2 h3 _ => hK _ w' ?_ h2 ?_)
  · intro j u hu
    match j, hu with
    | 0, hu => cases hu; exact c0
    | j + 1, hu => simp at hu
  · intro u hu
    simp at hu
    rcases hu with rfl
    rfl
  · unfold Own1
    rw [show flat1 (xs ++ [z]) = flat1 xs ++ [.int .i64 z] by simp [flat1], List.length_append]
    exact h1
  · rcases h3 with h3 | h3
    · left; rw [h3]; rfl
    · right; rw [h3]; rfl
theorem clipI_c (A : Option Addr) (n c : Nat) (w : World) (h : n ≤ c) : Calls Try.prog 77 #[.slice A n c] w fun e w' => e = .returned (.slice A n n) ∧ w = w' := by
  go_enter Try.func77, Try.ntmps77
  go_wp2
  go_ret
  exact ⟨rfl, rfl⟩
end Go.Proofs.Ytknphamfindohaa
