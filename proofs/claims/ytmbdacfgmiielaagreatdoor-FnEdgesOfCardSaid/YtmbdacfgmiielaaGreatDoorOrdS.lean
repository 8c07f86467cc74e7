/-
  Rows of ints of the call's own, each of which is changed in place; FirstOrders in such rows.
-/
import Derived.Test.YtmbdacfgmiielaaGreatDoorGInstO11
import Derived.Test.YtmbdacfgmiielaaGreatDoorFirst
import Derived.Test.YtmbdacfgmiielaaGreatDoorDrawHi
import Derived.Deep.AppendLies
import Derived.Deep.RegionLaw
namespace Go.Proofs.YtmbdacfgmiielaaGreatDoor
set_option linter.unusedSimpArgs false
set_option linter.unusedVariables false
set_option maxRecDepth 100000
open Go.RowKit

/-- the slice v holds the rows ps, each the call's own, in blocks apart -/
structure OwnS (w : World) (B : Nat) (v : Value) (ps : List PR) : Prop where
  out : w.ownsRow B 49 1 v ps.length (flatR ps)
  own : ∀ p ∈ ps, Own1 w B 3 p.cell p.xs
  apart : ∀ (i j : Nat) p q b, i ≠ j → ps[i]? = some p → ps[j]? = some q → p.cell.ownBlock = some b → q.cell.ownBlock ≠ some b
section
variable {w w' : World} {B : Nat} {v : Value} {ps : List PR}
theorem OwnS.ne (h : OwnS w B v ps) {p : PR} (hp : p ∈ ps) {g : Nat} (hg : p.cell.ownBlock = some g) : v.ownBlock = none ∨ v.ownBlock ≠ some g := by
  obtain ⟨_, cs, hh⟩ := own_at (h.own p hp) hg
  exact own_type_ne h.out hh (by decide)
theorem OwnS.grown {row : Option Nat} (h : OwnS w B v ps) (hg : w.grownBy w' row) (hv : v.ownBlock = none ∨ v.ownBlock ≠ row) (hr : ∀ p ∈ ps, p.cell.ownBlock = none ∨ p.cell.ownBlock ≠ row) : OwnS w' B v ps :=
  ⟨World.ownsRow.kept h.out hg hv, fun p hp => World.ownsRow.kept (h.own p hp) hg (hr p hp), h.apart⟩
theorem OwnS.ext (h : OwnS w B v ps) (hE : Ext w w') : OwnS w' B v ps := h.grown (row := none) (grown_ext hE _) (by cases v.ownBlock <;> simp) (fun p _ => by cases p.cell.ownBlock <;> simp)
theorem OwnS.pick {r : Nat} (h : OwnS w B v ps) (hg : w.grownBy w' (some r)) (hr : r < B) : OwnS w' B v ps :=
  h.grown hg (.inr (fun e => by have := (own_at h.out e).1; omega)) (fun p hp => .inr (fun e => by have := (own_at (h.own p hp) e).1; omega))
theorem OwnS.below (h : OwnS w B v ps) {B' : Nat} (hb : B' ≤ B) : OwnS w B' v ps := by
  refine ⟨⟨h.out.1, ?_⟩, fun p hp => Own1.below (h.own p hp) hb, h.apart⟩
  rcases h.out.2 with h2 | ⟨g, cap, cur, hv, hg, r⟩
  · exact .inl h2
  · exact .inr ⟨g, cap, cur, hv, by omega, r⟩
theorem OwnS.made (w : World) {B : Nat} (cur : Array Value) (cap : Nat) (hb : B ≤ w.heap.size) (hm : cap ≤ 1048576) (hs : cur.size = cap * 1) : OwnS (w.alloc (.cells cur 49)) B (.slice (some ⟨w.heap.size, 0, none⟩) 0 cap) [] :=
  ⟨World.ownsRow_made _ _ _ hb (by unfold maxLen; omega) hs, (fun p hp => by cases hp), (fun i j p q b _ h => by simp at h)⟩
/-- the slice's own form, and a row's -/
theorem OwnS.form (h : OwnS w B v ps) : ∃ A c, v = .slice A ps.length c ∧ ps.length ≤ c ∧ c ≤ maxLen ∧ Rows2 (fun b => B ≤ b) w A (ps.map PR.xs) := by
  rcases h.out.2 with ⟨rfl, hn⟩ | ⟨g, cap, cur, rfl, hB, hg, hle, hm, hs, ht⟩
  · obtain rfl : ps = [] := List.eq_nil_of_length_eq_zero hn
    exact ⟨none, 0, rfl, Nat.le_refl _, Nat.zero_le _, SlAt.nil⟩
  · have hlt : g < w.heap.size := (Array.getElem?_eq_some_iff.1 hg).1
    refine ⟨some ⟨g, 0, none⟩, cap, rfl, hle, hm, fun i x hx => ?_⟩
    rw [List.getElem?_map] at hx
    obtain ⟨p, hp, rfl⟩ := Option.map_eq_some_iff.1 hx
    have hil : i < ps.length := (List.getElem?_eq_some_iff.1 hp).1
    obtain ⟨A, c, hv, hI, _⟩ := Own1.form (h.own p (List.mem_of_getElem? hp))
    simp only [PR.cell, Value.slice.injEq] at hv
    obtain ⟨rfl, _, rfl⟩ := hv
    refine ⟨g, 0, [p.cell], rfl, hB, hlt, rfl, ⟨p.A, p.c, rfl, hI⟩, fun j u hu => ?_⟩
    match j, hu with
    | 0, hu =>
      cases hu
      have h1 : (flatR ps)[i]? = some p.cell := by simp [flatR, hp]
      rw [show 0 + i * 1 + 0 = i by omega, cell_of_row w g i cur _ (0, 0) hg, ← h1, ← ht, List.getElem?_take, if_pos (by omega)]
      simp
    | j + 1, hu => simp at hu
theorem OwnS.row (h : OwnS w B v ps) {p : PR} (hp : p ∈ ps) (hn : 0 < p.xs.length) : ∃ g, p.A = some ⟨g, 0, none⟩ ∧ p.xs.length ≤ p.c := by
  rcases (h.own p hp).2 with ⟨hv, h0⟩ | ⟨g, cap, cur, hv, _, _, hle, _⟩
  · omega
  · simp only [PR.cell, Value.slice.injEq] at hv
    exact ⟨g, hv.1, by rw [hv.2.2]; exact hle⟩
theorem OwnS.cap (h : OwnS w B v ps) {p : PR} (hp : p ∈ ps) : p.xs.length ≤ p.c := by
  rcases (h.own p hp).2 with ⟨hv, h0⟩ | ⟨g, cap, cur, hv, _, _, hle, _⟩
  · omega
  · simp only [PR.cell, Value.slice.injEq] at hv
    rw [hv.2.2]; exact hle
theorem OwnS.outer {A : Option Addr} {n c : Nat} (h : OwnS w B (.slice A n c) ps) (hn : 0 < ps.length) : ∃ g, A = some ⟨g, 0, none⟩ ∧ n = ps.length := by
  rcases h.out.2 with ⟨hv, h0⟩ | ⟨g, cap, cur, hv, _, _, hle, _⟩
  · omega
  · simp only [Value.slice.injEq] at hv
    exact ⟨g, hv.1, hv.2.1⟩
theorem OwnS.cell {g c k : Nat} (h : OwnS w B (.slice (some ⟨g, 0, none⟩) ps.length c) ps) {p : PR} (hk : ps[k]? = some p) : w.cell? ⟨g, k, none⟩ = some (.slice p.A p.xs.length p.c) := by
  have hkl : k < ps.length := (List.getElem?_eq_some_iff.1 hk).1
  rw [World.ownsRow.cellAt h.out k (by omega)]
  simp [flatR, hk, PR.cell]
theorem OwnS.num {g k j : Nat} (h : OwnS w B v ps) {p : PR} (hk : ps[k]? = some p) (hA : p.A = some ⟨g, 0, none⟩) {x : Int} (hj : p.xs[j]? = some x) : w.cell? ⟨g, j, none⟩ = some (.int .i64 x) := by
  have ho := h.own p (List.mem_of_getElem? hk)
  have hjl : j < p.xs.length := (List.getElem?_eq_some_iff.1 hj).1
  unfold PR.cell at ho
  rw [hA] at ho
  rw [World.ownsRow.cellAt ho j (by omega)]
  simp [flat1, hj]
theorem OwnS.thaw {g k : Nat} (h : OwnS w B v ps) {p : PR} (hk : ps[k]? = some p) (hA : p.A = some ⟨g, 0, none⟩) (j : Nat) : w.frozen? ⟨g, j, none⟩ = false := by
  have ho := h.own p (List.mem_of_getElem? hk)
  unfold PR.cell at ho
  rw [hA] at ho
  exact World.ownsRow.frozenAt ho j
/-- a number changed in place -/
theorem OwnS.put {g k j : Nat} (h : OwnS w B v ps) {p : PR} (hk : ps[k]? = some p) (hA : p.A = some ⟨g, 0, none⟩) (hj : j < p.xs.length) (x : Int) :
    OwnS (w.setCell ⟨g, j, none⟩ (.int .i64 x)) B v (ps.set k ⟨p.A, p.c, p.xs.set j x⟩) ∧ B ≤ g := by
  have hkl : k < ps.length := (List.getElem?_eq_some_iff.1 hk).1
  have hpm := List.mem_of_getElem? hk
  have hog : p.cell.ownBlock = some g := by unfold PR.cell; rw [hA]; rfl
  have hgs : w.grownBy (w.setCell ⟨g, j, none⟩ (.int .i64 x)) (some g) := grown_set _
  have hce : (⟨p.A, p.c, p.xs.set j x⟩ : PR).cell = p.cell := by simp [PR.cell]
  have hcs : ∀ (i : Nat) (q : PR), (ps.set k ⟨p.A, p.c, p.xs.set j x⟩)[i]? = some q → ∃ q0, ps[i]? = some q0 ∧ q.cell = q0.cell := fun i q hq => by
    by_cases e : k = i
    · subst e
      rw [List.getElem?_set_self hkl] at hq
      cases hq
      exact ⟨p, hk, hce⟩
    · rw [List.getElem?_set_ne e] at hq
      exact ⟨q, hq, rfl⟩
  have hfl : flatR (ps.set k ⟨p.A, p.c, p.xs.set j x⟩) = flatR ps := by
    unfold flatR
    apply List.ext_getElem?
    intro i
    rw [List.getElem?_map, List.getElem?_map]
    by_cases e : k = i
    · subst e
      rw [List.getElem?_set_self hkl, hk]
      simp [hce]
    · rw [List.getElem?_set_ne e]
  refine ⟨⟨?_, fun q hq => ?_, fun i i' q q' b hne hq hq' hb => ?_⟩, (own_at (h.own p hpm) hog).1⟩
  · rw [hfl, List.length_set]
    exact World.ownsRow.kept h.out hgs (h.ne hpm hog)
  · obtain ⟨i, hi, hq⟩ := List.mem_iff_getElem.1 hq
    have hq := List.getElem?_eq_some_iff.2 ⟨hi, hq⟩
    by_cases e : k = i
    · subst e
      rw [List.getElem?_set_self hkl] at hq
      cases hq
      have ho := h.own p hpm
      unfold PR.cell at ho
      rw [hA] at ho
      have := Own1.set_ ho hj x
      rw [hce]
      unfold PR.cell
      rw [hA]
      exact this
    · rw [List.getElem?_set_ne e] at hq
      exact World.ownsRow.kept (h.own q (List.mem_of_getElem? hq)) hgs (.inr (h.apart k i p q g e hk hq hog))
  · obtain ⟨q0, h0, e0⟩ := hcs i q hq
    obtain ⟨q1, h1, e1⟩ := hcs i' q' hq'
    rw [e0] at hb
    rw [e1]
    exact h.apart i i' q0 q1 b hne h0 h1 hb
/-- a row put in the place of another one -/
theorem OwnS.rep {g c k : Nat} (h : OwnS w B (.slice (some ⟨g, 0, none⟩) ps.length c) ps) {p p' : PR} (hk : ps[k]? = some p) {row : Option Nat} (hg : w.grownBy w' row) (hrow : row = none ∨ row = p.cell.ownBlock) (ho : Own1 w' B 3 p'.cell p'.xs)
    (hat : p'.cell.ownBlock = none ∨ p'.cell.ownBlock = p.cell.ownBlock ∨ ∃ b, p'.cell.ownBlock = some b ∧ w.heap.size ≤ b) :
    OwnS (w'.setCell ⟨g, k, none⟩ p'.cell) B (.slice (some ⟨g, 0, none⟩) ps.length c) (ps.set k p') ∧ B ≤ g := by
  have hkl : k < ps.length := (List.getElem?_eq_some_iff.1 hk).1
  have hpm := List.mem_of_getElem? hk
  have hvo : (Value.slice (some ⟨g, 0, none⟩) ps.length c).ownBlock = some g := rfl
  have hgl := h.out.lt g hvo
  have hrv : (Value.slice (some ⟨g, 0, none⟩) ps.length c).ownBlock = none ∨ (Value.slice (some ⟨g, 0, none⟩) ps.length c).ownBlock ≠ row := by
    rcases hrow with rfl | rfl
    · exact .inr (by simp [Value.ownBlock])
    · cases e : p.cell.ownBlock with
      | none => exact .inr (by simp [Value.ownBlock])
      | some b => exact h.ne hpm e
  have h1 : w'.ownsRow B 49 1 (.slice (some ⟨g, 0, none⟩) ps.length c) ps.length (flatR ps) := World.ownsRow.kept h.out hg hrv
  have h2 := World.ownsRow.stored h1 k p'.cell
  have hfl : flatR (ps.set k p') = (flatR ps).set k p'.cell := by unfold flatR; rw [List.map_set]
  have hoth : ∀ (i : Nat) (q : PR), i ≠ k → ps[i]? = some q → Own1 w' B 3 q.cell q.xs := fun i q hi hq => by
    refine World.ownsRow.kept (h.own q (List.mem_of_getElem? hq)) hg ?_
    rcases hrow with rfl | rfl
    · cases q.cell.ownBlock <;> simp
    · cases e : q.cell.ownBlock with
      | none => exact .inl rfl
      | some b => exact .inr (fun e2 => h.apart i k q p b hi hq hk e e2.symm)
  have hog : ∀ {q : PR}, Own1 w' B 3 q.cell q.xs → q.cell.ownBlock = none ∨ q.cell.ownBlock ≠ some g := fun {q} hq => by
    obtain ⟨_, cs, hh⟩ := own_at h1 hvo
    exact own_type_ne hq hh (by decide)
  have hap : ∀ (i : Nat) (q : PR) (b : Nat), i ≠ k → ps[i]? = some q → q.cell.ownBlock = some b → p'.cell.ownBlock ≠ some b := fun i q b hi hq hb he => by
    have hlt := (h.own q (List.mem_of_getElem? hq)).lt b hb
    rcases hat with e | e | ⟨b', e, hb'⟩
    · rw [e] at he; cases he
    · rw [e] at he; exact h.apart i k q p b hi hq hk hb he
    · rw [e] at he; injection he with he; omega
  refine ⟨⟨?_, fun q hq => ?_, fun i i' q q' b hne hq hq' hb => ?_⟩, hgl.1⟩
  · rw [hfl, List.length_set]
    exact h2.1
  · obtain ⟨i, hi, hq⟩ := List.mem_iff_getElem.1 hq
    have hq := List.getElem?_eq_some_iff.2 ⟨hi, hq⟩
    by_cases e : k = i
    · subst e
      rw [List.getElem?_set_self hkl] at hq
      cases hq
      exact World.ownsRow.kept ho h2.2 (hog ho)
    · rw [List.getElem?_set_ne e] at hq
      have := hoth i q (fun e2 => e e2.symm) hq
      exact World.ownsRow.kept this h2.2 (hog this)
  · by_cases e : k = i
    · subst e
      rw [List.getElem?_set_self hkl] at hq
      cases hq
      rw [List.getElem?_set_ne hne] at hq'
      exact fun e2 => hap i' q' b (fun e3 => hne e3.symm) hq' e2 hb
    · rw [List.getElem?_set_ne e] at hq
      by_cases e' : k = i'
      · subst e'
        rw [List.getElem?_set_self hkl] at hq'
        cases hq'
        exact hap i q b hne hq hb
      · rw [List.getElem?_set_ne e'] at hq'
        exact h.apart i i' q q' b hne hq hq' hb
end
theorem OwnS.rowIn {w : World} {B : Nat} {p : PR} (h : Own1 w B 3 p.cell p.xs) : RowIn w B p := by
  obtain ⟨A, c, hv, hI, hf⟩ := Own1.form h
  simp only [PR.cell, Value.slice.injEq] at hv
  obtain ⟨rfl, _, rfl⟩ := hv
  exact RowIn.of hI hf
theorem OwnS.toR {w : World} {B : Nat} {v : Value} {ps : List PR} (h : OwnS w B v ps) : OwnR w B v ps := by
  have ho : ∀ {p : PR} {a : Addr}, p.A = some a → p.cell.ownBlock = some a.block := fun ha => by unfold PR.cell; rw [ha]; rfl
  refine ⟨h.out, fun p hp => ⟨OwnS.rowIn (h.own p hp), fun a ha e => ?_⟩, fun i j p q a b hij hp hq ha hb e => ?_⟩
  · rcases h.ne hp (ho ha) with e2 | e2
    · rw [e2] at e; cases e
    · exact e2 e.symm
  · exact h.apart i j p q a.block (by omega) hp hq (ho ha) (by rw [ho hb, e])
theorem OwnS.snoc {w w' : World} {B : Nat} {v v' : Value} {ps : List PR} {p : PR} (h : OwnS w B v ps) (hp : Own1 w B 3 p.cell p.xs) (hd : ∀ q ∈ ps, ∀ b, p.cell.ownBlock = some b → q.cell.ownBlock ≠ some b) (hR : OwnR w' B v' (ps ++ [p])) (hg : w.grownBy w' v.ownBlock) : OwnS w' B v' (ps ++ [p]) := by
  have hk : ∀ {q : PR}, Own1 w B 3 q.cell q.xs → Own1 w' B 3 q.cell q.xs := fun {q} hq => World.ownsRow.kept hq hg (by
    cases e : v.ownBlock with
    | none => cases q.cell.ownBlock <;> simp
    | some g =>
      obtain ⟨_, cs, hh⟩ := own_at h.out e
      exact own_type_ne hq hh (by decide))
  refine ⟨hR.out, fun q hq => ?_, fun i j q q' b hne hq hq' hb => ?_⟩
  · rcases List.mem_append.1 hq with hq | hq
    · exact hk (h.own q hq)
    · obtain rfl := List.mem_singleton.1 hq
      exact hk hp
  · rw [List.getElem?_append] at hq hq'
    split at hq
    · split at hq'
      · exact h.apart i j q q' b hne hq hq' hb
      · obtain rfl : q' = p := by
          have := List.mem_of_getElem? hq'
          exact List.mem_singleton.1 this
        exact fun e => hd q (List.mem_of_getElem? hq) b e hb
    · obtain rfl : q = p := List.mem_singleton.1 (List.mem_of_getElem? hq)
      split at hq'
      · exact hd q' (List.mem_of_getElem? hq') b hb
      · have h1 := (List.getElem?_eq_some_iff.1 hq).1
        have h2 := (List.getElem?_eq_some_iff.1 hq').1
        simp only [List.length_singleton] at h1 h2
        omega
theorem SlAt.tl {α : Type} {R : World → α → List Value → Prop} {S : Nat → Prop} {w : World} {b off : Nat} {x : α} {xs : List α} (h : SlAt 1 R S w (some ⟨b, off, none⟩) (x :: xs)) : SlAt 1 R S w (some ⟨b, off + 1, none⟩) xs := by
  intro i y hy
  obtain ⟨b', off', us, hA, hS, hb, hl, hr, hc⟩ := h (i + 1) y (by simpa using hy)
  cases hA
  refine ⟨b, off + 1, us, rfl, hS, hb, hl, hr, fun j u hu => ?_⟩
  have := hc j u hu
  rw [show off + (i + 1) * 1 + j = off + 1 + i * 1 + j by omega] at this
  exact this
end Go.Proofs.YtmbdacfgmiielaaGreatDoor
