/-
  Slices of structs of two ints: what they read as, a call's own ones, comparison, marks.
-/
import Derived.Test.YtdgfipoibnjhaaaDoorRes
import Derived.Laws.AppendOwnNone
namespace Go.Proofs.YtdgfipoibnjhaaaDoor
set_option linter.unusedSimpArgs false
set_option linter.unusedVariables false
set_option maxRecDepth 100000
open Go.RowKit

structure T2 where
  a : Int
  b : Int
deriving DecidableEq, Inhabited

def R2 (_ : World) (x : T2) (us : List Value) : Prop := us = [.int .i64 x.a, .int .i64 x.b]
theorem kept_2 (w w' : World) : Kept R2 w w' := fun _ _ h => h
abbrev Pls (S : Nat → Prop) := SlAt 2 R2 S
section
variable {S : Nat → Prop} {w w' : World} {A : Option Addr} {xs : List T2} {b off i lo hi : Nat}
theorem Pls.ext (h : Pls S w A xs) (hb : Ext w w') : Pls S w' A xs := SlAt.keep h (kept_2 _ _) hb.size hb.cells
theorem Pls.at_ (h : Pls S w A xs) {i : Nat} (hi : i < xs.length) :
    ∃ x0 x1 b off, xs[i]? = some ⟨x0, x1⟩ ∧ A = some ⟨b, off, none⟩ ∧ S b ∧ b < w.heap.size ∧ w.cell? ⟨b, off + i * 2, none⟩ = some (.int .i64 x0) ∧ w.cell? ⟨b, off + i * 2 + 1, none⟩ = some (.int .i64 x1) := by
  obtain ⟨b, off, us, e, hS, hb, _, hr, hc⟩ := h i xs[i] (List.getElem?_eq_getElem hi)
  cases hr
  exact ⟨_, _, b, off, List.getElem?_eq_getElem hi, e, hS, hb, by simpa using hc 0 _ rfl, by simpa using hc 1 _ rfl⟩
theorem Pls.grown {row : Option Nat} (h : Pls S w A xs) (hg : w.grownBy w' row) (hS : ∀ b, S b → b < w.heap.size → some b ≠ row) : Pls S w' A xs :=
  SlAt.keep h (kept_2 _ _) hg.size (fun p hp hlt => World.cell?_of_block (hg.block p.block hlt (hS _ hp hlt)))
theorem Pls.within (h : Pls S w A xs) (hw : Within lo hi w w') (hS : ∀ b, S b → b < w.heap.size → b < lo ∨ hi ≤ b) : Pls S w' A xs :=
  SlAt.keep h (kept_2 _ _) hw.size (fun p hp hlt => World.cell?_of_block (hw.block p.block hlt (hS _ hp hlt)))
theorem Pls.set2 (h : Pls S w (some ⟨b, off, none⟩) xs) (hi : i < xs.length) (x0 x1 : Int) :
    Pls S ((w.setCell ⟨b, off + i * 2, none⟩ (.int .i64 x0)).setCell ⟨b, off + i * 2 + 1, none⟩ (.int .i64 x1)) (some ⟨b, off, none⟩) (xs.set i ⟨x0, x1⟩) := by
  obtain ⟨y0, y1, b', off', _, e, hS, hb, c0, c1⟩ := h.at_ hi
  cases e
  have hz : ((w.setCell ⟨b, off + i * 2, none⟩ (.int .i64 x0)).setCell ⟨b, off + i * 2 + 1, none⟩ (.int .i64 x1)).heap.size = w.heap.size := by simp [World.setCell]
  intro j x hx
  rw [List.getElem?_set] at hx
  by_cases hj : i = j
  · subst hj
    rw [if_pos rfl, if_pos hi] at hx
    cases hx
    refine ⟨b, off, _, rfl, hS, by rw [hz]; exact hb, rfl, rfl, fun q u hu => ?_⟩
    match q, hu with
    | 0, hu => cases hu; go_simp
    | 1, hu => cases hu; go_simp
    | q + 2, hu => simp at hu
  · rw [if_neg hj] at hx
    obtain ⟨b', off', us, e, _, _, hl, hr, hc⟩ := h j x hx
    cases e
    refine ⟨b, off, us, rfl, hS, by rw [hz]; exact hb, hl, hr, fun q u hu => ?_⟩
    have hq : q < 2 := by have := (List.getElem?_eq_some_iff.1 hu).1; omega
    rw [World.cell?_setCell_other _ _ _ _ (by first | (simp; done) | (simp; omega)), World.cell?_setCell_other _ _ _ _ (by first | (simp; done) | (simp; omega))]
    exact hc q u hu
end

def flat2 (xs : List T2) : List Value := xs.flatMap fun x => [.int .i64 x.a, .int .i64 x.b]
theorem flat2_len (xs : List T2) : (flat2 xs).length = xs.length * 2 := by
  induction xs with
  | nil => rfl
  | cons y ys ih => simp [flat2] at ih ⊢; omega
theorem flat2_app (xs ys : List T2) : flat2 (xs ++ ys) = flat2 xs ++ flat2 ys := by simp [flat2]
theorem flat2_one (xs : List T2) : ∀ u ∈ flat2 xs, u.oneCell' = true := by
  intro u hu
  unfold flat2 at hu
  simp only [List.mem_flatMap] at hu
  obtain ⟨x, _, hx⟩ := hu
  simp at hx
  rcases hx with rfl | rfl <;> rfl
theorem flat2_get (xs : List T2) : ∀ (n : Nat) (u : Value), (flat2 xs)[n]? = some u → ∃ (i j : Nat) (x : T2), n = i * 2 + j ∧ xs[i]? = some x ∧ ([.int .i64 x.a, .int .i64 x.b] : List Value)[j]? = some u := by
  induction xs with
  | nil => intro n u h; simp [flat2] at h
  | cons y ys ih =>
    intro n u h
    have e : flat2 (y :: ys) = [.int .i64 y.a, .int .i64 y.b] ++ flat2 ys := by simp [flat2]
    rw [e] at h
    by_cases hn : n < 2
    · rw [List.getElem?_append_left (by simpa using hn)] at h
      exact ⟨0, n, y, by omega, rfl, h⟩
    · rw [List.getElem?_append_right (by simp; omega)] at h
      obtain ⟨i, j, x, h1, h2, h3⟩ := ih _ _ h
      simp only [List.length_cons, List.length_nil] at h1
      exact ⟨i + 1, j, x, by omega, by simpa using h2, h3⟩
theorem flat2_at (xs : List T2) : ∀ (i : Nat) (x : T2), xs[i]? = some x → ∀ j u, ([.int .i64 x.a, .int .i64 x.b] : List Value)[j]? = some u → (flat2 xs)[i * 2 + j]? = some u := by
  induction xs with
  | nil => intro i x h; simp at h
  | cons y ys ih =>
    intro i x h j u hu
    have e : flat2 (y :: ys) = [.int .i64 y.a, .int .i64 y.b] ++ flat2 ys := by simp [flat2]
    have hj : j < 2 := by
      have := (List.getElem?_eq_some_iff.1 hu).1
      simpa using this
    cases i with
    | zero =>
      simp at h
      subst h
      rw [e, List.getElem?_append_left (by simp; omega)]
      simpa using hu
    | succ i =>
      rw [e, List.getElem?_append_right (by simp; omega)]
      have := ih i x (by simpa using h) j u hu
      simpa [show (i + 1) * 2 + j - 2 = i * 2 + j by omega] using this

section
variable {w w' : World} {base : Nat} {e : TypeId} {v : Value} {n : Nat} {xs : List T2}
/-- a slice of the call's own -/
def Own2 (w : World) (base : Nat) (e : TypeId) (v : Value) (xs : List T2) : Prop := w.ownsRow base e 2 v xs.length (flat2 xs)
theorem Own2.ext (h : Own2 w base e v xs) (hb : Ext w w') : Own2 w' base e v xs :=
  World.ownsRow.kept (row := none) h ⟨hb.os, hb.tape, hb.output, hb.size, fun k hk _ => hb.block k hk⟩ (by cases v <;> simp [Value.ownBlock]; split <;> simp)
theorem Own2.nil : Own2 w base e (.slice none 0 0) [] := World.ownsRow_nil _ _ _ _
theorem Own2.made (w : World) {g : Nat} (cur : Array Value) (cap : Nat) (hg : g = w.heap.size) (hb : base ≤ w.heap.size) (hm : cap ≤ 1048576) (hs : cur.size = cap * 2) : Own2 (w.alloc (.cells cur e)) base e (.slice (some ⟨g, 0, none⟩) 0 cap) [] := by
  subst hg
  exact World.ownsRow_made _ _ _ hb (by unfold maxLen; omega) hs
theorem Own2.form (h : Own2 w base e v xs) : ∃ A c, v = .slice A xs.length c ∧ Pls (fun b => base ≤ b) w A xs ∧ Free base w A := by
  rcases h.2 with ⟨rfl, hn⟩ | ⟨g, cap, cur, rfl, hb, hg, hle, hm, hs, ht⟩
  · have : xs = [] := List.eq_nil_of_length_eq_zero hn
    subst this
    exact ⟨none, 0, rfl, SlAt.nil, fun a ha => by cases ha⟩
  · have hlt : g < w.heap.size := (Array.getElem?_eq_some_iff.1 hg).1
    refine ⟨_, cap, rfl, fun i x hx => ⟨g, 0, _, rfl, hb, hlt, rfl, rfl, fun j u hu => ?_⟩, fun a ha => ?_⟩
    · have h1 := flat2_at xs i x hx j u hu
      rw [cell_of_row w g _ cur e (0, 0) hg, ← h1, ← ht, List.getElem?_take, if_pos]
      · simp
      · have h2 : i < xs.length := (List.getElem?_eq_some_iff.1 hx).1
        have h3 : j < 2 := by have := (List.getElem?_eq_some_iff.1 hu).1; simpa using this
        omega
    · cases ha
      exact ⟨hb, hlt, fun o => by simp [World.frozen?, hg]⟩
theorem Own2.below (h : Own2 w base e v xs) {base' : Nat} (hb : base' ≤ base) : Own2 w base' e v xs := by
  refine ⟨h.1, ?_⟩
  rcases h.2 with h2 | ⟨g, cap, cur, hv, hg, r⟩
  · exact .inl h2
  · exact .inr ⟨g, cap, cur, hv, by omega, r⟩
theorem Own2.ne_map {κ : Type} [DecidableEq κ] {ek : κ → Value} {b : Nat} {f : κ → Option Value} {m : Nat} (h : Own2 w base e v xs) (hm : MapF ek w b f m) : some b ≠ v.ownBlock := by
  obtain ⟨es, clk, kvs, hb, _⟩ := hm
  rcases h.2 with ⟨rfl, _⟩ | ⟨g, cap, cur, rfl, _, hg, _⟩
  · simp [Value.ownBlock]
  · simp only [Value.ownBlock]
    intro he
    injection he with he
    subst he
    rw [hb] at hg
    cases hg
theorem Own2.cut (h : Own2 w base e v xs) : ∃ A c, v = .slice A xs.length c ∧ xs.length ≤ c ∧ c ≤ maxLen ∧ (A = none → xs.length = 0 ∧ c = 0) ∧ ∀ a, A = some a → ∃ g, a = ⟨g, 0, none⟩ := by
  rcases h.2 with ⟨rfl, hn⟩ | ⟨g, cap, cur, rfl, hb, hg, hle, hm, hs, ht⟩
  · exact ⟨none, 0, by rw [hn], by omega, by omega, fun _ => ⟨hn, rfl⟩, fun a ha => by cases ha⟩
  · exact ⟨_, cap, rfl, hle, hm, (fun h => by cases h), fun a ha => by cases ha; exact ⟨g, rfl⟩⟩
end
theorem Own2.grown {w w' : World} {base : Nat} {e : TypeId} {v : Value} {xs : List T2} {row : Option Nat} (h : Own2 w base e v xs) (hg : w.grownBy w' row) (hne : row ≠ v.ownBlock) : Own2 w' base e v xs :=
  World.ownsRow.kept h hg (.inr (fun e => hne e.symm))
theorem own2_block {w : World} {base : Nat} {e : TypeId} {v : Value} {xs : List T2} (h : Own2 w base e v xs) (g : Nat) (hg : v.ownBlock = some g) : base ≤ g := (World.ownsRow.lt h g hg).1

/-- append of the elements of a slice of such structs -/
theorem wpList_append2s {P : Program} (w : World) {ops : Array Oper} {rest : List Oper} {o : Oper} {a : Act} {Q : Exit → Act → World → Prop} (hgd : o.guard = none) (s x : Operand) (t : TypeId)
    (ho : o.op = .call { callee := .builtin .append, args := #[s, x], argTypes := #[t, t] })
    (base : Nat) (e : TypeId) {z : Value} (ht : P.underlying t = some (.slice e)) (hinfo : (P.info? e).map (fun i => (i.zero, i.size, i.bytes)) = some (some z, 2, 16)) (hzs : z.cells.size = 2)
    (v : Value) (xs : List T2) (hs : a.eval s = v) (hown : Own2 w base e v xs)
    (u : Value) (base2 : Nat) (ys : List T2) (hx : a.eval x = u) (hu : Own2 w base2 e u ys)
    (hn : xs.length + ys.length ≤ 4194304) (hbase : base ≤ w.heap.size)
    (h : ∀ v' w', Own2 w' base e v' (xs ++ ys) → w.grownBy w' v.ownBlock → wpList P ops Q rest (a.put o.dst v') w') : wpList P ops Q (o :: rest) a w := by
  obtain ⟨i0, hi, hz0, hz1, hz2⟩ := info_parts hinfo
  obtain ⟨A, c, hv, hP, hf⟩ := hu.form
  rcases hu.2 with ⟨rfl, hn0⟩ | ⟨g, cap, cur, rfl, _⟩
  · obtain rfl : ys = [] := List.eq_nil_of_length_eq_zero hn0
    refine wpList_append_own_none hgd s x t ho base e i0 2 ht hi v xs.length (flat2 xs) hs hown hx ?_
    exact h v w (by simpa using hown) (grown_refl _ _)
  · cases hv
    refine wpList_append_own w hgd s x t ho base e i0 z 2 16 ht hi hz0 hz1 hz2 hzs (by decide) v xs.length (flat2 xs) hs hown ⟨g, 0, none⟩ ys.length _ (flat2 ys) hx (flat2_len ys) ?_ (flat2_one ys) (by unfold maxLen; omega) (by omega) hbase ?_
    · intro n u hu'
      obtain ⟨i, j, x, rfl, hxi, huj⟩ := flat2_get ys n u hu'
      obtain ⟨b', off', us, e, _, _, _, hr, hc⟩ := hP i x hxi
      cases e
      cases hr
      have := hc j u huj
      rw [← this]
      unfold Addr.add
      split
      · rename_i h0; simp at h0; simp [h0]
      · simp
    · intro v' w' h1 h2 _
      refine h v' w' ?_ h2
      unfold Own2
      rw [flat2_app, List.length_append]
      exact h1
/-- append of one such struct -/
theorem wpList_append2 {P : Program} (w : World) {ops : Array Oper} {rest : List Oper} {o : Oper} {a : Act} {Q : Exit → Act → World → Prop} (hgd : o.guard = none) (s x : Operand) (t : TypeId)
    (ho : o.op = .call { callee := .builtin .append, args := #[s, x], argTypes := #[t, t] })
    (base : Nat) (e : TypeId) {z : Value} (ht : P.underlying t = some (.slice e)) (hinfo : (P.info? e).map (fun i => (i.zero, i.size, i.bytes)) = some (some z, 2, 16)) (hzs : z.cells.size = 2)
    (v : Value) (xs : List T2) (hs : a.eval s = v) (hown : Own2 w base e v xs)
    (g : Nat) (x0 x1 : Int) (hx : a.eval x = .slice (some ⟨g, 0, none⟩) 1 1) (c0 : w.cell? ⟨g, 0, none⟩ = some (.int .i64 x0)) (c1 : w.cell? ⟨g, 1, none⟩ = some (.int .i64 x1))
    (hn : xs.length ≤ 4194304) (hbase : base ≤ w.heap.size)
    (h : ∀ v' w', Own2 w' base e v' (xs ++ [⟨x0, x1⟩]) → w.grownBy w' v.ownBlock → wpList P ops Q rest (a.put o.dst v') w') : wpList P ops Q (o :: rest) a w := by
  obtain ⟨i0, hi, hz0, hz1, hz2⟩ := info_parts hinfo
  refine wpList_append_own w hgd s x t ho base e i0 z 2 16 ht hi hz0 hz1 hz2 hzs (by decide) v xs.length (flat2 xs) hs hown ⟨g, 0, none⟩ 1 1 [.int .i64 x0, .int .i64 x1] hx rfl ?_ ?_ (by unfold maxLen; omega) (by omega) hbase ?_
  · intro j u hu
    match j, hu with
    | 0, hu => cases hu; exact c0
    | 1, hu => cases hu; exact c1
    | j + 2, hu => simp at hu
  · intro u hu
    simp at hu
    rcases hu with rfl | rfl <;> rfl
  · intro v' w' h1 h2 _
    refine h v' w' ?_ h2
    unfold Own2
    rw [flat2_app, List.length_append]
    exact h1

/-- a call that hands back new structs of two ints -/
def FreshP (xs : List T2) (w : World) (en : Ending) (w' : World) : Prop :=
  ∃ A c, en = .returned (.slice A xs.length c) ∧ Pls (fun b => w.heap.size ≤ b) w' A xs ∧ Free w.heap.size w' A ∧ Ext w w'
theorem Own2.fresh {w w' : World} {base : Nat} {e : TypeId} {v : Value} {xs : List T2} (h : Own2 w' base e v xs) (hb : w.heap.size ≤ base) (hE : Ext w w') : FreshP xs w (.returned v) w' := by
  obtain ⟨A, c, rfl, hA, hf⟩ := (h.below hb).form
  exact ⟨A, c, rfl, hA, hf, hE⟩
theorem FreshP.nil (w w' : World) (hE : Ext w w') : FreshP [] w (.returned (.slice none 0 0)) w' := ⟨none, 0, rfl, SlAt.nil, (fun a ha => by cases ha), hE⟩

/-- such structs that are a call's own -/
def RP (lo : Nat) (w : World) (A : Option Addr) (xs : List T2) : Prop := Pls (fun b => lo ≤ b) w A xs ∧ Free lo w A
theorem RP.ext {lo : Nat} {w w' : World} {A : Option Addr} {xs : List T2} (h : RP lo w A xs) (hE : Ext w w') : RP lo w' A xs := ⟨h.1.ext hE, h.2.ext hE⟩
theorem RP.within {lo lo' hi : Nat} {w w' : World} {A : Option Addr} {xs : List T2} (h : RP lo w A xs) (hw : Within lo' hi w w') (hl : hi ≤ lo) : RP lo w' A xs :=
  ⟨h.1.within hw (fun b hb _ => .inr (Nat.le_trans hl hb)), h.2.within hw hl⟩

def marks2 (k : Int) (n : Nat) : List T2 := (List.range n).map fun i : Nat => ⟨k + 2 * (i : Int), k + 2 * (i : Int) + 1⟩
theorem marks2_len (k : Int) (n : Nat) : (marks2 k n).length = n := by simp [marks2]
theorem marks2_at {k : Int} {n i : Nat} (h : i < n) : (marks2 k n)[i]? = some ⟨k + 2 * i, k + 2 * i + 1⟩ := by simp [marks2, h]
theorem marks2_step {k : Int} {j : Nat} {xs : List T2} (h : j < xs.length) :
    (marks2 k j ++ xs.drop j).set j ⟨k + 2 * j, k + 2 * j + 1⟩ = marks2 k (j + 1) ++ xs.drop (j + 1) := by
  apply List.ext_getElem?
  intro i
  rw [List.getElem?_set, List.length_append, marks2_len, List.length_drop]
  rcases Nat.lt_trichotomy i j with h1 | h1 | h1
  · rw [if_neg (by omega), List.getElem?_append_left (by rw [marks2_len]; omega), List.getElem?_append_left (by rw [marks2_len]; omega), marks2_at h1, marks2_at (by omega)]
  · subst h1
    rw [if_pos rfl, if_pos (by omega), List.getElem?_append_left (by rw [marks2_len]; omega), marks2_at (by omega)]
  · rw [if_neg (by omega), List.getElem?_append_right (by rw [marks2_len]; omega), List.getElem?_append_right (by rw [marks2_len]; omega), marks2_len, marks2_len, List.getElem?_drop, List.getElem?_drop]
    congr 1
    omega

end Go.Proofs.YtdgfipoibnjhaaaDoor
