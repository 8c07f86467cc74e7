/-
  Plain facts: runs of equal edges written once; three numbers written in place.
-/
import Derived.Test.YtdohbmegkkkchaaGreatComE
namespace Go.Proofs.YtdohbmegkkkchaaGreat
set_option linter.unusedSimpArgs false
set_option linter.unusedVariables false
set_option maxRecDepth 100000

/-- the first edges of runs, up to a place -/
def uqTo (ys : List T3) : Nat → List T3
  | 0 => []
  | n + 1 => match ys[n]? with
    | some x => if n ≠ 0 ∧ ys[n - 1]? = some x then uqTo ys n else uqTo ys n ++ [x]
    | none => uqTo ys n
theorem uq_dup {ys : List T3} {n : Nat} {x : T3} (hx : ys[n + 1]? = some x) (hy : ys[n]? = some x) : uqTo ys (n + 2) = uqTo ys (n + 1) := by
  conv => lhs; unfold uqTo
  rw [hx]
  simp only
  rw [if_pos ⟨by omega, by simpa using hy⟩]
theorem uq_new {ys : List T3} {n : Nat} {x y : T3} (hx : ys[n + 1]? = some x) (hy : ys[n]? = some y) (hne : x ≠ y) : uqTo ys (n + 2) = uqTo ys (n + 1) ++ [x] := by
  conv => lhs; unfold uqTo
  rw [hx]
  simp only
  rw [if_neg]
  rintro ⟨_, h⟩
  rw [show n + 1 - 1 = n by omega, hy] at h
  exact hne (by simpa using h.symm)
theorem uq_one {ys : List T3} (h : 0 < ys.length) : uqTo ys 1 = ys.take 1 := by
  cases ys with
  | nil => simp at h
  | cons y ys => simp [uqTo]
theorem uq_len (ys : List T3) (n : Nat) : (uqTo ys n).length ≤ n := by
  induction n with
  | zero => simp [uqTo]
  | succ n ih =>
    unfold uqTo
    split
    · split
      · omega
      · rw [List.length_append, List.length_singleton]; omega
    · omega
theorem uq_mem {ys : List T3} {n : Nat} (hn : n ≤ ys.length) (x : T3) : x ∈ uqTo ys n ↔ x ∈ ys.take n := by
  induction n with
  | zero => simp [uqTo]
  | succ n ih =>
    have ih := ih (by omega)
    have hx := List.getElem?_eq_getElem (l := ys) (i := n) (by omega)
    unfold uqTo
    rw [hx]
    simp only
    rw [List.take_add_one, hx, Option.toList, List.mem_append, List.mem_singleton]
    split
    · rename_i hc
      refine ⟨fun h => .inl (ih.1 h), fun h => ?_⟩
      rcases h with h | h
      · exact ih.2 h
      · subst h
        refine ih.2 (List.mem_iff_getElem?.2 ⟨n - 1, ?_⟩)
        rw [List.getElem?_take_of_lt (by omega)]
        exact hc.2
    · rw [List.mem_append, List.mem_singleton, ih]
theorem uq_pw {ys : List T3} (hp : ys.Pairwise (fun x y => ¬ ltE y x)) {n : Nat} (hn : n ≤ ys.length) : (uqTo ys n).Pairwise ltE := by
  induction n with
  | zero => exact List.Pairwise.nil
  | succ n ih =>
    have ih := ih (by omega)
    have hx := List.getElem?_eq_getElem (l := ys) (i := n) (by omega)
    unfold uqTo
    rw [hx]
    simp only
    split
    · exact ih
    · rename_i hc
      rw [List.pairwise_append]
      refine ⟨ih, by simp, fun a ha b hb => ?_⟩
      rw [List.mem_singleton] at hb
      subst hb
      obtain ⟨i, hi⟩ := List.mem_iff_getElem?.1 ((uq_mem (by omega) a).1 ha)
      have hil : i < n := by
        have := (List.getElem?_eq_some_iff.1 hi).1
        rw [List.length_take] at this
        omega
      rw [List.getElem?_take_of_lt hil] at hi
      obtain ⟨hi1, hi2⟩ := List.getElem?_eq_some_iff.1 hi
      have P := List.pairwise_iff_getElem.1 hp
      have h1 := P i n hi1 (by omega) hil
      rw [hi2] at h1
      have h3 := List.getElem?_eq_getElem (l := ys) (i := n - 1) (by omega)
      rw [h3] at hc
      have h4 := P (n - 1) n (by omega) (by omega) (by omega)
      have h5 : ys[n - 1] ≠ ys[n] := fun e => hc ⟨by omega, by rw [e]⟩
      by_cases he : i = n - 1
      · subst he
        rw [hi2] at h4 h5
        generalize ys[n] = b at h4 h5
        obtain ⟨a1, a2, a3⟩ := a
        obtain ⟨b1, b2, b3⟩ := b
        simp only [ne_eq, T3.mk.injEq] at h5
        unfold ltE at *
        simp only at *
        omega
      · have h6 := P i (n - 1) hi1 (by omega) (by omega)
        rw [hi2] at h6
        generalize ys[n] = b at h1 h4 h5 ⊢
        generalize ys[n - 1] = m at h4 h5 h6
        obtain ⟨a1, a2, a3⟩ := a
        obtain ⟨b1, b2, b3⟩ := b
        obtain ⟨m1, m2, m3⟩ := m
        simp only [ne_eq, T3.mk.injEq] at h5
        unfold ltE at *
        simp only at *
        omega

theorem flat3_set (ds : List T3) : ∀ (k : Nat) (u : T3), k < ds.length → (((flat3 ds).set (k * 3) (.int .i64 u.a)).set (k * 3 + 1) (.int .i64 u.b)).set (k * 3 + 2) (.int .i64 u.c) = flat3 (ds.set k u) := by
  induction ds with
  | nil => intro k u h; simp at h
  | cons d ds ih =>
    intro k u hk
    have e : flat3 (d :: ds) = .int .i64 d.a :: .int .i64 d.b :: .int .i64 d.c :: flat3 ds := by simp [flat3]
    cases k with
    | zero => rw [e]; simp [flat3]
    | succ k =>
      have h1 := ih k u (by simpa using hk)
      rw [e, show (k + 1) * 3 = k * 3 + 1 + 1 + 1 by omega]
      simp only [List.set_cons_succ]
      rw [h1]
      simp [flat3]
/-- a whole block whose first cells are these edges -/
def EB (w : World) (g : Nat) (ds : List T3) : Prop := ∃ cs : Array Value, w.heap[g]? = some (.cells cs 51 (0, 0)) ∧ cs.toList.take (ds.length * 3) = flat3 ds
theorem EB.of_own {w : World} {base g cap n : Nat} {ds : List T3} (h : Own3 w base 51 (.slice (some ⟨g, 0, none⟩) n cap) ds) : EB w g ds := by
  rcases h.2 with ⟨hv, _⟩ | ⟨g', cap', cur, hv, hb, hg, hle, hm, hs, ht⟩
  · cases hv
  · cases hv
    exact ⟨cur, hg, ht⟩
theorem EB.lt {w : World} {g : Nat} {ds : List T3} (h : EB w g ds) : g < w.heap.size := by
  obtain ⟨cs, h, _⟩ := h
  exact (Array.getElem?_eq_some_iff.1 h).1
theorem EB.frozen {w : World} {g : Nat} {ds : List T3} (h : EB w g ds) (o : Nat) : w.frozen? ⟨g, o, none⟩ = false := by
  obtain ⟨cs, h, _⟩ := h
  simp [World.frozen?, h]
theorem EB.ops {w : World} {g : Nat} {ds : List T3} (h : EB w g ds) {S : Nat → Prop} (hS : S g) : Ops S w (some ⟨g, 0, none⟩) ds := by
  have hlt := h.lt
  obtain ⟨cs, h, ht⟩ := h
  intro i x hx
  refine ⟨g, 0, _, rfl, hS, hlt, rfl, rfl, fun j u hu => ?_⟩
  have h1 := flat3_at ds i x hx j u hu
  rw [cell_of_row w g _ cs _ (0, 0) h, ← h1, ← ht, List.getElem?_take, if_pos]
  · simp
  · have h2 : i < ds.length := (List.getElem?_eq_some_iff.1 hx).1
    have h3 : j < 3 := by have := (List.getElem?_eq_some_iff.1 hu).1; simpa using this
    omega
theorem EB.ext {w w' : World} {g : Nat} {ds : List T3} (h : EB w g ds) (hE : Ext w w') : EB w' g ds := by
  have hlt := h.lt
  obtain ⟨cs, h, ht⟩ := h
  exact ⟨cs, by rw [hE.block g hlt]; exact h, ht⟩
theorem EB.set_ {w : World} {g : Nat} {ds : List T3} (h : EB w g ds) {k : Nat} (hk : k < ds.length) (a b c : Int) :
    EB (((w.setCell ⟨g, k * 3, none⟩ (.int .i64 a)).setCell ⟨g, k * 3 + 1, none⟩ (.int .i64 b)).setCell ⟨g, k * 3 + 2, none⟩ (.int .i64 c)) g (ds.set k ⟨a, b, c⟩) := by
  obtain ⟨cs, h, ht⟩ := h
  refine ⟨((cs.setIfInBounds (k * 3) (.int .i64 a)).setIfInBounds (k * 3 + 1) (.int .i64 b)).setIfInBounds (k * 3 + 2) (.int .i64 c), ?_, ?_⟩
  · simp [World.setCell, Array.getElem?_modify, h]
  · rw [← flat3_set ds k ⟨a, b, c⟩ hk, ← ht]
    simp only [Array.toList_setIfInBounds, List.length_set, List.take_set]
end Go.Proofs.YtdohbmegkkkchaaGreat
