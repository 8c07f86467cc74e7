/-
  A drawn history: the transactions in a slice of the call's own, their operations in slices of the call's own.
-/
import Derived.Test.YtdgfipoibnjhaaaDoorDraw
import Derived.Test.YtdgfipoibnjhaaaDoorOwnI
namespace Go.Proofs.YtdgfipoibnjhaaaDoor
set_option linter.unusedSimpArgs false
set_option linter.unusedVariables false
set_option maxRecDepth 100000
open Go.RowKit

/-- a transaction with the place of its operations -/
structure PT where
  s : Int
  A : Option Addr
  c : Nat
  ops : List T3
  d : Bool
def PT.cells (p : PT) : List Value := [.int .i64 p.s, .slice p.A p.ops.length p.c, .bool p.d]
def PT.txn (p : PT) : TxnT := ⟨p.s, p.ops, p.d⟩
def flatP (ps : List PT) : List Value := ps.flatMap PT.cells
theorem flatP_app (ps qs : List PT) : flatP (ps ++ qs) = flatP ps ++ flatP qs := by simp [flatP]
theorem flatP_len (ps : List PT) : (flatP ps).length = ps.length * 3 := by
  induction ps with
  | nil => rfl
  | cons y ys ih => simp [flatP, PT.cells] at ih ⊢; omega
theorem flatP_at (ps : List PT) : ∀ (i : Nat) (p : PT), ps[i]? = some p → ∀ j u, p.cells[j]? = some u → (flatP ps)[i * 3 + j]? = some u := by
  induction ps with
  | nil => intro i x h; simp at h
  | cons y ys ih =>
    intro i x h j u hu
    have e : flatP (y :: ys) = y.cells ++ flatP ys := by simp [flatP]
    have hj : j < 3 := by
      have := (List.getElem?_eq_some_iff.1 hu).1
      simpa [PT.cells] using this
    have hy : y.cells.length = 3 := rfl
    cases i with
    | zero =>
      simp at h
      subst h
      rw [e, List.getElem?_append_left (by rw [hy]; omega)]
      simpa using hu
    | succ i =>
      rw [e, List.getElem?_append_right (by rw [hy]; omega), hy]
      have := ih i x (by simpa using h) j u hu
      simpa [show (i + 1) * 3 + j - 3 = i * 3 + j by omega] using this

section
variable {w w' : World} {B lim : Nat} {v : Value} {ps : List PT}
/-- small enough: at most six operations (each small), a small session -/
def PT.small (p : PT) : Prop := SmallI p.s ∧ p.ops.length ≤ 7 ∧ ∀ o ∈ p.ops, SmallOp o
/-- the slice v holds the transactions ps; their operations lie in blocks below lim -/
def OwnT (w : World) (B lim : Nat) (v : Value) (ps : List PT) : Prop :=
  w.ownsRow B 32 3 v ps.length (flatP ps) ∧ ∀ p ∈ ps, Own3 w B 34 (.slice p.A p.ops.length p.c) p.ops ∧ (∀ a, p.A = some a → a.block < lim)
theorem or_none (x : Option Nat) : x = none ∨ x ≠ none := by cases x <;> simp
/-- rows of other types lie in other blocks -/
theorem own_ne {B B' k k' n n' : Nat} {e e' : TypeId} {v v' : Value} {xs xs' : List Value} (h : w.ownsRow B e k v n xs) (h' : w.ownsRow B' e' k' v' n' xs') (hne : e ≠ e') : v.ownBlock = none ∨ v.ownBlock ≠ v'.ownBlock := by
  rcases h.2 with ⟨rfl, _⟩ | ⟨g, cap, cur, rfl, _, hg, _⟩
  · exact .inl rfl
  · rcases h'.2 with ⟨rfl, _⟩ | ⟨g', cap', cur', rfl, _, hg', _⟩
    · exact .inr (by simp [Value.ownBlock])
    · refine .inr (fun he => ?_)
      simp only [Value.ownBlock] at he
      have := Option.some.inj he
      subst this
      rw [hg] at hg'
      cases hg'
      exact hne rfl
theorem OwnT.nil : OwnT w B lim (.slice none 0 0) [] := ⟨World.ownsRow_nil _ _ _ _, fun p hp => by cases hp⟩
theorem OwnT.lower (h : OwnT w B lim v ps) {lim' : Nat} (hl : lim ≤ lim') : OwnT w B lim' v ps :=
  ⟨h.1, fun p hp => ⟨(h.2 p hp).1, fun a ha => Nat.lt_of_lt_of_le ((h.2 p hp).2 a ha) hl⟩⟩
theorem OwnT.grown {row : Option Nat} (h : OwnT w B lim v ps) (hg : w.grownBy w' row) (h1 : row ≠ v.ownBlock) (h2 : ∀ g, row = some g → g < B ∨ lim ≤ g ∨ ∃ cs t, w.heap[g]? = some (.cells cs t (0, 0)) ∧ t ≠ 34) : OwnT w' B lim v ps := by
  cases row with
  | none => exact ⟨World.ownsRow.kept h.1 hg (or_none _), fun p hp => ⟨World.ownsRow.kept (h.2 p hp).1 hg (or_none _), (h.2 p hp).2⟩⟩
  | some g =>
    refine ⟨World.ownsRow.kept h.1 hg (.inr (fun e => h1 e.symm)), fun p hp => ⟨(h.2 p hp).1.grown hg (fun e => ?_), (h.2 p hp).2⟩⟩
    obtain ⟨hown, hlim⟩ := h.2 p hp
    rcases hown.2 with ⟨hv, _⟩ | ⟨g', cap, cur, hv, hb, hh, _⟩
    · rw [hv] at e
      simp [Value.ownBlock] at e
    · rw [hv] at e
      simp only [Value.ownBlock] at e
      have e' := Option.some.inj e
      subst e'
      have hl : g < lim := hlim ⟨g, 0, none⟩ (by
        have h9 := hv
        simp only [Value.slice.injEq] at h9
        exact h9.1)
      rcases h2 g rfl with h3 | h3 | ⟨cs, t, h3, h4⟩
      · omega
      · omega
      · rw [h3] at hh
        cases hh
        exact h4 rfl
/-- append of one transaction -/
theorem wpList_appendP {P : Program} (w : World) {ops : Array Oper} {rest : List Oper} {o : Oper} {a : Act} {Q : Exit → Act → World → Prop} (hgd : o.guard = none) (s x : Operand) (t : TypeId)
    (ho : o.op = .call { callee := .builtin .append, args := #[s, x], argTypes := #[t, t] })
    {z : Value} (ht : P.underlying t = some (.slice 32)) (hinfo : (P.info? 32).map (fun i => (i.zero, i.size, i.bytes)) = some (some z, 3, 40)) (hzs : z.cells.size = 3)
    (v : Value) (ps : List PT) (hs : a.eval s = v) (hown : OwnT w B lim v ps) (p : PT) (hp : Own3 w B 34 (.slice p.A p.ops.length p.c) p.ops) (hpl : ∀ a, p.A = some a → a.block < w.heap.size) (hlim : lim ≤ w.heap.size)
    (g : Nat) (hx : a.eval x = .slice (some ⟨g, 0, none⟩) 1 1) (c0 : w.cell? ⟨g, 0, none⟩ = some (.int .i64 p.s)) (c1 : w.cell? ⟨g, 1, none⟩ = some (.slice p.A p.ops.length p.c)) (c2 : w.cell? ⟨g, 2, none⟩ = some (.bool p.d))
    (hn : ps.length ≤ 1048576) (hbase : B ≤ w.heap.size)
    (h : ∀ v' w', OwnT w' B w.heap.size v' (ps ++ [p]) → w.grownBy w' v.ownBlock → wpList P ops Q rest (a.put o.dst v') w') : wpList P ops Q (o :: rest) a w := by
  obtain ⟨i0, hi, hz0, hz1, hz2⟩ := info_parts hinfo
  refine wpList_append_own w hgd s x t ho B 32 i0 z 3 40 ht hi hz0 hz1 hz2 hzs (by decide) v ps.length (flatP ps) hs hown.1 ⟨g, 0, none⟩ 1 1 p.cells hx rfl ?_ ?_ (by unfold maxLen; omega) (by omega) hbase ?_
  · intro j u hu
    match j, hu with
    | 0, hu => cases hu; exact c0
    | 1, hu => cases hu; exact c1
    | 2, hu => cases hu; exact c2
    | j + 3, hu => simp [PT.cells] at hu
  · intro u hu
    simp [PT.cells] at hu
    rcases hu with rfl | rfl | rfl <;> rfl
  · intro v' w' h1 h2 _
    refine h v' w' ⟨?_, fun q hq => ?_⟩ h2
    · rw [flatP_app, List.length_append]
      simpa [flatP] using h1
    · rcases List.mem_append.1 hq with hq | hq
      · exact ⟨World.ownsRow.kept (hown.2 q hq).1 h2 (own_ne (hown.2 q hq).1 hown.1 (by decide)), fun a ha => Nat.lt_of_lt_of_le ((hown.2 q hq).2 a ha) hlim⟩
      · obtain rfl := List.mem_singleton.1 hq
        exact ⟨World.ownsRow.kept hp h2 (own_ne hp hown.1 (by decide)), hpl⟩
end
/-- a store into a slice of ints of the call's own -/
theorem Own1.set_ {w : World} {base g n c i : Nat} {e : TypeId} {xs : List Int} (h : Own1 w base e (.slice (some ⟨g, 0, none⟩) n c) xs) (hi : i < xs.length) (y : Int) :
    Own1 (w.setCell ⟨g, i, none⟩ (.int .i64 y)) base e (.slice (some ⟨g, 0, none⟩) n c) (xs.set i y) := by
  unfold Own1 at h ⊢
  rw [List.length_set]
  refine ⟨by simp [flat1], ?_⟩
  rcases h.2 with ⟨hv, hn⟩ | ⟨g', cap, cur, hv, hb, hg, hle, hm, hs, ht⟩
  · cases hv
  · cases hv
    refine .inr ⟨g, c, cur.setIfInBounds i (.int .i64 y), rfl, hb, Blk.set_ (show Blk w g e cur from hg) i _, hle, hm, by simpa using hs, ?_⟩
    rw [Array.toList_setIfInBounds, List.take_set, ht]
    simp [flat1, List.map_set]
/-- the operations of a literal row -/
theorem Own3.lit (w : World) {base : Nat} {e : TypeId} (xs : List T3) (hb : base ≤ w.heap.size) (hl : xs.length ≤ 1048576) : Own3 (w.alloc (.cells (flat3 xs).toArray e)) base e (.slice (some ⟨w.heap.size, 0, none⟩) xs.length xs.length) xs := by
  unfold Own3
  refine ⟨by rw [flat3_len], .inr ⟨w.heap.size, xs.length, (flat3 xs).toArray, rfl, hb, heap_alloc_new w _, Nat.le_refl _, by unfold maxLen; omega, by simp [flat3_len], ?_⟩⟩
  rw [List.take_of_length_le (by simp [flat3_len])]
theorem Own3.slCap {w : World} {base n c : Nat} {e : TypeId} {A : Option Addr} {xs : List T3} (h : Own3 w base e (.slice A n c) xs) : xs.length ≤ c := by
  rcases h.2 with ⟨hv, hn⟩ | ⟨g', cap, cur, hv, hb, hg, hle, hm, hs, ht⟩
  · omega
  · cases hv
    exact hle
/-- what the outer row and the rows of operations say in the reader's words -/
theorem OwnT.txns {w : World} {B lim : Nat} {v : Value} {ps : List PT} (h : OwnT w B lim v ps) : ∃ A c, v = .slice A ps.length c ∧ ps.length ≤ c ∧ Txns (fun b => B ≤ b) w A (ps.map PT.txn) ∧ (∀ a, A = some a → B ≤ a.block ∧ a.block < w.heap.size ∧ ∀ o, w.frozen? ⟨a.block, o, none⟩ = false) := by
  obtain ⟨h1, h2⟩ := h
  rcases h1.2 with ⟨rfl, hn⟩ | ⟨g, cap, cur, rfl, hb, hg, hle, hm, hs, ht⟩
  · have : ps = [] := List.eq_nil_of_length_eq_zero hn
    subst this
    exact ⟨none, 0, rfl, Nat.le_refl _, SlAt.nil, fun a ha => by cases ha⟩
  · have hlt : g < w.heap.size := (Array.getElem?_eq_some_iff.1 hg).1
    refine ⟨_, cap, rfl, hle, fun i x hx => ?_, fun a ha => ?_⟩
    · rw [List.getElem?_map] at hx
      cases hp : ps[i]? with
      | none => rw [hp] at hx; cases hx
      | some p =>
        rw [hp] at hx
        cases hx
        obtain ⟨A', c', hv', hO, _⟩ := (h2 p (List.mem_of_getElem? hp)).1.form
        simp only [Value.slice.injEq] at hv'
        obtain ⟨rfl, _, rfl⟩ := hv'
        refine ⟨g, 0, p.cells, rfl, hb, hlt, rfl, ⟨p.A, p.c, rfl, hO⟩, fun j u hu => ?_⟩
        have h5 := flatP_at ps i p hp j u hu
        rw [cell_of_row w g _ cur _ (0, 0) hg, ← h5, ← ht, List.getElem?_take, if_pos]
        · simp
        · have h6 : i < ps.length := (List.getElem?_eq_some_iff.1 hp).1
          have h7 : j < 3 := by have := (List.getElem?_eq_some_iff.1 hu).1; simpa [PT.cells] using this
          omega
    · cases ha
      exact ⟨hb, hlt, fun o => by simp [World.frozen?, hg]⟩
theorem flatP_set (q : PT) : ∀ (ps : List PT) (i : Nat), i < ps.length → flatP (ps.set i q) = (((flatP ps).set (i * 3) (.int .i64 q.s)).set (i * 3 + 1) (.slice q.A q.ops.length q.c)).set (i * 3 + 2) (.bool q.d) := by
  intro ps
  induction ps with
  | nil => intro i h; simp at h
  | cons y ys ih =>
    intro i h
    have e : ∀ z zs, flatP (z :: zs) = z.cells ++ flatP zs := fun z zs => by simp [flatP]
    have hy : y.cells.length = 3 := rfl
    cases i with
    | zero =>
      rw [List.set_cons_zero, e, e]
      rfl
    | succ i =>
      rw [List.set_cons_succ, e, e, ih i (by simpa using h)]
      rw [List.set_append_right _ _ (by rw [hy]; omega), List.set_append_right _ _ (by rw [hy]; omega), List.set_append_right _ _ (by rw [hy]; omega), hy]
      rw [show (i + 1) * 3 - 3 = i * 3 by omega, show (i + 1) * 3 + 1 - 3 = i * 3 + 1 by omega, show (i + 1) * 3 + 2 - 3 = i * 3 + 2 by omega]
/-- a store of a whole transaction -/
theorem OwnT.put {w : World} {B lim g n c i : Nat} {ps : List PT} (h : OwnT w B lim (.slice (some ⟨g, 0, none⟩) n c) ps) (hi : i < ps.length) (q : PT) (hq : Own3 w B 34 (.slice q.A q.ops.length q.c) q.ops) (hql : ∀ a, q.A = some a → a.block < lim) :
    OwnT (((w.setCell ⟨g, i * 3, none⟩ (.int .i64 q.s)).setCell ⟨g, i * 3 + 1, none⟩ (.slice q.A q.ops.length q.c)).setCell ⟨g, i * 3 + 2, none⟩ (.bool q.d)) B lim (.slice (some ⟨g, 0, none⟩) n c) (ps.set i q) := by
  have hg3 : w.grownBy (((w.setCell ⟨g, i * 3, none⟩ (.int .i64 q.s)).setCell ⟨g, i * 3 + 1, none⟩ (.slice q.A q.ops.length q.c)).setCell ⟨g, i * 3 + 2, none⟩ (.bool q.d)) (some g) := grown_trans (grown_trans (grown_set _) (grown_set _)) (grown_set _)
  refine ⟨?_, fun p hp => ?_⟩
  · rw [List.length_set]
    refine ⟨by rw [flatP_len, List.length_set], ?_⟩
    rcases h.1.2 with ⟨hv, hn⟩ | ⟨g', cap, cur, hv, hb, hg, hle, hm, hs, ht⟩
    · cases hv
    · cases hv
      refine .inr ⟨g, c, _, rfl, hb, ((Blk.set_ (show Blk w g _ cur from hg) (i * 3) _).set_ (i * 3 + 1) _).set_ (i * 3 + 2) _, hle, hm, by simpa using hs, ?_⟩
      rw [Array.toList_setIfInBounds, Array.toList_setIfInBounds, Array.toList_setIfInBounds, List.take_set, List.take_set, List.take_set, ht, flatP_set q ps i hi]
  · rcases List.mem_or_eq_of_mem_set hp with hp | rfl
    · exact ⟨World.ownsRow.kept (h.2 p hp).1 hg3 (own_ne (h.2 p hp).1 h.1 (by decide)), (h.2 p hp).2⟩
    · exact ⟨World.ownsRow.kept hq hg3 (own_ne hq h.1 (by decide)), hql⟩
/-- transactions of nothing -/
def zeroT : PT := ⟨0, none, 0, [], false⟩
theorem OwnT.zeros (w : World) {B lim : Nat} (cs : Array Value) (hcs : cs.toList = flatP (List.replicate 7 zeroT)) (hb : B ≤ w.heap.size) : OwnT (w.alloc (.cells cs 32)) B lim (.slice (some ⟨w.heap.size, 0, none⟩) 7 7) (List.replicate 7 zeroT) := by
  have hz : cs.size = 7 * 3 := by rw [← Array.length_toList, hcs, flatP_len]; rfl
  refine ⟨⟨by rw [flatP_len], .inr ⟨w.heap.size, 7, cs, rfl, hb, heap_alloc_new w _, Nat.le_refl _, by unfold maxLen; omega, hz, ?_⟩⟩, fun p hp => ?_⟩
  · rw [hcs, List.take_of_length_le (by rw [flatP_len]; simp)]
  · obtain rfl := List.eq_of_mem_replicate hp
    exact ⟨Own3.nil, fun a ha => by cases ha⟩
end Go.Proofs.YtdgfipoibnjhaaaDoor
