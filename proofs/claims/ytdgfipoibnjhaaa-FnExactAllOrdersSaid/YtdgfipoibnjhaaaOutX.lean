/-
  A slice of a call's own whose elements are lists of rows.
-/
import Derived.Test.YtdgfipoibnjhaaaLstO
import Derived.Test.YtdgfipoibnjhaaaPrm
namespace Go.Proofs.Ytdgfipoibnjhaaa
set_option linter.unusedSimpArgs false
set_option linter.unusedVariables false
set_option maxRecDepth 100000
open Go.RowKit

/-- rows handed over, with their place -/
structure PX where
  A : Option Addr
  c : Nat
  ps : List PR
def PX.cell (p : PX) : Value := .slice p.A p.ps.length p.c
def PX.rows (p : PX) : List (List Int) := p.ps.map PR.xs
def flatX (es : List PX) : List Value := es.map PX.cell
/-- rows in memory, their blocks in S -/
def InX (w : World) (S : Nat → Prop) (p : PX) : Prop := ∀ j q, p.ps[j]? = some q → ∃ g off, p.A = some ⟨g, off, none⟩ ∧ S g ∧ g < w.heap.size ∧ w.cell? ⟨g, off + j, none⟩ = some q.cell ∧ Ints S w q.A q.xs
section
variable {w w' : World} {S S' : Nat → Prop} {p : PX}
theorem InX.keep (h : InX w S p) (hz : w.heap.size ≤ w'.heap.size) (hk : ∀ a : Addr, S a.block → a.block < w.heap.size → w'.cell? a = w.cell? a) : InX w' S p := fun j q hq => by
  obtain ⟨g, off, h1, h2, h3, h4, h5⟩ := h j q hq
  exact ⟨g, off, h1, h2, Nat.lt_of_lt_of_le h3 hz, (hk ⟨g, off + j, none⟩ h2 h3).trans h4, SlAt.keep h5 (kept_int _ _) hz hk⟩
theorem InX.mono (h : InX w S p) (hS : ∀ b, S b → b < w.heap.size → S' b) : InX w S' p := fun j q hq => by
  obtain ⟨g, off, h1, h2, h3, h4, h5⟩ := h j q hq
  exact ⟨g, off, h1, hS g h2 h3, h3, h4, SlAt.mono h5 hS (fun _ _ h => h)⟩
theorem InX.ext (h : InX w S p) (hE : Ext w w') : InX w' S p := h.keep hE.size hE.cells
theorem InX.grown {row : Option Nat} (h : InX w S p) (hg : w.grownBy w' row) (hn : ∀ b, S b → some b ≠ row) : InX w' S p :=
  h.keep hg.size (fun a ha hl => World.cell?_of_block (hg.block a.block hl (hn _ ha)))
theorem InX.rows2 (h : InX w S p) : Rows2 S w p.A p.rows := fun i x hx => by
  unfold PX.rows at hx
  rw [List.getElem?_map] at hx
  obtain ⟨q, hq, rfl⟩ := Option.map_eq_some_iff.1 hx
  obtain ⟨g, off, h1, h2, h3, h4, h5⟩ := h i q hq
  refine ⟨g, off, _, h1, h2, h3, rfl, ⟨q.A, q.c, rfl, h5⟩, fun j u hu => ?_⟩
  match j, hu with
  | 0, hu => cases hu; simpa [PR.cell] using h4
  | j + 1, hu => simp at hu
end
/-- the slice v of a call's own holds the elements es, none of them in v's own block -/
structure OutX (w : World) (B : Nat) (v : Value) (es : List PX) : Prop where
  out : w.ownsRow B 41 1 v es.length (flatX es)
  row : ∀ p ∈ es, InX w (fun b => B ≤ b ∧ some b ≠ v.ownBlock) p
section
variable {w w' : World} {B : Nat} {v : Value} {es : List PX}
theorem OutX.lt (h : OutX w B v es) : ∀ g, v.ownBlock = some g → B ≤ g ∧ g < w.heap.size := fun g hg => World.ownsRow.lt h.out g hg
theorem OutX.ext (h : OutX w B v es) (hE : Ext w w') : OutX w' B v es :=
  ⟨World.ownsRow.kept (row := none) h.out (grown_ext hE _) (by cases v.ownBlock <;> simp), fun p hp => (h.row p hp).ext hE⟩
theorem OutX.below (h : OutX w B v es) {B' : Nat} (hb : B' ≤ B) : OutX w B' v es := by
  refine ⟨⟨h.out.1, ?_⟩, fun p hp => (h.row p hp).mono (fun b h1 _ => ⟨Nat.le_trans hb h1.1, h1.2⟩)⟩
  rcases h.out.2 with h2 | ⟨g, cap, cur, hv, hg, r⟩
  · exact .inl h2
  · exact .inr ⟨g, cap, cur, hv, by omega, r⟩
theorem OutX.made (w : World) {B : Nat} (cur : Array Value) (cap : Nat) (hb : B ≤ w.heap.size) (hm : cap ≤ 1048576) (hs : cur.size = cap * 1) : OutX (w.alloc (.cells cur 41)) B (.slice (some ⟨w.heap.size, 0, none⟩) 0 cap) [] :=
  ⟨World.ownsRow_made _ _ _ hb (by unfold maxLen; omega) hs, fun p hp => by cases hp⟩
theorem OutX.nil : OutX w B (.slice none 0 0) [] := ⟨World.ownsRow_nil _ _ _ _, fun p hp => by cases hp⟩
/-- a new slice with its first element -/
theorem OutX.one (w : World) {B : Nat} (p : PX) (hb : B ≤ w.heap.size) (hp : InX w (fun b => B ≤ b) p) : OutX (w.alloc (.cells #[p.cell] 41)) B (.slice (some ⟨w.heap.size, 0, none⟩) 1 1) [p] := by
  refine ⟨?_, fun q hq => ?_⟩
  · exact ⟨rfl, .inr ⟨w.heap.size, 1, #[p.cell], rfl, hb, heap_alloc_new w _, Nat.le_refl _, by unfold maxLen; omega, rfl, rfl⟩⟩
  · obtain rfl := List.mem_singleton.1 hq
    have h4 : InX w (fun b => B ≤ b ∧ some b ≠ some w.heap.size) q := hp.mono (fun b h1 hl => ⟨h1, fun e => by
      injection e with e
      omega⟩)
    exact h4.ext (Below.alloc (Below.refl _ _) (Nat.le_refl _) _)
theorem OutX.reads (h : OutX w B v es) : ∃ A c, v = .slice A es.length c ∧ es.length ≤ c ∧ Rows3 (fun b => B ≤ b) w A (es.map PX.rows) := by
  rcases h.out.2 with ⟨rfl, hn⟩ | ⟨g, cap, cur, rfl, hB, hg, hle, hm, hs, ht⟩
  · obtain rfl : es = [] := List.eq_nil_of_length_eq_zero hn
    exact ⟨none, 0, rfl, Nat.le_refl _, SlAt.nil⟩
  · have hlt : g < w.heap.size := (Array.getElem?_eq_some_iff.1 hg).1
    refine ⟨some ⟨g, 0, none⟩, cap, rfl, hle, fun i x hx => ?_⟩
    rw [List.getElem?_map] at hx
    obtain ⟨p, hp, rfl⟩ := Option.map_eq_some_iff.1 hx
    have hil : i < es.length := (List.getElem?_eq_some_iff.1 hp).1
    have hr := (h.row p (List.mem_of_getElem? hp)).rows2
    refine ⟨g, 0, [p.cell], rfl, hB, hlt, rfl, ⟨p.A, p.c, ?_, SlAt.mono hr (fun b hb _ => hb.1) (mono_row (fun b hb _ => hb.1))⟩, fun j u hu => ?_⟩
    · unfold PX.cell PX.rows
      rw [List.length_map]
    match j, hu with
    | 0, hu =>
      cases hu
      have h1 : (flatX es)[i]? = some p.cell := by simp [flatX, hp]
      rw [show 0 + i * 1 + 0 = i by omega, cell_of_row w g _ cur _ (0, 0) hg, ← h1, ← ht, List.getElem?_take, if_pos (by omega)]
      simp
    | j + 1, hu => simp at hu
/-- an element more -/
theorem OutX.push {v' : Value} {p : PX} (hown : OutX w B v es) (hp : InX w (fun b => B ≤ b ∧ some b ≠ v.ownBlock) p) (h1 : w'.ownsRow B 41 1 v' (es.length + 1) (flatX es ++ [p.cell])) (h2 : w.grownBy w' v.ownBlock) (h3 : v'.ownBlock = v.ownBlock ∨ v'.ownBlock = some w.heap.size) : OutX w' B v' (es ++ [p]) := by
  have new : ∀ q : PX, InX w (fun b => B ≤ b ∧ some b ≠ v.ownBlock) q → InX w' (fun b => B ≤ b ∧ some b ≠ v'.ownBlock) q := fun q hq => by
    have h4 : InX w (fun b => (B ≤ b ∧ some b ≠ v.ownBlock) ∧ some b ≠ v'.ownBlock) q := hq.mono (fun b hb hl => ⟨hb, fun e => by
      rcases h3 with h3 | h3
      · exact hb.2 (e.trans h3)
      · rw [h3] at e
        injection e with e
        omega⟩)
    exact (h4.grown h2 (fun b hb => hb.1.2)).mono (fun b hb _ => ⟨hb.1.1, hb.2⟩)
  refine ⟨?_, fun q hq => ?_⟩
  · rw [show flatX (es ++ [p]) = flatX es ++ [p.cell] by simp [flatX], List.length_append]
    exact h1
  · rcases List.mem_append.1 hq with hq | hq
    · exact new q (hown.row q hq)
    · obtain rfl := List.mem_singleton.1 hq
      exact new q hp
end
theorem OwnR.push {w w' : World} {B : Nat} {v v' : Value} {ps : List PR} {p : PR} (hown : OwnR w B v ps) (hp : RowIn w B p) (hp2 : ∀ a, p.A = some a → some a.block ≠ v.ownBlock) (hp3 : ∀ q ∈ ps, ∀ a b, p.A = some a → q.A = some b → b.block ≠ a.block) (h1 : w'.ownsRow B 39 1 v' (ps.length + 1) (flatR ps ++ [p.cell])) (h2 : w.grownBy w' v.ownBlock) (h3 : v'.ownBlock = v.ownBlock ∨ v'.ownBlock = some w.heap.size) : OwnR w' B v' (ps ++ [p]) := by
  have new : ∀ q : PR, RowIn w B q → (∀ a, q.A = some a → some a.block ≠ v.ownBlock) → RowIn w' B q ∧ ∀ a, q.A = some a → some a.block ≠ v'.ownBlock := fun q hq hq2 => by
    refine ⟨hq.grown h2 (fun a ha => hq2 a ha), fun a ha he => ?_⟩
    rcases h3 with h3 | h3
    · exact hq2 a ha (he.trans h3)
    · rw [h3] at he
      have := (hq.2 a ha).2.1
      injection he with he
      omega
  refine ⟨?_, fun q hq => ?_, fun i j q1 q2 a1 a2 hij h1 h2 ha1 ha2 => ?_⟩
  · rw [show flatR (ps ++ [p]) = flatR ps ++ [p.cell] by simp [flatR], List.length_append]
    exact h1
  · rcases List.mem_append.1 hq with hq | hq
    · exact new q (hown.row q hq).1 (hown.row q hq).2
    · obtain rfl := List.mem_singleton.1 hq
      exact new q hp hp2
  · have hj : j < (ps ++ [p]).length := (List.getElem?_eq_some_iff.1 h2).1
    rw [List.length_append, List.length_singleton] at hj
    rw [List.getElem?_append_left (by omega)] at h1
    rcases Nat.lt_or_ge j ps.length with hjl | hjl
    · rw [List.getElem?_append_left hjl] at h2
      exact hown.apart i j q1 q2 a1 a2 hij h1 h2 ha1 ha2
    · rw [List.getElem?_append_right hjl, show j - ps.length = 0 by omega] at h2
      cases h2
      exact hp3 q1 (List.mem_of_getElem? h1) a2 a1 ha2 ha1
theorem infoRows : (Try.prog.info? 41).map (fun i => (i.zero, i.size, i.bytes)) = some (some (.slice none 0 0), 1, 24) := by kernel_rfl
/-- append of one element -/
theorem wpList_appendX {P : Program} (w : World) {ops : Array Oper} {rest : List Oper} {o : Oper} {a : Act} {Q : Exit → Act → World → Prop} (hgd : o.guard = none) (s x : Operand) (t : TypeId)
    (ho : o.op = .call { callee := .builtin .append, args := #[s, x], argTypes := #[t, t] })
    {z : Value} (ht : P.underlying t = some (.slice 41)) (hinfo : (P.info? 41).map (fun i => (i.zero, i.size, i.bytes)) = some (some z, 1, 24)) (hzs : z.cells.size = 1)
    (B : Nat) (v : Value) (es : List PX) (hs : a.eval s = v) (hown : OutX w B v es) (p : PX) (hp : InX w (fun b => B ≤ b ∧ some b ≠ v.ownBlock) p)
    (g : Nat) (hx : a.eval x = .slice (some ⟨g, 0, none⟩) 1 1) (c0 : w.cell? ⟨g, 0, none⟩ = some p.cell)
    (hn : es.length ≤ 1048576) (hbase : B ≤ w.heap.size)
    (h : ∀ v' w', OutX w' B v' (es ++ [p]) → w.grownBy w' v.ownBlock → (v'.ownBlock = v.ownBlock ∨ v'.ownBlock = some w.heap.size) → wpList P ops Q rest (a.put o.dst v') w') : wpList P ops Q (o :: rest) a w := by
  obtain ⟨i0, hi, hz0, hz1, hz2⟩ := info_parts hinfo
  refine wpList_append_own_at w hgd s x t ho B 41 i0 z 1 24 ht hi hz0 hz1 hz2 hzs (by decide) v es.length (flatX es) hs hown.out ⟨g, 0, none⟩ 1 1 [p.cell] hx rfl ?_ ?_ (by unfold maxLen; omega) (by omega) hbase ?_
  · intro j u hu
    match j, hu with
    | 0, hu => cases hu; exact c0
    | j + 1, hu => simp at hu
  · intro u hu
    simp at hu
    rcases hu with rfl
    rfl
  · intro v' w' h1 h2 _ h3
    exact h v' w' (hown.push hp h1 h2 h3) h2 h3
/-- append of one row, and where the new slice lies -/
theorem wpList_appendR_at {P : Program} (w : World) {ops : Array Oper} {rest : List Oper} {o : Oper} {a : Act} {Q : Exit → Act → World → Prop} (hgd : o.guard = none) (s x : Operand) (t : TypeId)
    (ho : o.op = .call { callee := .builtin .append, args := #[s, x], argTypes := #[t, t] })
    {z : Value} (ht : P.underlying t = some (.slice 39)) (hinfo : (P.info? 39).map (fun i => (i.zero, i.size, i.bytes)) = some (some z, 1, 24)) (hzs : z.cells.size = 1)
    (v : Value) (ps : List PR) (hs : a.eval s = v) {B : Nat} (hown : OwnR w B v ps) (p : PR) (hp : RowIn w B p) (hp2 : ∀ a, p.A = some a → some a.block ≠ v.ownBlock) (hp3 : ∀ q ∈ ps, ∀ a b, p.A = some a → q.A = some b → b.block ≠ a.block)
    (g : Nat) (hx : a.eval x = .slice (some ⟨g, 0, none⟩) 1 1) (c0 : w.cell? ⟨g, 0, none⟩ = some p.cell)
    (hn : ps.length ≤ 1048576) (hbase : B ≤ w.heap.size)
    (h : ∀ v' w', OwnR w' B v' (ps ++ [p]) → w.grownBy w' v.ownBlock → (v'.ownBlock = v.ownBlock ∨ v'.ownBlock = some w.heap.size) → wpList P ops Q rest (a.put o.dst v') w') : wpList P ops Q (o :: rest) a w := by
  obtain ⟨i0, hi, hz0, hz1, hz2⟩ := info_parts hinfo
  refine wpList_append_own_at w hgd s x t ho B 39 i0 z 1 24 ht hi hz0 hz1 hz2 hzs (by decide) v ps.length (flatR ps) hs hown.out ⟨g, 0, none⟩ 1 1 [p.cell] hx rfl ?_ ?_ (by unfold maxLen; omega) (by omega) hbase ?_
  · intro j u hu
    match j, hu with
    | 0, hu => cases hu; exact c0
    | j + 1, hu => simp at hu
  · intro u hu
    simp at hu
    rcases hu with rfl
    rfl
  · intro v' w' h1 h2 _ h3
    exact h v' w' (hown.push hp hp2 hp3 h1 h2 h3) h2 h3
/-- append of one element, inside a region that draws -/
theorem step_appX {ops : Array Oper} {o : Oper} {a : Act} {w : World} {K : Act → World → Prop} {Q : Exit → Act → World → Prop} {E : Prop} (hg : o.guard = none) (s x : Operand)
    (hop : o.op = Op.call { callee := Callee.builtin Builtin.append, args := #[s, x], argTypes := #[24, 24] }) (B : Nat) (v : Value) (hs : a.eval s = v) (es : List PX) (hown : OutX w B v es) (p : PX) (hp : InX w (fun b => B ≤ b ∧ some b ≠ v.ownBlock) p)
    (g : Nat) (hx : a.eval x = .slice (some ⟨g, 0, none⟩) 1 1) (c0 : w.cell? ⟨g, 0, none⟩ = some p.cell) (hn : es.length ≤ 1048576) (hbase : B ≤ w.heap.size)
    (hK : ∀ v' w', OutX w' B v' (es ++ [p]) → w.grownBy w' v.ownBlock → (v'.ownBlock = v.ownBlock ∨ v'.ownBlock = some w.heap.size) → K (a.put o.dst v') w') :
    if Region.wanted o (yielded ops a.tmps) = true then Oper.wp Try.prog o a w K Q else E := by
  obtain ⟨i0, hi, hz0, hz1, hz2⟩ := info_parts infoRows
  have hw : Region.wanted o (yielded ops a.tmps) = true := by simp [Region.wanted, hg]
  rw [if_pos hw]
  obtain ⟨v', w', hr, h2, h3, _, h5⟩ := run_append_own_at (P := Try.prog) w B 24 o.type 41 i0 _ 1 24 Try.underlying24 hi hz0 hz1 hz2 rfl (by decide) v es.length (flatX es) hown.out ⟨g, 0, none⟩ 1 1 [p.cell] rfl (fun j u hu => by
    match j, hu with
    | 0, hu => cases hu; exact c0
    | j + 1, hu => simp at hu) (fun u hu => by
    simp at hu
    rcases hu with rfl
    rfl) (by unfold maxLen; omega) (by omega) hbase
  unfold Oper.wp execOp
  simp only [hop, resolve, invoke, builtin, Sem.run_bind, Sem.run_pure, Result.andThen_ok, List.map_toArray, List.map_cons, List.map_nil, hs, hx, hr]
  exact hK _ _ (hown.push hp h2 h3 h5) h3 h5
/-- append of one row, inside a region that draws -/
theorem step_appRow {ops : Array Oper} {o : Oper} {a : Act} {w : World} {K : Act → World → Prop} {Q : Exit → Act → World → Prop} {E : Prop} (hg : o.guard = none) (s x : Operand)
    (hop : o.op = Op.call { callee := Callee.builtin Builtin.append, args := #[s, x], argTypes := #[41, 41] }) (B : Nat) (v : Value) (hs : a.eval s = v) (ps : List PR) (hown : OwnR w B v ps) (p : PR) (hp : RowIn w B p) (hp2 : ∀ a, p.A = some a → some a.block ≠ v.ownBlock) (hp3 : ∀ q ∈ ps, ∀ a b, p.A = some a → q.A = some b → b.block ≠ a.block)
    (g : Nat) (hx : a.eval x = .slice (some ⟨g, 0, none⟩) 1 1) (c0 : w.cell? ⟨g, 0, none⟩ = some p.cell) (hn : ps.length ≤ 1048576) (hbase : B ≤ w.heap.size)
    (hK : ∀ v' w', OwnR w' B v' (ps ++ [p]) → w.grownBy w' v.ownBlock → (v'.ownBlock = v.ownBlock ∨ v'.ownBlock = some w.heap.size) → K (a.put o.dst v') w') :
    if Region.wanted o (yielded ops a.tmps) = true then Oper.wp Try.prog o a w K Q else E := by
  obtain ⟨i0, hi, hz0, hz1, hz2⟩ := info_parts infoRow
  have hw : Region.wanted o (yielded ops a.tmps) = true := by simp [Region.wanted, hg]
  rw [if_pos hw]
  obtain ⟨v', w', hr, h2, h3, _, h5⟩ := run_append_own_at (P := Try.prog) w B 41 o.type 39 i0 _ 1 24 Try.underlying41 hi hz0 hz1 hz2 rfl (by decide) v ps.length (flatR ps) hown.out ⟨g, 0, none⟩ 1 1 [p.cell] rfl (fun j u hu => by
    match j, hu with
    | 0, hu => cases hu; exact c0
    | j + 1, hu => simp at hu) (fun u hu => by
    simp at hu
    rcases hu with rfl
    rfl) (by unfold maxLen; omega) (by omega) hbase
  unfold Oper.wp execOp
  simp only [hop, resolve, invoke, builtin, Sem.run_bind, Sem.run_pure, Result.andThen_ok, List.map_toArray, List.map_cons, List.map_nil, hs, hx, hr]
  exact hK _ _ (hown.push hp hp2 hp3 h2 h3 h5) h3 h5
end Go.Proofs.Ytdgfipoibnjhaaa
