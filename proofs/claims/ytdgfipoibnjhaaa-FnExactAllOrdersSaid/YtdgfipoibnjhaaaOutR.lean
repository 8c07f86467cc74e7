/-
  A slice of a call's own whose elements are rows that lie in a set of blocks.
-/
import Derived.Test.YtdgfipoibnjhaaaPermS
namespace Go.Proofs.Ytdgfipoibnjhaaa
set_option linter.unusedSimpArgs false
set_option linter.unusedVariables false
set_option maxRecDepth 100000
open Go.RowKit

/-- the slice v of a call's own holds the rows ps, these in blocks of S, none in v's own -/
structure OutR (w : World) (B : Nat) (S : Nat → Prop) (v : Value) (ps : List PR) : Prop where
  out : w.ownsRow B 39 1 v ps.length (flatR ps)
  row : ∀ q ∈ ps, Ints (fun b => S b ∧ some b ≠ v.ownBlock) w q.A q.xs
section
variable {w w' : World} {B : Nat} {S : Nat → Prop} {v : Value} {ps : List PR}
theorem OutR.lt (h : OutR w B S v ps) : ∀ g, v.ownBlock = some g → B ≤ g ∧ g < w.heap.size := fun g hg => World.ownsRow.lt h.out g hg
theorem OutR.ext (h : OutR w B S v ps) (hE : Ext w w') : OutR w' B S v ps :=
  ⟨World.ownsRow.kept (row := none) h.out (grown_ext hE _) (by cases v.ownBlock <;> simp), fun q hq => Ints.ext (h.row q hq) hE⟩
theorem OutR.made (w : World) {B : Nat} (S : Nat → Prop) (cur : Array Value) (cap : Nat) (hb : B ≤ w.heap.size) (hm : cap ≤ 1048576) (hs : cur.size = cap * 1) : OutR (w.alloc (.cells cur 39)) B S (.slice (some ⟨w.heap.size, 0, none⟩) 0 cap) [] :=
  ⟨World.ownsRow_made _ _ _ hb (by unfold maxLen; omega) hs, fun p hp => by cases hp⟩
theorem OutR.push {v' : Value} {p : PR} (hown : OutR w B S v ps) (hp : Ints (fun b => S b ∧ some b ≠ v.ownBlock) w p.A p.xs) (h1 : w'.ownsRow B 39 1 v' (ps.length + 1) (flatR ps ++ [p.cell])) (h2 : w.grownBy w' v.ownBlock) (h3 : v'.ownBlock = v.ownBlock ∨ v'.ownBlock = some w.heap.size) : OutR w' B S v' (ps ++ [p]) := by
  have new : ∀ q : PR, Ints (fun b => S b ∧ some b ≠ v.ownBlock) w q.A q.xs → Ints (fun b => S b ∧ some b ≠ v'.ownBlock) w' q.A q.xs := fun q hq => by
    have h4 : Ints (fun b => (S b ∧ some b ≠ v.ownBlock) ∧ some b ≠ v'.ownBlock) w q.A q.xs := SlAt.mono hq (fun b hb hl => ⟨hb, fun e => by
      rcases h3 with h3 | h3
      · exact hb.2 (e.trans h3)
      · rw [h3] at e
        injection e with e
        omega⟩) (fun _ _ h => h)
    exact SlAt.mono (Ints.grown h4 h2 (fun b hb _ => hb.1.2)) (fun b hb _ => ⟨hb.1.1, hb.2⟩) (fun _ _ h => h)
  refine ⟨?_, fun q hq => ?_⟩
  · rw [show flatR (ps ++ [p]) = flatR ps ++ [p.cell] by simp [flatR], List.length_append]
    exact h1
  · rcases List.mem_append.1 hq with hq | hq
    · exact new q (hown.row q hq)
    · obtain rfl := List.mem_singleton.1 hq
      exact new q hp
/-- .. read, where its own block is in a set, too -/
theorem OutR.inx {T : Nat → Prop} (h : OutR w B S v ps) (hS : ∀ b, S b → T b) (hv : ∀ g, v.ownBlock = some g → T g) : ∃ A c, v = .slice A ps.length c ∧ ps.length ≤ c ∧ InX w T ⟨A, c, ps⟩ := by
  rcases h.out.2 with ⟨rfl, hn⟩ | ⟨g, cap, cur, rfl, hB, hg, hle, hm, hs, ht⟩
  · obtain rfl : ps = [] := List.eq_nil_of_length_eq_zero hn
    exact ⟨none, 0, rfl, Nat.le_refl _, fun j q hq => by simp at hq⟩
  · have hlt : g < w.heap.size := (Array.getElem?_eq_some_iff.1 hg).1
    refine ⟨some ⟨g, 0, none⟩, cap, rfl, hle, fun j q hq => ?_⟩
    have hjl : j < ps.length := (List.getElem?_eq_some_iff.1 hq).1
    refine ⟨g, 0, rfl, hv g rfl, hlt, ?_, SlAt.mono (h.row q (List.mem_of_getElem? hq)) (fun b hb _ => hS b hb.1) (fun _ _ h => h)⟩
    have h1 : (flatR ps)[j]? = some q.cell := by simp [flatR, hq]
    rw [show 0 + j = j by omega, cell_of_row w g _ cur _ (0, 0) hg, ← h1, ← ht, List.getElem?_take, if_pos (by omega)]
    simp
end
/-- append of one row -/
theorem wpList_appendO {P : Program} (w : World) {ops : Array Oper} {rest : List Oper} {o : Oper} {a : Act} {Q : Exit → Act → World → Prop} (hgd : o.guard = none) (s x : Operand) (t : TypeId)
    (ho : o.op = .call { callee := .builtin .append, args := #[s, x], argTypes := #[t, t] })
    {z : Value} (ht : P.underlying t = some (.slice 39)) (hinfo : (P.info? 39).map (fun i => (i.zero, i.size, i.bytes)) = some (some z, 1, 24)) (hzs : z.cells.size = 1)
    (B : Nat) (S : Nat → Prop) (v : Value) (ps : List PR) (hs : a.eval s = v) (hown : OutR w B S v ps) (p : PR) (hp : Ints (fun b => S b ∧ some b ≠ v.ownBlock) w p.A p.xs)
    (g : Nat) (hx : a.eval x = .slice (some ⟨g, 0, none⟩) 1 1) (c0 : w.cell? ⟨g, 0, none⟩ = some p.cell)
    (hn : ps.length ≤ 1048576) (hbase : B ≤ w.heap.size)
    (h : ∀ v' w', OutR w' B S v' (ps ++ [p]) → w.grownBy w' v.ownBlock → (v'.ownBlock = v.ownBlock ∨ v'.ownBlock = some w.heap.size) → wpList P ops Q rest (a.put o.dst v') w') : wpList P ops Q (o :: rest) a w := by
  obtain ⟨i0, hi, hz0, hz1, hz2⟩ := info_parts hinfo
  refine wpList_append_own_at w hgd s x t ho B 39 i0 z 1 24 ht hi hz0 hz1 hz2 hzs (by decide) v ps.length (flatR ps) hs hown.out ⟨g, 0, none⟩ 1 1 [p.cell] hx rfl ?_ ?_ (by unfold maxLen; omega) (by omega) hbase ?_
  · intro j u hu
    match j, hu with
    | 0, hu => cases hu; exact c0
    | j + 1, hu => simp at hu
  · intro u hu
    simp at hu
    rcases hu with rfl
    rfl
  · intro v' w' h1 h2 _ h3
    exact h v' w' (hown.push hp h1 h2 h3) h2 h3
/-- append of one row, inside a region that draws -/
theorem step_appO {ops : Array Oper} {o : Oper} {a : Act} {w : World} {K : Act → World → Prop} {Q : Exit → Act → World → Prop} {E : Prop} (hg : o.guard = none) (s x : Operand)
    (hop : o.op = Op.call { callee := Callee.builtin Builtin.append, args := #[s, x], argTypes := #[41, 41] }) (B : Nat) (S : Nat → Prop) (v : Value) (hs : a.eval s = v) (ps : List PR) (hown : OutR w B S v ps) (p : PR) (hp : Ints (fun b => S b ∧ some b ≠ v.ownBlock) w p.A p.xs)
    (g : Nat) (hx : a.eval x = .slice (some ⟨g, 0, none⟩) 1 1) (c0 : w.cell? ⟨g, 0, none⟩ = some p.cell) (hn : ps.length ≤ 1048576) (hbase : B ≤ w.heap.size)
    (hK : ∀ v' w', OutR w' B S v' (ps ++ [p]) → w.grownBy w' v.ownBlock → (v'.ownBlock = v.ownBlock ∨ v'.ownBlock = some w.heap.size) → K (a.put o.dst v') w') :
    if Region.wanted o (yielded ops a.tmps) = true then Oper.wp Try.prog o a w K Q else E := by
  obtain ⟨i0, hi, hz0, hz1, hz2⟩ := info_parts infoRow
  have hw : Region.wanted o (yielded ops a.tmps) = true := by simp [Region.wanted, hg]
  rw [if_pos hw]
  obtain ⟨v', w', hr, h2, h3, _, h5⟩ := run_append_own_at (P := Try.prog) w B 41 o.type 39 i0 _ 1 24 Try.underlying41 hi hz0 hz1 hz2 rfl (by decide) v ps.length (flatR ps) hown.out ⟨g, 0, none⟩ 1 1 [p.cell] rfl (fun j u hu => by
    match j, hu with
    | 0, hu => cases hu; exact c0
    | j + 1, hu => simp at hu) (fun u hu => by
    simp at hu
    rcases hu with rfl
    rfl) (by unfold maxLen; omega) (by omega) hbase
  unfold Oper.wp execOp
  simp only [hop, resolve, invoke, builtin, Sem.run_bind, Sem.run_pure, Result.andThen_ok, List.map_toArray, List.map_cons, List.map_nil, hs, hx, hr]
  exact hK _ _ (hown.push hp h2 h3 h5) h3 h5
theorem own1_blk {w : World} {B : Nat} {e : TypeId} {v : Value} {xs : List Int} (h : Own1 w B e v xs) (hg : ∃ g, v.ownBlock = some g) : ∃ g c, v = .slice (some ⟨g, 0, none⟩) xs.length c ∧ B ≤ g ∧ Ints (fun b => B ≤ b) w (some ⟨g, 0, none⟩) xs ∧ xs.length ≤ c := by
  obtain ⟨A, c, rfl, hI, hle⟩ := own1_capF h
  obtain ⟨g, hg⟩ := hg
  rcases h.2 with ⟨hv, _⟩ | ⟨g', cap, cur, hv, hB, _⟩
  · simp only [Value.slice.injEq] at hv
    rw [hv.1] at hg
    cases hg
  · simp only [Value.slice.injEq] at hv
    obtain ⟨rfl, _, _⟩ := hv
    exact ⟨g', c, rfl, hB, hI, hle⟩
/-- rows of every element have a block -/
def HasX (es : List PX) : Prop := ∀ p ∈ es, ∀ q ∈ p.ps, ∃ g, q.A = some ⟨g, 0, none⟩
theorem HasX.nil : HasX [] := fun p hp => by cases hp
theorem HasX.app {es : List PX} {p : PX} (h : HasX es) (hp : ∀ q ∈ p.ps, ∃ g, q.A = some ⟨g, 0, none⟩) : HasX (es ++ [p]) := fun q hq => by
  rcases List.mem_append.1 hq with hq | hq
  · exact h q hq
  · obtain rfl := List.mem_singleton.1 hq
    exact hp
/-- the elements' cells -/
theorem OutX.cells {w : World} {B : Nat} {v : Value} {es : List PX} (h : OutX w B v es) : ∃ A c, v = .slice A es.length c ∧ es.length ≤ c ∧ ∀ i p, es[i]? = some p → ∃ g, A = some ⟨g, 0, none⟩ ∧ B ≤ g ∧ g < w.heap.size ∧ w.cell? ⟨g, i, none⟩ = some p.cell ∧ InX w (fun b => B ≤ b) p := by
  rcases h.out.2 with ⟨rfl, hn⟩ | ⟨g, cap, cur, rfl, hB, hg, hle, hm, hs, ht⟩
  · obtain rfl : es = [] := List.eq_nil_of_length_eq_zero hn
    exact ⟨none, 0, rfl, Nat.le_refl _, fun j q hq => by simp at hq⟩
  · have hlt : g < w.heap.size := (Array.getElem?_eq_some_iff.1 hg).1
    refine ⟨some ⟨g, 0, none⟩, cap, rfl, hle, fun j q hq => ?_⟩
    have hjl : j < es.length := (List.getElem?_eq_some_iff.1 hq).1
    refine ⟨g, rfl, hB, hlt, ?_, (h.row q (List.mem_of_getElem? hq)).mono (fun b hb _ => hb.1)⟩
    have h1 : (flatX es)[j]? = some q.cell := by simp [flatX, hq]
    rw [cell_of_row w g _ cur _ (0, 0) hg, ← h1, ← ht, List.getElem?_take, if_pos (by omega)]
    simp
/-- an append to elements of the call's own leaves what lies apart from them -/
theorem step_outX {lo hi B : Nat} {wb wr W1 w3 : World} {u v3 : Value} {es : List PX} {p8 : PX} (hQ : OutX wr B u es) (hB : wb.heap.size ≤ B) (hi8 : InX W1 (fun b => lo ≤ b ∧ b < hi) p8) (ho : ∀ g, u.ownBlock = some g → g < lo ∨ hi ≤ g) (hg : W1.grownBy w3 u.ownBlock)
    (hat : v3.ownBlock = u.ownBlock ∨ v3.ownBlock = some W1.heap.size) (hE : Ext wb W1) (hz : hi ≤ W1.heap.size) : InX w3 (fun b => lo ≤ b ∧ b < hi) p8 ∧ (∀ g, v3.ownBlock = some g → g < lo ∨ hi ≤ g) ∧ Ext wb w3 ∧ hi ≤ w3.heap.size := by
  have h2 := hg.size
  have h3 := hE.size
  refine ⟨hi8.grown hg (fun b hb e => ?_), fun g hgg => ?_, Below.grown hE hg h3 (fun g e => Nat.le_trans hB (hQ.lt g e).1), by omega⟩
  · have := ho b e.symm
    omega
  · rcases hat with e | e
    · exact ho g (e ▸ hgg)
    · rw [e] at hgg
      have := Option.some.inj hgg
      omega
end Go.Proofs.Ytdgfipoibnjhaaa
