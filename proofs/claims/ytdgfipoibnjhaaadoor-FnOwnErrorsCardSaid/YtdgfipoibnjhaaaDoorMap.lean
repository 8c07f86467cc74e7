/-
  Maps that a call makes for itself: what a block holds as a function of the keys, and the laws of look-ups and stores.
-/
import Derived.Test.YtdgfipoibnjhaaaDoorCopy
import Derived.Laws.StructEq
import Derived.Maps.OwnOps
import Derived.Carry
namespace Go.Proofs.YtdgfipoibnjhaaaDoor
set_option linter.unusedSimpArgs false
set_option linter.unusedVariables false
set_option maxRecDepth 100000
open Go.RowKit Go.Instr

/-- what is asked of a key's type: ek lays a key out as a value -/
structure KeyLaw {κ : Type} [DecidableEq κ] (P : Program) (kt : TypeId) (ek : κ → Value) : Prop where
  check : ∀ (e : Bool) (k : κ) (w : World), (checkKey e 10000 kt (ek k)).run P w = .ok () w
  find : ∀ (k : κ) (es : List MapEntry) (kvs : List (κ × Value)) (w : World), es.map (fun e => (e.key, e.val)) = kvs.map (fun p => (ek p.1, p.2)) →
    ∃ r, (findKey kt (ek k) es).run P w = .ok r w ∧ (r = none → ∀ p ∈ kvs, p.1 ≠ k) ∧ (∀ i v, r = some (i, v) → ∃ h : i < kvs.length, kvs[i] = (k, v) ∧ ∀ j (hj : j < i), (kvs[j]'(by omega)).1 ≠ k)
  same : ∀ k : κ, sameBits 10000 (ek k) (ek k) = true

section
variable {κ : Type} [DecidableEq κ] {P : Program} {kt : TypeId} {ek : κ → Value}

/-- block b is a map that holds f -/
def MapF (ek : κ → Value) (w : World) (b : Nat) (f : κ → Option Value) (n : Nat) : Prop :=
  ∃ es clk, ∃ kvs : List (κ × Value), w.heap[b]? = some (.map es clk) ∧ es.toList.map (fun e => (e.key, e.val)) = kvs.map (fun p => (ek p.1, p.2)) ∧ (∀ k, (kvs.find? (fun p => decide (p.1 = k))).map (·.2) = f k) ∧ kvs.length ≤ n

theorem MapF.made (w : World) : MapF ek (w.alloc (.map #[] 0)) w.heap.size (fun _ => none) 0 := ⟨#[], 0, [], (MapKept.heap_alloc w _).1, rfl, (fun _ => rfl), Nat.le_refl _⟩
theorem MapF.lt {w : World} {b : Nat} {f : κ → Option Value} {n : Nat} (h : MapF ek w b f n) : b < w.heap.size := by
  obtain ⟨es, clk, kvs, hb, _⟩ := h
  rcases Nat.lt_or_ge b w.heap.size with hlt | hge
  · exact hlt
  · rw [Array.getElem?_eq_none hge] at hb; cases hb
theorem MapF.ext {w w' : World} {b : Nat} {f : κ → Option Value} {n : Nat} (h : MapF ek w b f n) (hb : Ext w w') : MapF ek w' b f n := by
  have hlt := h.lt
  obtain ⟨es, clk, kvs, h0, h1, h2, h3⟩ := h
  exact ⟨es, clk, kvs, (hb.block b hlt).trans h0, h1, h2, h3⟩
theorem MapF.keep {w w' : World} {b : Nat} {f : κ → Option Value} {n : Nat} (h : MapF ek w b f n) (hb : w'.heap[b]? = w.heap[b]?) : MapF ek w' b f n := by
  obtain ⟨es, clk, kvs, h0, h1, h2, h3⟩ := h
  exact ⟨es, clk, kvs, hb.trans h0, h1, h2, h3⟩
theorem MapF.grown {w w' : World} {b : Nat} {f : κ → Option Value} {n : Nat} {row : Option Nat} (h : MapF ek w b f n) (hg : w.grownBy w' row) (hne : some b ≠ row) : MapF ek w' b f n :=
  h.keep (hg.block b h.lt hne)

theorem find_at {kvs : List (κ × Value)} {k : κ} {v : Value} {i : Nat} (h : i < kvs.length) (he : kvs[i] = (k, v)) (hj : ∀ j (hj : j < i), (kvs[j]'(by omega)).1 ≠ k) : (kvs.find? (fun p => decide (p.1 = k))).map (·.2) = some v := by
  induction kvs generalizing i with
  | nil => simp at h
  | cons p ps ih =>
    cases i with
    | zero => simp at he; subst he; simp
    | succ i =>
      have h0 := hj 0 (by omega)
      simp at h0
      rw [List.find?_cons_of_neg (by simpa using h0)]
      exact ih (i := i) (by simpa using h) (by simpa using he) (fun j hj' => by simpa using hj (j + 1) (by omega))
theorem find_none {kvs : List (κ × Value)} {k : κ} (h : ∀ p ∈ kvs, p.1 ≠ k) : (kvs.find? (fun p => decide (p.1 = k))).map (·.2) = none := by
  rw [List.find?_eq_none.2 (fun p hp => by simpa using h p hp)]; rfl

theorem MapF.look {w : World} {b : Nat} {f : κ → Option Value} {n : Nat} (h : MapF ek w b f n) (L : KeyLaw P kt ek) {t et : TypeId} (ht : P.underlying t = some (.map kt et)) {z : Value} (hz : ∀ W, (zeroValue et).run P W = .ok z W) (k : κ) (ok : Bool) :
    (Instr.lookup t (.map (some b)) (ek k) ok).run P w = .ok (if ok = true then .tuple #[(f k).getD z, .bool (f k).isSome] else (f k).getD z) w := by
  obtain ⟨es, clk, kvs, h0, h1, h2, h3⟩ := h
  obtain ⟨r, hr, hn, hs⟩ := L.find k es.toList kvs w h1
  have hobj : (getObj b).run P w = .ok (.map es clk) w := by simp [getObj, Sem.run, h0]
  unfold Instr.lookup
  simp only [Sem.run_bind, run_underlying ht, Result.andThen_ok, hobj, Sem.run_pure, L.check, hr]
  cases r with
  | none =>
    have hf : f k = none := (h2 k).symm.trans (find_none (hn rfl))
    cases ok <;> simp [hz, hf]
  | some iv =>
    obtain ⟨i, v⟩ := iv
    obtain ⟨hi, he, hj⟩ := hs i v rfl
    have hf : f k = some v := (h2 k).symm.trans (find_at hi he hj)
    cases ok <;> simp [hf]

theorem find_put_hit {kvs : List (κ × Value)} {k : κ} {v v' : Value} {i : Nat} (h : i < kvs.length) (he : kvs[i] = (k, v)) (hj : ∀ j (hj : j < i), (kvs[j]'(by omega)).1 ≠ k) (k' : κ) :
    ((kvs.modify i fun p => (k, v')).find? (fun p => decide (p.1 = k'))).map (·.2) = if k' = k then some v' else (kvs.find? (fun p => decide (p.1 = k'))).map (·.2) := by
  induction kvs generalizing i with
  | nil => simp at h
  | cons p ps ih =>
    cases i with
    | zero =>
      simp at he
      subst he
      simp only [List.modify_cons, if_pos]
      by_cases hk : k' = k
      · subst hk; simp
      · rw [List.find?_cons_of_neg (by simpa using fun h => hk h.symm), List.find?_cons_of_neg (by simpa using fun h => hk h.symm), if_neg hk]
    | succ i =>
      have h0 := hj 0 (by omega)
      simp at h0
      have IH := ih (i := i) (by simpa using h) (by simpa using he) (fun j hj' => by simpa using hj (j + 1) (by omega))
      simp only [List.modify_succ_cons]
      by_cases hp : p.1 = k'
      · rw [List.find?_cons_of_pos (by simpa using hp), List.find?_cons_of_pos (by simpa using hp), if_neg (fun e => h0 (hp.trans e))]
      · rw [List.find?_cons_of_neg (by simpa using hp), List.find?_cons_of_neg (by simpa using hp)]
        exact IH
theorem find_put_new {kvs : List (κ × Value)} {k : κ} {v' : Value} (h : ∀ p ∈ kvs, p.1 ≠ k) (k' : κ) :
    ((kvs ++ [(k, v')]).find? (fun p => decide (p.1 = k'))).map (·.2) = if k' = k then some v' else (kvs.find? (fun p => decide (p.1 = k'))).map (·.2) := by
  rw [List.find?_append]
  by_cases hk : k' = k
  · subst hk
    rw [List.find?_eq_none.2 (fun p hp => by simpa using h p hp)]
    simp
  · rw [if_neg hk]
    cases (kvs.find? (fun p => decide (p.1 = k'))) with
    | none => simp; exact fun e => hk e.symm
    | some x => simp

theorem MapF.put {w : World} {b : Nat} {f : κ → Option Value} {n : Nat} (h : MapF ek w b f n) (L : KeyLaw P kt ek) {t et : TypeId} (ht : P.underlying t = some (.map kt et)) (k : κ) (v : Value) :
    ∃ w', (Instr.mapUpdate t (.map (some b)) (ek k) v).run P w = .ok () w' ∧ MapF ek w' b (fun k' => if k' = k then some v else f k') (n + 1) ∧ w.grownBy w' (some b) := by
  obtain ⟨es, clk, kvs, h0, h1, h2, h3⟩ := h
  obtain ⟨r, hr, hn, hs⟩ := L.find k es.toList kvs w h1
  have hobj : (getObj b).run P w = .ok (.map es clk) w := by simp [getObj, Sem.run, h0]
  have hset : ∀ o : Obj, (setObj b o).run P w = .ok () { w with heap := w.heap.setIfInBounds b o } := fun o => by simp [setObj, Sem.run, h0]
  have hlt : b < w.heap.size := by
    rcases Nat.lt_or_ge b w.heap.size with hlt | hge
    · exact hlt
    · rw [Array.getElem?_eq_none hge] at h0; cases h0
  have hgb : ∀ o : Obj, w.grownBy { w with heap := w.heap.setIfInBounds b o } (some b) := fun o =>
    ⟨rfl, rfl, rfl, by simp, fun i _ hi => Array.getElem?_setIfInBounds_ne (fun e => hi (by rw [e]))⟩
  have hself : ∀ o : Obj, (w.heap.setIfInBounds b o)[b]? = some o := fun o => Array.getElem?_setIfInBounds_self_of_lt hlt
  unfold Instr.mapUpdate
  simp only [Sem.run_bind, run_underlying ht, Result.andThen_ok, hobj, L.check, hr]
  cases r with
  | none =>
    refine ⟨_, hset _, ⟨es.push { key := ek k, val := v, born := clk }, clk + 1, kvs ++ [(k, v)], hself _, by simp [h1], fun k' => ?_, by simp; omega⟩, hgb _⟩
    rw [find_put_new (hn rfl), h2]
  | some iv =>
    obtain ⟨i, v0⟩ := iv
    obtain ⟨hi, he, hj⟩ := hs i v0 rfl
    have hl : es.size = kvs.length := by simpa using congrArg List.length h1
    have hkey : ((es[i]?).map (·.key)).getD (ek k) = ek k := by
      have := congrArg (fun l => l[i]?) h1
      simp [List.getElem?_map, List.getElem?_eq_getElem hi, he, Array.getElem?_eq_getElem (show i < es.size by omega)] at this
      simp [Array.getElem?_eq_getElem (show i < es.size by omega), this.1]
    have hst : (keyThatStays (ek k) (ek k)).run P w = .ok (ek k) w := by simp [keyThatStays, L.same]
    simp only [hkey, hst, Result.andThen_ok, Sem.run_bind]
    refine ⟨_, hset _, ⟨es.modify i fun e => { e with key := ek k, val := v }, clk, kvs.modify i fun _ => (k, v), hself _, ?_, fun k' => ?_, by simp; omega⟩, hgb _⟩
    · rw [Array.toList_modify]
      apply List.ext_getElem?
      intro j
      have hj' := congrArg (fun l => l[j]?) h1
      simp only [List.getElem?_map, List.getElem?_modify] at hj' ⊢
      by_cases e : i = j
      · subst e
        have hie : i < es.size := by omega
        simp [Array.getElem?_eq_getElem hie, List.getElem?_eq_getElem hi]
      · simp [e]
        simpa using hj'
    · rw [find_put_hit hi he hj, h2]
end

theorem MapF.len {κ : Type} [DecidableEq κ] {P : Program} {kt : TypeId} {ek : κ → Value} {w : World} {b : Nat} {f : κ → Option Value} {n : Nat} (h : MapF ek w b f n) {t et : TypeId} (ht : P.underlying t = some (.map kt et)) :
    ∃ m : Nat, m ≤ n ∧ ∀ ty, (Builtin.len_ #[t] ty #[.map (some b)]).run P w = .ok (.int .i64 m) w := by
  obtain ⟨es, clk, kvs, h0, h1, h2, h3⟩ := h
  have hl : es.size = kvs.length := by simpa using congrArg List.length h1
  have hobj : (getObj b).run P w = .ok (.map es clk) w := by simp [getObj, Sem.run, h0]
  refine ⟨es.size, by omega, fun ty => ?_⟩
  simp [Builtin.len_, run_underlying ht, hobj]
  rfl

/-- 'm[k] = v' at the operation -/
theorem wpList_putF {κ : Type} [DecidableEq κ] {P : Program} {kt : TypeId} {ek : κ → Value} (w : World) {ops : Array Oper} {rest : List Oper} {o : Oper} {a : Act} {Q : Exit → Act → World → Prop} (hg : o.guard = none) (m x v : Operand) (t : TypeId) (hop : o.op = Op.mapUpdate t m x v)
    {et : TypeId} (ht : P.underlying t = some (.map kt et)) (L : KeyLaw P kt ek) (b : Nat) (f : κ → Option Value) (n : Nat) (hm : a.eval m = .map (some b)) (hown : MapF ek w b f n) (k : κ) (val : Value) (hx : a.eval x = ek k) (hv : a.eval v = val)
    (hK : ∀ w', MapF ek w' b (fun k' => if k' = k then some val else f k') (n + 1) → w.grownBy w' (some b) → wpList P ops Q rest (a.put o.dst undef) w') : wpList P ops Q (o :: rest) a w := by
  refine wpList_plain hg fun K' hK' => ?_
  obtain ⟨w', hrun, r1, r2⟩ := hown.put L ht k val
  unfold Oper.wp
  simp [execOp, hop, hm, hx, hv, hrun, Result.andThen]
  exact hK' _ _ (hK w' r1 r2)

theorem int_keylaw {P : Program} {kt : TypeId} (h : P.underlying kt = some (.int .i64)) : KeyLaw P kt (fun k : Int => Value.int .i64 k) where
  check e k w := by
    rw [show (10000 : Nat) = 9999 + 1 from rfl]
    unfold checkKey
    simp [run_underlying h]
  same k := by
    rw [show (10000 : Nat) = 9999 + 1 from rfl]
    simp [sameBits]
  find k es kvs w he := by
    have key : ∀ (es : List MapEntry) (kvs : List (Int × Value)) (s : Nat), es.map (fun e => (e.key, e.val)) = kvs.map (fun p => (Value.int .i64 p.1, p.2)) →
        ∃ r, findNow (.int .i64) (.int .i64 k) es s = some r ∧ (r = none → ∀ p ∈ kvs, p.1 ≠ k) ∧ (∀ i v, r = some (i, v) → s ≤ i ∧ ∃ h : i - s < kvs.length, kvs[i - s] = (k, v) ∧ ∀ j (hj : j < i - s), (kvs[j]'(by omega)).1 ≠ k) := by
      intro es
      induction es with
      | nil =>
        intro kvs s he
        cases kvs with
        | nil => exact ⟨none, rfl, (fun _ p hp => by simp at hp), (fun i v h => by cases h)⟩
        | cons p ps => simp at he
      | cons e es ih =>
        intro kvs s he
        cases kvs with
        | nil => simp at he
        | cons p ps =>
          simp only [List.map_cons, List.cons.injEq, Prod.mk.injEq] at he
          obtain ⟨⟨hk, hv⟩, he⟩ := he
          unfold findNow
          simp only [hk, sameNow, if_pos]
          by_cases hp : k = p.1
          · subst hp
            refine ⟨some (s, e.val), by simp, (fun h => by cases h), fun i v h => ?_⟩
            cases h
            exact ⟨Nat.le_refl _, by simp, by simp [hv], (fun j hj => by omega)⟩
          · have : (k == p.1) = false := by simpa using hp
            simp only [this]
            obtain ⟨r, hr, hn, hs⟩ := ih ps (s + 1) he
            refine ⟨r, hr, fun h q hq => ?_, fun i v h => ?_⟩
            · rcases List.mem_cons.1 hq with rfl | hq
              · exact fun e => hp e.symm
              · exact hn h q hq
            · obtain ⟨hle, hi, hkv, hj⟩ := hs i v h
              refine ⟨by omega, by simp; omega, ?_, fun j hj' => ?_⟩
              · have e1 : i - s = (i - (s + 1)) + 1 := by omega
                simp only [e1, List.getElem_cons_succ]
                exact hkv
              · cases j with
                | zero => exact fun e => hp e.symm
                | succ j => simpa using hj j (by omega)
    obtain ⟨r, hr, hn, hs⟩ := key es kvs 0 he
    refine ⟨r, ?_, hn, fun i v h => ?_⟩
    · unfold findKey
      simp [run_underlying h, hr]
    · obtain ⟨_, h1, h2, h3⟩ := hs i v h
      exact ⟨by simpa using h1, by simpa using h2, fun j hj => h3 j (by simpa using hj)⟩

end Go.Proofs.YtdgfipoibnjhaaaDoor
