/-
  Maps whose keys are structs of two ints.
-/
import Derived.Test.YtdgfipoibnjhaaaDoorMap
namespace Go.Proofs.YtdgfipoibnjhaaaDoor
set_option linter.unusedSimpArgs false
set_option linter.unusedVariables false
set_option maxRecDepth 100000
open Go.RowKit Go.Instr

theorem struct_keylaw {κ : Type} [DecidableEq κ] {P : Program} {kt : TypeId} {ek : κ → Value} {fs : Array Go.Field} (h : P.underlying kt = some (.struct fs))
    (hc : ∀ (e : Bool) (k : κ) (w : World), (checkKey e 10000 kt (ek k)).run P w = .ok () w)
    (he : ∀ (a b : κ) (w : World), (Op.equal kt (ek a) (ek b)).run P w = .ok (decide (a = b)) w)
    (hs : ∀ k : κ, sameBits 10000 (ek k) (ek k) = true) : KeyLaw P kt ek where
  check := hc
  same := hs
  find k es kvs w hm := by
    have key : ∀ (es : List MapEntry) (kvs : List (κ × Value)) (s : Nat), es.map (fun e => (e.key, e.val)) = kvs.map (fun p => (ek p.1, p.2)) →
        ∃ r, (findAsking kt (ek k) es s).run P w = .ok r w ∧ (r = none → ∀ p ∈ kvs, p.1 ≠ k) ∧ (∀ i v, r = some (i, v) → s ≤ i ∧ ∃ h : i - s < kvs.length, kvs[i - s] = (k, v) ∧ ∀ j (hj : j < i - s), (kvs[j]'(by omega)).1 ≠ k) := by
      intro es
      induction es with
      | nil =>
        intro kvs s he'
        cases kvs with
        | nil => exact ⟨none, by simp [findAsking], (fun _ p hp => by simp at hp), (fun i v h => by cases h)⟩
        | cons p ps => simp at he'
      | cons e es ih =>
        intro kvs s he'
        cases kvs with
        | nil => simp at he'
        | cons p ps =>
          simp only [List.map_cons, List.cons.injEq, Prod.mk.injEq] at he'
          obtain ⟨⟨hk, hv⟩, he'⟩ := he'
          unfold findAsking
          simp only [hk, Sem.run_bind, he, Result.andThen_ok]
          by_cases hp : k = p.1
          · subst hp
            refine ⟨some (s, e.val), by simp, (fun h => by cases h), fun i v h => ?_⟩
            cases h
            exact ⟨Nat.le_refl _, by simp, by simp [hv], (fun j hj => by omega)⟩
          · obtain ⟨r, hr, hn, hs⟩ := ih ps (s + 1) he'
            refine ⟨r, by simp [hp, hr], fun h q hq => ?_, fun i v h => ?_⟩
            · rcases List.mem_cons.1 hq with rfl | hq
              · exact fun e => hp e.symm
              · exact hn h q hq
            · obtain ⟨hle, hi, hkv, hj⟩ := hs i v h
              refine ⟨by omega, by simp; omega, ?_, fun j hj' => ?_⟩
              · have e1 : i - s = (i - (s + 1)) + 1 := by omega
                simp only [e1, List.getElem_cons_succ]
                exact hkv
              · cases j with
                | zero => exact fun e => hp e.symm
                | succ j => simpa using hj j (by omega)
    obtain ⟨r, hr, hn, hs⟩ := key es kvs 0 hm
    unfold findKey
    simp only [Sem.run_bind, run_underlying h, Result.andThen_ok]
    cases es with
    | nil =>
      refine ⟨none, by simp [findNow], fun _ p hp => ?_, fun i v h => by cases h⟩
      cases kvs with
      | nil => simp at hp
      | cons q qs => simp at hm
    | cons e es =>
      refine ⟨r, by simp [findNow, sameNow, hr], hn, fun i v h => ?_⟩
      obtain ⟨_, h1, h2, h3⟩ := hs i v h
      exact ⟨by simpa using h1, by simpa using h2, fun j hj => h3 j (by simpa using hj)⟩

/-- 'm[k]', 'v, ok := m[k]' at the operation -/
theorem wpList_lookF {κ : Type} [DecidableEq κ] {P : Program} {kt : TypeId} {ek : κ → Value} (w : World) {ops : Array Oper} {rest : List Oper} {o : Oper} {a : Act} {Q : Exit → Act → World → Prop} (hg : o.guard = none) (m x : Operand) (t : TypeId) (ok : Bool) (hop : o.op = Op.lookup t m x ok)
    {et : TypeId} (ht : P.underlying t = some (.map kt et)) (L : KeyLaw P kt ek) {z : Value} (hz : ∀ W, (zeroValue et).run P W = .ok z W) (b : Nat) (f : κ → Option Value) (n : Nat) (hm : a.eval m = .map (some b)) (hown : MapF ek w b f n) (k : κ) (hx : a.eval x = ek k)
    (hK : wpList P ops Q rest (a.put o.dst (if ok = true then .tuple #[(f k).getD z, .bool (f k).isSome] else (f k).getD z)) w) : wpList P ops Q (o :: rest) a w := by
  refine wpList_plain hg fun K' hK' => ?_
  have hrun := hown.look L ht hz k ok
  unfold Oper.wp
  simp only [execOp, hop, hm, hx, Sem.run_bind, hrun, Result.andThen_ok, Sem.run_pure]
  exact hK' _ _ hK

def ekW (k : Int × Int) : Value := .agg #[.int .i64 k.1, .int .i64 k.2]
theorem check_int (e : Bool) (n : Nat) (x : Int) (w : World) : (checkKey e (n + 1) 3 (.int .i64 x)).run Tryd.prog w = .ok () w := by
  unfold checkKey
  simp [run_underlying (show Tryd.prog.underlying 3 = some (.int .i64) by kernel_rfl)]
theorem write_keylaw : KeyLaw Tryd.prog 111 ekW := by
  have hS : Tryd.prog.underlying 111 = some (.struct (Tryd.prog.fieldsOf 111)) := by kernel_rfl
  have hp : Tryd.prog.stoodInHeld 111 = false := by kernel_rfl
  refine struct_keylaw hS ?_ ?_ ?_
  · intro e k w
    rw [show (10000 : Nat) = 9998 + 1 + 1 from rfl]
    unfold checkKey ekW
    simp only [Program.fieldsOf, Tryd.underlying111, Sem.run_bind]
    go_simp
    rw [show (9999 : Nat) = 9998 + 1 from rfl, check_int]
    simp [check_int]
  · intro a b w
    unfold Op.equal Op.maxDepth ekW
    rw [show (10000 : Nat) = 9999 + 1 from rfl, run_equalIn_agg w 9999 111 _ _ hS hp]
    simp only [Program.fieldsOf, Tryd.underlying111]
    go_simp
    obtain ⟨a1, a2⟩ := a
    obtain ⟨b1, b2⟩ := b
    by_cases h1 : a1 = b1 <;> by_cases h2 : a2 = b2 <;> simp [h1, h2]
  · intro k
    rw [show (10000 : Nat) = 9998 + 1 + 1 from rfl]
    simp [ekW, sameBits]
end Go.Proofs.YtdgfipoibnjhaaaDoor
