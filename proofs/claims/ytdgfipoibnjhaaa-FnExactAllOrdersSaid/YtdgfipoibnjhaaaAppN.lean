/-
  Appends of whole slices of numbers inside regions that draw.
-/
import Derived.Test.YtdgfipoibnjhaaaRes
import Derived.Test.YtdgfipoibnjhaaaDone
namespace Go.Proofs.Ytdgfipoibnjhaaa
set_option linter.unusedSimpArgs false
set_option linter.unusedVariables false
set_option maxRecDepth 100000
open Go.RowKit

/-- append of a slice of numbers, inside a region that draws -/
theorem step_app1n {ops : Array Oper} {o : Oper} {a : Act} {w : World} {K : Act → World → Prop} {Q : Exit → Act → World → Prop} {E : Prop} (hg : o.guard = none) (s x : Operand)
    (hop : o.op = Op.call { callee := Callee.builtin Builtin.append, args := #[s, x], argTypes := #[39, 39] }) (base : Nat) (v : Value) (hs : a.eval s = v) (xs : List Int) (hown : Own1 w base 3 v xs) (ad : Addr) (m c : Nat) (ys : List Int) (hx : a.eval x = .slice (some ad) m c) (hm : m = ys.length)
    (hnews : ∀ j y, ys[j]? = some y → w.cell? (ad.add j) = some (.int .i64 y)) (hl : xs.length + ys.length ≤ 1048576) (hbase : base ≤ w.heap.size)
    (hK : ∀ v' w', Own1 w' base 3 v' (xs ++ ys) → w.grownBy w' v.ownBlock → (v'.ownBlock = v.ownBlock ∨ v'.ownBlock = some w.heap.size) → K (a.put o.dst v') w') :
    if Region.wanted o (yielded ops a.tmps) = true then Oper.wp Try.prog o a w K Q else E := by
  obtain ⟨i0, hi, hz0, hz1, hz2⟩ := info_parts info1
  subst hm
  have hw : Region.wanted o (yielded ops a.tmps) = true := by simp [Region.wanted, hg]
  rw [if_pos hw]
  obtain ⟨v', w', hr, h2, h3, _, h5⟩ := run_append_own_at (P := Try.prog) w base 39 o.type 3 i0 _ 1 8 Try.underlying39 hi hz0 hz1 hz2 rfl (by decide) v xs.length (flat1 xs) hown ad ys.length c (flat1 ys) (by simp [flat1]) (fun j u hu => by
    simp only [flat1, List.getElem?_map] at hu
    cases hy : ys[j]? with
    | none => rw [hy] at hu; cases hu
    | some y =>
      rw [hy] at hu
      cases hu
      exact hnews j y hy) (fun u hu => by
    simp only [flat1, List.mem_map] at hu
    obtain ⟨x, _, rfl⟩ := hu
    rfl) (by unfold maxLen; omega) (by omega) hbase
  unfold Oper.wp execOp
  simp only [hop, resolve, invoke, builtin, Sem.run_bind, Sem.run_pure, Result.andThen_ok, List.map_toArray, List.map_cons, List.map_nil, hs, hx, hr]
  refine hK _ _ ?_ h3 h5
  unfold Own1
  rw [show flat1 (xs ++ ys) = flat1 xs ++ flat1 ys by simp [flat1], List.length_append]
  exact h2
theorem ints_add {S : Nat → Prop} {w : World} {b off : Nat} {xs : List Int} (h : Ints S w (some ⟨b, off, none⟩) xs) : ∀ j y, xs[j]? = some y → w.cell? (Addr.add ⟨b, off, none⟩ j) = some (.int .i64 y) := by
  intro j y hy
  obtain ⟨y', b', off', hy', e, _, _, hc⟩ := h.at_ (i := j) (List.getElem?_eq_some_iff.1 hy).1
  rw [hy] at hy'
  cases hy'
  cases e
  rw [← hc]
  unfold Addr.add
  split
  · rename_i h0
    have h0 : j = 0 := by simpa using h0
    subst h0
    rfl
  · rfl
theorem ints_drop {S : Nat → Prop} {w : World} {b off : Nat} {xs : List Int} (h : Ints S w (some ⟨b, off, none⟩) xs) (m : Nat) : Ints S w (some ⟨b, off + m, none⟩) (xs.drop m) := by
  intro i x hx
  rw [List.getElem?_drop] at hx
  obtain ⟨b', off', us, e, h1, h2, h3, h4, h5⟩ := h (m + i) x hx
  cases e
  refine ⟨b, off + m, us, rfl, h1, h2, h3, h4, fun j u hu => ?_⟩
  have := h5 j u hu
  rw [show off + (m + i) * 1 + j = off + m + i * 1 + j by omega] at this
  exact this
theorem news_ext {w w' : World} (hE : Ext w w') {b off : Nat} (hb : b < w.heap.size) {ys : List Int} (h : ∀ j y, ys[j]? = some y → w.cell? (Addr.add ⟨b, off, none⟩ j) = some (.int .i64 y)) : ∀ j y, ys[j]? = some y → w'.cell? (Addr.add ⟨b, off, none⟩ j) = some (.int .i64 y) := fun j y hj =>
  by
    have h1 := h j y hj
    rw [← h1]
    apply hE.cell
    unfold Addr.add
    split <;> exact hb
theorem litF (w : World) (cs : Array Value) (t : TypeId) (i : Nat) : (w.alloc (.cells cs t)).cell? ⟨w.heap.size, i, none⟩ = cs[i]? := by simp [World.cell?_alloc_new]
theorem own1_capF {w : World} {B : Nat} {e : TypeId} {v : Value} {xs : List Int} (h : Own1 w B e v xs) : ∃ A c, v = .slice A xs.length c ∧ Ints (fun b => B ≤ b) w A xs ∧ xs.length ≤ c := by
  obtain ⟨A, c, rfl, h1, h2⟩ := h.form
  refine ⟨A, c, rfl, h1, ?_⟩
  rcases h.2 with ⟨hv, hn⟩ | ⟨g, cap, cur, hv, hb, hg, hle, _⟩
  · omega
  · simp only [Value.slice.injEq] at hv
    omega
theorem own1_some {w : World} {B : Nat} {e : TypeId} {v : Value} {xs : List Int} (h : Own1 w B e v xs) (hn : 0 < xs.length) : ∃ g c, v = .slice (some ⟨g, 0, none⟩) xs.length c ∧ B ≤ g ∧ Ints (fun b => B ≤ b) w (some ⟨g, 0, none⟩) xs := by
  obtain ⟨A, c, rfl, h1, _⟩ := h.form
  rcases h.2 with ⟨hv, hn0⟩ | ⟨g, cap, cur, hv, hb, _⟩
  · omega
  · simp only [Value.slice.injEq] at hv
    obtain ⟨rfl, _, rfl⟩ := hv
    exact ⟨g, c, rfl, hb, h1⟩
end Go.Proofs.Ytdgfipoibnjhaaa
