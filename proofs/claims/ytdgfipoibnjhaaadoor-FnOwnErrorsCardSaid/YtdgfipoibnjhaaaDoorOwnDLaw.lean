/-
  FnOwnErrors: a drawn history: the program's answer is the reference's; the places are reads' and ascend; a history of the writes alone has none.
-/
import Derived.Test.YtdgfipoibnjhaaaDoorDrawHd
import Derived.Test.YtdgfipoibnjhaaaDoorLaid
import Derived.Test.YtdgfipoibnjhaaaDoorOwnErr
import Derived.Test.YtdgfipoibnjhaaaDoorSame
import Derived.Test.YtdgfipoibnjhaaaDoorAlive
import Derived.Test.YtdgfipoibnjhaaaDoorLexQ
import Derived.StillTailTactics
import Derived.Deep.RegionLaw
import Derived.Deep.AppendLies
namespace Go.Proofs.YtdgfipoibnjhaaaDoor
set_option linter.unusedSimpArgs false
set_option linter.unusedVariables false
set_option maxRecDepth 100000
open Go.ChangeShapes Go.WideShapes Go.ChangeAt Go.RowKit Go.Joins

theorem oeT_at {who : Int} {ops : List T3} (n : Nat) : ∀ (i : Nat) p, (oeT who ops n)[i]? = some p → ∃ (m : Nat) (o : T3), p = ⟨who, m⟩ ∧ m < n ∧ ops[m]? = some o ∧ o.a = 1 ∧ 1 ≤ m ∧ (0 < i → ∃ m' : Nat, (oeT who ops n)[i - 1]? = some ⟨who, m'⟩ ∧ m' < m) := by
  induction n with
  | zero => intro i p h; simp [oeT] at h
  | succ n ih =>
    intro i p hi
    have old : ∀ (ys : List T2), (oeT who ops n)[i]? = some p → ∃ (m : Nat) (o : T3), p = ⟨who, m⟩ ∧ m < n + 1 ∧ ops[m]? = some o ∧ o.a = 1 ∧ 1 ≤ m ∧ (0 < i → ∃ m' : Nat, (oeT who ops n ++ ys)[i - 1]? = some ⟨who, m'⟩ ∧ m' < m) := fun ys h => by
      obtain ⟨m, o, a, b, c, d, e, f⟩ := ih i p h
      have hlt := (List.getElem?_eq_some_iff.1 h).1
      refine ⟨m, o, a, by omega, c, d, e, fun h0 => ?_⟩
      obtain ⟨m', g1, g2⟩ := f h0
      exact ⟨m', by rw [List.getElem?_append_left (by omega)]; exact g1, g2⟩
    cases hn : ops[n]? with
    | none =>
      have e : oeT who ops (n + 1) = oeT who ops n := by
        conv => lhs; unfold oeT
        rw [hn]
      rw [e] at hi ⊢
      have := old [] hi
      simpa using this
    | some x =>
      by_cases hc : x.a = 1 ∧ 0 ≤ before ops x.b n ∧ before ops x.b n ≠ x.c
      · rw [oeT_hit hn hc] at hi ⊢
        rcases Nat.lt_or_ge i (oeT who ops n).length with hlt | hge
        · rw [List.getElem?_append_left hlt] at hi
          exact old _ hi
        · rw [List.getElem?_append_right hge] at hi
          have hz : i - (oeT who ops n).length = 0 := by
            cases hx : i - (oeT who ops n).length with
            | zero => rfl
            | succ m => rw [hx] at hi; simp at hi
          rw [hz] at hi
          obtain rfl : (⟨who, n⟩ : T2) = p := by simpa using hi
          have hn1 : 1 ≤ n := by
            cases n with
            | zero => have := hc.2.1; simp [before] at this
            | succ n => omega
          refine ⟨n, x, rfl, by omega, hn, hc.1, hn1, fun h0 => ?_⟩
          obtain ⟨u, hu⟩ : ∃ u, (oeT who ops n)[i - 1]? = some u := ⟨_, List.getElem?_eq_getElem (by omega)⟩
          obtain ⟨m', _, a, b, _⟩ := ih _ _ hu
          subst a
          exact ⟨m', by rw [List.getElem?_append_left (by omega)]; exact hu, b⟩
      · rw [oeT_miss hn hc] at hi ⊢
        have := old [] hi
        simpa using this
/-- a place of an error -/
def OeAt (h : List TxnT) (n : Nat) (p : T2) (k m : Nat) : Prop := p = ⟨k, m⟩ ∧ k < n ∧ ∃ t o, h[k]? = some t ∧ t.ops[m]? = some o ∧ o.a = 1 ∧ 1 ≤ m
theorem oeH_at {h : List TxnT} (n : Nat) : ∀ (i : Nat) p, (oeH h n)[i]? = some p → ∃ k m, OeAt h n p k m ∧ (0 < i → ∃ q k' m', (oeH h n)[i - 1]? = some q ∧ OeAt h n q k' m' ∧ (k' < k ∨ k' = k ∧ m' < m)) := by
  induction n with
  | zero => intro i p h; simp [oeH] at h
  | succ n ih =>
    intro i p hi
    have up : ∀ {q k m}, OeAt h n q k m → OeAt h (n + 1) q k m := fun ⟨a, b, c⟩ => ⟨a, by omega, c⟩
    have old : ∀ (ys : List T2), (oeH h n)[i]? = some p → ∃ k m, OeAt h (n + 1) p k m ∧ (0 < i → ∃ q k' m', (oeH h n ++ ys)[i - 1]? = some q ∧ OeAt h (n + 1) q k' m' ∧ (k' < k ∨ k' = k ∧ m' < m)) := fun ys hh => by
      obtain ⟨k, m, a, b⟩ := ih i p hh
      have hlt := (List.getElem?_eq_some_iff.1 hh).1
      refine ⟨k, m, up a, fun h0 => ?_⟩
      obtain ⟨q, k', m', c, d, e⟩ := b h0
      exact ⟨q, k', m', by rw [List.getElem?_append_left (by omega)]; exact c, up d, e⟩
    cases hk : h[n]? with
    | none =>
      have e : oeH h (n + 1) = oeH h n := by
        conv => lhs; unfold oeH
        rw [hk]
      rw [e] at hi ⊢
      have := old [] hi
      simpa using this
    | some t =>
      rw [oeH_succ hk] at hi ⊢
      rcases Nat.lt_or_ge i (oeH h n).length with hlt | hge
      · rw [List.getElem?_append_left hlt] at hi
        exact old _ hi
      · rw [List.getElem?_append_right hge] at hi
        obtain ⟨m, o, rfl, hm, ho, ha, h1, hp⟩ := oeT_at _ _ _ hi
        have new : OeAt h (n + 1) ⟨n, m⟩ n m := ⟨rfl, by omega, t, o, hk, ho, ha, h1⟩
        refine ⟨n, m, new, fun h0 => ?_⟩
        rcases Nat.lt_or_ge (i - 1) (oeH h n).length with hlt2 | hge2
        · obtain ⟨u, hu⟩ : ∃ u, (oeH h n)[i - 1]? = some u := ⟨_, List.getElem?_eq_getElem hlt2⟩
          obtain ⟨k', m', a, _⟩ := ih _ _ hu
          exact ⟨u, k', m', by rw [List.getElem?_append_left hlt2]; exact hu, up a, .inl a.2.1⟩
        · obtain ⟨m', g1, g2⟩ := hp (by omega)
          rw [show i - (oeH h n).length - 1 = i - 1 - (oeH h n).length by omega] at g1
          obtain ⟨m2, o2, e2, hm2, ho2, ha2, h12, _⟩ := oeT_at _ _ _ g1
          simp only [T2.mk.injEq, true_and] at e2
          have e3 : m' = m2 := by omega
          subst e3
          exact ⟨⟨n, m'⟩, n, m', by rw [List.getElem?_append_right hge2]; exact g1, ⟨rfl, by omega, t, o2, hk, ho2, ha2, h12⟩, .inr ⟨rfl, g2⟩⟩
theorem oeT_writes {who : Int} {ops : List T3} (hw : ∀ o ∈ ops, o.a = 2) (n : Nat) : oeT who ops n = [] := by
  cases hq : oeT who ops n with
  | nil => rfl
  | cons p ps =>
    obtain ⟨m, o, _, _, ho, ha, _⟩ := oeT_at (who := who) (ops := ops) n 0 p (by rw [hq]; rfl)
    have := hw o (List.mem_of_getElem? ho)
    omega
theorem oeH_writes {h : List TxnT} (hw : ∀ t ∈ h, ∀ o ∈ t.ops, o.a = 2) (n : Nat) : oeH h n = [] := by
  induction n with
  | zero => rfl
  | succ n ih =>
    cases hk : h[n]? with
    | none =>
      conv => lhs; unfold oeH
      rw [hk]
      exact ih
    | some t => rw [oeH_succ hk, ih, oeT_writes (hw t (List.mem_of_getElem? hk))]; rfl

/-- a history and a transaction in the making -/
structure Bld (base : Nat) (w : World) (v : Value) (ps : List PT) (lim g : Nat) (s : Int) (d : Bool) (A : Option Addr) (c : Nat) (ops : List T3) (W : World) : Prop where
  ot : OwnT W base lim v ps
  bt : Blk W g 32 #[.int .i64 s, .slice A ops.length c, .bool d]
  oo : Own3 W g 34 (.slice A ops.length c) ops
  lg : lim ≤ g
  lb : base ≤ g
  nv : some g ≠ v.ownBlock
  ex : Ext w W
  hb : w.heap.size ≤ base
section
variable {base lim g c : Nat} {w W W' : World} {v : Value} {ps : List PT} {s : Int} {d : Bool} {A : Option Addr} {ops : List T3}
theorem Bld.ext (h : Bld base w v ps lim g s d A c ops W) (hE : Ext W W') : Bld base w v ps lim g s d A c ops W' := ⟨h.ot.ext hE, h.bt.ext hE, h.oo.ext hE, h.lg, h.lb, h.nv, h.ex.tr hE, h.hb⟩
theorem Bld.row_ne (h : Bld base w v ps lim g s d A c ops W) : (Value.slice A ops.length c).ownBlock ≠ some g := fun e => by
  have hbt : W.heap[g]? = some (.cells _ 32 (0, 0)) := h.bt
  obtain ⟨_, cs', h2⟩ := own_at h.oo e
  rw [hbt] at h2
  cases h2
theorem Bld.appCells (h : Bld base w v ps lim g s d A c ops W) (hg : W.grownBy W' (Value.slice A ops.length c).ownBlock) : W'.cell? ⟨g, 1, none⟩ = some (.slice A ops.length c) ∧ (∀ o, W'.frozen? ⟨g, o, none⟩ = false) ∧ g < W'.heap.size := by
  have b1 : Blk W' g 32 #[.int .i64 s, .slice A ops.length c, .bool d] := (hg.block g h.bt.lt (fun e => h.row_ne e.symm)).trans h.bt
  exact ⟨by rw [b1.cell]; rfl, b1.frozen, b1.lt⟩
theorem Bld.app {A' : Option Addr} {c' : Nat} {ops' : List T3} (h : Bld base w v ps lim g s d A c ops W) (hg : W.grownBy W' (Value.slice A ops.length c).ownBlock) (ho : Own3 W' g 34 (.slice A' ops'.length c') ops') :
    Bld base w v ps lim g s d A' c' ops' (W'.setCell ⟨g, 1, none⟩ (.slice A' ops'.length c')) := by
  have hl := h.lg
  have hlb := h.lb
  have hhb := h.hb
  have hrow : ∀ q, (Value.slice A ops.length c).ownBlock = some q → g ≤ q := fun q e => (own_at h.oo e).1
  have o1 : OwnT W' base lim v ps := by
    cases hq : (Value.slice A ops.length c).ownBlock with
    | none =>
      rw [hq] at hg
      exact h.ot.ext ⟨hg.os, hg.tape, hg.output, hg.size, fun k hk => hg.block k hk (by simp)⟩
    | some q =>
      rw [hq] at hg
      refine h.ot.grown hg (fun e => ?_) (fun q' e => .inr (.inl ?_))
      · obtain ⟨_, cs, h2⟩ := own_at h.oo hq
        obtain ⟨_, cs', h3⟩ := own_at h.ot.1 e.symm
        rw [h2] at h3
        cases h3
      · have := hrow q hq
        have := Option.some.inj e
        omega
  have b1 : Blk W' g 32 #[.int .i64 s, .slice A ops.length c, .bool d] := (hg.block g h.bt.lt (fun e => h.row_ne e.symm)).trans h.bt
  have hs : W'.grownBy (W'.setCell ⟨g, 1, none⟩ (.slice A' ops'.length c')) (some g) := grown_set _
  have b2 := b1.set_ 1 (.slice A' ops'.length c')
  have x1 : Ext w W' := Below.grown (w := W) h.ex hg h.ex.size (fun q e => by have := hrow q e; omega)
  refine ⟨o1.grown hs h.nv (fun q e => .inr (.inl (by have := Option.some.inj e; omega))), by simpa using b2, World.ownsRow.kept ho hs (own_type_ne ho (show W'.heap[g]? = some (.cells _ 32 (0, 0)) from b1) (by decide)), hl, hlb, h.nv, grown_new x1 (by omega) hs, hhb⟩
theorem Bld.grew (h : Bld base w v ps lim g s d A c ops W) (hg : W.grownBy W' (Value.slice A ops.length c).ownBlock) : Ext w W' := by
  have hl := h.lg
  have hlb := h.lb
  have hhb := h.hb
  have hrow : ∀ q, (Value.slice A ops.length c).ownBlock = some q → g ≤ q := fun q e => (own_at h.oo e).1
  exact Below.grown (w := W) h.ex hg h.ex.size (fun q e => by have := hrow q e; omega)
theorem Bld.cells (h : Bld base w v ps lim g s d A c ops W) : W.cell? ⟨g, 0, none⟩ = some (.int .i64 s) ∧ W.cell? ⟨g, 1, none⟩ = some (.slice A ops.length c) ∧ W.cell? ⟨g, 2, none⟩ = some (.bool d) ∧ (∀ o, W.frozen? ⟨g, o, none⟩ = false) ∧ g < W.heap.size := by
  have hB := h.bt
  refine ⟨?_, ?_, ?_, hB.frozen, hB.lt⟩ <;> (rw [hB.cell]; rfl)
end
theorem txns_any {B : Nat} {w : World} {A : Option Addr} {h : List TxnT} (hx : Txns (fun b => B ≤ b) w A h) : Txns Any w A h := SlAt.mono hx (fun _ _ _ => trivial) (mono_txn (fun _ _ _ => trivial))
theorem infoTxnO : (Tryd.prog.info? 32).map (fun i => (i.zero, i.size, i.bytes)) = some (some (.agg #[.int .i64 0, .slice none 0 0, .bool false]), 3, 40) := by kernel_rfl
theorem boxO {W0 W : World} {B : Nat} {cs : List Value} {t : TypeId} (hB : B = W0.heap.size) (hE : Ext (W0.alloc (.cells cs.toArray t)) W) : ∀ j u, cs[j]? = some u → W.cell? (Addr.add ⟨B, 0, none⟩ j) = some u := by
  intro j u hu
  have h1 : (W0.alloc (.cells cs.toArray t)).cell? ⟨W0.heap.size, j, none⟩ = some u := by rw [lit_cell]; simpa using hu
  have h2 := hE.keep (by simp) h1
  subst hB
  unfold Addr.add
  split
  · rename_i h0
    have h0 : j = 0 := by simpa using h0
    subst h0
    exact h2
  · simpa using h2
theorem infoOpO : (Tryd.prog.info? 34).map (fun i => (i.zero, i.size, i.bytes)) = some (some (.agg #[.int .i64 0, .int .i64 0, .int .i64 0]), 3, 24) := by kernel_rfl
/-- append of one operation, inside a region that draws -/
theorem step_appO {ops : Array Oper} {o : Oper} {a : Act} {w : World} {K : Act → World → Prop} {Q : Exit → Act → World → Prop} {E : Prop} (hg : o.guard = none) (s x : Operand)
    (hop : o.op = Op.call { callee := Callee.builtin Builtin.append, args := #[s, x], argTypes := #[30, 30] }) (base : Nat) (v : Value) (hs : a.eval s = v) (xs : List T3) (hown : Own3 w base 34 v xs) (B : Nat) (x0 x1 x2 : Int) (hx : a.eval x = .slice (some ⟨B, 0, none⟩) 1 1)
    (hsrc : ∀ j u, [Value.int .i64 x0, .int .i64 x1, .int .i64 x2][j]? = some u → w.cell? (Addr.add ⟨B, 0, none⟩ j) = some u) (hl : xs.length ≤ 1048576) (hbase : base ≤ w.heap.size)
    (hK : ∀ v' w', Own3 w' base 34 v' (xs ++ [⟨x0, x1, x2⟩]) → w.grownBy w' v.ownBlock → K (a.put o.dst v') w') :
    if Region.wanted o (yielded ops a.tmps) = true then Oper.wp Tryd.prog o a w K Q else E := by
  obtain ⟨i0, hi, hz0, hz1, hz2⟩ := info_parts infoOpO
  refine step_append_lies w hg s x _ hop base _ i0 _ 3 24 Tryd.underlying30 hi hz0 hz1 hz2 rfl (by decide) v xs.length (flat3 xs) hs hown ⟨B, 0, none⟩ 1 1 [.int .i64 x0, .int .i64 x1, .int .i64 x2] hx rfl hsrc ?_ (by omega) (by unfold maxLen; omega) (by omega) hbase _ rfl (fun g cap w' h1 h2 _ _ => hK _ w' ?_ h2)
  · intro u hu
    simp at hu
    rcases hu with rfl | rfl | rfl <;> rfl
  · unfold Own3
    rw [flat3_app, List.length_append]
    exact h1
set_option maxHeartbeats 8000000 in
theorem FnOwnErrors_c (xs : List Int) (A : Option Addr) (c : Nat) (w : World) (hx : Byts Any w A xs) (wf : Law.wfL Law.wfU8 xs) (hc : xs.length ≤ c) :
    Calls Tryd.prog 3 #[.slice A xs.length c] w fun e w' => e = .returned (.bool true) ∧ Ext w w' := by
  by_cases hl : 1048576 < xs.length
  · go_enter Tryd.func3, Tryd.ntmps3
    go_wp2
    go_ret
    exact ⟨rfl, by (repeat' (first | (with_reducible exact Below.refl _ _) | (with_reducible refine Below.mono (by assumption) ?_) | (with_reducible refine Below.trans ?_ (Below.mono (by assumption) ?_)) | (with_reducible refine Below.alloc ?_ ?_ _) | (with_reducible refine Below.drew ?_) | (with_reducible refine below_drewN ?_ _) | (with_reducible refine Below.setCell ?_ ?_ _) | (simp only [World.size_alloc, World.size_setCell, World.size_drew, size_drewN]; omega) | omega))⟩
  have HW : Hid (∀ x ∈ xs, 0 ≤ x ∧ x ≤ 255) := Lib.hid wf.2
  go_enter Tryd.func3, Tryd.ntmps3
  go_wp2_with (fail)
  go_at_call 9
  refine ((DrawOwnErrors_c xs A c _ (hx.ext (by (repeat' (first | (with_reducible exact Below.refl _ _) | (with_reducible refine Below.mono (by assumption) ?_) | (with_reducible refine Below.trans ?_ (Below.mono (by assumption) ?_)) | (with_reducible refine Below.alloc ?_ ?_ _) | (with_reducible refine Below.drew ?_) | (with_reducible refine below_drewN ?_ _) | (with_reducible refine Below.setCell ?_ ?_ _) | (simp only [World.size_alloc, World.size_setCell, World.size_drew, size_drewN]; omega) | omega)))) HW.out hc).mono (fun _ _ h => h.read)).mono ?_
  rintro e w1 ⟨h, A2, c2, rfl, hcap, hTx, hsmall, hb⟩
  obtain ⟨hc, hf, hz, hs⟩ := bcell hb
  (try simp only [World.size_alloc, World.size_setCell, World.size_drew, size_drewN] at hs); (first | have l0 := Nat.lt_of_lt_of_le l0 (show _ ≤ w1.heap.size by omega) | have l0 : w.heap.size < w1.heap.size := (by omega) | skip); (try have l0e := Nat.le_of_lt l0); (try have l0f := Nat.le_add_right_of_le (k := 1) l0e); (try have l1 := Nat.lt_of_lt_of_le l1 (show _ ≤ w1.heap.size by omega)); (try have l1e := Nat.le_of_lt l1); (try have l1f := Nat.le_add_right_of_le (k := 1) l1e); (try have l2 := Nat.lt_of_lt_of_le l2 (show _ ≤ w1.heap.size by omega)); (try have l2e := Nat.le_of_lt l2); (try have l2f := Nat.le_add_right_of_le (k := 1) l2e); (try have l3 := Nat.lt_of_lt_of_le l3 (show _ ≤ w1.heap.size by omega)); (try have l3e := Nat.le_of_lt l3); (try have l3f := Nat.le_add_right_of_le (k := 1) l3e)
  have E1 := Lib.hid (show Ext w w1 from hb)
  have hsm := hsmall.small
  have hsl := hsm.len
  have C := fun w hx => implOwnErrors_c h Any A2 c2 w hx hsm
  have D := fun w hx => specOwnErrors_c h Any A2 c2 w hx hsm
  have F : ∀ (i : Nat) p, (if histv h = true then oeH h h.length else [])[i]? = some p → ∃ k m, OeAt h h.length p k m ∧ (0 < i → ∃ q k' m', (if histv h = true then oeH h h.length else [])[i - 1]? = some q ∧ OeAt h h.length q k' m' ∧ (k' < k ∨ k' = k ∧ m' < m)) := by
    intro i p hi
    split at hi
    · rename_i hv
      rw [if_pos hv]
      exact oeH_at h.length i p hi
    · simp at hi
  have hil : (if histv h = true then oeH h h.length else []).length ≤ 1048576 := by
    split
    · exact oeH_small hsm
    · simp
  generalize (if histv h = true then oeH h h.length else []) = L at C D F hil
  have HC := Lib.hid C
  have HD := Lib.hid D
  have HF := Lib.hid F
  have HX := Lib.hid (txns_any hTx)
  clear C D F hTx hb hc hf hz
  go_wp2_with (fail)
  go_at_call 10
  refine (HC.out _ HX.out).mono ?_
  rintro e w2 ⟨A3, c3, rfl, hI3, hf3, hb⟩
  obtain ⟨hc, hf, hz, hs⟩ := bcell hb
  (try simp only [World.size_alloc, World.size_setCell, World.size_drew, size_drewN] at hs); (first | have l0 := Nat.lt_of_lt_of_le l0 (show _ ≤ w2.heap.size by omega) | have l0 : w.heap.size < w2.heap.size := (by omega) | skip); (try have l0e := Nat.le_of_lt l0); (try have l0f := Nat.le_add_right_of_le (k := 1) l0e); (try have l1 := Nat.lt_of_lt_of_le l1 (show _ ≤ w2.heap.size by omega)); (try have l1e := Nat.le_of_lt l1); (try have l1f := Nat.le_add_right_of_le (k := 1) l1e); (try have l2 := Nat.lt_of_lt_of_le l2 (show _ ≤ w2.heap.size by omega)); (try have l2e := Nat.le_of_lt l2); (try have l2f := Nat.le_add_right_of_le (k := 1) l2e); (try have l3 := Nat.lt_of_lt_of_le l3 (show _ ≤ w2.heap.size by omega)); (try have l3e := Nat.le_of_lt l3); (try have l3f := Nat.le_add_right_of_le (k := 1) l3e)
  have E12 := Lib.hid (show Ext w1 w2 from hb)
  have HI2 := Lib.hid hI3
  clear hb hc hf hz hf3 hI3
  go_wp2_with (fail)
  go_at_call 12
  refine (HD.out _ (HX.out.ext E12.out)).mono ?_
  rintro e w3 ⟨A4, c4, rfl, hI4, hf4, hb⟩
  obtain ⟨hc, hf, hz, hs⟩ := bcell hb
  (try simp only [World.size_alloc, World.size_setCell, World.size_drew, size_drewN] at hs); (first | have l0 := Nat.lt_of_lt_of_le l0 (show _ ≤ w3.heap.size by omega) | have l0 : w.heap.size < w3.heap.size := (by omega) | skip); (try have l0e := Nat.le_of_lt l0); (try have l0f := Nat.le_add_right_of_le (k := 1) l0e); (try have l1 := Nat.lt_of_lt_of_le l1 (show _ ≤ w3.heap.size by omega)); (try have l1e := Nat.le_of_lt l1); (try have l1f := Nat.le_add_right_of_le (k := 1) l1e); (try have l2 := Nat.lt_of_lt_of_le l2 (show _ ≤ w3.heap.size by omega)); (try have l2e := Nat.le_of_lt l2); (try have l2f := Nat.le_add_right_of_le (k := 1) l2e); (try have l3 := Nat.lt_of_lt_of_le l3 (show _ ≤ w3.heap.size by omega)); (try have l3e := Nat.le_of_lt l3); (try have l3f := Nat.le_add_right_of_le (k := 1) l3e)
  have E13 := Lib.hid (E12.out.tr hb)
  have HI3 := Lib.hid (Pls.ext HI2.out hb)
  clear HC HD hb hc hf hz hf4 HI2
  go_wp2_with (fail)
  go_at_call 11
  refine (samePlaces_c L _ _ _ _ _ _ _ HI3.out hI4 (by omega)).mono ?_
  rintro e w4 ⟨rfl, hb⟩
  obtain ⟨hc, hf, hz, hs⟩ := bcell hb
  (try simp only [World.size_alloc, World.size_setCell, World.size_drew, size_drewN] at hs); (first | have l0 := Nat.lt_of_lt_of_le l0 (show _ ≤ w4.heap.size by omega) | have l0 : w.heap.size < w4.heap.size := (by omega) | skip); (try have l0e := Nat.le_of_lt l0); (try have l0f := Nat.le_add_right_of_le (k := 1) l0e); (try have l1 := Nat.lt_of_lt_of_le l1 (show _ ≤ w4.heap.size by omega)); (try have l1e := Nat.le_of_lt l1); (try have l1f := Nat.le_add_right_of_le (k := 1) l1e); (try have l2 := Nat.lt_of_lt_of_le l2 (show _ ≤ w4.heap.size by omega)); (try have l2e := Nat.le_of_lt l2); (try have l2f := Nat.le_add_right_of_le (k := 1) l2e); (try have l3 := Nat.lt_of_lt_of_le l3 (show _ ≤ w4.heap.size by omega)); (try have l3e := Nat.le_of_lt l3); (try have l3f := Nat.le_add_right_of_le (k := 1) l3e)
  have E14 := Lib.hid (E13.out.tr hb)
  have E4 := Lib.hid (E1.out.tr E14.out)
  have HI4 := Lib.hid (Pls.ext HI3.out hb)
  have HX4 := Lib.hid (HX.out.ext E14.out)
  clear hI4 HI3 HX hb hc hf hz
  go_wp2
  go_loopw [5] (fun i wr => ∃ k : Nat, k ≤ L.length ∧ i = .int .i64 k ∧ Ext w4 wr) (fun i _ => L.length - (intOf i).toNat)
  case atStart => exact ⟨0, Nat.zero_le _, rfl, Below.refl _ _⟩
  case round =>
    obtain ⟨k, hk, rfl, hE⟩ := hrel
    have hE0 := Lib.hid hE
    by_cases hlt : k < L.length
    · obtain ⟨x0, x1, b, off, hxk, rfl, _, hb0, cx, cy⟩ := (Pls.ext HI4.out hE).at_ hlt
      obtain ⟨kk, m, ⟨e1, hkl, t, o, hkt, hot, hoa, hm1⟩, hprev⟩ := HF.out k _ hxk
      simp only [T2.mk.injEq] at e1
      obtain ⟨rfl, rfl⟩ := e1
      obtain ⟨s, ops, d, A', cap, b2, off2, hxk2, rfl, _, hb20, hO, c0, c1, c2'⟩ := (HX4.out.ext hE).at_ hkl
      obtain rfl : (⟨s, ops, d⟩ : TxnT) = t := by rw [hxk2] at hkt; exact Option.some.inj hkt
      simp only at hot
      have hml : m < ops.length := (List.getElem?_eq_some_iff.1 hot).1
      obtain ⟨y0, y1, y2, b3, off3, hyk, rfl, _, hb30, p0, p1, p2⟩ := hO.at_ hml
      obtain rfl : (⟨y0, y1, y2⟩ : T3) = o := by rw [hyk] at hot; exact Option.some.inj hot
      simp only at hoa
      subst hoa
      clear hE hxk hxk2 hkt hO hot hyk
      have f1 : decide ((kk : Int) < 0) = false := decide_eq_false (by omega)
      have f2 : decide ((h.length : Int) ≤ (kk : Int)) = false := decide_eq_false (by omega)
      have f2n : decide (h.length ≤ kk) = false := decide_eq_false (by omega)
      have f3 : decide ((m : Int) < 1) = false := decide_eq_false (by omega)
      have f3n : decide (m < 1) = false := decide_eq_false (by omega)
      have f4 : decide ((ops.length : Int) ≤ (m : Int)) = false := decide_eq_false (by omega)
      have f4n : decide (ops.length ≤ m) = false := decide_eq_false (by omega)
      have f5 : (kk : Int) < h.length := by omega
      have f6 : (m : Int) < ops.length := by omega
      have f7 : (k : Int) < L.length := by omega
      by_cases hk0 : 0 < k
      rotate_left
      · clear hprev
        have g1 : decide ((0 : Int) < (k : Int)) = false := decide_eq_false (by omega)
        have g1n : decide (0 < k) = false := decide_eq_false (by omega)
        clear hk0
        go_wp2
        as_aux_lemma =>
          refine wp_region_quiet_lit (by kernel_rfl) (lexQ_B (by kernel_rfl) (by kernel_rfl)) ?_
          simp only [List.append_eq, List.cons_append, List.nil_append]
          iterate 12 (try (go_big_quiet_step (fail)))
          as_aux_lemma =>
            iterate 12 (try (go_big_quiet_step (fail)))
            as_aux_lemma =>
              iterate 12 (try (go_big_quiet_step (fail)))
              as_aux_lemma =>
                iterate 12 (try (go_big_quiet_step (fail)))
                as_aux_lemma =>
                  iterate 12 (try (go_big_quiet_step (fail)))
                  as_aux_lemma =>
                    iterate 12 (try (go_big_quiet_step (fail)))
                    as_aux_lemma =>
                      iterate 12 (try (go_big_quiet_step (fail)))
                      as_aux_lemma =>
                        iterate 12 (try (go_big_quiet_step (fail)))
                        as_aux_lemma =>
                          iterate 12 (try (go_big_quiet_step (fail)))
                          as_aux_lemma =>
                            repeat (go_big_quiet_step (fail))
                            refine wpQuiet_nil ?_
                            intro _ hw'
                            obtain ⟨nq, hw''⟩ := hw'
                            subst hw''
                            go_wp2
                            go_roundw
                            case measure => simp [intOf]; omega
                            case rel => exact ⟨k + 1, by omega, by go_num, below_drewN hE0.out _⟩
      · obtain ⟨q, k', m', hu, ⟨e2, hkl', _⟩, hlk⟩ := hprev hk0
        subst e2
        obtain ⟨u0, u1, b', off', hu', e', _, hb', cu, cv⟩ := (Pls.ext HI4.out hE0.out).at_ (i := k - 1) (by omega)
        rw [hu] at hu'
        cases hu'
        cases e'
        have hcast : ((k : Int) - 1).toNat = k - 1 := by omega
        have g1 : decide ((0 : Int) < (k : Int)) = true := decide_eq_true (by omega)
        have g1n : decide (0 < k) = true := decide_eq_true (by omega)
        have g2 : (k : Int) - 1 < L.length := by omega
        have g3 : (0 : Int) ≤ (k : Int) - 1 := by omega
        clear hu hprev
        rcases hlk with hlk | ⟨rfl, hlk⟩
        · have g4 : decide ((kk : Int) < (k' : Int)) = false := decide_eq_false (by omega)
          have g4n : decide (kk < k') = false := decide_eq_false (by omega)
          have g5 : ((kk : Int) == (k' : Int)) = false := by simp; omega
          have g5n : (kk == k') = false := by simp; omega
          have g6 : decide ((kk : Int) = (k' : Int)) = false := decide_eq_false (by omega)
          have g6n : decide (kk = k') = false := decide_eq_false (by omega)
          go_wp2
          as_aux_lemma =>
            refine wp_region_quiet_lit (by kernel_rfl) (lexQ_B (by kernel_rfl) (by kernel_rfl)) ?_
            simp only [List.append_eq, List.cons_append, List.nil_append]
            iterate 12 (try (go_big_quiet_step (fail)))
            as_aux_lemma =>
              iterate 12 (try (go_big_quiet_step (fail)))
              as_aux_lemma =>
                iterate 12 (try (go_big_quiet_step (fail)))
                as_aux_lemma =>
                  iterate 12 (try (go_big_quiet_step (fail)))
                  as_aux_lemma =>
                    iterate 12 (try (go_big_quiet_step (fail)))
                    as_aux_lemma =>
                      iterate 12 (try (go_big_quiet_step (fail)))
                      as_aux_lemma =>
                        iterate 12 (try (go_big_quiet_step (fail)))
                        as_aux_lemma =>
                          iterate 12 (try (go_big_quiet_step (fail)))
                          as_aux_lemma =>
                            iterate 12 (try (go_big_quiet_step (fail)))
                            as_aux_lemma =>
                              repeat (go_big_quiet_step (fail))
                              refine wpQuiet_nil ?_
                              intro _ hw'
                              obtain ⟨nq, hw''⟩ := hw'
                              subst hw''
                              go_wp2
                              go_roundw
                              case measure => simp [intOf]; omega
                              case rel => exact ⟨k + 1, by omega, by go_num, below_drewN hE0.out _⟩
        · have g4 : decide ((m : Int) ≤ (m' : Int)) = false := decide_eq_false (by omega)
          have g4n : decide (m ≤ m') = false := decide_eq_false (by omega)
          have g5 : decide ((k' : Int) < (k' : Int)) = false := decide_eq_false (by omega)
          have g5n : decide (k' < k') = false := decide_eq_false (by omega)
          have g6 : ((k' : Int) == (k' : Int)) = true := by simp
          go_wp2
          as_aux_lemma =>
            refine wp_region_quiet_lit (by kernel_rfl) (lexQ_B (by kernel_rfl) (by kernel_rfl)) ?_
            simp only [List.append_eq, List.cons_append, List.nil_append]
            iterate 12 (try (go_big_quiet_step (fail)))
            as_aux_lemma =>
              iterate 12 (try (go_big_quiet_step (fail)))
              as_aux_lemma =>
                iterate 12 (try (go_big_quiet_step (fail)))
                as_aux_lemma =>
                  iterate 12 (try (go_big_quiet_step (fail)))
                  as_aux_lemma =>
                    iterate 12 (try (go_big_quiet_step (fail)))
                    as_aux_lemma =>
                      iterate 12 (try (go_big_quiet_step (fail)))
                      as_aux_lemma =>
                        iterate 12 (try (go_big_quiet_step (fail)))
                        as_aux_lemma =>
                          iterate 12 (try (go_big_quiet_step (fail)))
                          as_aux_lemma =>
                            iterate 12 (try (go_big_quiet_step (fail)))
                            as_aux_lemma =>
                              repeat (go_big_quiet_step (fail))
                              refine wpQuiet_nil ?_
                              intro _ hw'
                              obtain ⟨nq, hw''⟩ := hw'
                              subst hw''
                              go_wp2
                              go_roundw
                              case measure => simp [intOf]; omega
                              case rel => exact ⟨k + 1, by omega, by go_num, below_drewN hE0.out _⟩
    · obtain rfl : k = L.length := by omega
      have HE0 := Lib.hid (show Ext w4 wr from hE)
      clear hE hlt
      obtain ⟨wo, rfl⟩ : ∃ wo : World, wo = wr := ⟨_, rfl⟩
      go_wp2
      go_loopw [6, 7] (fun v i wr => ∃ (k : Nat) (ps : List PT) (lim : Nat), k ≤ h.length ∧ i = .int .i64 k ∧ OwnT wr w4.heap.size lim v ps ∧ lim ≤ wr.heap.size ∧ ps.length = k ∧ (∀ p ∈ ps, p.ops.length ≤ 7 ∧ ∀ o ∈ p.ops, o.a = 2) ∧ Ext w4 wr) (fun _ i _ => h.length - (intOf i).toNat)
      case atStart =>
        have hz := HE0.out.size
        exact ⟨0, [], wo.heap.size, by omega, rfl, OwnT.made0 _ (by omega), by simp, rfl, (fun p hp => by cases hp), HE0.out.tr (by (repeat' (first | (with_reducible exact Below.refl _ _) | (with_reducible refine Below.mono (by assumption) ?_) | (with_reducible refine Below.trans ?_ (Below.mono (by assumption) ?_)) | (with_reducible refine Below.alloc ?_ ?_ _) | (with_reducible refine Below.drew ?_) | (with_reducible refine below_drewN ?_ _) | (with_reducible refine Below.setCell ?_ ?_ _) | (simp only [World.size_alloc, World.size_setCell, World.size_drew, size_drewN]; omega) | omega)))⟩
      case round =>
        obtain ⟨k, ps, lim, hk, rfl, hOT, hlim, hpl, hpw, hE⟩ := hrel
        by_cases hlt : k < h.length
        · obtain ⟨s, ops, d, A', cap, b2, off2, hxk2, rfl, _, hb20, hO, c0, c1, c2'⟩ := (HX4.out).at_ hlt
          have HO4 := Lib.hid hO
          have hol : ops.length ≤ 7 := (hsmall.2 _ (List.mem_of_getElem? hxk2)).2.1
          have HOT := Lib.hid hOT
          have HE := Lib.hid hE
          have d0 := hE.keep hb20 c0
          have d1 := hE.keep hb20 c1
          have d2 := hE.keep hb20 c2'
          have hb2w : b2 < wr.heap.size := by have := hE.size; omega
          have hsz := hE.size
          have f5 : (k : Int) < h.length := by omega
          clear hO hOT hE hxk2
          go_upto_region 16 with (fail)
          go_region
          go_upto_region 17 with (fail)
          have EB := Lib.hid (show Ext wr (wr.alloc (.cells #[.int .i64 s, .slice none 0 0, .bool d] 32)).drew from by (repeat' (first | (with_reducible exact Below.refl _ _) | (with_reducible refine Below.mono (by assumption) ?_) | (with_reducible refine Below.trans ?_ (Below.mono (by assumption) ?_)) | (with_reducible refine Below.alloc ?_ ?_ _) | (with_reducible refine Below.drew ?_) | (with_reducible refine below_drewN ?_ _) | (with_reducible refine Below.setCell ?_ ?_ _) | (simp only [World.size_alloc, World.size_setCell, World.size_drew, size_drewN]; omega) | omega)))
          have HB : Hid (Bld w4.heap.size w4 u6 ps wr.heap.size wr.heap.size s d none 0 [] (wr.alloc (.cells #[.int .i64 s, .slice none 0 0, .bool d] 32)).drew) := Lib.hid
            ⟨(HOT.out.lower hlim).ext EB.out, heap_alloc_new wr _, Own3.nil, Nat.le_refl _, hsz, (fun e => by have := (own_at HOT.out.1 e.symm).2; obtain ⟨cs, hcs⟩ := this; have := (Array.getElem?_eq_some_iff.1 hcs).1; omega), HE.out.tr EB.out, Nat.le_refl _⟩
          obtain ⟨g, hg⟩ : ∃ g, g = wr.heap.size := ⟨_, rfl⟩
          rw [← hg] at HB ⊢
          obtain ⟨w5, hw5⟩ : ∃ w5, w5 = (wr.alloc (.cells #[.int .i64 s, .slice none 0 0, .bool d] 32)).drew := ⟨_, rfl⟩
          rw [← hw5] at HB ⊢
          clear hw5 EB HOT d0 d1 d2 hb2w hg
          go_upto_region 17 with (fail)
          go_wp2
          go_loopw [9] (fun i wq => ∃ (j : Nat) (A : Option Addr) (c : Nat) (os : List T3), i = .int .i64 j ∧ j ≤ ops.length ∧ os.length ≤ j ∧ (∀ o ∈ os, o.a = 2) ∧ Bld w4.heap.size w4 u6 ps g g s d A c os wq) (fun i _ => ops.length - (intOf i).toNat)
          case atStart => exact ⟨0, none, 0, [], rfl, Nat.zero_le _, Nat.le_refl _, (fun o ho => by cases ho), HB.out⟩
          case round =>
            obtain ⟨j, A5, c5, os, rfl, hj, hos, hw2, hB⟩ := hrel
            have d0 := hB.ex.keep hb20 c0
            have d1 := hB.ex.keep hb20 c1
            have d2 := hB.ex.keep hb20 c2'
            have hb2w : b2 < wr.heap.size := by have := hB.ex.size; omega
            obtain ⟨e0, e1, e2, ef, eg⟩ := hB.cells
            have HB := Lib.hid hB
            by_cases hjl : j < ops.length
            · obtain ⟨y0, y1, y2, b3, off3, hyk, rfl, _, hb30, q0, q1, q2⟩ := HO4.out.at_ hjl
              have p0 := hB.ex.keep hb30 q0
              have p1 := hB.ex.keep hb30 q1
              have p2 := hB.ex.keep hb30 q2
              have hb3w : b3 < wr.heap.size := by have := hB.ex.size; omega
              have f6 : (j : Int) < ops.length := by omega
              clear hB hyk
              by_cases hy : y0 = 2
              · subst hy
                go_upto_region 21 with (fail)
                have hlbb := HB.out.lb
                go_region_law
                  ((refine step_appO rfl (.tmp 175) (.tmp 184) rfl g _ rfl os (HB.out.oo.ext (by (repeat' (first | (with_reducible exact Below.refl _ _) | (with_reducible refine Below.mono (by assumption) ?_) | (with_reducible refine Below.trans ?_ (Below.mono (by assumption) ?_)) | (with_reducible refine Below.alloc ?_ ?_ _) | (with_reducible refine Below.drew ?_) | (with_reducible refine below_drewN ?_ _) | (with_reducible refine Below.setCell ?_ ?_ _) | (simp only [World.size_alloc, World.size_setCell, World.size_drew, size_drewN]; omega) | omega)))) _ 2 y1 y2 rfl (boxO (W0 := wr) (t := 34) rfl (by (repeat' (first | (with_reducible exact Below.refl _ _) | (with_reducible refine Below.mono (by assumption) ?_) | (with_reducible refine Below.trans ?_ (Below.mono (by assumption) ?_)) | (with_reducible refine Below.alloc ?_ ?_ _) | (with_reducible refine Below.drew ?_) | (with_reducible refine below_drewN ?_ _) | (with_reducible refine Below.setCell ?_ ?_ _) | (simp only [World.size_alloc, World.size_setCell, World.size_drew, size_drewN]; omega) | omega)))) (by omega) (by simp only [World.size_alloc, World.size_drew]; omega) ?_
                    intro v9 w9 hown9 hgrow9
                    obtain ⟨ops9, hops9⟩ : ∃ o, o = os ++ [(⟨2, y1, y2⟩ : T3)] := ⟨_, rfl⟩
                    rw [← hops9] at hown9
                    obtain ⟨A9, c9, rfl, _, _⟩ := hown9.form
                    have h8 := (HB.out.ext (by (repeat' (first | (with_reducible exact Below.refl _ _) | (with_reducible refine Below.mono (by assumption) ?_) | (with_reducible refine Below.trans ?_ (Below.mono (by assumption) ?_)) | (with_reducible refine Below.alloc ?_ ?_ _) | (with_reducible refine Below.drew ?_) | (with_reducible refine below_drewN ?_ _) | (with_reducible refine Below.setCell ?_ ?_ _) | (simp only [World.size_alloc, World.size_setCell, World.size_drew, size_drewN]; omega) | omega)))).appCells hgrow9
                    obtain ⟨f1, f2, f3⟩ := h8
                    have hE9 := (HB.out.ext (by (repeat' (first | (with_reducible exact Below.refl _ _) | (with_reducible refine Below.mono (by assumption) ?_) | (with_reducible refine Below.trans ?_ (Below.mono (by assumption) ?_)) | (with_reducible refine Below.alloc ?_ ?_ _) | (with_reducible refine Below.drew ?_) | (with_reducible refine below_drewN ?_ _) | (with_reducible refine Below.setCell ?_ ?_ _) | (simp only [World.size_alloc, World.size_setCell, World.size_drew, size_drewN]; omega) | omega)))).grew hgrow9
                    have k1 := hE9.keep hb20 c1
                    have k2 := hE9.keep hb30 q0
                    have k3 := hE9.keep hb30 q1
                    have k4 := hE9.keep hb30 q2
                    have I8 := (HB.out.ext (by (repeat' (first | (with_reducible exact Below.refl _ _) | (with_reducible refine Below.mono (by assumption) ?_) | (with_reducible refine Below.trans ?_ (Below.mono (by assumption) ?_)) | (with_reducible refine Below.alloc ?_ ?_ _) | (with_reducible refine Below.drew ?_) | (with_reducible refine below_drewN ?_ _) | (with_reducible refine Below.setCell ?_ ?_ _) | (simp only [World.size_alloc, World.size_setCell, World.size_drew, size_drewN]; omega) | omega)))).app hgrow9 hown9))
                all_goals
                  have hn9 : ops9.length ≤ j + 1 := by rw [hops9]; simp; omega
                  have hw9 : ∀ o ∈ ops9, o.a = 2 := by
                    intro o ho
                    rw [hops9] at ho
                    rcases List.mem_append.1 ho with ho | ho
                    · exact hw2 o ho
                    · obtain rfl := List.mem_singleton.1 ho
                      rfl
                  have I9 := Lib.hid I8
                  have hl9 : os.length + 1 = ops9.length := by rw [hops9]; simp
                  rw [hl9]
                  clear hl9 hops9 hown9 hgrow9 f1 f2 I8 k1 k2 k3 k4
                  go_wp2
                  go_roundw
                  case measure => simp [intOf]; omega
                  case rel => exact ⟨j + 1, A9, c9, ops9, by go_num, by omega, hn9, hw9, by first | exact I9.out | exact I9.out.ext (Below.drew (Below.refl _ _))⟩
              · have hyb : (y0 == 2) = false := by simpa using hy
                have hyd : decide (y0 = 2) = false := decide_eq_false hy
                go_wp2
                go_roundw
                case measure => simp [intOf]; omega
                case rel => exact ⟨j + 1, A5, c5, os, by go_num, by omega, by omega, hw2, HB.out.ext (by (repeat' (first | (with_reducible exact Below.refl _ _) | (with_reducible refine Below.mono (by assumption) ?_) | (with_reducible refine Below.trans ?_ (Below.mono (by assumption) ?_)) | (with_reducible refine Below.alloc ?_ ?_ _) | (with_reducible refine Below.drew ?_) | (with_reducible refine below_drewN ?_ _) | (with_reducible refine Below.setCell ?_ ?_ _) | (simp only [World.size_alloc, World.size_setCell, World.size_drew, size_drewN]; omega) | omega)))⟩
            · obtain rfl : j = ops.length := by omega
              clear hB
              go_upto_region 22 with (fail)
              have HE7 := Lib.hid (HB.out.ext (W' := wr.alloc (.cells #[.int .i64 s, .slice A5 os.length c5, .bool d] 32)) (by (repeat' (first | (with_reducible exact Below.refl _ _) | (with_reducible refine Below.mono (by assumption) ?_) | (with_reducible refine Below.trans ?_ (Below.mono (by assumption) ?_)) | (with_reducible refine Below.alloc ?_ ?_ _) | (with_reducible refine Below.drew ?_) | (with_reducible refine below_drewN ?_ _) | (with_reducible refine Below.setCell ?_ ?_ _) | (simp only [World.size_alloc, World.size_setCell, World.size_drew, size_drewN]; omega) | omega))))
              have HPL := Lib.hid (fun a ha => HE7.out.oo.form'.2 a ha)
              have hlz : g ≤ (wr.alloc (.cells #[.int .i64 s, .slice A5 os.length c5, .bool d] 32)).heap.size := by simp only [World.size_alloc]; omega
              have hps8 : ps.length ≤ 8 := by have := hsmall.1; omega
              go_wp2_with (at_builtin; refine wpList_appendP _ rfl _ _ 23 rfl Tryd.underlying23 infoTxnO rfl _ ps rfl HE7.out.ot ⟨s, A5, c5, os, d⟩ (HE7.out.oo.below HE7.out.lb) HPL.out hlz _ rfl ((lit_cell _ _ _ 0).trans rfl) ((lit_cell _ _ _ 1).trans rfl) ((lit_cell _ _ _ 2).trans rfl) ?_ ?_ ?_)
              · omega
              · exact HE7.out.ex.size
              · intro v' w' hOT' hgr'
                have hx' : Ext w4 w' := Below.grown (w := wr.alloc (.cells #[.int .i64 s, .slice A5 os.length c5, .bool d] 32)) HE7.out.ex hgr' HE7.out.ex.size (fun q e => (own_at HE7.out.ot.1 e).1)
                have hz' := hgr'.size
                have hps' : ∀ p ∈ ps ++ [(⟨s, A5, c5, os, d⟩ : PT)], p.ops.length ≤ 7 ∧ ∀ o ∈ p.ops, o.a = 2 := by
                  intro p hp
                  rcases List.mem_append.1 hp with hp | hp
                  · exact hpw p hp
                  · obtain rfl := List.mem_singleton.1 hp
                    exact ⟨Nat.le_trans hos hol, hw2⟩
                have HOT' := Lib.hid hOT'
                have HX' := Lib.hid hx'
                clear hOT' hgr' hx' HE7 HPL
                go_wp2
                go_roundw
                case measure => simp [intOf]; omega
                case rel => exact ⟨k + 1, _, _, by omega, by go_num, HOT'.out, by simpa using hz', by simp; omega, hps', HX'.out⟩
        · obtain rfl : k = h.length := by omega
          obtain ⟨A9, c9, hv9, hc9, hx9⟩ := hOT.read
          subst hv9
          have hln : (ps.map PT.txn).length ≤ 8 := by have := hsmall.1; simp only [List.length_map]; omega
          have hsmw : Small (ps.map PT.txn) := by
            have h2 := total_small (h := ps.map PT.txn) (fun t ht => by
              obtain ⟨p, hp, rfl⟩ := List.mem_map.1 ht
              exact (hpw p hp).1)
            unfold Small
            omega
          have hnil : (if histv (ps.map PT.txn) = true then oeH (ps.map PT.txn) (ps.map PT.txn).length else []) = [] := by
            split
            · refine oeH_writes (fun t ht => ?_) _
              obtain ⟨p, hp, rfl⟩ := List.mem_map.1 ht
              exact (hpw p hp).2
            · rfl
          obtain ⟨H, hH⟩ : ∃ H, H = ps.map PT.txn := ⟨_, rfl⟩
          rw [← hH] at hsmw hnil hx9 ⊢
          have CE : Hid (∀ W, Txns (fun b => w4.heap.size ≤ b) W A9 H → Calls Tryd.prog 10 #[.slice A9 H.length c9] W (FreshP [] W)) := Lib.hid (fun W hx => by
            have := implOwnErrors_c H (fun b => w4.heap.size ≤ b) A9 c9 W hx hsmw
            rw [hnil] at this
            exact this)
          have HXw := Lib.hid hx9
          have HEw := Lib.hid (show Ext w wr from E4.out.tr hE)
          clear hx9 hnil hE hOT hH hpl hln
          go_wp2_with (fail)
          go_at_call 10
          refine (CE.out _ HXw.out).mono ?_
          rintro e w7 ⟨A7, c7, rfl, hI7, hf7, hb⟩
          obtain ⟨hc, hf, hz, hs⟩ := bcell hb
          (try simp only [World.size_alloc, World.size_setCell, World.size_drew, size_drewN] at hs); (first | have l0 := Nat.lt_of_lt_of_le l0 (show _ ≤ w7.heap.size by omega) | have l0 : w.heap.size < w7.heap.size := (by omega) | skip); (try have l0e := Nat.le_of_lt l0); (try have l0f := Nat.le_add_right_of_le (k := 1) l0e); (try have l1 := Nat.lt_of_lt_of_le l1 (show _ ≤ w7.heap.size by omega)); (try have l1e := Nat.le_of_lt l1); (try have l1f := Nat.le_add_right_of_le (k := 1) l1e); (try have l2 := Nat.lt_of_lt_of_le l2 (show _ ≤ w7.heap.size by omega)); (try have l2e := Nat.le_of_lt l2); (try have l2f := Nat.le_add_right_of_le (k := 1) l2e); (try have l3 := Nat.lt_of_lt_of_le l3 (show _ ≤ w7.heap.size by omega)); (try have l3e := Nat.le_of_lt l3); (try have l3f := Nat.le_add_right_of_le (k := 1) l3e)
          have HE7 := Lib.hid (HEw.out.tr hb)
          clear hb hc hf hz hf7 hI7
          go_wp2_with (fail)
          go_at_call 13
          refine (alive_c _).mono ?_
          rintro e w9 ⟨rfl, hb⟩
          obtain ⟨hc, hf, hz, hs⟩ := bcell hb
          (try simp only [World.size_alloc, World.size_setCell, World.size_drew, size_drewN] at hs); (first | have l0 := Nat.lt_of_lt_of_le l0 (show _ ≤ w9.heap.size by omega) | have l0 : w.heap.size < w9.heap.size := (by omega) | skip); (try have l0e := Nat.le_of_lt l0); (try have l0f := Nat.le_add_right_of_le (k := 1) l0e); (try have l1 := Nat.lt_of_lt_of_le l1 (show _ ≤ w9.heap.size by omega)); (try have l1e := Nat.le_of_lt l1); (try have l1f := Nat.le_add_right_of_le (k := 1) l1e); (try have l2 := Nat.lt_of_lt_of_le l2 (show _ ≤ w9.heap.size by omega)); (try have l2e := Nat.le_of_lt l2); (try have l2f := Nat.le_add_right_of_le (k := 1) l2e); (try have l3 := Nat.lt_of_lt_of_le l3 (show _ ≤ w9.heap.size by omega)); (try have l3e := Nat.le_of_lt l3); (try have l3f := Nat.le_add_right_of_le (k := 1) l3e)
          go_wp2
          go_ret
          exact ⟨rfl, HE7.out.tr hb⟩

theorem FnOwnErrors_reads (os : Os) {H : Type} (enc : TypeId × Value → H) : ∃ places, DataW.whole enc Tryd.prog ((Law.laidWorld os).forCall (fun _ _ => 0) ⟨#[], #[.slice none 0 0], []⟩).memory Tryd.f3.params.toList Rows.fnOwnErrorsSpec.vars false (#[.slice none 0 0] : Array Value).toList 8 = some ([.nil], [], places) :=
  ⟨[], by kernel_rfl⟩
theorem FnOwnErrors_laid (os : Os) : laidMet Tryd.prog Rows.fnOwnErrorsRow.laid ((Law.laidWorld os).forCall (fun _ _ => 0) ⟨#[], #[.slice none 0 0], []⟩).memory :=
  laidMet_of_run' 8 (by kernel_rfl) (by kernel_rfl)
set_option maxRecDepth 100000 in
theorem FnOwnErrors_lifted (os : Os) (started : os.Started) (H : Type) (enc : TypeId × Value → H) (F : Stop.Interp) :
    ReturnsInHanded {} Tryd.checked os 3 .any ((OpenSpec.ofChange Rows.fnOwnErrorsSpec).preRow enc Tryd.prog Tryd.f3 Rows.fnOwnErrorsRow.domain false Rows.fnOwnErrorsRow.laid) (((OpenSpec.ofChange Rows.fnOwnErrorsSpec).at F).post enc Tryd.prog Tryd.f3 false true false false) := by
  obtain ⟨places, hx⟩ := FnOwnErrors_reads os enc
  refine returnsInHanded_of_row (C := Tryd.checked) (s := OpenSpec.ofChange Rows.fnOwnErrorsSpec) Law.own started (by kernel_rfl) Tryd.func3
    (witness_row_at (enc := enc) (C := Tryd.checked) false (Law.laidWorld os) #[.slice none 0 0] rfl (by kernel_rfl) (by kernel_rfl) (by kernel_rfl)
      (OpenSpec.preRow_of_cond 8 hx (by kernel_rfl) (fun k hk => by cases hk) (by kernel_rfl) (FnOwnErrors_laid os))) ?_
  intro W base args ds gs before hval0 hW _ _ _ hLaid _ _
  have hval : ∀ (j : Nat) t v, Tryd.f3.params[j]? = some t → args[j]? = some v → Value.okWide Tryd.prog W .any base t v := hval0
  have hW' := hW
  obtain ⟨p, q, hA0, hV, rfl, hfz, hnd⟩ := hW
  have hA : DataW.TrodAll enc Tryd.prog W 0 (fun _ => true) true Tryd.f3.params.toList args.toList ds p := hA0
  rw [Tryd.params3] at hA hval
  obtain ⟨v0, vs0, d0, ds0, p0, q0, hargs, hds, rfl, h0, r0⟩ := trodAll_cons hA
  obtain ⟨rfl, rfl, rfl⟩ := trodAll_nil r0
  obtain rfl : args = #[v0] := by cases args; simp_all
  subst hds
  obtain ⟨x0, A0, c0, rfl, hO0, wf0⟩ := Law.open_bytes Tryd.underlying22 Tryd.underlying5 (by kernel_rfl) (hval 0 22 v0 rfl rfl) h0
  refine (FnOwnErrors_c x0 A0 c0 W hO0 wf0 (Law.bytes_cap Tryd.underlying22 (hval 0 22 _ rfl rfl))).mono fun e W' ⟨he, hb⟩ => ?_
  subst he
  refine ⟨_, rfl, Law.post_true Law.laidOut ?_ rfl rfl Tryd.underlying4 ⟨rfl, rfl, rfl⟩ hW' hb⟩
  intro t ht
  rw [Tryd.params3] at ht
  simp only [List.mem_cons, List.not_mem_nil, or_false] at ht
  first | (rcases ht with rfl <;> exact ⟨by kernel_rfl, of_decide_eq_true (by kernel_rfl)⟩)

theorem FnOwnErrors_holds : Rows.FnOwnErrorsSaid :=
  OpenClaim.holds_of_cond 3 Tryd.f3 rfl rfl rfl rfl rfl rfl rfl ⟨rfl, rfl, rfl, rfl, rfl⟩ rfl rfl rfl rfl rfl (by kernel_rfl) Tryd.func3 (by kernel_rfl)
    (of_decide_eq_true (by kernel_rfl)) (by unfold Func.isWrapper; first | (rw [if_pos (by decide +kernel)]; kernel_rfl) | (rw [if_neg (by decide +kernel)]; exact ⟨rfl, rfl⟩))
    (fun os started H enc _ F => by rw [OpenClaim.pre_eq_preRow]; exact FnOwnErrors_lifted os started H enc F)
theorem FnOwnErrors_plain (f : FuncId) (fn : Func) (hf : Tryd.pinned.checked.prog.funcNamed Rows.fnOwnErrorsRow.func = some f) (hfn : Tryd.pinned.checked.prog.funcs[f]? = some fn) :
    false = Tryd.pinned.checked.prog.looks [] ∧ ∀ (j : Nat) t, fn.params[j]? = some t → Tryd.pinned.checked.prog.wantsStandIn t = false := by
  obtain rfl : f = 3 := Option.some.inj ((show Tryd.prog.funcNamed Rows.fnOwnErrorsRow.func = some 3 by kernel_rfl).symm.trans hf) |>.symm
  obtain rfl : fn = Tryd.f3 := (Option.some.inj (Tryd.func3.symm.trans hfn)).symm
  refine ⟨by kernel_rfl, fun j t ht => ?_⟩
  rw [Tryd.params3] at ht
  have hm := Array.mem_of_getElem? ht
  simp only [List.mem_toArray, List.mem_cons, List.not_mem_nil, or_false] at hm
  rcases hm with rfl
  · exact (show Tryd.prog.wantsStandIn 22 = false by kernel_rfl)
theorem FnOwnErrors_card : Rows.FnOwnErrorsCardSaid :=
  Claim7.holds_tied_plain_at .later [] _ _ _ _ FnOwnErrors_holds (fun _ h => by cases h) (by kernel_rfl) (fun _ h => by cases h) fnOwnErrors_row_tie rfl ⟨rfl, rfl⟩ (by kernel_rfl) rfl FnOwnErrors_plain (by kernel_rfl)

end Go.Proofs.YtdgfipoibnjhaaaDoor
