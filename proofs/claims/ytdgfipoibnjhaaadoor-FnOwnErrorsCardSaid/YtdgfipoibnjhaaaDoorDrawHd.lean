/-
  Contracts of drawn histories and transactions.
-/
import Derived.Test.YtdgfipoibnjhaaaDoorDrawHi
import Derived.Test.YtdgfipoibnjhaaaDoorDrawOp
import Derived.Laws.AppendOwnNone
namespace Go.Proofs.YtdgfipoibnjhaaaDoor
set_option linter.unusedSimpArgs false
set_option linter.unusedVariables false
set_option maxRecDepth 100000
open Go.RowKit

/-- append of the elements of a slice of three-number structs, wherever it lies -/
theorem wpList_append3s {P : Program} (w : World) {ops : Array Oper} {rest : List Oper} {o : Oper} {a : Act} {Q : Exit → Act → World → Prop} (hgd : o.guard = none) (s x : Operand) (t : TypeId)
    (ho : o.op = .call { callee := .builtin .append, args := #[s, x], argTypes := #[t, t] })
    (base : Nat) (e : TypeId) {z : Value} (ht : P.underlying t = some (.slice e)) (hinfo : (P.info? e).map (fun i => (i.zero, i.size, i.bytes)) = some (some z, 3, 24)) (hzs : z.cells.size = 3)
    (v : Value) (xs : List T3) (hs : a.eval s = v) (hown : Own3 w base e v xs)
    (S : Nat → Prop) (A : Option Addr) (c : Nat) (ys : List T3) (hx : a.eval x = .slice A ys.length c) (hu : Ops S w A ys) (hc0 : A = none → c = 0)
    (hn : xs.length + ys.length ≤ 4194304) (hbase : base ≤ w.heap.size)
    (h : ∀ v' w', Own3 w' base e v' (xs ++ ys) → w.grownBy w' v.ownBlock → wpList P ops Q rest (a.put o.dst v') w') : wpList P ops Q (o :: rest) a w := by
  obtain ⟨i0, hi, hz0, hz1, hz2⟩ := info_parts hinfo
  have f3 : ∀ (zs : List T3), ∀ u ∈ flat3 zs, u.oneCell' = true := by
    intro zs u hu
    simp only [flat3, List.mem_flatMap] at hu
    obtain ⟨x, _, hu⟩ := hu
    simp at hu
    rcases hu with rfl | rfl | rfl <;> rfl
  have fin : ∀ v' w', w'.ownsRow base e 3 v' (xs.length + ys.length) (flat3 xs ++ flat3 ys) → w.grownBy w' v.ownBlock → wpList P ops Q rest (a.put o.dst v') w' := fun v' w' h1 h2 => by
    refine h v' w' ?_ h2
    unfold Own3
    rw [flat3_app, List.length_append]
    exact h1
  cases A with
  | none =>
    have h0 : ys = [] := by
      cases ys with
      | nil => rfl
      | cons y zs =>
        obtain ⟨b, off, us, e, _⟩ := hu 0 y rfl
        cases e
    subst h0
    obtain rfl := hc0 rfl
    refine wpList_append_own_none hgd s x t ho base e i0 3 ht hi v xs.length (flat3 xs) hs hown hx ?_
    exact h v w (by simpa using hown) (grown_refl _ _)
  | some ad =>
    refine wpList_append_own w hgd s x t ho base e i0 z 3 24 ht hi hz0 hz1 hz2 hzs (by decide) v xs.length (flat3 xs) hs hown ad ys.length c (flat3 ys) hx (flat3_len ys) ?_ (f3 ys) (by unfold maxLen; omega) (by omega) hbase (fun v' w' h1 h2 _ => fin v' w' h1 h2)
    intro n u hu'
    have hn' : n < (flat3 ys).length := (List.getElem?_eq_some_iff.1 hu').1
    rw [flat3_len] at hn'
    obtain ⟨y, hy⟩ : ∃ y, ys[n / 3]? = some y := ⟨_, List.getElem?_eq_getElem (by omega)⟩
    obtain ⟨b', off', us, e, _, _, _, hr, hc⟩ := hu (n / 3) y hy
    cases e
    cases hr
    have hj : ([.int .i64 y.a, .int .i64 y.b, .int .i64 y.c] : List Value)[n % 3]? = some u := by
      have hm : n % 3 < 3 := Nat.mod_lt _ (by omega)
      obtain ⟨u2, hu2⟩ : ∃ u2, ([.int .i64 y.a, .int .i64 y.b, .int .i64 y.c] : List Value)[n % 3]? = some u2 := ⟨_, List.getElem?_eq_getElem (by simpa using hm)⟩
      have := flat3_at ys (n / 3) y hy (n % 3) u2 hu2
      rw [show n / 3 * 3 + n % 3 = n by omega, hu'] at this
      rw [hu2, ← this]
    have := hc (n % 3) u hj
    rw [show off' + n / 3 * 3 + n % 3 = off' + n by omega] at this
    rw [← this]
    unfold Addr.add
    split
    · rename_i h0
      have h0 : n = 0 := by simpa using h0
      subst h0
      rfl
    · rfl

/-- what a drawn history is -/
def SmallH (h : List TxnT) : Prop := h.length ≤ 8 ∧ ∀ t ∈ h, SmallI t.sess ∧ t.ops.length ≤ 7 ∧ ∀ o ∈ t.ops, SmallOp o
theorem total_small {h : List TxnT} (ho : ∀ t ∈ h, t.ops.length ≤ 7) : total h ≤ 7 * h.length := by
  induction h with
  | nil => simp [total]
  | cons t ts ih =>
    have h1 := ho t (by simp)
    have h2 := ih (fun t ht => ho t (by simp [ht]))
    simp only [total, List.map_cons, List.sum_cons, List.length_cons] at h2 ⊢
    omega
theorem SmallH.small {h : List TxnT} (hs : SmallH h) : Small h := by
  have := total_small (fun t ht => (hs.2 t ht).2.1)
  have := hs.1
  unfold Small
  omega
/-- a drawn history in the reader's words; old memory is as it was -/
def DrewH (w : World) (e : Ending) (w' : World) : Prop := ∃ (ps : List PT) (lim : Nat) (vo : Value), e = .returned vo ∧ OwnT w' w.heap.size lim vo ps ∧ ps.length ≤ 8 ∧ (∀ p ∈ ps, p.small) ∧ Ext w w'
theorem small_map {ps : List PT} (h1 : ps.length ≤ 8) (h2 : ∀ p ∈ ps, p.small) : SmallH (ps.map PT.txn) := ⟨by simpa using h1, fun t ht => by
  obtain ⟨p, hp, rfl⟩ := List.mem_map.1 ht
  exact h2 p hp⟩
theorem OwnT.read {w : World} {B lim : Nat} {v : Value} {ps : List PT} (h : OwnT w B lim v ps) : ∃ A c, v = .slice A (ps.map PT.txn).length c ∧ (ps.map PT.txn).length ≤ c ∧ Txns (fun b => B ≤ b) w A (ps.map PT.txn) := by
  obtain ⟨A, c, hv, hc, hT, _⟩ := h.txns
  have hl : (ps.map PT.txn).length = ps.length := by simp
  exact ⟨A, c, by rw [hl]; exact hv, by omega, hT⟩
theorem DrawOwnErrors_c (xs : List Int) (A : Option Addr) (c : Nat) (w : World) (h : Byts Any w A xs) (hv : ∀ x ∈ xs, 0 ≤ x ∧ x ≤ 255) (hc : xs.length ≤ c) :
    Calls Tryd.prog 9 #[.slice A xs.length c] w (DrewH w) := by
  go_enter Tryd.func9, Tryd.ntmps9
  go_wp2_with (fail)
  go_at_call 35
  refine (l20Open_c xs A c _ (h.ext (by (repeat' (first | (with_reducible exact Below.refl _ _) | (with_reducible refine Below.mono (by assumption) ?_) | (with_reducible refine Below.trans ?_ (Below.mono (by assumption) ?_)) | (with_reducible refine Below.alloc ?_ ?_ _) | (with_reducible refine Below.drew ?_) | (with_reducible refine below_drewN ?_ _) | (with_reducible refine Below.setCell ?_ ?_ _) | (simp only [World.size_alloc, World.size_setCell, World.size_drew, size_drewN]; omega) | omega)))) hv hc).mono ?_
  rintro e w1 ⟨r, rfl, hr, hR, hb⟩
  obtain ⟨hc, hf, hz, hs⟩ := bcell hb
  (try simp only [World.size_alloc, World.size_setCell, World.size_drew, size_drewN] at hs); (first | have l0 := Nat.lt_of_lt_of_le l0 (show _ ≤ w1.heap.size by omega) | have l0 : w.heap.size < w1.heap.size := (by omega) | skip); (try have l0e := Nat.le_of_lt l0); (try have l0f := Nat.le_add_right_of_le (k := 1) l0e); (try have l1 := Nat.lt_of_lt_of_le l1 (show _ ≤ w1.heap.size by omega)); (try have l1e := Nat.le_of_lt l1); (try have l1f := Nat.le_add_right_of_le (k := 1) l1e); (try have l2 := Nat.lt_of_lt_of_le l2 (show _ ≤ w1.heap.size by omega)); (try have l2e := Nat.le_of_lt l2); (try have l2f := Nat.le_add_right_of_le (k := 1) l2e); (try have l3 := Nat.lt_of_lt_of_le l3 (show _ ≤ w1.heap.size by omega)); (try have l3e := Nat.le_of_lt l3); (try have l3f := Nat.le_add_right_of_le (k := 1) l3e)
  have hb_1 := hb
  go_wp2_with (fail)
  go_at_call 34
  refine (l20History_c r 0 5 9 _ hR (by omega) (by omega) (by omega) (by omega)).mono ?_
  rintro e w2 ⟨ps, lim, vo, rfl, hT, hl, hps, hR2, hG⟩
  obtain ⟨hc, hf, hz, hs⟩ := gcell hG
  (try simp only [World.size_alloc, World.size_setCell, World.size_drew, size_drewN] at hs); (first | have l0 := Nat.lt_of_lt_of_le l0 (show _ ≤ w2.heap.size by omega) | have l0 : w.heap.size < w2.heap.size := (by omega) | skip); (try have l0e := Nat.le_of_lt l0); (try have l0f := Nat.le_add_right_of_le (k := 1) l0e); (try have l1 := Nat.lt_of_lt_of_le l1 (show _ ≤ w2.heap.size by omega)); (try have l1e := Nat.le_of_lt l1); (try have l1f := Nat.le_add_right_of_le (k := 1) l1e); (try have l2 := Nat.lt_of_lt_of_le l2 (show _ ≤ w2.heap.size by omega)); (try have l2e := Nat.le_of_lt l2); (try have l2f := Nat.le_add_right_of_le (k := 1) l2e); (try have l3 := Nat.lt_of_lt_of_le l3 (show _ ≤ w2.heap.size by omega)); (try have l3e := Nat.le_of_lt l3); (try have l3f := Nat.le_add_right_of_le (k := 1) l3e)
  go_wp2
  go_ret
  exact ⟨ps, lim, vo, rfl, hT.below hb_1.size, hl, hps, grown_new hb_1 hr hG⟩
theorem DrawFirstOrders_c (xs : List Int) (A : Option Addr) (c : Nat) (w : World) (h : Byts Any w A xs) (hv : ∀ x ∈ xs, 0 ≤ x ∧ x ≤ 255) (hc : xs.length ≤ c) :
    Calls Tryd.prog 22 #[.slice A xs.length c] w (DrewH w) := by
  go_enter Tryd.func22, Tryd.ntmps22
  go_wp2_with (fail)
  go_at_call 35
  refine (l20Open_c xs A c _ (h.ext (by (repeat' (first | (with_reducible exact Below.refl _ _) | (with_reducible refine Below.mono (by assumption) ?_) | (with_reducible refine Below.trans ?_ (Below.mono (by assumption) ?_)) | (with_reducible refine Below.alloc ?_ ?_ _) | (with_reducible refine Below.drew ?_) | (with_reducible refine below_drewN ?_ _) | (with_reducible refine Below.setCell ?_ ?_ _) | (simp only [World.size_alloc, World.size_setCell, World.size_drew, size_drewN]; omega) | omega)))) hv hc).mono ?_
  rintro e w1 ⟨r, rfl, hr, hR, hb⟩
  obtain ⟨hc, hf, hz, hs⟩ := bcell hb
  (try simp only [World.size_alloc, World.size_setCell, World.size_drew, size_drewN] at hs); (first | have l0 := Nat.lt_of_lt_of_le l0 (show _ ≤ w1.heap.size by omega) | have l0 : w.heap.size < w1.heap.size := (by omega) | skip); (try have l0e := Nat.le_of_lt l0); (try have l0f := Nat.le_add_right_of_le (k := 1) l0e); (try have l1 := Nat.lt_of_lt_of_le l1 (show _ ≤ w1.heap.size by omega)); (try have l1e := Nat.le_of_lt l1); (try have l1f := Nat.le_add_right_of_le (k := 1) l1e); (try have l2 := Nat.lt_of_lt_of_le l2 (show _ ≤ w1.heap.size by omega)); (try have l2e := Nat.le_of_lt l2); (try have l2f := Nat.le_add_right_of_le (k := 1) l2e); (try have l3 := Nat.lt_of_lt_of_le l3 (show _ ≤ w1.heap.size by omega)); (try have l3e := Nat.le_of_lt l3); (try have l3f := Nat.le_add_right_of_le (k := 1) l3e)
  have hb_1 := hb
  go_wp2_with (fail)
  go_at_call 34
  refine (l20History_c r 0 5 9 _ hR (by omega) (by omega) (by omega) (by omega)).mono ?_
  rintro e w2 ⟨ps, lim, vo, rfl, hT, hl, hps, hR2, hG⟩
  obtain ⟨hc, hf, hz, hs⟩ := gcell hG
  (try simp only [World.size_alloc, World.size_setCell, World.size_drew, size_drewN] at hs); (first | have l0 := Nat.lt_of_lt_of_le l0 (show _ ≤ w2.heap.size by omega) | have l0 : w.heap.size < w2.heap.size := (by omega) | skip); (try have l0e := Nat.le_of_lt l0); (try have l0f := Nat.le_add_right_of_le (k := 1) l0e); (try have l1 := Nat.lt_of_lt_of_le l1 (show _ ≤ w2.heap.size by omega)); (try have l1e := Nat.le_of_lt l1); (try have l1f := Nat.le_add_right_of_le (k := 1) l1e); (try have l2 := Nat.lt_of_lt_of_le l2 (show _ ≤ w2.heap.size by omega)); (try have l2e := Nat.le_of_lt l2); (try have l2f := Nat.le_add_right_of_le (k := 1) l2e); (try have l3 := Nat.lt_of_lt_of_le l3 (show _ ≤ w2.heap.size by omega)); (try have l3e := Nat.le_of_lt l3); (try have l3f := Nat.le_add_right_of_le (k := 1) l3e)
  go_wp2
  go_ret
  exact ⟨ps, lim, vo, rfl, hT.below hb_1.size, hl, hps, grown_new hb_1 hr hG⟩
theorem DrawAllOrders_c (xs : List Int) (A : Option Addr) (c : Nat) (w : World) (h : Byts Any w A xs) (hv : ∀ x ∈ xs, 0 ≤ x ∧ x ≤ 255) (hc : xs.length ≤ c) :
    Calls Tryd.prog 28 #[.slice A xs.length c] w (DrewH w) := by
  go_enter Tryd.func28, Tryd.ntmps28
  go_wp2_with (fail)
  go_at_call 35
  refine (l20Open_c xs A c _ (h.ext (by (repeat' (first | (with_reducible exact Below.refl _ _) | (with_reducible refine Below.mono (by assumption) ?_) | (with_reducible refine Below.trans ?_ (Below.mono (by assumption) ?_)) | (with_reducible refine Below.alloc ?_ ?_ _) | (with_reducible refine Below.drew ?_) | (with_reducible refine below_drewN ?_ _) | (with_reducible refine Below.setCell ?_ ?_ _) | (simp only [World.size_alloc, World.size_setCell, World.size_drew, size_drewN]; omega) | omega)))) hv hc).mono ?_
  rintro e w1 ⟨r, rfl, hr, hR, hb⟩
  obtain ⟨hc, hf, hz, hs⟩ := bcell hb
  (try simp only [World.size_alloc, World.size_setCell, World.size_drew, size_drewN] at hs); (first | have l0 := Nat.lt_of_lt_of_le l0 (show _ ≤ w1.heap.size by omega) | have l0 : w.heap.size < w1.heap.size := (by omega) | skip); (try have l0e := Nat.le_of_lt l0); (try have l0f := Nat.le_add_right_of_le (k := 1) l0e); (try have l1 := Nat.lt_of_lt_of_le l1 (show _ ≤ w1.heap.size by omega)); (try have l1e := Nat.le_of_lt l1); (try have l1f := Nat.le_add_right_of_le (k := 1) l1e); (try have l2 := Nat.lt_of_lt_of_le l2 (show _ ≤ w1.heap.size by omega)); (try have l2e := Nat.le_of_lt l2); (try have l2f := Nat.le_add_right_of_le (k := 1) l2e); (try have l3 := Nat.lt_of_lt_of_le l3 (show _ ≤ w1.heap.size by omega)); (try have l3e := Nat.le_of_lt l3); (try have l3f := Nat.le_add_right_of_le (k := 1) l3e)
  have hb_1 := hb
  go_wp2_with (fail)
  go_at_call 34
  refine (l20History_c r 0 4 9 _ hR (by omega) (by omega) (by omega) (by omega)).mono ?_
  rintro e w2 ⟨ps, lim, vo, rfl, hT, hl, hps, hR2, hG⟩
  obtain ⟨hc, hf, hz, hs⟩ := gcell hG
  (try simp only [World.size_alloc, World.size_setCell, World.size_drew, size_drewN] at hs); (first | have l0 := Nat.lt_of_lt_of_le l0 (show _ ≤ w2.heap.size by omega) | have l0 : w.heap.size < w2.heap.size := (by omega) | skip); (try have l0e := Nat.le_of_lt l0); (try have l0f := Nat.le_add_right_of_le (k := 1) l0e); (try have l1 := Nat.lt_of_lt_of_le l1 (show _ ≤ w2.heap.size by omega)); (try have l1e := Nat.le_of_lt l1); (try have l1f := Nat.le_add_right_of_le (k := 1) l1e); (try have l2 := Nat.lt_of_lt_of_le l2 (show _ ≤ w2.heap.size by omega)); (try have l2e := Nat.le_of_lt l2); (try have l2f := Nat.le_add_right_of_le (k := 1) l2e); (try have l3 := Nat.lt_of_lt_of_le l3 (show _ ≤ w2.heap.size by omega)); (try have l3e := Nat.le_of_lt l3); (try have l3f := Nat.le_add_right_of_le (k := 1) l3e)
  go_wp2
  go_ret
  exact ⟨ps, lim, vo, rfl, hT.below hb_1.size, hl, hps, grown_new hb_1 hr hG⟩
theorem DrewH.read {w w' : World} {e : Ending} (h : DrewH w e w') : ∃ (h : List TxnT) (A : Option Addr) (c : Nat), e = .returned (.slice A h.length c) ∧ h.length ≤ c ∧ Txns (fun b => w.heap.size ≤ b) w' A h ∧ SmallH h ∧ Ext w w' := by
  obtain ⟨ps, lim, vo, rfl, hT, hl, hs, hE⟩ := h
  obtain ⟨A, c, rfl, hc, hx⟩ := hT.read
  exact ⟨_, A, c, rfl, hc, hx, small_map hl hs, hE⟩
theorem txns_pick {B r : Nat} {W W' : World} {A : Option Addr} {h : List TxnT} (hx : Txns (fun b => B ≤ b) W A h) (hG : W.grownBy W' (some r)) (hr : r < B) : Txns (fun b => B ≤ b) W' A h := by
  have hk : ∀ p : Addr, B ≤ p.block → p.block < W.heap.size → W'.cell? p = W.cell? p := fun p hp hlt => World.cell?_of_block (hG.block p.block hlt (fun e => by have := Option.some.inj e; omega))
  exact SlAt.keep hx (kept_txn hG.size hk) hG.size hk
theorem txns_low {B B' : Nat} {W : World} {A : Option Addr} {h : List TxnT} (hx : Txns (fun b => B ≤ b) W A h) (hb : B' ≤ B) : Txns (fun b => B' ≤ b) W A h :=
  SlAt.mono hx (fun _ h _ => Nat.le_trans hb h) (mono_txn (fun _ h _ => Nat.le_trans hb h))
theorem ops_pick {B r : Nat} {W W' : World} {A : Option Addr} {h : List T3} (hx : Ops (fun b => B ≤ b) W A h) (hG : W.grownBy W' (some r)) (hr : r < B) : Ops (fun b => B ≤ b) W' A h := by
  have hk : ∀ p : Addr, B ≤ p.block → p.block < W.heap.size → W'.cell? p = W.cell? p := fun p hp hlt => World.cell?_of_block (hG.block p.block hlt (fun e => by have := Option.some.inj e; omega))
  exact SlAt.keep hx (kept_3 _ _) hG.size hk
/-- a drawn transaction; old memory is as it was -/
def DrewT (w : World) (e : Ending) (w' : World) : Prop := ∃ (t : TxnT) (A : Option Addr) (c : Nat), e = .returned (.agg #[.int .i64 t.sess, .slice A t.ops.length c, .bool t.done]) ∧ Ops (fun b => w.heap.size ≤ b) w' A t.ops ∧ SmallI t.sess ∧ t.ops.length ≤ 9 ∧ (∀ o ∈ t.ops, SmallOp o) ∧ Ext w w'
theorem ops_low {B B' : Nat} {W : World} {A : Option Addr} {h : List T3} (hx : Ops (fun b => B ≤ b) W A h) (hb : B' ≤ B) : Ops (fun b => B' ≤ b) W A h := SlAt.mono hx (fun _ h _ => Nat.le_trans hb h) (fun _ _ h => h)
theorem ops_store {B g : Nat} {W W' : World} {A : Option Addr} {h : List T3} (hx : Ops (fun b => B ≤ b) W A h) (hG : W.grownBy W' (some g)) (hr : g < B) : Ops (fun b => B ≤ b) W' A h := ops_pick hx hG hr
end Go.Proofs.YtdgfipoibnjhaaaDoor
