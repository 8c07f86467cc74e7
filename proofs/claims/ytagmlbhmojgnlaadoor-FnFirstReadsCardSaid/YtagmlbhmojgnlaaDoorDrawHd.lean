/-
  Contracts of drawn histories and transactions.
-/
import Derived.Test.YtagmlbhmojgnlaaDoorDrawHi
import Derived.Test.YtagmlbhmojgnlaaDoorDrawOp
import Derived.Laws.AppendOwnNone
namespace Go.Proofs.YtagmlbhmojgnlaaDoor
set_option linter.unusedSimpArgs false
set_option linter.unusedVariables false
set_option maxRecDepth 100000
open Go.RowKit

/-- append of the elements of a slice of three-number structs, wherever it lies -/
theorem wpList_append3s {P : Program} (w : World) {ops : Array Oper} {rest : List Oper} {o : Oper} {a : Act} {Q : Exit → Act → World → Prop} (hgd : o.guard = none) (s x : Operand) (t : TypeId)
    (ho : o.op = .call { callee := .builtin .append, args := #[s, x], argTypes := #[t, t] })
    (base : Nat) (e : TypeId) {z : Value} (ht : P.underlying t = some (.slice e)) (hinfo : (P.info? e).map (fun i => (i.zero, i.size, i.bytes)) = some (some z, 3, 24)) (hzs : z.cells.size = 3)
    (v : Value) (xs : List T3) (hs : a.eval s = v) (hown : Own3 w base e v xs)
    (S : Nat → Prop) (A : Option Addr) (c : Nat) (ys : List T3) (hx : a.eval x = .slice A ys.length c) (hu : Ops S w A ys) (hc0 : A = none → c = 0)
    (hn : xs.length + ys.length ≤ 4194304) (hbase : base ≤ w.heap.size)
    (h : ∀ v' w', Own3 w' base e v' (xs ++ ys) → w.grownBy w' v.ownBlock → wpList P ops Q rest (a.put o.dst v') w') : wpList P ops Q (o :: rest) a w := by
  obtain ⟨i0, hi, hz0, hz1, hz2⟩ := info_parts hinfo
  have f3 : ∀ (zs : List T3), ∀ u ∈ flat3 zs, u.oneCell' = true := by
    intro zs u hu
    simp only [flat3, List.mem_flatMap] at hu
    obtain ⟨x, _, hu⟩ := hu
    simp at hu
    rcases hu with rfl | rfl | rfl <;> rfl
  have fin : ∀ v' w', w'.ownsRow base e 3 v' (xs.length + ys.length) (flat3 xs ++ flat3 ys) → w.grownBy w' v.ownBlock → wpList P ops Q rest (a.put o.dst v') w' := fun v' w' h1 h2 => by
    refine h v' w' ?_ h2
    unfold Own3
    rw [flat3_app, List.length_append]
    exact h1
  cases A with
  | none =>
    have h0 : ys = [] := by
      cases ys with
      | nil => rfl
      | cons y zs =>
        obtain ⟨b, off, us, e, _⟩ := hu 0 y rfl
        cases e
    subst h0
    obtain rfl := hc0 rfl
    refine wpList_append_own_none hgd s x t ho base e i0 3 ht hi v xs.length (flat3 xs) hs hown hx ?_
    exact h v w (by simpa using hown) (grown_refl _ _)
  | some ad =>
    refine wpList_append_own w hgd s x t ho base e i0 z 3 24 ht hi hz0 hz1 hz2 hzs (by decide) v xs.length (flat3 xs) hs hown ad ys.length c (flat3 ys) hx (flat3_len ys) ?_ (f3 ys) (by unfold maxLen; omega) (by omega) hbase (fun v' w' h1 h2 _ => fin v' w' h1 h2)
    intro n u hu'
    have hn' : n < (flat3 ys).length := (List.getElem?_eq_some_iff.1 hu').1
    rw [flat3_len] at hn'
    obtain ⟨y, hy⟩ : ∃ y, ys[n / 3]? = some y := ⟨_, List.getElem?_eq_getElem (by omega)⟩
    obtain ⟨b', off', us, e, _, _, _, hr, hc⟩ := hu (n / 3) y hy
    cases e
    cases hr
    have hj : ([.int .i64 y.a, .int .i64 y.b, .int .i64 y.c] : List Value)[n % 3]? = some u := by
      have hm : n % 3 < 3 := Nat.mod_lt _ (by omega)
      obtain ⟨u2, hu2⟩ : ∃ u2, ([.int .i64 y.a, .int .i64 y.b, .int .i64 y.c] : List Value)[n % 3]? = some u2 := ⟨_, List.getElem?_eq_getElem (by simpa using hm)⟩
      have := flat3_at ys (n / 3) y hy (n % 3) u2 hu2
      rw [show n / 3 * 3 + n % 3 = n by omega, hu'] at this
      rw [hu2, ← this]
    have := hc (n % 3) u hj
    rw [show off' + n / 3 * 3 + n % 3 = off' + n by omega] at this
    rw [← this]
    unfold Addr.add
    split
    · rename_i h0
      have h0 : n = 0 := by simpa using h0
      subst h0
      rfl
    · rfl

/-- what a drawn history is -/
def SmallH (h : List TxnT) : Prop := h.length ≤ 8 ∧ ∀ t ∈ h, SmallI t.sess ∧ t.ops.length ≤ 7 ∧ ∀ o ∈ t.ops, SmallOp o
theorem total_small {h : List TxnT} (ho : ∀ t ∈ h, t.ops.length ≤ 7) : total h ≤ 7 * h.length := by
  induction h with
  | nil => simp [total]
  | cons t ts ih =>
    have h1 := ho t (by simp)
    have h2 := ih (fun t ht => ho t (by simp [ht]))
    simp only [total, List.map_cons, List.sum_cons, List.length_cons] at h2 ⊢
    omega
theorem SmallH.small {h : List TxnT} (hs : SmallH h) : Small h := by
  have := total_small (fun t ht => (hs.2 t ht).2.1)
  have := hs.1
  unfold Small
  omega
/-- a drawn history in the reader's words; old memory is as it was -/
def DrewH (w : World) (e : Ending) (w' : World) : Prop := ∃ (ps : List PT) (lim : Nat) (vo : Value), e = .returned vo ∧ OwnT w' w.heap.size lim vo ps ∧ ps.length ≤ 8 ∧ (∀ p ∈ ps, p.small) ∧ Ext w w'
theorem small_map {ps : List PT} (h1 : ps.length ≤ 8) (h2 : ∀ p ∈ ps, p.small) : SmallH (ps.map PT.txn) := ⟨by simpa using h1, fun t ht => by
  obtain ⟨p, hp, rfl⟩ := List.mem_map.1 ht
  exact h2 p hp⟩
theorem OwnT.read {w : World} {B lim : Nat} {v : Value} {ps : List PT} (h : OwnT w B lim v ps) : ∃ A c, v = .slice A (ps.map PT.txn).length c ∧ (ps.map PT.txn).length ≤ c ∧ Txns (fun b => B ≤ b) w A (ps.map PT.txn) := by
  obtain ⟨A, c, hv, hc, hT, _⟩ := h.txns
  have hl : (ps.map PT.txn).length = ps.length := by simp
  exact ⟨A, c, by rw [hl]; exact hv, by omega, hT⟩
theorem DrawHistoryValid_c (xs : List Int) (A : Option Addr) (c : Nat) (w : World) (h : Byts Any w A xs) (hv : ∀ x ∈ xs, 0 ≤ x ∧ x ≤ 255) (hc : xs.length ≤ c) :
    Calls Tryd.prog 27 #[.slice A xs.length c] w (DrewH w) := by
  go_enter Tryd.func27, Tryd.ntmps27
  go_wp2_with (fail)
  go_at_call 48
  refine (l20Open_c xs A c _ (h.ext (by (repeat' (first | (with_reducible exact Below.refl _ _) | (with_reducible refine Below.mono (by assumption) ?_) | (with_reducible refine Below.trans ?_ (Below.mono (by assumption) ?_)) | (with_reducible refine Below.alloc ?_ ?_ _) | (with_reducible refine Below.drew ?_) | (with_reducible refine below_drewN ?_ _) | (with_reducible refine Below.setCell ?_ ?_ _) | (simp only [World.size_alloc, World.size_setCell, World.size_drew, size_drewN]; omega) | omega)))) hv hc).mono ?_
  rintro e w1 ⟨r, rfl, hr, hR, hb⟩
  obtain ⟨hc, hf, hz, hs⟩ := bcell hb
  (try simp only [World.size_alloc, World.size_setCell, World.size_drew, size_drewN] at hs); (first | have l0 := Nat.lt_of_lt_of_le l0 (show _ ≤ w1.heap.size by omega) | have l0 : w.heap.size < w1.heap.size := (by omega) | skip); (try have l0e := Nat.le_of_lt l0); (try have l0f := Nat.le_add_right_of_le (k := 1) l0e); (try have l1 := Nat.lt_of_lt_of_le l1 (show _ ≤ w1.heap.size by omega)); (try have l1e := Nat.le_of_lt l1); (try have l1f := Nat.le_add_right_of_le (k := 1) l1e); (try have l2 := Nat.lt_of_lt_of_le l2 (show _ ≤ w1.heap.size by omega)); (try have l2e := Nat.le_of_lt l2); (try have l2f := Nat.le_add_right_of_le (k := 1) l2e); (try have l3 := Nat.lt_of_lt_of_le l3 (show _ ≤ w1.heap.size by omega)); (try have l3e := Nat.le_of_lt l3); (try have l3f := Nat.le_add_right_of_le (k := 1) l3e)
  have hb_1 := hb
  go_wp2_with (fail)
  go_at_call 55
  refine (l20History_c r 0 5 2 _ hR (by omega) (by omega) (by omega) (by omega)).mono ?_
  rintro e w2 ⟨ps, lim, vo, rfl, hT, hl, hps, hR2, hG⟩
  obtain ⟨hc, hf, hz, hs⟩ := gcell hG
  (try simp only [World.size_alloc, World.size_setCell, World.size_drew, size_drewN] at hs); (first | have l0 := Nat.lt_of_lt_of_le l0 (show _ ≤ w2.heap.size by omega) | have l0 : w.heap.size < w2.heap.size := (by omega) | skip); (try have l0e := Nat.le_of_lt l0); (try have l0f := Nat.le_add_right_of_le (k := 1) l0e); (try have l1 := Nat.lt_of_lt_of_le l1 (show _ ≤ w2.heap.size by omega)); (try have l1e := Nat.le_of_lt l1); (try have l1f := Nat.le_add_right_of_le (k := 1) l1e); (try have l2 := Nat.lt_of_lt_of_le l2 (show _ ≤ w2.heap.size by omega)); (try have l2e := Nat.le_of_lt l2); (try have l2f := Nat.le_add_right_of_le (k := 1) l2e); (try have l3 := Nat.lt_of_lt_of_le l3 (show _ ≤ w2.heap.size by omega)); (try have l3e := Nat.le_of_lt l3); (try have l3f := Nat.le_add_right_of_le (k := 1) l3e)
  go_wp2
  go_ret
  exact ⟨ps, lim, vo, rfl, hT.below hb_1.size, hl, hps, grown_new hb_1 hr hG⟩
theorem DrawDoneTxns_c (xs : List Int) (A : Option Addr) (c : Nat) (w : World) (h : Byts Any w A xs) (hv : ∀ x ∈ xs, 0 ≤ x ∧ x ≤ 255) (hc : xs.length ≤ c) :
    Calls Tryd.prog 33 #[.slice A xs.length c] w (DrewH w) := by
  go_enter Tryd.func33, Tryd.ntmps33
  go_wp2_with (fail)
  go_at_call 48
  refine (l20Open_c xs A c _ (h.ext (by (repeat' (first | (with_reducible exact Below.refl _ _) | (with_reducible refine Below.mono (by assumption) ?_) | (with_reducible refine Below.trans ?_ (Below.mono (by assumption) ?_)) | (with_reducible refine Below.alloc ?_ ?_ _) | (with_reducible refine Below.drew ?_) | (with_reducible refine below_drewN ?_ _) | (with_reducible refine Below.setCell ?_ ?_ _) | (simp only [World.size_alloc, World.size_setCell, World.size_drew, size_drewN]; omega) | omega)))) hv hc).mono ?_
  rintro e w1 ⟨r, rfl, hr, hR, hb⟩
  obtain ⟨hc, hf, hz, hs⟩ := bcell hb
  (try simp only [World.size_alloc, World.size_setCell, World.size_drew, size_drewN] at hs); (first | have l0 := Nat.lt_of_lt_of_le l0 (show _ ≤ w1.heap.size by omega) | have l0 : w.heap.size < w1.heap.size := (by omega) | skip); (try have l0e := Nat.le_of_lt l0); (try have l0f := Nat.le_add_right_of_le (k := 1) l0e); (try have l1 := Nat.lt_of_lt_of_le l1 (show _ ≤ w1.heap.size by omega)); (try have l1e := Nat.le_of_lt l1); (try have l1f := Nat.le_add_right_of_le (k := 1) l1e); (try have l2 := Nat.lt_of_lt_of_le l2 (show _ ≤ w1.heap.size by omega)); (try have l2e := Nat.le_of_lt l2); (try have l2f := Nat.le_add_right_of_le (k := 1) l2e); (try have l3 := Nat.lt_of_lt_of_le l3 (show _ ≤ w1.heap.size by omega)); (try have l3e := Nat.le_of_lt l3); (try have l3f := Nat.le_add_right_of_le (k := 1) l3e)
  have hb_1 := hb
  go_wp2_with (fail)
  go_at_call 55
  refine (l20History_c r 0 5 9 _ hR (by omega) (by omega) (by omega) (by omega)).mono ?_
  rintro e w2 ⟨ps, lim, vo, rfl, hT, hl, hps, hR2, hG⟩
  obtain ⟨hc, hf, hz, hs⟩ := gcell hG
  (try simp only [World.size_alloc, World.size_setCell, World.size_drew, size_drewN] at hs); (first | have l0 := Nat.lt_of_lt_of_le l0 (show _ ≤ w2.heap.size by omega) | have l0 : w.heap.size < w2.heap.size := (by omega) | skip); (try have l0e := Nat.le_of_lt l0); (try have l0f := Nat.le_add_right_of_le (k := 1) l0e); (try have l1 := Nat.lt_of_lt_of_le l1 (show _ ≤ w2.heap.size by omega)); (try have l1e := Nat.le_of_lt l1); (try have l1f := Nat.le_add_right_of_le (k := 1) l1e); (try have l2 := Nat.lt_of_lt_of_le l2 (show _ ≤ w2.heap.size by omega)); (try have l2e := Nat.le_of_lt l2); (try have l2f := Nat.le_add_right_of_le (k := 1) l2e); (try have l3 := Nat.lt_of_lt_of_le l3 (show _ ≤ w2.heap.size by omega)); (try have l3e := Nat.le_of_lt l3); (try have l3f := Nat.le_add_right_of_le (k := 1) l3e)
  go_wp2
  go_ret
  exact ⟨ps, lim, vo, rfl, hT.below hb_1.size, hl, hps, grown_new hb_1 hr hG⟩
theorem DrawOwnErrors_c (xs : List Int) (A : Option Addr) (c : Nat) (w : World) (h : Byts Any w A xs) (hv : ∀ x ∈ xs, 0 ≤ x ∧ x ≤ 255) (hc : xs.length ≤ c) :
    Calls Tryd.prog 37 #[.slice A xs.length c] w (DrewH w) := by
  go_enter Tryd.func37, Tryd.ntmps37
  go_wp2_with (fail)
  go_at_call 48
  refine (l20Open_c xs A c _ (h.ext (by (repeat' (first | (with_reducible exact Below.refl _ _) | (with_reducible refine Below.mono (by assumption) ?_) | (with_reducible refine Below.trans ?_ (Below.mono (by assumption) ?_)) | (with_reducible refine Below.alloc ?_ ?_ _) | (with_reducible refine Below.drew ?_) | (with_reducible refine below_drewN ?_ _) | (with_reducible refine Below.setCell ?_ ?_ _) | (simp only [World.size_alloc, World.size_setCell, World.size_drew, size_drewN]; omega) | omega)))) hv hc).mono ?_
  rintro e w1 ⟨r, rfl, hr, hR, hb⟩
  obtain ⟨hc, hf, hz, hs⟩ := bcell hb
  (try simp only [World.size_alloc, World.size_setCell, World.size_drew, size_drewN] at hs); (first | have l0 := Nat.lt_of_lt_of_le l0 (show _ ≤ w1.heap.size by omega) | have l0 : w.heap.size < w1.heap.size := (by omega) | skip); (try have l0e := Nat.le_of_lt l0); (try have l0f := Nat.le_add_right_of_le (k := 1) l0e); (try have l1 := Nat.lt_of_lt_of_le l1 (show _ ≤ w1.heap.size by omega)); (try have l1e := Nat.le_of_lt l1); (try have l1f := Nat.le_add_right_of_le (k := 1) l1e); (try have l2 := Nat.lt_of_lt_of_le l2 (show _ ≤ w1.heap.size by omega)); (try have l2e := Nat.le_of_lt l2); (try have l2f := Nat.le_add_right_of_le (k := 1) l2e); (try have l3 := Nat.lt_of_lt_of_le l3 (show _ ≤ w1.heap.size by omega)); (try have l3e := Nat.le_of_lt l3); (try have l3f := Nat.le_add_right_of_le (k := 1) l3e)
  have hb_1 := hb
  go_wp2_with (fail)
  go_at_call 55
  refine (l20History_c r 0 5 9 _ hR (by omega) (by omega) (by omega) (by omega)).mono ?_
  rintro e w2 ⟨ps, lim, vo, rfl, hT, hl, hps, hR2, hG⟩
  obtain ⟨hc, hf, hz, hs⟩ := gcell hG
  (try simp only [World.size_alloc, World.size_setCell, World.size_drew, size_drewN] at hs); (first | have l0 := Nat.lt_of_lt_of_le l0 (show _ ≤ w2.heap.size by omega) | have l0 : w.heap.size < w2.heap.size := (by omega) | skip); (try have l0e := Nat.le_of_lt l0); (try have l0f := Nat.le_add_right_of_le (k := 1) l0e); (try have l1 := Nat.lt_of_lt_of_le l1 (show _ ≤ w2.heap.size by omega)); (try have l1e := Nat.le_of_lt l1); (try have l1f := Nat.le_add_right_of_le (k := 1) l1e); (try have l2 := Nat.lt_of_lt_of_le l2 (show _ ≤ w2.heap.size by omega)); (try have l2e := Nat.le_of_lt l2); (try have l2f := Nat.le_add_right_of_le (k := 1) l2e); (try have l3 := Nat.lt_of_lt_of_le l3 (show _ ≤ w2.heap.size by omega)); (try have l3e := Nat.le_of_lt l3); (try have l3f := Nat.le_add_right_of_le (k := 1) l3e)
  go_wp2
  go_ret
  exact ⟨ps, lim, vo, rfl, hT.below hb_1.size, hl, hps, grown_new hb_1 hr hG⟩
theorem DrewH.read {w w' : World} {e : Ending} (h : DrewH w e w') : ∃ (h : List TxnT) (A : Option Addr) (c : Nat), e = .returned (.slice A h.length c) ∧ h.length ≤ c ∧ Txns (fun b => w.heap.size ≤ b) w' A h ∧ SmallH h ∧ Ext w w' := by
  obtain ⟨ps, lim, vo, rfl, hT, hl, hs, hE⟩ := h
  obtain ⟨A, c, rfl, hc, hx⟩ := hT.read
  exact ⟨_, A, c, rfl, hc, hx, small_map hl hs, hE⟩
theorem txns_pick {B r : Nat} {W W' : World} {A : Option Addr} {h : List TxnT} (hx : Txns (fun b => B ≤ b) W A h) (hG : W.grownBy W' (some r)) (hr : r < B) : Txns (fun b => B ≤ b) W' A h := by
  have hk : ∀ p : Addr, B ≤ p.block → p.block < W.heap.size → W'.cell? p = W.cell? p := fun p hp hlt => World.cell?_of_block (hG.block p.block hlt (fun e => by have := Option.some.inj e; omega))
  exact SlAt.keep hx (kept_txn hG.size hk) hG.size hk
theorem txns_low {B B' : Nat} {W : World} {A : Option Addr} {h : List TxnT} (hx : Txns (fun b => B ≤ b) W A h) (hb : B' ≤ B) : Txns (fun b => B' ≤ b) W A h :=
  SlAt.mono hx (fun _ h _ => Nat.le_trans hb h) (mono_txn (fun _ h _ => Nat.le_trans hb h))
theorem ops_pick {B r : Nat} {W W' : World} {A : Option Addr} {h : List T3} (hx : Ops (fun b => B ≤ b) W A h) (hG : W.grownBy W' (some r)) (hr : r < B) : Ops (fun b => B ≤ b) W' A h := by
  have hk : ∀ p : Addr, B ≤ p.block → p.block < W.heap.size → W'.cell? p = W.cell? p := fun p hp hlt => World.cell?_of_block (hG.block p.block hlt (fun e => by have := Option.some.inj e; omega))
  exact SlAt.keep hx (kept_3 _ _) hG.size hk
/-- a drawn history, a key and a value -/
def DrewW (w : World) (e : Ending) (w' : World) : Prop := ∃ (h : List TxnT) (A : Option Addr) (c k v : Nat), e = .returned (.tuple #[.slice A h.length c, .int .i64 k, .int .i64 v]) ∧ Txns (fun b => w.heap.size ≤ b) w' A h ∧ SmallH h ∧ k < 3 ∧ v < 9 ∧ Ext w w'
theorem DrawWriterOf_c (xs : List Int) (A : Option Addr) (c : Nat) (w : World) (h : Byts Any w A xs) (hv : ∀ x ∈ xs, 0 ≤ x ∧ x ≤ 255) (hc : xs.length ≤ c) :
    Calls Tryd.prog 30 #[.slice A xs.length c] w (DrewW w) := by
  go_enter Tryd.func30, Tryd.ntmps30
  go_wp2_with (fail)
  go_at_call 48
  refine (l20Open_c xs A c _ (h.ext (by (repeat' (first | (with_reducible exact Below.refl _ _) | (with_reducible refine Below.mono (by assumption) ?_) | (with_reducible refine Below.trans ?_ (Below.mono (by assumption) ?_)) | (with_reducible refine Below.alloc ?_ ?_ _) | (with_reducible refine Below.drew ?_) | (with_reducible refine below_drewN ?_ _) | (with_reducible refine Below.setCell ?_ ?_ _) | (simp only [World.size_alloc, World.size_setCell, World.size_drew, size_drewN]; omega) | omega)))) hv hc).mono ?_
  rintro e w1 ⟨r, rfl, hr, hR, hb⟩
  obtain ⟨hc, hf, hz, hs⟩ := bcell hb
  (try simp only [World.size_alloc, World.size_setCell, World.size_drew, size_drewN] at hs); (first | have l0 := Nat.lt_of_lt_of_le l0 (show _ ≤ w1.heap.size by omega) | have l0 : w.heap.size < w1.heap.size := (by omega) | skip); (try have l0e := Nat.le_of_lt l0); (try have l0f := Nat.le_add_right_of_le (k := 1) l0e); (try have l1 := Nat.lt_of_lt_of_le l1 (show _ ≤ w1.heap.size by omega)); (try have l1e := Nat.le_of_lt l1); (try have l1f := Nat.le_add_right_of_le (k := 1) l1e); (try have l2 := Nat.lt_of_lt_of_le l2 (show _ ≤ w1.heap.size by omega)); (try have l2e := Nat.le_of_lt l2); (try have l2f := Nat.le_add_right_of_le (k := 1) l2e); (try have l3 := Nat.lt_of_lt_of_le l3 (show _ ≤ w1.heap.size by omega)); (try have l3e := Nat.le_of_lt l3); (try have l3f := Nat.le_add_right_of_le (k := 1) l3e)
  have hb_1 := hb
  go_wp2_with (fail)
  go_at_call 55
  refine (l20History_c r 0 5 9 _ hR (by omega) (by omega) (by omega) (by omega)).mono ?_
  rintro e w2 ⟨ps, lim, vo, rfl, hT, hl, hps, hR2, hG⟩
  obtain ⟨hc, hf, hz, hs⟩ := gcell hG
  (try simp only [World.size_alloc, World.size_setCell, World.size_drew, size_drewN] at hs); (first | have l0 := Nat.lt_of_lt_of_le l0 (show _ ≤ w2.heap.size by omega) | have l0 : w.heap.size < w2.heap.size := (by omega) | skip); (try have l0e := Nat.le_of_lt l0); (try have l0f := Nat.le_add_right_of_le (k := 1) l0e); (try have l1 := Nat.lt_of_lt_of_le l1 (show _ ≤ w2.heap.size by omega)); (try have l1e := Nat.le_of_lt l1); (try have l1f := Nat.le_add_right_of_le (k := 1) l1e); (try have l2 := Nat.lt_of_lt_of_le l2 (show _ ≤ w2.heap.size by omega)); (try have l2e := Nat.le_of_lt l2); (try have l2f := Nat.le_add_right_of_le (k := 1) l2e); (try have l3 := Nat.lt_of_lt_of_le l3 (show _ ≤ w2.heap.size by omega)); (try have l3e := Nat.le_of_lt l3); (try have l3f := Nat.le_add_right_of_le (k := 1) l3e)
  obtain ⟨A2, c2, rfl, hc2, hx2⟩ := hT.read
  have hsm := small_map hl hps
  clear hT
  generalize ps.map PT.txn = H at hx2 hsm hc2 ⊢
  have hr1 := hR.lt
  have hGG := Lib.hid hG
  have HX2 := Lib.hid hx2
  have hz12 := hb_1.size
  clear hG hx2 hc hf hz
  go_wp2_with (fail)
  go_at_call 56
  refine (pick_c r _ 3 _ hR2 (by omega) (by omega) (by omega)).mono ?_
  rintro e w3 ⟨k, rfl, hk, hR3, hG3⟩
  obtain ⟨hc, hf, hz, hs⟩ := gcell hG3
  (try simp only [World.size_alloc, World.size_setCell, World.size_drew, size_drewN] at hs); (first | have l0 := Nat.lt_of_lt_of_le l0 (show _ ≤ w3.heap.size by omega) | have l0 : w.heap.size < w3.heap.size := (by omega) | skip); (try have l0e := Nat.le_of_lt l0); (try have l0f := Nat.le_add_right_of_le (k := 1) l0e); (try have l1 := Nat.lt_of_lt_of_le l1 (show _ ≤ w3.heap.size by omega)); (try have l1e := Nat.le_of_lt l1); (try have l1f := Nat.le_add_right_of_le (k := 1) l1e); (try have l2 := Nat.lt_of_lt_of_le l2 (show _ ≤ w3.heap.size by omega)); (try have l2e := Nat.le_of_lt l2); (try have l2f := Nat.le_add_right_of_le (k := 1) l2e); (try have l3 := Nat.lt_of_lt_of_le l3 (show _ ≤ w3.heap.size by omega)); (try have l3e := Nat.le_of_lt l3); (try have l3f := Nat.le_add_right_of_le (k := 1) l3e)
  have hk' := hk (by omega)
  have HX3 := Lib.hid (txns_pick HX2.out hG3 hr1)
  have HG3 := Lib.hid (grown_trans hGG.out hG3)
  clear hG3 HX2 hGG hc hf hz
  go_wp2_with (fail)
  go_at_call 56
  refine (pick_c r _ 9 _ hR3 (by omega) (by omega) (by omega)).mono ?_
  rintro e w4 ⟨v, rfl, hv9, hR4, hG4⟩
  obtain ⟨hc, hf, hz, hs⟩ := gcell hG4
  (try simp only [World.size_alloc, World.size_setCell, World.size_drew, size_drewN] at hs); (first | have l0 := Nat.lt_of_lt_of_le l0 (show _ ≤ w4.heap.size by omega) | have l0 : w.heap.size < w4.heap.size := (by omega) | skip); (try have l0e := Nat.le_of_lt l0); (try have l0f := Nat.le_add_right_of_le (k := 1) l0e); (try have l1 := Nat.lt_of_lt_of_le l1 (show _ ≤ w4.heap.size by omega)); (try have l1e := Nat.le_of_lt l1); (try have l1f := Nat.le_add_right_of_le (k := 1) l1e); (try have l2 := Nat.lt_of_lt_of_le l2 (show _ ≤ w4.heap.size by omega)); (try have l2e := Nat.le_of_lt l2); (try have l2f := Nat.le_add_right_of_le (k := 1) l2e); (try have l3 := Nat.lt_of_lt_of_le l3 (show _ ≤ w4.heap.size by omega)); (try have l3e := Nat.le_of_lt l3); (try have l3f := Nat.le_add_right_of_le (k := 1) l3e)
  have hv' := hv9 (by omega)
  go_wp2
  go_ret3
  exact ⟨_, _, _, k, v, rfl, txns_low (txns_pick HX3.out hG4 hr1) hz12, hsm, by omega, by omega, grown_new hb_1 hr (grown_trans HG3.out hG4)⟩
theorem DrawLastValue_c (xs : List Int) (A : Option Addr) (c : Nat) (w : World) (h : Byts Any w A xs) (hv : ∀ x ∈ xs, 0 ≤ x ∧ x ≤ 255) (hc : xs.length ≤ c) :
    Calls Tryd.prog 41 #[.slice A xs.length c] w (DrewW w) := by
  go_enter Tryd.func41, Tryd.ntmps41
  go_wp2_with (fail)
  go_at_call 30
  refine (DrawWriterOf_c xs A c _ h hv hc).mono ?_
  rintro e w1 ⟨h2, A2, c2, k, v, rfl, hx, hsm, hk, hv9, hb⟩
  obtain ⟨hc, hf, hz, hs⟩ := bcell hb
  (try simp only [World.size_alloc, World.size_setCell, World.size_drew, size_drewN] at hs); (first | have l0 := Nat.lt_of_lt_of_le l0 (show _ ≤ w1.heap.size by omega) | have l0 : w.heap.size < w1.heap.size := (by omega) | skip); (try have l0e := Nat.le_of_lt l0); (try have l0f := Nat.le_add_right_of_le (k := 1) l0e); (try have l1 := Nat.lt_of_lt_of_le l1 (show _ ≤ w1.heap.size by omega)); (try have l1e := Nat.le_of_lt l1); (try have l1f := Nat.le_add_right_of_le (k := 1) l1e); (try have l2 := Nat.lt_of_lt_of_le l2 (show _ ≤ w1.heap.size by omega)); (try have l2e := Nat.le_of_lt l2); (try have l2f := Nat.le_add_right_of_le (k := 1) l2e); (try have l3 := Nat.lt_of_lt_of_le l3 (show _ ≤ w1.heap.size by omega)); (try have l3e := Nat.le_of_lt l3); (try have l3f := Nat.le_add_right_of_le (k := 1) l3e)
  go_wp2
  go_ret3
  exact ⟨h2, A2, c2, k, v, rfl, hx, hsm, hk, hv9, hb⟩
/-- a drawn history and a key -/
def DrewI (w : World) (e : Ending) (w' : World) : Prop := ∃ (h : List TxnT) (A : Option Addr) (c : Nat) (k : Int), e = .returned (.tuple #[.slice A h.length c, .int .i64 k]) ∧ Txns (fun b => w.heap.size ≤ b) w' A h ∧ SmallH h ∧ -1 ≤ k ∧ k ≤ 3 ∧ Ext w w'
theorem DrawInstalled_c (xs : List Int) (A : Option Addr) (c : Nat) (w : World) (h : Byts Any w A xs) (hv : ∀ x ∈ xs, 0 ≤ x ∧ x ≤ 255) (hc : xs.length ≤ c) :
    Calls Tryd.prog 44 #[.slice A xs.length c] w (DrewI w) := by
  go_enter Tryd.func44, Tryd.ntmps44
  go_wp2_with (fail)
  go_at_call 48
  refine (l20Open_c xs A c _ (h.ext (by (repeat' (first | (with_reducible exact Below.refl _ _) | (with_reducible refine Below.mono (by assumption) ?_) | (with_reducible refine Below.trans ?_ (Below.mono (by assumption) ?_)) | (with_reducible refine Below.alloc ?_ ?_ _) | (with_reducible refine Below.drew ?_) | (with_reducible refine below_drewN ?_ _) | (with_reducible refine Below.setCell ?_ ?_ _) | (simp only [World.size_alloc, World.size_setCell, World.size_drew, size_drewN]; omega) | omega)))) hv hc).mono ?_
  rintro e w1 ⟨r, rfl, hr, hR, hb⟩
  obtain ⟨hc, hf, hz, hs⟩ := bcell hb
  (try simp only [World.size_alloc, World.size_setCell, World.size_drew, size_drewN] at hs); (first | have l0 := Nat.lt_of_lt_of_le l0 (show _ ≤ w1.heap.size by omega) | have l0 : w.heap.size < w1.heap.size := (by omega) | skip); (try have l0e := Nat.le_of_lt l0); (try have l0f := Nat.le_add_right_of_le (k := 1) l0e); (try have l1 := Nat.lt_of_lt_of_le l1 (show _ ≤ w1.heap.size by omega)); (try have l1e := Nat.le_of_lt l1); (try have l1f := Nat.le_add_right_of_le (k := 1) l1e); (try have l2 := Nat.lt_of_lt_of_le l2 (show _ ≤ w1.heap.size by omega)); (try have l2e := Nat.le_of_lt l2); (try have l2f := Nat.le_add_right_of_le (k := 1) l2e); (try have l3 := Nat.lt_of_lt_of_le l3 (show _ ≤ w1.heap.size by omega)); (try have l3e := Nat.le_of_lt l3); (try have l3f := Nat.le_add_right_of_le (k := 1) l3e)
  have hb_1 := hb
  go_wp2_with (fail)
  go_at_call 55
  refine (l20History_c r 0 5 9 _ hR (by omega) (by omega) (by omega) (by omega)).mono ?_
  rintro e w2 ⟨ps, lim, vo, rfl, hT, hl, hps, hR2, hG⟩
  obtain ⟨hc, hf, hz, hs⟩ := gcell hG
  (try simp only [World.size_alloc, World.size_setCell, World.size_drew, size_drewN] at hs); (first | have l0 := Nat.lt_of_lt_of_le l0 (show _ ≤ w2.heap.size by omega) | have l0 : w.heap.size < w2.heap.size := (by omega) | skip); (try have l0e := Nat.le_of_lt l0); (try have l0f := Nat.le_add_right_of_le (k := 1) l0e); (try have l1 := Nat.lt_of_lt_of_le l1 (show _ ≤ w2.heap.size by omega)); (try have l1e := Nat.le_of_lt l1); (try have l1f := Nat.le_add_right_of_le (k := 1) l1e); (try have l2 := Nat.lt_of_lt_of_le l2 (show _ ≤ w2.heap.size by omega)); (try have l2e := Nat.le_of_lt l2); (try have l2f := Nat.le_add_right_of_le (k := 1) l2e); (try have l3 := Nat.lt_of_lt_of_le l3 (show _ ≤ w2.heap.size by omega)); (try have l3e := Nat.le_of_lt l3); (try have l3f := Nat.le_add_right_of_le (k := 1) l3e)
  obtain ⟨A2, c2, rfl, hc2, hx2⟩ := hT.read
  have hsm := small_map hl hps
  clear hT
  generalize ps.map PT.txn = H at hx2 hsm hc2 ⊢
  have hr1 := hR.lt
  have hGG := Lib.hid hG
  have HX2 := Lib.hid hx2
  have hz12 := hb_1.size
  clear hG hx2 hc hf hz
  go_wp2_with (fail)
  go_at_call 56
  refine (pick_c r _ 5 _ hR2 (by omega) (by omega) (by omega)).mono ?_
  rintro e w3 ⟨k, rfl, hk, hR3, hG3⟩
  obtain ⟨hc, hf, hz, hs⟩ := gcell hG3
  (try simp only [World.size_alloc, World.size_setCell, World.size_drew, size_drewN] at hs); (first | have l0 := Nat.lt_of_lt_of_le l0 (show _ ≤ w3.heap.size by omega) | have l0 : w.heap.size < w3.heap.size := (by omega) | skip); (try have l0e := Nat.le_of_lt l0); (try have l0f := Nat.le_add_right_of_le (k := 1) l0e); (try have l1 := Nat.lt_of_lt_of_le l1 (show _ ≤ w3.heap.size by omega)); (try have l1e := Nat.le_of_lt l1); (try have l1f := Nat.le_add_right_of_le (k := 1) l1e); (try have l2 := Nat.lt_of_lt_of_le l2 (show _ ≤ w3.heap.size by omega)); (try have l2e := Nat.le_of_lt l2); (try have l2f := Nat.le_add_right_of_le (k := 1) l2e); (try have l3 := Nat.lt_of_lt_of_le l3 (show _ ≤ w3.heap.size by omega)); (try have l3e := Nat.le_of_lt l3); (try have l3f := Nat.le_add_right_of_le (k := 1) l3e)
  have hk' := hk (by omega)
  go_wp2
  go_ret2
  exact ⟨_, _, _, (k : Int) - 1, rfl, txns_low (txns_pick HX2.out hG3 hr1) hz12, hsm, by omega, by omega, grown_new hb_1 hr (grown_trans hGG.out hG3)⟩
theorem makeOps (n : Nat) (hn : n ≤ 9) (W : World) : (Instr.makeSlice 29 (.int .i64 n) (.int .i64 n)).run Tryd.prog W = .ok (.slice (some ⟨W.heap.size, 0, none⟩) n n) (W.alloc (.cells (flat3 (List.replicate n ⟨0, 0, 0⟩)).toArray 24)) := by
  obtain ⟨i0, hi, hz0, hz1, hz2⟩ := info_parts info3D
  have h := run_make_rowN (P := Tryd.prog) 29 24 i0 _ Tryd.underlying29 hi hz0 .i64 .i64 n n (by omega) (by rw [hz2]; omega) (by omega) W
  rw [hz1] at h
  rw [show (flat3 (List.replicate n (⟨0, 0, 0⟩ : T3))).toArray = madeCells (Value.agg #[.int .i64 0, .int .i64 0, .int .i64 0]).cells (n * 3) from ?_]
  · exact h
  · obtain rfl | rfl | rfl | rfl | rfl | rfl | rfl | rfl | rfl | rfl : n = 0 ∨ n = 1 ∨ n = 2 ∨ n = 3 ∨ n = 4 ∨ n = 5 ∨ n = 6 ∨ n = 7 ∨ n = 8 ∨ n = 9 := by omega
    all_goals kernel_rfl
/-- a drawn transaction -/
def DrawnT (r P : Nat) (w : World) (e : Ending) (w' : World) : Prop := ∃ (t : TxnT) (A : Option Addr) (c : Nat), e = .returned (.agg #[.int .i64 t.sess, .slice A t.ops.length c, .bool t.done]) ∧ Ops (fun b => w.heap.size ≤ b) w' A t.ops ∧ SmallI t.sess ∧ t.ops.length ≤ 8 ∧ (∀ o ∈ t.ops, SmallOp o) ∧ RdrB w' r (P + 310) ∧ w.grownBy w' (some r)
/-- the transaction's block in the making -/
def TxnSt (r P g : Nat) (w : World) (m : Nat) (W : World) : Prop := ∃ (s : Int) (A : Option Addr) (c : Nat) (ops : List T3) (d : Bool), Blk W g 31 #[.int .i64 s, .slice A ops.length c, .bool d] ∧ Own3 W w.heap.size 24 (.slice A ops.length c) ops ∧ SmallI s ∧ ops.length ≤ m ∧ (∀ o ∈ ops, SmallOp o) ∧ RdrB W r P ∧ w.grownBy W (some r) ∧ Blk W w.heap.size 31 #[.int .i64 0, .slice none 0 0, .bool false]
theorem grown_new_row {w W W' : World} {r g : Nat} (h : w.grownBy W (some r)) (hg : W.grownBy W' (some g)) (hl : w.heap.size ≤ g) : w.grownBy W' (some r) := grown_sub h hg (fun g' e => by have := Option.some.inj e; omega)
theorem blk_row {w w' : World} {g : Nat} {t : TypeId} {cs : Array Value} {row : Option Nat} (h : Blk w g t cs) (hg : w.grownBy w' row) (hne : some g ≠ row) : Blk w' g t cs := (hg.block g h.lt hne).trans h
theorem TxnSt.pick {r P P' g m : Nat} {w W W' : World} (h : TxnSt r P g w m W) (hG : W.grownBy W' (some r)) (hR : RdrB W' r P') (hr : r < w.heap.size) (hg : r ≠ g) : TxnSt r P' g w m W' := by
  obtain ⟨s, A, c, ops, d, hB6, hO, hs', hl', hsm', hRd, hGr, hB4⟩ := h
  exact ⟨s, A, c, ops, d, blkg hB6 hG (fun e => hg e.symm), World.ownsRow.kept hO hG (.inr (fun e => by have := (own_at hO e).1; omega)), hs', hl', hsm', hR, grown_trans hGr hG, blkg hB4 hG (by omega)⟩
theorem txn_end {r P : Nat} {w W : World} {s : Int} {A : Option Addr} {c : Nat} {ops : List T3} {d : Bool} (hO : Own3 W w.heap.size 24 (.slice A ops.length c) ops) (hs : SmallI s) (hl : ops.length ≤ 8) (hsm : ∀ o ∈ ops, SmallOp o) (hR : RdrB W r (P + 310)) (hG : w.grownBy W (some r)) (hr : r < w.heap.size)
    (hB4 : Blk W w.heap.size 31 #[.int .i64 0, .slice none 0 0, .bool false]) :
    DrawnT r P w (.returned (.agg #[.int .i64 s, .slice A ops.length c, .bool d])) (((W.setCell ⟨w.heap.size, 0, none⟩ (.int .i64 s)).setCell ⟨w.heap.size, 1, none⟩ (.slice A ops.length c)).setCell ⟨w.heap.size, 2, none⟩ (.bool d)) := by
  have hg3 : W.grownBy (((W.setCell ⟨w.heap.size, 0, none⟩ (.int .i64 s)).setCell ⟨w.heap.size, 1, none⟩ (.slice A ops.length c)).setCell ⟨w.heap.size, 2, none⟩ (.bool d)) (some w.heap.size) := grown_trans (grown_trans (grown_set _) (grown_set _)) (grown_set _)
  have hO2 : Own3 _ w.heap.size 24 (.slice A ops.length c) ops := World.ownsRow.kept hO hg3 (own_type_ne hO (show W.heap[w.heap.size]? = some (.cells _ 31 (0, 0)) from hB4) (by decide))
  obtain ⟨A', c', hv, hx, _⟩ := hO2.form
  simp only [Value.slice.injEq] at hv
  obtain ⟨rfl, _, rfl⟩ := hv
  exact ⟨⟨s, ops, d⟩, A, c, rfl, hx, hs, hl, hsm, hR.grown hg3 (fun g e => by have := Option.some.inj e; omega), grown_new_row hG hg3 (Nat.le_refl _)⟩
theorem txn_cells {W : World} {g : Nat} {s : Int} {A : Option Addr} {n c : Nat} {d : Bool} (h : Blk W g 31 #[.int .i64 s, .slice A n c, .bool d]) : W.cell? ⟨g, 0, none⟩ = some (.int .i64 s) ∧ W.cell? ⟨g, 1, none⟩ = some (.slice A n c) ∧ W.cell? ⟨g, 2, none⟩ = some (.bool d) ∧ (∀ o, W.frozen? ⟨g, o, none⟩ = false) ∧ g < W.heap.size := by
  refine ⟨?_, ?_, ?_, h.frozen, h.lt⟩ <;> (rw [h.cell]; rfl)
theorem txn_ret {W : World} {g : Nat} {x0 x1 x2 : Value} (h : Blk W g 31 #[x0, x1, x2]) (y0 y1 y2 : Value) : let V := ((W.setCell ⟨g, 0, none⟩ y0).setCell ⟨g, 1, none⟩ y1).setCell ⟨g, 2, none⟩ y2
    V.cell? ⟨g, 0, none⟩ = some y0 ∧ V.cell? ⟨g, 1, none⟩ = some y1 ∧ V.cell? ⟨g, 2, none⟩ = some y2 := by
  have hF := ((h.set_ 0 y0).set_ 1 y1).set_ 2 y2
  refine ⟨?_, ?_, ?_⟩ <;> (rw [hF.cell]; simp)
set_option maxHeartbeats 2000000 in
theorem l20Txn_c (r P : Nat) (n : Int) (w : World) (h : RdrB w r P) (hP : P ≤ 40000) (hn : -1000 ≤ n) (hn2 : n ≤ 1000) :
    Calls Tryd.prog 60 #[.pointer (some ⟨r, 0, none⟩), .int .i64 n] w (DrawnT r P w) := by
  have hr := h.lt
  go_enter Tryd.func60, Tryd.ntmps60
  go_wp2_with (fail)
  go_at_call 55
  refine (l20History_c r P 4 0 _ (h.ext (by (repeat' (first | (with_reducible exact Below.refl _ _) | (with_reducible refine Below.mono (by assumption) ?_) | (with_reducible refine Below.trans ?_ (Below.mono (by assumption) ?_)) | (with_reducible refine Below.alloc ?_ ?_ _) | (with_reducible refine Below.drew ?_) | (with_reducible refine below_drewN ?_ _) | (with_reducible refine Below.setCell ?_ ?_ _) | (simp only [World.size_alloc, World.size_setCell, World.size_drew, size_drewN]; omega) | omega)))) (by omega) (by omega) (by omega) (by omega)).mono ?_
  rintro e w1 ⟨ps, lim, vo, rfl, hT, hl, hps, hR2, hG⟩
  obtain ⟨hc, hf, hz, hs⟩ := gcell hG
  (try simp only [World.size_alloc, World.size_setCell, World.size_drew, size_drewN] at hs); (first | have l0 := Nat.lt_of_lt_of_le l0 (show _ ≤ w1.heap.size by omega) | have l0 : w.heap.size < w1.heap.size := (by omega) | skip); (try have l0e := Nat.le_of_lt l0); (try have l0f := Nat.le_add_right_of_le (k := 1) l0e); (try have l1 := Nat.lt_of_lt_of_le l1 (show _ ≤ w1.heap.size by omega)); (try have l1e := Nat.le_of_lt l1); (try have l1f := Nat.le_add_right_of_le (k := 1) l1e); (try have l2 := Nat.lt_of_lt_of_le l2 (show _ ≤ w1.heap.size by omega)); (try have l2e := Nat.le_of_lt l2); (try have l2f := Nat.le_add_right_of_le (k := 1) l2e); (try have l3 := Nat.lt_of_lt_of_le l3 (show _ ≤ w1.heap.size by omega)); (try have l3e := Nat.le_of_lt l3); (try have l3f := Nat.le_add_right_of_le (k := 1) l3e)
  have hB4 : Blk w1 w.heap.size 31 #[.int .i64 0, .slice none 0 0, .bool false] := blkg (Blk.new w _ _) hG (by omega)
  have G1 := grown_trans (grown_ext (show Ext w (w.alloc (.cells #[.int .i64 0, .slice none 0 0, .bool false] 31)) by (repeat' (first | (with_reducible exact Below.refl _ _) | (with_reducible refine Below.mono (by assumption) ?_) | (with_reducible refine Below.trans ?_ (Below.mono (by assumption) ?_)) | (with_reducible refine Below.alloc ?_ ?_ _) | (with_reducible refine Below.drew ?_) | (with_reducible refine below_drewN ?_ _) | (with_reducible refine Below.setCell ?_ ?_ _) | (simp only [World.size_alloc, World.size_setCell, World.size_drew, size_drewN]; omega) | omega))) (some r)) hG
  obtain ⟨A2, c2, rfl, hc2, hT2, hf2⟩ := hT.txns
  have HT := Lib.hid hT
  have HG1 := Lib.hid G1
  have HB4 := Lib.hid hB4
  have hw1 := hB4.lt
  clear hG hT hT2 G1 hB4 hc hf hz hf2
  go_upto_if 13 with (fail)
  go_cut [] from 7 to 33 (fun W => TxnSt r (P + 301) (w1.heap.size + 1) w 7 W)
  case first =>
    by_cases hp0 : 0 < ps.length
    · skip
      go_wp2_with (fail)
      go_at_call 56
      refine (pick_c r (P + 300) ps.length _ (hR2.ext (by (repeat' (first | (with_reducible exact Below.refl _ _) | (with_reducible refine Below.mono (by assumption) ?_) | (with_reducible refine Below.trans ?_ (Below.mono (by assumption) ?_)) | (with_reducible refine Below.alloc ?_ ?_ _) | (with_reducible refine Below.drew ?_) | (with_reducible refine below_drewN ?_ _) | (with_reducible refine Below.setCell ?_ ?_ _) | (simp only [World.size_alloc, World.size_setCell, World.size_drew, size_drewN]; omega) | omega)))) (by omega) (by omega) (by omega)).mono ?_
      rintro e w2 ⟨q, rfl, hq, hR3, hG3⟩
      obtain ⟨hc, hf, hz, hs⟩ := gcell hG3
      (try simp only [World.size_alloc, World.size_setCell, World.size_drew, size_drewN] at hs); (first | have l0 := Nat.lt_of_lt_of_le l0 (show _ ≤ w2.heap.size by omega) | have l0 : w.heap.size < w2.heap.size := (by omega) | skip); (try have l0e := Nat.le_of_lt l0); (try have l0f := Nat.le_add_right_of_le (k := 1) l0e); (try have l1 := Nat.lt_of_lt_of_le l1 (show _ ≤ w2.heap.size by omega)); (try have l1e := Nat.le_of_lt l1); (try have l1f := Nat.le_add_right_of_le (k := 1) l1e); (try have l2 := Nat.lt_of_lt_of_le l2 (show _ ≤ w2.heap.size by omega)); (try have l2e := Nat.le_of_lt l2); (try have l2f := Nat.le_add_right_of_le (k := 1) l2e); (try have l3 := Nat.lt_of_lt_of_le l3 (show _ ≤ w2.heap.size by omega)); (try have l3e := Nat.le_of_lt l3); (try have l3f := Nat.le_add_right_of_le (k := 1) l3e)
      have hq' := hq (by omega)
      have hr1 := hR2.lt
      have hT3 := ((HT.out.ext (show Ext w1 ((w1.alloc (.cells #[] 24)).alloc (.cells #[.int .i64 0, .slice (some ⟨w1.heap.size, 0, none⟩) 0 0, .bool false] 31)) by (repeat' (first | (with_reducible exact Below.refl _ _) | (with_reducible refine Below.mono (by assumption) ?_) | (with_reducible refine Below.trans ?_ (Below.mono (by assumption) ?_)) | (with_reducible refine Below.alloc ?_ ?_ _) | (with_reducible refine Below.drew ?_) | (with_reducible refine below_drewN ?_ _) | (with_reducible refine Below.setCell ?_ ?_ _) | (simp only [World.size_alloc, World.size_setCell, World.size_drew, size_drewN]; omega) | omega)))).below (show w.heap.size ≤ _ by simp only [World.size_alloc]; omega))
      have hT3 := hT3.grown hG3 (fun e => by have := (own_at hT3.1 e.symm).1; omega) (fun g e => .inl (by have := Option.some.inj e; omega))
      have G3 := grown_trans HG1.out (grown_trans (grown_ext (show Ext w1 ((w1.alloc (.cells #[] 24)).alloc (.cells #[.int .i64 0, .slice (some ⟨w1.heap.size, 0, none⟩) 0 0, .bool false] 31)) by (repeat' (first | (with_reducible exact Below.refl _ _) | (with_reducible refine Below.mono (by assumption) ?_) | (with_reducible refine Below.trans ?_ (Below.mono (by assumption) ?_)) | (with_reducible refine Below.alloc ?_ ?_ _) | (with_reducible refine Below.drew ?_) | (with_reducible refine below_drewN ?_ _) | (with_reducible refine Below.setCell ?_ ?_ _) | (simp only [World.size_alloc, World.size_setCell, World.size_drew, size_drewN]; omega) | omega))) (some r)) hG3)
      have B6 : Blk w2 (w1.heap.size + 1) 31 #[.int .i64 0, .slice (some ⟨w1.heap.size, 0, none⟩) 0 0, .bool false] := by
        have := Blk.new (w1.alloc (.cells #[] 24)) 31 #[.int .i64 0, .slice (some ⟨w1.heap.size, 0, none⟩) 0 0, .bool false]
        rw [World.size_alloc] at this
        exact blkg this hG3 (by omega)
      have B4 : Blk w2 w.heap.size 31 #[.int .i64 0, .slice none 0 0, .bool false] := blkg (HB4.out.ext (show Ext w1 ((w1.alloc (.cells #[] 24)).alloc (.cells #[.int .i64 0, .slice (some ⟨w1.heap.size, 0, none⟩) 0 0, .bool false] 31)) by (repeat' (first | (with_reducible exact Below.refl _ _) | (with_reducible refine Below.mono (by assumption) ?_) | (with_reducible refine Below.trans ?_ (Below.mono (by assumption) ?_)) | (with_reducible refine Below.alloc ?_ ?_ _) | (with_reducible refine Below.drew ?_) | (with_reducible refine below_drewN ?_ _) | (with_reducible refine Below.setCell ?_ ?_ _) | (simp only [World.size_alloc, World.size_setCell, World.size_drew, size_drewN]; omega) | omega)))) hG3 (by omega)
      obtain ⟨p0, hp1⟩ : ∃ p0, ps[q]? = some p0 := ⟨_, List.getElem?_eq_getElem (by omega)⟩
      obtain ⟨g7, rfl⟩ : ∃ g7, A2 = some ⟨g7, 0, none⟩ := by
        rcases hT3.1.2 with ⟨hv, hn0⟩ | ⟨g, cap, cur, hv, _⟩
        · omega
        · simp only [Value.slice.injEq] at hv
          exact ⟨g, hv.1⟩
      obtain ⟨a0, a1, a2, af, al⟩ := hT3.at_ hp1
      have hps1 := hps _ (List.mem_of_getElem? hp1)
      obtain ⟨o1, _⟩ := hT3.2 _ (List.mem_of_getElem? hp1)
      have e0 := B6.cell 0
      have e1 := B6.cell 1
      have e2 := B6.cell 2
      have ef := B6.frozen
      simp only [List.getElem?_toArray, List.getElem?_cons_zero, List.getElem?_cons_succ] at e0 e1 e2
      have H9 : TxnSt r (P + 301) (w1.heap.size + 1) w 7 (((w2.setCell ⟨w1.heap.size + 1, 0, none⟩ (.int .i64 p0.s)).setCell ⟨w1.heap.size + 1, 1, none⟩ (.slice p0.A p0.ops.length p0.c)).setCell ⟨w1.heap.size + 1, 2, none⟩ (.bool p0.d)) := by
        have hg3 : w2.grownBy (((w2.setCell ⟨w1.heap.size + 1, 0, none⟩ (.int .i64 p0.s)).setCell ⟨w1.heap.size + 1, 1, none⟩ (.slice p0.A p0.ops.length p0.c)).setCell ⟨w1.heap.size + 1, 2, none⟩ (.bool p0.d)) (some (w1.heap.size + 1)) := grown_trans (grown_trans (grown_set _) (grown_set _)) (grown_set _)
        refine ⟨p0.s, p0.A, p0.c, p0.ops, p0.d, ?_, World.ownsRow.kept o1 hg3 (own_type_ne o1 (show w2.heap[w1.heap.size + 1]? = some (.cells _ 31 (0, 0)) from B6) (by decide)), hps1.1, hps1.2.1, hps1.2.2, hR3.grown hg3 (fun g e => by have := Option.some.inj e; omega), grown_new_row G3 hg3 (by omega), blkg B4 hg3 (by omega)⟩
        simpa using ((B6.set_ 0 (.int .i64 p0.s)).set_ 1 (.slice p0.A p0.ops.length p0.c)).set_ 2 (.bool p0.d)
      have H9 := Lib.hid H9
      clear B6 B4 G3 hG3 hR3 hT3 o1 HT HG1 HB4 hc hf hz hq hp1
      go_wp2
      go_meet
      exact H9.out
    · have H9 : TxnSt r (P + 301) (w1.heap.size + 1) w 7 ((w1.alloc (.cells #[] 24)).alloc (.cells #[.int .i64 0, .slice (some ⟨w1.heap.size, 0, none⟩) 0 0, .bool false] 31)) := by
        have hE : Ext w1 ((w1.alloc (.cells #[] 24)).alloc (.cells #[.int .i64 0, .slice (some ⟨w1.heap.size, 0, none⟩) 0 0, .bool false] 31)) := by (repeat' (first | (with_reducible exact Below.refl _ _) | (with_reducible refine Below.mono (by assumption) ?_) | (with_reducible refine Below.trans ?_ (Below.mono (by assumption) ?_)) | (with_reducible refine Below.alloc ?_ ?_ _) | (with_reducible refine Below.drew ?_) | (with_reducible refine below_drewN ?_ _) | (with_reducible refine Below.setCell ?_ ?_ _) | (simp only [World.size_alloc, World.size_setCell, World.size_drew, size_drewN]; omega) | omega))
        have hb := Blk.new (w1.alloc (.cells #[] 24)) 31 #[.int .i64 0, .slice (some ⟨w1.heap.size, 0, none⟩) 0 0, .bool false]
        rw [World.size_alloc] at hb
        exact ⟨0, some ⟨w1.heap.size, 0, none⟩, 0, [], false, hb, (Own3.made w1 #[] 0 rfl (by omega) (by omega) rfl).ext (Below.alloc (Below.refl _ _) (Nat.le_refl _) _), smallI_nat (n := 0) (by omega), by simp, (fun o ho => by cases ho), (hR2.mono (by omega)).ext hE, grown_trans HG1.out (grown_ext hE _), HB4.out.ext hE⟩
      have H9 := Lib.hid H9
      go_wp2
      go_meet
      exact H9.out
  case rest =>
    have HC := Lib.hid hcut
    clear hcut HT HG1 HB4 hR2
    have hrd : RdrB wc r (P + 301) := by
      obtain ⟨s, A, c, ops, d, hB6, hO, hs', hl', hsm', hRd, hGr, hB4⟩ := HC.out
      exact hRd
    go_wp2_with (fail)
    go_at_call 73
    refine (odd_c r (P + 301) n _ hrd (by omega) (by omega) (by omega)).mono ?_
    rintro e w6 ⟨b6, rfl, hR6, hG6⟩
    obtain ⟨hc, hf, hz, hs⟩ := gcell hG6
    (try simp only [World.size_alloc, World.size_setCell, World.size_drew, size_drewN] at hs); (first | have l0 := Nat.lt_of_lt_of_le l0 (show _ ≤ w6.heap.size by omega) | have l0 : w.heap.size < w6.heap.size := (by omega) | skip); (try have l0e := Nat.le_of_lt l0); (try have l0f := Nat.le_add_right_of_le (k := 1) l0e); (try have l1 := Nat.lt_of_lt_of_le l1 (show _ ≤ w6.heap.size by omega)); (try have l1e := Nat.le_of_lt l1); (try have l1f := Nat.le_add_right_of_le (k := 1) l1e); (try have l2 := Nat.lt_of_lt_of_le l2 (show _ ≤ w6.heap.size by omega)); (try have l2e := Nat.le_of_lt l2); (try have l2f := Nat.le_add_right_of_le (k := 1) l2e); (try have l3 := Nat.lt_of_lt_of_le l3 (show _ ≤ w6.heap.size by omega)); (try have l3e := Nat.le_of_lt l3); (try have l3f := Nat.le_add_right_of_le (k := 1) l3e)
    obtain ⟨s, A, c, ops, d, hB6, hO, hs', hl', hsm', hRd, hGr, hB4⟩ := HC.out.pick hG6 hR6 hr (by omega)
    obtain ⟨d0, d1, d2, df, dl⟩ := txn_cells hB6
    obtain ⟨_, _, _, ef, el⟩ := txn_cells hB4
    have hne : w1.heap.size + 1 ≠ w.heap.size := by omega
    have HO := Lib.hid hO
    have HB4 := Lib.hid hB4
    have HB6 := Lib.hid hB6
    have HG := Lib.hid hGr
    have HR := Lib.hid hRd
    clear hO hB4 hB6 hGr hRd hG6 hR6 hrd HC hc hf hz
    cases b6
    · obtain ⟨f0, f1, f2⟩ := txn_ret HB4.out (.int .i64 s) (.slice A ops.length c) (.bool d)
      have HF := Lib.hid (And.intro f0 (And.intro f1 f2))
      clear f0 f1 f2
      go_wp2
      obtain ⟨f0, f1, f2⟩ := HF.out
      exact bodyPost_ret (v := .agg #[.int .i64 s, .slice A ops.length c, .bool d]) (by simp [results, Tryd.results60, go_sem, f0, f1, f2]) rfl (txn_end HO.out hs' (by omega) hsm' (HR.out.mono (by omega)) HG.out hr HB4.out)
    · obtain ⟨A', c', hv, hx, _⟩ := HO.out.form
      simp only [Value.slice.injEq] at hv
      obtain ⟨rfl, _, rfl⟩ := hv
      obtain ⟨A', c', hv, _, _, hc0, _⟩ := HO.out.cut
      simp only [Value.slice.injEq] at hv
      obtain ⟨rfl, _, rfl⟩ := hv
      have HX := Lib.hid hx
      have HC0 : Hid (A = none → c = 0) := Lib.hid (fun h => (hc0 h).2)
      clear hx hc0
      go_wp2_with (at_builtin; refine wpList_append3s _ rfl _ _ 29 rfl w6.heap.size 24 Tryd.underlying29 info3D rfl _ [] rfl (Own3.made w6 #[] 0 rfl (Nat.le_refl _) (by omega) rfl) _ A c ops rfl (HX.out.ext (by (repeat' (first | (with_reducible exact Below.refl _ _) | (with_reducible refine Below.mono (by assumption) ?_) | (with_reducible refine Below.trans ?_ (Below.mono (by assumption) ?_)) | (with_reducible refine Below.alloc ?_ ?_ _) | (with_reducible refine Below.drew ?_) | (with_reducible refine below_drewN ?_ _) | (with_reducible refine Below.setCell ?_ ?_ _) | (simp only [World.size_alloc, World.size_setCell, World.size_drew, size_drewN]; omega) | omega)))) HC0.out ?_ ?_ ?_)
      · show 0 + ops.length ≤ 4194304
        omega
      · rw [World.size_alloc]; omega
      · intro v' w' hown' hgrow
        have E67 : Ext w6 w' := Below.grown (w := w6.alloc (.cells #[] 24)) (by (repeat' (first | (with_reducible exact Below.refl _ _) | (with_reducible refine Below.mono (by assumption) ?_) | (with_reducible refine Below.trans ?_ (Below.mono (by assumption) ?_)) | (with_reducible refine Below.alloc ?_ ?_ _) | (with_reducible refine Below.drew ?_) | (with_reducible refine below_drewN ?_ _) | (with_reducible refine Below.setCell ?_ ?_ _) | (simp only [World.size_alloc, World.size_setCell, World.size_drew, size_drewN]; omega) | omega))) hgrow (by rw [World.size_alloc]; omega) (fun g hg => by simp [Value.ownBlock] at hg; omega)
        have hown' : Own3 w' w6.heap.size 24 v' ops := hown'
        obtain ⟨A7, c7, rfl, _, _⟩ := hown'.form
        have hz67 := E67.size
        have HR7 := Lib.hid (HR.out.ext E67)
        have HB7 := Lib.hid (HB6.out.ext E67)
        have HB5 := Lib.hid (HB4.out.ext E67)
        have HG7 := Lib.hid (grown_sub HG.out (grown_ext E67 none) (fun g hg => by cases hg))
        have HO7 := Lib.hid hown'
        clear hown' hgrow E67 HR HB4 HB6 HG HX HC0 HO
        go_wp2_with (fail)
        go_at_call 47
        refine (l20Op_c r (P + 301 + 1) 1 _ HR7.out (by omega) (by omega) (by omega)).mono ?_
        rintro e w8 ⟨x, rfl, hx, hR8, hG8⟩
        obtain ⟨hc, hf, hz, hs⟩ := gcell hG8
        (try simp only [World.size_alloc, World.size_setCell, World.size_drew, size_drewN] at hs); (first | have l0 := Nat.lt_of_lt_of_le l0 (show _ ≤ w8.heap.size by omega) | have l0 : w.heap.size < w8.heap.size := (by omega) | skip); (try have l0e := Nat.le_of_lt l0); (try have l0f := Nat.le_add_right_of_le (k := 1) l0e); (try have l1 := Nat.lt_of_lt_of_le l1 (show _ ≤ w8.heap.size by omega)); (try have l1e := Nat.le_of_lt l1); (try have l1f := Nat.le_add_right_of_le (k := 1) l1e); (try have l2 := Nat.lt_of_lt_of_le l2 (show _ ≤ w8.heap.size by omega)); (try have l2e := Nat.le_of_lt l2); (try have l2f := Nat.le_add_right_of_le (k := 1) l2e); (try have l3 := Nat.lt_of_lt_of_le l3 (show _ ≤ w8.heap.size by omega)); (try have l3e := Nat.le_of_lt l3); (try have l3f := Nat.le_add_right_of_le (k := 1) l3e)
        have HO8 := Lib.hid (show Own3 w8 w6.heap.size 24 _ _ from World.ownsRow.kept HO7.out hG8 (.inr (fun e => by have := (own_at HO7.out e).1; omega)))
        have HB8 := Lib.hid (blkg HB7.out hG8 (by omega))
        have HB9 := Lib.hid (blkg HB5.out hG8 (by omega))
        have HG8 := Lib.hid (grown_trans HG7.out hG8)
        have HR8 := Lib.hid hR8
        clear hG8 hR8 HR7 HB7 HB5 HG7 HO7 hc hf hz
        go_wp2_with (at_builtin; refine wpList_append3 _ rfl _ _ 29 rfl w6.heap.size 24 Tryd.underlying29 info3D rfl _ ops rfl (HO8.out.ext (by (repeat' (first | (with_reducible exact Below.refl _ _) | (with_reducible refine Below.mono (by assumption) ?_) | (with_reducible refine Below.trans ?_ (Below.mono (by assumption) ?_)) | (with_reducible refine Below.alloc ?_ ?_ _) | (with_reducible refine Below.drew ?_) | (with_reducible refine below_drewN ?_ _) | (with_reducible refine Below.setCell ?_ ?_ _) | (simp only [World.size_alloc, World.size_setCell, World.size_drew, size_drewN]; omega) | omega)))) _ x.a x.b x.c rfl ((lit_cell _ _ _ 0).trans rfl) ((lit_cell _ _ _ 1).trans rfl) ((lit_cell _ _ _ 2).trans rfl) ?_ ?_ ?_)
        · omega
        · rw [World.size_alloc]; omega
        · intro v9 w9 hown9 hgrow9
          have hgl : ∀ g, (Value.slice A7 ops.length c7).ownBlock = some g → w6.heap.size ≤ g := fun g e => (own_at HO8.out e).1
          have hE8 : Ext w8 (w8.alloc (.cells #[.int .i64 x.a, .int .i64 x.b, .int .i64 x.c] 24)) := by (repeat' (first | (with_reducible exact Below.refl _ _) | (with_reducible refine Below.mono (by assumption) ?_) | (with_reducible refine Below.trans ?_ (Below.mono (by assumption) ?_)) | (with_reducible refine Below.alloc ?_ ?_ _) | (with_reducible refine Below.drew ?_) | (with_reducible refine below_drewN ?_ _) | (with_reducible refine Below.setCell ?_ ?_ _) | (simp only [World.size_alloc, World.size_setCell, World.size_drew, size_drewN]; omega) | omega))
          have b6 := blk_row (HB8.out.ext hE8) hgrow9 (fun e => by have := hgl _ e.symm; omega)
          have b4 := blk_row (HB9.out.ext hE8) hgrow9 (fun e => by have := hgl _ e.symm; omega)
          have g9 := grown_sub (grown_sub HG8.out (grown_ext hE8 none) (fun g hg => by cases hg)) hgrow9 (fun g e => by have := hgl _ e; omega)
          have r9 := (HR8.out.ext hE8).grown hgrow9 (fun g e => by have := hgl _ e; omega)
          obtain ⟨ops', hops'⟩ : ∃ o, o = ops ++ [x] := ⟨_, rfl⟩
          have hown9 : Own3 w9 w6.heap.size 24 v9 ops' := by rw [hops']; exact hown9
          have hl9 : ops'.length ≤ 8 := by rw [hops']; simp; omega
          have hs9 : ∀ o ∈ ops', SmallOp o := by rw [hops']; exact app_small hsm' hx
          clear hops'
          obtain ⟨A9, c9, rfl, _, _⟩ := hown9.form
          have hs1 : w9.grownBy (w9.setCell ⟨w1.heap.size + 1, 1, none⟩ (.slice A9 ops'.length c9)) (some (w1.heap.size + 1)) := grown_set _
          have b6s : Blk (w9.setCell ⟨w1.heap.size + 1, 1, none⟩ (.slice A9 ops'.length c9)) (w1.heap.size + 1) 31 #[.int .i64 s, .slice A9 ops'.length c9, .bool d] := by simpa using b6.set_ 1 (.slice A9 ops'.length c9)
          have b4s := blkg b4 hs1 (by omega)
          have o9s : Own3 _ w.heap.size 24 (.slice A9 ops'.length c9) ops' := Own3.below (World.ownsRow.kept hown9 hs1 (.inr (fun e => by have := (own_at hown9 e).1; omega))) (show w.heap.size ≤ w6.heap.size by omega)
          have r9s := r9.grown hs1 (fun g e => by have := Option.some.inj e; omega)
          have g9s := grown_new_row g9 hs1 (by omega)
          obtain ⟨_, q1, _, qf, ql⟩ := txn_cells b6
          obtain ⟨p0, p1, p2, pf, pl⟩ := txn_cells b6s
          obtain ⟨m0, m1, m2, mf, ml⟩ := txn_cells b4s
          have hF := txn_ret b4s (.int .i64 s) (.slice A9 ops'.length c9) (.bool d)
          have HF := Lib.hid hF
          have HE := Lib.hid (txn_end (d := d) o9s hs' hl9 hs9 (r9s.mono (Q := P + 310) (by omega)) g9s hr b4s)
          clear hF r9s g9s o9s b4s b6s hs1 r9 g9 b4 b6 hgl hE8 hown9 hgrow9 HO8 HB8 HB9 HG8 HR8
          go_wp2
          obtain ⟨f0, f1, f2⟩ := HF.out
          exact bodyPost_ret (v := .agg #[.int .i64 s, .slice A9 ops'.length c9, .bool d]) (by simp [results, Tryd.results60, go_sem, f0, f1, f2]) rfl HE.out
/-- a drawn transaction; old memory is as it was -/
def DrewT (w : World) (e : Ending) (w' : World) : Prop := ∃ (t : TxnT) (A : Option Addr) (c : Nat), e = .returned (.agg #[.int .i64 t.sess, .slice A t.ops.length c, .bool t.done]) ∧ Ops (fun b => w.heap.size ≤ b) w' A t.ops ∧ SmallI t.sess ∧ t.ops.length ≤ 9 ∧ (∀ o ∈ t.ops, SmallOp o) ∧ Ext w w'
theorem ops_low {B B' : Nat} {W : World} {A : Option Addr} {h : List T3} (hx : Ops (fun b => B ≤ b) W A h) (hb : B' ≤ B) : Ops (fun b => B' ≤ b) W A h := SlAt.mono hx (fun _ h _ => Nat.le_trans hb h) (fun _ _ h => h)
theorem ops_store {B g : Nat} {W W' : World} {A : Option Addr} {h : List T3} (hx : Ops (fun b => B ≤ b) W A h) (hG : W.grownBy W' (some g)) (hr : g < B) : Ops (fun b => B ≤ b) W' A h := ops_pick hx hG hr
theorem DrawLastWrites_c (xs : List Int) (A : Option Addr) (c : Nat) (w : World) (h : Byts Any w A xs) (hv : ∀ x ∈ xs, 0 ≤ x ∧ x ≤ 255) (hc : xs.length ≤ c) :
    Calls Tryd.prog 20 #[.slice A xs.length c] w (DrewT w) := by
  go_enter Tryd.func20, Tryd.ntmps20
  go_wp2_with (fail)
  go_at_call 48
  refine (l20Open_c xs A c _ (h.ext (by (repeat' (first | (with_reducible exact Below.refl _ _) | (with_reducible refine Below.mono (by assumption) ?_) | (with_reducible refine Below.trans ?_ (Below.mono (by assumption) ?_)) | (with_reducible refine Below.alloc ?_ ?_ _) | (with_reducible refine Below.drew ?_) | (with_reducible refine below_drewN ?_ _) | (with_reducible refine Below.setCell ?_ ?_ _) | (simp only [World.size_alloc, World.size_setCell, World.size_drew, size_drewN]; omega) | omega)))) hv hc).mono ?_
  rintro e w1 ⟨r, rfl, hr, hR, hb⟩
  obtain ⟨hc, hf, hz, hs⟩ := bcell hb
  (try simp only [World.size_alloc, World.size_setCell, World.size_drew, size_drewN] at hs); (first | have l0 := Nat.lt_of_lt_of_le l0 (show _ ≤ w1.heap.size by omega) | have l0 : w.heap.size < w1.heap.size := (by omega) | skip); (try have l0e := Nat.le_of_lt l0); (try have l0f := Nat.le_add_right_of_le (k := 1) l0e); (try have l1 := Nat.lt_of_lt_of_le l1 (show _ ≤ w1.heap.size by omega)); (try have l1e := Nat.le_of_lt l1); (try have l1f := Nat.le_add_right_of_le (k := 1) l1e); (try have l2 := Nat.lt_of_lt_of_le l2 (show _ ≤ w1.heap.size by omega)); (try have l2e := Nat.le_of_lt l2); (try have l2f := Nat.le_add_right_of_le (k := 1) l2e); (try have l3 := Nat.lt_of_lt_of_le l3 (show _ ≤ w1.heap.size by omega)); (try have l3e := Nat.le_of_lt l3); (try have l3f := Nat.le_add_right_of_le (k := 1) l3e)
  have hb_1 := hb
  simp only [World.size_alloc] at hr
  have hr1 := hR.lt
  go_wp2_with (fail)
  go_at_call 60
  refine (l20Txn_c r 0 9 _ hR (by omega) (by omega) (by omega)).mono ?_
  rintro e w2 ⟨t, A2, c2, rfl, hx, hs1, hl, hsm, hR2, hG⟩
  obtain ⟨hc, hf, hz, hs⟩ := gcell hG
  (try simp only [World.size_alloc, World.size_setCell, World.size_drew, size_drewN] at hs); (first | have l0 := Nat.lt_of_lt_of_le l0 (show _ ≤ w2.heap.size by omega) | have l0 : w.heap.size < w2.heap.size := (by omega) | skip); (try have l0e := Nat.le_of_lt l0); (try have l0f := Nat.le_add_right_of_le (k := 1) l0e); (try have l1 := Nat.lt_of_lt_of_le l1 (show _ ≤ w2.heap.size by omega)); (try have l1e := Nat.le_of_lt l1); (try have l1f := Nat.le_add_right_of_le (k := 1) l1e); (try have l2 := Nat.lt_of_lt_of_le l2 (show _ ≤ w2.heap.size by omega)); (try have l2e := Nat.le_of_lt l2); (try have l2f := Nat.le_add_right_of_le (k := 1) l2e); (try have l3 := Nat.lt_of_lt_of_le l3 (show _ ≤ w2.heap.size by omega)); (try have l3e := Nat.le_of_lt l3); (try have l3f := Nat.le_add_right_of_le (k := 1) l3e)
  have hB0 := blkg ((Blk.new w 31 #[.int .i64 0, .slice none 0 0, .bool false]).ext hb_1) hG (by omega)
  obtain ⟨z0, z1, z2, zf, zl⟩ := txn_cells hB0
  have hF := txn_ret hB0 (.int .i64 t.sess) (.slice A2 t.ops.length c2) (.bool t.done)
  have HF := Lib.hid hF
  have hE2 : Ext w w2 := grown_new (Ext.tr (by (repeat' (first | (with_reducible exact Below.refl _ _) | (with_reducible refine Below.mono (by assumption) ?_) | (with_reducible refine Below.trans ?_ (Below.mono (by assumption) ?_)) | (with_reducible refine Below.alloc ?_ ?_ _) | (with_reducible refine Below.drew ?_) | (with_reducible refine below_drewN ?_ _) | (with_reducible refine Below.setCell ?_ ?_ _) | (simp only [World.size_alloc, World.size_setCell, World.size_drew, size_drewN]; omega) | omega))) hb_1) (by omega) hG
  have hg3 : w2.grownBy (((w2.setCell ⟨w.heap.size, 0, none⟩ (.int .i64 t.sess)).setCell ⟨w.heap.size, 1, none⟩ (.slice A2 t.ops.length c2)).setCell ⟨w.heap.size, 2, none⟩ (.bool t.done)) (some w.heap.size) := grown_trans (grown_trans (grown_set _) (grown_set _)) (grown_set _)
  have hx2 := ops_low (ops_pick hx hg3 (by omega)) (show w.heap.size ≤ w1.heap.size by omega)
  have HE := Lib.hid (show DrewT w _ _ from ⟨t, A2, c2, rfl, hx2, hs1, by omega, hsm, grown_new hE2 (Nat.le_refl _) hg3⟩)
  clear hF hE2 hg3 hx2 hx hG hB0 hc hf hz
  go_wp2
  obtain ⟨f0, f1, f2⟩ := HF.out
  exact bodyPost_ret (v := .agg #[.int .i64 t.sess, .slice A2 t.ops.length c2, .bool t.done]) (by simp [results, Tryd.results20, go_sem, f0, f1, f2]) rfl HE.out
theorem DrawFirstReads_c (xs : List Int) (A : Option Addr) (c : Nat) (w : World) (h : Byts Any w A xs) (hv : ∀ x ∈ xs, 0 ≤ x ∧ x ≤ 255) (hc : xs.length ≤ c) :
    Calls Tryd.prog 24 #[.slice A xs.length c] w (DrewT w) := by
  go_enter Tryd.func24, Tryd.ntmps24
  go_wp2_with (fail)
  go_at_call 48
  refine (l20Open_c xs A c _ (h.ext (by (repeat' (first | (with_reducible exact Below.refl _ _) | (with_reducible refine Below.mono (by assumption) ?_) | (with_reducible refine Below.trans ?_ (Below.mono (by assumption) ?_)) | (with_reducible refine Below.alloc ?_ ?_ _) | (with_reducible refine Below.drew ?_) | (with_reducible refine below_drewN ?_ _) | (with_reducible refine Below.setCell ?_ ?_ _) | (simp only [World.size_alloc, World.size_setCell, World.size_drew, size_drewN]; omega) | omega)))) hv hc).mono ?_
  rintro e w1 ⟨r, rfl, hr, hR, hb⟩
  obtain ⟨hc, hf, hz, hs⟩ := bcell hb
  (try simp only [World.size_alloc, World.size_setCell, World.size_drew, size_drewN] at hs); (first | have l0 := Nat.lt_of_lt_of_le l0 (show _ ≤ w1.heap.size by omega) | have l0 : w.heap.size < w1.heap.size := (by omega) | skip); (try have l0e := Nat.le_of_lt l0); (try have l0f := Nat.le_add_right_of_le (k := 1) l0e); (try have l1 := Nat.lt_of_lt_of_le l1 (show _ ≤ w1.heap.size by omega)); (try have l1e := Nat.le_of_lt l1); (try have l1f := Nat.le_add_right_of_le (k := 1) l1e); (try have l2 := Nat.lt_of_lt_of_le l2 (show _ ≤ w1.heap.size by omega)); (try have l2e := Nat.le_of_lt l2); (try have l2f := Nat.le_add_right_of_le (k := 1) l2e); (try have l3 := Nat.lt_of_lt_of_le l3 (show _ ≤ w1.heap.size by omega)); (try have l3e := Nat.le_of_lt l3); (try have l3f := Nat.le_add_right_of_le (k := 1) l3e)
  have hb_1 := hb
  simp only [World.size_alloc] at hr
  have hr1 := hR.lt
  go_wp2_with (fail)
  go_at_call 60
  refine (l20Txn_c r 0 9 _ hR (by omega) (by omega) (by omega)).mono ?_
  rintro e w2 ⟨t, A2, c2, rfl, hx, hs1, hl, hsm, hR2, hG⟩
  obtain ⟨hc, hf, hz, hs⟩ := gcell hG
  (try simp only [World.size_alloc, World.size_setCell, World.size_drew, size_drewN] at hs); (first | have l0 := Nat.lt_of_lt_of_le l0 (show _ ≤ w2.heap.size by omega) | have l0 : w.heap.size < w2.heap.size := (by omega) | skip); (try have l0e := Nat.le_of_lt l0); (try have l0f := Nat.le_add_right_of_le (k := 1) l0e); (try have l1 := Nat.lt_of_lt_of_le l1 (show _ ≤ w2.heap.size by omega)); (try have l1e := Nat.le_of_lt l1); (try have l1f := Nat.le_add_right_of_le (k := 1) l1e); (try have l2 := Nat.lt_of_lt_of_le l2 (show _ ≤ w2.heap.size by omega)); (try have l2e := Nat.le_of_lt l2); (try have l2f := Nat.le_add_right_of_le (k := 1) l2e); (try have l3 := Nat.lt_of_lt_of_le l3 (show _ ≤ w2.heap.size by omega)); (try have l3e := Nat.le_of_lt l3); (try have l3f := Nat.le_add_right_of_le (k := 1) l3e)
  have hB0 := blkg ((Blk.new w 31 #[.int .i64 0, .slice none 0 0, .bool false]).ext hb_1) hG (by omega)
  obtain ⟨z0, z1, z2, zf, zl⟩ := txn_cells hB0
  have hF := txn_ret hB0 (.int .i64 t.sess) (.slice A2 t.ops.length c2) (.bool t.done)
  have HF := Lib.hid hF
  have hE2 : Ext w w2 := grown_new (Ext.tr (by (repeat' (first | (with_reducible exact Below.refl _ _) | (with_reducible refine Below.mono (by assumption) ?_) | (with_reducible refine Below.trans ?_ (Below.mono (by assumption) ?_)) | (with_reducible refine Below.alloc ?_ ?_ _) | (with_reducible refine Below.drew ?_) | (with_reducible refine below_drewN ?_ _) | (with_reducible refine Below.setCell ?_ ?_ _) | (simp only [World.size_alloc, World.size_setCell, World.size_drew, size_drewN]; omega) | omega))) hb_1) (by omega) hG
  have hg3 : w2.grownBy (((w2.setCell ⟨w.heap.size, 0, none⟩ (.int .i64 t.sess)).setCell ⟨w.heap.size, 1, none⟩ (.slice A2 t.ops.length c2)).setCell ⟨w.heap.size, 2, none⟩ (.bool t.done)) (some w.heap.size) := grown_trans (grown_trans (grown_set _) (grown_set _)) (grown_set _)
  have hx2 := ops_low (ops_pick hx hg3 (by omega)) (show w.heap.size ≤ w1.heap.size by omega)
  have HE := Lib.hid (show DrewT w _ _ from ⟨t, A2, c2, rfl, hx2, hs1, by omega, hsm, grown_new hE2 (Nat.le_refl _) hg3⟩)
  clear hF hE2 hg3 hx2 hx hG hB0 hc hf hz
  go_wp2
  obtain ⟨f0, f1, f2⟩ := HF.out
  exact bodyPost_ret (v := .agg #[.int .i64 t.sess, .slice A2 t.ops.length c2, .bool t.done]) (by simp [results, Tryd.results24, go_sem, f0, f1, f2]) rfl HE.out
/-- .. and its length at most its capacity -/
def DrewTc (w : World) (e : Ending) (w' : World) : Prop := ∃ (t : TxnT) (A : Option Addr) (c : Nat), e = .returned (.agg #[.int .i64 t.sess, .slice A t.ops.length c, .bool t.done]) ∧ t.ops.length ≤ c ∧ (A = none → t.ops.length = 0 ∧ c = 0) ∧ Ops (fun b => w.heap.size ≤ b) w' A t.ops ∧ SmallI t.sess ∧ t.ops.length ≤ 9 ∧ (∀ o ∈ t.ops, SmallOp o) ∧ Ext w w'
theorem drew_tc {w W : World} {s : Int} {A : Option Addr} {c : Nat} {ops : List T3} {d : Bool} (hO : Own3 W w.heap.size 24 (.slice A ops.length c) ops) (hs : SmallI s) (hl : ops.length ≤ 9) (hsm : ∀ o ∈ ops, SmallOp o) (hE : Ext w W)
    (hB4 : Blk W w.heap.size 31 #[.int .i64 0, .slice none 0 0, .bool false]) :
    DrewTc w (.returned (.agg #[.int .i64 s, .slice A ops.length c, .bool d])) (((W.setCell ⟨w.heap.size, 0, none⟩ (.int .i64 s)).setCell ⟨w.heap.size, 1, none⟩ (.slice A ops.length c)).setCell ⟨w.heap.size, 2, none⟩ (.bool d)) := by
  have hg3 : W.grownBy (((W.setCell ⟨w.heap.size, 0, none⟩ (.int .i64 s)).setCell ⟨w.heap.size, 1, none⟩ (.slice A ops.length c)).setCell ⟨w.heap.size, 2, none⟩ (.bool d)) (some w.heap.size) := grown_trans (grown_trans (grown_set _) (grown_set _)) (grown_set _)
  have hO2 : Own3 _ w.heap.size 24 (.slice A ops.length c) ops := World.ownsRow.kept hO hg3 (own_type_ne hO (show W.heap[w.heap.size]? = some (.cells _ 31 (0, 0)) from hB4) (by decide))
  obtain ⟨A', c', hv, hx, _⟩ := hO2.form
  simp only [Value.slice.injEq] at hv
  obtain ⟨rfl, _, rfl⟩ := hv
  obtain ⟨A', c', hv, hc, _, hn, _⟩ := hO2.cut
  simp only [Value.slice.injEq] at hv
  obtain ⟨rfl, _, rfl⟩ := hv
  exact ⟨⟨s, ops, d⟩, A, c, rfl, hc, hn, hx, hs, hl, hsm, grown_new hE (Nat.le_refl _) hg3⟩
set_option maxHeartbeats 1000000 in
theorem DrawTxnValid_c (xs : List Int) (A : Option Addr) (c : Nat) (w : World) (h : Byts Any w A xs) (hv : ∀ x ∈ xs, 0 ≤ x ∧ x ≤ 255) (hc : xs.length ≤ c) :
    Calls Tryd.prog 17 #[.slice A xs.length c] w (DrewTc w) := by
  go_enter Tryd.func17, Tryd.ntmps17
  go_wp2_with (fail)
  go_at_call 48
  refine (l20Open_c xs A c _ (h.ext (by (repeat' (first | (with_reducible exact Below.refl _ _) | (with_reducible refine Below.mono (by assumption) ?_) | (with_reducible refine Below.trans ?_ (Below.mono (by assumption) ?_)) | (with_reducible refine Below.alloc ?_ ?_ _) | (with_reducible refine Below.drew ?_) | (with_reducible refine below_drewN ?_ _) | (with_reducible refine Below.setCell ?_ ?_ _) | (simp only [World.size_alloc, World.size_setCell, World.size_drew, size_drewN]; omega) | omega)))) hv hc).mono ?_
  rintro e w1 ⟨r, rfl, hr, hR, hb⟩
  obtain ⟨hc, hf, hz, hs⟩ := bcell hb
  (try simp only [World.size_alloc, World.size_setCell, World.size_drew, size_drewN] at hs); (first | have l0 := Nat.lt_of_lt_of_le l0 (show _ ≤ w1.heap.size by omega) | have l0 : w.heap.size < w1.heap.size := (by omega) | skip); (try have l0e := Nat.le_of_lt l0); (try have l0f := Nat.le_add_right_of_le (k := 1) l0e); (try have l1 := Nat.lt_of_lt_of_le l1 (show _ ≤ w1.heap.size by omega)); (try have l1e := Nat.le_of_lt l1); (try have l1f := Nat.le_add_right_of_le (k := 1) l1e); (try have l2 := Nat.lt_of_lt_of_le l2 (show _ ≤ w1.heap.size by omega)); (try have l2e := Nat.le_of_lt l2); (try have l2f := Nat.le_add_right_of_le (k := 1) l2e); (try have l3 := Nat.lt_of_lt_of_le l3 (show _ ≤ w1.heap.size by omega)); (try have l3e := Nat.le_of_lt l3); (try have l3f := Nat.le_add_right_of_le (k := 1) l3e)
  have hb_1 := hb
  simp only [World.size_alloc] at hr
  have hr1 := hR.lt
  go_wp2_with (fail)
  go_at_call 55
  refine (l20History_c r 0 2 2 _ hR (by omega) (by omega) (by omega) (by omega)).mono ?_
  rintro e w2 ⟨ps, lim, vo, rfl, hT, hl, hps, hR2, hG⟩
  obtain ⟨hc, hf, hz, hs⟩ := gcell hG
  (try simp only [World.size_alloc, World.size_setCell, World.size_drew, size_drewN] at hs); (first | have l0 := Nat.lt_of_lt_of_le l0 (show _ ≤ w2.heap.size by omega) | have l0 : w.heap.size < w2.heap.size := (by omega) | skip); (try have l0e := Nat.le_of_lt l0); (try have l0f := Nat.le_add_right_of_le (k := 1) l0e); (try have l1 := Nat.lt_of_lt_of_le l1 (show _ ≤ w2.heap.size by omega)); (try have l1e := Nat.le_of_lt l1); (try have l1f := Nat.le_add_right_of_le (k := 1) l1e); (try have l2 := Nat.lt_of_lt_of_le l2 (show _ ≤ w2.heap.size by omega)); (try have l2e := Nat.le_of_lt l2); (try have l2f := Nat.le_add_right_of_le (k := 1) l2e); (try have l3 := Nat.lt_of_lt_of_le l3 (show _ ≤ w2.heap.size by omega)); (try have l3e := Nat.le_of_lt l3); (try have l3f := Nat.le_add_right_of_le (k := 1) l3e)
  have hB0 := blkg ((Blk.new w 31 #[.int .i64 0, .slice none 0 0, .bool false]).ext hb_1) hG (by omega)
  have hE2 : Ext w w2 := grown_new (Ext.tr (by (repeat' (first | (with_reducible exact Below.refl _ _) | (with_reducible refine Below.mono (by assumption) ?_) | (with_reducible refine Below.trans ?_ (Below.mono (by assumption) ?_)) | (with_reducible refine Below.alloc ?_ ?_ _) | (with_reducible refine Below.drew ?_) | (with_reducible refine below_drewN ?_ _) | (with_reducible refine Below.setCell ?_ ?_ _) | (simp only [World.size_alloc, World.size_setCell, World.size_drew, size_drewN]; omega) | omega))) hb_1) (by omega) hG
  obtain ⟨A2, c2, rfl, hc2, hT2, hf2⟩ := hT.txns
  clear hT2 hf2 hG
  by_cases h0 : ps.length = 0
  · have e0 : ((ps.length : Int) == 0) = true := by simp [h0]
    have HB0 := Lib.hid hB0
    have HE2 := Lib.hid hE2
    clear hB0 hE2 hT hc hf hz
    have hmk := makeOps
    go_wp2_with (fail)
    go_at_call 56
    refine (pick_c r _ 9 _ hR2 (by omega) (by omega) (by omega)).mono ?_
    rintro e w3 ⟨k, rfl, hk, hR3, hG3⟩
    obtain ⟨hc, hf, hz, hs⟩ := gcell hG3
    (try simp only [World.size_alloc, World.size_setCell, World.size_drew, size_drewN] at hs); (first | have l0 := Nat.lt_of_lt_of_le l0 (show _ ≤ w3.heap.size by omega) | have l0 : w.heap.size < w3.heap.size := (by omega) | skip); (try have l0e := Nat.le_of_lt l0); (try have l0f := Nat.le_add_right_of_le (k := 1) l0e); (try have l1 := Nat.lt_of_lt_of_le l1 (show _ ≤ w3.heap.size by omega)); (try have l1e := Nat.le_of_lt l1); (try have l1f := Nat.le_add_right_of_le (k := 1) l1e); (try have l2 := Nat.lt_of_lt_of_le l2 (show _ ≤ w3.heap.size by omega)); (try have l2e := Nat.le_of_lt l2); (try have l2f := Nat.le_add_right_of_le (k := 1) l2e); (try have l3 := Nat.lt_of_lt_of_le l3 (show _ ≤ w3.heap.size by omega)); (try have l3e := Nat.le_of_lt l3); (try have l3f := Nat.le_add_right_of_le (k := 1) l3e)
    have hk' := hk (by omega)
    have hmk := hmk k (by omega)
    have hB3 := blkg HB0.out hG3 (by omega)
    have hE3 := grown_new HE2.out (by omega) hG3
    obtain ⟨z0, z1, z2, zf, zl⟩ := txn_cells hB3
    obtain ⟨V, hV⟩ : ∃ V, V = ((w3.setCell ⟨w.heap.size, 0, none⟩ (.int .i64 0)).setCell ⟨w.heap.size, 1, none⟩ (.slice (some ⟨w3.heap.size, 0, none⟩) k k)).setCell ⟨w.heap.size, 2, none⟩ (.bool false) := ⟨_, rfl⟩
    have hVz : V.heap.size = w3.heap.size := by rw [hV]; simp [World.setCell]
    have hF := txn_ret hB3 (.int .i64 0) (.slice (some ⟨w3.heap.size, 0, none⟩) k k) (.bool false)
    simp only [← hV] at hF
    have hg3 : w3.grownBy V (some w.heap.size) := by
      rw [hV]
      exact grown_trans (grown_trans (grown_set _) (grown_set _)) (grown_set _)
    have hEV : Ext w V := grown_new hE3 (Nat.le_refl _) hg3
    have hEA : Ext V (V.alloc (.cells (flat3 (List.replicate k ⟨0, 0, 0⟩)).toArray 24)) := by (repeat' (first | (with_reducible exact Below.refl _ _) | (with_reducible refine Below.mono (by assumption) ?_) | (with_reducible refine Below.trans ?_ (Below.mono (by assumption) ?_)) | (with_reducible refine Below.alloc ?_ ?_ _) | (with_reducible refine Below.drew ?_) | (with_reducible refine below_drewN ?_ _) | (with_reducible refine Below.setCell ?_ ?_ _) | (simp only [World.size_alloc, World.size_setCell, World.size_drew, size_drewN]; omega) | omega))
    have hO3 := Own3.lit V (base := w.heap.size) (e := 24) (List.replicate k ⟨0, 0, 0⟩) hEV.size (by simp; omega)
    rw [hVz, List.length_replicate] at hO3
    obtain ⟨A9, c9, hv9, hx9, _⟩ := hO3.form
    rw [List.length_replicate] at hv9
    simp only [Value.slice.injEq] at hv9
    obtain ⟨rfl, _, rfl⟩ := hv9
    have HD := Lib.hid (show DrewTc w (.returned (.agg #[.int .i64 0, .slice (some ⟨w3.heap.size, 0, none⟩) k k, .bool false])) (V.alloc (.cells (flat3 (List.replicate k ⟨0, 0, 0⟩)).toArray 24)) from
      ⟨⟨0, List.replicate k ⟨0, 0, 0⟩, false⟩, some ⟨w3.heap.size, 0, none⟩, k, by simp, by simp, (fun h => by cases h), hx9, smallI_nat (n := 0) (by omega), by simp; omega, (fun o ho => by
        obtain rfl := List.eq_of_mem_replicate ho
        exact smallOp (by omega) (by omega) (by omega) (by omega) (by omega) (by omega)), hEV.tr hEA⟩)
    have hlV : w.heap.size < V.heap.size := by omega
    obtain ⟨f0, f1, f2⟩ := hF
    have HF := Lib.hid (And.intro (hEA.keep hlV f0) (And.intro (hEA.keep hlV f1) (hEA.keep hlV f2)))
    have HV := Lib.hid hV
    clear hV f0 f1 f2 hx9 hO3 hEA hEV hg3 hE3 hB3 hG3 hR3 HB0 HE2 hc hf hz hlV
    go_wp2
    obtain ⟨f0, f1, f2⟩ := HF.out
    rw [← HV.out]
    exact bodyPost_ret (v := .agg #[.int .i64 0, .slice (some ⟨w3.heap.size, 0, none⟩) k k, .bool false]) (by simp [results, Tryd.results17, go_sem, f0, f1, f2]) rfl HD.out
  · have e0 : ((ps.length : Int) == 0) = false := by simpa using h0
    obtain ⟨g7, rfl⟩ : ∃ g7, A2 = some ⟨g7, 0, none⟩ := by
      rcases hT.1.2 with ⟨hv, hn0⟩ | ⟨g, cap, cur, hv, _⟩
      · omega
      · simp only [Value.slice.injEq] at hv
        exact ⟨g, hv.1⟩
    obtain ⟨p0, hp1⟩ : ∃ p0, ps[ps.length - 1]? = some p0 := ⟨_, List.getElem?_eq_getElem (by omega)⟩
    obtain ⟨a0, a1, a2, af, al⟩ := hT.at_ hp1
    have hps1 := hps _ (List.mem_of_getElem? hp1)
    obtain ⟨o1, _⟩ := hT.2 _ (List.mem_of_getElem? hp1)
    obtain ⟨z0, z1, z2, zf, zl⟩ := txn_cells hB0
    have hF := txn_ret hB0 (.int .i64 p0.s) (.slice p0.A p0.ops.length p0.c) (.bool p0.d)
    have HF := Lib.hid hF
    have HD := Lib.hid (drew_tc (s := p0.s) (d := p0.d) (o1.below (show w.heap.size ≤ w1.heap.size by omega)) hps1.1 (by have := hps1.2.1; omega) hps1.2.2 hE2 hB0)
    have hcast : ((ps.length : Int) - 1).toNat = ps.length - 1 := by omega
    have hi1 : (0 : Int) ≤ (ps.length : Int) - 1 := by omega
    have hi2 : (ps.length : Int) - 1 < ps.length := by omega
    clear hF hB0 hE2 hT o1 hp1 hc hf hz
    go_wp2
    obtain ⟨f0, f1, f2⟩ := HF.out
    exact bodyPost_ret (v := .agg #[.int .i64 p0.s, .slice p0.A p0.ops.length p0.c, .bool p0.d]) (by simp [results, Tryd.results17, go_sem, f0, f1, f2]) rfl HD.out
end Go.Proofs.YtagmlbhmojgnlaaDoor
