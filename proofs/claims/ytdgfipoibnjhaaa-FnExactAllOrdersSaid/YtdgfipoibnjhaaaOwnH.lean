/-
  The reference's copy of a history, and what it asks of the slices' room.
-/
import Derived.Test.YtdgfipoibnjhaaaDrawH
import Derived.Test.YtdgfipoibnjhaaaCaps
import Derived.Laws.AppendOwnNone
namespace Go.Proofs.Ytdgfipoibnjhaaa
set_option linter.unusedSimpArgs false
set_option linter.unusedVariables false
set_option maxRecDepth 100000
open Go.RowKit

/-- a nil slice of operations has no room -/
def CapN (w : World) (A : Option Addr) (m : Nat) : Prop := ∀ b off, A = some ⟨b, off, none⟩ → b < w.heap.size ∧ ∀ i, i < m → ∀ n c, w.cell? ⟨b, off + i * 3 + 1, none⟩ = some (.slice none n c) → c = 0
theorem CapN.ext {w w' : World} {A : Option Addr} {m : Nat} (h : CapN w A m) (hE : Ext w w') : CapN w' A m := fun b off e => by
  obtain ⟨h1, h2⟩ := h b off e
  refine ⟨Nat.lt_of_lt_of_le h1 hE.size, fun i hi n c hc => h2 i hi n c ?_⟩
  rw [← hc]
  exact (World.cell?_of_block (a := ⟨b, off + i * 3 + 1, none⟩) (hE.block b h1)).symm
def CapNC (cs : Array Value) (k : Nat) : Prop := ∀ i, i < k → ∀ n c, cs[i * 3 + 1]? = some (.slice none n c) → c = 0
theorem CapNC.step {cs : Array Value} {k : Nat} {s : Int} {A : Option Addr} {n c : Nat} {d : Bool} (h : CapNC cs k) (hs : k * 3 + 1 < cs.size) (h0 : A = none → c = 0) : CapNC (((cs.setIfInBounds (k * 3) (.int .i64 s)).setIfInBounds (k * 3 + 1) (.slice A n c)).setIfInBounds (k * 3 + 2) (.bool d)) (k + 1) := by
  intro i hi n' c' hc
  rcases Nat.lt_or_ge i k with h1 | h1
  · rw [Array.getElem?_setIfInBounds_ne (by omega), Array.getElem?_setIfInBounds_ne (by omega), Array.getElem?_setIfInBounds_ne (by omega)] at hc
    exact h i h1 n' c' hc
  · obtain rfl : i = k := by omega
    rw [Array.getElem?_setIfInBounds_ne (by omega), Array.getElem?_setIfInBounds_self_of_lt (by (try simp); omega)] at hc
    cases hc
    exact h0 rfl
theorem CapNC.caps {w : World} {g : Nat} {t : TypeId} {cs : Array Value} {k : Nat} (h : CapNC cs k) (hB : Blk w g t cs) : CapN w (some ⟨g, 0, none⟩) k := fun b off e => by
  cases e
  exact ⟨hB.lt, fun i hi n c hc => h i hi n c (by rw [← hc, Nat.zero_add]; exact (hB.cell _).symm)⟩
theorem own3_block {w : World} {base : Nat} {e : TypeId} {v : Value} {xs : List T3} (h : Own3 w base e v xs) (g : Nat) (hg : v.ownBlock = some g) : base ≤ g := by
  rcases h.2 with ⟨rfl, _⟩ | ⟨g', cap, cur, rfl, hb, _⟩
  · simp [Value.ownBlock] at hg
  · simp only [Value.ownBlock] at hg
    cases hg
    exact hb
theorem nil_ops {S : Nat → Prop} {w : World} {xs : List T3} (h : Ops S w none xs) : xs = [] := by
  cases xs with
  | nil => rfl
  | cons y zs =>
    obtain ⟨b, off, us, e, _⟩ := h 0 y rfl
    cases e
theorem ownT_ext {w w' : World} {B lim : Nat} {v : Value} {ps : List PT} (h : OwnT w B lim v ps) (hE : Ext w w') : OwnT w' B lim v ps :=
  ⟨World.ownsRow.kept h.1 (row := none) (grown_ext hE _) (or_none _), fun p hp => ⟨(h.2 p hp).1.ext hE, (h.2 p hp).2⟩⟩
theorem OwnT.capN {w : World} {B lim : Nat} {A : Option Addr} {n c : Nat} {ps : List PT} (h : OwnT w B lim (.slice A n c) ps) : CapN w A ps.length := fun b off e => by
  subst e
  rcases h.1.2 with ⟨hv, hn⟩ | ⟨g, cap, cur, hv, hb, hg, hle, hm, hs, ht⟩
  · cases hv
  · cases hv
    refine ⟨(Array.getElem?_eq_some_iff.1 hg).1, fun i hi n c hc => ?_⟩
    have hp : ps[i]? = some ps[i] := List.getElem?_eq_getElem hi
    have h5 := flatP_at ps i ps[i] hp 1 (.slice ps[i].A ps[i].ops.length ps[i].c) rfl
    have hc2 : w.cell? ⟨b, 0 + i * 3 + 1, none⟩ = (flatP ps)[i * 3 + 1]? := by
      rw [cell_of_row w b _ cur _ (0, 0) hg, ← ht, List.getElem?_take, if_pos (by omega)]
      simp
    rw [hc2, h5] at hc
    have hown := (h.2 ps[i] (List.getElem_mem hi)).1
    injection hc with hc
    injection hc with e1 e2 e3
    rcases hown.2 with ⟨hv, _⟩ | ⟨g2, cap2, cur2, hv, _⟩
    · injection hv with _ _ e4
      omega
    · injection hv with e5
      rw [e1] at e5
      cases e5
/-- a copy of a history, and its room -/
def FreshHN (xs : List TxnT) (w : World) (e : Ending) (w' : World) : Prop := ∃ A, e = .returned (.slice A xs.length xs.length) ∧ Txns2 (fun b => w.heap.size ≤ b) (fun b => w.heap.size < b) w' A xs ∧ CapN w' A xs.length ∧ Ext w w'
set_option maxHeartbeats 2000000 in
theorem toTxnSN_c (xs : List TxnT) (S : Nat → Prop) (A : Option Addr) (c : Nat) (w : World) (hx : Txns S w A xs) (hs : Small xs) :
    Calls Try.prog 6 #[.slice A xs.length c] w (FreshHN xs w) := by
  have hn := hs.len
  obtain ⟨i0, hi, hz0, hz1, hz2⟩ := info_parts infoTxn
  have hmk := fun W => run_make_rowN (P := Try.prog) 26 46 i0 _ Try.underlying26 hi hz0 .i64 .i64 xs.length xs.length (Nat.le_refl _) (by rw [hz2]; omega) (by omega) W
  rw [hz1] at hmk
  go_enter Try.func6, Try.ntmps6
  go_wp2
  go_loopw [4] (fun i wr => ∃ (k : Nat) (cs : Array Value), k ≤ xs.length ∧ i = .int .i64 k ∧ Blk wr w.heap.size 46 cs ∧ UptoT wr (fun b => w.heap.size < b) cs xs k ∧ CapNC cs k ∧ Ext w wr) (fun i _ => xs.length - (intOf i).toNat)
  case atStart => exact ⟨0, _, Nat.zero_le _, rfl, Blk.new _ _ _, ⟨by simp [madeCells], fun i x h => by omega⟩, (fun i hi => by omega), by (repeat' (first | (with_reducible exact Below.refl _ _) | (with_reducible refine Below.mono (by assumption) ?_) | (with_reducible refine Below.trans ?_ (Below.mono (by assumption) ?_)) | (with_reducible refine Below.alloc ?_ ?_ _) | (with_reducible refine Below.drew ?_) | (with_reducible refine below_drewN ?_ _) | (with_reducible refine Below.setCell ?_ ?_ _) | (simp only [World.size_alloc, World.size_setCell, World.size_drew, size_drewN]; omega) | omega))⟩
  case round =>
    obtain ⟨k, cs, hk, rfl, hB, hU, hC, hE⟩ := hrel
    by_cases hlt : k < xs.length
    · obtain ⟨s, ops, d, A', cap, b, off, hxk, rfl, _, hb0, hO, c0, c1, c2⟩ := (hx.ext hE).at_ hlt
      have hg := hB.lt
      have hs3 := hU.1
      have hon := hs.ops hxk
      simp only at hon
      obtain ⟨u0, d0⟩ := hB.at_ (i := k * 3) (by omega)
      obtain ⟨u1, d1⟩ := hB.at_ (i := k * 3 + 1) (by omega)
      obtain ⟨u2, d2⟩ := hB.at_ (i := k * 3 + 2) (by omega)
      have hfz := hB.frozen
      have HC := Lib.hid hC
      have HX := Lib.hid hxk; have HU := Lib.hid hU; have HS := Lib.hid hs3
      clear hxk hU hs3 hC
      go_wp2_with (go_at_call 19; refine (toTxn_c ⟨s, ops, d⟩ _ _ _ _ (hO.ext (by (repeat' (first | (with_reducible exact Below.refl _ _) | (with_reducible refine Below.mono (by assumption) ?_) | (with_reducible refine Below.trans ?_ (Below.mono (by assumption) ?_)) | (with_reducible refine Below.alloc ?_ ?_ _) | (with_reducible refine Below.drew ?_) | (with_reducible refine below_drewN ?_ _) | (with_reducible refine Below.setCell ?_ ?_ _) | (simp only [World.size_alloc, World.size_setCell, World.size_drew, size_drewN]; omega) | omega)))) hon).mono ?_; rintro e w1 ⟨A2, rfl, hA2, hf2, hb⟩; obtain ⟨hc, hf, hz, hs⟩ := bcell hb; (try simp only [World.size_alloc, World.size_setCell, World.size_drew, size_drewN] at hs); (first | have l0 := Nat.lt_of_lt_of_le l0 (show _ ≤ w1.heap.size by omega) | have l0 : w.heap.size < w1.heap.size := (by omega) | skip); (try have l0e := Nat.le_of_lt l0); (try have l0f := Nat.le_add_right_of_le (k := 1) l0e); (try have l1 := Nat.lt_of_lt_of_le l1 (show _ ≤ w1.heap.size by omega)); (try have l1e := Nat.le_of_lt l1); (try have l1f := Nat.le_add_right_of_le (k := 1) l1e); (try have l2 := Nat.lt_of_lt_of_le l2 (show _ ≤ w1.heap.size by omega)); (try have l2e := Nat.le_of_lt l2); (try have l2f := Nat.le_add_right_of_le (k := 1) l2e); (try have l3 := Nat.lt_of_lt_of_le l3 (show _ ≤ w1.heap.size by omega)); (try have l3e := Nat.le_of_lt l3); (try have l3f := Nat.le_add_right_of_le (k := 1) l3e))
      go_roundw
      case rel =>
        have hU2 := HU.out.ext hb
        have hO2 : Ops (fun b => w.heap.size < b) w1 A2 ops := hA2.mono (fun b h _ => by omega) (fun _ _ h => h)
        have hst := hU2.step (cap := ops.length) HX.out hO2
        have h0 : A2 = none → ops.length = 0 := fun e => by subst e; rw [nil_ops hO2]; rfl
        refine ⟨k + 1, _, by omega, by go_num, (((hB.ext hb).set_ _ _).set_ _ _).set_ _ _, ?_, HC.out.step (by rw [HS.out]; omega) h0, by (repeat' (first | (with_reducible exact Below.refl _ _) | (with_reducible refine Below.mono (by assumption) ?_) | (with_reducible refine Below.trans ?_ (Below.mono (by assumption) ?_)) | (with_reducible refine Below.alloc ?_ ?_ _) | (with_reducible refine Below.drew ?_) | (with_reducible refine below_drewN ?_ _) | (with_reducible refine Below.setCell ?_ ?_ _) | (simp only [World.size_alloc, World.size_setCell, World.size_drew, size_drewN]; omega) | omega))⟩
        exact ((hst.setCell (by simp) _).setCell (by simp) _).setCell (by simp) _
      case measure => simp [intOf]; omega
    · obtain rfl : k = xs.length := by omega
      go_wp2
      go_ret
      exact ⟨_, rfl, hU.txns hB (Nat.le_refl _), hC.caps hB, hE⟩
/-- append of a whole slice of three-number structs wherever it lies -/
theorem wpList_append3n {P : Program} (w : World) {ops : Array Oper} {rest : List Oper} {o : Oper} {a : Act} {Q : Exit → Act → World → Prop} (hgd : o.guard = none) (s x : Operand) (t : TypeId)
    (ho : o.op = .call { callee := .builtin .append, args := #[s, x], argTypes := #[t, t] })
    (base : Nat) (e : TypeId) {z : Value} (ht : P.underlying t = some (.slice e)) (hinfo : (P.info? e).map (fun i => (i.zero, i.size, i.bytes)) = some (some z, 3, 24)) (hzs : z.cells.size = 3)
    (v : Value) (xs : List T3) (hs : a.eval s = v) (hown : Own3 w base e v xs)
    (S : Nat → Prop) (A : Option Addr) (c : Nat) (ys : List T3) (hx : a.eval x = .slice A ys.length c) (hu : Ops S w A ys) (hc0 : A = none → c = 0)
    (hn : xs.length + ys.length ≤ 4194304) (hbase : base ≤ w.heap.size)
    (h : ∀ v' w', Own3 w' base e v' (xs ++ ys) → w.grownBy w' v.ownBlock → wpList P ops Q rest (a.put o.dst v') w') : wpList P ops Q (o :: rest) a w := by
  obtain ⟨i0, hi, hz0, hz1, hz2⟩ := info_parts hinfo
  have f3 : ∀ (zs : List T3), ∀ u ∈ flat3 zs, u.oneCell' = true := by
    intro zs u hu
    simp only [flat3, List.mem_flatMap] at hu
    obtain ⟨x, _, hu⟩ := hu
    simp at hu
    rcases hu with rfl | rfl | rfl <;> rfl
  have fin : ∀ v' w', w'.ownsRow base e 3 v' (xs.length + ys.length) (flat3 xs ++ flat3 ys) → w.grownBy w' v.ownBlock → wpList P ops Q rest (a.put o.dst v') w' := fun v' w' h1 h2 => by
    refine h v' w' ?_ h2
    unfold Own3
    rw [flat3_app, List.length_append]
    exact h1
  cases A with
  | none =>
    obtain rfl := nil_ops hu
    obtain rfl := hc0 rfl
    refine wpList_append_own_none hgd s x t ho base e i0 3 ht hi v xs.length (flat3 xs) hs hown hx ?_
    exact h v w (by simpa using hown) (grown_refl _ _)
  | some ad =>
    refine wpList_append_own w hgd s x t ho base e i0 z 3 24 ht hi hz0 hz1 hz2 hzs (by decide) v xs.length (flat3 xs) hs hown ad ys.length c (flat3 ys) hx (flat3_len ys) ?_ (f3 ys) (by unfold maxLen; omega) (by omega) hbase (fun v' w' h1 h2 _ => fin v' w' h1 h2)
    intro n u hu'
    have hn' : n < (flat3 ys).length := (List.getElem?_eq_some_iff.1 hu').1
    rw [flat3_len] at hn'
    obtain ⟨y, hy⟩ : ∃ y, ys[n / 3]? = some y := ⟨_, List.getElem?_eq_getElem (by omega)⟩
    obtain ⟨b', off', us, e, _, _, _, hr, hc⟩ := hu (n / 3) y hy
    cases e
    cases hr
    have hj : ([.int .i64 y.a, .int .i64 y.b, .int .i64 y.c] : List Value)[n % 3]? = some u := by
      have hm : n % 3 < 3 := Nat.mod_lt _ (by omega)
      obtain ⟨u2, hu2⟩ : ∃ u2, ([.int .i64 y.a, .int .i64 y.b, .int .i64 y.c] : List Value)[n % 3]? = some u2 := ⟨_, List.getElem?_eq_getElem (by simpa using hm)⟩
      have := flat3_at ys (n / 3) y hy (n % 3) u2 hu2
      rw [show n / 3 * 3 + n % 3 = n by omega, hu'] at this
      rw [hu2, ← this]
    have := hc (n % 3) u hj
    simpa [Addr.add_lit, show off' + n / 3 * 3 + n % 3 = off' + n by omega] using this
theorem info3N : (Try.prog.info? 59).map (fun i => (i.zero, i.size, i.bytes)) = some (some (.agg #[.int .i64 0, .int .i64 0, .int .i64 0]), 3, 24) := by kernel_rfl
theorem infoTxnN : (Try.prog.info? 46).map (fun i => (i.zero, i.size, i.bytes)) = some (some (.agg #[.int .i64 0, .slice none 0 0, .bool false]), 3, 40) := by kernel_rfl
/-- a copy of a transaction -/
def OwnTx (s : Int) (ops : List T3) (d : Bool) (w : World) (e : Ending) (w' : World) : Prop := ∃ A c, e = .returned (.agg #[.int .i64 s, .slice A ops.length c, .bool d]) ∧ Own3 w' w.heap.size 59 (.slice A ops.length c) ops ∧ Ext w w'
set_option maxHeartbeats 4000000 in
theorem l1OwnTxn_c (s : Int) (ops : List T3) (d : Bool) (S : Nat → Prop) (A : Option Addr) (c : Nat) (w : World) (hO : Ops S w A ops) (hc0 : A = none → c = 0) (hn : ops.length ≤ 1048576) :
    Calls Try.prog 31 #[.agg #[.int .i64 s, .slice A ops.length c, .bool d]] w (OwnTx s ops d w) := by
  have HO := Lib.hid hO
  have HC0 := Lib.hid hc0
  clear hO hc0
  have hE4 : Ext w ((((w.alloc (.cells #[.int .i64 s, .slice A ops.length c, .bool d] 46)).alloc (.cells #[.int .i64 0, .slice none 0 0, .bool false] 46)).alloc (.cells #[.int .i64 s, .slice A ops.length c, .bool d] 46)).alloc (.cells #[] 59)) := by (repeat' (first | (with_reducible exact Below.refl _ _) | (with_reducible refine Below.mono (by assumption) ?_) | (with_reducible refine Below.trans ?_ (Below.mono (by assumption) ?_)) | (with_reducible refine Below.alloc ?_ ?_ _) | (with_reducible refine Below.drew ?_) | (with_reducible refine below_drewN ?_ _) | (with_reducible refine Below.setCell ?_ ?_ _) | (simp only [World.size_alloc, World.size_setCell, World.size_drew, size_drewN]; omega) | omega))
  have hO4 : Own3 ((((w.alloc (.cells #[.int .i64 s, .slice A ops.length c, .bool d] 46)).alloc (.cells #[.int .i64 0, .slice none 0 0, .bool false] 46)).alloc (.cells #[.int .i64 s, .slice A ops.length c, .bool d] 46)).alloc (.cells #[] 59)) (w.heap.size + 3) 59 (.slice (some ⟨w.heap.size + 1 + 1 + 1, 0, none⟩) 0 0) [] := Own3.made _ #[] 0 (by simp) (by simp) (by omega) rfl
  have HE4 := Lib.hid hE4
  have HO4 := Lib.hid hO4
  clear hE4 hO4
  go_enter Try.func31, Try.ntmps31
  go_wp2_with (at_builtin; refine wpList_append3n _ rfl _ _ 44 rfl (w.heap.size + 3) 59 Try.underlying44 info3N rfl _ [] rfl HO4.out _ A c ops rfl (HO.out.ext HE4.out) HC0.out ?_ ?_ ?_)
  · show 0 + ops.length ≤ 4194304
    omega
  · simp
  · intro v' w' hown hgrow
    have hown : Own3 w' (w.heap.size + 3) 59 v' ops := hown
    have E7 : Ext w w' := Below.grown HE4.out hgrow (by simp; omega) (fun g hg => by simp [Value.ownBlock] at hg; omega)
    have B2' := (Blk.new ((w.alloc (.cells #[.int .i64 s, .slice A ops.length c, .bool d] 46)).alloc (.cells #[.int .i64 0, .slice none 0 0, .bool false] 46)) 46 #[.int .i64 s, .slice A ops.length c, .bool d]).alloc (.cells #[] 59)
    have B1' := ((Blk.new (w.alloc (.cells #[.int .i64 s, .slice A ops.length c, .bool d] 46)) 46 #[.int .i64 0, .slice none 0 0, .bool false]).alloc (.cells #[.int .i64 s, .slice A ops.length c, .bool d] 46)).alloc (.cells #[] 59)
    simp only [World.size_alloc] at B2' B1'
    have B2 : Blk w' (w.heap.size + 1 + 1) 46 #[.int .i64 s, .slice A ops.length c, .bool d] := (hgrow.block _ (by simp only [World.size_alloc]; omega) (by simp [Value.ownBlock])).trans B2'
    have B1 : Blk w' (w.heap.size + 1) 46 #[.int .i64 0, .slice none 0 0, .bool false] := (hgrow.block _ (by simp only [World.size_alloc]; omega) (by simp [Value.ownBlock]; try omega)).trans B1'
    clear B1' B2'
    have hz7 := hgrow.size
    simp only [World.size_alloc] at hz7
    have hown2 := hown.form
    obtain ⟨A7, c7, rfl, _, _⟩ := hown2
    have p0 : w'.cell? ⟨w.heap.size + 1 + 1, 0, none⟩ = some (.int .i64 s) := by rw [B2.cell]; rfl
    have p1 : w'.cell? ⟨w.heap.size + 1 + 1, 1, none⟩ = some (.slice A ops.length c) := by rw [B2.cell]; rfl
    have p2 : w'.cell? ⟨w.heap.size + 1 + 1, 2, none⟩ = some (.bool d) := by rw [B2.cell]; rfl
    have q0 : w'.cell? ⟨w.heap.size + 1, 0, none⟩ = some (.int .i64 0) := by rw [B1.cell]; rfl
    have q1 : w'.cell? ⟨w.heap.size + 1, 1, none⟩ = some (.slice none 0 0) := by rw [B1.cell]; rfl
    have q2 : w'.cell? ⟨w.heap.size + 1, 2, none⟩ = some (.bool false) := by rw [B1.cell]; rfl
    have f2 := B2.frozen
    have f1 := B1.frozen
    have l1 : w.heap.size + 1 < w'.heap.size := by omega
    have l2 : w.heap.size + 1 + 1 < w'.heap.size := by omega
    have HOw := Lib.hid hown
    have HE7 := Lib.hid E7
    clear hown hgrow E7 B1 B2
    go_wp2
    refine bodyPost_ret (v := .agg #[.int .i64 s, .slice A7 ops.length c7, .bool d]) (by simp [results, Try.results31, go_sem, p0, p1, p2, q0, q1, q2, f1, f2, l1, l2]) rfl ?_
    have hk : ∀ (V : World) (g o : Nat) (u : Value), g < w.heap.size + 3 → Own3 V (w.heap.size + 3) 59 (.slice A7 ops.length c7) ops → Own3 (V.setCell ⟨g, o, none⟩ u) (w.heap.size + 3) 59 (.slice A7 ops.length c7) ops := fun V g o u hg h =>
      h.grown (grown_set (a := V) (g := g) (o := o) u) (fun e => by have := own3_block h g e.symm; omega)
    refine ⟨A7, c7, rfl, ?_, ?_⟩
    · refine Own3.below (base := w.heap.size + 3) ?_ (by omega)
      repeat (refine hk _ _ _ _ (by omega) ?_)
      exact HOw.out
    · have hE7 := HE7.out
      (repeat' (first | (with_reducible exact Below.refl _ _) | (with_reducible refine Below.mono (by assumption) ?_) | (with_reducible refine Below.trans ?_ (Below.mono (by assumption) ?_)) | (with_reducible refine Below.alloc ?_ ?_ _) | (with_reducible refine Below.drew ?_) | (with_reducible refine below_drewN ?_ _) | (with_reducible refine Below.setCell ?_ ?_ _) | (simp only [World.size_alloc, World.size_setCell, World.size_drew, size_drewN]; omega) | omega))
/-- a history of the call's own -/
def OwnH (h : List TxnT) (w : World) (e : Ending) (w' : World) : Prop := ∃ A c, e = .returned (.slice A h.length c) ∧ Txns (fun b => w.heap.size ≤ b) w' A h ∧ CapN w' A h.length ∧ Ext w w'
set_option maxHeartbeats 4000000 in
theorem l1OwnTxnList_c (h : List TxnT) (S : Nat → Prop) (A : Option Addr) (c : Nat) (w : World) (hx : Txns S w A h) (hcap : CapN w A h.length) (hsm : Small h) :
    Calls Try.prog 14 #[.slice A h.length c] w (OwnH h w) := by
  have HX := Lib.hid hx
  have HCP := Lib.hid hcap
  have hl := hsm.len
  have HSM := Lib.hid hsm
  clear hx hcap hsm
  go_enter Try.func14, Try.ntmps14
  go_wp2
  have hO0 : OwnT (w.alloc (.cells #[] 46)) w.heap.size (w.heap.size + 1) (.slice (some ⟨w.heap.size, 0, none⟩) 0 0) [] :=
    ⟨World.ownsRow_made _ _ _ (Nat.le_refl _) (by unfold maxLen; omega) rfl, fun p hp => by cases hp⟩
  have HO0 := Lib.hid hO0
  clear hO0
  go_loopw [3, 4] (fun v i wr => ∃ (k : Nat) (ps : List PT) (lim : Nat), k ≤ h.length ∧ i = .int .i64 k ∧ ps.length = k ∧ ps.map PT.txn = h.take k ∧ lim ≤ wr.heap.size ∧ w.heap.size ≤ lim ∧ OwnT wr w.heap.size lim v ps ∧ Ext w wr) (fun _ i _ => h.length - (intOf i).toNat)
  case atStart => exact ⟨0, [], w.heap.size + 1, Nat.zero_le _, rfl, rfl, rfl, by simp, by omega, HO0.out, by (repeat' (first | (with_reducible exact Below.refl _ _) | (with_reducible refine Below.mono (by assumption) ?_) | (with_reducible refine Below.trans ?_ (Below.mono (by assumption) ?_)) | (with_reducible refine Below.alloc ?_ ?_ _) | (with_reducible refine Below.drew ?_) | (with_reducible refine below_drewN ?_ _) | (with_reducible refine Below.setCell ?_ ?_ _) | (simp only [World.size_alloc, World.size_setCell, World.size_drew, size_drewN]; omega) | omega))⟩
  case round =>
    obtain ⟨k, ps, lim, hk, rfl, hpl, hpm, hlim, hlim2, hO, hE⟩ := hrel
    clear HO0
    have HPL := Lib.hid hpl
    have HPM := Lib.hid hpm
    have HO := Lib.hid hO
    have HE := Lib.hid hE
    clear hpl hpm hO hE
    by_cases hlt : k < h.length
    · obtain ⟨s, ops, d, A', cap, b, off, hxk, rfl, _, hb0, hOp, c0, c1, c2⟩ := (HX.out.ext HE.out).at_ hlt
      have hon := HSM.out.ops hxk
      simp only at hon
      have hcn := (HCP.out.ext HE.out) b off rfl
      have hc0 : A' = none → cap = 0 := fun e => by subst e; exact hcn.2 k hlt _ _ c1
      have HXK := Lib.hid hxk
      have HC0 := Lib.hid hc0
      have HOp := Lib.hid hOp
      clear hxk hcn hc0 hOp
      go_wp2_with (fail)
      go_at_call 31
      refine (l1OwnTxn_c s ops d S A' cap _ HOp.out HC0.out hon).mono ?_
      rintro e w2 ⟨A2, c2', rfl, hw2, hb⟩
      obtain ⟨hc, hf, hz, hs⟩ := bcell hb
      (try simp only [World.size_alloc, World.size_setCell, World.size_drew, size_drewN] at hs); (first | have l0 := Nat.lt_of_lt_of_le l0 (show _ ≤ w2.heap.size by omega) | have l0 : w.heap.size < w2.heap.size := (by omega) | skip); (try have l0e := Nat.le_of_lt l0); (try have l0f := Nat.le_add_right_of_le (k := 1) l0e); (try have l1 := Nat.lt_of_lt_of_le l1 (show _ ≤ w2.heap.size by omega)); (try have l1e := Nat.le_of_lt l1); (try have l1f := Nat.le_add_right_of_le (k := 1) l1e); (try have l2 := Nat.lt_of_lt_of_le l2 (show _ ≤ w2.heap.size by omega)); (try have l2e := Nat.le_of_lt l2); (try have l2f := Nat.le_add_right_of_le (k := 1) l2e); (try have l3 := Nat.lt_of_lt_of_le l3 (show _ ≤ w2.heap.size by omega)); (try have l3e := Nat.le_of_lt l3); (try have l3f := Nat.le_add_right_of_le (k := 1) l3e)
      have HW2 := Lib.hid hw2
      have HE2 := Lib.hid (HE.out.tr hb)
      have HO2 := Lib.hid (ownT_ext HO.out hb)
      have hz2 := hb.size
      have hez := HE.out.size
      clear hw2 hc hf hz hb hs
      have hp : Own3 (w2.alloc (.cells #[.int .i64 s, .slice A2 ops.length c2', .bool d] 46)) w.heap.size 59 (.slice A2 ops.length c2') ops := (HW2.out.ext (by (repeat' (first | (with_reducible exact Below.refl _ _) | (with_reducible refine Below.mono (by assumption) ?_) | (with_reducible refine Below.trans ?_ (Below.mono (by assumption) ?_)) | (with_reducible refine Below.alloc ?_ ?_ _) | (with_reducible refine Below.drew ?_) | (with_reducible refine below_drewN ?_ _) | (with_reducible refine Below.setCell ?_ ?_ _) | (simp only [World.size_alloc, World.size_setCell, World.size_drew, size_drewN]; omega) | omega)))).below (by omega)
      have hpa : ∀ a, A2 = some a → a.block < (w2.alloc (.cells #[.int .i64 s, .slice A2 ops.length c2', .bool d] 46)).heap.size := fun a ha => by
        have := (World.ownsRow.lt HW2.out a.block (by
          rcases HW2.out.2 with ⟨hv, _⟩ | ⟨g, cap, cur, hv, _⟩
          · injection hv with e1; rw [e1] at ha; cases ha
          · injection hv with e1; rw [e1] at ha; cases ha; rw [e1]; rfl)).2
        simp only [World.size_alloc]
        omega
      have HPp := Lib.hid hp
      have HPa := Lib.hid hpa
      have hpl3 : ps.length ≤ 1048576 := by have := HPL.out; omega
      clear hp hpa
      go_wp2_with (at_builtin; refine wpList_appendP _ rfl _ _ 26 rfl Try.underlying26 infoTxnN rfl _ ps rfl (B := w.heap.size) (lim := w2.heap.size) (ownT_ext (HO2.out.lower (by omega)) (by (repeat' (first | (with_reducible exact Below.refl _ _) | (with_reducible refine Below.mono (by assumption) ?_) | (with_reducible refine Below.trans ?_ (Below.mono (by assumption) ?_)) | (with_reducible refine Below.alloc ?_ ?_ _) | (with_reducible refine Below.drew ?_) | (with_reducible refine below_drewN ?_ _) | (with_reducible refine Below.setCell ?_ ?_ _) | (simp only [World.size_alloc, World.size_setCell, World.size_drew, size_drewN]; omega) | omega)))) ⟨s, A2, c2', ops, d⟩ HPp.out HPa.out ?_ _ rfl ?_ ?_ ?_ hpl3 ?_ ?_)
      all_goals try (first | omega | (simp only [World.size_alloc]; omega) | (go_simp; done))
      intro v9 w9 hown9 hgrow9
      have hE9 : Ext w w9 := Below.grown (HE2.out.tr (show Ext w2 (w2.alloc (.cells #[.int .i64 s, .slice A2 ops.length c2', .bool d] 46)) by (repeat' (first | (with_reducible exact Below.refl _ _) | (with_reducible refine Below.mono (by assumption) ?_) | (with_reducible refine Below.trans ?_ (Below.mono (by assumption) ?_)) | (with_reducible refine Below.alloc ?_ ?_ _) | (with_reducible refine Below.drew ?_) | (with_reducible refine below_drewN ?_ _) | (with_reducible refine Below.setCell ?_ ?_ _) | (simp only [World.size_alloc, World.size_setCell, World.size_drew, size_drewN]; omega) | omega)))) hgrow9 (by simp only [World.size_alloc]; omega) (fun g hg => (World.ownsRow.lt HO2.out.1 g hg).1)
      have HO9 := Lib.hid hown9
      have HE9 := Lib.hid hE9
      have hz9 := hgrow9.size
      simp only [World.size_alloc] at hz9
      clear hown9 hgrow9 hE9
      go_wp2
      go_roundw
      case measure => simp [intOf]; omega
      case rel =>
        refine ⟨k + 1, _, _, by omega, by go_num, ?_, ?_, ?_, ?_, HO9.out, HE9.out⟩
        · rw [List.length_append, HPL.out]; rfl
        · rw [List.map_append, HPM.out, List.take_add_one, HXK.out]; rfl
        · first | omega | (simp only [World.size_alloc]; omega)
        · first | omega | (simp only [World.size_alloc]; omega)
    · obtain rfl : k = h.length := by omega
      have hpm := HPM.out
      rw [List.take_length] at hpm
      have hcp := fun (A : Option Addr) n c (e : u3 = .slice A n c) => OwnT.capN (A := A) (n := n) (c := c) (e ▸ HO.out)
      obtain ⟨A9, c9, rfl, hle, hT, hf⟩ := HO.out.txns
      have HT := Lib.hid hT
      have HCp := Lib.hid (hcp A9 _ c9 rfl)
      clear hT hf hcp
      have hpl := HPL.out
      have HPM2 := Lib.hid hpm
      have hlen := HPL.out
      go_wp2
      go_ret
      have HT2 := HT.out
      rw [HPM2.out] at HT2
      exact ⟨A9, c9, by rw [hlen]; rfl, HT2, by rw [← hlen]; exact HCp.out, HE.out⟩
end Go.Proofs.Ytdgfipoibnjhaaa
