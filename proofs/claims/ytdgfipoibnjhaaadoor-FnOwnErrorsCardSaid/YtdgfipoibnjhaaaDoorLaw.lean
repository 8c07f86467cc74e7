/-
  The last step of every law of this seat, once: where the call returns true and leaves all old memory as it was, the row's own end holds.
-/
import Derived.WalkKit
import Derived.ProofKit
import Derived.JoinedOf
import Derived.JoinedAt
import Derived.RowKit3
import Derived.ChangeSame
import Derived.Lib.SmallJoins
import Derived.Deep.Slices
import Derived.Deep.Fields
import Derived.Test.YtdgfipoibnjhaaaDoorMem
import Derived.Test.YtdgfipoibnjhaaaDoorRows
namespace Go.Proofs.YtdgfipoibnjhaaaDoor.Law
set_option linter.unusedSimpArgs false
set_option linter.unusedVariables false
set_option maxRecDepth 100000
open Go.ChangeShapes Go.WideShapes Go.ChangeAt Go.RowKit Go.Joins Go.Deep

theorem own : ownKnob Tryd.prog.godebug = none := by kernel_rfl
theorem laidOut : laidOutB Tryd.prog = true := by kernel_rfl

section
variable {H : Type} {enc : TypeId × Value → H} {P : Program} {W W' : World}

theorem args_stay (hl : laidOutB P = true) (hb : Below W.heap.size W W') :
    ∀ {ts : List TypeId} {vs : List Value} {ds : List (DataW H)} {ps : List MemPlace}, (∀ t ∈ ts, P.readableRec t = true ∧ t < P.types.size) →
      DataW.TrodAll enc P W 0 (fun _ => true) true ts vs ds ps → (∀ x ∈ ps, x.block < W.heap.size) →
      DataW.TrodAll enc P W' 0 (fun b => decide (b < W.heap.size)) true ts vs ds ps := by
  intro ts
  induction ts with
  | nil =>
    intro vs ds ps _ h _
    obtain ⟨rfl, rfl, rfl⟩ := trodAll_nil h
    exact h
  | cons t ts ih =>
    intro vs ds ps ht h hlt
    match vs, ds, h with
    | v :: vs, d :: ds, h =>
      obtain ⟨p, q, h1, h2, rfl⟩ := h
      have hr := ht t (by simp)
      exact ⟨p, q, Below.trod hl hr.1 hr.2 h1 hb (fun x hx => hlt x (by simp [hx])), ih (fun t' h' => ht t' (by simp [h'])) h2 (fun x hx => hlt x (by simp [hx])), rfl⟩

theorem post_true {f : Func} {s : ChangeSpec} {args : Array Value} {ds gs : List (DataW H)} {before : List MemPlace} {tb : TypeId} (hl : laidOutB P = true)
    (hr : ∀ t ∈ f.params.toList, P.readableRec t = true ∧ t < P.types.size) (hv : s.vars = []) (hrt : f.resultTypes = #[tb]) (hbt : P.underlying tb = some .bool)
    (hs : (s.fn H ds).results = [.lit (.bool true)] ∧ (s.fn H ds).args = ds ∧ (s.fn H ds).vars = [])
    (hW : DataW.Whole enc P f.params.toList s.vars false W args.toList ds gs before) (hb : Below W.heap.size W W') :
    s.post enc P f false true false false W args (.bool true) W' := by
  have hlt : ∀ p ∈ before, p.block < W.heap.size := fun p hp => hW.lt p hp
  have hW' := hW
  obtain ⟨p, q, hA, hV, rfl, hfz, hnd⟩ := hW
  rw [hv] at hV
  obtain ⟨rfl, rfl⟩ := trodVars_none hV
  have e : ds ++ [] = ds := List.append_nil ds
  refine ⟨ds, [], p ++ [], [], p, [], hW', ?_, ?_, ?_, hb.frame _, fun h => by cases h⟩
  · rw [e, hs.1, hrt]
    exact trodAll_mk1 (shut_bool hbt true)
  · rw [e, hs.2.1]
    exact args_stay hl hb hr hA (fun x hx => hlt x (by simpa using hx))
  · rw [e, hs.2.2, hv]
    rfl
end

/-- a number that an int holds -/
def wfI (n : Int) : Prop := -9223372036854775808 ≤ n ∧ n ≤ 9223372036854775807
theorem wfI_of {n : Int} (h : (Lit.int .i64 n).wf = true) : wfI n := by
  simpa [wfI, Lit.wf, IntKind.min, IntKind.max, IntKind.signed, IntKind.bits] using h
def wfL {α : Type} (p : α → Prop) (xs : List α) : Prop := xs.length ≤ maxLen ∧ ∀ x ∈ xs, p x
def wfT3 (x : T3) : Prop := wfI x.a ∧ wfI x.b ∧ wfI x.c
def wfTxn (t : TxnT) : Prop := wfI t.sess ∧ wfL wfT3 t.ops

theorem listOf {α : Type} {P : Nat → α → Prop} : ∀ n : Nat, (∀ i, i < n → ∃ x, P i x) → ∃ xs : List α, xs.length = n ∧ ∀ i x, xs[i]? = some x → P i x
  | 0, _ => ⟨[], rfl, fun i x h => by simp at h⟩
  | n + 1, h => by
    obtain ⟨xs, hl, hx⟩ := listOf n fun i hi => h i (by omega)
    obtain ⟨y, hy⟩ := h n (by omega)
    refine ⟨xs ++ [y], by simp [hl], fun i x hi => ?_⟩
    rcases Nat.lt_trichotomy i n with h1 | h1 | h1
    · rw [List.getElem?_append_left (by omega)] at hi
      exact hx i x hi
    · subst h1
      rw [List.getElem?_append_right (by omega)] at hi
      simp [hl] at hi
      exact hi ▸ hy
    · rw [List.getElem?_eq_none (by simp; omega)] at hi
      cases hi

section
variable {H : Type} {enc : TypeId × Value → H} {P : Program} {w : World} {base : Nat} {spare : Nat → Bool} {held : Bool}

theorem slice_of_trod {α : Type} {R : World → α → List Value → Prop} {wf : α → Prop} {t e : TypeId} {k fuel : Nat} {cs : List Value} {x : DataW H × List MemPlace} (ht : P.underlying t = some (.slice e)) (hk : P.cellsOf e = k) (hk0 : 0 < k)
    (hel : ∀ (fuel : Nat) (us : List Value) (y : DataW H × List MemPlace), DataW.trod enc P w base spare held fuel e us = some y → ∃ x : α, R w x us ∧ wf x)
    (h : DataW.trod enc P w base spare held fuel t cs = some x) :
    ∃ (xs : List α) (A : Option Addr) (c : Nat), cs = [.slice A xs.length c] ∧ SlAt k R Any w A xs ∧ wfL wf xs := by
  rcases open_slice ht h with ⟨h0, _⟩ | ⟨a, len, cap, m, n, D, Pl, rfl, hb, hl, hm, hmm, hx, hi⟩
  · exact ⟨[], none, 0, h0, SlAt.nil, by simp [wfL]⟩
  · have hle : len ≤ m := by rw [hmm]; split <;> omega
    rw [hk] at hi
    obtain ⟨xs, hxl, hxs⟩ := listOf (P := fun i (x : α) => wf x ∧ ∃ us : List Value, us.length = k ∧ R w x us ∧ ∀ j, j < k → w.cell? (a.add (i * k + j)) = us[j]?) len (fun i hil => by
      obtain ⟨us, hc, ht'⟩ := hi i (by omega)
      obtain ⟨x, hr, hw⟩ := hel _ _ _ ht'
      obtain ⟨_, hcl, hat⟩ := World.cells?_some hc
      exact ⟨x, hw, us, hcl, hr, fun j hj => by rw [← Go.Deep.add_add]; exact hat j hj⟩)
    subst hxl
    refine ⟨xs, some a, cap, rfl, ?_, by omega, fun x hx => ?_⟩
    · intro i x hx
      obtain ⟨_, us, hl, hr, hc⟩ := hxs i x hx
      have h0 : w.cell? (a.add (0 * k + 0)) ≠ none := by
        have hlt : 0 < xs.length := by
          have := (List.getElem?_eq_some_iff.1 hx).1
          omega
        obtain ⟨_, us0, hl0, _, hc0⟩ := hxs 0 xs[0] (List.getElem?_eq_getElem hlt)
        rw [hc0 0 hk0, List.getElem?_eq_getElem (by omega)]
        simp
      simp only [Nat.zero_mul, Nat.add_zero, Addr.add, if_pos] at h0
      obtain ⟨b, off, sp⟩ := a
      have hsp : sp = none := by
        cases sp with
        | none => rfl
        | some s => exact absurd (by unfold World.cell?; simp; split <;> simp) h0
      subst hsp
      refine ⟨b, off, us, rfl, trivial, ?_, hl, hr, fun j u hu => ?_⟩
      · rcases Nat.lt_or_ge b w.heap.size with hlt | hge
        · exact hlt
        · exact absurd (by unfold World.cell?; simp [Array.getElem?_eq_none hge]) h0
      · have hj : j < k := by
          have := (List.getElem?_eq_some_iff.1 hu).1
          omega
        have := hc j hj
        rw [hu] at this
        rw [← this]
        unfold Addr.add
        split
        · rename_i h; simp [h, Nat.add_assoc]
        · simp [Nat.add_assoc]
    · obtain ⟨i, hi', rfl⟩ := List.mem_iff_getElem.1 hx
      exact (hxs i _ (List.getElem?_eq_getElem hi')).1

theorem int_of_trod {t : TypeId} (ht : P.underlying t = some (.int .i64)) (fuel : Nat) (us : List Value) (y : DataW H × List MemPlace) (h : DataW.trod enc P w base spare held fuel t us = some y) :
    ∃ x : Int, RInt w x us ∧ wfI x := by
  obtain ⟨n, e, _, hw⟩ := DataW.trod_int ht h
  exact ⟨n, e, wfI_of hw⟩

def wfU8 (n : Int) : Prop := 0 ≤ n ∧ n ≤ 255
theorem wfU8_of {n : Int} (h : (Lit.int .u8 n).wf = true) : wfU8 n := by
  simpa [wfU8, Lit.wf, IntKind.min, IntKind.max, IntKind.signed, IntKind.bits] using h
theorem byte_of_trod {t : TypeId} (ht : P.underlying t = some (.int .u8)) (fuel : Nat) (us : List Value) (y : DataW H × List MemPlace) (h : DataW.trod enc P w base spare held fuel t us = some y) :
    ∃ x : Int, RU8 w x us ∧ wfU8 x := by
  obtain ⟨n, e, _, hw⟩ := DataW.trod_int ht h
  exact ⟨n, e, wfU8_of hw⟩

theorem three_of_trod {t : TypeId} {f0 f1 f2 : Field} (ht : P.underlying t = some (.struct #[f0, f1, f2])) (hone : oneCellFields P #[f0, f1, f2] = true) (hC : P.cellsOf t = 3)
    (fuel : Nat) (us : List Value) (y : DataW H × List MemPlace) (h : DataW.trod enc P w base spare held fuel t us = some y) :
    ∃ (u0 u1 u2 : Value) (y0 y1 y2 : DataW H × List MemPlace) (n : Nat), us = [u0, u1, u2] ∧ DataW.trod enc P w base spare held n f0.type [u0] = some y0 ∧ DataW.trod enc P w base spare held n f1.type [u1] = some y1 ∧
      DataW.trod enc P w base spare held n f2.type [u2] = some y2 := by
  obtain ⟨xs, n, _, _, hlen, hxl, hf⟩ := DataW.trod_struct ht h
  rw [hC] at hlen
  match us, hlen, xs, hxl with
  | [u0, u1, u2], _, [y0, y1, y2], _ =>
    obtain ⟨o0, k0⟩ := hone_of hone 0 f0 rfl
    obtain ⟨o1, k1⟩ := hone_of hone 1 f1 rfl
    obtain ⟨o2, k2⟩ := hone_of hone 2 f2 rfl
    exact ⟨u0, u1, u2, y0, y1, y2, n, rfl, by simpa [o0, k0] using hf 0 f0 rfl, by simpa [o1, k1] using hf 1 f1 rfl, by simpa [o2, k2] using hf 2 f2 rfl⟩

theorem t3_of_trod {t : TypeId} {f0 f1 f2 : Field} (ht : P.underlying t = some (.struct #[f0, f1, f2])) (hone : oneCellFields P #[f0, f1, f2] = true) (hC : P.cellsOf t = 3)
    (i0 : P.underlying f0.type = some (.int .i64)) (i1 : P.underlying f1.type = some (.int .i64)) (i2 : P.underlying f2.type = some (.int .i64))
    (fuel : Nat) (us : List Value) (y : DataW H × List MemPlace) (h : DataW.trod enc P w base spare held fuel t us = some y) : ∃ x : T3, R3 w x us ∧ wfT3 x := by
  obtain ⟨u0, u1, u2, y0, y1, y2, n, rfl, h0, h1, h2⟩ := three_of_trod ht hone hC fuel us y h
  obtain ⟨a, e0, _, w0⟩ := DataW.trod_int i0 h0
  obtain ⟨b, e1, _, w1⟩ := DataW.trod_int i1 h1
  obtain ⟨c, e2, _, w2⟩ := DataW.trod_int i2 h2
  simp at e0 e1 e2
  subst e0 e1 e2
  exact ⟨⟨a, b, c⟩, rfl, wfI_of w0, wfI_of w1, wfI_of w2⟩

theorem txn_of_trod {t e : TypeId} {f0 f1 f2 g0 g1 g2 : Field} (ht : P.underlying t = some (.struct #[f0, f1, f2])) (hone : oneCellFields P #[f0, f1, f2] = true) (hC : P.cellsOf t = 3)
    (i0 : P.underlying f0.type = some (.int .i64)) (i1 : P.underlying f1.type = some (.slice e)) (i2 : P.underlying f2.type = some .bool)
    (he : P.underlying e = some (.struct #[g0, g1, g2])) (hone' : oneCellFields P #[g0, g1, g2] = true) (hC' : P.cellsOf e = 3)
    (j0 : P.underlying g0.type = some (.int .i64)) (j1 : P.underlying g1.type = some (.int .i64)) (j2 : P.underlying g2.type = some (.int .i64))
    (fuel : Nat) (us : List Value) (y : DataW H × List MemPlace) (h : DataW.trod enc P w base spare held fuel t us = some y) : ∃ x : TxnT, RTxn Any w x us ∧ wfTxn x := by
  obtain ⟨u0, u1, u2, y0, y1, y2, n, rfl, h0, h1, h2⟩ := three_of_trod ht hone hC fuel us y h
  obtain ⟨a, e0, _, w0⟩ := DataW.trod_int i0 h0
  obtain ⟨xs, A, c, e1, hA, hw⟩ := slice_of_trod i1 hC' (by omega) (t3_of_trod he hone' hC' j0 j1 j2) h1
  obtain ⟨b, e2, _⟩ := DataW.trod_bool i2 h2
  simp at e0 e1 e2
  subst e0 e1 e2
  exact ⟨⟨a, xs, b⟩, ⟨A, c, rfl, hA⟩, wfI_of w0, hw⟩

section
variable {r : Reach} {b0 : Nat} {t e : TypeId} {v : Value} {d : DataW H} {p : List MemPlace}
theorem open_t3 {f0 f1 f2 : Field} (ht : P.underlying t = some (.struct #[f0, f1, f2])) (hone : oneCellFields P #[f0, f1, f2] = true) (hC : P.cellsOf t = 3)
    (i0 : P.underlying f0.type = some (.int .i64)) (i1 : P.underlying f1.type = some (.int .i64)) (i2 : P.underlying f2.type = some (.int .i64))
    (hv : Value.okWide P w r b0 t v) (h : DataW.Trod enc P w base spare held t v d p) : ∃ x : T3, v = .agg #[.int .i64 x.a, .int .i64 x.b, .int .i64 x.c] ∧ wfT3 x := by
  obtain ⟨v0, v1, v2, y0, y1, y2, n, rfl, _, _, h0, h1, h2⟩ := open_agg3 ht hone hC hv h
  obtain ⟨a, e0, _, w0⟩ := DataW.trod_int i0 h0
  obtain ⟨b, e1, _, w1⟩ := DataW.trod_int i1 h1
  obtain ⟨c, e2, _, w2⟩ := DataW.trod_int i2 h2
  simp at e0 e1 e2
  subst e0 e1 e2
  exact ⟨⟨a, b, c⟩, rfl, wfI_of w0, wfI_of w1, wfI_of w2⟩

theorem open_txn {f0 f1 f2 g0 g1 g2 : Field} (ht : P.underlying t = some (.struct #[f0, f1, f2])) (hone : oneCellFields P #[f0, f1, f2] = true) (hC : P.cellsOf t = 3)
    (i0 : P.underlying f0.type = some (.int .i64)) (i1 : P.underlying f1.type = some (.slice e)) (i2 : P.underlying f2.type = some .bool)
    (he : P.underlying e = some (.struct #[g0, g1, g2])) (hone' : oneCellFields P #[g0, g1, g2] = true) (hC' : P.cellsOf e = 3)
    (j0 : P.underlying g0.type = some (.int .i64)) (j1 : P.underlying g1.type = some (.int .i64)) (j2 : P.underlying g2.type = some (.int .i64))
    (hv : Value.okWide P w r b0 t v) (h : DataW.Trod enc P w base spare held t v d p) :
    ∃ (x : TxnT) (A : Option Addr) (c : Nat), v = .agg #[.int .i64 x.sess, .slice A x.ops.length c, .bool x.done] ∧ Ops Any w A x.ops ∧ wfTxn x := by
  obtain ⟨v0, v1, v2, y0, y1, y2, n, rfl, _, _, h0, h1, h2⟩ := open_agg3 ht hone hC hv h
  obtain ⟨a, e0, _, w0⟩ := DataW.trod_int i0 h0
  obtain ⟨xs, A, c, e1, hA, hw⟩ := slice_of_trod i1 hC' (by omega) (t3_of_trod he hone' hC' j0 j1 j2) h1
  obtain ⟨b, e2, _⟩ := DataW.trod_bool i2 h2
  simp at e0 e1 e2
  subst e0 e1 e2
  exact ⟨⟨a, xs, b⟩, A, c, rfl, hA, wfI_of w0, hw⟩

theorem open_sl {α : Type} {R : World → α → List Value → Prop} {wf : α → Prop} {k : Nat} (ht : P.underlying t = some (.slice e)) (hk : P.cellsOf e = k) (hk0 : 0 < k)
    (hel : ∀ (fuel : Nat) (us : List Value) (y : DataW H × List MemPlace), DataW.trod enc P w base spare held fuel e us = some y → ∃ x : α, R w x us ∧ wf x)
    (hv : Value.okWide P w r b0 t v) (h : DataW.Trod enc P w base spare held t v d p) :
    ∃ (xs : List α) (A : Option Addr) (c : Nat), v = .slice A xs.length c ∧ SlAt k R Any w A xs ∧ wfL wf xs := by
  obtain ⟨a, len, cap, rfl⟩ := okWide_slice ht hv
  obtain ⟨fuel, hf⟩ := h
  obtain ⟨xs, A, c, e, hA, hw⟩ := slice_of_trod ht hk hk0 hel hf
  simp [Value.cells] at e
  obtain ⟨rfl, rfl, rfl⟩ := e
  exact ⟨xs, _, _, rfl, hA, hw⟩

theorem row_of_trod {e' : TypeId} (ht : P.underlying t = some (.slice e')) (he : P.underlying e' = some (.int .i64)) (hC : P.cellsOf e' = 1) (fuel : Nat) (us : List Value) (y : DataW H × List MemPlace) (h : DataW.trod enc P w base spare held fuel t us = some y) :
    ∃ x : List Int, RRow Any w x us ∧ wfL wfI x := by
  obtain ⟨xs, A, c, e, hA, hw⟩ := slice_of_trod ht hC (by omega) (int_of_trod he) h
  exact ⟨xs, ⟨A, c, e, hA⟩, hw⟩

theorem open_t3s {f0 f1 f2 : Field} (hs : P.underlying t = some (.slice e)) (ht : P.underlying e = some (.struct #[f0, f1, f2])) (hone : oneCellFields P #[f0, f1, f2] = true) (hC : P.cellsOf e = 3)
    (i0 : P.underlying f0.type = some (.int .i64)) (i1 : P.underlying f1.type = some (.int .i64)) (i2 : P.underlying f2.type = some (.int .i64))
    (hv : Value.okWide P w r b0 t v) (h : DataW.Trod enc P w base spare held t v d p) : ∃ (xs : List T3) (A : Option Addr) (c : Nat), v = .slice A xs.length c ∧ Ops Any w A xs ∧ wfL wfT3 xs :=
  open_sl hs hC (by omega) (t3_of_trod ht hone hC i0 i1 i2) hv h
theorem open_bytes (hs : P.underlying t = some (.slice e)) (he : P.underlying e = some (.int .u8)) (hC : P.cellsOf e = 1)
    (hv : Value.okWide P w r b0 t v) (h : DataW.Trod enc P w base spare held t v d p) : ∃ (xs : List Int) (A : Option Addr) (c : Nat), v = .slice A xs.length c ∧ Byts Any w A xs ∧ wfL wfU8 xs :=
  open_sl hs hC (by omega) (byte_of_trod he) hv h
theorem open_intsl (hs : P.underlying t = some (.slice e)) (he : P.underlying e = some (.int .i64)) (hC : P.cellsOf e = 1)
    (hv : Value.okWide P w r b0 t v) (h : DataW.Trod enc P w base spare held t v d p) : ∃ (xs : List Int) (A : Option Addr) (c : Nat), v = .slice A xs.length c ∧ Ints Any w A xs ∧ wfL wfI xs :=
  open_sl hs hC (by omega) (int_of_trod he) hv h
theorem open_rows {e' : TypeId} (hs : P.underlying t = some (.slice e)) (he : P.underlying e = some (.slice e')) (hi : P.underlying e' = some (.int .i64)) (hC : P.cellsOf e = 1) (hC' : P.cellsOf e' = 1)
    (hv : Value.okWide P w r b0 t v) (h : DataW.Trod enc P w base spare held t v d p) : ∃ (xs : List (List Int)) (A : Option Addr) (c : Nat), v = .slice A xs.length c ∧ Rows2 Any w A xs ∧ wfL (wfL wfI) xs :=
  open_sl hs hC (by omega) (row_of_trod he hi hC') hv h
theorem open_txns {e' : TypeId} {f0 f1 f2 g0 g1 g2 : Field} (hs : P.underlying t = some (.slice e)) (ht : P.underlying e = some (.struct #[f0, f1, f2])) (hone : oneCellFields P #[f0, f1, f2] = true) (hC : P.cellsOf e = 3)
    (i0 : P.underlying f0.type = some (.int .i64)) (i1 : P.underlying f1.type = some (.slice e')) (i2 : P.underlying f2.type = some .bool)
    (he : P.underlying e' = some (.struct #[g0, g1, g2])) (hone' : oneCellFields P #[g0, g1, g2] = true) (hC' : P.cellsOf e' = 3)
    (j0 : P.underlying g0.type = some (.int .i64)) (j1 : P.underlying g1.type = some (.int .i64)) (j2 : P.underlying g2.type = some (.int .i64))
    (hv : Value.okWide P w r b0 t v) (h : DataW.Trod enc P w base spare held t v d p) : ∃ (xs : List TxnT) (A : Option Addr) (c : Nat), v = .slice A xs.length c ∧ Txns Any w A xs ∧ wfL wfTxn xs :=
  open_sl hs hC (by omega) (txn_of_trod ht hone hC i0 i1 i2 he hone' hC' j0 j1 j2) hv h
end
end
end Go.Proofs.YtdgfipoibnjhaaaDoor.Law
