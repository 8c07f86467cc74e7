/-
  The kinds of bad reads, and the places of the bad reads of a history: plain facts.
-/
import Derived.Test.YtdgfipoibnjhaaaDoorLastV
import Derived.Test.YtdgfipoibnjhaaaDoorOwnErr
import Derived.Test.YtdgfipoibnjhaaaDoorInst
namespace Go.Proofs.YtdgfipoibnjhaaaDoor
set_option linter.unusedSimpArgs false
set_option linter.unusedVariables false
set_option maxRecDepth 100000
open Go.RowKit

/-- the kind of a bad read of a value of another transaction, or 0 -/
def k6 (h : List TxnT) (n : Int) (o : T3) : Int :=
  if o.a ≠ 1 ∨ o.c = 0 ∨ wrN h o.b o.c = n then 0
  else match h[(wrN h o.b o.c).toNat]? with
    | some t => if wrN h o.b o.c < 0 then 1 else if t.done = false then 2 else if lastv h o.b o.c = false then 3 else 0
    | none => 1
theorem k6_zero {h : List TxnT} {n : Int} {o : T3} (hc : o.a ≠ 1 ∨ o.c = 0 ∨ wrN h o.b o.c = n) : k6 h n o = 0 := by
  unfold k6; rw [if_pos hc]
theorem k6_none {h : List TxnT} {n : Int} {o : T3} (hc : ¬ (o.a ≠ 1 ∨ o.c = 0 ∨ wrN h o.b o.c = n)) (hw : wrN h o.b o.c = -1) : k6 h n o = 1 := by
  unfold k6; rw [if_neg hc, hw]
  split
  · rfl
  · rfl
theorem k6_some {h : List TxnT} {n : Int} {o : T3} {k : Nat} {t : TxnT} (hc : ¬ (o.a ≠ 1 ∨ o.c = 0 ∨ wrN h o.b o.c = n)) (hw : wrN h o.b o.c = k) (hk : h[k]? = some t) : k6 h n o = if t.done = false then 2 else if lastv h o.b o.c = false then 3 else 0 := by
  unfold k6; rw [if_neg hc, hw, Int.toNat_natCast, hk]
  simp only
  rw [if_neg (by omega)]

/-- the places of the bad reads of a kind among the first j operations -/
def brT (h : List TxnT) (kind : Int) (n : Nat) (ops : List T3) : Nat → List T2
  | 0 => []
  | j + 1 => match ops[j]? with
    | some o => if k6 h n o = kind then brT h kind n ops j ++ [⟨n, j⟩] else brT h kind n ops j
    | none => brT h kind n ops j
theorem brT_hit {h : List TxnT} {kind : Int} {n : Nat} {ops : List T3} {j : Nat} {o : T3} (hj : ops[j]? = some o) (hc : k6 h n o = kind) : brT h kind n ops (j + 1) = brT h kind n ops j ++ [⟨n, j⟩] := by
  conv => lhs; unfold brT
  rw [hj]
  exact if_pos hc
theorem brT_miss {h : List TxnT} {kind : Int} {n : Nat} {ops : List T3} {j : Nat} {o : T3} (hj : ops[j]? = some o) (hc : ¬ k6 h n o = kind) : brT h kind n ops (j + 1) = brT h kind n ops j := by
  conv => lhs; unfold brT
  rw [hj]
  exact if_neg hc
theorem brT_len (h : List TxnT) (kind : Int) (n : Nat) (ops : List T3) (j : Nat) : (brT h kind n ops j).length ≤ j := by
  induction j with
  | zero => exact Nat.le_refl _
  | succ j ih =>
    unfold brT
    split
    · split
      · simp; omega
      · omega
    · omega
/-- the places of the bad reads of a kind of one transaction -/
def bdT (h : List TxnT) (kind : Int) (n : Nat) (ops : List T3) : List T2 := if kind = 4 then oeT n ops ops.length else brT h kind n ops ops.length
theorem bdT_len (h : List TxnT) (kind : Int) (n : Nat) (ops : List T3) : (bdT h kind n ops).length ≤ ops.length := by
  unfold bdT
  split
  · exact oeT_len _ _ _
  · exact brT_len _ _ _ _ _
/-- .. of the committed ones among the first k transactions -/
def bdH (h : List TxnT) (kind : Int) : Nat → List T2
  | 0 => []
  | k + 1 => match h[k]? with
    | some t => if t.done = true then bdH h kind k ++ bdT h kind k t.ops else bdH h kind k
    | none => bdH h kind k
theorem bdH_succ {h : List TxnT} {kind : Int} {k : Nat} {t : TxnT} (hk : h[k]? = some t) : bdH h kind (k + 1) = if t.done = true then bdH h kind k ++ bdT h kind k t.ops else bdH h kind k := by
  conv => lhs; unfold bdH
  rw [hk]
theorem bdH_len (h : List TxnT) (kind : Int) (k : Nat) : (bdH h kind k).length ≤ total (h.take k) := by
  induction k with
  | zero => exact Nat.zero_le _
  | succ k ih =>
    cases hk : h[k]? with
    | none =>
      have : bdH h kind (k + 1) = bdH h kind k := by conv => lhs; unfold bdH
                                                     rw [hk]
      rw [this, List.take_add_one, hk]
      simpa using ih
    | some t =>
      have h1 := bdT_len h kind k t.ops
      rw [bdH_succ hk, total_take h k t hk]
      split
      · rw [List.length_append]
        omega
      · omega
theorem bdH_small {h : List TxnT} (hs : Small h) (kind : Int) : (bdH h kind h.length).length ≤ 1048576 := by
  have h1 := bdH_len h kind h.length
  have h2 := total_le h h.length
  unfold Small at hs
  omega
/-- over a list of numbers -/
def bdD (h : List TxnT) (kind : Int) (ns : List Int) : List T2 := ns.flatMap fun n => match h[n.toNat]? with | some t => bdT h kind n.toNat t.ops | none => []
theorem bdD_snoc {h : List TxnT} {kind : Int} {ns : List Int} {k : Nat} {t : TxnT} (hk : h[k]? = some t) : bdD h kind (ns ++ [(k : Int)]) = bdD h kind ns ++ bdT h kind k t.ops := by
  unfold bdD
  rw [List.flatMap_append]
  simp [hk]
theorem bdD_dn (h : List TxnT) (kind : Int) (k : Nat) : bdD h kind (dnT h k) = bdH h kind k := by
  induction k with
  | zero => rfl
  | succ k ih =>
    cases hk : h[k]? with
    | none =>
      have e1 : dnT h (k + 1) = dnT h k := by
        conv => lhs; unfold dnT
        rw [hk]
      have e2 : bdH h kind (k + 1) = bdH h kind k := by
        conv => lhs; unfold bdH
        rw [hk]
      rw [e1, e2, ih]
    | some t =>
      rw [dnT_succ hk, bdH_succ hk]
      split
      · rw [bdD_snoc hk, ih]
      · exact ih
/-- whether the transaction of a place was committed -/
def doneAt (h : List TxnT) (p : T2) : Bool := match h[p.a.toNat]? with | some t => t.done | none => false
theorem oeT_who {who : Int} {ops : List T3} {n : Nat} {p : T2} (hp : p ∈ oeT who ops n) : p.a = who := by
  induction n with
  | zero => cases hp
  | succ n ih =>
    unfold oeT at hp
    split at hp
    · split at hp
      · rcases List.mem_append.1 hp with hp | hp
        · exact ih hp
        · simp at hp; rw [hp]
      · exact ih hp
    · exact ih hp
theorem oeH_who {h : List TxnT} {k : Nat} {p : T2} (hp : p ∈ oeH h k) : ∃ (m : Nat) (t : TxnT), p.a = m ∧ m < k ∧ h[m]? = some t := by
  induction k with
  | zero => cases hp
  | succ k ih =>
    cases hk : h[k]? with
    | none =>
      have : oeH h (k + 1) = oeH h k := by conv => lhs; unfold oeH
                                           rw [hk]
      rw [this] at hp
      obtain ⟨m, t, h1, h2, h3⟩ := ih hp
      exact ⟨m, t, h1, by omega, h3⟩
    | some t =>
      rw [oeH_succ hk] at hp
      rcases List.mem_append.1 hp with hp | hp
      · obtain ⟨m, t, h1, h2, h3⟩ := ih hp
        exact ⟨m, t, h1, by omega, h3⟩
      · exact ⟨k, t, oeT_who hp, by omega, hk⟩
theorem oeH_done (h : List TxnT) (k : Nat) : (oeH h k).filter (doneAt h) = bdH h 4 k := by
  induction k with
  | zero => rfl
  | succ k ih =>
    cases hk : h[k]? with
    | none =>
      have e1 : oeH h (k + 1) = oeH h k := by conv => lhs; unfold oeH
                                              rw [hk]
      have e2 : bdH h 4 (k + 1) = bdH h 4 k := by conv => lhs; unfold bdH
                                                  rw [hk]
      rw [e1, e2, ih]
    | some t =>
      have hd : ∀ p ∈ oeT k t.ops t.ops.length, doneAt h p = t.done := fun p hp => by
        unfold doneAt
        rw [oeT_who hp, Int.toNat_natCast, hk]
      rw [oeH_succ hk, bdH_succ hk, List.filter_append, ih]
      split
      · rename_i hd1
        rw [List.filter_eq_self.2 (fun p hp => (hd p hp).trans hd1)]
        rfl
      · rename_i hd1
        rw [List.filter_eq_nil_iff.2 (fun p hp => by rw [hd p hp]; exact hd1), List.append_nil]
/-- what BadReads returns -/
def bads (h : List TxnT) (kind : Int) : List T2 := if histv h = true ∧ inB kind 1 4 = true then bdH h kind h.length else []
theorem bads_small {h : List TxnT} (hs : Small h) (kind : Int) : (bads h kind).length ≤ 1048576 := by
  unfold bads
  split
  · exact bdH_small hs kind
  · simp
/-- append of one struct of two ints, and where the new slice lies -/
theorem wpList_append2_at {P : Program} (w : World) {ops : Array Oper} {rest : List Oper} {o : Oper} {a : Act} {Q : Exit → Act → World → Prop} (hgd : o.guard = none) (s x : Operand) (t : TypeId)
    (ho : o.op = .call { callee := .builtin .append, args := #[s, x], argTypes := #[t, t] })
    (base : Nat) (e : TypeId) {z : Value} (ht : P.underlying t = some (.slice e)) (hinfo : (P.info? e).map (fun i => (i.zero, i.size, i.bytes)) = some (some z, 2, 16)) (hzs : z.cells.size = 2)
    (v : Value) (xs : List T2) (hs : a.eval s = v) (hown : Own2 w base e v xs)
    (g : Nat) (x0 x1 : Int) (hx : a.eval x = .slice (some ⟨g, 0, none⟩) 1 1) (c0 : w.cell? ⟨g, 0, none⟩ = some (.int .i64 x0)) (c1 : w.cell? ⟨g, 1, none⟩ = some (.int .i64 x1))
    (hn : xs.length ≤ 4194304) (hbase : base ≤ w.heap.size)
    (h : ∀ v' w', Own2 w' base e v' (xs ++ [⟨x0, x1⟩]) → w.grownBy w' v.ownBlock → (v'.ownBlock = v.ownBlock ∨ v'.ownBlock = some w.heap.size) → wpList P ops Q rest (a.put o.dst v') w') : wpList P ops Q (o :: rest) a w := by
  obtain ⟨i0, hi, hz0, hz1, hz2⟩ := info_parts hinfo
  refine wpList_append_own_at w hgd s x t ho base e i0 z 2 16 ht hi hz0 hz1 hz2 hzs (by decide) v xs.length (flat2 xs) hs hown ⟨g, 0, none⟩ 1 1 [.int .i64 x0, .int .i64 x1] hx rfl ?_ ?_ (by unfold maxLen; omega) (by omega) hbase ?_
  · intro j u hu
    match j, hu with
    | 0, hu => cases hu; exact c0
    | 1, hu => cases hu; exact c1
    | j + 2, hu => simp at hu
  · intro u hu
    simp at hu
    rcases hu with rfl | rfl <;> rfl
  · intro v' w' h1 h2 _ h3
    refine h v' w' ?_ h2 h3
    unfold Own2
    rw [flat2_app, List.length_append]
    exact h1
/-- append of the elements of a slice of such structs, and where the new slice lies -/
theorem wpList_append2s_at {P : Program} (w : World) {ops : Array Oper} {rest : List Oper} {o : Oper} {a : Act} {Q : Exit → Act → World → Prop} (hgd : o.guard = none) (s x : Operand) (t : TypeId)
    (ho : o.op = .call { callee := .builtin .append, args := #[s, x], argTypes := #[t, t] })
    (base : Nat) (e : TypeId) {z : Value} (ht : P.underlying t = some (.slice e)) (hinfo : (P.info? e).map (fun i => (i.zero, i.size, i.bytes)) = some (some z, 2, 16)) (hzs : z.cells.size = 2)
    (v : Value) (xs : List T2) (hs : a.eval s = v) (hown : Own2 w base e v xs)
    (u : Value) (base2 : Nat) (ys : List T2) (hx : a.eval x = u) (hu : Own2 w base2 e u ys)
    (hn : xs.length + ys.length ≤ 4194304) (hbase : base ≤ w.heap.size)
    (h : ∀ v' w', Own2 w' base e v' (xs ++ ys) → w.grownBy w' v.ownBlock → (v'.ownBlock = v.ownBlock ∨ v'.ownBlock = some w.heap.size) → wpList P ops Q rest (a.put o.dst v') w') : wpList P ops Q (o :: rest) a w := by
  obtain ⟨i0, hi, hz0, hz1, hz2⟩ := info_parts hinfo
  obtain ⟨A, c, hv, hP, hf⟩ := hu.form
  rcases hu.2 with ⟨rfl, hn0⟩ | ⟨g, cap, cur, rfl, _⟩
  · obtain rfl : ys = [] := List.eq_nil_of_length_eq_zero hn0
    refine wpList_append_own_none hgd s x t ho base e i0 2 ht hi v xs.length (flat2 xs) hs hown hx ?_
    exact h v w (by simpa using hown) (grown_refl _ _) (.inl rfl)
  · cases hv
    refine wpList_append_own_at w hgd s x t ho base e i0 z 2 16 ht hi hz0 hz1 hz2 hzs (by decide) v xs.length (flat2 xs) hs hown ⟨g, 0, none⟩ ys.length _ (flat2 ys) hx (flat2_len ys) ?_ (flat2_one ys) (by unfold maxLen; omega) (by omega) hbase ?_
    · intro n u hu'
      obtain ⟨i, j, x, rfl, hxi, huj⟩ := flat2_get ys n u hu'
      obtain ⟨b', off', us, e, _, _, _, hr, hc⟩ := hP i x hxi
      cases e
      cases hr
      have := hc j u huj
      rw [← this]
      unfold Addr.add
      split
      · rename_i h0; simp at h0; simp [h0]
      · simp
    · intro v' w' h1 h2 _ h3
      refine h v' w' ?_ h2 h3
      unfold Own2
      rw [flat2_app, List.length_append]
      exact h1
end Go.Proofs.YtdgfipoibnjhaaaDoor
