/-
  Right reads: plain facts.
-/
import Derived.Test.YtmbdacfgmiielaaGreatGLastV15
import Derived.Test.YtmbdacfgmiielaaGreatOwnErr
import Derived.Test.YtmbdacfgmiielaaGreatInst
import Derived.Test.YtmbdacfgmiielaaGreatGFirst14
/-
  The kinds of bad reads, and the places of the bad reads of a history: plain facts.
-/
namespace Go.Proofs.YtmbdacfgmiielaaGreat
set_option linter.unusedSimpArgs false
set_option linter.unusedVariables false
set_option maxRecDepth 100000
open Go.RowKit

/-- the kind of a bad read of a value of another transaction, or 0 -/
def k6 (h : List TxnT) (n : Int) (o : T3) : Int :=
  if o.a ≠ 1 ∨ o.c = 0 ∨ wrN h o.b o.c = n then 0
  else match h[(wrN h o.b o.c).toNat]? with
    | some t => if wrN h o.b o.c < 0 then 1 else if t.done = false then 2 else if lastv h o.b o.c = false then 3 else 0
    | none => 1
theorem k6_zero {h : List TxnT} {n : Int} {o : T3} (hc : o.a ≠ 1 ∨ o.c = 0 ∨ wrN h o.b o.c = n) : k6 h n o = 0 := by
  unfold k6; rw [if_pos hc]
theorem k6_none {h : List TxnT} {n : Int} {o : T3} (hc : ¬ (o.a ≠ 1 ∨ o.c = 0 ∨ wrN h o.b o.c = n)) (hw : wrN h o.b o.c = -1) : k6 h n o = 1 := by
  unfold k6; rw [if_neg hc, hw]
  split
  · rfl
  · rfl
theorem k6_some {h : List TxnT} {n : Int} {o : T3} {k : Nat} {t : TxnT} (hc : ¬ (o.a ≠ 1 ∨ o.c = 0 ∨ wrN h o.b o.c = n)) (hw : wrN h o.b o.c = k) (hk : h[k]? = some t) : k6 h n o = if t.done = false then 2 else if lastv h o.b o.c = false then 3 else 0 := by
  unfold k6; rw [if_neg hc, hw, Int.toNat_natCast, hk]
  simp only
  rw [if_neg (by omega)]

/-- the places of the bad reads of a kind among the first j operations -/
def brT (h : List TxnT) (kind : Int) (n : Nat) (ops : List T3) : Nat → List T2
  | 0 => []
  | j + 1 => match ops[j]? with
    | some o => if k6 h n o = kind then brT h kind n ops j ++ [⟨n, j⟩] else brT h kind n ops j
    | none => brT h kind n ops j
theorem brT_hit {h : List TxnT} {kind : Int} {n : Nat} {ops : List T3} {j : Nat} {o : T3} (hj : ops[j]? = some o) (hc : k6 h n o = kind) : brT h kind n ops (j + 1) = brT h kind n ops j ++ [⟨n, j⟩] := by
  conv => lhs; unfold brT
  rw [hj]
  exact if_pos hc
theorem brT_miss {h : List TxnT} {kind : Int} {n : Nat} {ops : List T3} {j : Nat} {o : T3} (hj : ops[j]? = some o) (hc : ¬ k6 h n o = kind) : brT h kind n ops (j + 1) = brT h kind n ops j := by
  conv => lhs; unfold brT
  rw [hj]
  exact if_neg hc
theorem brT_len (h : List TxnT) (kind : Int) (n : Nat) (ops : List T3) (j : Nat) : (brT h kind n ops j).length ≤ j := by
  induction j with
  | zero => exact Nat.le_refl _
  | succ j ih =>
    unfold brT
    split
    · split
      · simp; omega
      · omega
    · omega
/-- the places of the bad reads of a kind of one transaction -/
def bdT (h : List TxnT) (kind : Int) (n : Nat) (ops : List T3) : List T2 := if kind = 4 then oeT n ops ops.length else brT h kind n ops ops.length
theorem bdT_len (h : List TxnT) (kind : Int) (n : Nat) (ops : List T3) : (bdT h kind n ops).length ≤ ops.length := by
  unfold bdT
  split
  · exact oeT_len _ _ _
  · exact brT_len _ _ _ _ _
/-- .. of the committed ones among the first k transactions -/
def bdH (h : List TxnT) (kind : Int) : Nat → List T2
  | 0 => []
  | k + 1 => match h[k]? with
    | some t => if t.done = true then bdH h kind k ++ bdT h kind k t.ops else bdH h kind k
    | none => bdH h kind k
theorem bdH_succ {h : List TxnT} {kind : Int} {k : Nat} {t : TxnT} (hk : h[k]? = some t) : bdH h kind (k + 1) = if t.done = true then bdH h kind k ++ bdT h kind k t.ops else bdH h kind k := by
  conv => lhs; unfold bdH
  rw [hk]
theorem bdH_len (h : List TxnT) (kind : Int) (k : Nat) : (bdH h kind k).length ≤ total (h.take k) := by
  induction k with
  | zero => exact Nat.zero_le _
  | succ k ih =>
    cases hk : h[k]? with
    | none =>
      have : bdH h kind (k + 1) = bdH h kind k := by conv => lhs; unfold bdH
                                                     rw [hk]
      rw [this, List.take_add_one, hk]
      simpa using ih
    | some t =>
      have h1 := bdT_len h kind k t.ops
      rw [bdH_succ hk, total_take h k t hk]
      split
      · rw [List.length_append]
        omega
      · omega
theorem bdH_small {h : List TxnT} (hs : Small h) (kind : Int) : (bdH h kind h.length).length ≤ 1048576 := by
  have h1 := bdH_len h kind h.length
  have h2 := total_le h h.length
  unfold Small at hs
  omega
/-- over a list of numbers -/
def bdD (h : List TxnT) (kind : Int) (ns : List Int) : List T2 := ns.flatMap fun n => match h[n.toNat]? with | some t => bdT h kind n.toNat t.ops | none => []
theorem bdD_snoc {h : List TxnT} {kind : Int} {ns : List Int} {k : Nat} {t : TxnT} (hk : h[k]? = some t) : bdD h kind (ns ++ [(k : Int)]) = bdD h kind ns ++ bdT h kind k t.ops := by
  unfold bdD
  rw [List.flatMap_append]
  simp [hk]
theorem bdD_dn (h : List TxnT) (kind : Int) (k : Nat) : bdD h kind (dnT h k) = bdH h kind k := by
  induction k with
  | zero => rfl
  | succ k ih =>
    cases hk : h[k]? with
    | none =>
      have e1 : dnT h (k + 1) = dnT h k := by
        conv => lhs; unfold dnT
        rw [hk]
      have e2 : bdH h kind (k + 1) = bdH h kind k := by
        conv => lhs; unfold bdH
        rw [hk]
      rw [e1, e2, ih]
    | some t =>
      rw [dnT_succ hk, bdH_succ hk]
      split
      · rw [bdD_snoc hk, ih]
      · exact ih
/-- whether the transaction of a place was committed -/
def doneAt (h : List TxnT) (p : T2) : Bool := match h[p.a.toNat]? with | some t => t.done | none => false
theorem oeT_who {who : Int} {ops : List T3} {n : Nat} {p : T2} (hp : p ∈ oeT who ops n) : p.a = who := by
  induction n with
  | zero => cases hp
  | succ n ih =>
    unfold oeT at hp
    split at hp
    · split at hp
      · rcases List.mem_append.1 hp with hp | hp
        · exact ih hp
        · simp at hp; rw [hp]
      · exact ih hp
    · exact ih hp
theorem oeH_who {h : List TxnT} {k : Nat} {p : T2} (hp : p ∈ oeH h k) : ∃ (m : Nat) (t : TxnT), p.a = m ∧ m < k ∧ h[m]? = some t := by
  induction k with
  | zero => cases hp
  | succ k ih =>
    cases hk : h[k]? with
    | none =>
      have : oeH h (k + 1) = oeH h k := by conv => lhs; unfold oeH
                                           rw [hk]
      rw [this] at hp
      obtain ⟨m, t, h1, h2, h3⟩ := ih hp
      exact ⟨m, t, h1, by omega, h3⟩
    | some t =>
      rw [oeH_succ hk] at hp
      rcases List.mem_append.1 hp with hp | hp
      · obtain ⟨m, t, h1, h2, h3⟩ := ih hp
        exact ⟨m, t, h1, by omega, h3⟩
      · exact ⟨k, t, oeT_who hp, by omega, hk⟩
theorem oeH_done (h : List TxnT) (k : Nat) : (oeH h k).filter (doneAt h) = bdH h 4 k := by
  induction k with
  | zero => rfl
  | succ k ih =>
    cases hk : h[k]? with
    | none =>
      have e1 : oeH h (k + 1) = oeH h k := by conv => lhs; unfold oeH
                                              rw [hk]
      have e2 : bdH h 4 (k + 1) = bdH h 4 k := by conv => lhs; unfold bdH
                                                  rw [hk]
      rw [e1, e2, ih]
    | some t =>
      have hd : ∀ p ∈ oeT k t.ops t.ops.length, doneAt h p = t.done := fun p hp => by
        unfold doneAt
        rw [oeT_who hp, Int.toNat_natCast, hk]
      rw [oeH_succ hk, bdH_succ hk, List.filter_append, ih]
      split
      · rename_i hd1
        rw [List.filter_eq_self.2 (fun p hp => (hd p hp).trans hd1)]
        rfl
      · rename_i hd1
        rw [List.filter_eq_nil_iff.2 (fun p hp => by rw [hd p hp]; exact hd1), List.append_nil]
/-- what BadReads returns -/
def bads (h : List TxnT) (kind : Int) : List T2 := if histv h = true ∧ inB kind 1 4 = true then bdH h kind h.length else []
theorem bads_small {h : List TxnT} (hs : Small h) (kind : Int) : (bads h kind).length ≤ 1048576 := by
  unfold bads
  split
  · exact bdH_small hs kind
  · simp
/-- append of one struct of two ints, and where the new slice lies -/
theorem wpList_append2_at {P : Program} (w : World) {ops : Array Oper} {rest : List Oper} {o : Oper} {a : Act} {Q : Exit → Act → World → Prop} (hgd : o.guard = none) (s x : Operand) (t : TypeId)
    (ho : o.op = .call { callee := .builtin .append, args := #[s, x], argTypes := #[t, t] })
    (base : Nat) (e : TypeId) {z : Value} (ht : P.underlying t = some (.slice e)) (hinfo : (P.info? e).map (fun i => (i.zero, i.size, i.bytes)) = some (some z, 2, 16)) (hzs : z.cells.size = 2)
    (v : Value) (xs : List T2) (hs : a.eval s = v) (hown : Own2 w base e v xs)
    (g : Nat) (x0 x1 : Int) (hx : a.eval x = .slice (some ⟨g, 0, none⟩) 1 1) (c0 : w.cell? ⟨g, 0, none⟩ = some (.int .i64 x0)) (c1 : w.cell? ⟨g, 1, none⟩ = some (.int .i64 x1))
    (hn : xs.length ≤ 4194304) (hbase : base ≤ w.heap.size)
    (h : ∀ v' w', Own2 w' base e v' (xs ++ [⟨x0, x1⟩]) → w.grownBy w' v.ownBlock → (v'.ownBlock = v.ownBlock ∨ v'.ownBlock = some w.heap.size) → wpList P ops Q rest (a.put o.dst v') w') : wpList P ops Q (o :: rest) a w := by
  obtain ⟨i0, hi, hz0, hz1, hz2⟩ := info_parts hinfo
  refine wpList_append_own_at w hgd s x t ho base e i0 z 2 16 ht hi hz0 hz1 hz2 hzs (by decide) v xs.length (flat2 xs) hs hown ⟨g, 0, none⟩ 1 1 [.int .i64 x0, .int .i64 x1] hx rfl ?_ ?_ (by unfold maxLen; omega) (by omega) hbase ?_
  · intro j u hu
    match j, hu with
    | 0, hu => cases hu; exact c0
    | 1, hu => cases hu; exact c1
    | j + 2, hu => simp at hu
  · intro u hu
    simp at hu
    rcases hu with rfl | rfl <;> rfl
  · intro v' w' h1 h2 _ h3
    refine h v' w' ?_ h2 h3
    unfold Own2
    rw [flat2_app, List.length_append]
    exact h1
/-- append of the elements of a slice of such structs, and where the new slice lies -/
theorem wpList_append2s_at {P : Program} (w : World) {ops : Array Oper} {rest : List Oper} {o : Oper} {a : Act} {Q : Exit → Act → World → Prop} (hgd : o.guard = none) (s x : Operand) (t : TypeId)
    (ho : o.op = .call { callee := .builtin .append, args := #[s, x], argTypes := #[t, t] })
    (base : Nat) (e : TypeId) {z : Value} (ht : P.underlying t = some (.slice e)) (hinfo : (P.info? e).map (fun i => (i.zero, i.size, i.bytes)) = some (some z, 2, 16)) (hzs : z.cells.size = 2)
    (v : Value) (xs : List T2) (hs : a.eval s = v) (hown : Own2 w base e v xs)
    (u : Value) (base2 : Nat) (ys : List T2) (hx : a.eval x = u) (hu : Own2 w base2 e u ys)
    (hn : xs.length + ys.length ≤ 4194304) (hbase : base ≤ w.heap.size)
    (h : ∀ v' w', Own2 w' base e v' (xs ++ ys) → w.grownBy w' v.ownBlock → (v'.ownBlock = v.ownBlock ∨ v'.ownBlock = some w.heap.size) → wpList P ops Q rest (a.put o.dst v') w') : wpList P ops Q (o :: rest) a w := by
  obtain ⟨i0, hi, hz0, hz1, hz2⟩ := info_parts hinfo
  obtain ⟨A, c, hv, hP, hf⟩ := hu.form
  rcases hu.2 with ⟨rfl, hn0⟩ | ⟨g, cap, cur, rfl, _⟩
  · obtain rfl : ys = [] := List.eq_nil_of_length_eq_zero hn0
    refine wpList_append_own_none hgd s x t ho base e i0 2 ht hi v xs.length (flat2 xs) hs hown hx ?_
    exact h v w (by simpa using hown) (grown_refl _ _) (.inl rfl)
  · cases hv
    refine wpList_append_own_at w hgd s x t ho base e i0 z 2 16 ht hi hz0 hz1 hz2 hzs (by decide) v xs.length (flat2 xs) hs hown ⟨g, 0, none⟩ ys.length _ (flat2 ys) hx (flat2_len ys) ?_ (flat2_one ys) (by unfold maxLen; omega) (by omega) hbase ?_
    · intro n u hu'
      obtain ⟨i, j, x, rfl, hxi, huj⟩ := flat2_get ys n u hu'
      obtain ⟨b', off', us, e, _, _, _, hr, hc⟩ := hP i x hxi
      cases e
      cases hr
      have := hc j u huj
      rw [← this]
      unfold Addr.add
      split
      · rename_i h0; simp at h0; simp [h0]
      · simp
    · intro v' w' h1 h2 _ h3
      refine h v' w' ?_ h2 h3
      unfold Own2
      rw [flat2_app, List.length_append]
      exact h1
end Go.Proofs.YtmbdacfgmiielaaGreat
namespace Go.Proofs.YtmbdacfgmiielaaGreat
set_option linter.unusedSimpArgs false
set_option linter.unusedVariables false
set_option maxRecDepth 100000
open Go.RowKit

/-- whether a later operation writes the value that an operation reads -/
def earlyB : List T3 → Bool
  | [] => false
  | o :: r => (decide (o.a = 1) && r.any fun x => decide (x = (⟨2, o.b, o.c⟩ : T3))) || earlyB r
/-- whether a first read has a value that its own transaction writes -/
def rdB (h : List TxnT) (k : Int) (l : List T3) : Bool := l.any fun o => decide (0 < o.c) && decide (wrN h o.b o.c = k)
def noBad (h : List TxnT) : Bool := decide (bads h 1 = [] ∧ bads h 2 = [] ∧ bads h 3 = [] ∧ bads h 4 = [])
/-- whether a history's reads are right -/
def rrI (h : List TxnT) : Bool := histv h && (noBad h && h.all fun t => !(t.done && earlyB t.ops))
def earlyAt (l : List T3) : Prop := ∃ (i j : Nat) (o : T3), i < j ∧ l[i]? = some o ∧ o.a = 1 ∧ l[j]? = some ⟨2, o.b, o.c⟩
theorem earlyB_iff (l : List T3) : earlyB l = true ↔ earlyAt l := by
  induction l with
  | nil =>
    constructor
    · intro h; cases h
    · rintro ⟨i, j, o, _, h, _⟩; simp at h
  | cons a r ih =>
    unfold earlyB
    rw [Bool.or_eq_true, Bool.and_eq_true, decide_eq_true_eq, List.any_eq_true, ih]
    constructor
    · rintro (⟨h1, x, hx, he⟩ | ⟨i, j, o, hij, h1, h2, h3⟩)
      · obtain ⟨j, hj⟩ := List.getElem?_of_mem hx
        exact ⟨0, j + 1, a, by omega, rfl, h1, by rw [List.getElem?_cons_succ, hj]; simpa using he⟩
      · exact ⟨i + 1, j + 1, o, by omega, by simpa using h1, h2, by simpa using h3⟩
    · rintro ⟨i, j, o, hij, h1, h2, h3⟩
      obtain ⟨j, rfl⟩ : ∃ j', j = j' + 1 := ⟨j - 1, by omega⟩
      rw [List.getElem?_cons_succ] at h3
      cases i with
      | zero =>
        cases h1
        exact .inl ⟨h2, _, List.mem_of_getElem? h3, by simp⟩
      | succ i =>
        rw [List.getElem?_cons_succ] at h1
        exact .inr ⟨i, j, o, by omega, h1, h2, h3⟩
theorem earlyB_none {l : List T3} {k : Nat} {o : T3} (h : l[k]? = some o) : earlyB (l.drop k) = ((decide (o.a = 1) && (l.drop (k + 1)).any fun x => decide (x = (⟨2, o.b, o.c⟩ : T3))) || earlyB (l.drop (k + 1))) := by
  have hk : k < l.length := (List.getElem?_eq_some_iff.1 h).1
  have he : l[k] = o := (List.getElem?_eq_some_iff.1 h).2
  rw [List.drop_eq_getElem_cons hk, he]
  rfl
theorem before_last {ops : List T3} (key : Int) (n : Nat) : (before ops key n = -1 ∧ ∀ (i : Nat) o, i < n → ops[i]? = some o → o.b ≠ key) ∨ ∃ (i : Nat) (o : T3), i < n ∧ ops[i]? = some o ∧ o.b = key ∧ before ops key n = o.c := by
  induction n with
  | zero => exact .inl ⟨rfl, fun i o hi => by omega⟩
  | succ n ih =>
    cases ho : ops[n]? with
    | none =>
      have e : before ops key (n + 1) = before ops key n := by
        conv => lhs; unfold before
        rw [ho]
      rw [e]
      rcases ih with ⟨h1, h2⟩ | ⟨i, o, h1, h2, h3, h4⟩
      · refine .inl ⟨h1, fun i o hi hio => ?_⟩
        rcases Nat.lt_or_ge i n with h | h
        · exact h2 i o h hio
        · obtain rfl : i = n := by omega
          rw [ho] at hio
          cases hio
      · exact .inr ⟨i, o, by omega, h2, h3, h4⟩
    | some o =>
      have e : before ops key (n + 1) = if o.b = key then o.c else before ops key n := by
        conv => lhs; unfold before
        rw [ho]
      rw [e]
      by_cases hk : o.b = key
      · rw [if_pos hk]
        exact .inr ⟨n, o, by omega, ho, hk, rfl⟩
      · rw [if_neg hk]
        rcases ih with ⟨h1, h2⟩ | ⟨i, o', h1, h2, h3, h4⟩
        · refine .inl ⟨h1, fun i o' hi hio => ?_⟩
          rcases Nat.lt_or_ge i n with h | h
          · exact h2 i o' h hio
          · obtain rfl : i = n := by omega
            rw [ho] at hio
            cases hio
            exact hk
        · exact .inr ⟨i, o', by omega, h2, h3, h4⟩
theorem frs_mem {ops : List T3} {o : T3} (n : Nat) : o ∈ frs ops n ↔ ∃ i, i < n ∧ ops[i]? = some o ∧ o.a = 1 ∧ before ops o.b i < 0 := by
  induction n with
  | zero =>
    constructor
    · intro h; cases h
    · rintro ⟨i, h, _⟩; omega
  | succ n ih =>
    cases ho : ops[n]? with
    | none =>
      have e : frs ops (n + 1) = frs ops n := by
        conv => lhs; unfold frs
        rw [ho]
      rw [e, ih]
      constructor
      · rintro ⟨i, h1, h2⟩; exact ⟨i, by omega, h2⟩
      · rintro ⟨i, h1, h2, h3⟩
        rcases Nat.lt_or_ge i n with h | h
        · exact ⟨i, h, h2, h3⟩
        · obtain rfl : i = n := by omega
          rw [ho] at h2
          cases h2
    | some u =>
      by_cases hc : u.a = 1 ∧ before ops u.b n < 0
      · rw [frs_hit ho hc, List.mem_append, ih]
        constructor
        · rintro (⟨i, h1, h2⟩ | h)
          · exact ⟨i, by omega, h2⟩
          · simp at h
            subst h
            exact ⟨n, by omega, ho, hc⟩
        · rintro ⟨i, h1, h2, h3⟩
          rcases Nat.lt_or_ge i n with h | h
          · exact .inl ⟨i, h, h2, h3⟩
          · obtain rfl : i = n := by omega
            rw [ho] at h2
            cases h2
            exact .inr (by simp)
      · rw [frs_miss ho hc, ih]
        constructor
        · rintro ⟨i, h1, h2⟩; exact ⟨i, by omega, h2⟩
        · rintro ⟨i, h1, h2, h3⟩
          rcases Nat.lt_or_ge i n with h | h
          · exact ⟨i, h, h2, h3⟩
          · obtain rfl : i = n := by omega
            rw [ho] at h2
            cases h2
            exact absurd h3 hc
theorem oeT_nil {who : Int} {ops : List T3} {n : Nat} (h : oeT who ops n = []) {i : Nat} {o : T3} (hi : i < n) (ho : ops[i]? = some o) (ha : o.a = 1) (hb : 0 ≤ before ops o.b i) : before ops o.b i = o.c := by
  induction n with
  | zero => omega
  | succ n ih =>
    rcases Nat.lt_or_ge i n with hlt | hge
    · refine ih ?_ hlt
      unfold oeT at h
      split at h
      · split at h
        · exact absurd h (by simp)
        · exact h
      · exact h
    · obtain rfl : i = n := by omega
      by_cases he : before ops o.b i = o.c
      · exact he
      · rw [oeT_hit ho ⟨ha, hb, he⟩] at h
        exact absurd h (by simp)
theorem opv_val {o : T3} (h : opv o = true) : 0 ≤ o.c ∧ (o.a = 1 ∨ o.a = 2) ∧ (o.a = 2 → 0 < o.c) := by
  obtain ⟨a, b, c⟩ := o
  simp only [opv, inB, Bool.and_eq_true, Bool.or_eq_true, decide_eq_true_eq, Bool.not_eq_true', Bool.and_eq_false_iff, decide_eq_false_iff_not, beq_iff_eq, beq_eq_false_iff_ne] at h
  simp only
  omega
theorem first_of {h : List TxnT} (hv : histv h = true) {t : TxnT} (ht : t ∈ h) (hop : ∀ o ∈ t.ops, opv o = true) {w : Int} (hn : oeT w t.ops t.ops.length = []) {j : Nat} {key val : Int} (hj : t.ops[j]? = some ⟨2, key, val⟩) : ∀ (i : Nat) (o : T3), i < j → t.ops[i]? = some o → o.a = 1 → o.b = key → o.c = val → ∃ i', i' < t.ops.length ∧ t.ops[i']? = some ⟨1, key, val⟩ ∧ before t.ops key i' < 0 := by
  intro i
  induction i using Nat.strongRecOn with
  | ind i ih =>
    intro o hij ho ha hb hc
    have hl : i < t.ops.length := (List.getElem?_eq_some_iff.1 ho).1
    have he : o = ⟨1, key, val⟩ := by
      obtain ⟨a, b, c⟩ := o
      simp only at ha hb hc
      subst ha hb hc
      rfl
    rcases before_last (ops := t.ops) key i with ⟨h1, h2⟩ | ⟨i2, o2, h1, h2, h3, h4⟩
    · exact ⟨i, hl, by rw [ho, he], by rw [h1]; decide⟩
    · have ho2 := opv_val (hop o2 (List.mem_of_getElem? h2))
      have h5 := oeT_nil hn hl ho ha (by rw [hb, h4]; exact ho2.1)
      rw [hb, h4] at h5
      rcases ho2.2.1 with h6 | h6
      · exact ih i2 h1 o2 (by omega) h2 h6 h3 (by omega)
      · exfalso
        have e2 : o2 = ⟨2, key, val⟩ := by
          obtain ⟨a, b, c⟩ := o2
          simp only at h6 h3 h5
          subst h6 h3
          rw [h5, hc]
        rw [e2] at h2
        have := ops_once hv ht rfl h2 hj
        omega
theorem early_rd {h : List TxnT} (hv : histv h = true) {k : Nat} {t : TxnT} (hk : h[k]? = some t) (ho : oeT k t.ops t.ops.length = []) : rdB h k (frs t.ops t.ops.length) = earlyB t.ops := by
  have ht := List.mem_of_getElem? hk
  have hop := txnv_ops (histv_txn hv t ht)
  rw [Bool.eq_iff_iff, earlyB_iff]
  unfold rdB
  rw [List.any_eq_true]
  constructor
  · rintro ⟨o, hm, hc⟩
    simp only [Bool.and_eq_true, decide_eq_true_eq] at hc
    obtain ⟨i, h1, h2, h3, h4⟩ := (frs_mem _).1 hm
    obtain ⟨k', t', e1, e2, e3⟩ := wrN_mem (h := h) (key := o.b) (val := o.c) (by omega)
    have : k' = k := by omega
    subst this
    rw [hk] at e2
    cases e2
    obtain ⟨j, hj⟩ := List.getElem?_of_mem e3
    refine ⟨i, j, o, ?_, h2, h3, hj⟩
    rcases Nat.lt_trichotomy i j with hlt | heq | hlt
    · exact hlt
    · subst heq
      have h9 := congrArg T3.a (Option.some.inj (h2.symm.trans hj))
      simp only at h9
      omega
    · exfalso
      rcases before_last (ops := t.ops) o.b i with ⟨_, g2⟩ | ⟨i2, o2, _, g2, _, g4⟩
      · exact g2 j _ hlt hj rfl
      · have := (opv_val (hop o2 (List.mem_of_getElem? g2))).1
        omega
  · rintro ⟨i, j, o, hij, h1, h2, h3⟩
    obtain ⟨i', g1, g2, g3⟩ := first_of hv ht hop ho h3 i o hij h1 h2 rfl rfl
    refine ⟨⟨1, o.b, o.c⟩, (frs_mem _).2 ⟨i', g1, g2, rfl, g3⟩, ?_⟩
    simp only [Bool.and_eq_true, decide_eq_true_eq]
    exact ⟨(opv_val (hop _ (List.mem_of_getElem? h3))).2.2 rfl, wrN_of hv hk (List.mem_of_getElem? h3)⟩
theorem dnT_has {h : List TxnT} {k m : Nat} {t : TxnT} (hm : m < k) (ht : h[m]? = some t) (hd : t.done = true) : (m : Int) ∈ dnT h k := by
  induction k with
  | zero => omega
  | succ k ih =>
    unfold dnT
    rcases Nat.lt_or_ge m k with hlt | hge
    · have := ih hlt
      split
      · split
        · exact List.mem_append_left _ this
        · exact this
      · exact this
    · obtain rfl : m = k := by omega
      rw [ht]
      simp [hd]
/-- whether the transaction of a number is early -/
def earlyN (h : List TxnT) (n : Int) : Bool := match h[n.toNat]? with | some t => earlyB t.ops | none => false
theorem rrI_done {h : List TxnT} (hv : histv h = true) (hb : noBad h = true) : rrI h = (dnT h h.length).all fun n => !earlyN h n := by
  unfold rrI
  rw [hv, hb, Bool.true_and, Bool.true_and, Bool.eq_iff_iff, List.all_eq_true, List.all_eq_true]
  constructor
  · intro h1 n hn
    obtain ⟨m, t, rfl, hm, ht, hd⟩ := dnT_mem hn
    have h2 := h1 t (List.mem_of_getElem? ht)
    unfold earlyN
    rw [Int.toNat_natCast, ht]
    simpa [hd] using h2
  · intro h1 t ht
    obtain ⟨m, hm⟩ := List.getElem?_of_mem ht
    cases hd : t.done with
    | false => rfl
    | true =>
      have h2 := h1 m (dnT_has (List.getElem?_eq_some_iff.1 hm).1 hm hd)
      unfold earlyN at h2
      rw [Int.toNat_natCast, hm] at h2
      simpa using h2
theorem rrI_bad {h : List TxnT} (hb : noBad h = false) : rrI h = false := by
  unfold rrI; rw [hb]; simp
theorem noBad_of {h : List TxnT} (hb : ∀ q : Int, 1 ≤ q → q < 5 → bads h q = []) : noBad h = true := by
  unfold noBad
  rw [decide_eq_true_eq]
  exact ⟨hb 1 (by omega) (by omega), hb 2 (by omega) (by omega), hb 3 (by omega) (by omega), hb 4 (by omega) (by omega)⟩
theorem noBad_not {h : List TxnT} {q : Int} (h1 : 1 ≤ q) (h2 : q < 5) (hb : bads h q ≠ []) : noBad h = false := by
  unfold noBad
  rw [decide_eq_false_iff_not]
  rintro ⟨a, b, c, d⟩
  have : q = 1 ∨ q = 2 ∨ q = 3 ∨ q = 4 := by omega
  rcases this with rfl | rfl | rfl | rfl
  · exact hb a
  · exact hb b
  · exact hb c
  · exact hb d
/-- what FirstReads returns -/
def frL (t : TxnT) : List T3 := if txnv t = true then frs t.ops t.ops.length else []
theorem bdH_nil {h : List TxnT} {kind : Int} {n : Nat} (hb : bdH h kind n = []) {k : Nat} {t : TxnT} (hk : k < n) (ht : h[k]? = some t) (hd : t.done = true) : bdT h kind k t.ops = [] := by
  induction n with
  | zero => omega
  | succ n ih =>
    cases hn : h[n]? with
    | none =>
      have e2 : bdH h kind (n + 1) = bdH h kind n := by
        conv => lhs; unfold bdH
        rw [hn]
      rw [e2] at hb
      refine ih hb ?_
      rcases Nat.lt_or_ge k n with h1 | h1
      · exact h1
      · obtain rfl : k = n := by omega
        rw [ht] at hn
        cases hn
    | some t' =>
      rw [bdH_succ hn] at hb
      rcases Nat.lt_or_ge k n with h1 | h1
      · split at hb
        · exact ih (List.append_eq_nil_iff.1 hb).1 h1
        · exact ih hb h1
      · obtain rfl : k = n := by omega
        rw [ht] at hn
        cases hn
        rw [if_pos hd] at hb
        exact (List.append_eq_nil_iff.1 hb).2
theorem rd_early {h : List TxnT} (hv : histv h = true) (hb : noBad h = true) {k : Nat} {t : TxnT} (hk : h[k]? = some t) (hd : t.done = true) : rdB h k (frL t) = earlyB t.ops := by
  have htv := histv_txn hv t (List.mem_of_getElem? hk)
  unfold frL
  rw [if_pos htv]
  refine early_rd hv hk ?_
  unfold noBad at hb
  rw [decide_eq_true_eq] at hb
  have h4 := hb.2.2.2
  unfold bads at h4
  rw [if_pos ⟨hv, by decide⟩] at h4
  exact bdH_nil h4 (List.getElem?_eq_some_iff.1 hk).1 hk hd
theorem rr_spec {h : List TxnT} (hv : histv h = true) (hb : noBad h = true) (ha : ∀ k t, h[k]? = some t → (t.done && rdB h (k : Nat) (frL t)) = false) : rrI h = true := by
  unfold rrI
  rw [hv, hb, Bool.true_and, Bool.true_and, List.all_eq_true]
  intro t ht
  obtain ⟨k, hk⟩ := List.getElem?_of_mem ht
  have := ha k t hk
  cases hd : t.done with
  | false => rfl
  | true =>
    rw [hd, Bool.true_and, rd_early hv hb hk hd] at this
    simp [this]
theorem rr_spec_not {h : List TxnT} (hb : noBad h = true) {k : Nat} {t : TxnT} (hk : h[k]? = some t) (hd : t.done = true) (hr : rdB h k (frL t) = true) : rrI h = false := by
  cases hv : histv h with
  | false => unfold rrI; rw [hv]; rfl
  | true =>
    rw [rd_early hv hb hk hd] at hr
    unfold rrI
    rw [hv, hb, Bool.true_and, Bool.true_and, List.all_eq_false]
    exact ⟨t, List.mem_of_getElem? hk, by rw [hd, hr]; simp⟩
end Go.Proofs.YtmbdacfgmiielaaGreat
