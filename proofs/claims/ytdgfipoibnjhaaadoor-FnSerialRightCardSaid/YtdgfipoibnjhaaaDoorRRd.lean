/-
  Right reads: plain facts.
-/
import Derived.Test.YtdgfipoibnjhaaaDoorBadD
import Derived.Test.YtdgfipoibnjhaaaDoorGWrF12
namespace Go.Proofs.YtdgfipoibnjhaaaDoor
set_option linter.unusedSimpArgs false
set_option linter.unusedVariables false
set_option maxRecDepth 100000
open Go.RowKit

/-- whether a later operation writes the value that an operation reads -/
def earlyB : List T3 → Bool
  | [] => false
  | o :: r => (decide (o.a = 1) && r.any fun x => decide (x = (⟨2, o.b, o.c⟩ : T3))) || earlyB r
/-- whether a first read has a value that its own transaction writes -/
def rdB (h : List TxnT) (k : Int) (l : List T3) : Bool := l.any fun o => decide (0 < o.c) && decide (wrN h o.b o.c = k)
def noBad (h : List TxnT) : Bool := decide (bads h 1 = [] ∧ bads h 2 = [] ∧ bads h 3 = [] ∧ bads h 4 = [])
/-- whether a history's reads are right -/
def rrI (h : List TxnT) : Bool := histv h && (noBad h && h.all fun t => !(t.done && earlyB t.ops))
def earlyAt (l : List T3) : Prop := ∃ (i j : Nat) (o : T3), i < j ∧ l[i]? = some o ∧ o.a = 1 ∧ l[j]? = some ⟨2, o.b, o.c⟩
theorem earlyB_iff (l : List T3) : earlyB l = true ↔ earlyAt l := by
  induction l with
  | nil =>
    constructor
    · intro h; cases h
    · rintro ⟨i, j, o, _, h, _⟩; simp at h
  | cons a r ih =>
    unfold earlyB
    rw [Bool.or_eq_true, Bool.and_eq_true, decide_eq_true_eq, List.any_eq_true, ih]
    constructor
    · rintro (⟨h1, x, hx, he⟩ | ⟨i, j, o, hij, h1, h2, h3⟩)
      · obtain ⟨j, hj⟩ := List.getElem?_of_mem hx
        exact ⟨0, j + 1, a, by omega, rfl, h1, by rw [List.getElem?_cons_succ, hj]; simpa using he⟩
      · exact ⟨i + 1, j + 1, o, by omega, by simpa using h1, h2, by simpa using h3⟩
    · rintro ⟨i, j, o, hij, h1, h2, h3⟩
      obtain ⟨j, rfl⟩ : ∃ j', j = j' + 1 := ⟨j - 1, by omega⟩
      rw [List.getElem?_cons_succ] at h3
      cases i with
      | zero =>
        cases h1
        exact .inl ⟨h2, _, List.mem_of_getElem? h3, by simp⟩
      | succ i =>
        rw [List.getElem?_cons_succ] at h1
        exact .inr ⟨i, j, o, by omega, h1, h2, h3⟩
theorem earlyB_none {l : List T3} {k : Nat} {o : T3} (h : l[k]? = some o) : earlyB (l.drop k) = ((decide (o.a = 1) && (l.drop (k + 1)).any fun x => decide (x = (⟨2, o.b, o.c⟩ : T3))) || earlyB (l.drop (k + 1))) := by
  have hk : k < l.length := (List.getElem?_eq_some_iff.1 h).1
  have he : l[k] = o := (List.getElem?_eq_some_iff.1 h).2
  rw [List.drop_eq_getElem_cons hk, he]
  rfl
theorem before_last {ops : List T3} (key : Int) (n : Nat) : (before ops key n = -1 ∧ ∀ (i : Nat) o, i < n → ops[i]? = some o → o.b ≠ key) ∨ ∃ (i : Nat) (o : T3), i < n ∧ ops[i]? = some o ∧ o.b = key ∧ before ops key n = o.c := by
  induction n with
  | zero => exact .inl ⟨rfl, fun i o hi => by omega⟩
  | succ n ih =>
    cases ho : ops[n]? with
    | none =>
      have e : before ops key (n + 1) = before ops key n := by
        conv => lhs; unfold before
        rw [ho]
      rw [e]
      rcases ih with ⟨h1, h2⟩ | ⟨i, o, h1, h2, h3, h4⟩
      · refine .inl ⟨h1, fun i o hi hio => ?_⟩
        rcases Nat.lt_or_ge i n with h | h
        · exact h2 i o h hio
        · obtain rfl : i = n := by omega
          rw [ho] at hio
          cases hio
      · exact .inr ⟨i, o, by omega, h2, h3, h4⟩
    | some o =>
      have e : before ops key (n + 1) = if o.b = key then o.c else before ops key n := by
        conv => lhs; unfold before
        rw [ho]
      rw [e]
      by_cases hk : o.b = key
      · rw [if_pos hk]
        exact .inr ⟨n, o, by omega, ho, hk, rfl⟩
      · rw [if_neg hk]
        rcases ih with ⟨h1, h2⟩ | ⟨i, o', h1, h2, h3, h4⟩
        · refine .inl ⟨h1, fun i o' hi hio => ?_⟩
          rcases Nat.lt_or_ge i n with h | h
          · exact h2 i o' h hio
          · obtain rfl : i = n := by omega
            rw [ho] at hio
            cases hio
            exact hk
        · exact .inr ⟨i, o', by omega, h2, h3, h4⟩
theorem frs_mem {ops : List T3} {o : T3} (n : Nat) : o ∈ frs ops n ↔ ∃ i, i < n ∧ ops[i]? = some o ∧ o.a = 1 ∧ before ops o.b i < 0 := by
  induction n with
  | zero =>
    constructor
    · intro h; cases h
    · rintro ⟨i, h, _⟩; omega
  | succ n ih =>
    cases ho : ops[n]? with
    | none =>
      have e : frs ops (n + 1) = frs ops n := by
        conv => lhs; unfold frs
        rw [ho]
      rw [e, ih]
      constructor
      · rintro ⟨i, h1, h2⟩; exact ⟨i, by omega, h2⟩
      · rintro ⟨i, h1, h2, h3⟩
        rcases Nat.lt_or_ge i n with h | h
        · exact ⟨i, h, h2, h3⟩
        · obtain rfl : i = n := by omega
          rw [ho] at h2
          cases h2
    | some u =>
      by_cases hc : u.a = 1 ∧ before ops u.b n < 0
      · rw [frs_hit ho hc, List.mem_append, ih]
        constructor
        · rintro (⟨i, h1, h2⟩ | h)
          · exact ⟨i, by omega, h2⟩
          · simp at h
            subst h
            exact ⟨n, by omega, ho, hc⟩
        · rintro ⟨i, h1, h2, h3⟩
          rcases Nat.lt_or_ge i n with h | h
          · exact .inl ⟨i, h, h2, h3⟩
          · obtain rfl : i = n := by omega
            rw [ho] at h2
            cases h2
            exact .inr (by simp)
      · rw [frs_miss ho hc, ih]
        constructor
        · rintro ⟨i, h1, h2⟩; exact ⟨i, by omega, h2⟩
        · rintro ⟨i, h1, h2, h3⟩
          rcases Nat.lt_or_ge i n with h | h
          · exact ⟨i, h, h2, h3⟩
          · obtain rfl : i = n := by omega
            rw [ho] at h2
            cases h2
            exact absurd h3 hc
theorem oeT_nil {who : Int} {ops : List T3} {n : Nat} (h : oeT who ops n = []) {i : Nat} {o : T3} (hi : i < n) (ho : ops[i]? = some o) (ha : o.a = 1) (hb : 0 ≤ before ops o.b i) : before ops o.b i = o.c := by
  induction n with
  | zero => omega
  | succ n ih =>
    rcases Nat.lt_or_ge i n with hlt | hge
    · refine ih ?_ hlt
      unfold oeT at h
      split at h
      · split at h
        · exact absurd h (by simp)
        · exact h
      · exact h
    · obtain rfl : i = n := by omega
      by_cases he : before ops o.b i = o.c
      · exact he
      · rw [oeT_hit ho ⟨ha, hb, he⟩] at h
        exact absurd h (by simp)
theorem opv_val {o : T3} (h : opv o = true) : 0 ≤ o.c ∧ (o.a = 1 ∨ o.a = 2) ∧ (o.a = 2 → 0 < o.c) := by
  obtain ⟨a, b, c⟩ := o
  simp only [opv, inB, Bool.and_eq_true, Bool.or_eq_true, decide_eq_true_eq, Bool.not_eq_true', Bool.and_eq_false_iff, decide_eq_false_iff_not, beq_iff_eq, beq_eq_false_iff_ne] at h
  simp only
  omega
theorem first_of {h : List TxnT} (hv : histv h = true) {t : TxnT} (ht : t ∈ h) (hop : ∀ o ∈ t.ops, opv o = true) {w : Int} (hn : oeT w t.ops t.ops.length = []) {j : Nat} {key val : Int} (hj : t.ops[j]? = some ⟨2, key, val⟩) : ∀ (i : Nat) (o : T3), i < j → t.ops[i]? = some o → o.a = 1 → o.b = key → o.c = val → ∃ i', i' < t.ops.length ∧ t.ops[i']? = some ⟨1, key, val⟩ ∧ before t.ops key i' < 0 := by
  intro i
  induction i using Nat.strongRecOn with
  | ind i ih =>
    intro o hij ho ha hb hc
    have hl : i < t.ops.length := (List.getElem?_eq_some_iff.1 ho).1
    have he : o = ⟨1, key, val⟩ := by
      obtain ⟨a, b, c⟩ := o
      simp only at ha hb hc
      subst ha hb hc
      rfl
    rcases before_last (ops := t.ops) key i with ⟨h1, h2⟩ | ⟨i2, o2, h1, h2, h3, h4⟩
    · exact ⟨i, hl, by rw [ho, he], by rw [h1]; decide⟩
    · have ho2 := opv_val (hop o2 (List.mem_of_getElem? h2))
      have h5 := oeT_nil hn hl ho ha (by rw [hb, h4]; exact ho2.1)
      rw [hb, h4] at h5
      rcases ho2.2.1 with h6 | h6
      · exact ih i2 h1 o2 (by omega) h2 h6 h3 (by omega)
      · exfalso
        have e2 : o2 = ⟨2, key, val⟩ := by
          obtain ⟨a, b, c⟩ := o2
          simp only at h6 h3 h5
          subst h6 h3
          rw [h5, hc]
        rw [e2] at h2
        have := ops_once hv ht rfl h2 hj
        omega
theorem early_rd {h : List TxnT} (hv : histv h = true) {k : Nat} {t : TxnT} (hk : h[k]? = some t) (ho : oeT k t.ops t.ops.length = []) : rdB h k (frs t.ops t.ops.length) = earlyB t.ops := by
  have ht := List.mem_of_getElem? hk
  have hop := txnv_ops (histv_txn hv t ht)
  rw [Bool.eq_iff_iff, earlyB_iff]
  unfold rdB
  rw [List.any_eq_true]
  constructor
  · rintro ⟨o, hm, hc⟩
    simp only [Bool.and_eq_true, decide_eq_true_eq] at hc
    obtain ⟨i, h1, h2, h3, h4⟩ := (frs_mem _).1 hm
    obtain ⟨k', t', e1, e2, e3⟩ := wrN_mem (h := h) (key := o.b) (val := o.c) (by omega)
    have : k' = k := by omega
    subst this
    rw [hk] at e2
    cases e2
    obtain ⟨j, hj⟩ := List.getElem?_of_mem e3
    refine ⟨i, j, o, ?_, h2, h3, hj⟩
    rcases Nat.lt_trichotomy i j with hlt | heq | hlt
    · exact hlt
    · subst heq
      have h9 := congrArg T3.a (Option.some.inj (h2.symm.trans hj))
      simp only at h9
      omega
    · exfalso
      rcases before_last (ops := t.ops) o.b i with ⟨_, g2⟩ | ⟨i2, o2, _, g2, _, g4⟩
      · exact g2 j _ hlt hj rfl
      · have := (opv_val (hop o2 (List.mem_of_getElem? g2))).1
        omega
  · rintro ⟨i, j, o, hij, h1, h2, h3⟩
    obtain ⟨i', g1, g2, g3⟩ := first_of hv ht hop ho h3 i o hij h1 h2 rfl rfl
    refine ⟨⟨1, o.b, o.c⟩, (frs_mem _).2 ⟨i', g1, g2, rfl, g3⟩, ?_⟩
    simp only [Bool.and_eq_true, decide_eq_true_eq]
    exact ⟨(opv_val (hop _ (List.mem_of_getElem? h3))).2.2 rfl, wrN_of hv hk (List.mem_of_getElem? h3)⟩
theorem dnT_has {h : List TxnT} {k m : Nat} {t : TxnT} (hm : m < k) (ht : h[m]? = some t) (hd : t.done = true) : (m : Int) ∈ dnT h k := by
  induction k with
  | zero => omega
  | succ k ih =>
    unfold dnT
    rcases Nat.lt_or_ge m k with hlt | hge
    · have := ih hlt
      split
      · split
        · exact List.mem_append_left _ this
        · exact this
      · exact this
    · obtain rfl : m = k := by omega
      rw [ht]
      simp [hd]
/-- whether the transaction of a number is early -/
def earlyN (h : List TxnT) (n : Int) : Bool := match h[n.toNat]? with | some t => earlyB t.ops | none => false
theorem rrI_done {h : List TxnT} (hv : histv h = true) (hb : noBad h = true) : rrI h = (dnT h h.length).all fun n => !earlyN h n := by
  unfold rrI
  rw [hv, hb, Bool.true_and, Bool.true_and, Bool.eq_iff_iff, List.all_eq_true, List.all_eq_true]
  constructor
  · intro h1 n hn
    obtain ⟨m, t, rfl, hm, ht, hd⟩ := dnT_mem hn
    have h2 := h1 t (List.mem_of_getElem? ht)
    unfold earlyN
    rw [Int.toNat_natCast, ht]
    simpa [hd] using h2
  · intro h1 t ht
    obtain ⟨m, hm⟩ := List.getElem?_of_mem ht
    cases hd : t.done with
    | false => rfl
    | true =>
      have h2 := h1 m (dnT_has (List.getElem?_eq_some_iff.1 hm).1 hm hd)
      unfold earlyN at h2
      rw [Int.toNat_natCast, hm] at h2
      simpa using h2
theorem rrI_bad {h : List TxnT} (hb : noBad h = false) : rrI h = false := by
  unfold rrI; rw [hb]; simp
theorem noBad_of {h : List TxnT} (hb : ∀ q : Int, 1 ≤ q → q < 5 → bads h q = []) : noBad h = true := by
  unfold noBad
  rw [decide_eq_true_eq]
  exact ⟨hb 1 (by omega) (by omega), hb 2 (by omega) (by omega), hb 3 (by omega) (by omega), hb 4 (by omega) (by omega)⟩
theorem noBad_not {h : List TxnT} {q : Int} (h1 : 1 ≤ q) (h2 : q < 5) (hb : bads h q ≠ []) : noBad h = false := by
  unfold noBad
  rw [decide_eq_false_iff_not]
  rintro ⟨a, b, c, d⟩
  have : q = 1 ∨ q = 2 ∨ q = 3 ∨ q = 4 := by omega
  rcases this with rfl | rfl | rfl | rfl
  · exact hb a
  · exact hb b
  · exact hb c
  · exact hb d
/-- what FirstReads returns -/
def frL (t : TxnT) : List T3 := if txnv t = true then frs t.ops t.ops.length else []
theorem bdH_nil {h : List TxnT} {kind : Int} {n : Nat} (hb : bdH h kind n = []) {k : Nat} {t : TxnT} (hk : k < n) (ht : h[k]? = some t) (hd : t.done = true) : bdT h kind k t.ops = [] := by
  induction n with
  | zero => omega
  | succ n ih =>
    cases hn : h[n]? with
    | none =>
      have e2 : bdH h kind (n + 1) = bdH h kind n := by
        conv => lhs; unfold bdH
        rw [hn]
      rw [e2] at hb
      refine ih hb ?_
      rcases Nat.lt_or_ge k n with h1 | h1
      · exact h1
      · obtain rfl : k = n := by omega
        rw [ht] at hn
        cases hn
    | some t' =>
      rw [bdH_succ hn] at hb
      rcases Nat.lt_or_ge k n with h1 | h1
      · split at hb
        · exact ih (List.append_eq_nil_iff.1 hb).1 h1
        · exact ih hb h1
      · obtain rfl : k = n := by omega
        rw [ht] at hn
        cases hn
        rw [if_pos hd] at hb
        exact (List.append_eq_nil_iff.1 hb).2
theorem rd_early {h : List TxnT} (hv : histv h = true) (hb : noBad h = true) {k : Nat} {t : TxnT} (hk : h[k]? = some t) (hd : t.done = true) : rdB h k (frL t) = earlyB t.ops := by
  have htv := histv_txn hv t (List.mem_of_getElem? hk)
  unfold frL
  rw [if_pos htv]
  refine early_rd hv hk ?_
  unfold noBad at hb
  rw [decide_eq_true_eq] at hb
  have h4 := hb.2.2.2
  unfold bads at h4
  rw [if_pos ⟨hv, by decide⟩] at h4
  exact bdH_nil h4 (List.getElem?_eq_some_iff.1 hk).1 hk hd
theorem rr_spec {h : List TxnT} (hv : histv h = true) (hb : noBad h = true) (ha : ∀ k t, h[k]? = some t → (t.done && rdB h (k : Nat) (frL t)) = false) : rrI h = true := by
  unfold rrI
  rw [hv, hb, Bool.true_and, Bool.true_and, List.all_eq_true]
  intro t ht
  obtain ⟨k, hk⟩ := List.getElem?_of_mem ht
  have := ha k t hk
  cases hd : t.done with
  | false => rfl
  | true =>
    rw [hd, Bool.true_and, rd_early hv hb hk hd] at this
    simp [this]
theorem rr_spec_not {h : List TxnT} (hb : noBad h = true) {k : Nat} {t : TxnT} (hk : h[k]? = some t) (hd : t.done = true) (hr : rdB h k (frL t) = true) : rrI h = false := by
  cases hv : histv h with
  | false => unfold rrI; rw [hv]; rfl
  | true =>
    rw [rd_early hv hb hk hd] at hr
    unfold rrI
    rw [hv, hb, Bool.true_and, Bool.true_and, List.all_eq_false]
    exact ⟨t, List.mem_of_getElem? hk, by rw [hd, hr]; simp⟩
end Go.Proofs.YtdgfipoibnjhaaaDoor
