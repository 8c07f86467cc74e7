/-
  Plain facts: a right serial order leaves no bad read.
-/
import Derived.Test.YtdgfipoibnjhaaaDoorSer
import Derived.Test.YtdgfipoibnjhaaaDoorRRdW
namespace Go.Proofs.YtdgfipoibnjhaaaDoor
set_option linter.unusedSimpArgs false
set_option linter.unusedVariables false
set_option maxRecDepth 100000
open Go.RowKit

theorem stepS_some {f g : Nat → Int} {o : T3} (h : stepS f o = some g) : (o.a = 2 ∧ g = updS f o.b.toNat o.c) ∨ (o.a ≠ 2 ∧ g = f ∧ f o.b.toNat = o.c) := by
  unfold stepS at h
  split at h
  · rename_i ha
    exact .inl ⟨ha, (Option.some.inj h).symm⟩
  · rename_i ha
    split at h
    · rename_i hc
      exact .inr ⟨ha, (Option.some.inj h).symm, hc⟩
    · cases h
/-- the store within a transaction -/
theorem runO_at {f : Nat → Int} {ops : List T3} (hop : ∀ o ∈ ops, opv o = true) : ∀ (j : Nat) (g : Nat → Int), j ≤ ops.length → runO f (ops.take j) = some g → ∀ i : Nat, i < 3 →
    g i = (lastO ops i j).getD (f i) ∧ g i = ((lastW ops i j).map T3.c).getD (f i)
  | 0, g, _, h, i, _ => by
    simp only [List.take_zero, runO, List.foldl_nil, Option.some.injEq] at h
    subst h
    exact ⟨rfl, rfl⟩
  | j + 1, g, hj, h, i, hi => by
    have hjl : j < ops.length := by omega
    obtain ⟨o, ho⟩ : ∃ o, ops[j]? = some o := ⟨ops[j], List.getElem?_eq_getElem hjl⟩
    rw [runO_take ho] at h
    obtain ⟨g0, h0, h1⟩ := Option.bind_eq_some_iff.1 h
    obtain ⟨e1, e2⟩ := runO_at hop j g0 (by omega) h0 i hi
    have hv := opv_parts (hop o (List.mem_of_getElem? ho))
    rw [lastO_succ ho, lastW_succ ho]
    have hbt : (o.b.toNat = i) ↔ o.b = (i : Int) := by omega
    rcases stepS_some h1 with ⟨ha, rfl⟩ | ⟨ha, rfl, hc⟩
    · by_cases hb : o.b = i
      · rw [if_pos hb, if_pos ⟨ha, hb⟩]
        have : updS g0 o.b.toNat o.c i = o.c := by unfold updS; rw [if_pos (hbt.2 hb).symm]
        exact ⟨this, this⟩
      · rw [if_neg hb, if_neg (show ¬ (o.a = 2 ∧ o.b = (i : Int)) from fun e => hb e.2)]
        have : updS g0 o.b.toNat o.c i = g0 i := by unfold updS; rw [if_neg (fun e => hb (hbt.1 e.symm))]
        rw [this]
        exact ⟨e1, e2⟩
    · rw [if_neg (show ¬ (o.a = 2 ∧ o.b = (i : Int)) from fun e => ha e.1)]
      refine ⟨?_, e2⟩
      by_cases hb : o.b = i
      · rw [if_pos hb]
        rw [hbt.2 hb] at hc
        exact hc
      · rw [if_neg hb]
        exact e1
theorem read_at {f : Nat → Int} {ops : List T3} (hop : ∀ o ∈ ops, opv o = true) (hr : (runO f ops).isSome = true) {j : Nat} {o : T3} (ho : ops[j]? = some o) (ha : o.a = 1) :
    (lastO ops o.b j).getD (f o.b.toNat) = o.c ∧ ((lastW ops o.b j).map T3.c).getD (f o.b.toNat) = o.c := by
  have hv := opv_parts (hop o (List.mem_of_getElem? ho))
  have hjl : j < ops.length := (List.getElem?_eq_some_iff.1 ho).1
  obtain ⟨g1, h1⟩ : ∃ g, runO f (ops.take (j + 1)) = some g := by
    cases e : runO f (ops.take (j + 1)) with
    | some g => exact ⟨g, rfl⟩
    | none => rw [runO_stop e] at hr; cases hr
  rw [runO_take ho] at h1
  obtain ⟨g, h0, h2⟩ := Option.bind_eq_some_iff.1 h1
  have e : ((o.b.toNat : Nat) : Int) = o.b := by omega
  have h3 := runO_at hop j g (by omega) h0 o.b.toNat (by omega)
  rw [e] at h3
  rcases stepS_some h2 with ⟨h5, _⟩ | ⟨_, _, hc⟩
  · omega
  · rw [hc] at h3
    exact ⟨h3.1.symm, h3.2.symm⟩
theorem lastW_at {ops : List T3} {key : Int} {n : Nat} {o : T3} (h : lastW ops key n = some o) : ∃ i, i < n ∧ ops[i]? = some o := by
  induction n with
  | zero => cases h
  | succ n ih =>
    unfold lastW at h
    split at h
    · rename_i x hx
      split at h
      · cases h
        exact ⟨n, by omega, hx⟩
      · obtain ⟨i, h1, h2⟩ := ih h
        exact ⟨i, by omega, h2⟩
    · obtain ⟨i, h1, h2⟩ := ih h
      exact ⟨i, by omega, h2⟩
/-- where the values of a store come from -/
def Src (h : List TxnT) (ns : List Int) (f : Nat → Int) : Prop := ∀ i : Nat, i < 3 → f i = 0 ∨ ∃ (m : Nat) (t : TxnT), (m : Int) ∈ ns ∧ h[m]? = some t ∧ t.done = true ∧ lastW t.ops i t.ops.length = some ⟨2, i, f i⟩
theorem src_run {h : List TxnT} (hv : histv h = true) {ns : List Int} (hm : ∀ n ∈ ns, ∃ (m : Nat) (t : TxnT), n = m ∧ h[m]? = some t ∧ t.done = true) : ∀ (k : Nat) (f : Nat → Int), k ≤ ns.length → runH h (ns.take k) = some f → Src h (ns.take k) f
  | 0, f, _, e => by
    simp only [List.take_zero, runH, List.foldl_nil, Option.some.injEq] at e
    subst e
    exact fun i hi => .inl rfl
  | k + 1, f, hk, e => by
    obtain ⟨n, hn⟩ : ∃ n, ns[k]? = some n := ⟨ns[k], List.getElem?_eq_getElem (by omega)⟩
    rw [runH_take hn] at e
    obtain ⟨g, h0, h1⟩ := Option.bind_eq_some_iff.1 e
    obtain ⟨m, t, rfl, ht, hd⟩ := hm n (List.mem_of_getElem? hn)
    have IH := src_run hv hm k g (by omega) h0
    have h2 : runO g t.ops = some f := by
      unfold runT at h1
      rw [Int.toNat_natCast, ht] at h1
      exact h1
    have hop := txnv_opv (histv_txn hv t (List.mem_of_getElem? ht))
    intro i hi
    have h3 := (runO_at hop t.ops.length f (Nat.le_refl _) (by rw [List.take_length]; exact h2) i hi).2
    cases hw : lastW t.ops i t.ops.length with
    | none =>
      rw [hw] at h3
      simp only [Option.map_none, Option.getD_none] at h3
      rw [h3]
      rcases IH i hi with e | ⟨m', t', h5, h6, h7, h8⟩
      · exact .inl e
      · exact .inr ⟨m', t', by rw [List.take_add_one, hn]; exact List.mem_append_left _ h5, h6, h7, h8⟩
    | some o =>
      rw [hw] at h3
      simp only [Option.map_some, Option.getD_some] at h3
      obtain ⟨o1, o2⟩ := lastW_ok hw
      refine .inr ⟨m, t, by rw [List.take_add_one, hn]; simp, ht, hd, ?_⟩
      rw [hw, h3, ← o1, ← o2]
theorem lws_has {ops : List T3} {k : Nat} {o : T3} (h : lastW ops k ops.length = some o) : ∀ n : Nat, k < n → o ∈ lwsTo ops n
  | 0, hk => by omega
  | n + 1, hk => by
    unfold lwsTo
    by_cases e : k = n
    · subst e
      rw [h]
      simp
    · exact List.mem_append_left _ (lws_has h n (by omega))
theorem ser_perm {h : List TxnT} {ns : List Int} (hp : l7v ns (dnT h h.length) = true) : ns.Perm (dnT h h.length) := (l7v_perm (dnT_nodup (h := h) h.length)).1 hp
/-- each committed transaction runs on a store of those before it -/
theorem ser_at {h : List TxnT} {ns : List Int} (hv : histv h = true) (hp : l7v ns (dnT h h.length) = true) (hr : (runH h ns).isSome = true) {k : Nat} {t : TxnT} (ht : h[k]? = some t) (hd : t.done = true) :
    ∃ (f : Nat → Int) (pre : List Int), Src h pre f ∧ (k : Int) ∉ pre ∧ (runO f t.ops).isSome = true := by
  have hpm := ser_perm hp
  have hnd : ns.Nodup := hpm.nodup_iff.2 (dnT_nodup (h := h) h.length)
  have hm : (k : Int) ∈ ns := hpm.mem_iff.2 (dnT_has (List.getElem?_eq_some_iff.1 ht).1 ht hd)
  obtain ⟨i, hi, hn⟩ := List.mem_iff_getElem.1 hm
  have hn := List.getElem?_eq_some_iff.2 ⟨hi, hn⟩
  have hms : ∀ n ∈ ns, ∃ (m : Nat) (t : TxnT), n = m ∧ h[m]? = some t ∧ t.done = true := fun n hn => by
    obtain ⟨j, hj, e⟩ := List.mem_iff_getElem.1 hn
    obtain ⟨m, t, h1, _, h2, h3⟩ := ser_mem hp (List.getElem?_eq_some_iff.2 ⟨hj, e⟩)
    exact ⟨m, t, h1, h2, h3⟩
  obtain ⟨g1, h1⟩ : ∃ g, runH h (ns.take (i + 1)) = some g := by
    cases e : runH h (ns.take (i + 1)) with
    | some g => exact ⟨g, rfl⟩
    | none => rw [runH_stop e] at hr; cases hr
  rw [runH_take hn] at h1
  obtain ⟨f, h0, h2⟩ := Option.bind_eq_some_iff.1 h1
  refine ⟨f, ns.take i, src_run hv hms i f (by omega) h0, fun hmem => ?_, ?_⟩
  · obtain ⟨j, hj, e⟩ := List.mem_iff_getElem.1 hmem
    rw [List.length_take] at hj
    have e2 := List.getElem?_eq_some_iff.2 ⟨by rw [List.length_take]; omega, e⟩
    rw [List.getElem?_take, if_pos (by omega)] at e2
    have := (List.getElem?_inj (List.getElem?_eq_some_iff.1 e2).1 hnd).1 (e2.trans hn.symm)
    omega
  · unfold runT at h2
    rw [Int.toNat_natCast, ht] at h2
    simp only at h2
    rw [h2]
    rfl
/-- where the value of a read comes from -/
theorem read_from {h : List TxnT} (hv : histv h = true) {k : Nat} {t : TxnT} (ht : h[k]? = some t) {f : Nat → Int} {pre : List Int} (hs : Src h pre f) (hr : (runO f t.ops).isSome = true) {j : Nat} {o : T3} (ho : t.ops[j]? = some o) (ha : o.a = 1) :
    (∃ w, lastW t.ops o.b j = some w ∧ w = ⟨2, o.b, o.c⟩) ∨ o.c = 0 ∨ ∃ (m : Nat) (t' : TxnT), (m : Int) ∈ pre ∧ h[m]? = some t' ∧ t'.done = true ∧ lastW t'.ops o.b t'.ops.length = some ⟨2, o.b, o.c⟩ := by
  have hop := txnv_opv (histv_txn hv t (List.mem_of_getElem? ht))
  have hb := opv_parts (hop o (List.mem_of_getElem? ho))
  have h1 := (read_at hop hr ho ha).2
  cases hw : lastW t.ops o.b j with
  | some w =>
    rw [hw] at h1
    simp only [Option.map_some, Option.getD_some] at h1
    obtain ⟨o1, o2⟩ := lastW_ok hw
    refine .inl ⟨w, rfl, ?_⟩
    rw [← h1, ← o1, ← o2]
  | none =>
    rw [hw] at h1
    simp only [Option.map_none, Option.getD_none] at h1
    rcases hs o.b.toNat (by omega) with e | ⟨m, t', h2, h3, h4, h5⟩
    · exact .inr (.inl (by rw [← h1]; exact e))
    · rw [h1, show ((o.b.toNat : Nat) : Int) = o.b by omega] at h5
      exact .inr (.inr ⟨m, t', h2, h3, h4, h5⟩)
theorem ser_oe {h : List TxnT} (hv : histv h = true) {k : Nat} {t : TxnT} (ht : h[k]? = some t) {f : Nat → Int} (hr : (runO f t.ops).isSome = true) : ∀ n, oeT (k : Nat) t.ops n = []
  | 0 => rfl
  | n + 1 => by
    have hop := txnv_opv (histv_txn hv t (List.mem_of_getElem? ht))
    have IH := ser_oe hv ht hr n
    cases ho : t.ops[n]? with
    | none => unfold oeT; rw [ho]; exact IH
    | some o =>
      rw [oeT_miss ho (fun hc => ?_), IH]
      have h1 := (read_at hop hr ho hc.1).1
      have h2 := before_lastO t.ops o.b n
      cases hl : lastO t.ops o.b n with
      | none => rw [hl] at h2; simp only [Option.getD_none] at h2; omega
      | some v =>
        rw [hl] at h1 h2
        simp only [Option.getD_some] at h1 h2
        exact hc.2.2 (h2.trans h1)
theorem ser_k6 {h : List TxnT} (hv : histv h = true) {k : Nat} {t : TxnT} (ht : h[k]? = some t) {f : Nat → Int} {pre : List Int} (hs : Src h pre f) (hr : (runO f t.ops).isSome = true) {j : Nat} {o : T3} (ho : t.ops[j]? = some o) : k6 h (k : Nat) o = 0 := by
  by_cases ha : o.a = 1
  · by_cases hc : o.c = 0
    · exact k6_zero (.inr (.inl hc))
    rcases read_from hv ht hs hr ho ha with ⟨w, hw, rfl⟩ | e | ⟨m, t', _, h3, h4, h5⟩
    · exact k6_zero (.inr (.inr (wrN_of hv ht (lastW_memW hw))))
    · exact absurd e hc
    · have hw := wrN_of hv h3 (lastW_memW h5)
      by_cases e : m = k
      · subst e
        exact k6_zero (.inr (.inr hw))
      · have hop := txnv_opv (histv_txn hv t (List.mem_of_getElem? ht))
        have hb := opv_parts (hop o (List.mem_of_getElem? ho))
        rw [k6_some (by rw [hw]; omega) hw h3, if_neg (by rw [h4]; simp), if_neg]
        unfold lastv
        rw [hw, Int.toNat_natCast, h3]
        have h6 : (⟨2, o.b, o.c⟩ : T3) ∈ lwsTo t'.ops 3 := lws_has (k := o.b.toNat) (by rw [show ((o.b.toNat : Nat) : Int) = o.b by omega]; exact h5) 3 (by omega)
        simp [h6]
  · exact k6_zero (.inl ha)
theorem ser_br {h : List TxnT} (hv : histv h = true) {k : Nat} {t : TxnT} (ht : h[k]? = some t) {f : Nat → Int} {pre : List Int} (hs : Src h pre f) (hr : (runO f t.ops).isSome = true) {kind : Int} (hk : kind ≠ 0) : ∀ j, brT h kind k t.ops j = []
  | 0 => rfl
  | j + 1 => by
    have IH := ser_br hv ht hs hr hk j
    cases ho : t.ops[j]? with
    | none => unfold brT; rw [ho]; exact IH
    | some o => rw [brT_miss ho (by rw [ser_k6 hv ht hs hr ho]; omega), IH]
theorem ser_bd {h : List TxnT} {ns : List Int} (hv : histv h = true) (hp : l7v ns (dnT h h.length) = true) (hr : (runH h ns).isSome = true) {kind : Int} (hk : kind ≠ 0) : ∀ k, bdH h kind k = []
  | 0 => rfl
  | k + 1 => by
    have IH := ser_bd hv hp hr hk k
    cases ht : h[k]? with
    | none => unfold bdH; rw [ht]; exact IH
    | some t =>
      rw [bdH_succ ht]
      split
      · rename_i hd
        obtain ⟨f, pre, h1, _, h3⟩ := ser_at hv hp hr ht hd
        rw [IH]
        unfold bdT
        split
        · rw [ser_oe hv ht h3]; rfl
        · rw [ser_br hv ht h1 h3 hk]; rfl
      · exact IH
theorem ser_early {h : List TxnT} {ns : List Int} (hv : histv h = true) (hp : l7v ns (dnT h h.length) = true) (hr : (runH h ns).isSome = true) {k : Nat} {t : TxnT} (ht : h[k]? = some t) (hd : t.done = true) : earlyB t.ops = false := by
  rw [← Bool.not_eq_true]
  intro he
  obtain ⟨i, j, o, hij, hi, ha, hj⟩ := (earlyB_iff _).1 he
  obtain ⟨f, pre, hs, hne, h3⟩ := ser_at hv hp hr ht hd
  have htm := List.mem_of_getElem? ht
  have hop := txnv_opv (histv_txn hv t htm)
  have hpos := (opv_val (hop _ (List.mem_of_getElem? hj))).2.2 rfl
  simp only at hpos
  rcases read_from hv ht hs h3 hi ha with ⟨w, hw, rfl⟩ | e | ⟨m, t', hm, h5, _, h6⟩
  · obtain ⟨q, hq, hqi⟩ := lastW_at hw
    have := ops_once hv htm (x := ⟨2, o.b, o.c⟩) rfl hqi hj
    omega
  · omega
  · have h7 := wrN_of hv h5 (lastW_memW h6)
    have h8 := wrN_of hv ht (List.mem_of_getElem? hj)
    rw [h7] at h8
    have : m = k := by omega
    subst this
    exact hne hm
theorem ser_rr {h : List TxnT} {ns : List Int} (hv : histv h = true) (hp : l7v ns (dnT h h.length) = true) (hr : (runH h ns).isSome = true) : rrI h = true := by
  have hb : noBad h = true := noBad_of (fun q h1 h2 => by
    have := ser_bd hv hp hr (kind := q) (by omega) h.length
    unfold bads
    split
    · exact this
    · rfl)
  unfold rrI
  rw [hv, hb]
  simp only [Bool.true_and, List.all_eq_true]
  intro t ht
  obtain ⟨k, hk, e⟩ := List.mem_iff_getElem.1 ht
  have e := List.getElem?_eq_some_iff.2 ⟨hk, e⟩
  cases hd : t.done with
  | false => rfl
  | true => rw [ser_early hv hp hr e hd]; rfl
end Go.Proofs.YtdgfipoibnjhaaaDoor
