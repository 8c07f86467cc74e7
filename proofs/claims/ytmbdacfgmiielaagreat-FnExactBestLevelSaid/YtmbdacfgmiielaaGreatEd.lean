/-
  Plain facts: the edges of a history with orders, before they are sorted; sorted ones of the same members are the same.
-/
import Derived.Test.YtmbdacfgmiielaaGreatOrdV
import Derived.Test.YtmbdacfgmiielaaGreatSes
namespace Go.Proofs.YtmbdacfgmiielaaGreat
set_option linter.unusedSimpArgs false
set_option linter.unusedVariables false
set_option maxRecDepth 100000

/-- whether a number is that of a committed transaction -/
def dnB (h : List TxnT) (x : Int) : Bool := decide (0 ≤ x) && (match h[x.toNat]? with | some t => t.done | none => false)
theorem dnB_some {h : List TxnT} {k : Nat} {t : TxnT} (hk : h[k]? = some t) : dnB h (k : Int) = t.done := by simp [dnB, hk]
theorem dnB_neg {h : List TxnT} {x : Int} (hx : x < 0) : dnB h x = false := by simp [dnB]; omega
theorem dnB_at {h : List TxnT} {x : Int} (hx : dnB h x = true) : ∃ (k : Nat) (t : TxnT), x = k ∧ h[k]? = some t ∧ t.done = true := by
  simp only [dnB, Bool.and_eq_true, decide_eq_true_eq] at hx
  obtain ⟨h0, h1⟩ := hx
  cases e : h[x.toNat]? with
  | none => rw [e] at h1; cases h1
  | some t =>
    rw [e] at h1
    exact ⟨x.toNat, t, by omega, e, h1⟩
def putV (h : List TxnT) (f t k : Int) : List T3 := if dnB h f = true ∧ dnB h t = true ∧ f ≠ t then [⟨f, t, k⟩] else []
theorem putV_len (h : List TxnT) (f t k : Int) : (putV h f t k).length ≤ 1 := by unfold putV; split <;> simp
theorem putV_mem {h : List TxnT} {f t k : Int} {e : T3} (he : e ∈ putV h f t k) : e = ⟨f, t, k⟩ ∧ dnB h f = true ∧ dnB h t = true ∧ f ≠ t := by
  unfold putV at he
  split at he
  · rename_i hc
    exact ⟨by simpa using he, hc⟩
  · cases he
/-- the edges between the writers of neighbours in an order, up to a place -/
def wes (h : List TxnT) (key : Int) (o : List Int) : Nat → List T3
  | 0 => []
  | n + 1 => wes h key o n ++ (match o[n]?, o[n + 1]? with | some x, some y => putV h (wrN h key x) (wrN h key y) 1 | _, _ => [])
theorem wes_succ {h : List TxnT} {key : Int} {o : List Int} {n : Nat} {x y : Int} (hx : o[n]? = some x) (hy : o[n + 1]? = some y) : wes h key o (n + 1) = wes h key o n ++ putV h (wrN h key x) (wrN h key y) 1 := by
  conv => lhs; unfold wes
  rw [hx, hy]
def wesR (h : List TxnT) (R : List (List Int)) : Nat → List T3
  | 0 => []
  | k + 1 => wesR h R k ++ (match R[k]? with | some o => wes h k o (o.length - 1) | none => [])
theorem wesR_succ {h : List TxnT} {R : List (List Int)} {k : Nat} {o : List Int} (ho : R[k]? = some o) : wesR h R (k + 1) = wesR h R k ++ wes h k o (o.length - 1) := by
  conv => lhs; unfold wesR
  rw [ho]
/-- the value behind a value in an order; the first one behind 0 -/
def nxtV (o : List Int) (v : Int) : Option Int := if v = 0 then o[0]? else match o.idxOf? v with | some i => o[i + 1]? | none => none
theorem nxtV_mem {o : List Int} {v x : Int} (h : nxtV o v = some x) : x ∈ o := by
  unfold nxtV at h
  split at h
  · exact List.mem_of_getElem? h
  · split at h
    · exact List.mem_of_getElem? h
    · cases h
/-- the edge to the writer of the value behind -/
def overV (h : List TxnT) (n key : Int) : Option Int → List T3
  | some v => putV h n (wrN h key v) 3
  | none => []
def rde (h : List TxnT) (R : List (List Int)) (n : Int) (o : T3) : List T3 := putV h (wrN h o.b o.c) n 2 ++ overV h n o.b (nxtV (R.getD o.b.toNat []) o.c)
theorem rde_len (h : List TxnT) (R : List (List Int)) (n : Int) (o : T3) : (rde h R n o).length ≤ 2 := by
  unfold rde
  rw [List.length_append]
  have h1 := putV_len h (wrN h o.b o.c) n 2
  cases nxtV (R.getD o.b.toNat []) o.c with
  | some v =>
    have h2 := putV_len h n (wrN h o.b v) 3
    simp only [overV]
    omega
  | none => simp only [overV, List.length_nil]; omega
def rdes (h : List TxnT) (R : List (List Int)) (n : Int) (rs : List T3) : List T3 := rs.flatMap (rde h R n)
theorem rdes_take {h : List TxnT} {R : List (List Int)} {n : Int} {rs : List T3} {j : Nat} {o : T3} (ho : rs[j]? = some o) : rdes h R n (rs.take (j + 1)) = rdes h R n (rs.take j) ++ rde h R n o := by
  rw [List.take_add_one, ho]
  simp [rdes]
theorem rdes_len (h : List TxnT) (R : List (List Int)) (n : Int) (rs : List T3) : (rdes h R n rs).length ≤ 2 * rs.length := by
  induction rs with
  | nil => simp [rdes]
  | cons o rs ih =>
    have h1 := rde_len h R n o
    simp only [rdes, List.flatMap_cons, List.length_append, List.length_cons] at ih ⊢
    omega
def rdesD (h : List TxnT) (R : List (List Int)) (ns : List Int) : List T3 := ns.flatMap fun n => match h[n.toNat]? with | some t => rdes h R n (frs t.ops t.ops.length) | none => []
theorem rdesD_snoc {h : List TxnT} {R : List (List Int)} {ns : List Int} {k : Nat} {t : TxnT} (hk : h[k]? = some t) : rdesD h R (ns ++ [(k : Int)]) = rdesD h R ns ++ rdes h R k (frs t.ops t.ops.length) := by
  unfold rdesD
  rw [List.flatMap_append]
  simp [hk]
theorem rdesD_take {h : List TxnT} {R : List (List Int)} {ns : List Int} {k n : Nat} {t : TxnT} (hn : ns[k]? = some (n : Int)) (hk : h[n]? = some t) : rdesD h R (ns.take (k + 1)) = rdesD h R (ns.take k) ++ rdes h R n (frs t.ops t.ops.length) := by
  rw [List.take_add_one, hn]
  exact rdesD_snoc hk
theorem ops_le {h : List TxnT} (hv : histv h = true) {k : Nat} {t : TxnT} (hk : h[k]? = some t) : t.ops.length ≤ 6 := by
  have h1 := histv_txn hv t (List.mem_of_getElem? hk)
  simp only [txnv, Bool.and_eq_true, decide_eq_true_eq] at h1
  exact h1.2.2
theorem frs_le {h : List TxnT} (hv : histv h = true) {k : Nat} {t : TxnT} (hk : h[k]? = some t) : (frs t.ops t.ops.length).length ≤ 6 := Nat.le_trans (frs_len _ _) (ops_le hv hk)
theorem rdesD_len {h : List TxnT} (hv : histv h = true) (R : List (List Int)) (ns : List Int) : (rdesD h R ns).length ≤ 12 * ns.length := by
  induction ns with
  | nil => simp [rdesD]
  | cons n ns ih =>
    simp only [rdesD, List.flatMap_cons, List.length_append, List.length_cons] at ih ⊢
    split
    · rename_i t ht
      have h1 := rdes_len h R n (frs t.ops t.ops.length)
      have h2 := frs_le hv ht
      omega
    · simp only [List.length_nil]; omega
/-- the edges of a history with orders, in the order in which they are found -/
def rawE (h : List TxnT) (R : List (List Int)) : List T3 := wesR h R 3 ++ rdesD h R (dnT h h.length)

/-- what valid orders say -/
structure Ord3 (h : List TxnT) (R : List (List Int)) : Prop where
  hist : histv h = true
  len : R.length = 3
  perm : ∀ (k : Nat) o, R[k]? = some o → o.Perm (inT h k h.length)
theorem ord3 {h : List TxnT} {R : List (List Int)} (hv : ordV h R = true) : Ord3 h R := by
  simp only [ordV, Bool.and_eq_true, decide_eq_true_eq, List.all_eq_true, List.mem_range] at hv
  obtain ⟨⟨h1, h2⟩, h3⟩ := hv
  refine ⟨h1, h2, fun k o ho => ?_⟩
  have hk : k < 3 := by rw [← h2]; exact (List.getElem?_eq_some_iff.1 ho).1
  have h4 := h3 k hk
  rw [List.getD_eq_getElem?_getD, ho, Option.getD_some] at h4
  have h5 := (l7v_perm (instd_nodup h k)).1 h4
  have e : instd h (k : Int) = inT h k h.length := by
    unfold instd
    rw [if_pos ⟨h1, by rw [inB_iff]; omega⟩]
  rwa [e] at h5
theorem Ord3.row_le {h : List TxnT} {R : List (List Int)} (H : Ord3 h R) {k : Nat} {o : List Int} (ho : R[k]? = some o) : o.length ≤ 18 := by
  have h1 := (H.perm k o ho).length_eq
  have h2 := inT_len h k h.length
  have h3 := histv_len H.hist
  omega
theorem Ord3.nodup {h : List TxnT} {R : List (List Int)} (H : Ord3 h R) {k : Nat} {o : List Int} (ho : R[k]? = some o) : o.Nodup := (H.perm k o ho).nodup_iff.2 (inT_nodup H.hist _)
theorem Ord3.at_ {h : List TxnT} {R : List (List Int)} (H : Ord3 h R) {k : Nat} {o : List Int} (ho : R[k]? = some o) {x : Int} (hx : x ∈ o) : ∃ m t, InstAt h k x h.length m t := by
  obtain ⟨i, hi⟩ := List.mem_iff_getElem?.1 ((H.perm k o ho).mem_iff.1 hx)
  exact (inT_at H.hist h.length).1 i x hi
theorem InstAt.done {h : List TxnT} {key v : Int} {n k : Nat} {t : TxnT} (a : InstAt h key v n k t) : dnB h (wrN h key v) = true := by
  rw [a.2.1, dnB_some a.2.2.1]
  exact a.2.2.2.1
theorem kvs_has {key : Int} {l : List T3} {v : Int} (h : (⟨2, key, v⟩ : T3) ∈ l) : v ∈ kvs key l := by
  induction l with
  | nil => cases h
  | cons o l ih =>
    simp only [kvs]
    rcases List.mem_cons.1 h with e | e
    · subst e
      simp
    · have := ih e
      split
      · exact List.mem_cons_of_mem _ this
      · exact this
theorem InstAt.one {h : List TxnT} {key u v : Int} {n k k' : Nat} {t t' : TxnT} (a : InstAt h key u n k t) (b : InstAt h key v n k' t') (he : wrN h key u = wrN h key v) : u = v := by
  obtain ⟨_, a1, a2, _, a3⟩ := a
  obtain ⟨_, b1, b2, _, b3⟩ := b
  have e : k = k' := by rw [a1, b1] at he; omega
  subst e
  rw [a2] at b2
  cases b2
  have m1 := kvs_has a3
  have m2 := kvs_has b3
  rcases kvs_lws t.ops key 3 with e | ⟨w, e, _⟩
  · rw [e] at m1; cases m1
  · rw [e] at m1 m2
    simp only [List.mem_singleton] at m1 m2
    rw [m1, m2]
theorem InstAt.nonneg {h : List TxnT} {key v : Int} {n k : Nat} {t : TxnT} (hv : histv h = true) (a : InstAt h key v n k t) : 0 ≤ v := by
  have h1 := txnv_ops (histv_txn hv t (List.mem_of_getElem? a.2.2.1)) _ (lws_ops a.2.2.2.2)
  exact opv_c h1
/-- neighbours in a valid order -/
theorem Ord3.put1 {h : List TxnT} {R : List (List Int)} (H : Ord3 h R) {k : Nat} {o : List Int} (ho : R[k]? = some o) {n : Nat} {x y : Int} (hx : o[n]? = some x) (hy : o[n + 1]? = some y) : putV h (wrN h k x) (wrN h k y) 1 = [⟨wrN h k x, wrN h k y, 1⟩] := by
  obtain ⟨m, t, a⟩ := H.at_ ho (List.mem_of_getElem? hx)
  obtain ⟨m', t', b⟩ := H.at_ ho (List.mem_of_getElem? hy)
  have hne : x ≠ y := by
    intro e
    have h1 := H.nodup ho
    have l1 := (List.getElem?_eq_some_iff.1 hx)
    have l2 := (List.getElem?_eq_some_iff.1 hy)
    obtain ⟨p1, q1⟩ := l1
    obtain ⟨p2, q2⟩ := l2
    have h2 := (List.pairwise_iff_getElem.1 h1) n (n + 1) p1 p2 (by omega)
    rw [q1, q2] at h2
    exact h2 e
  unfold putV
  rw [if_pos ⟨a.done, b.done, fun e => hne (a.one b e)⟩]
theorem Ord3.next {h : List TxnT} {R : List (List Int)} (H : Ord3 h R) {k : Nat} (hk : k < 3) {v x : Int} (hn : nxtV (R.getD k []) v = some x) : dnB h (wrN h k x) = true ∧ 0 ≤ x := by
  have ho : R[k]? = some (R.getD k []) := by
    rw [List.getD_eq_getElem?_getD, List.getElem?_eq_getElem (by rw [H.len]; exact hk), Option.getD_some]
  obtain ⟨m, t, a⟩ := H.at_ ho (nxtV_mem hn)
  exact ⟨a.done, a.nonneg H.hist⟩
theorem wes_len (h : List TxnT) (key : Int) (o : List Int) (n : Nat) : (wes h key o n).length ≤ n := by
  induction n with
  | zero => simp [wes]
  | succ n ih =>
    unfold wes
    rw [List.length_append]
    split
    · rename_i x y _ _
      have := putV_len h (wrN h key x) (wrN h key y) 1
      omega
    · simp only [List.length_nil]; omega
theorem Ord3.wesR_le {h : List TxnT} {R : List (List Int)} (H : Ord3 h R) (k : Nat) : (wesR h R k).length ≤ 18 * k := by
  induction k with
  | zero => simp [wesR]
  | succ k ih =>
    unfold wesR
    rw [List.length_append]
    split
    · rename_i o ho
      have h1 := wes_len h k o (o.length - 1)
      have h2 := H.row_le ho
      omega
    · simp only [List.length_nil]; omega

/-- an edge among at most six transactions -/
def inR (e : T3) : Prop := 0 ≤ e.a ∧ e.a < 6 ∧ 0 ≤ e.b ∧ e.b < 6 ∧ 1 ≤ e.c ∧ e.c < 5
theorem put_inR {h : List TxnT} (hv : histv h = true) {f t k : Int} (hk : 1 ≤ k ∧ k < 5) {e : T3} (he : e ∈ putV h f t k) : inR e := by
  obtain ⟨rfl, h1, h2, _⟩ := putV_mem he
  obtain ⟨m, u, rfl, a1, _⟩ := dnB_at h1
  obtain ⟨m', u', rfl, b1, _⟩ := dnB_at h2
  have l1 := (List.getElem?_eq_some_iff.1 a1).1
  have l2 := (List.getElem?_eq_some_iff.1 b1).1
  have l3 := histv_len hv
  simp only [inR]
  omega
theorem rawE_inR {h : List TxnT} (hv : histv h = true) {R : List (List Int)} {e : T3} (he : e ∈ rawE h R) : inR e := by
  have w1 : ∀ (key : Int) o n, e ∈ wes h key o n → inR e := by
    intro key o n
    induction n with
    | zero => intro h; cases h
    | succ n ih =>
      intro hm
      unfold wes at hm
      rcases List.mem_append.1 hm with hm | hm
      · exact ih hm
      · split at hm
        · exact put_inR hv (by omega) hm
        · cases hm
  have w2 : ∀ k, e ∈ wesR h R k → inR e := by
    intro k
    induction k with
    | zero => intro h; cases h
    | succ k ih =>
      intro hm
      unfold wesR at hm
      rcases List.mem_append.1 hm with hm | hm
      · exact ih hm
      · split at hm
        · exact w1 _ _ _ hm
        · cases hm
  rcases List.mem_append.1 he with he | he
  · exact w2 3 he
  · simp only [rdesD, List.mem_flatMap] at he
    obtain ⟨n, _, he⟩ := he
    split at he
    · simp only [rdes, List.mem_flatMap, rde, List.mem_append] at he
      obtain ⟨o, _, he⟩ := he
      rcases he with he | he
      · exact put_inR hv (by omega) he
      · cases hq : nxtV (R.getD o.b.toNat []) o.c with
        | some v =>
          rw [hq] at he
          exact put_inR hv (by omega) he
        | none =>
          rw [hq] at he
          cases he
    · cases he

/-- the edges below a place, as the reference lists them -/
structure UpE (raw : List T3) (f t k : Int) (L : List T3) : Prop where
  pw : L.Pairwise ltE
  mem : ∀ e, e ∈ L ↔ e ∈ raw ∧ inR e ∧ ltE e ⟨f, t, k⟩
theorem UpE.start (raw : List T3) : UpE raw 0 0 1 [] := ⟨List.Pairwise.nil, fun e => ⟨(fun h => by cases h), fun ⟨_, h1, h2⟩ => by unfold inR at h1; unfold ltE at h2; simp only at h2; omega⟩⟩
theorem UpE.skip {raw L : List T3} {f t k : Int} (h : UpE raw f t k L) (hn : (⟨f, t, k⟩ : T3) ∉ raw) : UpE raw f t (k + 1) L := by
  refine ⟨h.pw, fun e => (h.mem e).trans ⟨fun ⟨a, b, c⟩ => ⟨a, b, by unfold ltE at *; simp only at *; omega⟩, fun ⟨a, b, c⟩ => ⟨a, b, ?_⟩⟩⟩
  by_cases he : e = ⟨f, t, k⟩
  · subst he; exact absurd a hn
  · obtain ⟨x, y, z⟩ := e
    simp only [T3.mk.injEq] at he
    unfold ltE at *
    simp only at *
    omega
theorem UpE.push {raw L : List T3} {f t k : Int} (h : UpE raw f t k L) (hn : (⟨f, t, k⟩ : T3) ∈ raw) (hr : inR ⟨f, t, k⟩) : UpE raw f t (k + 1) (L ++ [⟨f, t, k⟩]) := by
  refine ⟨?_, fun e => ?_⟩
  · rw [List.pairwise_append]
    refine ⟨h.pw, by simp, fun a ha b hb => ?_⟩
    rw [List.mem_singleton] at hb
    subst hb
    exact ((h.mem a).1 ha).2.2
  · rw [List.mem_append, List.mem_singleton, h.mem e]
    constructor
    · rintro (⟨a, b, c⟩ | rfl)
      · exact ⟨a, b, by unfold ltE at *; simp only at *; omega⟩
      · exact ⟨hn, hr, by unfold ltE; exact .inr ⟨rfl, .inr ⟨rfl, by simp only; omega⟩⟩⟩
    · rintro ⟨a, b, c⟩
      by_cases he : e = ⟨f, t, k⟩
      · exact .inr he
      · refine .inl ⟨a, b, ?_⟩
        obtain ⟨x, y, z⟩ := e
        simp only [T3.mk.injEq] at he
        unfold ltE at *
        simp only at *
        omega
theorem UpE.turn {raw L : List T3} {f t : Int} (h : UpE raw f t 5 L) : UpE raw f (t + 1) 1 L := by
  refine ⟨h.pw, fun e => (h.mem e).trans ⟨fun ⟨a, b, c⟩ => ⟨a, b, ?_⟩, fun ⟨a, b, c⟩ => ⟨a, b, ?_⟩⟩⟩
  all_goals
    unfold ltE inR at *
    simp only at *
    omega
theorem UpE.line {raw L : List T3} {f : Int} (h : UpE raw f 6 1 L) : UpE raw (f + 1) 0 1 L := by
  refine ⟨h.pw, fun e => (h.mem e).trans ⟨fun ⟨a, b, c⟩ => ⟨a, b, ?_⟩, fun ⟨a, b, c⟩ => ⟨a, b, ?_⟩⟩⟩
  all_goals
    unfold ltE inR at *
    simp only at *
    omega
theorem UpE.all {raw L : List T3} (h : UpE raw 6 0 1 L) (hr : ∀ e ∈ raw, inR e) : ∀ e, e ∈ L ↔ e ∈ raw := by
  intro e
  rw [h.mem e]
  refine ⟨fun h => h.1, fun a => ⟨a, hr e a, ?_⟩⟩
  have := hr e a
  unfold ltE inR at *
  simp only at *
  omega
/-- all edges among six transactions, in order -/
def enumE : List T3 := (List.range 6).flatMap fun (f : Nat) => (List.range 6).flatMap fun (t : Nat) => [⟨(f : Int), (t : Int), 1⟩, ⟨(f : Int), (t : Int), 2⟩, ⟨(f : Int), (t : Int), 3⟩, ⟨(f : Int), (t : Int), 4⟩]
theorem enumE_mem (e : T3) : e ∈ enumE ↔ inR e := by
  obtain ⟨a, b, c⟩ := e
  simp only [enumE, List.mem_flatMap, List.mem_range, List.mem_cons, List.not_mem_nil, or_false, T3.mk.injEq, inR]
  constructor
  · rintro ⟨f, hf, t, ht, h⟩
    omega
  · rintro ⟨h1, h2, h3, h4, h5, h6⟩
    exact ⟨a.toNat, by omega, b.toNat, by omega, by omega⟩
def ltB (x y : T3) : Bool := decide (x.a < y.a) || (decide (x.a = y.a) && (decide (x.b < y.b) || (decide (x.b = y.b) && decide (x.c < y.c))))
def pwB : List T3 → Bool
  | [] => true
  | x :: xs => xs.all (ltB x) && pwB xs
theorem pwB_pw : ∀ {xs : List T3}, pwB xs = true → xs.Pairwise ltE
  | [], _ => List.Pairwise.nil
  | x :: xs, h => by
    simp only [pwB, Bool.and_eq_true, List.all_eq_true] at h
    refine List.Pairwise.cons (fun y hy => ?_) (pwB_pw h.2)
    have := h.1 y hy
    simp only [ltB, Bool.or_eq_true, Bool.and_eq_true, decide_eq_true_eq] at this
    unfold ltE
    omega
theorem enumE_pw : enumE.Pairwise ltE := pwB_pw (by kernel_rfl)
/-- the edges of a history with orders -/
def edgesV (h : List TxnT) (R : List (List Int)) : List T3 := if ordV h R = true then enumE.filter (fun e => decide (e ∈ rawE h R)) else []
theorem edgesV_up {h : List TxnT} {R : List (List Int)} (hv : ordV h R = true) : (edgesV h R).Pairwise ltE ∧ ∀ e, e ∈ edgesV h R ↔ e ∈ rawE h R := by
  unfold edgesV
  rw [if_pos hv]
  refine ⟨enumE_pw.filter _, fun e => ?_⟩
  rw [List.mem_filter, decide_eq_true_eq, enumE_mem]
  exact ⟨fun h => h.2, fun h => ⟨rawE_inR (ord3 hv).hist h, h⟩⟩
theorem edgesV_one {h : List TxnT} {R : List (List Int)} (hv : ordV h R = true) {ys : List T3} (hy : ys.Pairwise ltE) (hm : ∀ e, e ∈ ys ↔ e ∈ rawE h R) : ys = edgesV h R :=
  sorted_one hy (edgesV_up hv).1 (fun e => (hm e).trans ((edgesV_up hv).2 e).symm)
theorem edgesV_spec {h : List TxnT} {R : List (List Int)} (hv : ordV h R = true) {L : List T3} (hL : UpE (rawE h R) 6 0 1 L) : L = edgesV h R :=
  edgesV_one hv hL.pw (hL.all (fun e he => rawE_inR (ord3 hv).hist he))
theorem edgesV_len (h : List TxnT) (R : List (List Int)) : (edgesV h R).length ≤ 144 := by
  unfold edgesV
  split
  · have e : enumE.length = 144 := by kernel_rfl
    have := List.length_filter_le (fun e => decide (e ∈ rawE h R)) enumE
    omega
  · simp
end Go.Proofs.YtmbdacfgmiielaaGreat
