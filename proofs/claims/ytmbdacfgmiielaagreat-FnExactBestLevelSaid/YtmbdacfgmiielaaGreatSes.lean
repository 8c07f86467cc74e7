/-
  Plain facts of session edges: each committed transaction and the next committed one of its session.
-/
import Derived.Test.YtmbdacfgmiielaaGreatGCmpE19
import Derived.Test.YtmbdacfgmiielaaGreatGLastV15
namespace Go.Proofs.YtmbdacfgmiielaaGreat
set_option linter.unusedSimpArgs false
set_option linter.unusedVariables false
set_option maxRecDepth 100000

def sameS (h : List TxnT) (a b : Nat) : Prop := ∃ t u, h[a]? = some t ∧ h[b]? = some u ∧ t.done = true ∧ u.done = true ∧ t.sess = u.sess
/-- b is the next of a's session -/
def Adj (h : List TxnT) (a b : Nat) : Prop := a < b ∧ sameS h a b ∧ ∀ c, a < c → c < b → ¬ sameS h a c
theorem sameS_sym {h : List TxnT} {a b : Nat} (x : sameS h a b) : sameS h b a := by
  obtain ⟨t, u, h1, h2, h3, h4, h5⟩ := x
  exact ⟨u, t, h2, h1, h4, h3, h5.symm⟩
theorem sameS_tr {h : List TxnT} {a b c : Nat} (x : sameS h a b) (y : sameS h b c) : sameS h a c := by
  obtain ⟨t, u, h1, h2, h3, h4, h5⟩ := x
  obtain ⟨u', v, k1, k2, k3, k4, k5⟩ := y
  rw [h2] at k1
  cases k1
  exact ⟨t, v, h1, k2, h3, k4, h5.trans k5⟩
theorem adj_one {h : List TxnT} {a b c : Nat} (x : Adj h a b) (y : Adj h a c) : b = c := by
  rcases Nat.lt_trichotomy b c with h1 | h1 | h1
  · exact absurd x.2.1 (y.2.2 b x.1 h1)
  · exact h1
  · exact absurd y.2.1 (x.2.2 c y.1 h1)
theorem adj_back {h : List TxnT} {a b c : Nat} (x : Adj h a c) (y : Adj h b c) : a = b := by
  rcases Nat.lt_trichotomy a b with h1 | h1 | h1
  · exact absurd (sameS_tr x.2.1 (sameS_sym y.2.1)) (x.2.2 b h1 y.1)
  · exact h1
  · exact absurd (sameS_tr y.2.1 (sameS_sym x.2.1)) (y.2.2 a h1 x.1)
theorem dn_has {h : List TxnT} {k m : Nat} {t : TxnT} (hm : m < k) (ht : h[m]? = some t) (hd : t.done = true) : (m : Int) ∈ dnT h k := by
  induction k with
  | zero => omega
  | succ k ih =>
    unfold dnT
    rcases Nat.lt_or_ge m k with hlt | hge
    · have := ih hlt
      split
      · split
        · exact List.mem_append_left _ this
        · exact this
      · exact this
    · obtain rfl : m = k := by omega
      rw [ht]
      simp [hd]

section
open Classical
noncomputable def sesV (h : List TxnT) : List T3 := (List.range h.length).flatMap fun a => ((List.range h.length).filter fun b => decide (Adj h a b)).map fun b : Nat => ⟨a, b, 4⟩
end
def SesOf (h : List TxnT) (k : Nat) (e : T3) : Prop := ∃ a b : Nat, e = ⟨a, b, 4⟩ ∧ a < k ∧ Adj h a b
theorem adj_lt {h : List TxnT} {a b : Nat} (x : Adj h a b) : a < h.length ∧ b < h.length := by
  obtain ⟨_, ⟨t, u, h1, h2, _⟩, _⟩ := x
  exact ⟨(List.getElem?_eq_some_iff.1 h1).1, (List.getElem?_eq_some_iff.1 h2).1⟩
theorem sesV_mem (h : List TxnT) (e : T3) : e ∈ sesV h ↔ SesOf h h.length e := by
  unfold sesV SesOf
  simp only [List.mem_flatMap, List.mem_range, List.mem_map, List.mem_filter, decide_eq_true_eq]
  constructor
  · rintro ⟨a, ha, b, ⟨_, hb⟩, rfl⟩
    exact ⟨a, b, rfl, ha, hb⟩
  · rintro ⟨a, b, rfl, ha, hb⟩
    exact ⟨a, ha, b, ⟨(adj_lt hb).2, hb⟩, rfl⟩
theorem ltE_irr (x : T3) : ¬ ltE x x := by unfold ltE; omega
theorem ltE_as {x y : T3} (h : ltE x y) (h' : ltE y x) : x = y := by unfold ltE at *; omega
theorem sesV_pw (h : List TxnT) : (sesV h).Pairwise ltE := by
  unfold sesV
  rw [List.pairwise_flatMap]
  constructor
  · intro a _
    rw [List.pairwise_map]
    refine (List.Pairwise.filter _ (List.pairwise_lt_range (n := h.length))).imp ?_
    intro b c hbc
    exact .inr ⟨rfl, .inl (by simp only; omega)⟩
  · refine (List.pairwise_lt_range (n := h.length)).imp ?_
    intro a b hab x hx y hy
    simp only [List.mem_map] at hx hy
    obtain ⟨_, _, rfl⟩ := hx
    obtain ⟨_, _, rfl⟩ := hy
    unfold ltE
    simp only
    omega
/-- strictly sorted lists of the same members are the same -/
theorem sorted_one {xs ys : List T3} (hx : xs.Pairwise ltE) (hy : ys.Pairwise ltE) (hm : ∀ e, e ∈ xs ↔ e ∈ ys) : xs = ys := by
  have nx : xs.Nodup := hx.imp (fun {a b} h e => by rw [e] at h; exact ltE_irr _ h)
  have ny : ys.Nodup := hy.imp (fun {a b} h e => by rw [e] at h; exact ltE_irr _ h)
  have hp : xs.Perm ys := (List.perm_ext_iff_of_nodup nx ny).2 hm
  exact hp.eq_of_pairwise (fun a b _ _ h1 h2 => ltE_as h1 h2) hx hy

/-- what the reference has behind its round k -/
def SInv (h : List TxnT) (k : Nat) (L : List T3) : Prop := L.Pairwise ltE ∧ (∀ e, e ∈ L ↔ SesOf h k e) ∧ L.length ≤ k
theorem SInv.start (h : List TxnT) : SInv h 0 [] := ⟨List.Pairwise.nil, fun e => ⟨(fun h => by cases h), fun ⟨a, b, _, h, _⟩ => by omega⟩, Nat.le_refl _⟩
theorem SInv.none {h : List TxnT} {k : Nat} {L : List T3} (hL : SInv h k L) (hn : ∀ b, ¬ Adj h k b) : SInv h (k + 1) L := by
  refine ⟨hL.1, fun e => (hL.2.1 e).trans ⟨fun ⟨a, b, he, ha, hb⟩ => ⟨a, b, he, by omega, hb⟩, fun ⟨a, b, he, ha, hb⟩ => ⟨a, b, he, ?_, hb⟩⟩, by have := hL.2.2; omega⟩
  rcases Nat.lt_or_ge a k with h1 | h1
  · exact h1
  · obtain rfl : a = k := by omega
    exact absurd hb (hn b)
theorem SInv.one {h : List TxnT} {k b : Nat} {L : List T3} (hL : SInv h k L) (hb : Adj h k b) : SInv h (k + 1) (L ++ [⟨k, b, 4⟩]) := by
  refine ⟨?_, fun e => ?_, by have := hL.2.2; simp; omega⟩
  · rw [List.pairwise_append]
    refine ⟨hL.1, by simp, fun x hx y hy => ?_⟩
    obtain ⟨a, c, rfl, ha, _⟩ := (hL.2.1 x).1 hx
    simp only [List.mem_singleton] at hy
    subst hy
    unfold ltE
    simp only
    omega
  · rw [List.mem_append, hL.2.1, List.mem_singleton]
    constructor
    · rintro (⟨a, c, he, ha, hc⟩ | rfl)
      · exact ⟨a, c, he, by omega, hc⟩
      · exact ⟨k, b, rfl, by omega, hb⟩
    · rintro ⟨a, c, rfl, ha, hc⟩
      rcases Nat.lt_or_ge a k with h1 | h1
      · exact .inl ⟨a, c, rfl, h1, hc⟩
      · obtain rfl : a = k := by omega
        right
        rw [adj_one hc hb]
theorem SInv.all {h : List TxnT} {L : List T3} (hL : SInv h h.length L) : L = sesV h :=
  sorted_one hL.1 (sesV_pw h) (fun e => (hL.2.1 e).trans (sesV_mem h e).symm)
/-- what the program has behind k of the committed ones -/
def IInv (h : List TxnT) (D : List Int) (L : List T3) (f : Int → Option Value) : Prop :=
  L.Nodup ∧ (∀ e, e ∈ L ↔ ∃ a b : Nat, e = ⟨a, b, 4⟩ ∧ (b : Int) ∈ D ∧ Adj h a b) ∧ L.length ≤ D.length ∧
    (∀ s, (f s = none ∧ ∀ (c : Nat) t, (c : Int) ∈ D → h[c]? = some t → t.sess ≠ s) ∨ ∃ (a : Nat) (t : TxnT), f s = some (.int .i64 a) ∧ (a : Int) ∈ D ∧ h[a]? = some t ∧ t.sess = s ∧ ∀ (c : Nat) u, (c : Int) ∈ D → h[c]? = some u → u.sess = s → c ≤ a)
theorem IInv.start (h : List TxnT) : IInv h [] [] (fun _ => none) :=
  ⟨List.Pairwise.nil, (fun e => ⟨(fun h => by cases h), fun ⟨a, b, _, h, _⟩ => by cases h⟩), Nat.le_refl _, fun s => .inl ⟨rfl, fun c t hc => by cases hc⟩⟩
/-- the committed ones, up to n -/
structure Upto (h : List TxnT) (D : List Int) (n : Nat) : Prop where
  low : ∀ x ∈ D, ∃ (c : Nat) (t : TxnT), x = c ∧ c < n ∧ h[c]? = some t ∧ t.done = true
  all : ∀ (c : Nat) t, c < n → h[c]? = some t → t.done = true → (c : Int) ∈ D
theorem put_inv {h : List TxnT} {D : List Int} {n : Nat} {t : TxnT} {f : Int → Option Value} (hu : Upto h D n) (ht : h[n]? = some t)
    (hf : ∀ s, (f s = none ∧ ∀ (c : Nat) t, (c : Int) ∈ D → h[c]? = some t → t.sess ≠ s) ∨ ∃ (a : Nat) (t : TxnT), f s = some (.int .i64 a) ∧ (a : Int) ∈ D ∧ h[a]? = some t ∧ t.sess = s ∧ ∀ (c : Nat) u, (c : Int) ∈ D → h[c]? = some u → u.sess = s → c ≤ a) :
    ∀ s, ((if s = t.sess then some (Value.int .i64 (n : Int)) else f s) = none ∧ ∀ (c : Nat) t, (c : Int) ∈ D ++ [(n : Int)] → h[c]? = some t → t.sess ≠ s) ∨ ∃ (a : Nat) (t' : TxnT), (if s = t.sess then some (Value.int .i64 (n : Int)) else f s) = some (.int .i64 a) ∧ (a : Int) ∈ D ++ [(n : Int)] ∧ h[a]? = some t' ∧ t'.sess = s ∧ ∀ (c : Nat) u, (c : Int) ∈ D ++ [(n : Int)] → h[c]? = some u → u.sess = s → c ≤ a := by
  intro s
  by_cases hs : s = t.sess
  · right
    refine ⟨n, t, by rw [if_pos hs], by simp, ht, hs.symm, fun c u hc _ _ => ?_⟩
    rcases List.mem_append.1 hc with h1 | h1
    · obtain ⟨c', _, e, hlt, _⟩ := hu.low _ h1
      omega
    · simp at h1
      omega
  · rw [if_neg hs]
    rcases hf s with ⟨h1, h2⟩ | ⟨a, t', h1, h2, h3, h4, h5⟩
    · left
      refine ⟨h1, fun c u hc hcu => ?_⟩
      rcases List.mem_append.1 hc with h3 | h3
      · exact h2 c u h3 hcu
      · simp at h3
        obtain rfl : c = n := by omega
        rw [ht] at hcu
        cases hcu
        exact fun e => hs e.symm
    · right
      refine ⟨a, t', h1, List.mem_append_left _ h2, h3, h4, fun c u hc hcu hus => ?_⟩
      rcases List.mem_append.1 hc with h6 | h6
      · exact h5 c u h6 hcu hus
      · simp at h6
        obtain rfl : c = n := by omega
        rw [ht] at hcu
        cases hcu
        exact absurd hus.symm hs
theorem IInv.none {h : List TxnT} {D : List Int} {n : Nat} {t : TxnT} {L : List T3} {f : Int → Option Value} (hi : IInv h D L f) (hu : Upto h D n) (ht : h[n]? = some t) (hf : f t.sess = none) :
    IInv h (D ++ [(n : Int)]) L (fun k => if k = t.sess then some (.int .i64 (n : Int)) else f k) := by
  refine ⟨hi.1, fun e => (hi.2.1 e).trans ?_, by have := hi.2.2.1; simp; omega, put_inv hu ht hi.2.2.2⟩
  constructor
  · rintro ⟨a, b, he, hb, hA⟩
    exact ⟨a, b, he, List.mem_append_left _ hb, hA⟩
  · rintro ⟨a, b, he, hb, hA⟩
    rcases List.mem_append.1 hb with h1 | h1
    · exact ⟨a, b, he, h1, hA⟩
    · simp at h1
      obtain rfl : b = n := by omega
      obtain ⟨x, y, k1, k2, k3, k4, k5⟩ := hA.2.1
      rw [ht] at k2
      cases k2
      rcases hi.2.2.2 t.sess with ⟨_, h2⟩ | ⟨a', _, h2, _⟩
      · exact absurd k5 (h2 a x (hu.all a x hA.1 k1 k3) k1)
      · rw [hf] at h2
        cases h2
theorem IInv.one {h : List TxnT} {D : List Int} {n : Nat} {t : TxnT} {L : List T3} {f : Int → Option Value} {v : Value} (hi : IInv h D L f) (hu : Upto h D n) (ht : h[n]? = some t) (hd : t.done = true) (hf : f t.sess = some v) :
    ∃ a : Nat, v = .int .i64 a ∧ IInv h (D ++ [(n : Int)]) (L ++ [⟨a, n, 4⟩]) (fun k => if k = t.sess then some (.int .i64 (n : Int)) else f k) := by
  rcases hi.2.2.2 t.sess with ⟨h1, _⟩ | ⟨a, x, h1, h2, h3, h4, h5⟩
  · rw [hf] at h1
    cases h1
  · rw [hf] at h1
    have hv := Option.some.inj h1
    obtain ⟨a', x', e, han, hx', hxd⟩ := hu.low _ h2
    obtain rfl : a = a' := by omega
    rw [h3] at hx'
    cases hx'
    have hA : Adj h a n := by
      refine ⟨han, ⟨x, t, h3, ht, hxd, hd, h4⟩, ?_⟩
      rintro c hac hcn ⟨y, z, k1, k2, k3, k4, k5⟩
      rw [h3] at k1
      cases k1
      have := h5 c z (hu.all c z hcn k2 k4) k2 (k5.symm.trans h4)
      omega
    refine ⟨a, hv, ?_, fun e => ?_, by have := hi.2.2.1; simp; omega, put_inv hu ht hi.2.2.2⟩
    · rw [List.nodup_append]
      refine ⟨hi.1, by simp, fun y hy z hz e => ?_⟩
      simp at hz
      rw [e, hz] at hy
      obtain ⟨a2, b2, he, hb2, _⟩ := (hi.2.1 _).1 hy
      simp only [T3.mk.injEq] at he
      obtain ⟨c', _, e1, hlt, _⟩ := hu.low _ hb2
      omega
    · rw [List.mem_append, hi.2.1, List.mem_singleton]
      constructor
      · rintro (⟨a2, b2, he, hb, hA2⟩ | rfl)
        · exact ⟨a2, b2, he, List.mem_append_left _ hb, hA2⟩
        · exact ⟨a, n, rfl, by simp, hA⟩
      · rintro ⟨a2, b2, rfl, hb, hA2⟩
        rcases List.mem_append.1 hb with h6 | h6
        · exact .inl ⟨a2, b2, rfl, h6, hA2⟩
        · simp at h6
          obtain rfl : b2 = n := by omega
          right
          rw [adj_back hA2 hA]
theorem uptoD_take {h : List TxnT} {k : Nat} {x : Int} (hk : (dnT h h.length)[k]? = some x) : ∃ (n : Nat) (t : TxnT), x = n ∧ h[n]? = some t ∧ t.done = true ∧ Upto h ((dnT h h.length).take k) n := by
  obtain ⟨n, t, rfl, hn, ht, hd⟩ := dnT_mem (List.mem_of_getElem? hk)
  have hkl := (List.getElem?_eq_some_iff.1 hk).1
  have hkx := (List.getElem?_eq_some_iff.1 hk).2
  have pw := List.pairwise_iff_getElem.1 (dnT_pw (h := h) h.length)
  refine ⟨n, t, rfl, ht, hd, ?_, ?_⟩
  · intro y hy
    obtain ⟨i, hi, rfl⟩ := List.getElem_of_mem hy
    rw [List.length_take] at hi
    have h1 := pw i k (by omega) hkl (by omega)
    rw [hkx] at h1
    rw [List.getElem_take]
    obtain ⟨c, u, e, _, h2, h3⟩ := dnT_mem (List.getElem_mem (l := dnT h h.length) (n := i) (by omega))
    exact ⟨c, u, e, by omega, h2, h3⟩
  · intro c u hc hcu hcd
    have h1 := dn_has (k := h.length) (List.getElem?_eq_some_iff.1 hcu).1 hcu hcd
    obtain ⟨i, hi, e⟩ := List.getElem_of_mem h1
    rcases Nat.lt_or_ge i k with h2 | h2
    · rw [← e]
      exact List.mem_take_iff_getElem.2 ⟨i, by omega, rfl⟩
    · rcases Nat.eq_or_lt_of_le h2 with h3 | h3
      · subst h3
        omega
      · have := pw k i hkl hi h3
        omega
theorem IInv.all {h : List TxnT} {L ys : List T3} {f : Int → Option Value} (hi : IInv h (dnT h h.length) L f) (hp : ys.Perm L) (hs : ys.Pairwise ltE) : ys = sesV h := by
  refine sorted_one hs (sesV_pw h) (fun e => ?_)
  rw [hp.mem_iff, hi.2.1, sesV_mem]
  constructor
  · rintro ⟨a, b, he, _, hA⟩
    exact ⟨a, b, he, (adj_lt hA).1, hA⟩
  · rintro ⟨a, b, he, _, hA⟩
    obtain ⟨t, u, _, h2, _, h4, _⟩ := hA.2.1
    exact ⟨a, b, he, dn_has (adj_lt hA).2 h2 h4, hA⟩
end Go.Proofs.YtmbdacfgmiielaaGreat
