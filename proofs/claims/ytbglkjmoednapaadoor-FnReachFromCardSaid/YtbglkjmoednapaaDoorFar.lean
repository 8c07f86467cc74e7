/-
  How far it is from every number to a target along edges: plain facts, and the reference's l9Far and l10Upto.
-/
import Derived.Test.YtbglkjmoednapaaDoorTop
namespace Go.Proofs.YtbglkjmoednapaaDoor
set_option linter.unusedSimpArgs false
set_option linter.unusedVariables false
set_option maxRecDepth 100000
open Go.RowKit

def updI (f : Nat → Int) (i : Nat) (x : Int) : Nat → Int := fun j => if j = i then x else f j
theorem updI_same (f : Nat → Int) (i : Nat) (x : Int) : updI f i x i = x := if_pos rfl
theorem updI_other (f : Nat → Int) {i j : Nat} (x : Int) (h : j ≠ i) : updI f i x j = f j := if_neg h
def farStep (s : Nat) (f : Nat → Int) (e : T3) : Nat → Int := if f e.b.toNat = s ∧ f e.a.toNat < 0 then updI f e.a.toNat (s + 1) else f
def far0 (t : Nat) : Nat → Int := updI (fun _ => -1) t 0
/-- the distances after s rounds over the edges -/
def farT (L : List T3) (t : Nat) : Nat → (Nat → Int)
  | 0 => far0 t
  | s + 1 => L.foldl (farStep s) (farT L t s)
theorem fold_take {α β : Type} (g : β → α → β) (b : β) {L : List α} {k : Nat} {e : α} (h : L[k]? = some e) : (L.take (k + 1)).foldl g b = g ((L.take k).foldl g b) e := by
  rw [List.take_add_one, h]
  simp

/-- there is an edge -/
def Ed (L : List T3) (i j : Nat) : Prop := ∃ e ∈ L, e.a = i ∧ e.b = j
/-- at most d edges lead from v to t -/
def Rd (L : List T3) (t : Nat) : Nat → Nat → Prop
  | 0, v => v = t
  | d + 1, v => Rd L t d v ∨ ∃ u, Ed L v u ∧ Rd L t d u
theorem Rd.more {L : List T3} {t : Nat} : ∀ {d d' v : Nat}, d ≤ d' → Rd L t d v → Rd L t d' v := by
  intro d d' v h hr
  induction d' with
  | zero => obtain rfl : d = 0 := by omega
            exact hr
  | succ d' ih =>
    rcases Nat.lt_or_ge d (d' + 1) with h1 | h1
    · exact .inl (ih (by omega))
    · obtain rfl : d = d' + 1 := by omega
      exact hr
/-- what the rounds reckon: each value is the least number of edges, as far as it is at most the number of rounds -/
def Far (L : List T3) (t s : Nat) (f : Nat → Int) : Prop := ∀ v, (f v = -1 ∧ ¬ Rd L t s v) ∨ ∃ d : Nat, f v = d ∧ d ≤ s ∧ Rd L t d v ∧ ∀ d', d' < d → ¬ Rd L t d' v
theorem Far.zero (L : List T3) (t : Nat) : Far L t 0 (far0 t) := fun v => by
  unfold far0
  by_cases h : v = t
  · subst h
    right
    exact ⟨0, updI_same _ _ _, Nat.le_refl _, rfl, fun d' h => by omega⟩
  · left
    exact ⟨updI_other _ _ h, h⟩
/-- one round -/
theorem Far.pass {L : List T3} (hL : ∀ e ∈ L, 0 ≤ e.a ∧ 0 ≤ e.b) {t s : Nat} {f : Nat → Int} (h : Far L t s f) : Far L t (s + 1) (L.foldl (farStep s) f) := by
  have key : ∀ k, k ≤ L.length → ∀ v, (0 ≤ f v → (L.take k).foldl (farStep s) f v = f v) ∧ (f v < 0 → ((L.take k).foldl (farStep s) f v = -1 ∧ ¬ ∃ e ∈ L.take k, e.a = v ∧ f e.b.toNat = s) ∨ ((L.take k).foldl (farStep s) f v = s + 1 ∧ ∃ e ∈ L.take k, e.a = v ∧ f e.b.toNat = s)) := by
    intro k
    induction k with
    | zero =>
      intro _ v
      refine ⟨fun _ => rfl, fun hv => .inl ⟨?_, by simp⟩⟩
      rcases h v with ⟨e, _⟩ | ⟨d, e, _⟩
      · simpa using e
      · omega
    | succ k ih =>
      intro hk v
      have IH := ih (by omega)
      have hx : L[k]? = some L[k] := List.getElem?_eq_getElem (by omega)
      obtain ⟨ha, hb⟩ := hL L[k] (List.getElem_mem _)
      rw [fold_take _ _ hx]
      generalize (L.take k).foldl (farStep s) f = g at IH
      have hmem : ∀ v, (∃ e ∈ L.take (k + 1), e.a = v ∧ f e.b.toNat = s) ↔ (∃ e ∈ L.take k, e.a = v ∧ f e.b.toNat = s) ∨ (L[k].a = v ∧ f L[k].b.toNat = s) := by
        intro v
        rw [List.take_add_one, hx]
        simp only [Option.toList, List.mem_append, List.mem_singleton]
        constructor
        · rintro ⟨e, h | rfl, h3⟩
          · exact .inl ⟨e, h, h3⟩
          · exact .inr h3
        · rintro (⟨e, h, h3⟩ | h3)
          · exact ⟨e, .inl h, h3⟩
          · exact ⟨_, .inr rfl, h3⟩
      rw [hmem]
      generalize L[k] = e at ha hb hmem
      have hb1 : g e.b.toNat = s ↔ f e.b.toNat = s := by
        rcases Int.lt_or_le (f e.b.toNat) 0 with h1 | h1
        · rcases (IH e.b.toNat).2 h1 with ⟨h2, _⟩ | ⟨h2, _⟩ <;> rw [h2] <;> omega
        · rw [(IH e.b.toNat).1 h1]
      have ha1 : g e.a.toNat < 0 ↔ f e.a.toNat < 0 ∧ ¬ ∃ e' ∈ L.take k, e'.a = e.a.toNat ∧ f e'.b.toNat = s := by
        rcases Int.lt_or_le (f e.a.toNat) 0 with h1 | h1
        · rcases (IH e.a.toNat).2 h1 with ⟨h2, h3⟩ | ⟨h2, h3⟩
          · rw [h2]; exact ⟨fun _ => ⟨h1, h3⟩, fun _ => by omega⟩
          · rw [h2]; exact ⟨fun h => by omega, fun h => absurd h3 h.2⟩
        · rw [(IH e.a.toNat).1 h1]
          exact ⟨fun h => by omega, fun h => by omega⟩
      unfold farStep
      split
      · rename_i hc
        obtain ⟨hc1, hc2⟩ := hc
        have hf1 := hb1.1 hc1
        obtain ⟨hf2, hf3⟩ := ha1.1 hc2
        by_cases hva : v = e.a.toNat
        · subst hva
          rw [updI_same]
          refine ⟨fun h => by omega, fun _ => .inr ⟨rfl, .inr ⟨by omega, hf1⟩⟩⟩
        · rw [updI_other _ _ hva]
          refine ⟨(IH v).1, fun hv => ?_⟩
          rcases (IH v).2 hv with ⟨h2, h3⟩ | ⟨h2, h3⟩
          · exact .inl ⟨h2, fun h => by rcases h with h | ⟨h, _⟩; exact h3 h; omega⟩
          · exact .inr ⟨h2, .inl h3⟩
      · rename_i hc
        refine ⟨(IH v).1, fun hv => ?_⟩
        rcases (IH v).2 hv with ⟨h2, h3⟩ | ⟨h2, h3⟩
        · refine .inl ⟨h2, fun h => ?_⟩
          rcases h with h | ⟨h4, h5⟩
          · exact h3 h
          · have hva : e.a.toNat = v := by omega
            exact hc ⟨hb1.2 h5, by rw [hva, h2]; omega⟩
        · exact .inr ⟨h2, .inl h3⟩
  have KEY := key L.length (Nat.le_refl _)
  rw [List.take_length] at KEY
  intro v
  rcases h v with ⟨e, hn⟩ | ⟨d, e, hd, hr, hm⟩
  · rcases (KEY v).2 (by omega) with ⟨h2, h3⟩ | ⟨h2, ⟨e', he', h3, h4⟩⟩
    · left
      refine ⟨h2, ?_⟩
      rintro (h5 | ⟨u, ⟨e', he', h6, h7⟩, h8⟩)
      · exact hn h5
      · refine h3 ⟨e', he', h6, ?_⟩
        have hu : e'.b.toNat = u := by omega
        rw [hu]
        rcases h u with ⟨_, h9⟩ | ⟨d, h9, h10, h11, _⟩
        · exact absurd h8 h9
        · rcases Nat.lt_or_ge d s with h12 | h12
          · exact absurd (Rd.more (d := d + 1) (by omega) (.inr ⟨u, ⟨e', he', h6, h7⟩, h11⟩)) hn
          · rw [h9]; omega
    · right
      refine ⟨s + 1, by rw [h2]; rfl, Nat.le_refl _, ?_, fun d' hd' hr => hn (Rd.more (by omega) hr)⟩
      right
      obtain ⟨ha, hb⟩ := hL e' he'
      refine ⟨e'.b.toNat, ⟨e', he', h3, by omega⟩, ?_⟩
      rcases h e'.b.toNat with ⟨h5, _⟩ | ⟨d, h5, _, h6, _⟩
      · omega
      · obtain rfl : d = s := by omega
        exact h6
  · right
    exact ⟨d, by rw [(KEY v).1 (by omega)]; exact e, by omega, hr, hm⟩
theorem far_spec {L : List T3} (hL : ∀ e ∈ L, 0 ≤ e.a ∧ 0 ≤ e.b) (t : Nat) : ∀ s, Far L t s (farT L t s)
  | 0 => Far.zero L t
  | s + 1 => Far.pass hL (far_spec hL t s)

/-- how many below m -/
def cnt (p : Nat → Prop) [DecidablePred p] : Nat → Nat
  | 0 => 0
  | m + 1 => cnt p m + if p m then 1 else 0
theorem cnt_le (p : Nat → Prop) [DecidablePred p] (m : Nat) : cnt p m ≤ m := by
  induction m with
  | zero => exact Nat.le_refl _
  | succ m ih => unfold cnt; split <;> omega
theorem cnt_mono {p q : Nat → Prop} [DecidablePred p] [DecidablePred q] (h : ∀ v, p v → q v) (m : Nat) : cnt p m ≤ cnt q m := by
  induction m with
  | zero => exact Nat.le_refl _
  | succ m ih =>
    unfold cnt
    by_cases h1 : p m
    · rw [if_pos h1, if_pos (h m h1)]; omega
    · rw [if_neg h1]; omega
theorem cnt_lt {p q : Nat → Prop} [DecidablePred p] [DecidablePred q] (h : ∀ v, p v → q v) {v : Nat} (hq : q v) (hp : ¬ p v) : ∀ {m : Nat}, v < m → cnt p m + 1 ≤ cnt q m := by
  intro m
  induction m with
  | zero => intro hv; omega
  | succ m ih =>
    intro hv
    unfold cnt
    by_cases e : v = m
    · subst e
      rw [if_neg hp, if_pos hq]
      have := cnt_mono h v
      omega
    · have := ih (by omega)
      by_cases h1 : p m
      · rw [if_pos h1, if_pos (h m h1)]; omega
      · rw [if_neg h1]; omega
/-- among m numbers less than m edges suffice -/
theorem Rd.enough {L : List T3} {m t : Nat} (ht : t < m) (hE : ∀ i j, Ed L i j → i < m) {d v : Nat} (h : Rd L t d v) : Rd L t (m - 1) v := by
  classical
  have st : ∀ k, (∃ d, d < k ∧ ∀ v, Rd L t (d + 1) v → Rd L t d v) ∨ k + 1 ≤ cnt (fun v => Rd L t k v) m := by
    intro k
    induction k with
    | zero =>
      right
      have : cnt (fun _ => False) m + 1 ≤ cnt (fun v => Rd L t 0 v) m := cnt_lt (p := fun _ => False) (q := fun v => Rd L t 0 v) (fun _ h => False.elim h) (v := t) rfl (fun h => h) ht
      omega
    | succ k ih =>
      rcases ih with ⟨d, hd, h1⟩ | h1
      · exact .inl ⟨d, by omega, h1⟩
      · by_cases hs : ∀ v, Rd L t (k + 1) v → Rd L t k v
        · exact .inl ⟨k, by omega, hs⟩
        · right
          have ⟨v, hv⟩ : ∃ v, ¬ (Rd L t (k + 1) v → Rd L t k v) := Classical.not_forall.1 hs
          have hv1 : Rd L t (k + 1) v := Classical.byContradiction fun h => hv (fun h' => absurd h' h)
          have hv2 : ¬ Rd L t k v := fun h => hv (fun _ => h)
          have hvm : v < m := by
            rcases hv1 with h2 | ⟨u, h2, _⟩
            · exact absurd h2 hv2
            · exact hE v u h2
          have := cnt_lt (p := fun v => Rd L t k v) (q := fun v => Rd L t (k + 1) v) (fun v h => .inl h) hv1 hv2 hvm
          omega
  rcases st m with ⟨d0, hd0, hs⟩ | hc
  · have hall : ∀ d v, Rd L t d v → Rd L t d0 v := by
      intro d
      induction d with
      | zero => intro v h; exact Rd.more (Nat.zero_le _) h
      | succ d ih =>
        rintro v (h | ⟨u, h1, h2⟩)
        · exact ih v h
        · exact hs v (.inr ⟨u, h1, ih u h2⟩)
    exact Rd.more (by omega) (hall d v h)
  · have := cnt_le (fun v => Rd L t m v) m
    omega
theorem Rd.path {L : List T3} {t : Nat} : ∀ {d v : Nat}, Rd L t d v → v = t ∨ Relation.TransGen (Ed L) v t := by
  intro d
  induction d with
  | zero => intro v h; exact .inl h
  | succ d ih =>
    rintro v (h | ⟨u, h1, h2⟩)
    · exact ih h
    · right
      rcases ih h2 with rfl | h3
      · exact .single h1
      · exact Relation.TransGen.trans (.single h1) h3
theorem Rd.of_path {L : List T3} {t v : Nat} (h : Relation.TransGen (Ed L) v t) : ∃ u d, Ed L v u ∧ Rd L t d u := by
  induction h with
  | single h => exact ⟨_, 0, h, rfl⟩
  | tail h1 h2 ih =>
    rename_i b c
    obtain ⟨u, d, h3, h4⟩ := ih
    refine ⟨u, d + 1, h3, ?_⟩
    have key : ∀ d u, Rd L b d u → Rd L c (d + 1) u := by
      intro d
      induction d with
      | zero => intro u h; cases h; exact .inr ⟨c, h2, rfl⟩
      | succ d ih =>
        rintro u (h | ⟨x, h5, h6⟩)
        · exact .inl (ih u h)
        · exact .inr ⟨x, h5, ih x h6⟩
    exact key d u h4
/-- a value of at least 0: it can be reached -/
theorem far_iff {L : List T3} {m t : Nat} (ht : t < m) (hL : ∀ e ∈ L, 0 ≤ e.a ∧ e.a < m ∧ 0 ≤ e.b ∧ e.b < m) (v : Nat) : 0 ≤ farT L t m v ↔ v = t ∨ Relation.TransGen (Ed L) v t := by
  have hs := far_spec (fun e he => by have := hL e he; omega) t m v
  have hE : ∀ i j, Ed L i j → i < m := fun i j ⟨e, he, h1, _⟩ => by have := hL e he; omega
  constructor
  · intro h
    rcases hs with ⟨e, _⟩ | ⟨d, _, _, hr, _⟩
    · omega
    · exact hr.path
  · intro h
    have hr : Rd L t m v := by
      rcases h with rfl | h
      · exact Rd.more (Nat.zero_le _) rfl
      · obtain ⟨u, d, h1, h2⟩ := Rd.of_path h
        exact Rd.more (by omega) (Rd.enough ht hE (d := d + 1) (.inr ⟨u, h1, h2⟩))
    rcases hs with ⟨_, hn⟩ | ⟨d, e, _⟩
    · exact absurd hr hn
    · omega

/-- the first m values as a list -/
def fl (m : Nat) (f : Nat → Int) : List Int := (List.range m).map f
theorem fl_len (m : Nat) (f : Nat → Int) : (fl m f).length = m := by simp [fl]
theorem fl_get {m : Nat} {f : Nat → Int} {i : Nat} (h : i < m) : (fl m f)[i]? = some (f i) := by simp [fl, h]
theorem fl_set {m : Nat} {f : Nat → Int} {i : Nat} {x : Int} (h : i < m) : (fl m f).set i x = fl m (updI f i x) := by
  apply List.ext_getElem?
  intro j
  rw [List.getElem?_set]
  rcases Nat.lt_or_ge j m with hj | hj
  · rw [fl_get hj, fl_get hj]
    by_cases e : i = j
    · subst e
      rw [if_pos rfl, if_pos (by rw [fl_len]; exact h), updI_same]
    · rw [if_neg e, updI_other _ _ (fun h => e h.symm)]
  · have h1 : ∀ g, (fl m g)[j]? = none := fun g => List.getElem?_eq_none (by rw [fl_len]; exact hj)
    rw [h1, h1]
    split
    · omega
    · rfl
theorem fl_snoc (m : Nat) (f : Nat → Int) : fl (m + 1) f = fl m f ++ [f m] := by simp [fl, List.range_succ]
end Go.Proofs.YtbglkjmoednapaaDoor
