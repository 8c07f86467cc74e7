/-
  Plain facts on rows of bits: what edges they hold, their closure, orders in which edges lead forward.
-/
import Derived.Test.YtmbdacfgmiielaaGreatGMem0
namespace Go.Proofs.YtmbdacfgmiielaaGreat
set_option linter.unusedSimpArgs false
set_option linter.unusedVariables false
set_option maxRecDepth 100000

/-- row v of f is r -/
def upd (f : Nat → Nat) (i r : Nat) : Nat → Nat := fun j => if j = i then r else f j
theorem upd_same (f : Nat → Nat) (i r : Nat) : upd f i r i = r := if_pos rfl
theorem upd_other (f : Nat → Nat) {i j : Nat} (r : Nat) (h : j ≠ i) : upd f i r j = f j := if_neg h

def orN (a b : Nat) : Nat := (a % 2 ^ 64) ||| (b % 2 ^ 64)
def shlN (j : Nat) : Nat := if j < 64 then 2 ^ j else 0
theorem shlN_lt {j : Nat} (hj : j < 6) : shlN j < 64 := by
  unfold shlN
  rw [if_pos (by omega)]
  exact Nat.pow_lt_pow_right (a := 2) (n := 6) (by omega) hj
theorem orN_lt {a b : Nat} (ha : a < 64) (hb : b < 64) : orN a b < 64 := by
  unfold orN
  rw [Nat.mod_eq_of_lt (by omega), Nat.mod_eq_of_lt (by omega)]
  exact Nat.or_lt_two_pow (n := 6) ha hb
theorem orN_bit {a b : Nat} (ha : a < 64) (hb : b < 64) (j : Nat) : (orN a b).testBit j = (a.testBit j || b.testBit j) := by
  unfold orN
  rw [Nat.mod_eq_of_lt (by omega), Nat.mod_eq_of_lt (by omega), Nat.testBit_or]
theorem shlN_bit {i : Nat} (hi : i < 64) (j : Nat) : (shlN i).testBit j = decide (i = j) := by
  unfold shlN
  rw [if_pos hi, Nat.testBit_two_pow]

/-- all six rows hold bits below 6 alone -/
def Low (f : Nat → Nat) : Prop := ∀ i, i < 6 → f i < 64
theorem Low.upd {f : Nat → Nat} (h : Low f) {i r : Nat} (hr : r < 64) : Low (upd f i r) := fun j hj => by
  unfold Proofs.YtmbdacfgmiielaaGreat.upd
  split
  · exact hr
  · exact h j hj

/-- an edge between two of the six -/
def ed6 (e : T3) : Prop := 0 ≤ e.a ∧ e.a ≤ 5 ∧ 0 ≤ e.b ∧ e.b ≤ 5
/-- rows of the edges whose kinds are in ks -/
def addE (ks : List Int) (f : Nat → Nat) (e : T3) : Nat → Nat := if e.c ∈ ks then upd f e.a.toNat (orN (f e.a.toNat) (shlN e.b.toNat)) else f
def rowsOf (ks : List Int) (L : List T3) : Nat → Nat := L.foldl (addE ks) (fun _ => 0)
theorem rowsOf_snoc (ks : List Int) (L : List T3) (e : T3) : rowsOf ks (L ++ [e]) = addE ks (rowsOf ks L) e := by simp [rowsOf]
theorem rowsOf_take {ks : List Int} {L : List T3} {k : Nat} {e : T3} (h : L[k]? = some e) : rowsOf ks (L.take (k + 1)) = addE ks (rowsOf ks (L.take k)) e := by
  rw [List.take_add_one, h]
  exact rowsOf_snoc _ _ _
theorem addE_low {ks : List Int} {f : Nat → Nat} {e : T3} (h : Low f) (he : ed6 e) : Low (addE ks f e) := by
  obtain ⟨h1, h2, h3, h4⟩ := he
  unfold addE
  split
  · exact h.upd (orN_lt (h _ (by omega)) (shlN_lt (by omega)))
  · exact h
/-- there is an edge of such a kind -/
def adj (ks : List Int) (L : List T3) (i j : Nat) : Prop := ∃ e ∈ L, e.c ∈ ks ∧ e.a = i ∧ e.b = j
theorem rows_spec (ks : List Int) (L : List T3) (hL : ∀ e ∈ L, ed6 e) : Low (rowsOf ks L) ∧ ∀ i j, i < 6 → ((rowsOf ks L i).testBit j = true ↔ adj ks L i j) := by
  have key : ∀ k, k ≤ L.length → Low (rowsOf ks (L.take k)) ∧ ∀ i j, i < 6 → ((rowsOf ks (L.take k) i).testBit j = true ↔ adj ks (L.take k) i j) := by
    intro k
    induction k with
    | zero =>
      intro _
      refine ⟨fun i _ => by simp [rowsOf], fun i j _ => ?_⟩
      simp [rowsOf, adj]
    | succ k ih =>
      intro hk
      obtain ⟨h1, h2⟩ := ih (by omega)
      have hx : L[k]? = some L[k] := List.getElem?_eq_getElem (by omega)
      have he := hL L[k] (List.getElem_mem _)
      rw [rowsOf_take hx]
      refine ⟨addE_low h1 he, fun i j hi => ?_⟩
      have hadj : adj ks (L.take (k + 1)) i j ↔ adj ks (L.take k) i j ∨ (L[k].c ∈ ks ∧ L[k].a = i ∧ L[k].b = j) := by
        unfold adj
        rw [List.take_add_one, hx]
        simp only [Option.toList, List.mem_append, List.mem_singleton]
        constructor
        · rintro ⟨e, h | rfl, h3⟩
          · exact .inl ⟨e, h, h3⟩
          · exact .inr h3
        · rintro (⟨e, h, h3⟩ | h3)
          · exact ⟨e, .inl h, h3⟩
          · exact ⟨_, .inr rfl, h3⟩
      rw [hadj, ← h2 i j hi]
      obtain ⟨g1, g2, g3, g4⟩ := he
      unfold addE
      split
      · rename_i hc
        unfold upd
        by_cases hia : i = L[k].a.toNat
        · rw [if_pos hia, orN_bit (h1 _ (by omega)) (shlN_lt (by omega)), shlN_bit (by omega), ← hia]
          simp only [Bool.or_eq_true, decide_eq_true_eq]
          constructor
          · rintro (h | h)
            · exact .inl h
            · exact .inr ⟨hc, by omega, by omega⟩
          · rintro (h | ⟨_, _, h⟩)
            · exact .inl h
            · exact .inr (by omega)
        · rw [if_neg hia]
          constructor
          · exact .inl
          · rintro (h | ⟨_, h, _⟩)
            · exact h
            · omega
      · rename_i hc
        constructor
        · exact .inl
        · rintro (h | ⟨h, _⟩)
          · exact h
          · exact absurd h hc
  have := key L.length (Nat.le_refl _)
  rwa [List.take_length] at this

theorem rowsOf_low (ks : List Int) (L : List T3) (hL : ∀ e ∈ L, ed6 e) : Low (rowsOf ks L) := (rows_spec ks L hL).1
/-- the rows when i of them have been looked at for the pivot k -/
def pasT (f : Nat → Nat) (k : Nat) : Nat → (Nat → Nat)
  | 0 => f
  | i + 1 => if (pasT f k i i).testBit k = true then upd (pasT f k i) i (orN (pasT f k i i) (pasT f k i k)) else pasT f k i
/-- the rows when the first k pivots are through -/
def cloT (f : Nat → Nat) : Nat → (Nat → Nat)
  | 0 => f
  | k + 1 => pasT (cloT f k) k 6
/-- the closure of six rows -/
def clo (f : Nat → Nat) : Nat → Nat := cloT f 6
theorem pas_spec {f : Nat → Nat} (hf : Low f) {k : Nat} (hk : k < 6) : ∀ i, i ≤ 6 → Low (pasT f k i) ∧ (∀ a, i ≤ a → pasT f k i a = f a) ∧ (∀ j, (pasT f k i k).testBit j = (f k).testBit j) ∧ ∀ a j, a < i → (pasT f k i a).testBit j = ((f a).testBit j || ((f a).testBit k && (f k).testBit j)) := by
  intro i
  induction i with
  | zero => intro _; exact ⟨hf, fun _ _ => rfl, fun _ => rfl, fun a j h => by omega⟩
  | succ i ih =>
    intro hi
    obtain ⟨h1, h2, h3, h4⟩ := ih (by omega)
    have hi6 : i < 6 := by omega
    have e0 : pasT f k i i = f i := h2 i (Nat.le_refl _)
    unfold pasT
    split
    · rename_i hb
      have hlt := orN_lt (h1 i hi6) (h1 k hk)
      have hbit : ∀ j, (orN (pasT f k i i) (pasT f k i k)).testBit j = ((f i).testBit j || (f k).testBit j) := fun j => by rw [orN_bit (h1 i hi6) (h1 k hk), e0, h3]
      refine ⟨h1.upd hlt, fun a ha => ?_, fun j => ?_, fun a j ha => ?_⟩
      · rw [upd_other _ _ (by omega)]
        exact h2 a (by omega)
      · by_cases hki : k = i
        · subst hki
          rw [upd_same, hbit]
          simp
        · rw [upd_other _ _ hki]
          exact h3 j
      · by_cases hai : a = i
        · subst hai
          rw [upd_same, hbit]
          rw [e0] at hb
          simp [hb]
        · rw [upd_other _ _ hai]
          exact h4 a j (by omega)
    · rename_i hb
      refine ⟨h1, fun a ha => h2 a (by omega), h3, fun a j ha => ?_⟩
      by_cases hai : a = i
      · subst hai
        rw [e0] at hb ⊢
        simp only [Bool.not_eq_true] at hb
        simp [hb]
      · exact h4 a j (by omega)
theorem clo_step {f : Nat → Nat} (hf : Low f) {k : Nat} (hk : k < 6) : Low (pasT f k 6) ∧ ∀ a j, a < 6 → (pasT f k 6 a).testBit j = ((f a).testBit j || ((f a).testBit k && (f k).testBit j)) := by
  obtain ⟨h1, _, _, h4⟩ := pas_spec hf hk 6 (Nat.le_refl _)
  exact ⟨h1, h4⟩
theorem low_bit {r j : Nat} (hr : r < 64) (h : r.testBit j = true) : j < 6 := by
  rcases Nat.lt_or_ge j 6 with h6 | h6
  · exact h6
  · rw [Nat.testBit_lt_two_pow (Nat.lt_of_lt_of_le hr (Nat.pow_le_pow_right (n := 2) (by omega) h6))] at h
    cases h
/-- bits as a relation -/
def Bit (f : Nat → Nat) (i j : Nat) : Prop := i < 6 ∧ (f i).testBit j = true
theorem Bit.lt {f : Nat → Nat} (hf : Low f) {i j : Nat} (h : Bit f i j) : i < 6 ∧ j < 6 := ⟨h.1, low_bit (hf i h.1) h.2⟩
theorem cloT_low {f : Nat → Nat} (hf : Low f) : ∀ k, k ≤ 6 → Low (cloT f k)
  | 0, _ => hf
  | k + 1, h => (clo_step (cloT_low hf k (by omega)) (show k < 6 by omega)).1
theorem cloT_sound {f : Nat → Nat} (hf : Low f) : ∀ k, k ≤ 6 → ∀ i j, Bit (cloT f k) i j → Relation.TransGen (Bit f) i j
  | 0, _, i, j, h => .single h
  | k + 1, hk, i, j, h => by
    have hl := cloT_low hf k (by omega)
    obtain ⟨hi, hb⟩ := h
    have e := (clo_step hl (show k < 6 by omega)).2 i j hi
    rw [show cloT f (k + 1) = pasT (cloT f k) k 6 from rfl, e] at hb
    simp only [Bool.or_eq_true, Bool.and_eq_true] at hb
    rcases hb with hb | ⟨h1, h2⟩
    · exact cloT_sound hf k (by omega) i j ⟨hi, hb⟩
    · exact (cloT_sound hf k (by omega) i k ⟨hi, h1⟩).trans (cloT_sound hf k (by omega) k j ⟨by omega, h2⟩)
theorem cloT_more {f : Nat → Nat} (hf : Low f) : ∀ k, k ≤ 6 → ∀ i j, Bit f i j → Bit (cloT f k) i j
  | 0, _, _, _, h => h
  | k + 1, hk, i, j, h => by
    have h1 := cloT_more hf k (by omega) i j h
    refine ⟨h1.1, ?_⟩
    rw [show cloT f (k + 1) = pasT (cloT f k) k 6 from rfl, (clo_step (cloT_low hf k (by omega)) (show k < 6 by omega)).2 i j h1.1, h1.2]
    rfl
theorem cloT_trans {f : Nat → Nat} (hf : Low f) : ∀ k, k ≤ 6 → ∀ p, p < k → ∀ i j, Bit (cloT f k) i p → Bit (cloT f k) p j → Bit (cloT f k) i j
  | 0, _, p, hp, _, _, _, _ => by omega
  | k + 1, hk, p, hp, i, j, h1, h2 => by
    have IH := cloT_trans hf k (by omega)
    have hl := cloT_low hf k (by omega)
    have st := (clo_step hl (show k < 6 by omega)).2
    obtain ⟨hi, h1⟩ := h1
    obtain ⟨hp6, h2⟩ := h2
    refine ⟨hi, ?_⟩
    rw [show cloT f (k + 1) = pasT (cloT f k) k 6 from rfl] at h1 h2 ⊢
    rw [st i p hi] at h1
    rw [st p j hp6] at h2
    rw [st i j hi]
    simp only [Bool.or_eq_true, Bool.and_eq_true] at h1 h2 ⊢
    by_cases hpk : p = k
    · subst hpk
      refine .inr ⟨?_, ?_⟩
      · rcases h1 with h | ⟨h, _⟩ <;> exact h
      · rcases h2 with h | ⟨_, h⟩ <;> exact h
    · have IHp := IH p (by omega)
      have hk6 : k < 6 := by omega
      rcases h1 with h1 | ⟨a1, a2⟩ <;> rcases h2 with h2 | ⟨b1, b2⟩
      · exact .inl (IHp i j ⟨hi, h1⟩ ⟨hp6, h2⟩).2
      · exact .inr ⟨(IHp i k ⟨hi, h1⟩ ⟨hp6, b1⟩).2, b2⟩
      · exact .inr ⟨a1, (IHp k j ⟨hk6, a2⟩ ⟨hp6, h2⟩).2⟩
      · exact .inr ⟨a1, b2⟩
/-- the closure holds just who is reached by one edge or more -/
theorem clo_iff {f : Nat → Nat} (hf : Low f) (i j : Nat) : Bit (clo f) i j ↔ Relation.TransGen (Bit f) i j := by
  constructor
  · exact cloT_sound hf 6 (Nat.le_refl _) i j
  · intro h
    induction h with
    | single h => exact cloT_more hf 6 (Nat.le_refl _) _ _ h
    | tail h1 h2 ih =>
      have h3 := cloT_more hf 6 (Nat.le_refl _) _ _ h2
      exact cloT_trans hf 6 (Nat.le_refl _) _ h3.1 _ _ ih h3
theorem clo_low {f : Nat → Nat} (hf : Low f) : Low (clo f) := cloT_low hf 6 (Nat.le_refl _)

end Go.Proofs.YtmbdacfgmiielaaGreat
