/-
  Contracts of HasAnomaly and AnomaliesOf, the reference's and the program's.
-/
import Derived.Test.YtbglkjmoednapaaCyc
import Derived.Deep.RegionHeld3
namespace Go.Proofs.Ytbglkjmoednapaa
set_option linter.unusedSimpArgs false
set_option linter.unusedVariables false
set_option maxRecDepth 100000
open Go.RowKit

theorem best_nn {f : Nat → Int} (L : List T3) (s : Nat) : 0 ≤ best L f s ↔ ∃ e ∈ L, e.a = s ∧ 0 ≤ f e.b.toNat := by
  have key : ∀ (M : List T3) (b : Int), 0 ≤ M.foldl (bstep s f) b ↔ 0 ≤ b ∨ ∃ e ∈ M, e.a = s ∧ 0 ≤ f e.b.toNat := by
    intro M
    induction M with
    | nil => intro b; simp
    | cons e M ih =>
      intro b
      rw [List.foldl_cons, ih]
      unfold bstep
      constructor
      · rintro (h | ⟨e', he, h⟩)
        · split at h
          · rename_i hc
            exact .inr ⟨e, by simp, hc.1, hc.2.1⟩
          · exact .inl h
        · exact .inr ⟨e', by simp [he], h⟩
      · rintro (h | ⟨e', he, h1, h2⟩)
        · left
          split
          · rename_i hc; exact hc.2.1
          · exact h
        · rcases List.mem_cons.1 he with rfl | he
          · left
            split
            · exact h2
            · rename_i hc
              rcases Int.lt_or_le b 0 with hb | hb
              · exact absurd ⟨h1, h2, .inl hb⟩ hc
              · exact hb
          · exact .inr ⟨e', he, h1, h2⟩
  unfold best
  rw [key]
  constructor
  · rintro (h | h)
    · omega
    · exact h
  · exact .inr
theorem trans_first {α : Type} {r : α → α → Prop} {a b : α} (h : Relation.TransGen r a b) : ∃ u, r a u ∧ (u = b ∨ Relation.TransGen r u b) := by
  induction h with
  | single h => exact ⟨_, h, .inl rfl⟩
  | tail h1 h2 ih =>
    obtain ⟨u, h3, h4⟩ := ih
    refine ⟨u, h3, .inr ?_⟩
    rcases h4 with rfl | h4
    · exact .single h2
    · exact .tail h4 h2
/-- a cycle is found just where there is one -/
theorem cycS_some {m : Nat} {L : List T3} (hL : EdM m L) {s : Nat} (hs : s < m) : cycS m L s = none ↔ ¬ Relation.TransGen (Ed L) s s := by
  have hfi := fun v => far_iff (L := L) hs (fun e he => by have := hL e he; omega) v
  have hb := best_nn (f := farT L s m) L s
  unfold cycS
  have h1 : 0 ≤ best L (farT L s m) s ↔ Relation.TransGen (Ed L) s s := by
    rw [hb]
    constructor
    · rintro ⟨e, he, h1, h2⟩
      have hv := hL e he
      have hE : Ed L s e.b.toNat := ⟨e, he, h1, by omega⟩
      rcases (hfi _).1 h2 with h3 | h3
      · rw [h3] at hE; exact .single hE
      · exact Relation.TransGen.trans (.single hE) h3
    · intro h
      obtain ⟨u, ⟨e, he, h1, h2⟩, h3⟩ := trans_first h
      have hv := hL e he
      refine ⟨e, he, h1, (hfi _).2 ?_⟩
      rw [show e.b.toNat = u by omega]
      exact h3
  split
  · rename_i hc
    exact ⟨fun _ h => by have := h1.2 h; omega, fun _ => rfl⟩
  · rename_i hc
    exact ⟨fun h => by simp at h, fun h => absurd (h1.1 (by omega)) h⟩
theorem cycS_ne {m : Nat} {L : List T3} {s : Nat} {x : List Int} (h : cycS m L s = some x) : 0 < x.length := by
  unfold cycS at h
  split at h
  · cases h
  · cases h; simp
theorem cycR_iff {m : Nat} {L : List T3} (hL : EdM m L) : 0 < (cycR m L).length ↔ ∃ s, s < m ∧ Relation.TransGen (Ed L) s s := by
  unfold cycR
  constructor
  · intro h
    cases hf : (List.range m).findSome? (cycS m L) with
    | none => rw [hf] at h; simp at h
    | some x =>
      obtain ⟨s, hs, hx⟩ := List.exists_of_findSome?_eq_some hf
      have hsm := List.mem_range.1 hs
      exact ⟨s, hsm, Classical.byContradiction fun hn => by rw [(cycS_some hL hsm).2 hn] at hx; cases hx⟩
  · rintro ⟨s, hs, ht⟩
    cases hf : (List.range m).findSome? (cycS m L) with
    | none =>
      rw [List.findSome?_eq_none_iff] at hf
      exact absurd ht ((cycS_some hL hs).1 (hf s (List.mem_range.2 hs)))
    | some x =>
      obtain ⟨s', _, hx⟩ := List.exists_of_findSome?_eq_some hf
      exact cycS_ne hx
theorem arou_iff {f : Nat → Nat} (hf : Low f) : arou f = true ↔ ∃ i, i < 6 ∧ Relation.TransGen (Bit f) i i := by
  unfold arou
  rw [List.any_eq_true]
  constructor
  · rintro ⟨i, hi, h⟩
    have h6 := List.mem_range.1 hi
    exact ⟨i, h6, (clo_iff hf i i).1 ⟨h6, h⟩⟩
  · rintro ⟨i, h6, h⟩
    exact ⟨i, List.mem_range.2 h6, ((clo_iff hf i i).2 h).2⟩
/-- rows of edges hold just the edges -/
theorem bit_ed {ks : List Int} {L M : List T3} (hL : ∀ e ∈ L, ed6 e) (hM : ∀ e, e ∈ M ↔ e ∈ L ∧ e.c ∈ ks) : Bit (rowsOf ks L) = Ed M := by
  funext i j
  apply propext
  have hs := (rows_spec ks L hL).2
  unfold Bit Ed
  constructor
  · rintro ⟨hi, hb⟩
    obtain ⟨e, he, h1, h2, h3⟩ := (hs i j hi).1 hb
    exact ⟨e, (hM e).2 ⟨he, h1⟩, h2, h3⟩
  · rintro ⟨e, he, h1, h2⟩
    obtain ⟨he1, he2⟩ := (hM e).1 he
    have := hL e he1
    unfold ed6 at this
    have hi : i < 6 := by omega
    exact ⟨hi, (hs i j hi).2 ⟨e, he1, he2, h1, h2⟩⟩
theorem edM_ed6 {m : Nat} {L : List T3} (hm : m ≤ 6) (hL : EdM m L) : ∀ e ∈ L, ed6 e := fun e he => by have := hL e he; unfold ed6; omega
theorem upto_mem {m : Nat} {L : List T3} (hL : EdM m L) {kind : Int} {ks : List Int} (hk : ∀ c : Int, 1 ≤ c → c ≤ 4 → (c ≤ kind ↔ c ∈ ks)) (e : T3) : e ∈ upto kind L ↔ e ∈ L ∧ e.c ∈ ks := by
  unfold upto
  rw [List.mem_filter]
  constructor
  · rintro ⟨he, hc⟩
    obtain ⟨_, _, _, _, _, h1, h2⟩ := hL e he
    exact ⟨he, (hk _ h1 h2).1 (by simpa using hc)⟩
  · rintro ⟨he, hc⟩
    obtain ⟨_, _, _, _, _, h1, h2⟩ := hL e he
    exact ⟨he, by simpa using (hk _ h1 h2).2 hc⟩
theorem upto_edM {m : Nat} {L : List T3} (hL : EdM m L) (kind : Int) : EdM m (upto kind L) := fun e he => hL e ((List.mem_filter.1 he).1)
theorem upto_valid {many : Int} {L : List T3} (h : edgesValid many L = true) (kind : Int) : edgesValid many (upto kind L) = true := by
  unfold edgesValid at h ⊢
  simp only [Bool.and_eq_true, List.all_eq_true, decide_eq_true_eq] at h ⊢
  exact ⟨fun e he => h.1 e ((List.mem_filter.1 he).1), h.2.1, Nat.le_trans (upto_len kind L) h.2.2⟩
/-- the reference's cycle over the edges up to a kind, and the program's over rows -/
theorem cyc_eq {m : Nat} {L : List T3} (hm : m ≤ 6) (hL : EdM m L) {kind : Int} {ks : List Int} (hk : ∀ c : Int, 1 ≤ c → c ≤ 4 → (c ≤ kind ↔ c ∈ ks)) : decide (0 < (cycR m (upto kind L)).length) = arou (rowsOf ks L) := by
  rw [Bool.eq_iff_iff, decide_eq_true_eq, cycR_iff (upto_edM hL kind), arou_iff (rowsOf_low ks L (edM_ed6 hm hL)), bit_ed (edM_ed6 hm hL) (upto_mem hL hk)]
  constructor
  · rintro ⟨s, hs, h⟩
    exact ⟨s, by omega, h⟩
  · rintro ⟨i, _, h⟩
    obtain ⟨u, ⟨e, he, h1, _⟩, _⟩ := trans_first h
    have := upto_edM hL kind e he
    exact ⟨i, by omega, h⟩
theorem kinds1 : ∀ c : Int, 1 ≤ c → c ≤ 4 → (c ≤ 1 ↔ c ∈ ([1] : List Int)) := by
  intro c h1 h2
  simp only [List.mem_cons, List.not_mem_nil, or_false]
  omega
theorem kinds2 : ∀ c : Int, 1 ≤ c → c ≤ 4 → (c ≤ 2 ↔ c ∈ ([1, 2] : List Int)) := by
  intro c h1 h2
  simp only [List.mem_cons, List.not_mem_nil, or_false]
  omega
theorem kinds3 : ∀ c : Int, 1 ≤ c → c ≤ 4 → (c ≤ 3 ↔ c ∈ ([1, 2, 3] : List Int)) := by
  intro c h1 h2
  simp only [List.mem_cons, List.not_mem_nil, or_false]
  omega

/-- an edge of the kind 3 that flows lead back -/
def single3 (L : List T3) (e : T3) : Bool := e.c == 3 && (clo (rowsOf [1, 2] L) e.b.toNat).testBit e.a.toNat
theorem single3_far {m : Nat} {L : List T3} (hm : m ≤ 6) (hL : EdM m L) {e : T3} (he : e ∈ L) : single3 L e = (e.c == 3 && decide (0 ≤ farT (upto 2 L) e.a.toNat m e.b.toNat)) := by
  unfold single3
  congr 1
  obtain ⟨h1, h2, h3, h4, h5, _⟩ := hL e he
  have hfi := far_iff (L := upto 2 L) (m := m) (t := e.a.toNat) (by omega) (fun e he => by have := upto_edM hL 2 e he; omega) e.b.toNat
  have hci := clo_iff (rowsOf_low [1, 2] L (edM_ed6 hm hL)) e.b.toNat e.a.toNat
  rw [bit_ed (edM_ed6 hm hL) (upto_mem hL kinds2)] at hci
  rw [Bool.eq_iff_iff, decide_eq_true_eq, hfi, ← hci]
  unfold Bit
  constructor
  · intro h
    exact .inr ⟨by omega, h⟩
  · rintro (h | ⟨_, h⟩)
    · omega
    · exact h
/-- what HasAnomaly returns for valid edges -/
def hasA (L : List T3) (kind : Int) : Bool :=
  if kind = 1 then arou (rowsOf [1] L) else if kind = 2 then arou (rowsOf [1, 2] L) else if kind = 3 then L.any (single3 L) else if kind = 4 then arou (rowsOf [1, 2, 3] L) else false
def hasV (many : Int) (L : List T3) (kind : Int) : Bool := edgesValid many L && hasA L kind
theorem litInts (w : World) (ks : List Int) (T : TypeId) : Ints Any (w.alloc (.cells (ks.map (Value.int .i64)).toArray T)) (some ⟨w.heap.size, 0, none⟩) ks := by
  intro i x hx
  have hB := Blk.new w T (ks.map (Value.int .i64)).toArray
  refine ⟨w.heap.size, 0, _, rfl, trivial, hB.lt, rfl, rfl, fun j u hu => ?_⟩
  have hj : j = 0 := by have := (List.getElem?_eq_some_iff.1 hu).1; simpa using this
  subst hj
  cases hu
  rw [hB.cell]
  simp [hx]


end Go.Proofs.Ytbglkjmoednapaa
