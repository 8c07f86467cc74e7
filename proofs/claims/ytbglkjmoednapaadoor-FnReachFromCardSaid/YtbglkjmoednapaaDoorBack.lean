/-
  Plain facts on the program's way back: a search from a number against the edges, and the least way.
-/
import Derived.Test.YtbglkjmoednapaaDoorGraph
import Derived.Test.YtbglkjmoednapaaDoorFar
namespace Go.Proofs.YtbglkjmoednapaaDoor
set_option linter.unusedSimpArgs false
set_option linter.unusedVariables false
set_option maxRecDepth 100000

/-- from v there are n edges to s -/
def Wlk (f : Nat → Nat) (s : Nat) : Nat → Nat → Prop
  | 0, v => v = s
  | n + 1, v => ∃ u, Bit f v u ∧ Wlk f s n u
/-- how many are found -/
def dsc (fr : Nat → Int) : Nat := cnt (fun v => 0 ≤ fr v) 6
theorem dsc_le (fr : Nat → Int) : dsc fr ≤ 6 := cnt_le _ _
theorem dsc_up {fr : Nat → Int} {k : Nat} (hk : k < 6) (h0 : fr k < 0) {x : Int} (hx : 0 ≤ x) : dsc fr + 1 ≤ dsc (updI fr k x) := by
  unfold dsc
  refine cnt_lt (fun v hv => ?_) (v := k) (by rw [updI_same]; exact hx) (by omega) hk
  rw [updI_other _ _ (by intro e; subst e; omega)]
  exact hv

/-- the state of the search when a's predecessors below k have been looked at; q waits -/
structure BfsI (f : Nat → Nat) (s : Nat) (fr : Nat → Int) (q : List Nat) (a k : Nat) : Prop where
  rng : ∀ i, fr i = -1 ∨ 1 ≤ fr i
  cap : ∀ i, fr i ≤ dsc fr
  wlk : ∀ i, 1 ≤ fr i → Wlk f s (fr i).toNat i
  qd : ∀ i ∈ q, i < 6 ∧ 1 ≤ fr i
  one : ∀ i, Bit f i s → fr i = 1
  srt : q.Pairwise (fun i j => fr i ≤ fr j)
  ha : a < 6 ∧ 1 ≤ fr a
  lo : ∀ i ∈ q, fr a ≤ fr i
  hi : ∀ i, fr i ≤ fr a + 1
  done : ∀ v, v < 6 → 1 ≤ fr v → v ∉ q → v ≠ a → ∀ j, Bit f j v → 1 ≤ fr j ∧ fr j ≤ fr v + 1
  now : ∀ j, j < k → Bit f j a → 1 ≤ fr j ∧ fr j ≤ fr a + 1
/-- the state of the search between two rounds -/
structure Bfs (f : Nat → Nat) (s : Nat) (fr : Nat → Int) (q : List Nat) : Prop where
  rng : ∀ i, fr i = -1 ∨ 1 ≤ fr i
  cap : ∀ i, fr i ≤ dsc fr
  wlk : ∀ i, 1 ≤ fr i → Wlk f s (fr i).toNat i
  qd : ∀ i ∈ q, i < 6 ∧ 1 ≤ fr i
  one : ∀ i, Bit f i s → fr i = 1
  srt : q.Pairwise (fun i j => fr i ≤ fr j)
  near : ∀ a r, q = a :: r → ∀ i, fr i ≤ fr a + 1
  done : ∀ v, v < 6 → 1 ≤ fr v → v ∉ q → ∀ j, Bit f j v → 1 ≤ fr j ∧ fr j ≤ fr v + 1

theorem Bfs.pop {f : Nat → Nat} {s : Nat} {fr : Nat → Int} {a : Nat} {q : List Nat} (h : Bfs f s fr (a :: q)) : BfsI f s fr q a 0 where
  rng := h.rng
  cap := h.cap
  wlk := h.wlk
  qd := fun i hi => h.qd i (List.mem_cons_of_mem _ hi)
  one := h.one
  srt := (List.pairwise_cons.1 h.srt).2
  ha := h.qd a List.mem_cons_self
  lo := (List.pairwise_cons.1 h.srt).1
  hi := h.near a q rfl
  done := fun v h1 h2 h3 h4 => h.done v h1 h2 (fun hm => by
    rcases List.mem_cons.1 hm with e | hm
    · exact h4 e
    · exact h3 hm)
  now := fun j hj => by omega
theorem BfsI.close {f : Nat → Nat} {s : Nat} {fr : Nat → Int} {a : Nat} {q : List Nat} (h : BfsI f s fr q a 6) : Bfs f s fr q where
  rng := h.rng
  cap := h.cap
  wlk := h.wlk
  qd := h.qd
  one := h.one
  srt := h.srt
  near := fun b r e i => by
    have h1 := h.hi i
    have h2 := h.lo b (by rw [e]; exact List.mem_cons_self)
    omega
  done := fun v h1 h2 h3 j hj => by
    by_cases e : v = a
    · subst e
      exact h.now j hj.1 hj
    · exact h.done v h1 h2 h3 e j hj
theorem BfsI.stay {f : Nat → Nat} {s : Nat} {fr : Nat → Int} {a k : Nat} {q : List Nat} (h : BfsI f s fr q a k) (hk : (f k).testBit a = false ∨ 0 ≤ fr k) : BfsI f s fr q a (k + 1) := by
  refine { h with now := ?_ }
  intro j hj hb
  by_cases e : j = k
  · subst e
    rcases hk with hk | hk
    · rw [hb.2] at hk; cases hk
    · have := h.rng j
      have := h.hi j
      exact ⟨by omega, by omega⟩
  · exact h.now j (by omega) hb
theorem BfsI.push {f : Nat → Nat} {s : Nat} {fr : Nat → Int} {a k : Nat} {q : List Nat} (h : BfsI f s fr q a k) (hk6 : k < 6) (hb : (f k).testBit a = true) (h0 : fr k < 0) :
    BfsI f s (updI fr k (fr a + 1)) (q ++ [k]) a (k + 1) := by
  have ha := h.ha
  have old : ∀ v, 1 ≤ fr v → updI fr k (fr a + 1) v = fr v := fun v hv => updI_other _ _ (by intro e; subst e; omega)
  have new : updI fr k (fr a + 1) k = fr a + 1 := updI_same _ _ _
  have cas : ∀ v, v = k ∨ updI fr k (fr a + 1) v = fr v := fun v => by
    by_cases e : v = k
    · exact .inl e
    · exact .inr (updI_other _ _ e)
  have hd := dsc_up hk6 h0 (show (0 : Int) ≤ fr a + 1 by omega)
  have ea := old a ha.2
  constructor
  · intro i
    rcases cas i with rfl | e
    · rw [new]; right; omega
    · rw [e]; exact h.rng i
  · intro i
    rcases cas i with rfl | e
    · rw [new]
      have := h.cap a
      omega
    · rw [e]
      have := h.cap i
      omega
  · intro i hi
    rcases cas i with rfl | e
    · rw [new]
      have hw := h.wlk a ha.2
      obtain ⟨n, hn⟩ := Int.eq_ofNat_of_zero_le (show 0 ≤ fr a by omega)
      rw [hn] at hw ⊢
      exact ⟨a, ⟨hk6, hb⟩, hw⟩
    · rw [e] at hi ⊢
      exact h.wlk i hi
  · intro i hi
    rcases List.mem_append.1 hi with hi | hi
    · have := h.qd i hi
      rw [old i this.2]
      exact this
    · obtain rfl := List.mem_singleton.1 hi
      rw [new]
      exact ⟨hk6, by omega⟩
  · intro i hi
    have := h.one i hi
    rw [old i (by omega)]
    exact this
  · rw [List.pairwise_append]
    refine ⟨?_, List.pairwise_singleton _ _, fun i hi j hj => ?_⟩
    · refine List.Pairwise.imp_of_mem ?_ h.srt
      intro i j hi hj hij
      rw [old i (h.qd i hi).2, old j (h.qd j hj).2]
      exact hij
    · obtain rfl := List.mem_singleton.1 hj
      rw [new, old i (h.qd i hi).2]
      exact h.hi i
  · rw [ea]
    exact ha
  · intro i hi
    rw [ea]
    rcases List.mem_append.1 hi with hi | hi
    · rw [old i (h.qd i hi).2]
      exact h.lo i hi
    · obtain rfl := List.mem_singleton.1 hi
      rw [new]
      omega
  · intro i
    rw [ea]
    rcases cas i with rfl | e
    · rw [new]; omega
    · rw [e]; exact h.hi i
  · intro v hv h1 h2 h3 j hj
    rcases cas v with rfl | e
    · exact absurd (List.mem_append_right _ (List.mem_singleton_self _)) h2
    · rw [e] at h1 ⊢
      have := h.done v hv h1 (fun hm => h2 (List.mem_append_left _ hm)) h3 j hj
      rw [old j this.1]
      exact this
  · intro j hj hbj
    rw [ea]
    rcases cas j with rfl | e
    · rw [new]
      omega
    · by_cases e2 : j = k
      · subst e2
        rw [new]
        omega
      · rw [e]
        exact h.now j (by omega) hbj

/-- the state when those below k have been looked at for an edge to s -/
def fr0 (f : Nat → Nat) (s k : Nat) : Nat → Int := fun i => if i < k ∧ (f i).testBit s = true then 1 else -1
def q0 (f : Nat → Nat) (s k : Nat) : List Nat := (List.range k).filter fun i => (f i).testBit s
theorem fr0_zero (f : Nat → Nat) (s : Nat) : fr0 f s 0 = fun _ => -1 := by
  funext i
  simp [fr0]
theorem fr0_hit {f : Nat → Nat} {s k : Nat} (h : (f k).testBit s = true) : fr0 f s (k + 1) = updI (fr0 f s k) k 1 := by
  funext i
  unfold fr0 updI
  by_cases e : i = k
  · subst e
    simp [h]
  · simp only [e, if_false]
    have : i < k + 1 ↔ i < k := by omega
    simp only [this]
theorem fr0_miss {f : Nat → Nat} {s k : Nat} (h : (f k).testBit s = false) : fr0 f s (k + 1) = fr0 f s k := by
  funext i
  unfold fr0
  by_cases e : i = k
  · subst e
    simp [h]
  · have : i < k + 1 ↔ i < k := by omega
    simp only [this]
theorem q0_hit {f : Nat → Nat} {s k : Nat} (h : (f k).testBit s = true) : q0 f s (k + 1) = q0 f s k ++ [k] := by
  simp [q0, List.range_succ, h]
theorem q0_miss {f : Nat → Nat} {s k : Nat} (h : (f k).testBit s = false) : q0 f s (k + 1) = q0 f s k := by
  simp [q0, List.range_succ, h]
theorem bfs_start (f : Nat → Nat) (s : Nat) : Bfs f s (fr0 f s 6) (q0 f s 6) := by
  have two : ∀ i, (fr0 f s 6 i = 1 ∧ i < 6 ∧ (f i).testBit s = true) ∨ (fr0 f s 6 i = -1 ∧ ¬ (i < 6 ∧ (f i).testBit s = true)) := fun i => by
    unfold fr0
    split
    · rename_i h; exact .inl ⟨rfl, h⟩
    · rename_i h; exact .inr ⟨rfl, h⟩
  have mq : ∀ i, i ∈ q0 f s 6 ↔ i < 6 ∧ (f i).testBit s = true := fun i => by simp [q0]
  have pos : ∀ i, 1 ≤ fr0 f s 6 i → i < 6 ∧ (f i).testBit s = true := fun i hi => by
    rcases two i with h | h
    · exact h.2
    · omega
  constructor
  · intro i
    rcases two i with h | h
    · right; omega
    · left; exact h.1
  · intro i
    rcases two i with h | h
    · have : 1 ≤ dsc (fr0 f s 6) := by
        have := cnt_lt (p := fun _ => False) (q := fun v => 0 ≤ fr0 f s 6 v) (fun _ h => h.elim) (v := i) (by show 0 ≤ fr0 f s 6 i; omega) (fun h => h) h.2.1
        unfold dsc
        omega
      omega
    · have := h.1
      omega
  · intro i hi
    rcases two i with h | h
    · rw [h.1]
      exact ⟨s, h.2, rfl⟩
    · omega
  · intro i hi
    have := (mq i).1 hi
    rcases two i with h | h
    · exact ⟨h.2.1, by omega⟩
    · exact absurd this h.2
  · intro i hi
    rcases two i with h | h
    · exact h.1
    · exact absurd hi h.2
  · have : ∀ i ∈ q0 f s 6, fr0 f s 6 i = 1 := fun i hi => by
      have := (mq i).1 hi
      rcases two i with h | h
      · exact h.1
      · exact absurd this h.2
    exact List.pairwise_of_forall_mem_list (fun i hi j hj => by rw [this i hi, this j hj]; exact Int.le_refl _)
  · intro a r e i
    have ha : fr0 f s 6 a = 1 := by
      have := (mq a).1 (by rw [e]; exact List.mem_cons_self)
      rcases two a with h | h
      · exact h.1
      · exact absurd this h.2
    rcases two i with h | h
    · omega
    · omega
  · intro v hv h1 h2
    exact absurd ((mq v).2 (pos v h1)) h2

/-- how far it is to s -/
def Dist (f : Nat → Nat) (s : Nat) (fr : Nat → Int) : Prop :=
  ∀ i, (fr i = -1 ∧ ∀ n, ¬ Wlk f s (n + 1) i) ∨ ∃ d : Nat, fr i = d + 1 ∧ d < 6 ∧ Wlk f s (d + 1) i ∧ ∀ n, n < d → ¬ Wlk f s (n + 1) i
theorem Bfs.dist {f : Nat → Nat} {s : Nat} {fr : Nat → Int} (hf : Low f) (h : Bfs f s fr []) : Dist f s fr := by
  have key : ∀ n i, Wlk f s (n + 1) i → 1 ≤ fr i ∧ fr i ≤ n + 1 := by
    intro n
    induction n with
    | zero =>
      rintro i ⟨u, hb, rfl⟩
      rw [h.one i hb]
      omega
    | succ n ih =>
      rintro i ⟨u, hb, hu⟩
      obtain ⟨h1, h2⟩ := ih u hu
      have := h.done u (hb.lt hf).2 h1 (by simp) i hb
      omega
  intro i
  rcases h.rng i with h1 | h1
  · exact .inl ⟨h1, fun n hw => by have := (key n i hw).1; omega⟩
  · right
    obtain ⟨d, hd⟩ := Int.eq_ofNat_of_zero_le (show 0 ≤ fr i - 1 by omega)
    have hc := h.cap i
    have hl := dsc_le fr
    refine ⟨d, by omega, by omega, ?_, fun n hn hw => ?_⟩
    · have := h.wlk i h1
      rwa [show (fr i).toNat = d + 1 by omega] at this
    · have := (key n i hw).2
      omega

/-- the least one after a from which it is l edges further -/
def bnx (f : Nat → Nat) (fr : Nat → Int) (a : Nat) (l : Int) : Nat → Option Nat := fun k => (List.range k).find? fun j => (f a).testBit j && fr j == l
/-- the next l numbers of the way -/
def bway (f : Nat → Nat) (fr : Nat → Int) : Nat → Nat → List Nat
  | 0, _ => []
  | l + 1, a => (bnx f fr a ((l : Int) + 1) 6).getD a :: bway f fr l ((bnx f fr a ((l : Int) + 1) 6).getD a)
theorem bnx_lt {f : Nat → Nat} {fr : Nat → Int} {a : Nat} {l : Int} {k b : Nat} (h : bnx f fr a l k = some b) : b < k ∧ (f a).testBit b = true ∧ fr b = l := by
  unfold bnx at h
  have h1 := List.mem_of_find?_eq_some h
  have h2 := List.find?_some h
  simp only [List.mem_range, Bool.and_eq_true, beq_iff_eq] at h1 h2
  exact ⟨h1, h2⟩
theorem bnx_succ {f : Nat → Nat} {fr : Nat → Int} {a : Nat} {l : Int} {k : Nat} (h : bnx f fr a l k = none) : bnx f fr a l (k + 1) = if (f a).testBit k = true ∧ fr k = l then some k else none := by
  unfold bnx at h ⊢
  rw [List.range_succ, List.find?_append, h]
  simp only [Option.none_or, List.find?_cons, List.find?_nil]
  by_cases hc : (f a).testBit k = true ∧ fr k = l
  · rw [if_pos hc]
    simp [hc.1, hc.2]
  · rw [if_neg hc]
    cases hb : (f a).testBit k with
    | false => simp
    | true =>
      have : (fr k == l) = false := by
        cases he : (fr k == l) with
        | false => rfl
        | true => exact absurd ⟨hb, by simpa using he⟩ hc
      simp [this]
theorem bnx_more {f : Nat → Nat} {fr : Nat → Int} {a : Nat} {l : Int} {k b : Nat} (h : bnx f fr a l k = some b) : ∀ m, k ≤ m → bnx f fr a l m = some b := by
  intro m hm
  obtain ⟨d, rfl⟩ := Nat.exists_eq_add_of_le hm
  clear hm
  induction d with
  | zero => exact h
  | succ d ih =>
    unfold bnx at ih ⊢
    rw [show k + (d + 1) = (k + d) + 1 by omega, List.range_succ, List.find?_append, ih]
    rfl
theorem bway_len (f : Nat → Nat) (fr : Nat → Int) : ∀ l a, (bway f fr l a).length = l
  | 0, _ => rfl
  | l + 1, a => by simp [bway, bway_len]
end Go.Proofs.YtbglkjmoednapaaDoor
