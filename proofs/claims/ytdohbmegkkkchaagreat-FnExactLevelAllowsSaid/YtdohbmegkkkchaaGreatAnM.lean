/-
  Contracts of HasAnomaly and AnomaliesOf, the reference's and the program's.
-/
import Derived.Test.YtdohbmegkkkchaaGreatTop
import Derived.Deep.RegionHeld3
/-
  How far it is from every number to a target along edges: plain facts, and the reference's l9Far and l10Upto.
-/
namespace Go.Proofs.YtdohbmegkkkchaaGreat
set_option linter.unusedSimpArgs false
set_option linter.unusedVariables false
set_option maxRecDepth 100000
open Go.RowKit

def updI (f : Nat → Int) (i : Nat) (x : Int) : Nat → Int := fun j => if j = i then x else f j
theorem updI_same (f : Nat → Int) (i : Nat) (x : Int) : updI f i x i = x := if_pos rfl
theorem updI_other (f : Nat → Int) {i j : Nat} (x : Int) (h : j ≠ i) : updI f i x j = f j := if_neg h
def farStep (s : Nat) (f : Nat → Int) (e : T3) : Nat → Int := if f e.b.toNat = s ∧ f e.a.toNat < 0 then updI f e.a.toNat (s + 1) else f
def far0 (t : Nat) : Nat → Int := updI (fun _ => -1) t 0
/-- the distances after s rounds over the edges -/
def farT (L : List T3) (t : Nat) : Nat → (Nat → Int)
  | 0 => far0 t
  | s + 1 => L.foldl (farStep s) (farT L t s)
theorem fold_take {α β : Type} (g : β → α → β) (b : β) {L : List α} {k : Nat} {e : α} (h : L[k]? = some e) : (L.take (k + 1)).foldl g b = g ((L.take k).foldl g b) e := by
  rw [List.take_add_one, h]
  simp

/-- there is an edge -/
def Ed (L : List T3) (i j : Nat) : Prop := ∃ e ∈ L, e.a = i ∧ e.b = j
/-- at most d edges lead from v to t -/
def Rd (L : List T3) (t : Nat) : Nat → Nat → Prop
  | 0, v => v = t
  | d + 1, v => Rd L t d v ∨ ∃ u, Ed L v u ∧ Rd L t d u
theorem Rd.more {L : List T3} {t : Nat} : ∀ {d d' v : Nat}, d ≤ d' → Rd L t d v → Rd L t d' v := by
  intro d d' v h hr
  induction d' with
  | zero => obtain rfl : d = 0 := by omega
            exact hr
  | succ d' ih =>
    rcases Nat.lt_or_ge d (d' + 1) with h1 | h1
    · exact .inl (ih (by omega))
    · obtain rfl : d = d' + 1 := by omega
      exact hr
/-- what the rounds reckon: each value is the least number of edges, as far as it is at most the number of rounds -/
def Far (L : List T3) (t s : Nat) (f : Nat → Int) : Prop := ∀ v, (f v = -1 ∧ ¬ Rd L t s v) ∨ ∃ d : Nat, f v = d ∧ d ≤ s ∧ Rd L t d v ∧ ∀ d', d' < d → ¬ Rd L t d' v
theorem Far.zero (L : List T3) (t : Nat) : Far L t 0 (far0 t) := fun v => by
  unfold far0
  by_cases h : v = t
  · subst h
    right
    exact ⟨0, updI_same _ _ _, Nat.le_refl _, rfl, fun d' h => by omega⟩
  · left
    exact ⟨updI_other _ _ h, h⟩
/-- one round -/
theorem Far.pass {L : List T3} (hL : ∀ e ∈ L, 0 ≤ e.a ∧ 0 ≤ e.b) {t s : Nat} {f : Nat → Int} (h : Far L t s f) : Far L t (s + 1) (L.foldl (farStep s) f) := by
  have key : ∀ k, k ≤ L.length → ∀ v, (0 ≤ f v → (L.take k).foldl (farStep s) f v = f v) ∧ (f v < 0 → ((L.take k).foldl (farStep s) f v = -1 ∧ ¬ ∃ e ∈ L.take k, e.a = v ∧ f e.b.toNat = s) ∨ ((L.take k).foldl (farStep s) f v = s + 1 ∧ ∃ e ∈ L.take k, e.a = v ∧ f e.b.toNat = s)) := by
    intro k
    induction k with
    | zero =>
      intro _ v
      refine ⟨fun _ => rfl, fun hv => .inl ⟨?_, by simp⟩⟩
      rcases h v with ⟨e, _⟩ | ⟨d, e, _⟩
      · simpa using e
      · omega
    | succ k ih =>
      intro hk v
      have IH := ih (by omega)
      have hx : L[k]? = some L[k] := List.getElem?_eq_getElem (by omega)
      obtain ⟨ha, hb⟩ := hL L[k] (List.getElem_mem _)
      rw [fold_take _ _ hx]
      generalize (L.take k).foldl (farStep s) f = g at IH
      have hmem : ∀ v, (∃ e ∈ L.take (k + 1), e.a = v ∧ f e.b.toNat = s) ↔ (∃ e ∈ L.take k, e.a = v ∧ f e.b.toNat = s) ∨ (L[k].a = v ∧ f L[k].b.toNat = s) := by
        intro v
        rw [List.take_add_one, hx]
        simp only [Option.toList, List.mem_append, List.mem_singleton]
        constructor
        · rintro ⟨e, h | rfl, h3⟩
          · exact .inl ⟨e, h, h3⟩
          · exact .inr h3
        · rintro (⟨e, h, h3⟩ | h3)
          · exact ⟨e, .inl h, h3⟩
          · exact ⟨_, .inr rfl, h3⟩
      rw [hmem]
      generalize L[k] = e at ha hb hmem
      have hb1 : g e.b.toNat = s ↔ f e.b.toNat = s := by
        rcases Int.lt_or_le (f e.b.toNat) 0 with h1 | h1
        · rcases (IH e.b.toNat).2 h1 with ⟨h2, _⟩ | ⟨h2, _⟩ <;> rw [h2] <;> omega
        · rw [(IH e.b.toNat).1 h1]
      have ha1 : g e.a.toNat < 0 ↔ f e.a.toNat < 0 ∧ ¬ ∃ e' ∈ L.take k, e'.a = e.a.toNat ∧ f e'.b.toNat = s := by
        rcases Int.lt_or_le (f e.a.toNat) 0 with h1 | h1
        · rcases (IH e.a.toNat).2 h1 with ⟨h2, h3⟩ | ⟨h2, h3⟩
          · rw [h2]; exact ⟨fun _ => ⟨h1, h3⟩, fun _ => by omega⟩
          · rw [h2]; exact ⟨fun h => by omega, fun h => absurd h3 h.2⟩
        · rw [(IH e.a.toNat).1 h1]
          exact ⟨fun h => by omega, fun h => by omega⟩
      unfold farStep
      split
      · rename_i hc
        obtain ⟨hc1, hc2⟩ := hc
        have hf1 := hb1.1 hc1
        obtain ⟨hf2, hf3⟩ := ha1.1 hc2
        by_cases hva : v = e.a.toNat
        · subst hva
          rw [updI_same]
          refine ⟨fun h => by omega, fun _ => .inr ⟨rfl, .inr ⟨by omega, hf1⟩⟩⟩
        · rw [updI_other _ _ hva]
          refine ⟨(IH v).1, fun hv => ?_⟩
          rcases (IH v).2 hv with ⟨h2, h3⟩ | ⟨h2, h3⟩
          · exact .inl ⟨h2, fun h => by rcases h with h | ⟨h, _⟩; exact h3 h; omega⟩
          · exact .inr ⟨h2, .inl h3⟩
      · rename_i hc
        refine ⟨(IH v).1, fun hv => ?_⟩
        rcases (IH v).2 hv with ⟨h2, h3⟩ | ⟨h2, h3⟩
        · refine .inl ⟨h2, fun h => ?_⟩
          rcases h with h | ⟨h4, h5⟩
          · exact h3 h
          · have hva : e.a.toNat = v := by omega
            exact hc ⟨hb1.2 h5, by rw [hva, h2]; omega⟩
        · exact .inr ⟨h2, .inl h3⟩
  have KEY := key L.length (Nat.le_refl _)
  rw [List.take_length] at KEY
  intro v
  rcases h v with ⟨e, hn⟩ | ⟨d, e, hd, hr, hm⟩
  · rcases (KEY v).2 (by omega) with ⟨h2, h3⟩ | ⟨h2, ⟨e', he', h3, h4⟩⟩
    · left
      refine ⟨h2, ?_⟩
      rintro (h5 | ⟨u, ⟨e', he', h6, h7⟩, h8⟩)
      · exact hn h5
      · refine h3 ⟨e', he', h6, ?_⟩
        have hu : e'.b.toNat = u := by omega
        rw [hu]
        rcases h u with ⟨_, h9⟩ | ⟨d, h9, h10, h11, _⟩
        · exact absurd h8 h9
        · rcases Nat.lt_or_ge d s with h12 | h12
          · exact absurd (Rd.more (d := d + 1) (by omega) (.inr ⟨u, ⟨e', he', h6, h7⟩, h11⟩)) hn
          · rw [h9]; omega
    · right
      refine ⟨s + 1, by rw [h2]; rfl, Nat.le_refl _, ?_, fun d' hd' hr => hn (Rd.more (by omega) hr)⟩
      right
      obtain ⟨ha, hb⟩ := hL e' he'
      refine ⟨e'.b.toNat, ⟨e', he', h3, by omega⟩, ?_⟩
      rcases h e'.b.toNat with ⟨h5, _⟩ | ⟨d, h5, _, h6, _⟩
      · omega
      · obtain rfl : d = s := by omega
        exact h6
  · right
    exact ⟨d, by rw [(KEY v).1 (by omega)]; exact e, by omega, hr, hm⟩
theorem far_spec {L : List T3} (hL : ∀ e ∈ L, 0 ≤ e.a ∧ 0 ≤ e.b) (t : Nat) : ∀ s, Far L t s (farT L t s)
  | 0 => Far.zero L t
  | s + 1 => Far.pass hL (far_spec hL t s)

/-- how many below m -/
def cnt (p : Nat → Prop) [DecidablePred p] : Nat → Nat
  | 0 => 0
  | m + 1 => cnt p m + if p m then 1 else 0
theorem cnt_le (p : Nat → Prop) [DecidablePred p] (m : Nat) : cnt p m ≤ m := by
  induction m with
  | zero => exact Nat.le_refl _
  | succ m ih => unfold cnt; split <;> omega
theorem cnt_mono {p q : Nat → Prop} [DecidablePred p] [DecidablePred q] (h : ∀ v, p v → q v) (m : Nat) : cnt p m ≤ cnt q m := by
  induction m with
  | zero => exact Nat.le_refl _
  | succ m ih =>
    unfold cnt
    by_cases h1 : p m
    · rw [if_pos h1, if_pos (h m h1)]; omega
    · rw [if_neg h1]; omega
theorem cnt_lt {p q : Nat → Prop} [DecidablePred p] [DecidablePred q] (h : ∀ v, p v → q v) {v : Nat} (hq : q v) (hp : ¬ p v) : ∀ {m : Nat}, v < m → cnt p m + 1 ≤ cnt q m := by
  intro m
  induction m with
  | zero => intro hv; omega
  | succ m ih =>
    intro hv
    unfold cnt
    by_cases e : v = m
    · subst e
      rw [if_neg hp, if_pos hq]
      have := cnt_mono h v
      omega
    · have := ih (by omega)
      by_cases h1 : p m
      · rw [if_pos h1, if_pos (h m h1)]; omega
      · rw [if_neg h1]; omega
/-- among m numbers less than m edges suffice -/
theorem Rd.enough {L : List T3} {m t : Nat} (ht : t < m) (hE : ∀ i j, Ed L i j → i < m) {d v : Nat} (h : Rd L t d v) : Rd L t (m - 1) v := by
  classical
  have st : ∀ k, (∃ d, d < k ∧ ∀ v, Rd L t (d + 1) v → Rd L t d v) ∨ k + 1 ≤ cnt (fun v => Rd L t k v) m := by
    intro k
    induction k with
    | zero =>
      right
      have : cnt (fun _ => False) m + 1 ≤ cnt (fun v => Rd L t 0 v) m := cnt_lt (p := fun _ => False) (q := fun v => Rd L t 0 v) (fun _ h => False.elim h) (v := t) rfl (fun h => h) ht
      omega
    | succ k ih =>
      rcases ih with ⟨d, hd, h1⟩ | h1
      · exact .inl ⟨d, by omega, h1⟩
      · by_cases hs : ∀ v, Rd L t (k + 1) v → Rd L t k v
        · exact .inl ⟨k, by omega, hs⟩
        · right
          have ⟨v, hv⟩ : ∃ v, ¬ (Rd L t (k + 1) v → Rd L t k v) := Classical.not_forall.1 hs
          have hv1 : Rd L t (k + 1) v := Classical.byContradiction fun h => hv (fun h' => absurd h' h)
          have hv2 : ¬ Rd L t k v := fun h => hv (fun _ => h)
          have hvm : v < m := by
            rcases hv1 with h2 | ⟨u, h2, _⟩
            · exact absurd h2 hv2
            · exact hE v u h2
          have := cnt_lt (p := fun v => Rd L t k v) (q := fun v => Rd L t (k + 1) v) (fun v h => .inl h) hv1 hv2 hvm
          omega
  rcases st m with ⟨d0, hd0, hs⟩ | hc
  · have hall : ∀ d v, Rd L t d v → Rd L t d0 v := by
      intro d
      induction d with
      | zero => intro v h; exact Rd.more (Nat.zero_le _) h
      | succ d ih =>
        rintro v (h | ⟨u, h1, h2⟩)
        · exact ih v h
        · exact hs v (.inr ⟨u, h1, ih u h2⟩)
    exact Rd.more (by omega) (hall d v h)
  · have := cnt_le (fun v => Rd L t m v) m
    omega
theorem Rd.path {L : List T3} {t : Nat} : ∀ {d v : Nat}, Rd L t d v → v = t ∨ Relation.TransGen (Ed L) v t := by
  intro d
  induction d with
  | zero => intro v h; exact .inl h
  | succ d ih =>
    rintro v (h | ⟨u, h1, h2⟩)
    · exact ih h
    · right
      rcases ih h2 with rfl | h3
      · exact .single h1
      · exact Relation.TransGen.trans (.single h1) h3
theorem Rd.of_path {L : List T3} {t v : Nat} (h : Relation.TransGen (Ed L) v t) : ∃ u d, Ed L v u ∧ Rd L t d u := by
  induction h with
  | single h => exact ⟨_, 0, h, rfl⟩
  | tail h1 h2 ih =>
    rename_i b c
    obtain ⟨u, d, h3, h4⟩ := ih
    refine ⟨u, d + 1, h3, ?_⟩
    have key : ∀ d u, Rd L b d u → Rd L c (d + 1) u := by
      intro d
      induction d with
      | zero => intro u h; cases h; exact .inr ⟨c, h2, rfl⟩
      | succ d ih =>
        rintro u (h | ⟨x, h5, h6⟩)
        · exact .inl (ih u h)
        · exact .inr ⟨x, h5, ih x h6⟩
    exact key d u h4
/-- a value of at least 0: it can be reached -/
theorem far_iff {L : List T3} {m t : Nat} (ht : t < m) (hL : ∀ e ∈ L, 0 ≤ e.a ∧ e.a < m ∧ 0 ≤ e.b ∧ e.b < m) (v : Nat) : 0 ≤ farT L t m v ↔ v = t ∨ Relation.TransGen (Ed L) v t := by
  have hs := far_spec (fun e he => by have := hL e he; omega) t m v
  have hE : ∀ i j, Ed L i j → i < m := fun i j ⟨e, he, h1, _⟩ => by have := hL e he; omega
  constructor
  · intro h
    rcases hs with ⟨e, _⟩ | ⟨d, _, _, hr, _⟩
    · omega
    · exact hr.path
  · intro h
    have hr : Rd L t m v := by
      rcases h with rfl | h
      · exact Rd.more (Nat.zero_le _) rfl
      · obtain ⟨u, d, h1, h2⟩ := Rd.of_path h
        exact Rd.more (by omega) (Rd.enough ht hE (d := d + 1) (.inr ⟨u, h1, h2⟩))
    rcases hs with ⟨_, hn⟩ | ⟨d, e, _⟩
    · exact absurd hr hn
    · omega

/-- the first m values as a list -/
def fl (m : Nat) (f : Nat → Int) : List Int := (List.range m).map f
theorem fl_len (m : Nat) (f : Nat → Int) : (fl m f).length = m := by simp [fl]
theorem fl_get {m : Nat} {f : Nat → Int} {i : Nat} (h : i < m) : (fl m f)[i]? = some (f i) := by simp [fl, h]
theorem fl_set {m : Nat} {f : Nat → Int} {i : Nat} {x : Int} (h : i < m) : (fl m f).set i x = fl m (updI f i x) := by
  apply List.ext_getElem?
  intro j
  rw [List.getElem?_set]
  rcases Nat.lt_or_ge j m with hj | hj
  · rw [fl_get hj, fl_get hj]
    by_cases e : i = j
    · subst e
      rw [if_pos rfl, if_pos (by rw [fl_len]; exact h), updI_same]
    · rw [if_neg e, updI_other _ _ (fun h => e h.symm)]
  · have h1 : ∀ g, (fl m g)[j]? = none := fun g => List.getElem?_eq_none (by rw [fl_len]; exact hj)
    rw [h1, h1]
    split
    · omega
    · rfl
theorem fl_snoc (m : Nat) (f : Nat → Int) : fl (m + 1) f = fl m f ++ [f m] := by simp [fl, List.range_succ]
end Go.Proofs.YtdohbmegkkkchaaGreat
/-
  Contracts of the reference's l9Far and l10Upto.
-/
namespace Go.Proofs.YtdohbmegkkkchaaGreat
set_option linter.unusedSimpArgs false
set_option linter.unusedVariables false
set_option maxRecDepth 100000
open Go.RowKit

/-- one cell of a slice whose head is known -/
theorem Ints.cell {S : Nat → Prop} {w : World} {b off : Nat} {xs : List Int} (h : Ints S w (some ⟨b, off, none⟩) xs) {i : Nat} {x : Int} (hx : xs[i]? = some x) : w.cell? ⟨b, off + i, none⟩ = some (.int .i64 x) := by
  obtain ⟨b', off', us, e, _, _, _, hr, hc⟩ := h i x hx
  cases e
  cases hr
  simpa using hc 0 _ rfl
theorem Ints.off_ {S : Nat → Prop} {w : World} {A : Option Addr} {xs : List Int} (h : Ints S w A xs) (hn : 0 < xs.length) : ∃ b off, A = some ⟨b, off, none⟩ ∧ S b ∧ b < w.heap.size := by
  obtain ⟨x, b, off, _, e, hS, hb, _⟩ := h.at_ hn
  exact ⟨b, off, e, hS, hb⟩
/-- valid edges over m numbers -/
def EdM (m : Nat) (L : List T3) : Prop := ∀ e ∈ L, 0 ≤ e.a ∧ e.a < m ∧ 0 ≤ e.b ∧ e.b < m ∧ e.a ≠ e.b ∧ 1 ≤ e.c ∧ e.c ≤ 4
theorem farT_ge {L : List T3} {m : Nat} (hL : EdM m L) (t s v : Nat) : -1 ≤ farT L t s v ∧ farT L t s v ≤ s := by
  rcases far_spec (fun e he => by have := hL e he; omega) t s v with ⟨e, _⟩ | ⟨d, e, h, _⟩ <;> omega
/-- within a round the values stay small -/
theorem fold_ge {L : List T3} {s : Nat} {f : Nat → Int} (h : ∀ v, -1 ≤ f v ∧ f v ≤ s + 1) : ∀ v, -1 ≤ L.foldl (farStep s) f v ∧ L.foldl (farStep s) f v ≤ s + 1 := by
  induction L generalizing f with
  | nil => exact h
  | cons e L ih =>
    refine ih fun v => ?_
    unfold farStep
    split
    · unfold updI
      split
      · omega
      · exact h v
    · exact h v

theorem farStep_nat (s : Nat) (g : Nat → Int) (a y : Nat) (z : Int) : farStep s g ⟨(a : Int), (y : Int), z⟩ = if g y = s ∧ g a < 0 then updI g a (s + 1) else g := by simp [farStep]

set_option maxHeartbeats 4000000 in
theorem l9Far_c (m t : Nat) (L : List T3) (S : Nat → Prop) (A : Option Addr) (c : Nat) (w : World) (hx : Ops S w A L) (hn : L.length ≤ 144) (hm : m ≤ 6) (ht : t < m) (hL : EdM m L) :
    Calls Tryz.prog 77 #[.int .i64 m, .slice A L.length c, .int .i64 t] w (FreshI (fl m (farT L t m)) w) := by
  have HL := Lib.hid hL
  clear hL
  go_enter Tryz.func77, Tryz.ntmps77
  go_wp2
  have hO : Own1 (w.alloc (.cells #[] 3)) w.heap.size 3 (.slice (some ⟨w.heap.size, 0, none⟩) 0 0) (fl 0 fun _ => -1) := Own1.made w _ 0 rfl (by omega) (by omega) (by simp)
  have HO := Lib.hid hO
  clear hO
  go_loopw [7, 8] (fun v i wr => ∃ k : Nat, k ≤ m ∧ i = .int .i64 k ∧ Own1 wr w.heap.size 3 v (fl k fun _ => -1) ∧ Ext w wr) (fun _ i _ => m - (intOf i).toNat)
  case atStart => exact ⟨0, Nat.zero_le _, rfl, HO.out, by (repeat' (first | (with_reducible exact Below.refl _ _) | (with_reducible refine Below.mono (by assumption) ?_) | (with_reducible refine Below.trans ?_ (Below.mono (by assumption) ?_)) | (with_reducible refine Below.alloc ?_ ?_ _) | (with_reducible refine Below.drew ?_) | (with_reducible refine below_drewN ?_ _) | (with_reducible refine Below.setCell ?_ ?_ _) | (simp only [World.size_alloc, World.size_setCell, World.size_drew, size_drewN]; omega) | omega))⟩
  case round =>
    obtain ⟨k, hk, rfl, hown, hE⟩ := hrel
    have hfl := fl_len k (fun _ => (-1 : Int))
    have hEz := hE.size
    by_cases hlt : k < m
    · have hsn := fl_snoc k (fun _ => (-1 : Int))
      have HS := Lib.hid hsn
      clear hsn HO
      go_wp2_with (at_builtin; refine wpList_append1 _ rfl _ _ 47 rfl w.heap.size 3 Tryz.underlying47 infoInt rfl _ (fl k fun _ => -1) rfl (hown.ext (by (repeat' (first | (with_reducible exact Below.refl _ _) | (with_reducible refine Below.mono (by assumption) ?_) | (with_reducible refine Below.trans ?_ (Below.mono (by assumption) ?_)) | (with_reducible refine Below.alloc ?_ ?_ _) | (with_reducible refine Below.drew ?_) | (with_reducible refine below_drewN ?_ _) | (with_reducible refine Below.setCell ?_ ?_ _) | (simp only [World.size_alloc, World.size_setCell, World.size_drew, size_drewN]; omega) | omega)))) _ (-1) rfl ?_ ?_ ?_ ?_)
      all_goals try (first | omega | (simp only [World.size_alloc]; have := hE.size; omega) | (go_simp; done))
      intro v' w' hown' hgrow
      rw [← HS.out] at hown'
      have hE2 : Ext w w' := Below.grown (w := wr.alloc (.cells #[.int .i64 (-1)] 3)) (by (repeat' (first | (with_reducible exact Below.refl _ _) | (with_reducible refine Below.mono (by assumption) ?_) | (with_reducible refine Below.trans ?_ (Below.mono (by assumption) ?_)) | (with_reducible refine Below.alloc ?_ ?_ _) | (with_reducible refine Below.drew ?_) | (with_reducible refine below_drewN ?_ _) | (with_reducible refine Below.setCell ?_ ?_ _) | (simp only [World.size_alloc, World.size_setCell, World.size_drew, size_drewN]; omega) | omega))) hgrow (by simp only [World.size_alloc]; have := hE.size; omega) (fun g hg => own1_block hown g hg)
      clear hown hgrow
      go_wp2
      go_roundw
      case measure => simp [intOf]; omega
      case rel => exact ⟨k + 1, by omega, by go_num, hown', hE2⟩
    · obtain rfl : k = m := by omega
      obtain ⟨B, c', he, hA, hf⟩ := hown.form
      rw [hfl] at he
      obtain ⟨b, off, rfl, hSb, hb⟩ := hA.off_ (by rw [hfl]; omega)
      subst he
      have hf0 : ∀ o, wr.frozen? ⟨b, o, none⟩ = false := (hf _ rfl).2.2
      have hc0 := hA.cell (fl_get (f := fun _ => (-1 : Int)) ht)
      have hti : (t : Int) < k := by omega
      have hs0 := hA.set1 (i := t) (by rw [hfl]; exact ht) 0
      rw [fl_set ht] at hs0
      have hE1 : Ext w (wr.setCell ⟨b, off + t, none⟩ (.int .i64 0)) := by (repeat' (first | (with_reducible exact Below.refl _ _) | (with_reducible refine Below.mono (by assumption) ?_) | (with_reducible refine Below.trans ?_ (Below.mono (by assumption) ?_)) | (with_reducible refine Below.alloc ?_ ?_ _) | (with_reducible refine Below.drew ?_) | (with_reducible refine below_drewN ?_ _) | (with_reducible refine Below.setCell ?_ ?_ _) | (simp only [World.size_alloc, World.size_setCell, World.size_drew, size_drewN]; omega) | omega))
      have HA := Lib.hid hs0
      clear hfl hown hA hf hs0 HO
      go_wp2
      go_loopw [9] (fun i wr => ∃ s : Nat, s ≤ k ∧ i = .int .i64 s ∧ Ints (fun b => w.heap.size ≤ b) wr (some ⟨b, off, none⟩) (fl k (farT L t s)) ∧ Ext w wr ∧ (∀ o, wr.frozen? ⟨b, o, none⟩ = false) ∧ b < wr.heap.size) (fun i _ => k - (intOf i).toNat)
      case atStart => exact ⟨0, Nat.zero_le _, rfl, HA.out, hE1, fun o => by rw [World.frozen?_setCell]; exact hf0 o, by simp [World.setCell]; exact hb⟩
      case round =>
        obtain ⟨s, hs, rfl, hI, hE, hfz, hbz⟩ := hrel
        clear hc0 HA hE1 hf0
        by_cases hlt2 : s < k
        · obtain ⟨wo, rfl⟩ : ∃ wo : World, wo = wr := ⟨_, rfl⟩
          have hge := fun v => farT_ge HL.out t s v
          have hst : farT L t (s + 1) = L.foldl (farStep s) (farT L t s) := rfl
          have HS := Lib.hid hst
          clear hst
          generalize farT L t s = f0 at hI hge HS
          have HG := Lib.hid hge
          have HI := Lib.hid hI
          have HFZ := Lib.hid hfz
          clear hge hI hfz
          go_wp2
          go_loopw [10] (fun i wr => ∃ j : Nat, j ≤ L.length ∧ i = .int .i64 j ∧ Ints (fun b => w.heap.size ≤ b) wr (some ⟨b, off, none⟩) (fl k ((L.take j).foldl (farStep s) f0)) ∧ Ext w wr ∧ (∀ o, wr.frozen? ⟨b, o, none⟩ = false) ∧ b < wr.heap.size) (fun i _ => L.length - (intOf i).toNat)
          case atStart => exact ⟨0, Nat.zero_le _, rfl, HI.out, hE, HFZ.out, hbz⟩
          case round =>
            obtain ⟨j, hj, rfl, hI, hE3, hfz, hbz3⟩ := hrel
            have hfz0 := hfz
            clear HI HFZ
            by_cases hlt3 : j < L.length
            · obtain ⟨x0, x1, x2, b2, off2, hxk, rfl, _, hb2, d0, d1, d2⟩ := (hx.ext hE3).at_ hlt3
              obtain ⟨v1, v2, v3, v4, _⟩ := HL.out _ (List.mem_of_getElem? hxk)
              simp only at v1 v2 v3 v4
              have hft := fold_take (farStep s) f0 hxk
              have hgv := fold_ge (L := L.take j) (s := s) (f := f0) (fun v => by have := HG.out v; omega)
              generalize (L.take j).foldl (farStep s) f0 = g at hI hft hgv
              obtain ⟨a, rfl⟩ := Int.eq_ofNat_of_zero_le v1
              obtain ⟨y, rfl⟩ := Int.eq_ofNat_of_zero_le v3
              have ha : a < k := by omega
              have hy : y < k := by omega
              have ca := hI.cell (fl_get (f := g) ha)
              have cy := hI.cell (fl_get (f := g) hy)
              have hga := hgv a
              have hgy := hgv y
              rw [farStep_nat] at hft
              have HT := Lib.hid hft
              have hset := hI.set1 (i := a) (by rw [fl_len]; exact ha) ((s : Int) + 1)
              rw [fl_set ha] at hset
              have hEb : Ext wr (wr.alloc (.cells #[.int .i64 a, .int .i64 y, .int .i64 x2] 51)) := by (repeat' (first | (with_reducible exact Below.refl _ _) | (with_reducible refine Below.mono (by assumption) ?_) | (with_reducible refine Below.trans ?_ (Below.mono (by assumption) ?_)) | (with_reducible refine Below.alloc ?_ ?_ _) | (with_reducible refine Below.drew ?_) | (with_reducible refine below_drewN ?_ _) | (with_reducible refine Below.setCell ?_ ?_ _) | (simp only [World.size_alloc, World.size_setCell, World.size_drew, size_drewN]; omega) | omega))
              have HI := Lib.hid hI
              clear hft hgv hxk hset hI
              generalize hga2 : g a = ga at ca hga
              generalize hgy2 : g y = gy at cy hgy
              have HGA := Lib.hid hga2
              have HGY := Lib.hid hgy2
              clear hga2 hgy2
              by_cases hc : gy = s ∧ ga < 0
              · obtain ⟨rfl, hc2⟩ := hc
                have hq : (L.take (j + 1)).foldl (farStep s) f0 = updI g a (s + 1) := by rw [HT.out, if_pos ⟨HGY.out, by rw [HGA.out]; exact hc2⟩]
                have HQ := Lib.hid hq
                have e1 : ((s : Int) == s) = true := by simp
                have hai : (a : Int) < k := by omega
                have hyi : (y : Int) < k := by omega
                clear hq HT
                go_wp2
                refine ⟨⟨j + 1, by omega, by go_num, ?_, by (repeat' (first | (with_reducible exact Below.refl _ _) | (with_reducible refine Below.mono (by assumption) ?_) | (with_reducible refine Below.trans ?_ (Below.mono (by assumption) ?_)) | (with_reducible refine Below.alloc ?_ ?_ _) | (with_reducible refine Below.drew ?_) | (with_reducible refine below_drewN ?_ _) | (with_reducible refine Below.setCell ?_ ?_ _) | (simp only [World.size_alloc, World.size_setCell, World.size_drew, size_drewN]; omega) | omega)), fun o => ?_, by simp only [World.size_setCell, World.size_alloc]; omega⟩, by simp [intOf]; omega⟩
                · rw [HQ.out]
                  have h := HI.out.set1 (i := a) (by rw [fl_len]; exact ha) ((s : Int) + 1)
                  rw [fl_set ha] at h
                  exact h.ext (by (repeat' (first | (with_reducible exact Below.refl _ _) | (with_reducible refine Below.mono (by assumption) ?_) | (with_reducible refine Below.trans ?_ (Below.mono (by assumption) ?_)) | (with_reducible refine Below.alloc ?_ ?_ _) | (with_reducible refine Below.drew ?_) | (with_reducible refine below_drewN ?_ _) | (with_reducible refine Below.setCell ?_ ?_ _) | (simp only [World.size_alloc, World.size_setCell, World.size_drew, size_drewN]; omega) | omega)))
                · have hEq : Ext (wr.setCell ⟨b, off + a, none⟩ (.int .i64 ((s : Int) + 1))) ((wr.setCell ⟨b, off + a, none⟩ (.int .i64 ((s : Int) + 1))).alloc (.cells #[.int .i64 a, .int .i64 y, .int .i64 x2] 51)) := by (repeat' (first | (with_reducible exact Below.refl _ _) | (with_reducible refine Below.mono (by assumption) ?_) | (with_reducible refine Below.trans ?_ (Below.mono (by assumption) ?_)) | (with_reducible refine Below.alloc ?_ ?_ _) | (with_reducible refine Below.drew ?_) | (with_reducible refine below_drewN ?_ _) | (with_reducible refine Below.setCell ?_ ?_ _) | (simp only [World.size_alloc, World.size_setCell, World.size_drew, size_drewN]; omega) | omega))
                  have h1 := hEq.frozen (p := ⟨b, o, none⟩) (by simp only [World.size_setCell]; exact hbz3)
                  rw [World.frozen?_setCell] at h1
                  exact h1.trans (hfz0 o)
              · have hq : (L.take (j + 1)).foldl (farStep s) f0 = g := by rw [HT.out, if_neg (by rw [HGA.out, HGY.out]; exact hc)]
                have HQ := Lib.hid hq
                have hai : (a : Int) < k := by omega
                have hyi : (y : Int) < k := by omega
                clear hq HT
                by_cases hgs : gy = s
                · subst hgs
                  have hc2 : ¬ ga < 0 := fun h => hc ⟨rfl, h⟩
                  have e1 : ((s : Int) == s) = true := by simp
                  clear hc
                  go_wp2
                  exact ⟨⟨j + 1, by omega, by go_num, by rw [HQ.out]; exact HI.out.ext hEb, by (repeat' (first | (with_reducible exact Below.refl _ _) | (with_reducible refine Below.mono (by assumption) ?_) | (with_reducible refine Below.trans ?_ (Below.mono (by assumption) ?_)) | (with_reducible refine Below.alloc ?_ ?_ _) | (with_reducible refine Below.drew ?_) | (with_reducible refine below_drewN ?_ _) | (with_reducible refine Below.setCell ?_ ?_ _) | (simp only [World.size_alloc, World.size_setCell, World.size_drew, size_drewN]; omega) | omega)), fun o => (hEb.frozen (p := ⟨b, o, none⟩) hbz3).trans (hfz0 o), by simp only [World.size_alloc]; omega⟩, by simp [intOf]; omega⟩
                · have e1 : (gy == (s : Int)) = false := by simpa using hgs
                  clear hc hgs
                  go_wp2
                  exact ⟨⟨j + 1, by omega, by go_num, by rw [HQ.out]; exact HI.out.ext hEb, by (repeat' (first | (with_reducible exact Below.refl _ _) | (with_reducible refine Below.mono (by assumption) ?_) | (with_reducible refine Below.trans ?_ (Below.mono (by assumption) ?_)) | (with_reducible refine Below.alloc ?_ ?_ _) | (with_reducible refine Below.drew ?_) | (with_reducible refine below_drewN ?_ _) | (with_reducible refine Below.setCell ?_ ?_ _) | (simp only [World.size_alloc, World.size_setCell, World.size_drew, size_drewN]; omega) | omega)), fun o => (hEb.frozen (p := ⟨b, o, none⟩) hbz3).trans (hfz0 o), by simp only [World.size_alloc]; omega⟩, by simp [intOf]; omega⟩
            · obtain rfl : j = L.length := by omega
              rw [List.take_length, ← HS.out] at hI
              have HI := Lib.hid hI
              clear hI
              go_wp2
              exact ⟨⟨s + 1, by omega, by go_num, HI.out, hE3, hfz0, hbz3⟩, by simp [intOf]; omega⟩
        · obtain rfl : s = k := by omega
          have HI := Lib.hid hI
          have HFZ := Lib.hid hfz
          have hfl2 := fl_len s (farT L t s)
          have HFL := Lib.hid hfl2
          clear hI hfz hfl2
          go_wp2
          go_ret
          refine ⟨some ⟨b, off, none⟩, c', by rw [HFL.out]; rfl, HI.out, fun a ha => ?_, hE⟩
          cases ha
          exact ⟨hSb, hbz, HFZ.out⟩
end Go.Proofs.YtdohbmegkkkchaaGreat
/-
  Contracts of the reference's CycleOf and l10Upto.
-/
namespace Go.Proofs.YtdohbmegkkkchaaGreat
set_option linter.unusedSimpArgs false
set_option linter.unusedVariables false
set_option maxRecDepth 100000
open Go.RowKit

def bstep (s : Nat) (f : Nat → Int) (b : Int) (e : T3) : Int := if e.a = s ∧ 0 ≤ f e.b.toNat ∧ (b < 0 ∨ f e.b.toNat < b) then f e.b.toNat else b
/-- the least distance behind an edge from s, or -1 -/
def best (L : List T3) (f : Nat → Int) (s : Nat) : Int := L.foldl (bstep s f) (-1)
def nstep (a : Int) (f : Nat → Int) (left : Nat) (n : Int) (e : T3) : Int := if e.a = a ∧ f e.b.toNat = left then min n e.b else n
/-- the least number behind an edge from a that is just so far away, or m -/
def nxt (m : Nat) (L : List T3) (f : Nat → Int) (a : Int) (left : Nat) : Int := L.foldl (nstep a f left) m
def way (m : Nat) (L : List T3) (f : Nat → Int) : Nat → Int → List Int
  | 0, _ => []
  | l + 1, a => nxt m L f a (l + 1) :: way m L f l (nxt m L f a (l + 1))
theorem way_len (m : Nat) (L : List T3) (f : Nat → Int) : ∀ l a, (way m L f l a).length = l
  | 0, _ => rfl
  | l + 1, a => by simp [way, way_len m L f l]
def cycS (m : Nat) (L : List T3) (s : Nat) : Option (List Int) :=
  if best L (farT L s m) s < 0 then none else some ((s : Int) :: way m L (farT L s m) (best L (farT L s m) s).toNat s)
/-- the reference's cycle -/
def cycR (m : Nat) (L : List T3) : List Int := ((List.range m).findSome? (cycS m L)).getD []
def cycV (many : Int) (L : List T3) : List Int := if edgesValid many L = true then cycR many.toNat L else []
theorem fold_inv {α β : Type} {g : β → α → β} {P : β → Prop} (hg : ∀ b e, P b → P (g b e)) : ∀ (L : List α) b, P b → P (L.foldl g b)
  | [], _, h => h
  | e :: L, b, h => fold_inv hg L _ (hg b e h)
theorem best_range {f : Nat → Int} {m : Nat} (hf : ∀ v, -1 ≤ f v ∧ f v ≤ m) (L : List T3) (s : Nat) : -1 ≤ best L f s ∧ best L f s ≤ m := by
  unfold best
  refine fold_inv (P := fun b : Int => -1 ≤ b ∧ b ≤ m) (fun b e h => ?_) L _ ⟨by omega, by omega⟩
  unfold bstep
  split
  · exact hf _
  · exact h
theorem bstep_nat (s : Nat) (f : Nat → Int) (b : Int) (a y : Nat) (z : Int) : bstep s f b ⟨(a : Int), (y : Int), z⟩ = if (a : Int) = s ∧ 0 ≤ f y ∧ (b < 0 ∨ f y < b) then f y else b := by simp [bstep]
theorem nstep_nat (a0 : Int) (f : Nat → Int) (left : Nat) (n : Int) (a y : Nat) (z : Int) : nstep a0 f left n ⟨(a : Int), (y : Int), z⟩ = if (a : Int) = a0 ∧ f y = left then min n y else n := by simp [nstep]
theorem findSome_none {α : Type} {g : Nat → Option α} {m : Nat} (h : ∀ s, s < m → g s = none) : (List.range m).findSome? g = none := by
  rw [List.findSome?_eq_none_iff]
  intro x hx
  exact h x (List.mem_range.1 hx)
theorem findSome_at {α : Type} {g : Nat → Option α} {m s : Nat} (hs : s < m) (h : ∀ s', s' < s → g s' = none) {x : α} (hx : g s = some x) : (List.range m).findSome? g = some x := by
  have e : List.range m = List.range s ++ (s :: (List.range' (s + 1) (m - s - 1))) := by
    rw [List.range_eq_range', List.range_eq_range', show m = s + (1 + (m - s - 1)) by omega, ← List.range'_append_1, Nat.zero_add]
    congr 1
    rw [show 1 + (m - s - 1) = (m - s - 1) + 1 by omega, List.range'_succ]
    congr 2
    omega
  rw [e, List.findSome?_append, findSome_none h]
  simp [hx]

set_option maxHeartbeats 4000000 in
theorem specCycleOf_ok (many : Int) (L : List T3) (S : Nat → Prop) (A : Option Addr) (c : Nat) (w : World) (hx : Ops S w A L) (hv : edgesValid many L = true) :
    Calls Tryz.prog 75 #[.int .i64 many, .slice A L.length c] w (FreshI (cycR many.toNat L) w) := by
  have CV := fun w hx => specEdgesValid_c many L S A c w hx (by obtain ⟨m, _, _, h, _⟩ := edgesValid_iff hv; omega)
  rw [hv] at CV
  obtain ⟨m, rfl, hm6, hl, hval⟩ := edgesValid_iff hv
  have CV := Lib.hid CV
  have HV := Lib.hid (show EdM m L from hval)
  clear hv hval
  simp only [Int.toNat_natCast]
  have CF := fun t ht w hx => l9Far_c m t L S A c w hx hl hm6 ht HV.out
  have CF := Lib.hid CF
  go_enter Tryz.func75, Tryz.ntmps75
  go_wp2
  have hO : Own1 (w.alloc (.cells #[] 3)) w.heap.size 3 (.slice (some ⟨w.heap.size, 0, none⟩) 0 0) [] := Own1.made w _ 0 rfl (by omega) (by omega) (by simp)
  have HO := Lib.hid hO
  clear hO
  go_loopw [5, 6] (fun v i wr => ∃ s : Nat, s ≤ m ∧ i = .int .i64 s ∧ Own1 wr w.heap.size 3 v [] ∧ Ext w wr ∧ ∀ s', s' < s → cycS m L s' = none) (fun _ i _ => m - (intOf i).toNat)
  case atStart => exact ⟨0, Nat.zero_le _, rfl, HO.out, by (repeat' (first | (with_reducible exact Below.refl _ _) | (with_reducible refine Below.mono (by assumption) ?_) | (with_reducible refine Below.trans ?_ (Below.mono (by assumption) ?_)) | (with_reducible refine Below.alloc ?_ ?_ _) | (with_reducible refine Below.drew ?_) | (with_reducible refine below_drewN ?_ _) | (with_reducible refine Below.setCell ?_ ?_ _) | (simp only [World.size_alloc, World.size_setCell, World.size_drew, size_drewN]; omega) | omega)), fun s' h => by omega⟩
  case round =>
    obtain ⟨s, hs, rfl, hown, hE, hall⟩ := hrel
    have HA := Lib.hid hall
    have hEz := hE.size
    clear hall HO
    by_cases hlt : s < m
    · have hlt0 := hlt
      go_wp2_with (fail)
      go_at_call 74
      refine (CV.out _ (hx.ext hE)).mono ?_
      rintro e w1 ⟨rfl, hb⟩
      obtain ⟨hc, hf, hz, hs⟩ := bcell hb
      (try simp only [World.size_alloc, World.size_setCell, World.size_drew, size_drewN] at hs); (first | have l0 := Nat.lt_of_lt_of_le l0 (show _ ≤ w1.heap.size by omega) | have l0 : w.heap.size < w1.heap.size := (by omega) | skip); (try have l0e := Nat.le_of_lt l0); (try have l0f := Nat.le_add_right_of_le (k := 1) l0e); (try have l1 := Nat.lt_of_lt_of_le l1 (show _ ≤ w1.heap.size by omega)); (try have l1e := Nat.le_of_lt l1); (try have l1f := Nat.le_add_right_of_le (k := 1) l1e); (try have l2 := Nat.lt_of_lt_of_le l2 (show _ ≤ w1.heap.size by omega)); (try have l2e := Nat.le_of_lt l2); (try have l2f := Nat.le_add_right_of_le (k := 1) l2e); (try have l3 := Nat.lt_of_lt_of_le l3 (show _ ≤ w1.heap.size by omega)); (try have l3e := Nat.le_of_lt l3); (try have l3f := Nat.le_add_right_of_le (k := 1) l3e)
      have e1 := hE.tr hb
      have hown1 := hown.ext hb
      clear hown hc hf hz hs hb
      go_wp2_with (fail)
      refine (CF.out s hlt _ (hx.ext e1)).mono ?_
      rintro e w2 ⟨B, c', rfl, hF, hfB, hb⟩
      have e2 := e1.tr hb
      have hown2 := hown1.ext hb
      have hF2 := hF.within_hi
      have hz12 := hb.size
      have hz2 := e2.size
      have hoff : Off u5 w1.heap.size w2.heap.size := Off.of_lt (own1_lt hown1)
      have hge := fun v => farT_ge HV.out s m v
      have hcs : cycS m L s = if best L (farT L s m) s < 0 then none else some ((s : Int) :: way m L (farT L s m) (best L (farT L s m) s).toNat s) := rfl
      have hbr := best_range hge L s
      rw [fl_len]
      have HCS := Lib.hid hcs
      generalize farT L s m = f at hF2 hge hcs hbr HCS
      have hbd : best L f s = L.foldl (bstep s f) (-1) := rfl
      generalize best L f s = bs at hbr HCS hbd
      have HB := Lib.hid hbd
      have HG := Lib.hid hge
      have HF := Lib.hid hF2
      have hB0 : ∃ bb off, B = some ⟨bb, off, none⟩ ∧ (w1.heap.size ≤ bb ∧ bb < w2.heap.size) ∧ bb < w2.heap.size := hF2.off_ (by rw [fl_len]; omega)
      obtain ⟨bb, off, rfl, hbb, _⟩ := hB0
      clear hown1 hF hfB hb hcs hbd hge hF2
      go_wp2
      go_loop [8, 9] (fun v i => ∃ k : Nat, k ≤ L.length ∧ i = .int .i64 k ∧ v = .int .i64 ((L.take k).foldl (bstep s f) (-1))) (fun _ i => L.length - (intOf i).toNat)
      case atStart => exact ⟨0, Nat.zero_le _, rfl, rfl⟩
      case round =>
        obtain ⟨k, hk, rfl, rfl⟩ := hrel
        by_cases hlt2 : k < L.length
        · obtain ⟨x0, x1, x2, b2, off2, hxk, rfl, _, hb2, d0, d1, d2⟩ := (hx.ext e2).at_ hlt2
          obtain ⟨v1, v2, v3, v4, _⟩ := HV.out _ (List.mem_of_getElem? hxk)
          simp only at v1 v2 v3 v4
          have hft := fold_take (bstep s f) (-1) hxk
          generalize (L.take k).foldl (bstep s f) (-1) = b0 at hft ⊢
          obtain ⟨a, rfl⟩ := Int.eq_ofNat_of_zero_le v1
          obtain ⟨y, rfl⟩ := Int.eq_ofNat_of_zero_le v3
          have hy : y < m := by omega
          have cy := HF.out.cell (fl_get (f := f) hy)
          have hyi : (y : Int) < m := by omega
          rw [bstep_nat] at hft
          have HT := Lib.hid hft
          clear hft hxk
          generalize f y = fy at cy HT
          go_wp2
          all_goals (refine ⟨⟨k + 1, by omega, by go_num, ?_⟩, by simp [intOf]; omega⟩; rw [HT.out]; split)
          all_goals first | rfl | (exfalso; simp_all; done) | (exfalso; simp_all; omega)
        · obtain rfl : k = L.length := by omega
          rw [List.take_length, ← HB.out]
          by_cases hbs : bs < 0
          · have hno : cycS m L s = none := by rw [HCS.out, if_pos hbs]
            have hall2 : ∀ s', s' < s + 1 → cycS m L s' = none := fun s' h => by
              by_cases e : s' = s
              · subst e; exact hno
              · exact HA.out s' (by omega)
            have HA2 := Lib.hid hall2
            clear hno hall2
            go_wp2
            exact ⟨⟨s + 1, by omega, by go_num, hown2, e2, HA2.out⟩, by simp [intOf]; omega⟩
          · obtain ⟨l, rfl⟩ := Int.eq_ofNat_of_zero_le (show 0 ≤ bs by omega)
            have hyes : cycS m L s = some ((s : Int) :: way m L f l s) := by rw [HCS.out, if_neg hbs]; simp
            have hres : cycR m L = (s : Int) :: way m L f l s := by
              unfold cycR
              rw [findSome_at hlt (fun s' h => HA.out s' h) hyes]
              rfl
            have HR := Lib.hid hres
            clear hyes hres hbs
            have hl6 : l ≤ 6 := by omega
            go_wp2_with (at_builtin; refine wpList_append1_at _ rfl _ _ 47 rfl w.heap.size 3 Tryz.underlying47 infoInt rfl _ [] rfl (hown2.ext (by (repeat' (first | (with_reducible exact Below.refl _ _) | (with_reducible refine Below.mono (by assumption) ?_) | (with_reducible refine Below.trans ?_ (Below.mono (by assumption) ?_)) | (with_reducible refine Below.alloc ?_ ?_ _) | (with_reducible refine Below.drew ?_) | (with_reducible refine below_drewN ?_ _) | (with_reducible refine Below.setCell ?_ ?_ _) | (simp only [World.size_alloc, World.size_setCell, World.size_drew, size_drewN]; omega) | omega)))) _ s rfl ?_ ?_ ?_ ?_)
            all_goals try (first | omega | (simp only [World.size_alloc]; omega) | (go_simp; done))
            intro v' w3 hown3 hgrow hat
            have hEb : Ext w2 (w2.alloc (.cells #[.int .i64 s] 3)) := by (repeat' (first | (with_reducible exact Below.refl _ _) | (with_reducible refine Below.mono (by assumption) ?_) | (with_reducible refine Below.trans ?_ (Below.mono (by assumption) ?_)) | (with_reducible refine Below.alloc ?_ ?_ _) | (with_reducible refine Below.drew ?_) | (with_reducible refine below_drewN ?_ _) | (with_reducible refine Below.setCell ?_ ?_ _) | (simp only [World.size_alloc, World.size_setCell, World.size_drew, size_drewN]; omega) | omega))
            have e3 : Ext w w3 := Below.grown (e2.tr hEb) hgrow (e2.tr hEb).size (fun g hg => own1_block hown2 g hg)
            have hF3 := Ints.off (HF.out.ext hEb) hgrow hoff
            have hoff3 := hoff.step hat (by first | omega | (simp only [World.size_alloc]; omega))
            have hz3 := hgrow.size
            simp only [World.size_alloc] at hz3
            have HF3 := Lib.hid hF3
            clear hgrow hat hown2 hoff hF3 HF hEb
            try simp only [List.nil_append] at hown3
            go_wp2
            go_loopw [5, 10, 11] (fun v a i wr => ∃ (q : Nat) (a0 : Int) (o : List Int), q ≤ l ∧ i = .int .i64 q ∧ a = .int .i64 a0 ∧ Own1 wr w.heap.size 3 v o ∧ o ++ way m L f q a0 = (s : Int) :: way m L f l s ∧ Ext w wr ∧ Ints (fun b => w1.heap.size ≤ b ∧ b < w2.heap.size) wr (some ⟨bb, off, none⟩) (fl m f) ∧ Off v w1.heap.size w2.heap.size ∧ w2.heap.size ≤ wr.heap.size) (fun _ _ i _ => (intOf i).toNat)
            case atStart => exact ⟨l, s, _, Nat.le_refl _, rfl, rfl, hown3, rfl, e3, HF3.out, hoff3, by omega⟩
            case round =>
              obtain ⟨q, a0, o, hq, rfl, rfl, hown4, hway, hE4, hF4, hoff4, hz4⟩ := hrel
              clear hown3 HF3 hoff3
              have HF4 := Lib.hid hF4
              have hE4z := hE4.size
              have hol : o.length ≤ l + 1 := by
                have := congrArg List.length hway
                rw [List.length_append, way_len, List.length_cons, way_len] at this
                omega
              by_cases hq0 : 0 < q
              · obtain ⟨p, rfl⟩ : ∃ p, q = p + 1 := ⟨q - 1, by omega⟩
                have hwy : way m L f (p + 1) a0 = nxt m L f a0 (p + 1) :: way m L f p (nxt m L f a0 (p + 1)) := rfl
                rw [hwy] at hway
                have hnx : nxt m L f a0 (p + 1) = L.foldl (nstep a0 f (p + 1)) m := rfl
                have HW := Lib.hid hway
                have HNX := Lib.hid hnx
                clear hF4 hwy hway hnx
                go_wp2
                go_loop [12, 13] (fun v i => ∃ k : Nat, k ≤ L.length ∧ i = .int .i64 k ∧ v = .int .i64 ((L.take k).foldl (nstep a0 f (p + 1)) m)) (fun _ i => L.length - (intOf i).toNat)
                case atStart => exact ⟨0, Nat.zero_le _, rfl, rfl⟩
                case round =>
                  obtain ⟨k, hk, rfl, rfl⟩ := hrel
                  by_cases hlt2 : k < L.length
                  · obtain ⟨x0, x1, x2, b2, off2, hxk, rfl, _, hb2, d0, d1, d2⟩ := (hx.ext hE4).at_ hlt2
                    obtain ⟨v1, v2, v3, v4, _⟩ := HV.out _ (List.mem_of_getElem? hxk)
                    simp only at v1 v2 v3 v4
                    have hft := fold_take (nstep a0 f (p + 1)) (m : Int) hxk
                    generalize (L.take k).foldl (nstep a0 f (p + 1)) (m : Int) = b0 at hft ⊢
                    obtain ⟨a, rfl⟩ := Int.eq_ofNat_of_zero_le v1
                    obtain ⟨y, rfl⟩ := Int.eq_ofNat_of_zero_le v3
                    have hy : y < m := by omega
                    have cy := HF4.out.cell (fl_get (f := f) hy)
                    have hyi : (y : Int) < m := by omega
                    rw [nstep_nat] at hft
                    have HT := Lib.hid hft
                    clear hft hxk
                    generalize f y = fy at cy HT
                    go_wp2
                    all_goals (refine ⟨⟨k + 1, by omega, by go_num, ?_⟩, by simp [intOf]; omega⟩; rw [HT.out]; split)
                    all_goals first | rfl | omega | (exfalso; simp_all; done) | (exfalso; simp_all; omega)
                  · obtain rfl : k = L.length := by omega
                    rw [List.take_length, ← HNX.out]
                    have HW2 := Lib.hid HW.out
                    clear HW
                    generalize nxt m L f a0 (p + 1) = nn at HW2 ⊢
                    go_wp2_with (at_builtin; refine wpList_append1_at _ rfl _ _ 47 rfl w.heap.size 3 Tryz.underlying47 infoInt rfl _ o rfl (hown4.ext (by (repeat' (first | (with_reducible exact Below.refl _ _) | (with_reducible refine Below.mono (by assumption) ?_) | (with_reducible refine Below.trans ?_ (Below.mono (by assumption) ?_)) | (with_reducible refine Below.alloc ?_ ?_ _) | (with_reducible refine Below.drew ?_) | (with_reducible refine below_drewN ?_ _) | (with_reducible refine Below.setCell ?_ ?_ _) | (simp only [World.size_alloc, World.size_setCell, World.size_drew, size_drewN]; omega) | omega)))) _ nn rfl ?_ ?_ ?_ ?_)
                    all_goals try (first | omega | (simp only [World.size_alloc]; omega) | (go_simp; done))
                    intro v' w5 hown5 hgrow hat
                    have hEb : Ext wr (wr.alloc (.cells #[.int .i64 nn] 3)) := by (repeat' (first | (with_reducible exact Below.refl _ _) | (with_reducible refine Below.mono (by assumption) ?_) | (with_reducible refine Below.trans ?_ (Below.mono (by assumption) ?_)) | (with_reducible refine Below.alloc ?_ ?_ _) | (with_reducible refine Below.drew ?_) | (with_reducible refine below_drewN ?_ _) | (with_reducible refine Below.setCell ?_ ?_ _) | (simp only [World.size_alloc, World.size_setCell, World.size_drew, size_drewN]; omega) | omega))
                    have hE5 : Ext w w5 := Below.grown (hE4.tr hEb) hgrow (hE4.tr hEb).size (fun g hg => own1_block hown4 g hg)
                    have hF5 := Ints.off (HF4.out.ext hEb) hgrow hoff4
                    have hoff5 := hoff4.step hat (by first | omega | (simp only [World.size_alloc]; omega))
                    have hz5 := hgrow.size
                    simp only [World.size_alloc] at hz5
                    have HF5 := Lib.hid hF5
                    clear hgrow hat hown4 hoff4 hF5 HF4 hEb
                    go_wp2
                    go_roundw
                    case measure => simp [intOf]
                    case rel => exact ⟨p, nn, _, by omega, by go_num, rfl, hown5, by rw [List.append_assoc]; exact HW2.out, hE5, HF5.out, hoff5, by omega⟩
              · obtain rfl : q = 0 := by omega
                have hw0 : o = (s : Int) :: way m L f l s := by simpa [way] using hway
                rw [← HR.out] at hw0
                subst hw0
                have hfr := hown4.fresh (Nat.le_refl _) hE4
                go_wp2
                go_ret
                exact hfr
    · obtain rfl : s = m := by omega
      have hres : cycR s L = [] := by
        unfold cycR
        rw [findSome_none (fun s' h => HA.out s' h)]
        rfl
      have hfr := hown.fresh (w := w) (Nat.le_refl _) hE
      rw [← hres] at hfr
      clear hres
      go_wp2
      go_ret
      exact hfr

set_option maxHeartbeats 1000000 in
theorem specCycleOf_c (many : Int) (L : List T3) (S : Nat → Prop) (A : Option Addr) (c : Nat) (w : World) (hx : Ops S w A L) (hn : L.length ≤ 1048576) :
    Calls Tryz.prog 75 #[.int .i64 many, .slice A L.length c] w (FreshI (cycV many L) w) := by
  unfold cycV
  cases hv : edgesValid many L with
  | true => rw [if_pos rfl]; exact specCycleOf_ok many L S A c w hx hv
  | false =>
    rw [if_neg (by simp)]
    have CV := fun w hx => specEdgesValid_c many L S A c w hx hn
    rw [hv] at CV
    have CV := Lib.hid CV
    clear hv
    go_enter Tryz.func75, Tryz.ntmps75
    go_wp2
    have hO : Own1 (w.alloc (.cells #[] 3)) w.heap.size 3 (.slice (some ⟨w.heap.size, 0, none⟩) 0 0) [] := Own1.made w _ 0 rfl (by omega) (by omega) (by simp)
    have HO := Lib.hid hO
    clear hO
    go_loopw [5, 6] (fun v i wr => i = .int .i64 0 ∧ Own1 wr w.heap.size 3 v [] ∧ Ext w wr) (fun _ _ _ => 0)
    case atStart => exact ⟨rfl, HO.out, by (repeat' (first | (with_reducible exact Below.refl _ _) | (with_reducible refine Below.mono (by assumption) ?_) | (with_reducible refine Below.trans ?_ (Below.mono (by assumption) ?_)) | (with_reducible refine Below.alloc ?_ ?_ _) | (with_reducible refine Below.drew ?_) | (with_reducible refine below_drewN ?_ _) | (with_reducible refine Below.setCell ?_ ?_ _) | (simp only [World.size_alloc, World.size_setCell, World.size_drew, size_drewN]; omega) | omega))⟩
    case round =>
      obtain ⟨rfl, hown, hE⟩ := hrel
      by_cases hlt : 0 < many
      · have hlt0 := hlt
        go_wp2_with (fail)
        go_at_call 74
        refine (CV.out _ (hx.ext hE)).mono ?_
        rintro e w1 ⟨rfl, hb⟩
        obtain ⟨hc, hf, hz, hs⟩ := bcell hb
        (try simp only [World.size_alloc, World.size_setCell, World.size_drew, size_drewN] at hs); (first | have l0 := Nat.lt_of_lt_of_le l0 (show _ ≤ w1.heap.size by omega) | have l0 : w.heap.size < w1.heap.size := (by omega) | skip); (try have l0e := Nat.le_of_lt l0); (try have l0f := Nat.le_add_right_of_le (k := 1) l0e); (try have l1 := Nat.lt_of_lt_of_le l1 (show _ ≤ w1.heap.size by omega)); (try have l1e := Nat.le_of_lt l1); (try have l1f := Nat.le_add_right_of_le (k := 1) l1e); (try have l2 := Nat.lt_of_lt_of_le l2 (show _ ≤ w1.heap.size by omega)); (try have l2e := Nat.le_of_lt l2); (try have l2f := Nat.le_add_right_of_le (k := 1) l2e); (try have l3 := Nat.lt_of_lt_of_le l3 (show _ ≤ w1.heap.size by omega)); (try have l3e := Nat.le_of_lt l3); (try have l3f := Nat.le_add_right_of_le (k := 1) l3e)
        go_wp2
        go_ret
        exact (hown.ext hb).fresh (Nat.le_refl _) (hE.tr hb)
      · go_wp2
        go_ret
        exact hown.fresh (Nat.le_refl _) hE

/-- the edges whose kinds are at most a kind -/
def upto (kind : Int) (L : List T3) : List T3 := L.filter fun e => decide (e.c ≤ kind)
theorem upto_take {kind : Int} {L : List T3} {k : Nat} {e : T3} (h : L[k]? = some e) : upto kind (L.take (k + 1)) = if e.c ≤ kind then upto kind (L.take k) ++ [e] else upto kind (L.take k) := by
  unfold upto
  rw [List.take_add_one, h]
  simp only [Option.toList, List.filter_append, List.filter_cons, List.filter_nil]
  split <;> simp_all
theorem upto_len (kind : Int) (L : List T3) : (upto kind L).length ≤ L.length := List.length_filter_le _ _
theorem infoEdge : (Tryz.prog.info? 51).map (fun i => (i.zero, i.size, i.bytes)) = some (some (.agg #[.int .i64 0, .int .i64 0, .int .i64 0]), 3, 24) := by kernel_rfl
set_option maxHeartbeats 2000000 in
theorem l10Upto_c (kind : Int) (L : List T3) (S : Nat → Prop) (A : Option Addr) (c : Nat) (w : World) (hx : Ops S w A L) (hn : L.length ≤ 1048576) :
    Calls Tryz.prog 76 #[.slice A L.length c, .int .i64 kind] w (Fresh (upto kind L) w) := by
  go_enter Tryz.func76, Tryz.ntmps76
  go_wp2
  have hO : Own3 (w.alloc (.cells #[] 51)) w.heap.size 51 (.slice (some ⟨w.heap.size, 0, none⟩) 0 0) (upto kind (L.take 0)) := Own3.made w _ 0 rfl (by omega) (by omega) (by simp)
  have HO := Lib.hid hO
  clear hO
  go_loopw [5, 6] (fun v i wr => ∃ k : Nat, k ≤ L.length ∧ i = .int .i64 k ∧ Own3 wr w.heap.size 51 v (upto kind (L.take k)) ∧ Ext w wr) (fun _ i _ => L.length - (intOf i).toNat)
  case atStart => exact ⟨0, Nat.zero_le _, rfl, HO.out, by (repeat' (first | (with_reducible exact Below.refl _ _) | (with_reducible refine Below.mono (by assumption) ?_) | (with_reducible refine Below.trans ?_ (Below.mono (by assumption) ?_)) | (with_reducible refine Below.alloc ?_ ?_ _) | (with_reducible refine Below.drew ?_) | (with_reducible refine below_drewN ?_ _) | (with_reducible refine Below.setCell ?_ ?_ _) | (simp only [World.size_alloc, World.size_setCell, World.size_drew, size_drewN]; omega) | omega))⟩
  case round =>
    obtain ⟨k, hk, rfl, hown, hE⟩ := hrel
    have hEz := hE.size
    clear HO
    by_cases hlt : k < L.length
    · obtain ⟨x0, x1, x2, b, off, hxk, rfl, _, hb0, c0, c1, c2⟩ := (hx.ext hE).at_ hlt
      have hst := upto_take (kind := kind) hxk
      have hul := upto_len kind (L.take k)
      rw [List.length_take] at hul
      have HS := Lib.hid hst
      clear hst hxk
      by_cases hc : x2 ≤ kind
      · have HS2 := Lib.hid (HS.out.trans (if_pos hc))
        go_wp2_with (at_builtin; refine wpList_append3 _ rfl _ _ 26 rfl w.heap.size 51 Tryz.underlying26 infoEdge rfl _ (upto kind (L.take k)) rfl (hown.ext (by (repeat' (first | (with_reducible exact Below.refl _ _) | (with_reducible refine Below.mono (by assumption) ?_) | (with_reducible refine Below.trans ?_ (Below.mono (by assumption) ?_)) | (with_reducible refine Below.alloc ?_ ?_ _) | (with_reducible refine Below.drew ?_) | (with_reducible refine below_drewN ?_ _) | (with_reducible refine Below.setCell ?_ ?_ _) | (simp only [World.size_alloc, World.size_setCell, World.size_drew, size_drewN]; omega) | omega)))) _ x0 x1 x2 rfl ?_ ?_ ?_ ?_ ?_ ?_)
        all_goals try (first | omega | (simp only [World.size_alloc]; omega) | (go_simp; done))
        intro v' w' hown' hgrow
        rw [← HS2.out] at hown'
        have hE2 : Ext w w' := Below.grown (w := wr.alloc (.cells #[.int .i64 x0, .int .i64 x1, .int .i64 x2] 51)) (by (repeat' (first | (with_reducible exact Below.refl _ _) | (with_reducible refine Below.mono (by assumption) ?_) | (with_reducible refine Below.trans ?_ (Below.mono (by assumption) ?_)) | (with_reducible refine Below.alloc ?_ ?_ _) | (with_reducible refine Below.drew ?_) | (with_reducible refine below_drewN ?_ _) | (with_reducible refine Below.setCell ?_ ?_ _) | (simp only [World.size_alloc, World.size_setCell, World.size_drew, size_drewN]; omega) | omega))) hgrow (by simp only [World.size_alloc]; omega) (fun g hg => (World.ownsRow.lt hown g hg).1)
        clear hown hgrow
        go_wp2
        go_roundw
        case measure => simp [intOf]; omega
        case rel => exact ⟨k + 1, by omega, by go_num, hown', hE2⟩
      · have HS2 := Lib.hid (HS.out.trans (if_neg hc))
        go_wp2
        exact ⟨⟨k + 1, by omega, by go_num, by rw [HS2.out]; exact hown, hE⟩, by simp [intOf]; omega⟩
    · obtain rfl : k = L.length := by omega
      rw [List.take_length] at hown
      have hfr := hown.fresh (Nat.le_refl _) hE
      go_wp2
      go_ret
      exact hfr
end Go.Proofs.YtdohbmegkkkchaaGreat
namespace Go.Proofs.YtdohbmegkkkchaaGreat
set_option linter.unusedSimpArgs false
set_option linter.unusedVariables false
set_option maxRecDepth 100000
open Go.RowKit

theorem best_nn {f : Nat → Int} (L : List T3) (s : Nat) : 0 ≤ best L f s ↔ ∃ e ∈ L, e.a = s ∧ 0 ≤ f e.b.toNat := by
  have key : ∀ (M : List T3) (b : Int), 0 ≤ M.foldl (bstep s f) b ↔ 0 ≤ b ∨ ∃ e ∈ M, e.a = s ∧ 0 ≤ f e.b.toNat := by
    intro M
    induction M with
    | nil => intro b; simp
    | cons e M ih =>
      intro b
      rw [List.foldl_cons, ih]
      unfold bstep
      constructor
      · rintro (h | ⟨e', he, h⟩)
        · split at h
          · rename_i hc
            exact .inr ⟨e, by simp, hc.1, hc.2.1⟩
          · exact .inl h
        · exact .inr ⟨e', by simp [he], h⟩
      · rintro (h | ⟨e', he, h1, h2⟩)
        · left
          split
          · rename_i hc; exact hc.2.1
          · exact h
        · rcases List.mem_cons.1 he with rfl | he
          · left
            split
            · exact h2
            · rename_i hc
              rcases Int.lt_or_le b 0 with hb | hb
              · exact absurd ⟨h1, h2, .inl hb⟩ hc
              · exact hb
          · exact .inr ⟨e', he, h1, h2⟩
  unfold best
  rw [key]
  constructor
  · rintro (h | h)
    · omega
    · exact h
  · exact .inr
theorem trans_first {α : Type} {r : α → α → Prop} {a b : α} (h : Relation.TransGen r a b) : ∃ u, r a u ∧ (u = b ∨ Relation.TransGen r u b) := by
  induction h with
  | single h => exact ⟨_, h, .inl rfl⟩
  | tail h1 h2 ih =>
    obtain ⟨u, h3, h4⟩ := ih
    refine ⟨u, h3, .inr ?_⟩
    rcases h4 with rfl | h4
    · exact .single h2
    · exact .tail h4 h2
/-- a cycle is found just where there is one -/
theorem cycS_some {m : Nat} {L : List T3} (hL : EdM m L) {s : Nat} (hs : s < m) : cycS m L s = none ↔ ¬ Relation.TransGen (Ed L) s s := by
  have hfi := fun v => far_iff (L := L) hs (fun e he => by have := hL e he; omega) v
  have hb := best_nn (f := farT L s m) L s
  unfold cycS
  have h1 : 0 ≤ best L (farT L s m) s ↔ Relation.TransGen (Ed L) s s := by
    rw [hb]
    constructor
    · rintro ⟨e, he, h1, h2⟩
      have hv := hL e he
      have hE : Ed L s e.b.toNat := ⟨e, he, h1, by omega⟩
      rcases (hfi _).1 h2 with h3 | h3
      · rw [h3] at hE; exact .single hE
      · exact Relation.TransGen.trans (.single hE) h3
    · intro h
      obtain ⟨u, ⟨e, he, h1, h2⟩, h3⟩ := trans_first h
      have hv := hL e he
      refine ⟨e, he, h1, (hfi _).2 ?_⟩
      rw [show e.b.toNat = u by omega]
      exact h3
  split
  · rename_i hc
    exact ⟨fun _ h => by have := h1.2 h; omega, fun _ => rfl⟩
  · rename_i hc
    exact ⟨fun h => by simp at h, fun h => absurd (h1.1 (by omega)) h⟩
theorem cycS_ne {m : Nat} {L : List T3} {s : Nat} {x : List Int} (h : cycS m L s = some x) : 0 < x.length := by
  unfold cycS at h
  split at h
  · cases h
  · cases h; simp
theorem cycR_iff {m : Nat} {L : List T3} (hL : EdM m L) : 0 < (cycR m L).length ↔ ∃ s, s < m ∧ Relation.TransGen (Ed L) s s := by
  unfold cycR
  constructor
  · intro h
    cases hf : (List.range m).findSome? (cycS m L) with
    | none => rw [hf] at h; simp at h
    | some x =>
      obtain ⟨s, hs, hx⟩ := List.exists_of_findSome?_eq_some hf
      have hsm := List.mem_range.1 hs
      exact ⟨s, hsm, Classical.byContradiction fun hn => by rw [(cycS_some hL hsm).2 hn] at hx; cases hx⟩
  · rintro ⟨s, hs, ht⟩
    cases hf : (List.range m).findSome? (cycS m L) with
    | none =>
      rw [List.findSome?_eq_none_iff] at hf
      exact absurd ht ((cycS_some hL hs).1 (hf s (List.mem_range.2 hs)))
    | some x =>
      obtain ⟨s', _, hx⟩ := List.exists_of_findSome?_eq_some hf
      exact cycS_ne hx
theorem arou_iff {f : Nat → Nat} (hf : Low f) : arou f = true ↔ ∃ i, i < 6 ∧ Relation.TransGen (Bit f) i i := by
  unfold arou
  rw [List.any_eq_true]
  constructor
  · rintro ⟨i, hi, h⟩
    have h6 := List.mem_range.1 hi
    exact ⟨i, h6, (clo_iff hf i i).1 ⟨h6, h⟩⟩
  · rintro ⟨i, h6, h⟩
    exact ⟨i, List.mem_range.2 h6, ((clo_iff hf i i).2 h).2⟩
/-- rows of edges hold just the edges -/
theorem bit_ed {ks : List Int} {L M : List T3} (hL : ∀ e ∈ L, ed6 e) (hM : ∀ e, e ∈ M ↔ e ∈ L ∧ e.c ∈ ks) : Bit (rowsOf ks L) = Ed M := by
  funext i j
  apply propext
  have hs := (rows_spec ks L hL).2
  unfold Bit Ed
  constructor
  · rintro ⟨hi, hb⟩
    obtain ⟨e, he, h1, h2, h3⟩ := (hs i j hi).1 hb
    exact ⟨e, (hM e).2 ⟨he, h1⟩, h2, h3⟩
  · rintro ⟨e, he, h1, h2⟩
    obtain ⟨he1, he2⟩ := (hM e).1 he
    have := hL e he1
    unfold ed6 at this
    have hi : i < 6 := by omega
    exact ⟨hi, (hs i j hi).2 ⟨e, he1, he2, h1, h2⟩⟩
theorem edM_ed6 {m : Nat} {L : List T3} (hm : m ≤ 6) (hL : EdM m L) : ∀ e ∈ L, ed6 e := fun e he => by have := hL e he; unfold ed6; omega
theorem upto_mem {m : Nat} {L : List T3} (hL : EdM m L) {kind : Int} {ks : List Int} (hk : ∀ c : Int, 1 ≤ c → c ≤ 4 → (c ≤ kind ↔ c ∈ ks)) (e : T3) : e ∈ upto kind L ↔ e ∈ L ∧ e.c ∈ ks := by
  unfold upto
  rw [List.mem_filter]
  constructor
  · rintro ⟨he, hc⟩
    obtain ⟨_, _, _, _, _, h1, h2⟩ := hL e he
    exact ⟨he, (hk _ h1 h2).1 (by simpa using hc)⟩
  · rintro ⟨he, hc⟩
    obtain ⟨_, _, _, _, _, h1, h2⟩ := hL e he
    exact ⟨he, by simpa using (hk _ h1 h2).2 hc⟩
theorem upto_edM {m : Nat} {L : List T3} (hL : EdM m L) (kind : Int) : EdM m (upto kind L) := fun e he => hL e ((List.mem_filter.1 he).1)
theorem upto_valid {many : Int} {L : List T3} (h : edgesValid many L = true) (kind : Int) : edgesValid many (upto kind L) = true := by
  unfold edgesValid at h ⊢
  simp only [Bool.and_eq_true, List.all_eq_true, decide_eq_true_eq] at h ⊢
  exact ⟨fun e he => h.1 e ((List.mem_filter.1 he).1), h.2.1, Nat.le_trans (upto_len kind L) h.2.2⟩
/-- the reference's cycle over the edges up to a kind, and the program's over rows -/
theorem cyc_eq {m : Nat} {L : List T3} (hm : m ≤ 6) (hL : EdM m L) {kind : Int} {ks : List Int} (hk : ∀ c : Int, 1 ≤ c → c ≤ 4 → (c ≤ kind ↔ c ∈ ks)) : decide (0 < (cycR m (upto kind L)).length) = arou (rowsOf ks L) := by
  rw [Bool.eq_iff_iff, decide_eq_true_eq, cycR_iff (upto_edM hL kind), arou_iff (rowsOf_low ks L (edM_ed6 hm hL)), bit_ed (edM_ed6 hm hL) (upto_mem hL hk)]
  constructor
  · rintro ⟨s, hs, h⟩
    exact ⟨s, by omega, h⟩
  · rintro ⟨i, _, h⟩
    obtain ⟨u, ⟨e, he, h1, _⟩, _⟩ := trans_first h
    have := upto_edM hL kind e he
    exact ⟨i, by omega, h⟩
theorem kinds1 : ∀ c : Int, 1 ≤ c → c ≤ 4 → (c ≤ 1 ↔ c ∈ ([1] : List Int)) := by
  intro c h1 h2
  simp only [List.mem_cons, List.not_mem_nil, or_false]
  omega
theorem kinds2 : ∀ c : Int, 1 ≤ c → c ≤ 4 → (c ≤ 2 ↔ c ∈ ([1, 2] : List Int)) := by
  intro c h1 h2
  simp only [List.mem_cons, List.not_mem_nil, or_false]
  omega
theorem kinds3 : ∀ c : Int, 1 ≤ c → c ≤ 4 → (c ≤ 3 ↔ c ∈ ([1, 2, 3] : List Int)) := by
  intro c h1 h2
  simp only [List.mem_cons, List.not_mem_nil, or_false]
  omega

/-- an edge of the kind 3 that flows lead back -/
def single3 (L : List T3) (e : T3) : Bool := e.c == 3 && (clo (rowsOf [1, 2] L) e.b.toNat).testBit e.a.toNat
theorem single3_far {m : Nat} {L : List T3} (hm : m ≤ 6) (hL : EdM m L) {e : T3} (he : e ∈ L) : single3 L e = (e.c == 3 && decide (0 ≤ farT (upto 2 L) e.a.toNat m e.b.toNat)) := by
  unfold single3
  congr 1
  obtain ⟨h1, h2, h3, h4, h5, _⟩ := hL e he
  have hfi := far_iff (L := upto 2 L) (m := m) (t := e.a.toNat) (by omega) (fun e he => by have := upto_edM hL 2 e he; omega) e.b.toNat
  have hci := clo_iff (rowsOf_low [1, 2] L (edM_ed6 hm hL)) e.b.toNat e.a.toNat
  rw [bit_ed (edM_ed6 hm hL) (upto_mem hL kinds2)] at hci
  rw [Bool.eq_iff_iff, decide_eq_true_eq, hfi, ← hci]
  unfold Bit
  constructor
  · intro h
    exact .inr ⟨by omega, h⟩
  · rintro (h | ⟨_, h⟩)
    · omega
    · exact h
/-- what HasAnomaly returns for valid edges -/
def hasA (L : List T3) (kind : Int) : Bool :=
  if kind = 1 then arou (rowsOf [1] L) else if kind = 2 then arou (rowsOf [1, 2] L) else if kind = 3 then L.any (single3 L) else if kind = 4 then arou (rowsOf [1, 2, 3] L) else false
def hasV (many : Int) (L : List T3) (kind : Int) : Bool := edgesValid many L && hasA L kind
theorem litInts (w : World) (ks : List Int) (T : TypeId) : Ints Any (w.alloc (.cells (ks.map (Value.int .i64)).toArray T)) (some ⟨w.heap.size, 0, none⟩) ks := by
  intro i x hx
  have hB := Blk.new w T (ks.map (Value.int .i64)).toArray
  refine ⟨w.heap.size, 0, _, rfl, trivial, hB.lt, rfl, rfl, fun j u hu => ?_⟩
  have hj : j = 0 := by have := (List.getElem?_eq_some_iff.1 hu).1; simpa using this
  subst hj
  cases hu
  rw [hB.cell]
  simp [hx]

set_option maxHeartbeats 4000000 in
theorem implHasAnomaly_c (many : Int) (L : List T3) (S : Nat → Prop) (A : Option Addr) (c : Nat) (kind : Int) (w : World) (hx : Ops S w A L) (hn : L.length ≤ 1048576) :
    Calls Tryz.prog 79 #[.int .i64 many, .slice A L.length c, .int .i64 kind] w fun e w' => e = .returned (.bool (hasV many L kind)) ∧ Ext w w' := by
  have CV := fun w hx => implEdgesValid_c many L S A c w hx hn
  unfold hasV
  cases hv : edgesValid many L with
  | false =>
    rw [hv] at CV
    have CV := Lib.hid CV
    clear hv
    go_enter Tryz.func79, Tryz.ntmps79
    go_wp2_with (fail)
    go_at_call 109
    refine (CV.out _ (hx.ext (by (repeat' (first | (with_reducible exact Below.refl _ _) | (with_reducible refine Below.mono (by assumption) ?_) | (with_reducible refine Below.trans ?_ (Below.mono (by assumption) ?_)) | (with_reducible refine Below.alloc ?_ ?_ _) | (with_reducible refine Below.drew ?_) | (with_reducible refine below_drewN ?_ _) | (with_reducible refine Below.setCell ?_ ?_ _) | (simp only [World.size_alloc, World.size_setCell, World.size_drew, size_drewN]; omega) | omega))))).mono ?_
    rintro e w1 ⟨rfl, hb⟩
    obtain ⟨hc, hf, hz, hs⟩ := bcell hb
    (try simp only [World.size_alloc, World.size_setCell, World.size_drew, size_drewN] at hs); (first | have l0 := Nat.lt_of_lt_of_le l0 (show _ ≤ w1.heap.size by omega) | have l0 : w.heap.size < w1.heap.size := (by omega) | skip); (try have l0e := Nat.le_of_lt l0); (try have l0f := Nat.le_add_right_of_le (k := 1) l0e); (try have l1 := Nat.lt_of_lt_of_le l1 (show _ ≤ w1.heap.size by omega)); (try have l1e := Nat.le_of_lt l1); (try have l1f := Nat.le_add_right_of_le (k := 1) l1e); (try have l2 := Nat.lt_of_lt_of_le l2 (show _ ≤ w1.heap.size by omega)); (try have l2e := Nat.le_of_lt l2); (try have l2f := Nat.le_add_right_of_le (k := 1) l2e); (try have l3 := Nat.lt_of_lt_of_le l3 (show _ ≤ w1.heap.size by omega)); (try have l3e := Nat.le_of_lt l3); (try have l3f := Nat.le_add_right_of_le (k := 1) l3e)
    go_wp2
    go_ret
    exact ⟨rfl, hb⟩
  | true =>
    rw [hv] at CV
    obtain ⟨m, rfl, hm6, hl, hval⟩ := edgesValid_iff hv
    have hed := edM_ed6 hm6 (show EdM m L from hval)
    have CM := fun ks B d w hx hk hks => matrixOf_c L ks S Any A B c d w hx hk hed hn hks
    have hlow := fun ks => rowsOf_low ks L hed
    have CV := Lib.hid CV
    have CM := Lib.hid CM
    have HED := Lib.hid hed
    have HLOW := Lib.hid hlow
    clear hv hval hed hlow
    rw [Bool.true_and]
    have hr : hasA L kind = hasA L kind := rfl
    by_cases h1 : kind = 1
    · subst h1
      have hre : hasA L 1 = arou (rowsOf [1] L) := rfl
      have HR := Lib.hid hre
      clear hre hr
      go_enter Tryz.func79, Tryz.ntmps79
      go_wp2_with (fail)
      go_at_call 109
      refine (CV.out _ (hx.ext (by (repeat' (first | (with_reducible exact Below.refl _ _) | (with_reducible refine Below.mono (by assumption) ?_) | (with_reducible refine Below.trans ?_ (Below.mono (by assumption) ?_)) | (with_reducible refine Below.alloc ?_ ?_ _) | (with_reducible refine Below.drew ?_) | (with_reducible refine below_drewN ?_ _) | (with_reducible refine Below.setCell ?_ ?_ _) | (simp only [World.size_alloc, World.size_setCell, World.size_drew, size_drewN]; omega) | omega))))).mono ?_
      rintro e w1 ⟨rfl, hb⟩
      obtain ⟨hc, hf, hz, hs⟩ := bcell hb
      (try simp only [World.size_alloc, World.size_setCell, World.size_drew, size_drewN] at hs); (first | have l0 := Nat.lt_of_lt_of_le l0 (show _ ≤ w1.heap.size by omega) | have l0 : w.heap.size < w1.heap.size := (by omega) | skip); (try have l0e := Nat.le_of_lt l0); (try have l0f := Nat.le_add_right_of_le (k := 1) l0e); (try have l1 := Nat.lt_of_lt_of_le l1 (show _ ≤ w1.heap.size by omega)); (try have l1e := Nat.le_of_lt l1); (try have l1f := Nat.le_add_right_of_le (k := 1) l1e); (try have l2 := Nat.lt_of_lt_of_le l2 (show _ ≤ w1.heap.size by omega)); (try have l2e := Nat.le_of_lt l2); (try have l2f := Nat.le_add_right_of_le (k := 1) l2e); (try have l3 := Nat.lt_of_lt_of_le l3 (show _ ≤ w1.heap.size by omega)); (try have l3e := Nat.le_of_lt l3); (try have l3f := Nat.le_add_right_of_le (k := 1) l3e)
      have e1 : Ext w w1 := hb
      clear hc hf hz hs hb
      go_wp2_with (fail)
      refine (CM.out [1] _ _ _ (hx.ext (e1.tr (by (repeat' (first | (with_reducible exact Below.refl _ _) | (with_reducible refine Below.mono (by assumption) ?_) | (with_reducible refine Below.trans ?_ (Below.mono (by assumption) ?_)) | (with_reducible refine Below.alloc ?_ ?_ _) | (with_reducible refine Below.drew ?_) | (with_reducible refine below_drewN ?_ _) | (with_reducible refine Below.setCell ?_ ?_ _) | (simp only [World.size_alloc, World.size_setCell, World.size_drew, size_drewN]; omega) | omega))))) (litInts w1 [1] 3) (by simp)).mono ?_
      rintro e w2 ⟨rfl, hb⟩
      have e2 : Ext w w2 := e1.tr (by (repeat' (first | (with_reducible exact Below.refl _ _) | (with_reducible refine Below.mono (by assumption) ?_) | (with_reducible refine Below.trans ?_ (Below.mono (by assumption) ?_)) | (with_reducible refine Below.alloc ?_ ?_ _) | (with_reducible refine Below.drew ?_) | (with_reducible refine below_drewN ?_ _) | (with_reducible refine Below.setCell ?_ ?_ _) | (simp only [World.size_alloc, World.size_setCell, World.size_drew, size_drewN]; omega) | omega)))
      go_wp2_with (fail)
      refine (around_c _ _ (HLOW.out [1])).mono ?_
      rintro e w3 ⟨rfl, hb3⟩
      go_wp2
      go_ret
      exact ⟨ret_bool HR.out.symm, e2.tr hb3⟩
    by_cases h2 : kind = 2
    · subst h2
      have hre : hasA L 2 = arou (rowsOf [1, 2] L) := rfl
      have HR := Lib.hid hre
      clear hre hr h1
      go_enter Tryz.func79, Tryz.ntmps79
      go_wp2_with (fail)
      go_at_call 109
      refine (CV.out _ (hx.ext (by (repeat' (first | (with_reducible exact Below.refl _ _) | (with_reducible refine Below.mono (by assumption) ?_) | (with_reducible refine Below.trans ?_ (Below.mono (by assumption) ?_)) | (with_reducible refine Below.alloc ?_ ?_ _) | (with_reducible refine Below.drew ?_) | (with_reducible refine below_drewN ?_ _) | (with_reducible refine Below.setCell ?_ ?_ _) | (simp only [World.size_alloc, World.size_setCell, World.size_drew, size_drewN]; omega) | omega))))).mono ?_
      rintro e w1 ⟨rfl, hb⟩
      obtain ⟨hc, hf, hz, hs⟩ := bcell hb
      (try simp only [World.size_alloc, World.size_setCell, World.size_drew, size_drewN] at hs); (first | have l0 := Nat.lt_of_lt_of_le l0 (show _ ≤ w1.heap.size by omega) | have l0 : w.heap.size < w1.heap.size := (by omega) | skip); (try have l0e := Nat.le_of_lt l0); (try have l0f := Nat.le_add_right_of_le (k := 1) l0e); (try have l1 := Nat.lt_of_lt_of_le l1 (show _ ≤ w1.heap.size by omega)); (try have l1e := Nat.le_of_lt l1); (try have l1f := Nat.le_add_right_of_le (k := 1) l1e); (try have l2 := Nat.lt_of_lt_of_le l2 (show _ ≤ w1.heap.size by omega)); (try have l2e := Nat.le_of_lt l2); (try have l2f := Nat.le_add_right_of_le (k := 1) l2e); (try have l3 := Nat.lt_of_lt_of_le l3 (show _ ≤ w1.heap.size by omega)); (try have l3e := Nat.le_of_lt l3); (try have l3f := Nat.le_add_right_of_le (k := 1) l3e)
      have e1 : Ext w w1 := hb
      clear hc hf hz hs hb
      go_wp2_with (fail)
      refine (CM.out [1, 2] _ _ _ (hx.ext (e1.tr (by (repeat' (first | (with_reducible exact Below.refl _ _) | (with_reducible refine Below.mono (by assumption) ?_) | (with_reducible refine Below.trans ?_ (Below.mono (by assumption) ?_)) | (with_reducible refine Below.alloc ?_ ?_ _) | (with_reducible refine Below.drew ?_) | (with_reducible refine below_drewN ?_ _) | (with_reducible refine Below.setCell ?_ ?_ _) | (simp only [World.size_alloc, World.size_setCell, World.size_drew, size_drewN]; omega) | omega))))) (litInts w1 [1, 2] 3) (by simp)).mono ?_
      rintro e w2 ⟨rfl, hb⟩
      have e2 : Ext w w2 := e1.tr (by (repeat' (first | (with_reducible exact Below.refl _ _) | (with_reducible refine Below.mono (by assumption) ?_) | (with_reducible refine Below.trans ?_ (Below.mono (by assumption) ?_)) | (with_reducible refine Below.alloc ?_ ?_ _) | (with_reducible refine Below.drew ?_) | (with_reducible refine below_drewN ?_ _) | (with_reducible refine Below.setCell ?_ ?_ _) | (simp only [World.size_alloc, World.size_setCell, World.size_drew, size_drewN]; omega) | omega)))
      go_wp2_with (fail)
      refine (around_c _ _ (HLOW.out [1, 2])).mono ?_
      rintro e w3 ⟨rfl, hb3⟩
      go_wp2
      go_ret
      exact ⟨ret_bool HR.out.symm, e2.tr hb3⟩
    by_cases h4 : kind = 4
    · subst h4
      have hre : hasA L 4 = arou (rowsOf [1, 2, 3] L) := rfl
      have HR := Lib.hid hre
      clear hre hr h1 h2
      go_enter Tryz.func79, Tryz.ntmps79
      go_wp2_with (fail)
      go_at_call 109
      refine (CV.out _ (hx.ext (by (repeat' (first | (with_reducible exact Below.refl _ _) | (with_reducible refine Below.mono (by assumption) ?_) | (with_reducible refine Below.trans ?_ (Below.mono (by assumption) ?_)) | (with_reducible refine Below.alloc ?_ ?_ _) | (with_reducible refine Below.drew ?_) | (with_reducible refine below_drewN ?_ _) | (with_reducible refine Below.setCell ?_ ?_ _) | (simp only [World.size_alloc, World.size_setCell, World.size_drew, size_drewN]; omega) | omega))))).mono ?_
      rintro e w1 ⟨rfl, hb⟩
      obtain ⟨hc, hf, hz, hs⟩ := bcell hb
      (try simp only [World.size_alloc, World.size_setCell, World.size_drew, size_drewN] at hs); (first | have l0 := Nat.lt_of_lt_of_le l0 (show _ ≤ w1.heap.size by omega) | have l0 : w.heap.size < w1.heap.size := (by omega) | skip); (try have l0e := Nat.le_of_lt l0); (try have l0f := Nat.le_add_right_of_le (k := 1) l0e); (try have l1 := Nat.lt_of_lt_of_le l1 (show _ ≤ w1.heap.size by omega)); (try have l1e := Nat.le_of_lt l1); (try have l1f := Nat.le_add_right_of_le (k := 1) l1e); (try have l2 := Nat.lt_of_lt_of_le l2 (show _ ≤ w1.heap.size by omega)); (try have l2e := Nat.le_of_lt l2); (try have l2f := Nat.le_add_right_of_le (k := 1) l2e); (try have l3 := Nat.lt_of_lt_of_le l3 (show _ ≤ w1.heap.size by omega)); (try have l3e := Nat.le_of_lt l3); (try have l3f := Nat.le_add_right_of_le (k := 1) l3e)
      have e1 : Ext w w1 := hb
      clear hc hf hz hs hb
      go_wp2_with (fail)
      refine (CM.out [1, 2, 3] _ _ _ (hx.ext (e1.tr (by (repeat' (first | (with_reducible exact Below.refl _ _) | (with_reducible refine Below.mono (by assumption) ?_) | (with_reducible refine Below.trans ?_ (Below.mono (by assumption) ?_)) | (with_reducible refine Below.alloc ?_ ?_ _) | (with_reducible refine Below.drew ?_) | (with_reducible refine below_drewN ?_ _) | (with_reducible refine Below.setCell ?_ ?_ _) | (simp only [World.size_alloc, World.size_setCell, World.size_drew, size_drewN]; omega) | omega))))) (litInts w1 [1, 2, 3] 3) (by simp)).mono ?_
      rintro e w2 ⟨rfl, hb⟩
      have e2 : Ext w w2 := e1.tr (by (repeat' (first | (with_reducible exact Below.refl _ _) | (with_reducible refine Below.mono (by assumption) ?_) | (with_reducible refine Below.trans ?_ (Below.mono (by assumption) ?_)) | (with_reducible refine Below.alloc ?_ ?_ _) | (with_reducible refine Below.drew ?_) | (with_reducible refine below_drewN ?_ _) | (with_reducible refine Below.setCell ?_ ?_ _) | (simp only [World.size_alloc, World.size_setCell, World.size_drew, size_drewN]; omega) | omega)))
      go_wp2_with (fail)
      refine (around_c _ _ (HLOW.out [1, 2, 3])).mono ?_
      rintro e w3 ⟨rfl, hb3⟩
      go_wp2
      go_ret
      exact ⟨ret_bool HR.out.symm, e2.tr hb3⟩
    by_cases h3 : kind = 3
    · subst h3
      have hre : hasA L 3 = L.any (single3 L) := rfl
      have HR := Lib.hid hre
      clear hre hr h1 h2 h4
      have CR := fun w => reach_c (rowsOf [1, 2] L) w (HLOW.out [1, 2])
      have hcl := clo_low (HLOW.out [1, 2])
      have hsg : ∀ (a y : Nat) (z : Int), single3 L ⟨a, y, z⟩ = (z == 3 && (clo (rowsOf [1, 2] L) y).testBit a) := fun a y z => rfl
      generalize clo (rowsOf [1, 2] L) = F at CR hcl hsg
      have CR := Lib.hid CR
      have HC := Lib.hid hcl
      have HS := Lib.hid hsg
      clear hcl hsg
      go_enter Tryz.func79, Tryz.ntmps79
      go_wp2_with (fail)
      go_at_call 109
      refine (CV.out _ (hx.ext (by (repeat' (first | (with_reducible exact Below.refl _ _) | (with_reducible refine Below.mono (by assumption) ?_) | (with_reducible refine Below.trans ?_ (Below.mono (by assumption) ?_)) | (with_reducible refine Below.alloc ?_ ?_ _) | (with_reducible refine Below.drew ?_) | (with_reducible refine below_drewN ?_ _) | (with_reducible refine Below.setCell ?_ ?_ _) | (simp only [World.size_alloc, World.size_setCell, World.size_drew, size_drewN]; omega) | omega))))).mono ?_
      rintro e w1 ⟨rfl, hb⟩
      obtain ⟨hc, hf, hz, hs⟩ := bcell hb
      (try simp only [World.size_alloc, World.size_setCell, World.size_drew, size_drewN] at hs); (first | have l0 := Nat.lt_of_lt_of_le l0 (show _ ≤ w1.heap.size by omega) | have l0 : w.heap.size < w1.heap.size := (by omega) | skip); (try have l0e := Nat.le_of_lt l0); (try have l0f := Nat.le_add_right_of_le (k := 1) l0e); (try have l1 := Nat.lt_of_lt_of_le l1 (show _ ≤ w1.heap.size by omega)); (try have l1e := Nat.le_of_lt l1); (try have l1f := Nat.le_add_right_of_le (k := 1) l1e); (try have l2 := Nat.lt_of_lt_of_le l2 (show _ ≤ w1.heap.size by omega)); (try have l2e := Nat.le_of_lt l2); (try have l2f := Nat.le_add_right_of_le (k := 1) l2e); (try have l3 := Nat.lt_of_lt_of_le l3 (show _ ≤ w1.heap.size by omega)); (try have l3e := Nat.le_of_lt l3); (try have l3f := Nat.le_add_right_of_le (k := 1) l3e)
      have e1 : Ext w w1 := hb
      clear hc hf hz hs hb
      go_wp2_with (fail)
      refine (CM.out [1, 2] _ _ _ (hx.ext (e1.tr (by (repeat' (first | (with_reducible exact Below.refl _ _) | (with_reducible refine Below.mono (by assumption) ?_) | (with_reducible refine Below.trans ?_ (Below.mono (by assumption) ?_)) | (with_reducible refine Below.alloc ?_ ?_ _) | (with_reducible refine Below.drew ?_) | (with_reducible refine below_drewN ?_ _) | (with_reducible refine Below.setCell ?_ ?_ _) | (simp only [World.size_alloc, World.size_setCell, World.size_drew, size_drewN]; omega) | omega))))) (litInts w1 [1, 2] 3) (by simp)).mono ?_
      rintro e w2 ⟨rfl, hb⟩
      have e2 : Ext w w2 := e1.tr (by (repeat' (first | (with_reducible exact Below.refl _ _) | (with_reducible refine Below.mono (by assumption) ?_) | (with_reducible refine Below.trans ?_ (Below.mono (by assumption) ?_)) | (with_reducible refine Below.alloc ?_ ?_ _) | (with_reducible refine Below.drew ?_) | (with_reducible refine below_drewN ?_ _) | (with_reducible refine Below.setCell ?_ ?_ _) | (simp only [World.size_alloc, World.size_setCell, World.size_drew, size_drewN]; omega) | omega)))
      clear hb
      go_wp2_with (fail)
      refine (CR.out _).mono ?_
      rintro e w3 ⟨rfl, hb⟩
      have e3 : Ext w w3 := e2.tr hb
      have hB : Blk (w3.alloc (.cells (matA F) 122)) w3.heap.size 122 (matA F) := Blk.new _ _ _
      have HB := Lib.hid hB
      have z3 := e3.size
      clear hb hB
      go_wp2
      go_loopw [35] (fun i wr => ∃ k : Nat, k ≤ L.length ∧ i = .int .i64 k ∧ Ext w wr ∧ Blk wr w3.heap.size 122 (matA F) ∧ AllTo (fun e => !single3 L e) L k) (fun i _ => L.length - (intOf i).toNat)
      case atStart => exact ⟨0, Nat.zero_le _, rfl, by (repeat' (first | (with_reducible exact Below.refl _ _) | (with_reducible refine Below.mono (by assumption) ?_) | (with_reducible refine Below.trans ?_ (Below.mono (by assumption) ?_)) | (with_reducible refine Below.alloc ?_ ?_ _) | (with_reducible refine Below.drew ?_) | (with_reducible refine below_drewN ?_ _) | (with_reducible refine Below.setCell ?_ ?_ _) | (simp only [World.size_alloc, World.size_setCell, World.size_drew, size_drewN]; omega) | omega)), HB.out, AllTo.zero⟩
      case round =>
        obtain ⟨k, hk, rfl, hE, hM, hall⟩ := hrel
        have HA := Lib.hid hall
        have hEz := hE.size
        have hMl := hM.lt
        clear hall HB
        by_cases hlt : k < L.length
        · obtain ⟨x0, x1, x2, b, off, hxk, rfl, _, hb0, c0, c1, c2⟩ := (hx.ext hE).at_ hlt
          have hed := HED.out _ (List.mem_of_getElem? hxk)
          unfold ed6 at hed
          simp only at hed
          obtain ⟨g1, g2, g3, g4⟩ := hed
          have HX := Lib.hid hxk
          clear hxk
          obtain ⟨a, rfl⟩ := Int.eq_ofNat_of_zero_le g1
          obtain ⟨y, rfl⟩ := Int.eq_ofNat_of_zero_le g3
          have hsv := HS.out a y x2
          have m0 := mat_cell hM (i := 0) (by omega)
          have m1 := mat_cell hM (i := 1) (by omega)
          have m2 := mat_cell hM (i := 2) (by omega)
          have m3 := mat_cell hM (i := 3) (by omega)
          have m4 := mat_cell hM (i := 4) (by omega)
          have m5 := mat_cell hM (i := 5) (by omega)
          have hEb : Ext wr (wr.alloc (.cells #[.int .i64 a, .int .i64 y, .int .i64 x2] 51)) := by (repeat' (first | (with_reducible exact Below.refl _ _) | (with_reducible refine Below.mono (by assumption) ?_) | (with_reducible refine Below.trans ?_ (Below.mono (by assumption) ?_)) | (with_reducible refine Below.alloc ?_ ?_ _) | (with_reducible refine Below.drew ?_) | (with_reducible refine below_drewN ?_ _) | (with_reducible refine Below.setCell ?_ ?_ _) | (simp only [World.size_alloc, World.size_setCell, World.size_drew, size_drewN]; omega) | omega))
          have HM := Lib.hid hM
          clear hM
          by_cases hx3 : x2 = 3
          · subst hx3
            have C2 := fun w => has_c F y a w (by omega) (by omega) HC.out
            have h33 : ((3 : Int) == 3) = true := rfl
            rw [h33, Bool.true_and] at hsv
            rw [← hsv] at C2
            clear h33
            cases hsb : single3 L ⟨a, y, 3⟩ with
            | true =>
              rw [hsb] at C2
              have hres : L.any (single3 L) = true := any_true HX.out hsb
              have C2 := Lib.hid C2
              have HRR := Lib.hid (HR.out.trans hres)
              clear hsv hsb hres
              go_wp2_with (fail)
              refine (C2.out _).mono ?_
              rintro e w4 ⟨rfl, hb4⟩
              go_wp2
              go_ret
              exact ⟨ret_bool HRR.out.symm, hE.tr (hEb.tr hb4)⟩
            | false =>
              rw [hsb] at C2
              have hst := HA.out.step (p := fun e => !single3 L e) HX.out (by rw [hsb]; rfl)
              have C2 := Lib.hid C2
              have HST := Lib.hid hst
              clear hsv hsb hst
              go_wp2_with (fail)
              refine (C2.out _).mono ?_
              rintro e w4 ⟨rfl, hb4⟩
              go_wp2
              exact ⟨⟨k + 1, by omega, by go_num, hE.tr (hEb.tr hb4), HM.out.ext (hEb.tr hb4), HST.out⟩, by simp [intOf]; omega⟩
          · have hx30 : (x2 == 3) = false := by simpa using hx3
            rw [hx30, Bool.false_and] at hsv
            have hst := HA.out.step (p := fun e => !single3 L e) HX.out (by rw [hsv]; rfl)
            have HST := Lib.hid hst
            clear hsv hst hx3
            go_wp2
            exact ⟨⟨k + 1, by omega, by go_num, hE.tr hEb, HM.out.ext hEb, HST.out⟩, by simp [intOf]; omega⟩
        · obtain rfl : k = L.length := by omega
          have hres : L.any (single3 L) = false := HA.out.any_not
          have HRR := Lib.hid (HR.out.trans hres)
          clear hres hM
          go_wp2
          go_ret
          exact ⟨ret_bool HRR.out.symm, hE⟩
    · have hre : hasA L kind = false := by unfold hasA; rw [if_neg h1, if_neg h2, if_neg h3, if_neg h4]
      have HR := Lib.hid hre
      clear hre hr
      have k1 : (kind == 1) = false := by simpa using h1
      have k2 : (kind == 2) = false := by simpa using h2
      have k3 : (kind == 3) = false := by simpa using h3
      have k4 : (kind == 4) = false := by simpa using h4
      clear h1 h2 h3 h4
      go_enter Tryz.func79, Tryz.ntmps79
      go_wp2_with (fail)
      go_at_call 109
      refine (CV.out _ (hx.ext (by (repeat' (first | (with_reducible exact Below.refl _ _) | (with_reducible refine Below.mono (by assumption) ?_) | (with_reducible refine Below.trans ?_ (Below.mono (by assumption) ?_)) | (with_reducible refine Below.alloc ?_ ?_ _) | (with_reducible refine Below.drew ?_) | (with_reducible refine below_drewN ?_ _) | (with_reducible refine Below.setCell ?_ ?_ _) | (simp only [World.size_alloc, World.size_setCell, World.size_drew, size_drewN]; omega) | omega))))).mono ?_
      rintro e w1 ⟨rfl, hb⟩
      obtain ⟨hc, hf, hz, hs⟩ := bcell hb
      (try simp only [World.size_alloc, World.size_setCell, World.size_drew, size_drewN] at hs); (first | have l0 := Nat.lt_of_lt_of_le l0 (show _ ≤ w1.heap.size by omega) | have l0 : w.heap.size < w1.heap.size := (by omega) | skip); (try have l0e := Nat.le_of_lt l0); (try have l0f := Nat.le_add_right_of_le (k := 1) l0e); (try have l1 := Nat.lt_of_lt_of_le l1 (show _ ≤ w1.heap.size by omega)); (try have l1e := Nat.le_of_lt l1); (try have l1f := Nat.le_add_right_of_le (k := 1) l1e); (try have l2 := Nat.lt_of_lt_of_le l2 (show _ ≤ w1.heap.size by omega)); (try have l2e := Nat.le_of_lt l2); (try have l2f := Nat.le_add_right_of_le (k := 1) l2e); (try have l3 := Nat.lt_of_lt_of_le l3 (show _ ≤ w1.heap.size by omega)); (try have l3e := Nat.le_of_lt l3); (try have l3f := Nat.le_add_right_of_le (k := 1) l3e)
      go_wp2
      go_ret
      exact ⟨ret_bool HR.out.symm, hb⟩

/-- a cycle of the edges up to a kind -/
def cycU (m : Nat) (L : List T3) (q : Int) : List Int := cycR m (upto q L)
set_option maxHeartbeats 4000000 in
theorem specHasAnomaly_c (many : Int) (L : List T3) (S : Nat → Prop) (A : Option Addr) (c : Nat) (kind : Int) (w : World) (hx : Ops S w A L) (hn : L.length ≤ 1048576) :
    Calls Tryz.prog 48 #[.int .i64 many, .slice A L.length c, .int .i64 kind] w fun e w' => e = .returned (.bool (hasV many L kind)) ∧ Ext w w' := by
  have CV := fun w hx => specEdgesValid_c many L S A c w hx hn
  unfold hasV
  cases hv : edgesValid many L with
  | false =>
    rw [hv] at CV
    have CV := Lib.hid CV
    clear hv
    go_enter Tryz.func48, Tryz.ntmps48
    go_wp2_with (fail)
    go_at_call 74
    refine (CV.out _ (hx.ext (by (repeat' (first | (with_reducible exact Below.refl _ _) | (with_reducible refine Below.mono (by assumption) ?_) | (with_reducible refine Below.trans ?_ (Below.mono (by assumption) ?_)) | (with_reducible refine Below.alloc ?_ ?_ _) | (with_reducible refine Below.drew ?_) | (with_reducible refine below_drewN ?_ _) | (with_reducible refine Below.setCell ?_ ?_ _) | (simp only [World.size_alloc, World.size_setCell, World.size_drew, size_drewN]; omega) | omega))))).mono ?_
    rintro e w1 ⟨rfl, hb⟩
    obtain ⟨hc, hf, hz, hs⟩ := bcell hb
    (try simp only [World.size_alloc, World.size_setCell, World.size_drew, size_drewN] at hs); (first | have l0 := Nat.lt_of_lt_of_le l0 (show _ ≤ w1.heap.size by omega) | have l0 : w.heap.size < w1.heap.size := (by omega) | skip); (try have l0e := Nat.le_of_lt l0); (try have l0f := Nat.le_add_right_of_le (k := 1) l0e); (try have l1 := Nat.lt_of_lt_of_le l1 (show _ ≤ w1.heap.size by omega)); (try have l1e := Nat.le_of_lt l1); (try have l1f := Nat.le_add_right_of_le (k := 1) l1e); (try have l2 := Nat.lt_of_lt_of_le l2 (show _ ≤ w1.heap.size by omega)); (try have l2e := Nat.le_of_lt l2); (try have l2f := Nat.le_add_right_of_le (k := 1) l2e); (try have l3 := Nat.lt_of_lt_of_le l3 (show _ ≤ w1.heap.size by omega)); (try have l3e := Nat.le_of_lt l3); (try have l3f := Nat.le_add_right_of_le (k := 1) l3e)
    go_wp2
    go_ret
    exact ⟨rfl, hb⟩
  | true =>
    rw [hv] at CV
    have CC := fun q S A c w hx => specCycleOf_c many (upto q L) S A c w hx (by have := upto_len q L; omega)
    have huv := fun q => upto_valid hv q
    obtain ⟨m, rfl, hm6, hl, hval⟩ := edgesValid_iff hv
    have hcv : ∀ q, cycV m (upto q L) = cycU m L q := fun q => by unfold cycV cycU; rw [if_pos (huv q)]; rfl
    simp only [hcv] at CC
    have CV := Lib.hid CV
    have CC := Lib.hid CC
    have HV := Lib.hid (show EdM m L from hval)
    clear hv hval huv hcv
    rw [Bool.true_and]
    by_cases h1 : kind = 1
    · subst h1
      have hre : hasA L 1 = decide (0 < (cycU m L 1).length) := (cyc_eq hm6 HV.out kinds1).symm
      have HR := Lib.hid hre
      clear hre
      go_enter Tryz.func48, Tryz.ntmps48
      go_wp2_with (fail)
      go_at_call 74
      refine (CV.out _ (hx.ext (by (repeat' (first | (with_reducible exact Below.refl _ _) | (with_reducible refine Below.mono (by assumption) ?_) | (with_reducible refine Below.trans ?_ (Below.mono (by assumption) ?_)) | (with_reducible refine Below.alloc ?_ ?_ _) | (with_reducible refine Below.drew ?_) | (with_reducible refine below_drewN ?_ _) | (with_reducible refine Below.setCell ?_ ?_ _) | (simp only [World.size_alloc, World.size_setCell, World.size_drew, size_drewN]; omega) | omega))))).mono ?_
      rintro e w1 ⟨rfl, hb⟩
      obtain ⟨hc, hf, hz, hs⟩ := bcell hb
      (try simp only [World.size_alloc, World.size_setCell, World.size_drew, size_drewN] at hs); (first | have l0 := Nat.lt_of_lt_of_le l0 (show _ ≤ w1.heap.size by omega) | have l0 : w.heap.size < w1.heap.size := (by omega) | skip); (try have l0e := Nat.le_of_lt l0); (try have l0f := Nat.le_add_right_of_le (k := 1) l0e); (try have l1 := Nat.lt_of_lt_of_le l1 (show _ ≤ w1.heap.size by omega)); (try have l1e := Nat.le_of_lt l1); (try have l1f := Nat.le_add_right_of_le (k := 1) l1e); (try have l2 := Nat.lt_of_lt_of_le l2 (show _ ≤ w1.heap.size by omega)); (try have l2e := Nat.le_of_lt l2); (try have l2f := Nat.le_add_right_of_le (k := 1) l2e); (try have l3 := Nat.lt_of_lt_of_le l3 (show _ ≤ w1.heap.size by omega)); (try have l3e := Nat.le_of_lt l3); (try have l3f := Nat.le_add_right_of_le (k := 1) l3e)
      have e1 : Ext w w1 := hb
      clear hc hf hz hs hb
      go_wp2_with (fail)
      refine (l10Upto_c 1 L _ _ _ _ (hx.ext e1) hn).mono ?_
      rintro e w2 ⟨A2, c2, rfl, hU, _, hb2⟩
      have e2 : Ext w w2 := e1.tr hb2
      go_wp2_with (fail)
      refine (CC.out 1 _ _ _ _ hU).mono ?_
      rintro e w3 ⟨A3, c3, rfl, _, _, hb3⟩
      have e3 : Ext w w3 := e2.tr hb3
      clear hU hb2 hb3
      go_wp2
      go_ret
      exact ⟨ret_bool (by rw [HR.out]), e3⟩
    by_cases h2 : kind = 2
    · subst h2
      have hre : hasA L 2 = decide (0 < (cycU m L 2).length) := (cyc_eq hm6 HV.out kinds2).symm
      have HR := Lib.hid hre
      clear hre h1
      go_enter Tryz.func48, Tryz.ntmps48
      go_wp2_with (fail)
      go_at_call 74
      refine (CV.out _ (hx.ext (by (repeat' (first | (with_reducible exact Below.refl _ _) | (with_reducible refine Below.mono (by assumption) ?_) | (with_reducible refine Below.trans ?_ (Below.mono (by assumption) ?_)) | (with_reducible refine Below.alloc ?_ ?_ _) | (with_reducible refine Below.drew ?_) | (with_reducible refine below_drewN ?_ _) | (with_reducible refine Below.setCell ?_ ?_ _) | (simp only [World.size_alloc, World.size_setCell, World.size_drew, size_drewN]; omega) | omega))))).mono ?_
      rintro e w1 ⟨rfl, hb⟩
      obtain ⟨hc, hf, hz, hs⟩ := bcell hb
      (try simp only [World.size_alloc, World.size_setCell, World.size_drew, size_drewN] at hs); (first | have l0 := Nat.lt_of_lt_of_le l0 (show _ ≤ w1.heap.size by omega) | have l0 : w.heap.size < w1.heap.size := (by omega) | skip); (try have l0e := Nat.le_of_lt l0); (try have l0f := Nat.le_add_right_of_le (k := 1) l0e); (try have l1 := Nat.lt_of_lt_of_le l1 (show _ ≤ w1.heap.size by omega)); (try have l1e := Nat.le_of_lt l1); (try have l1f := Nat.le_add_right_of_le (k := 1) l1e); (try have l2 := Nat.lt_of_lt_of_le l2 (show _ ≤ w1.heap.size by omega)); (try have l2e := Nat.le_of_lt l2); (try have l2f := Nat.le_add_right_of_le (k := 1) l2e); (try have l3 := Nat.lt_of_lt_of_le l3 (show _ ≤ w1.heap.size by omega)); (try have l3e := Nat.le_of_lt l3); (try have l3f := Nat.le_add_right_of_le (k := 1) l3e)
      have e1 : Ext w w1 := hb
      clear hc hf hz hs hb
      go_wp2_with (fail)
      refine (l10Upto_c 2 L _ _ _ _ (hx.ext e1) hn).mono ?_
      rintro e w2 ⟨A2, c2, rfl, hU, _, hb2⟩
      have e2 : Ext w w2 := e1.tr hb2
      go_wp2_with (fail)
      refine (CC.out 2 _ _ _ _ hU).mono ?_
      rintro e w3 ⟨A3, c3, rfl, _, _, hb3⟩
      have e3 : Ext w w3 := e2.tr hb3
      clear hU hb2 hb3
      go_wp2
      go_ret
      exact ⟨ret_bool (by rw [HR.out]), e3⟩
    by_cases h4 : kind = 4
    · subst h4
      have hre : hasA L 4 = decide (0 < (cycU m L 3).length) := (cyc_eq hm6 HV.out kinds3).symm
      have HR := Lib.hid hre
      clear hre h1 h2
      go_enter Tryz.func48, Tryz.ntmps48
      go_wp2_with (fail)
      go_at_call 74
      refine (CV.out _ (hx.ext (by (repeat' (first | (with_reducible exact Below.refl _ _) | (with_reducible refine Below.mono (by assumption) ?_) | (with_reducible refine Below.trans ?_ (Below.mono (by assumption) ?_)) | (with_reducible refine Below.alloc ?_ ?_ _) | (with_reducible refine Below.drew ?_) | (with_reducible refine below_drewN ?_ _) | (with_reducible refine Below.setCell ?_ ?_ _) | (simp only [World.size_alloc, World.size_setCell, World.size_drew, size_drewN]; omega) | omega))))).mono ?_
      rintro e w1 ⟨rfl, hb⟩
      obtain ⟨hc, hf, hz, hs⟩ := bcell hb
      (try simp only [World.size_alloc, World.size_setCell, World.size_drew, size_drewN] at hs); (first | have l0 := Nat.lt_of_lt_of_le l0 (show _ ≤ w1.heap.size by omega) | have l0 : w.heap.size < w1.heap.size := (by omega) | skip); (try have l0e := Nat.le_of_lt l0); (try have l0f := Nat.le_add_right_of_le (k := 1) l0e); (try have l1 := Nat.lt_of_lt_of_le l1 (show _ ≤ w1.heap.size by omega)); (try have l1e := Nat.le_of_lt l1); (try have l1f := Nat.le_add_right_of_le (k := 1) l1e); (try have l2 := Nat.lt_of_lt_of_le l2 (show _ ≤ w1.heap.size by omega)); (try have l2e := Nat.le_of_lt l2); (try have l2f := Nat.le_add_right_of_le (k := 1) l2e); (try have l3 := Nat.lt_of_lt_of_le l3 (show _ ≤ w1.heap.size by omega)); (try have l3e := Nat.le_of_lt l3); (try have l3f := Nat.le_add_right_of_le (k := 1) l3e)
      have e1 : Ext w w1 := hb
      clear hc hf hz hs hb
      go_wp2_with (fail)
      refine (l10Upto_c 3 L _ _ _ _ (hx.ext e1) hn).mono ?_
      rintro e w2 ⟨A2, c2, rfl, hU, _, hb2⟩
      have e2 : Ext w w2 := e1.tr hb2
      go_wp2_with (fail)
      refine (CC.out 3 _ _ _ _ hU).mono ?_
      rintro e w3 ⟨A3, c3, rfl, _, _, hb3⟩
      have e3 : Ext w w3 := e2.tr hb3
      clear hU hb2 hb3
      go_wp2
      go_ret
      exact ⟨ret_bool (by rw [HR.out]), e3⟩
    by_cases h3 : kind = 3
    · subst h3
      have hre : hasA L 3 = L.any (single3 L) := rfl
      have HR := Lib.hid hre
      have hsg := fun e he => single3_far hm6 HV.out (e := e) he
      have HSG := Lib.hid hsg
      have hul := upto_len 2 L
      have HUV := Lib.hid (upto_edM HV.out 2)
      clear hre h1 h2 h4 hsg
      go_enter Tryz.func48, Tryz.ntmps48
      go_wp2_with (fail)
      go_at_call 74
      refine (CV.out _ (hx.ext (by (repeat' (first | (with_reducible exact Below.refl _ _) | (with_reducible refine Below.mono (by assumption) ?_) | (with_reducible refine Below.trans ?_ (Below.mono (by assumption) ?_)) | (with_reducible refine Below.alloc ?_ ?_ _) | (with_reducible refine Below.drew ?_) | (with_reducible refine below_drewN ?_ _) | (with_reducible refine Below.setCell ?_ ?_ _) | (simp only [World.size_alloc, World.size_setCell, World.size_drew, size_drewN]; omega) | omega))))).mono ?_
      rintro e w1 ⟨rfl, hb⟩
      obtain ⟨hc, hf, hz, hs⟩ := bcell hb
      (try simp only [World.size_alloc, World.size_setCell, World.size_drew, size_drewN] at hs); (first | have l0 := Nat.lt_of_lt_of_le l0 (show _ ≤ w1.heap.size by omega) | have l0 : w.heap.size < w1.heap.size := (by omega) | skip); (try have l0e := Nat.le_of_lt l0); (try have l0f := Nat.le_add_right_of_le (k := 1) l0e); (try have l1 := Nat.lt_of_lt_of_le l1 (show _ ≤ w1.heap.size by omega)); (try have l1e := Nat.le_of_lt l1); (try have l1f := Nat.le_add_right_of_le (k := 1) l1e); (try have l2 := Nat.lt_of_lt_of_le l2 (show _ ≤ w1.heap.size by omega)); (try have l2e := Nat.le_of_lt l2); (try have l2f := Nat.le_add_right_of_le (k := 1) l2e); (try have l3 := Nat.lt_of_lt_of_le l3 (show _ ≤ w1.heap.size by omega)); (try have l3e := Nat.le_of_lt l3); (try have l3f := Nat.le_add_right_of_le (k := 1) l3e)
      have e1 : Ext w w1 := hb
      clear hc hf hz hs hb
      go_wp2_with (fail)
      refine (l10Upto_c 2 L _ _ _ _ (hx.ext e1) hn).mono ?_
      rintro e w2 ⟨A2, c2, rfl, hU, _, hb2⟩
      have e2 : Ext w w2 := e1.tr hb2
      have CF := fun t ht w hx => l9Far_c m t (upto 2 L) (fun b => w1.heap.size ≤ b) A2 c2 w hx (by omega) hm6 ht HUV.out
      have CF := Lib.hid CF
      have HU := Lib.hid hU
      generalize upto 2 L = U at CF HU HSG hul
      clear hU hb2
      go_wp2
      go_loopw [8] (fun i wr => ∃ k : Nat, k ≤ L.length ∧ i = .int .i64 k ∧ Ext w2 wr ∧ AllTo (fun e => !single3 L e) L k) (fun i _ => L.length - (intOf i).toNat)
      case atStart => exact ⟨0, Nat.zero_le _, rfl, Below.refl _ _, AllTo.zero⟩
      case round =>
        obtain ⟨k, hk, rfl, hE, hall⟩ := hrel
        have HA := Lib.hid hall
        have hE0 := e2.tr hE
        clear hall
        by_cases hlt : k < L.length
        · obtain ⟨x0, x1, x2, b, off, hxk, rfl, _, hb0, c0, c1, c2'⟩ := (hx.ext hE0).at_ hlt
          have hmem := List.mem_of_getElem? hxk
          obtain ⟨v1, v2, v3, v4, _⟩ := HV.out _ hmem
          have hsv := HSG.out _ hmem
          simp only at v1 v2 v3 v4 hsv
          have HX := Lib.hid hxk
          clear hxk hmem
          obtain ⟨a, rfl⟩ := Int.eq_ofNat_of_zero_le v1
          obtain ⟨y, rfl⟩ := Int.eq_ofNat_of_zero_le v3
          simp only [Int.toNat_natCast] at hsv
          have hai : (a : Int) < m := by omega
          have hyi : (y : Int) < m := by omega
          have hki : (k : Int) < L.length := by omega
          by_cases hx3 : x2 = 3
          · subst hx3
            have h33 : ((3 : Int) == 3) = true := rfl
            rw [h33, Bool.true_and] at hsv
            have CF2 := CF.out a (by omega)
            have fy : ∀ W B, Ints (fun b => wr.heap.size ≤ b) W B (fl m (farT U a m)) → ∃ bb off, B = some ⟨bb, off, none⟩ ∧ W.cell? ⟨bb, off + y, none⟩ = some (.int .i64 (farT U a m y)) := fun W B h => by
              obtain ⟨bb, off, rfl, _⟩ := h.off_ (by rw [fl_len]; omega)
              exact ⟨bb, off, rfl, h.cell (fl_get (by omega))⟩
            have hfl := fl_len m (farT U a m)
            generalize fl m (farT U a m) = FL at fy CF2 hfl
            obtain ⟨fv, hfv⟩ : ∃ fv : Int, fv = farT U a m y := ⟨_, rfl⟩
            have hsv2 : single3 L ⟨a, y, 3⟩ = true ↔ 0 ≤ fv := by rw [hsv, hfv]; exact decide_eq_true_iff
            simp only [← hfv] at fy
            clear hfv
            have CF2 := Lib.hid CF2
            have HFY := Lib.hid fy
            have hym : y < m := by omega
            have hFLi : (y : Int) < FL.length := by rw [hfl]; exact hyi
            have HFL := Lib.hid hfl
            have HSV := Lib.hid hsv2
            clear fy hsv hsv2 hfl
            go_wp2
            refine wp_region_held_drew (S := fun W => W.cell? ⟨b, off + k * 3, none⟩ = some (.int .i64 a) ∧ W.cell? ⟨b, off + k * 3 + 1, none⟩ = some (.int .i64 y) ∧ W.cell? ⟨b, off + k * 3 + 2, none⟩ = some (.int .i64 3)) (by kernel_rfl) ⟨c0, c1, c2'⟩ (fun hHeld => ?_)
            refine wpAnyH_take (i := 0) (oi := ?_) (v := ?_) ?_ ?_ ?_ ?_ ?_ ?_ hHeld ?_
            rotate_left 2
            · (simp only [List.getElem?_toArray, List.getElem?_cons_succ, List.getElem?_cons_zero]; rfl)
            · kernel_rfl
            · kernel_rfl
            · kernel_rfl
            · exact fun _ _ _ h => h
            · refine Or.inl ⟨by rfl, ?_⟩
              (intro w hSw; (try dsimp only at hSw); go_simp; try (with_reducible rfl))
            try simp only [Act.put, List.setIfInBounds_toArray, List.set_cons_zero, List.set_cons_succ]
            refine wpAnyH_take (i := 1) (oi := ?_) (v := ?_) ?_ ?_ ?_ ?_ ?_ ?_ hHeld ?_
            rotate_left 2
            · (simp only [List.getElem?_toArray, List.getElem?_cons_succ, List.getElem?_cons_zero]; rfl)
            · kernel_rfl
            · kernel_rfl
            · kernel_rfl
            · exact fun _ _ _ h => h
            · refine Or.inl ⟨by rfl, ?_⟩
              (intro w hSw; (try dsimp only at hSw); go_simp; try (with_reducible rfl))
            try simp only [Act.put, List.setIfInBounds_toArray, List.set_cons_zero, List.set_cons_succ]
            refine wpAnyH_take (i := 2) (oi := ?_) (v := ?_) ?_ ?_ ?_ ?_ ?_ ?_ hHeld ?_
            rotate_left 2
            · (simp only [List.getElem?_toArray, List.getElem?_cons_succ, List.getElem?_cons_zero]; rfl)
            · kernel_rfl
            · kernel_rfl
            · kernel_rfl
            · exact fun _ _ _ h => h
            · refine Or.inl ⟨by rfl, ?_⟩
              (intro w hSw; (try dsimp only at hSw); go_simp; try (with_reducible rfl))
            try simp only [Act.put, List.setIfInBounds_toArray, List.set_cons_zero, List.set_cons_succ]
            refine wpAnyH_take (i := 3) (oi := ?_) (v := ?_) ?_ ?_ ?_ ?_ ?_ ?_ hHeld ?_
            rotate_left 2
            · (simp only [List.getElem?_toArray, List.getElem?_cons_succ, List.getElem?_cons_zero]; rfl)
            · kernel_rfl
            · kernel_rfl
            · kernel_rfl
            · exact fun _ _ _ h => h
            · refine Or.inl ⟨by rfl, ?_⟩
              (intro w hSw; (try dsimp only at hSw); go_simp; try (with_reducible rfl))
            try simp only [Act.put, List.setIfInBounds_toArray, List.set_cons_zero, List.set_cons_succ]
            refine wpAnyH_take (i := 4) (oi := ?_) (v := ?_) ?_ ?_ ?_ ?_ ?_ ?_ hHeld ?_
            rotate_left 2
            · (simp only [List.getElem?_toArray, List.getElem?_cons_succ, List.getElem?_cons_zero]; rfl)
            · kernel_rfl
            · kernel_rfl
            · kernel_rfl
            · exact fun _ _ _ h => h
            · refine Or.inl ⟨by rfl, ?_⟩
              (intro w hSw; (try dsimp only at hSw); go_simp; try (with_reducible rfl))
            try simp only [Act.put, List.setIfInBounds_toArray, List.set_cons_zero, List.set_cons_succ]
            refine wpAnyH_take (i := 5) (oi := ?_) (v := ?_) ?_ ?_ ?_ ?_ ?_ ?_ hHeld ?_
            rotate_left 2
            · (simp only [List.getElem?_toArray, List.getElem?_cons_succ, List.getElem?_cons_zero]; rfl)
            · kernel_rfl
            · kernel_rfl
            · kernel_rfl
            · exact fun _ _ _ h => h
            · refine Or.inl ⟨by rfl, ?_⟩
              (intro w hSw; (try dsimp only at hSw); go_simp; try (with_reducible rfl))
            try simp only [Act.put, List.setIfInBounds_toArray, List.set_cons_zero, List.set_cons_succ]
            refine wpAnyH_take (i := 6) (oi := ?_) (v := ?_) ?_ ?_ ?_ ?_ ?_ ?_ hHeld ?_
            rotate_left 2
            · (simp only [List.getElem?_toArray, List.getElem?_cons_succ, List.getElem?_cons_zero]; rfl)
            · kernel_rfl
            · kernel_rfl
            · kernel_rfl
            · exact fun _ _ _ h => h
            · refine Or.inl ⟨by rfl, ?_⟩
              (intro w hSw; (try dsimp only at hSw); go_simp; try (with_reducible rfl))
            try simp only [Act.put, List.setIfInBounds_toArray, List.set_cons_zero, List.set_cons_succ]
            refine wpAnyH_take (i := 7) (oi := ?_) (v := ?_) ?_ ?_ ?_ ?_ ?_ ?_ hHeld ?_
            rotate_left 2
            · (simp only [List.getElem?_toArray, List.getElem?_cons_succ, List.getElem?_cons_zero]; rfl)
            · kernel_rfl
            · kernel_rfl
            · kernel_rfl
            · exact fun _ _ _ h => h
            · refine Or.inl ⟨by rfl, ?_⟩
              (intro w hSw; (try dsimp only at hSw); go_simp; try (with_reducible rfl))
            try simp only [Act.put, List.setIfInBounds_toArray, List.set_cons_zero, List.set_cons_succ]
            refine wpAnyH_take (i := 8) (oi := ?_) (v := ?_) ?_ ?_ ?_ ?_ ?_ ?_ hHeld ?_
            rotate_left 2
            · (simp only [List.getElem?_toArray, List.getElem?_cons_succ, List.getElem?_cons_zero]; rfl)
            · kernel_rfl
            · kernel_rfl
            · kernel_rfl
            · exact fun _ _ _ h => h
            · refine Or.inl ⟨by rfl, ?_⟩
              (intro w hSw; (try dsimp only at hSw); go_simp; try (with_reducible rfl))
            try simp only [Act.put, List.setIfInBounds_toArray, List.set_cons_zero, List.set_cons_succ]
            refine wpAnyH_take (i := 9) (oi := ?_) (v := ?_) ?_ ?_ ?_ ?_ ?_ ?_ hHeld ?_
            rotate_left 2
            · (simp only [List.getElem?_toArray, List.getElem?_cons_succ, List.getElem?_cons_zero]; rfl)
            · kernel_rfl
            · kernel_rfl
            · kernel_rfl
            · exact fun _ _ _ h => h
            · refine Or.inl ⟨by rfl, ?_⟩
              (intro w hSw; (try dsimp only at hSw); go_simp; try (with_reducible rfl))
            try simp only [Act.put, List.setIfInBounds_toArray, List.set_cons_zero, List.set_cons_succ]
            refine wpAnyH_take (i := 10) (oi := ?_) (v := ?_) ?_ ?_ ?_ ?_ ?_ ?_ hHeld ?_
            rotate_left 2
            · (simp only [List.getElem?_toArray, List.getElem?_cons_succ, List.getElem?_cons_zero]; rfl)
            · kernel_rfl
            · kernel_rfl
            · kernel_rfl
            · exact fun _ _ _ h => h
            · refine Or.inl ⟨by rfl, ?_⟩
              (intro w hSw; (try dsimp only at hSw); go_simp; try (with_reducible rfl))
            try simp only [Act.put, List.setIfInBounds_toArray, List.set_cons_zero, List.set_cons_succ]
            refine wpAnyH_take (i := 11) (oi := ?_) (v := ?_) ?_ ?_ ?_ ?_ ?_ ?_ hHeld ?_
            rotate_left 2
            · (simp only [List.getElem?_toArray, List.getElem?_cons_succ, List.getElem?_cons_zero]; rfl)
            · kernel_rfl
            · kernel_rfl
            · kernel_rfl
            · exact fun _ _ _ h => h
            · refine Or.inl ⟨by rfl, ?_⟩
              (intro w hSw; (try dsimp only at hSw); go_simp; try (with_reducible rfl))
            try simp only [Act.put, List.setIfInBounds_toArray, List.set_cons_zero, List.set_cons_succ]
            refine wpAnyH_take (i := 12) (oi := ?_) (v := ?_) ?_ ?_ ?_ ?_ ?_ ?_ hHeld ?_
            rotate_left 2
            · (simp only [List.getElem?_toArray, List.getElem?_cons_succ, List.getElem?_cons_zero]; rfl)
            · kernel_rfl
            · kernel_rfl
            · kernel_rfl
            · exact fun _ _ _ h => h
            · refine Or.inl ⟨by rfl, ?_⟩
              (intro w hSw; (try dsimp only at hSw); go_simp; try (with_reducible rfl))
            try simp only [Act.put, List.setIfInBounds_toArray, List.set_cons_zero, List.set_cons_succ]
            refine wpAnyH_take (i := 13) (oi := ?_) (v := ?_) ?_ ?_ ?_ ?_ ?_ ?_ hHeld ?_
            rotate_left 2
            · (simp only [List.getElem?_toArray, List.getElem?_cons_succ, List.getElem?_cons_zero]; rfl)
            · kernel_rfl
            · kernel_rfl
            · kernel_rfl
            · exact fun _ _ _ h => h
            · refine Or.inl ⟨by rfl, ?_⟩
              (intro w hSw; (try dsimp only at hSw); go_simp; try (with_reducible rfl))
            try simp only [Act.put, List.setIfInBounds_toArray, List.set_cons_zero, List.set_cons_succ]
            refine wpAnyH_take (i := 15) (oi := ?_) (v := ?_) ?_ ?_ ?_ ?_ ?_ ?_ hHeld ?_
            rotate_left 2
            · (simp only [List.getElem?_toArray, List.getElem?_cons_succ, List.getElem?_cons_zero]; rfl)
            · kernel_rfl
            · kernel_rfl
            · kernel_rfl
            · exact fun _ _ _ h => h
            · refine Or.inl ⟨by rfl, ?_⟩
              (intro w hSw; (try dsimp only at hSw); go_simp; try (with_reducible rfl))
            try simp only [Act.put, List.setIfInBounds_toArray, List.set_cons_zero, List.set_cons_succ]
            refine wpAnyH_take (i := 16) (oi := ?_) (v := ?_) ?_ ?_ ?_ ?_ ?_ ?_ hHeld ?_
            rotate_left 2
            · (simp only [List.getElem?_toArray, List.getElem?_cons_succ, List.getElem?_cons_zero]; rfl)
            · kernel_rfl
            · kernel_rfl
            · kernel_rfl
            · exact fun _ _ _ h => h
            · refine Or.inl ⟨by rfl, ?_⟩
              (intro w hSw; (try dsimp only at hSw); go_simp; try (with_reducible rfl))
            try simp only [Act.put, List.setIfInBounds_toArray, List.set_cons_zero, List.set_cons_succ]
            refine wpAnyH_take (i := 17) (oi := ?_) (v := ?_) ?_ ?_ ?_ ?_ ?_ ?_ hHeld ?_
            rotate_left 2
            · (simp only [List.getElem?_toArray, List.getElem?_cons_succ, List.getElem?_cons_zero]; rfl)
            · kernel_rfl
            · kernel_rfl
            · kernel_rfl
            · exact fun _ _ _ h => h
            · refine Or.inl ⟨by rfl, ?_⟩
              (intro w hSw; (try dsimp only at hSw); go_simp; try (with_reducible rfl))
            try simp only [Act.put, List.setIfInBounds_toArray, List.set_cons_zero, List.set_cons_succ]
            refine wpAnyH_take (i := 18) (oi := ?_) (v := ?_) ?_ ?_ ?_ ?_ ?_ ?_ hHeld ?_
            rotate_left 2
            · (simp only [List.getElem?_toArray, List.getElem?_cons_succ, List.getElem?_cons_zero]; rfl)
            · kernel_rfl
            · kernel_rfl
            · kernel_rfl
            · exact fun _ _ _ h => h
            · refine Or.inl ⟨by rfl, ?_⟩
              (intro w hSw; (try dsimp only at hSw); go_simp; try (with_reducible rfl))
            try simp only [Act.put, List.setIfInBounds_toArray, List.set_cons_zero, List.set_cons_succ]
            refine wpAnyH_take (i := 19) (oi := ?_) (v := ?_) ?_ ?_ ?_ ?_ ?_ ?_ hHeld ?_
            rotate_left 2
            · (simp only [List.getElem?_toArray, List.getElem?_cons_succ, List.getElem?_cons_zero]; rfl)
            · kernel_rfl
            · kernel_rfl
            · kernel_rfl
            · exact fun _ _ _ h => h
            · refine Or.inl ⟨by rfl, ?_⟩
              (intro w hSw; (try dsimp only at hSw); go_simp; try (with_reducible rfl))
            try simp only [Act.put, List.setIfInBounds_toArray, List.set_cons_zero, List.set_cons_succ]
            refine wpAnyH_ready (rs := [14]) (by kernel_rfl) (by simp) ?_
            refine AllReadyH.cons rfl (fun K hK => ?_) AllReadyH.nil
            go_simp
            go_at_call 77
            refine (CF2.out _ (HU.out.ext (by (repeat' (first | (with_reducible exact Below.refl _ _) | (with_reducible refine Below.mono (by assumption) ?_) | (with_reducible refine Below.trans ?_ (Below.mono (by assumption) ?_)) | (with_reducible refine Below.alloc ?_ ?_ _) | (with_reducible refine Below.drew ?_) | (with_reducible refine below_drewN ?_ _) | (with_reducible refine Below.setCell ?_ ?_ _) | (simp only [World.size_alloc, World.size_setCell, World.size_drew, size_drewN]; omega) | omega))))).mono ?_
            rintro e w4 ⟨B, cB, rfl, hF, _, hb⟩
            obtain ⟨bb, offb, rfl, cF⟩ := HFY.out _ _ hF
            have hb4 : Ext wr w4 := by (repeat' (first | (with_reducible exact Below.refl _ _) | (with_reducible refine Below.mono (by assumption) ?_) | (with_reducible refine Below.trans ?_ (Below.mono (by assumption) ?_)) | (with_reducible refine Below.alloc ?_ ?_ _) | (with_reducible refine Below.drew ?_) | (with_reducible refine below_drewN ?_ _) | (with_reducible refine Below.setCell ?_ ?_ _) | (simp only [World.size_alloc, World.size_setCell, World.size_drew, size_drewN]; omega) | omega))
            clear hF hb
            go_wp2_with (fail)
            clear hHeld
            refine hK.out _ _ ⟨hb4.keep hb0 c0, hb4.keep hb0 c1, hb4.keep hb0 c2'⟩ (fun hHeld => ?_)
            clear hK K
            try simp only [Act.put, List.setIfInBounds_toArray, List.set_cons_zero, List.set_cons_succ]
            refine wpAnyH_take (i := 20) (oi := ?_) (v := ?_) ?_ ?_ ?_ ?_ ?_ ?_ hHeld ?_
            rotate_left 2
            · (simp only [List.getElem?_toArray, List.getElem?_cons_succ, List.getElem?_cons_zero]; rfl)
            · kernel_rfl
            · kernel_rfl
            · kernel_rfl
            · exact fun _ _ _ h => h
            · refine Or.inl ⟨by rfl, ?_⟩
              (intro w hSw; (try dsimp only at hSw); go_simp; try (with_reducible rfl))
            try simp only [Act.put, List.setIfInBounds_toArray, List.set_cons_zero, List.set_cons_succ]
            refine wpAnyH_ready (rs := [21]) (by kernel_rfl) (by simp) ?_
            refine AllReadyH.cons rfl (fun K hK => ?_) AllReadyH.nil
            go_simp
            refine hK.out _ _ hHeld (fun hHeld => ?_)
            clear hK K
            try simp only [Act.put, List.setIfInBounds_toArray, List.set_cons_zero, List.set_cons_succ]
            refine wpAnyH_take (i := 22) (oi := ?_) (v := ?_) ?_ ?_ ?_ ?_ ?_ ?_ hHeld ?_
            rotate_left 2
            · (simp only [List.getElem?_toArray, List.getElem?_cons_succ, List.getElem?_cons_zero]; rfl)
            · kernel_rfl
            · kernel_rfl
            · kernel_rfl
            · exact fun _ _ _ h => h
            · refine Or.inl ⟨by rfl, ?_⟩
              (intro w hSw; (try dsimp only at hSw); go_simp; try (with_reducible rfl))
            try simp only [Act.put, List.setIfInBounds_toArray, List.set_cons_zero, List.set_cons_succ]
            refine wpAnyH_take (i := 23) (oi := ?_) (v := ?_) ?_ ?_ ?_ ?_ ?_ ?_ hHeld ?_
            rotate_left 2
            · (simp only [List.getElem?_toArray, List.getElem?_cons_succ, List.getElem?_cons_zero]; rfl)
            · kernel_rfl
            · kernel_rfl
            · kernel_rfl
            · exact fun _ _ _ h => h
            · refine Or.inl ⟨by rfl, ?_⟩
              (intro w hSw; (try dsimp only at hSw); go_simp; try (with_reducible rfl))
            try simp only [Act.put, List.setIfInBounds_toArray, List.set_cons_zero, List.set_cons_succ]
            refine wpAnyH_done (by kernel_rfl) ?_ _
            go_wp2
            · rename_i hfv
              have hsb : single3 L ⟨a, y, 3⟩ = true := HSV.out.2 hfv
              have hres : L.any (single3 L) = true := any_true HX.out hsb
              have HRR := Lib.hid (HR.out.trans hres)
              clear hsb hres
              go_ret
              exact ⟨ret_bool HRR.out.symm, hE0.tr hb4⟩
            · rename_i hfv
              have hsb : single3 L ⟨a, y, 3⟩ = false := by
                cases hq : single3 L ⟨a, y, 3⟩ with
                | false => rfl
                | true => have := HSV.out.1 hq; omega
              have hst := HA.out.step (p := fun e => !single3 L e) HX.out (by rw [hsb]; rfl)
              exact ⟨⟨k + 1, by omega, by go_num, hE.tr hb4, hst⟩, by simp [intOf]; omega⟩
          · have hx30 : (x2 == 3) = false := by simpa using hx3
            rw [hx30, Bool.false_and] at hsv
            have hst := HA.out.step (p := fun e => !single3 L e) HX.out (by rw [hsv]; rfl)
            have HST := Lib.hid hst
            clear hsv hst hx3
            go_wp2
            go_quiet (fail)
            go_wp2
            exact ⟨⟨k + 1, by omega, by go_num, below_drewN hE _, HST.out⟩, by simp [intOf]; omega⟩
        · obtain rfl : k = L.length := by omega
          have hres : L.any (single3 L) = false := HA.out.any_not
          have HRR := Lib.hid (HR.out.trans hres)
          clear hres
          go_wp2
          go_ret
          exact ⟨ret_bool HRR.out.symm, hE0⟩
    · have hre : hasA L kind = false := by unfold hasA; rw [if_neg h1, if_neg h2, if_neg h3, if_neg h4]
      have HR := Lib.hid hre
      clear hre
      have k1 : (kind == 1) = false := by simpa using h1
      have k2 : (kind == 2) = false := by simpa using h2
      have k3 : (kind == 3) = false := by simpa using h3
      have k4 : (kind == 4) = false := by simpa using h4
      clear h1 h2 h3 h4
      go_enter Tryz.func48, Tryz.ntmps48
      go_wp2_with (fail)
      go_at_call 74
      refine (CV.out _ (hx.ext (by (repeat' (first | (with_reducible exact Below.refl _ _) | (with_reducible refine Below.mono (by assumption) ?_) | (with_reducible refine Below.trans ?_ (Below.mono (by assumption) ?_)) | (with_reducible refine Below.alloc ?_ ?_ _) | (with_reducible refine Below.drew ?_) | (with_reducible refine below_drewN ?_ _) | (with_reducible refine Below.setCell ?_ ?_ _) | (simp only [World.size_alloc, World.size_setCell, World.size_drew, size_drewN]; omega) | omega))))).mono ?_
      rintro e w1 ⟨rfl, hb⟩
      obtain ⟨hc, hf, hz, hs⟩ := bcell hb
      (try simp only [World.size_alloc, World.size_setCell, World.size_drew, size_drewN] at hs); (first | have l0 := Nat.lt_of_lt_of_le l0 (show _ ≤ w1.heap.size by omega) | have l0 : w.heap.size < w1.heap.size := (by omega) | skip); (try have l0e := Nat.le_of_lt l0); (try have l0f := Nat.le_add_right_of_le (k := 1) l0e); (try have l1 := Nat.lt_of_lt_of_le l1 (show _ ≤ w1.heap.size by omega)); (try have l1e := Nat.le_of_lt l1); (try have l1f := Nat.le_add_right_of_le (k := 1) l1e); (try have l2 := Nat.lt_of_lt_of_le l2 (show _ ≤ w1.heap.size by omega)); (try have l2e := Nat.le_of_lt l2); (try have l2f := Nat.le_add_right_of_le (k := 1) l2e); (try have l3 := Nat.lt_of_lt_of_le l3 (show _ ≤ w1.heap.size by omega)); (try have l3e := Nat.le_of_lt l3); (try have l3f := Nat.le_add_right_of_le (k := 1) l3e)
      go_wp2
      go_ret
      exact ⟨ret_bool HR.out.symm, hb⟩
end Go.Proofs.YtdohbmegkkkchaaGreat
