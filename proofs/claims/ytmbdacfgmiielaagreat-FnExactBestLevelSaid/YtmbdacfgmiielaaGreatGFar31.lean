/-
  Contracts of the reference's l9Far and l10Upto.
-/
import Derived.Test.YtmbdacfgmiielaaGreatTop
/-
  How far it is from every number to a target along edges: plain facts, and the reference's l9Far and l10Upto.
-/
namespace Go.Proofs.YtmbdacfgmiielaaGreat
set_option linter.unusedSimpArgs false
set_option linter.unusedVariables false
set_option maxRecDepth 100000
open Go.RowKit

def updI (f : Nat → Int) (i : Nat) (x : Int) : Nat → Int := fun j => if j = i then x else f j
theorem updI_same (f : Nat → Int) (i : Nat) (x : Int) : updI f i x i = x := if_pos rfl
theorem updI_other (f : Nat → Int) {i j : Nat} (x : Int) (h : j ≠ i) : updI f i x j = f j := if_neg h
def farStep (s : Nat) (f : Nat → Int) (e : T3) : Nat → Int := if f e.b.toNat = s ∧ f e.a.toNat < 0 then updI f e.a.toNat (s + 1) else f
def far0 (t : Nat) : Nat → Int := updI (fun _ => -1) t 0
/-- the distances after s rounds over the edges -/
def farT (L : List T3) (t : Nat) : Nat → (Nat → Int)
  | 0 => far0 t
  | s + 1 => L.foldl (farStep s) (farT L t s)
theorem fold_take {α β : Type} (g : β → α → β) (b : β) {L : List α} {k : Nat} {e : α} (h : L[k]? = some e) : (L.take (k + 1)).foldl g b = g ((L.take k).foldl g b) e := by
  rw [List.take_add_one, h]
  simp

/-- there is an edge -/
def Ed (L : List T3) (i j : Nat) : Prop := ∃ e ∈ L, e.a = i ∧ e.b = j
/-- at most d edges lead from v to t -/
def Rd (L : List T3) (t : Nat) : Nat → Nat → Prop
  | 0, v => v = t
  | d + 1, v => Rd L t d v ∨ ∃ u, Ed L v u ∧ Rd L t d u
theorem Rd.more {L : List T3} {t : Nat} : ∀ {d d' v : Nat}, d ≤ d' → Rd L t d v → Rd L t d' v := by
  intro d d' v h hr
  induction d' with
  | zero => obtain rfl : d = 0 := by omega
            exact hr
  | succ d' ih =>
    rcases Nat.lt_or_ge d (d' + 1) with h1 | h1
    · exact .inl (ih (by omega))
    · obtain rfl : d = d' + 1 := by omega
      exact hr
/-- what the rounds reckon: each value is the least number of edges, as far as it is at most the number of rounds -/
def Far (L : List T3) (t s : Nat) (f : Nat → Int) : Prop := ∀ v, (f v = -1 ∧ ¬ Rd L t s v) ∨ ∃ d : Nat, f v = d ∧ d ≤ s ∧ Rd L t d v ∧ ∀ d', d' < d → ¬ Rd L t d' v
theorem Far.zero (L : List T3) (t : Nat) : Far L t 0 (far0 t) := fun v => by
  unfold far0
  by_cases h : v = t
  · subst h
    right
    exact ⟨0, updI_same _ _ _, Nat.le_refl _, rfl, fun d' h => by omega⟩
  · left
    exact ⟨updI_other _ _ h, h⟩
/-- one round -/
theorem Far.pass {L : List T3} (hL : ∀ e ∈ L, 0 ≤ e.a ∧ 0 ≤ e.b) {t s : Nat} {f : Nat → Int} (h : Far L t s f) : Far L t (s + 1) (L.foldl (farStep s) f) := by
  have key : ∀ k, k ≤ L.length → ∀ v, (0 ≤ f v → (L.take k).foldl (farStep s) f v = f v) ∧ (f v < 0 → ((L.take k).foldl (farStep s) f v = -1 ∧ ¬ ∃ e ∈ L.take k, e.a = v ∧ f e.b.toNat = s) ∨ ((L.take k).foldl (farStep s) f v = s + 1 ∧ ∃ e ∈ L.take k, e.a = v ∧ f e.b.toNat = s)) := by
    intro k
    induction k with
    | zero =>
      intro _ v
      refine ⟨fun _ => rfl, fun hv => .inl ⟨?_, by simp⟩⟩
      rcases h v with ⟨e, _⟩ | ⟨d, e, _⟩
      · simpa using e
      · omega
    | succ k ih =>
      intro hk v
      have IH := ih (by omega)
      have hx : L[k]? = some L[k] := List.getElem?_eq_getElem (by omega)
      obtain ⟨ha, hb⟩ := hL L[k] (List.getElem_mem _)
      rw [fold_take _ _ hx]
      generalize (L.take k).foldl (farStep s) f = g at IH
      have hmem : ∀ v, (∃ e ∈ L.take (k + 1), e.a = v ∧ f e.b.toNat = s) ↔ (∃ e ∈ L.take k, e.a = v ∧ f e.b.toNat = s) ∨ (L[k].a = v ∧ f L[k].b.toNat = s) := by
        intro v
        rw [List.take_add_one, hx]
        simp only [Option.toList, List.mem_append, List.mem_singleton]
        constructor
        · rintro ⟨e, h | rfl, h3⟩
          · exact .inl ⟨e, h, h3⟩
          · exact .inr h3
        · rintro (⟨e, h, h3⟩ | h3)
          · exact ⟨e, .inl h, h3⟩
          · exact ⟨_, .inr rfl, h3⟩
      rw [hmem]
      generalize L[k] = e at ha hb hmem
      have hb1 : g e.b.toNat = s ↔ f e.b.toNat = s := by
        rcases Int.lt_or_le (f e.b.toNat) 0 with h1 | h1
        · rcases (IH e.b.toNat).2 h1 with ⟨h2, _⟩ | ⟨h2, _⟩ <;> rw [h2] <;> omega
        · rw [(IH e.b.toNat).1 h1]
      have ha1 : g e.a.toNat < 0 ↔ f e.a.toNat < 0 ∧ ¬ ∃ e' ∈ L.take k, e'.a = e.a.toNat ∧ f e'.b.toNat = s := by
        rcases Int.lt_or_le (f e.a.toNat) 0 with h1 | h1
        · rcases (IH e.a.toNat).2 h1 with ⟨h2, h3⟩ | ⟨h2, h3⟩
          · rw [h2]; exact ⟨fun _ => ⟨h1, h3⟩, fun _ => by omega⟩
          · rw [h2]; exact ⟨fun h => by omega, fun h => absurd h3 h.2⟩
        · rw [(IH e.a.toNat).1 h1]
          exact ⟨fun h => by omega, fun h => by omega⟩
      unfold farStep
      split
      · rename_i hc
        obtain ⟨hc1, hc2⟩ := hc
        have hf1 := hb1.1 hc1
        obtain ⟨hf2, hf3⟩ := ha1.1 hc2
        by_cases hva : v = e.a.toNat
        · subst hva
          rw [updI_same]
          refine ⟨fun h => by omega, fun _ => .inr ⟨rfl, .inr ⟨by omega, hf1⟩⟩⟩
        · rw [updI_other _ _ hva]
          refine ⟨(IH v).1, fun hv => ?_⟩
          rcases (IH v).2 hv with ⟨h2, h3⟩ | ⟨h2, h3⟩
          · exact .inl ⟨h2, fun h => by rcases h with h | ⟨h, _⟩; exact h3 h; omega⟩
          · exact .inr ⟨h2, .inl h3⟩
      · rename_i hc
        refine ⟨(IH v).1, fun hv => ?_⟩
        rcases (IH v).2 hv with ⟨h2, h3⟩ | ⟨h2, h3⟩
        · refine .inl ⟨h2, fun h => ?_⟩
          rcases h with h | ⟨h4, h5⟩
          · exact h3 h
          · have hva : e.a.toNat = v := by omega
            exact hc ⟨hb1.2 h5, by rw [hva, h2]; omega⟩
        · exact .inr ⟨h2, .inl h3⟩
  have KEY := key L.length (Nat.le_refl _)
  rw [List.take_length] at KEY
  intro v
  rcases h v with ⟨e, hn⟩ | ⟨d, e, hd, hr, hm⟩
  · rcases (KEY v).2 (by omega) with ⟨h2, h3⟩ | ⟨h2, ⟨e', he', h3, h4⟩⟩
    · left
      refine ⟨h2, ?_⟩
      rintro (h5 | ⟨u, ⟨e', he', h6, h7⟩, h8⟩)
      · exact hn h5
      · refine h3 ⟨e', he', h6, ?_⟩
        have hu : e'.b.toNat = u := by omega
        rw [hu]
        rcases h u with ⟨_, h9⟩ | ⟨d, h9, h10, h11, _⟩
        · exact absurd h8 h9
        · rcases Nat.lt_or_ge d s with h12 | h12
          · exact absurd (Rd.more (d := d + 1) (by omega) (.inr ⟨u, ⟨e', he', h6, h7⟩, h11⟩)) hn
          · rw [h9]; omega
    · right
      refine ⟨s + 1, by rw [h2]; rfl, Nat.le_refl _, ?_, fun d' hd' hr => hn (Rd.more (by omega) hr)⟩
      right
      obtain ⟨ha, hb⟩ := hL e' he'
      refine ⟨e'.b.toNat, ⟨e', he', h3, by omega⟩, ?_⟩
      rcases h e'.b.toNat with ⟨h5, _⟩ | ⟨d, h5, _, h6, _⟩
      · omega
      · obtain rfl : d = s := by omega
        exact h6
  · right
    exact ⟨d, by rw [(KEY v).1 (by omega)]; exact e, by omega, hr, hm⟩
theorem far_spec {L : List T3} (hL : ∀ e ∈ L, 0 ≤ e.a ∧ 0 ≤ e.b) (t : Nat) : ∀ s, Far L t s (farT L t s)
  | 0 => Far.zero L t
  | s + 1 => Far.pass hL (far_spec hL t s)

/-- how many below m -/
def cnt (p : Nat → Prop) [DecidablePred p] : Nat → Nat
  | 0 => 0
  | m + 1 => cnt p m + if p m then 1 else 0
theorem cnt_le (p : Nat → Prop) [DecidablePred p] (m : Nat) : cnt p m ≤ m := by
  induction m with
  | zero => exact Nat.le_refl _
  | succ m ih => unfold cnt; split <;> omega
theorem cnt_mono {p q : Nat → Prop} [DecidablePred p] [DecidablePred q] (h : ∀ v, p v → q v) (m : Nat) : cnt p m ≤ cnt q m := by
  induction m with
  | zero => exact Nat.le_refl _
  | succ m ih =>
    unfold cnt
    by_cases h1 : p m
    · rw [if_pos h1, if_pos (h m h1)]; omega
    · rw [if_neg h1]; omega
theorem cnt_lt {p q : Nat → Prop} [DecidablePred p] [DecidablePred q] (h : ∀ v, p v → q v) {v : Nat} (hq : q v) (hp : ¬ p v) : ∀ {m : Nat}, v < m → cnt p m + 1 ≤ cnt q m := by
  intro m
  induction m with
  | zero => intro hv; omega
  | succ m ih =>
    intro hv
    unfold cnt
    by_cases e : v = m
    · subst e
      rw [if_neg hp, if_pos hq]
      have := cnt_mono h v
      omega
    · have := ih (by omega)
      by_cases h1 : p m
      · rw [if_pos h1, if_pos (h m h1)]; omega
      · rw [if_neg h1]; omega
/-- among m numbers less than m edges suffice -/
theorem Rd.enough {L : List T3} {m t : Nat} (ht : t < m) (hE : ∀ i j, Ed L i j → i < m) {d v : Nat} (h : Rd L t d v) : Rd L t (m - 1) v := by
  classical
  have st : ∀ k, (∃ d, d < k ∧ ∀ v, Rd L t (d + 1) v → Rd L t d v) ∨ k + 1 ≤ cnt (fun v => Rd L t k v) m := by
    intro k
    induction k with
    | zero =>
      right
      have : cnt (fun _ => False) m + 1 ≤ cnt (fun v => Rd L t 0 v) m := cnt_lt (p := fun _ => False) (q := fun v => Rd L t 0 v) (fun _ h => False.elim h) (v := t) rfl (fun h => h) ht
      omega
    | succ k ih =>
      rcases ih with ⟨d, hd, h1⟩ | h1
      · exact .inl ⟨d, by omega, h1⟩
      · by_cases hs : ∀ v, Rd L t (k + 1) v → Rd L t k v
        · exact .inl ⟨k, by omega, hs⟩
        · right
          have ⟨v, hv⟩ : ∃ v, ¬ (Rd L t (k + 1) v → Rd L t k v) := Classical.not_forall.1 hs
          have hv1 : Rd L t (k + 1) v := Classical.byContradiction fun h => hv (fun h' => absurd h' h)
          have hv2 : ¬ Rd L t k v := fun h => hv (fun _ => h)
          have hvm : v < m := by
            rcases hv1 with h2 | ⟨u, h2, _⟩
            · exact absurd h2 hv2
            · exact hE v u h2
          have := cnt_lt (p := fun v => Rd L t k v) (q := fun v => Rd L t (k + 1) v) (fun v h => .inl h) hv1 hv2 hvm
          omega
  rcases st m with ⟨d0, hd0, hs⟩ | hc
  · have hall : ∀ d v, Rd L t d v → Rd L t d0 v := by
      intro d
      induction d with
      | zero => intro v h; exact Rd.more (Nat.zero_le _) h
      | succ d ih =>
        rintro v (h | ⟨u, h1, h2⟩)
        · exact ih v h
        · exact hs v (.inr ⟨u, h1, ih u h2⟩)
    exact Rd.more (by omega) (hall d v h)
  · have := cnt_le (fun v => Rd L t m v) m
    omega
theorem Rd.path {L : List T3} {t : Nat} : ∀ {d v : Nat}, Rd L t d v → v = t ∨ Relation.TransGen (Ed L) v t := by
  intro d
  induction d with
  | zero => intro v h; exact .inl h
  | succ d ih =>
    rintro v (h | ⟨u, h1, h2⟩)
    · exact ih h
    · right
      rcases ih h2 with rfl | h3
      · exact .single h1
      · exact Relation.TransGen.trans (.single h1) h3
theorem Rd.of_path {L : List T3} {t v : Nat} (h : Relation.TransGen (Ed L) v t) : ∃ u d, Ed L v u ∧ Rd L t d u := by
  induction h with
  | single h => exact ⟨_, 0, h, rfl⟩
  | tail h1 h2 ih =>
    rename_i b c
    obtain ⟨u, d, h3, h4⟩ := ih
    refine ⟨u, d + 1, h3, ?_⟩
    have key : ∀ d u, Rd L b d u → Rd L c (d + 1) u := by
      intro d
      induction d with
      | zero => intro u h; cases h; exact .inr ⟨c, h2, rfl⟩
      | succ d ih =>
        rintro u (h | ⟨x, h5, h6⟩)
        · exact .inl (ih u h)
        · exact .inr ⟨x, h5, ih x h6⟩
    exact key d u h4
/-- a value of at least 0: it can be reached -/
theorem far_iff {L : List T3} {m t : Nat} (ht : t < m) (hL : ∀ e ∈ L, 0 ≤ e.a ∧ e.a < m ∧ 0 ≤ e.b ∧ e.b < m) (v : Nat) : 0 ≤ farT L t m v ↔ v = t ∨ Relation.TransGen (Ed L) v t := by
  have hs := far_spec (fun e he => by have := hL e he; omega) t m v
  have hE : ∀ i j, Ed L i j → i < m := fun i j ⟨e, he, h1, _⟩ => by have := hL e he; omega
  constructor
  · intro h
    rcases hs with ⟨e, _⟩ | ⟨d, _, _, hr, _⟩
    · omega
    · exact hr.path
  · intro h
    have hr : Rd L t m v := by
      rcases h with rfl | h
      · exact Rd.more (Nat.zero_le _) rfl
      · obtain ⟨u, d, h1, h2⟩ := Rd.of_path h
        exact Rd.more (by omega) (Rd.enough ht hE (d := d + 1) (.inr ⟨u, h1, h2⟩))
    rcases hs with ⟨_, hn⟩ | ⟨d, e, _⟩
    · exact absurd hr hn
    · omega

/-- the first m values as a list -/
def fl (m : Nat) (f : Nat → Int) : List Int := (List.range m).map f
theorem fl_len (m : Nat) (f : Nat → Int) : (fl m f).length = m := by simp [fl]
theorem fl_get {m : Nat} {f : Nat → Int} {i : Nat} (h : i < m) : (fl m f)[i]? = some (f i) := by simp [fl, h]
theorem fl_set {m : Nat} {f : Nat → Int} {i : Nat} {x : Int} (h : i < m) : (fl m f).set i x = fl m (updI f i x) := by
  apply List.ext_getElem?
  intro j
  rw [List.getElem?_set]
  rcases Nat.lt_or_ge j m with hj | hj
  · rw [fl_get hj, fl_get hj]
    by_cases e : i = j
    · subst e
      rw [if_pos rfl, if_pos (by rw [fl_len]; exact h), updI_same]
    · rw [if_neg e, updI_other _ _ (fun h => e h.symm)]
  · have h1 : ∀ g, (fl m g)[j]? = none := fun g => List.getElem?_eq_none (by rw [fl_len]; exact hj)
    rw [h1, h1]
    split
    · omega
    · rfl
theorem fl_snoc (m : Nat) (f : Nat → Int) : fl (m + 1) f = fl m f ++ [f m] := by simp [fl, List.range_succ]
end Go.Proofs.YtmbdacfgmiielaaGreat
namespace Go.Proofs.YtmbdacfgmiielaaGreat
set_option linter.unusedSimpArgs false
set_option linter.unusedVariables false
set_option maxRecDepth 100000
open Go.RowKit

/-- one cell of a slice whose head is known -/
theorem Ints.cell {S : Nat → Prop} {w : World} {b off : Nat} {xs : List Int} (h : Ints S w (some ⟨b, off, none⟩) xs) {i : Nat} {x : Int} (hx : xs[i]? = some x) : w.cell? ⟨b, off + i, none⟩ = some (.int .i64 x) := by
  obtain ⟨b', off', us, e, _, _, _, hr, hc⟩ := h i x hx
  cases e
  cases hr
  simpa using hc 0 _ rfl
theorem Ints.off_ {S : Nat → Prop} {w : World} {A : Option Addr} {xs : List Int} (h : Ints S w A xs) (hn : 0 < xs.length) : ∃ b off, A = some ⟨b, off, none⟩ ∧ S b ∧ b < w.heap.size := by
  obtain ⟨x, b, off, _, e, hS, hb, _⟩ := h.at_ hn
  exact ⟨b, off, e, hS, hb⟩
/-- valid edges over m numbers -/
def EdM (m : Nat) (L : List T3) : Prop := ∀ e ∈ L, 0 ≤ e.a ∧ e.a < m ∧ 0 ≤ e.b ∧ e.b < m ∧ e.a ≠ e.b ∧ 1 ≤ e.c ∧ e.c ≤ 4
theorem farT_ge {L : List T3} {m : Nat} (hL : EdM m L) (t s v : Nat) : -1 ≤ farT L t s v ∧ farT L t s v ≤ s := by
  rcases far_spec (fun e he => by have := hL e he; omega) t s v with ⟨e, _⟩ | ⟨d, e, h, _⟩ <;> omega
/-- within a round the values stay small -/
theorem fold_ge {L : List T3} {s : Nat} {f : Nat → Int} (h : ∀ v, -1 ≤ f v ∧ f v ≤ s + 1) : ∀ v, -1 ≤ L.foldl (farStep s) f v ∧ L.foldl (farStep s) f v ≤ s + 1 := by
  induction L generalizing f with
  | nil => exact h
  | cons e L ih =>
    refine ih fun v => ?_
    unfold farStep
    split
    · unfold updI
      split
      · omega
      · exact h v
    · exact h v

theorem farStep_nat (s : Nat) (g : Nat → Int) (a y : Nat) (z : Int) : farStep s g ⟨(a : Int), (y : Int), z⟩ = if g y = s ∧ g a < 0 then updI g a (s + 1) else g := by simp [farStep]

set_option maxHeartbeats 4000000 in
theorem l9Far_c (m t : Nat) (L : List T3) (S : Nat → Prop) (A : Option Addr) (c : Nat) (w : World) (hx : Ops S w A L) (hn : L.length ≤ 144) (hm : m ≤ 6) (ht : t < m) (hL : EdM m L) :
    Calls Tryz.prog 67 #[.int .i64 m, .slice A L.length c, .int .i64 t] w (FreshI (fl m (farT L t m)) w) := by
  have HL := Lib.hid hL
  clear hL
  go_enter Tryz.func67, Tryz.ntmps67
  go_wp2
  have hO : Own1 (w.alloc (.cells #[] 3)) w.heap.size 3 (.slice (some ⟨w.heap.size, 0, none⟩) 0 0) (fl 0 fun _ => -1) := Own1.made w _ 0 rfl (by omega) (by omega) (by simp)
  have HO := Lib.hid hO
  clear hO
  go_loopw [7, 8] (fun v i wr => ∃ k : Nat, k ≤ m ∧ i = .int .i64 k ∧ Own1 wr w.heap.size 3 v (fl k fun _ => -1) ∧ Ext w wr) (fun _ i _ => m - (intOf i).toNat)
  case atStart => exact ⟨0, Nat.zero_le _, rfl, HO.out, by (repeat' (first | (with_reducible exact Below.refl _ _) | (with_reducible refine Below.mono (by assumption) ?_) | (with_reducible refine Below.trans ?_ (Below.mono (by assumption) ?_)) | (with_reducible refine Below.alloc ?_ ?_ _) | (with_reducible refine Below.drew ?_) | (with_reducible refine below_drewN ?_ _) | (with_reducible refine Below.setCell ?_ ?_ _) | (simp only [World.size_alloc, World.size_setCell, World.size_drew, size_drewN]; omega) | omega))⟩
  case round =>
    obtain ⟨k, hk, rfl, hown, hE⟩ := hrel
    have hfl := fl_len k (fun _ => (-1 : Int))
    have hEz := hE.size
    by_cases hlt : k < m
    · have hsn := fl_snoc k (fun _ => (-1 : Int))
      have HS := Lib.hid hsn
      clear hsn HO
      go_wp2_with (at_builtin; refine wpList_append1 _ rfl _ _ 45 rfl w.heap.size 3 Tryz.underlying45 infoInt rfl _ (fl k fun _ => -1) rfl (hown.ext (by (repeat' (first | (with_reducible exact Below.refl _ _) | (with_reducible refine Below.mono (by assumption) ?_) | (with_reducible refine Below.trans ?_ (Below.mono (by assumption) ?_)) | (with_reducible refine Below.alloc ?_ ?_ _) | (with_reducible refine Below.drew ?_) | (with_reducible refine below_drewN ?_ _) | (with_reducible refine Below.setCell ?_ ?_ _) | (simp only [World.size_alloc, World.size_setCell, World.size_drew, size_drewN]; omega) | omega)))) _ (-1) rfl ?_ ?_ ?_ ?_)
      all_goals try (first | omega | (simp only [World.size_alloc]; have := hE.size; omega) | (go_simp; done))
      intro v' w' hown' hgrow
      rw [← HS.out] at hown'
      have hE2 : Ext w w' := Below.grown (w := wr.alloc (.cells #[.int .i64 (-1)] 3)) (by (repeat' (first | (with_reducible exact Below.refl _ _) | (with_reducible refine Below.mono (by assumption) ?_) | (with_reducible refine Below.trans ?_ (Below.mono (by assumption) ?_)) | (with_reducible refine Below.alloc ?_ ?_ _) | (with_reducible refine Below.drew ?_) | (with_reducible refine below_drewN ?_ _) | (with_reducible refine Below.setCell ?_ ?_ _) | (simp only [World.size_alloc, World.size_setCell, World.size_drew, size_drewN]; omega) | omega))) hgrow (by simp only [World.size_alloc]; have := hE.size; omega) (fun g hg => own1_block hown g hg)
      clear hown hgrow
      go_wp2
      go_roundw
      case measure => simp [intOf]; omega
      case rel => exact ⟨k + 1, by omega, by go_num, hown', hE2⟩
    · obtain rfl : k = m := by omega
      obtain ⟨B, c', he, hA, hf⟩ := hown.form
      rw [hfl] at he
      obtain ⟨b, off, rfl, hSb, hb⟩ := hA.off_ (by rw [hfl]; omega)
      subst he
      have hf0 : ∀ o, wr.frozen? ⟨b, o, none⟩ = false := (hf _ rfl).2.2
      have hc0 := hA.cell (fl_get (f := fun _ => (-1 : Int)) ht)
      have hti : (t : Int) < k := by omega
      have hs0 := hA.set1 (i := t) (by rw [hfl]; exact ht) 0
      rw [fl_set ht] at hs0
      have hE1 : Ext w (wr.setCell ⟨b, off + t, none⟩ (.int .i64 0)) := by (repeat' (first | (with_reducible exact Below.refl _ _) | (with_reducible refine Below.mono (by assumption) ?_) | (with_reducible refine Below.trans ?_ (Below.mono (by assumption) ?_)) | (with_reducible refine Below.alloc ?_ ?_ _) | (with_reducible refine Below.drew ?_) | (with_reducible refine below_drewN ?_ _) | (with_reducible refine Below.setCell ?_ ?_ _) | (simp only [World.size_alloc, World.size_setCell, World.size_drew, size_drewN]; omega) | omega))
      have HA := Lib.hid hs0
      clear hfl hown hA hf hs0 HO
      go_wp2
      go_loopw [9] (fun i wr => ∃ s : Nat, s ≤ k ∧ i = .int .i64 s ∧ Ints (fun b => w.heap.size ≤ b) wr (some ⟨b, off, none⟩) (fl k (farT L t s)) ∧ Ext w wr ∧ (∀ o, wr.frozen? ⟨b, o, none⟩ = false) ∧ b < wr.heap.size) (fun i _ => k - (intOf i).toNat)
      case atStart => exact ⟨0, Nat.zero_le _, rfl, HA.out, hE1, fun o => by rw [World.frozen?_setCell]; exact hf0 o, by simp [World.setCell]; exact hb⟩
      case round =>
        obtain ⟨s, hs, rfl, hI, hE, hfz, hbz⟩ := hrel
        clear hc0 HA hE1 hf0
        by_cases hlt2 : s < k
        · obtain ⟨wo, rfl⟩ : ∃ wo : World, wo = wr := ⟨_, rfl⟩
          have hge := fun v => farT_ge HL.out t s v
          have hst : farT L t (s + 1) = L.foldl (farStep s) (farT L t s) := rfl
          have HS := Lib.hid hst
          clear hst
          generalize farT L t s = f0 at hI hge HS
          have HG := Lib.hid hge
          have HI := Lib.hid hI
          have HFZ := Lib.hid hfz
          clear hge hI hfz
          go_wp2
          go_loopw [10] (fun i wr => ∃ j : Nat, j ≤ L.length ∧ i = .int .i64 j ∧ Ints (fun b => w.heap.size ≤ b) wr (some ⟨b, off, none⟩) (fl k ((L.take j).foldl (farStep s) f0)) ∧ Ext w wr ∧ (∀ o, wr.frozen? ⟨b, o, none⟩ = false) ∧ b < wr.heap.size) (fun i _ => L.length - (intOf i).toNat)
          case atStart => exact ⟨0, Nat.zero_le _, rfl, HI.out, hE, HFZ.out, hbz⟩
          case round =>
            obtain ⟨j, hj, rfl, hI, hE3, hfz, hbz3⟩ := hrel
            have hfz0 := hfz
            clear HI HFZ
            by_cases hlt3 : j < L.length
            · obtain ⟨x0, x1, x2, b2, off2, hxk, rfl, _, hb2, d0, d1, d2⟩ := (hx.ext hE3).at_ hlt3
              obtain ⟨v1, v2, v3, v4, _⟩ := HL.out _ (List.mem_of_getElem? hxk)
              simp only at v1 v2 v3 v4
              have hft := fold_take (farStep s) f0 hxk
              have hgv := fold_ge (L := L.take j) (s := s) (f := f0) (fun v => by have := HG.out v; omega)
              generalize (L.take j).foldl (farStep s) f0 = g at hI hft hgv
              obtain ⟨a, rfl⟩ := Int.eq_ofNat_of_zero_le v1
              obtain ⟨y, rfl⟩ := Int.eq_ofNat_of_zero_le v3
              have ha : a < k := by omega
              have hy : y < k := by omega
              have ca := hI.cell (fl_get (f := g) ha)
              have cy := hI.cell (fl_get (f := g) hy)
              have hga := hgv a
              have hgy := hgv y
              rw [farStep_nat] at hft
              have HT := Lib.hid hft
              have hset := hI.set1 (i := a) (by rw [fl_len]; exact ha) ((s : Int) + 1)
              rw [fl_set ha] at hset
              have hEb : Ext wr (wr.alloc (.cells #[.int .i64 a, .int .i64 y, .int .i64 x2] 76)) := by (repeat' (first | (with_reducible exact Below.refl _ _) | (with_reducible refine Below.mono (by assumption) ?_) | (with_reducible refine Below.trans ?_ (Below.mono (by assumption) ?_)) | (with_reducible refine Below.alloc ?_ ?_ _) | (with_reducible refine Below.drew ?_) | (with_reducible refine below_drewN ?_ _) | (with_reducible refine Below.setCell ?_ ?_ _) | (simp only [World.size_alloc, World.size_setCell, World.size_drew, size_drewN]; omega) | omega))
              have HI := Lib.hid hI
              clear hft hgv hxk hset hI
              generalize hga2 : g a = ga at ca hga
              generalize hgy2 : g y = gy at cy hgy
              have HGA := Lib.hid hga2
              have HGY := Lib.hid hgy2
              clear hga2 hgy2
              by_cases hc : gy = s ∧ ga < 0
              · obtain ⟨rfl, hc2⟩ := hc
                have hq : (L.take (j + 1)).foldl (farStep s) f0 = updI g a (s + 1) := by rw [HT.out, if_pos ⟨HGY.out, by rw [HGA.out]; exact hc2⟩]
                have HQ := Lib.hid hq
                have e1 : ((s : Int) == s) = true := by simp
                have hai : (a : Int) < k := by omega
                have hyi : (y : Int) < k := by omega
                clear hq HT
                go_wp2
                refine ⟨⟨j + 1, by omega, by go_num, ?_, by (repeat' (first | (with_reducible exact Below.refl _ _) | (with_reducible refine Below.mono (by assumption) ?_) | (with_reducible refine Below.trans ?_ (Below.mono (by assumption) ?_)) | (with_reducible refine Below.alloc ?_ ?_ _) | (with_reducible refine Below.drew ?_) | (with_reducible refine below_drewN ?_ _) | (with_reducible refine Below.setCell ?_ ?_ _) | (simp only [World.size_alloc, World.size_setCell, World.size_drew, size_drewN]; omega) | omega)), fun o => ?_, by simp only [World.size_setCell, World.size_alloc]; omega⟩, by simp [intOf]; omega⟩
                · rw [HQ.out]
                  have h := HI.out.set1 (i := a) (by rw [fl_len]; exact ha) ((s : Int) + 1)
                  rw [fl_set ha] at h
                  exact h.ext (by (repeat' (first | (with_reducible exact Below.refl _ _) | (with_reducible refine Below.mono (by assumption) ?_) | (with_reducible refine Below.trans ?_ (Below.mono (by assumption) ?_)) | (with_reducible refine Below.alloc ?_ ?_ _) | (with_reducible refine Below.drew ?_) | (with_reducible refine below_drewN ?_ _) | (with_reducible refine Below.setCell ?_ ?_ _) | (simp only [World.size_alloc, World.size_setCell, World.size_drew, size_drewN]; omega) | omega)))
                · have hEq : Ext (wr.setCell ⟨b, off + a, none⟩ (.int .i64 ((s : Int) + 1))) ((wr.setCell ⟨b, off + a, none⟩ (.int .i64 ((s : Int) + 1))).alloc (.cells #[.int .i64 a, .int .i64 y, .int .i64 x2] 76)) := by (repeat' (first | (with_reducible exact Below.refl _ _) | (with_reducible refine Below.mono (by assumption) ?_) | (with_reducible refine Below.trans ?_ (Below.mono (by assumption) ?_)) | (with_reducible refine Below.alloc ?_ ?_ _) | (with_reducible refine Below.drew ?_) | (with_reducible refine below_drewN ?_ _) | (with_reducible refine Below.setCell ?_ ?_ _) | (simp only [World.size_alloc, World.size_setCell, World.size_drew, size_drewN]; omega) | omega))
                  have h1 := hEq.frozen (p := ⟨b, o, none⟩) (by simp only [World.size_setCell]; exact hbz3)
                  rw [World.frozen?_setCell] at h1
                  exact h1.trans (hfz0 o)
              · have hq : (L.take (j + 1)).foldl (farStep s) f0 = g := by rw [HT.out, if_neg (by rw [HGA.out, HGY.out]; exact hc)]
                have HQ := Lib.hid hq
                have hai : (a : Int) < k := by omega
                have hyi : (y : Int) < k := by omega
                clear hq HT
                by_cases hgs : gy = s
                · subst hgs
                  have hc2 : ¬ ga < 0 := fun h => hc ⟨rfl, h⟩
                  have e1 : ((s : Int) == s) = true := by simp
                  clear hc
                  go_wp2
                  exact ⟨⟨j + 1, by omega, by go_num, by rw [HQ.out]; exact HI.out.ext hEb, by (repeat' (first | (with_reducible exact Below.refl _ _) | (with_reducible refine Below.mono (by assumption) ?_) | (with_reducible refine Below.trans ?_ (Below.mono (by assumption) ?_)) | (with_reducible refine Below.alloc ?_ ?_ _) | (with_reducible refine Below.drew ?_) | (with_reducible refine below_drewN ?_ _) | (with_reducible refine Below.setCell ?_ ?_ _) | (simp only [World.size_alloc, World.size_setCell, World.size_drew, size_drewN]; omega) | omega)), fun o => (hEb.frozen (p := ⟨b, o, none⟩) hbz3).trans (hfz0 o), by simp only [World.size_alloc]; omega⟩, by simp [intOf]; omega⟩
                · have e1 : (gy == (s : Int)) = false := by simpa using hgs
                  clear hc hgs
                  go_wp2
                  exact ⟨⟨j + 1, by omega, by go_num, by rw [HQ.out]; exact HI.out.ext hEb, by (repeat' (first | (with_reducible exact Below.refl _ _) | (with_reducible refine Below.mono (by assumption) ?_) | (with_reducible refine Below.trans ?_ (Below.mono (by assumption) ?_)) | (with_reducible refine Below.alloc ?_ ?_ _) | (with_reducible refine Below.drew ?_) | (with_reducible refine below_drewN ?_ _) | (with_reducible refine Below.setCell ?_ ?_ _) | (simp only [World.size_alloc, World.size_setCell, World.size_drew, size_drewN]; omega) | omega)), fun o => (hEb.frozen (p := ⟨b, o, none⟩) hbz3).trans (hfz0 o), by simp only [World.size_alloc]; omega⟩, by simp [intOf]; omega⟩
            · obtain rfl : j = L.length := by omega
              rw [List.take_length, ← HS.out] at hI
              have HI := Lib.hid hI
              clear hI
              go_wp2
              exact ⟨⟨s + 1, by omega, by go_num, HI.out, hE3, hfz0, hbz3⟩, by simp [intOf]; omega⟩
        · obtain rfl : s = k := by omega
          have HI := Lib.hid hI
          have HFZ := Lib.hid hfz
          have hfl2 := fl_len s (farT L t s)
          have HFL := Lib.hid hfl2
          clear hI hfz hfl2
          go_wp2
          go_ret
          refine ⟨some ⟨b, off, none⟩, c', by rw [HFL.out]; rfl, HI.out, fun a ha => ?_, hE⟩
          cases ha
          exact ⟨hSb, hbz, HFZ.out⟩
end Go.Proofs.YtmbdacfgmiielaaGreat
