/-
  Contracts of TopOrder, the reference's and the program's.
-/
import Derived.Test.YtdohbmegkkkchaaGreatMat
namespace Go.Proofs.YtdohbmegkkkchaaGreat
set_option linter.unusedSimpArgs false
set_option linter.unusedVariables false
set_option maxRecDepth 100000
open Go.RowKit

theorem edgesValid_iff {many : Int} {L : List T3} (h : edgesValid many L = true) : ∃ m : Nat, many = m ∧ m ≤ 6 ∧ L.length ≤ 144 ∧ ∀ e ∈ L, 0 ≤ e.a ∧ e.a < m ∧ 0 ≤ e.b ∧ e.b < m ∧ e.a ≠ e.b ∧ 1 ≤ e.c ∧ e.c ≤ 4 := by
  unfold edgesValid at h
  simp only [Bool.and_eq_true, List.all_eq_true, decide_eq_true_eq, inB_iff] at h
  obtain ⟨h1, ⟨h2, h3⟩, h4⟩ := h
  obtain ⟨m, rfl⟩ := Int.eq_ofNat_of_zero_le h2
  have hw : wrap64 ((m : Int) - 1) = (m : Int) - 1 := IntWalk.wrap64_in _ ⟨by omega, by omega⟩
  refine ⟨m, rfl, by omega, h4, fun e he => ?_⟩
  have := h1 e he
  unfold edv at this
  rw [hw] at this
  simp only [Bool.and_eq_true, inB_iff, Bool.not_eq_true', beq_eq_false_iff_ne] at this
  obtain ⟨⟨⟨a1, a2⟩, a3⟩, a4⟩ := this
  exact ⟨a1.1, by omega, a2.1, by omega, a3, a4.1, a4.2⟩

/-- the least one that may come next among those from m - t on, or -1 -/
def nx (p : Nat → Bool) (m : Nat) : Nat → Int
  | 0 => -1
  | t + 1 => if p (m - 1 - t) = true then ((m - 1 - t : Nat) : Int) else nx p m t
theorem nx_find (p : Nat → Bool) (m : Nat) : ∀ t, t ≤ m → nx p m t = match (List.range' (m - t) t).find? p with | some i => (i : Int) | none => -1 := by
  intro t
  induction t with
  | zero => intro _; simp [nx]
  | succ t ih =>
    intro ht
    have e : List.range' (m - (t + 1)) (t + 1) = (m - 1 - t) :: List.range' (m - t) t := by
      rw [List.range'_succ]
      congr 1
      · omega
      · congr 1
        omega
    unfold nx
    rw [e, List.find?_cons]
    cases hp : p (m - 1 - t) with
    | true => simp
    | false =>
      simp only [Bool.false_eq_true, if_false]
      exact ih (by omega)
theorem nx_all (p : Nat → Bool) (m : Nat) : nx p m m = match topNext p m with | some i => (i : Int) | none => -1 := by
  rw [nx_find p m m (Nat.le_refl _), Nat.sub_self]
  unfold topNext
  rw [List.range_eq_range']
def topR (m : Nat) (p : Nat → Nat → Bool) : List Int × Bool := match topT m p m with | some (out, _) => (out, true) | none => ([], false)

/-- a call that hands back new ints and a bool -/
def FreshIB (r : List Int × Bool) (w : World) (en : Ending) (w' : World) : Prop :=
  ∃ A c, en = .returned (.tuple #[.slice A r.1.length c, .bool r.2]) ∧ Ints (fun b => w.heap.size ≤ b) w' A r.1 ∧ (∀ a, A = some a → w.heap.size ≤ a.block ∧ a.block < w'.heap.size ∧ ∀ o, w'.frozen? ⟨a.block, o, none⟩ = false) ∧ Ext w w'
def lenOf : Value → Nat
  | .slice _ n _ => n
  | _ => 0

/-- n bools, those of a number's bits -/
def plA (n g : Nat) : Array Value := ((List.range n).map fun i => Value.bool (g.testBit i)).toArray
theorem plA_size (n g : Nat) : (plA n g).size = n := by simp [plA]
theorem plA_get {n g i : Nat} (h : i < n) : (plA n g)[i]? = some (.bool (g.testBit i)) := by simp [plA, h]
theorem plA_zero (n : Nat) : madeCells (Value.bool false).cells (n * 1) = plA n 0 := by
  apply Array.ext_getElem?
  intro i
  rcases Nat.lt_or_ge i n with h | h
  · rw [plA_get h]
    simp [madeCells, h, Value.cells, Nat.mod_one]
  · rw [Array.getElem?_eq_none (by simp [madeCells]; omega), Array.getElem?_eq_none (by rw [plA_size]; omega)]
theorem plA_set {n g i : Nat} (hg : g < 64) (hi : i < n) (hn : n ≤ 6) : (plA n g).setIfInBounds i (.bool true) = plA n (orN g (shlN i)) := by
  apply Array.ext_getElem?
  intro j
  rw [Array.getElem?_setIfInBounds]
  rcases Nat.lt_or_ge j n with h | h
  · rw [plA_get h, plA_get h, orN_bit hg (shlN_lt (show i < 6 by omega)), shlN_bit (show i < 64 by omega)]
    by_cases e : i = j
    · subst e
      rw [if_pos rfl, if_pos (by rw [plA_size]; exact hi)]
      simp
    · rw [if_neg e]
      simp [e]
  · have e1 : ∀ g', (plA n g')[j]? = none := fun g' => Array.getElem?_eq_none (by rw [plA_size]; omega)
    rw [e1, e1]
    split
    · rename_i e
      subst e
      omega
    · rfl
theorem Blk.grown {w w' : World} {g : Nat} {t : TypeId} {cs : Array Value} {row : Option Nat} (h : Blk w g t cs) (hg : w.grownBy w' row) (hne : some g ≠ row) : Blk w' g t cs := (hg.block g h.lt hne).trans h
theorem Off.ne {v : Value} {g : Nat} (h : Off v g (g + 1)) : some g ≠ v.ownBlock := fun e => by have := h g e.symm; omega

theorem free_new (w : World) (cs : Array Value) (T : TypeId) {lo : Nat} (h : lo ≤ w.heap.size) : ∀ a, (some ⟨w.heap.size, 0, none⟩ : Option Addr) = some a → lo ≤ a.block ∧ a.block < (w.alloc (.cells cs T)).heap.size ∧ ∀ o, (w.alloc (.cells cs T)).frozen? ⟨a.block, o, none⟩ = false := by
  intro a ha
  cases ha
  exact ⟨h, by simp, fun o => (Blk.new w T cs).frozen o⟩

/-- what TopOrder returns -/
def topV (many : Int) (L : List T3) : List Int × Bool := if edgesValid many L = true then topR many.toNat (topFreeS L) else ([], false)
theorem infoInt : (Tryz.prog.info? 3).map (fun i => (i.zero, i.size, i.bytes)) = some (some (.int .i64 0), 1, 8) := by kernel_rfl

theorem topT_congr {m : Nat} {p q : Nat → Nat → Bool} (h : ∀ g i, p g i = q g i) : ∀ r, topT m p r = topT m q r := by
  have : p = q := by funext g i; exact h g i
  rw [this]
  intro r
  rfl
theorem topV_impl {many : Int} {L : List T3} (hv : edgesValid many L = true) : topV many L = topR many.toNat (topFree many.toNat (rowsOf [1, 2, 3, 4] L)) := by
  unfold topV
  rw [if_pos hv]
  obtain ⟨m, rfl, hm6, _, hval⟩ := edgesValid_iff hv
  unfold topR
  rw [topT_congr (q := topFree (m : Int).toNat (rowsOf [1, 2, 3, 4] L)) (fun g i => topFree_eq (fun e he => by have := hval e he; unfold ed6; omega) (fun e he => by have := hval e he; simp only [Int.toNat_natCast]; omega) (fun e he => by
    obtain ⟨_, _, _, _, _, h1, h2⟩ := hval e he
    have : e.c = 1 ∨ e.c = 2 ∨ e.c = 3 ∨ e.c = 4 := by omega
    simpa using this) (by simp only [Int.toNat_natCast]; exact hm6) g i)]

end Go.Proofs.YtdohbmegkkkchaaGreat
