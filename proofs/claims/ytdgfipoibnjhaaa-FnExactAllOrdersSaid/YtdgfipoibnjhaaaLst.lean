/-
  Contracts of the laws' helpers on lists of lists of ints: comparison and marks; results of calls in memory of their own.
-/
import Derived.Test.YtdgfipoibnjhaaaRes
namespace Go.Proofs.Ytdgfipoibnjhaaa
set_option linter.unusedSimpArgs false
set_option linter.unusedVariables false
set_option maxRecDepth 100000
open Go.RowKit

def tot (xs : List (List Int)) : Nat := (xs.map List.length).sum
theorem tot_take {xs : List (List Int)} {k : Nat} {x : List Int} (hk : xs[k]? = some x) : tot (xs.take (k + 1)) = tot (xs.take k) + x.length := by
  unfold tot
  rw [List.take_add_one, hk]
  simp
theorem tot_le (xs : List (List Int)) (k : Nat) : tot (xs.take k) ≤ tot xs := by
  have e : tot xs = tot (xs.take k) + tot (xs.drop k) := by
    unfold tot
    rw [← List.sum_append, ← List.map_append, List.take_append_drop]
  omega
/-- few rows, few numbers -/
def SmallR (xs : List (List Int)) : Prop := xs.length + tot xs ≤ 1048576
theorem SmallR.row {xs : List (List Int)} (h : SmallR xs) {k : Nat} {x : List Int} (hk : xs[k]? = some x) : x.length ≤ 1048576 := by
  have h1 := tot_take hk
  have h2 := tot_le xs (k + 1)
  unfold SmallR at h
  omega
theorem SmallR.len {xs : List (List Int)} (h : SmallR xs) : xs.length ≤ 1048576 := by unfold SmallR at h; omega

/-- rows that are a call's own, each in a block apart; f tells where -/
structure RI2 (lo : Nat) (w : World) (A : Option Addr) (xs : List (List Int)) (f : Nat → Option Addr) : Prop where
  row : ∀ i x, xs[i]? = some x → ∃ g off cap, A = some ⟨g, off, none⟩ ∧ lo ≤ g ∧ g < w.heap.size ∧ w.cell? ⟨g, off + i, none⟩ = some (.slice (f i) x.length cap) ∧ Ints (fun b => some b = rowOf (f i)) w (f i) x ∧
    ∀ a, f i = some a → lo ≤ a.block ∧ a.block < w.heap.size ∧ (∀ o, w.frozen? ⟨a.block, o, none⟩ = false) ∧ a.block ≠ g
  apart : ∀ i j a b, i < j → j < xs.length → f i = some a → f j = some b → a.block ≠ b.block
theorem RI2.ext {lo : Nat} {w w' : World} {A : Option Addr} {xs : List (List Int)} {f : Nat → Option Addr} (h : RI2 lo w A xs f) (hE : Ext w w') : RI2 lo w' A xs f := by
  refine ⟨fun i x hx => ?_, h.apart⟩
  obtain ⟨g, off, cap, rfl, h0, h1, h2, h3, h4⟩ := h.row i x hx
  refine ⟨g, off, cap, rfl, h0, Nat.lt_of_lt_of_le h1 hE.size, hE.keep h1 h2, h3.ext hE, fun a ha => ?_⟩
  obtain ⟨h5, h6, h7, h8⟩ := h4 a ha
  exact ⟨h5, Nat.lt_of_lt_of_le h6 hE.size, fun o => by rw [hE.frozen (p := ⟨a.block, o, none⟩) h6]; exact h7 o, h8⟩
theorem RI2.within {lo lo' hi : Nat} {w w' : World} {A : Option Addr} {xs : List (List Int)} {f : Nat → Option Addr} (h : RI2 lo w A xs f) (hw : Within lo' hi w w') (hl : hi ≤ lo) : RI2 lo w' A xs f := by
  refine ⟨fun i x hx => ?_, h.apart⟩
  obtain ⟨g, off, cap, rfl, h0, h1, h2, h3, h4⟩ := h.row i x hx
  refine ⟨g, off, cap, rfl, h0, Nat.lt_of_lt_of_le h1 hw.size, (World.cell?_of_block (a := ⟨g, off + i, none⟩) (hw.block g h1 (.inr (by omega)))).trans h2, h3.within hw (fun b hb hlt => ?_), fun a ha => ?_⟩
  · cases hf : f i with
    | none => rw [hf] at hb; cases hb
    | some a =>
      rw [hf] at hb
      obtain rfl : b = a.block := by simpa [rowOf] using hb
      have := (h4 a hf).1
      exact .inr (by omega)
  · obtain ⟨h5, h6, h7, h8⟩ := h4 a ha
    exact ⟨h5, Nat.lt_of_lt_of_le h6 hw.size, fun o => by rw [World.frozen?_of_block (a := ⟨a.block, o, none⟩) (hw.block a.block h6 (.inr (by omega)))]; exact h7 o, h8⟩
theorem RI2.rows {lo : Nat} {w : World} {A : Option Addr} {xs : List (List Int)} {f : Nat → Option Addr} (h : RI2 lo w A xs f) : Rows2 Any w A xs := by
  intro i x hx
  obtain ⟨g, off, cap, rfl, h0, h1, h2, h3, h4⟩ := h.row i x hx
  refine ⟨g, off, _, rfl, trivial, h1, rfl, ⟨f i, cap, rfl, SlAt.mono h3 (fun _ _ _ => trivial) (fun _ _ h => h)⟩, fun j u hu => ?_⟩
  match j, hu with
  | 0, hu => cases hu; simpa using h2
  | j + 1, hu => simp at hu
/-- a call that hands back new rows -/
def FreshRR (xs : List (List Int)) (w : World) (e : Ending) (w' : World) : Prop := ∃ A c f, e = .returned (.slice A xs.length c) ∧ RI2 w.heap.size w' A xs f ∧ Ext w w'
/-- what is held behind a mark of rows -/
def HI2 (w : World) (A : Option Addr) (xs : List (List Int)) : Prop := ∀ i x, xs[i]? = some x → ∃ g off B cap, A = some ⟨g, off, none⟩ ∧ g < w.heap.size ∧ w.cell? ⟨g, off + i, none⟩ = some (.slice B x.length cap) ∧ Ints Any w B (marks1 (1 + (tot (xs.take i) : Nat)) x.length)
theorem HI2.ext {w w' : World} {A : Option Addr} {xs : List (List Int)} (h : HI2 w A xs) (hE : Ext w w') : HI2 w' A xs := fun i x hx => by
  obtain ⟨g, off, B, cap, rfl, h1, h2, h3⟩ := h i x hx
  exact ⟨g, off, B, cap, rfl, Nat.lt_of_lt_of_le h1 hE.size, hE.keep h1 h2, h3.ext hE⟩

set_option maxHeartbeats 1000000 in
theorem eqIntSS_c (xs : List (List Int)) (S S' : Nat → Prop) (A B : Option Addr) (c d : Nat) (w : World) (hx : Rows2 S w A xs) (hy : Rows2 S' w B xs) (hs : SmallR xs) :
    Calls Try.prog 25 #[.slice A xs.length c, .slice B xs.length d] w fun e w' => e = .returned (.bool true) ∧ Ext w w' := by
  have e1 : ((xs.length : Int) != (xs.length : Int)) = false := by simp
  have hn := hs.len
  go_enter Try.func25, Try.ntmps25
  go_wp2
  go_loopw [5] (fun i wr => ∃ k : Nat, k ≤ xs.length ∧ i = .int .i64 k ∧ Ext w wr) (fun i _ => xs.length - (intOf i).toNat)
  case atStart => exact ⟨0, Nat.zero_le _, rfl, Below.refl _ _⟩
  case round =>
    obtain ⟨k, hk, rfl, hE⟩ := hrel
    by_cases hlt : k < xs.length
    · obtain ⟨l, A', cap, b, off, hxk, rfl, _, hb0, hI, c0⟩ := (hx.ext hE).at_ hlt
      obtain ⟨l', A2, cap2, b', off', hyk, rfl, _, hb0', hI', d0⟩ := (hy.ext hE).at_ hlt
      rw [hxk] at hyk
      cases hyk
      have hon := hs.row hxk
      clear hxk
      go_wp2
      go_still_tail 8, (by kernel_rfl)
      change wpList _ _ _ _ _ wr.drew
      go_wp2_with (go_at_call 40; refine (eqIntS_c l _ _ _ _ _ _ _ (hI.ext (show Ext wr wr.drew by (repeat' (first | (with_reducible exact Below.refl _ _) | (with_reducible refine Below.mono (by assumption) ?_) | (with_reducible refine Below.trans ?_ (Below.mono (by assumption) ?_)) | (with_reducible refine Below.alloc ?_ ?_ _) | (with_reducible refine Below.drew ?_) | (with_reducible refine below_drewN ?_ _) | (with_reducible refine Below.setCell ?_ ?_ _) | (simp only [World.size_alloc, World.size_setCell, World.size_drew, size_drewN]; omega) | omega)))) (hI'.ext (show Ext wr wr.drew by (repeat' (first | (with_reducible exact Below.refl _ _) | (with_reducible refine Below.mono (by assumption) ?_) | (with_reducible refine Below.trans ?_ (Below.mono (by assumption) ?_)) | (with_reducible refine Below.alloc ?_ ?_ _) | (with_reducible refine Below.drew ?_) | (with_reducible refine below_drewN ?_ _) | (with_reducible refine Below.setCell ?_ ?_ _) | (simp only [World.size_alloc, World.size_setCell, World.size_drew, size_drewN]; omega) | omega)))) hon).mono ?_; rintro e w1 ⟨rfl, hb⟩; obtain ⟨hc, hf, hz, hs⟩ := bcell hb; (try simp only [World.size_alloc, World.size_setCell, World.size_drew, size_drewN] at hs); (first | have l0 := Nat.lt_of_lt_of_le l0 (show _ ≤ w1.heap.size by omega) | have l0 : w.heap.size < w1.heap.size := (by omega) | skip); (try have l0e := Nat.le_of_lt l0); (try have l0f := Nat.le_add_right_of_le (k := 1) l0e); (try have l1 := Nat.lt_of_lt_of_le l1 (show _ ≤ w1.heap.size by omega)); (try have l1e := Nat.le_of_lt l1); (try have l1f := Nat.le_add_right_of_le (k := 1) l1e); (try have l2 := Nat.lt_of_lt_of_le l2 (show _ ≤ w1.heap.size by omega)); (try have l2e := Nat.le_of_lt l2); (try have l2f := Nat.le_add_right_of_le (k := 1) l2e); (try have l3 := Nat.lt_of_lt_of_le l3 (show _ ≤ w1.heap.size by omega)); (try have l3e := Nat.le_of_lt l3); (try have l3f := Nat.le_add_right_of_le (k := 1) l3e))
      go_roundw
      case rel => exact ⟨k + 1, by omega, by go_num, (hE.tr (show Ext wr wr.drew by (repeat' (first | (with_reducible exact Below.refl _ _) | (with_reducible refine Below.mono (by assumption) ?_) | (with_reducible refine Below.trans ?_ (Below.mono (by assumption) ?_)) | (with_reducible refine Below.alloc ?_ ?_ _) | (with_reducible refine Below.drew ?_) | (with_reducible refine below_drewN ?_ _) | (with_reducible refine Below.setCell ?_ ?_ _) | (simp only [World.size_alloc, World.size_setCell, World.size_drew, size_drewN]; omega) | omega)))).tr hb⟩
      case measure => simp [intOf]; omega
    · obtain rfl : k = xs.length := by omega
      go_wp2
      go_ret
      exact ⟨rfl, hE⟩

/-- while rows are marked: those below k hold their marks, the others what they held -/
structure RunI (lo : Nat) (w : World) (A : Option Addr) (xs : List (List Int)) (f : Nat → Option Addr) (q : Int) (k : Nat) : Prop where
  row : ∀ i x, xs[i]? = some x → ∃ g off cap, A = some ⟨g, off, none⟩ ∧ g < w.heap.size ∧ w.cell? ⟨g, off + i, none⟩ = some (.slice (f i) x.length cap) ∧
    Ints (fun b => some b = rowOf (f i)) w (f i) (if i < k then marks1 (q + (tot (xs.take i) : Nat)) x.length else x) ∧
    ∀ a, f i = some a → lo ≤ a.block ∧ a.block < w.heap.size ∧ (∀ o, w.frozen? ⟨a.block, o, none⟩ = false) ∧ a.block ≠ g
  apart : ∀ i j a b, i < j → j < xs.length → f i = some a → f j = some b → a.block ≠ b.block
theorem RunI.step {lo : Nat} {w w' : World} {A : Option Addr} {xs : List (List Int)} {f : Nat → Option Addr} {q : Int} {k : Nat} {x : List Int} (h : RunI lo w A xs f q k) (hx : xs[k]? = some x)
    (hm : Ints (fun b => some b = rowOf (f k)) w' (f k) (marks1 (q + (tot (xs.take k) : Nat)) x.length)) (hg : w.grownBy w' (rowOf (f k))) (hf : ∀ a, f k = some a → ∀ o, w'.frozen? ⟨a.block, o, none⟩ = false) : RunI lo w' A xs f q (k + 1) := by
  have hk : k < xs.length := (List.getElem?_eq_some_iff.1 hx).1
  refine ⟨fun i y hy => ?_, h.apart⟩
  have hi : i < xs.length := (List.getElem?_eq_some_iff.1 hy).1
  obtain ⟨g, off, cap, rfl, h1, h2, h3, h4⟩ := h.row i y hy
  obtain ⟨g', off', _, e, _, _, _, h4k⟩ := h.row k x hx
  cases e
  have hgk : some g ≠ rowOf (f k) := fun he => by
    cases hfk : f k with
    | none => rw [hfk] at he; cases he
    | some a =>
      rw [hfk] at he
      exact (h4k a hfk).2.2.2 (by simpa [rowOf] using he.symm)
  refine ⟨g, off, cap, rfl, Nat.lt_of_lt_of_le h1 hg.size, (World.cell?_of_block (a := ⟨g, off + i, none⟩) (hg.block g h1 hgk)).trans h2, ?_, fun a ha => ?_⟩
  · by_cases e : i = k
    · subst e
      rw [hx] at hy
      cases hy
      rw [if_pos (by omega)]
      exact hm
    · have e2 : (if i < k + 1 then marks1 (q + (tot (xs.take i) : Nat)) y.length else y) = (if i < k then marks1 (q + (tot (xs.take i) : Nat)) y.length else y) := by
        rcases Nat.lt_or_ge i k with hh | hh
        · rw [if_pos (by omega), if_pos hh]
        · rw [if_neg (by omega), if_neg (by omega)]
      rw [e2]
      refine h3.grown hg (fun b hb hlt he => ?_)
      rw [hb] at he
      cases hfi : f i with
      | none => rw [hfi] at hb; cases hb
      | some a =>
        cases hfk : f k with
        | none => rw [hfi, hfk] at he; cases he
        | some a' =>
          rw [hfi, hfk] at he
          have he : a.block = a'.block := by simpa [rowOf] using he
          rcases Nat.lt_or_ge i k with hlt | hge
          · exact h.apart i k a a' hlt hk hfi hfk he
          · exact h.apart k i a' a (by omega) hi hfk hfi he.symm
  · obtain ⟨h5, h6, h7, h8⟩ := h4 a ha
    refine ⟨h5, Nat.lt_of_lt_of_le h6 hg.size, fun o => ?_, h8⟩
    by_cases e : some a.block = rowOf (f k)
    · cases hfk : f k with
      | none => rw [hfk] at e; cases e
      | some a' =>
        rw [hfk] at e
        have e : a.block = a'.block := by simpa [rowOf] using e
        have := hf a' hfk o
        rw [e]
        exact this
    · rw [World.frozen?_of_block (a := ⟨a.block, o, none⟩) (hg.block a.block h6 e)]
      exact h7 o
/-- rows that are a call's own, in the words of the laws' walk -/
def RR (lo : Nat) (w : World) (A : Option Addr) (xs : List (List Int)) : Prop := Rows2 Any w A xs ∧ ∃ f, RI2 lo w A xs f
theorem RR.ext {lo : Nat} {w w' : World} {A : Option Addr} {xs : List (List Int)} (h : RR lo w A xs) (hE : Ext w w') : RR lo w' A xs := by
  obtain ⟨_, f, h⟩ := h
  exact ⟨(h.ext hE).rows, f, h.ext hE⟩
theorem RR.within {lo lo' hi : Nat} {w w' : World} {A : Option Addr} {xs : List (List Int)} (h : RR lo w A xs) (hw : Within lo' hi w w') (hl : hi ≤ lo) : RR lo w' A xs := by
  obtain ⟨_, f, h⟩ := h
  exact ⟨(h.within hw hl).rows, f, h.within hw hl⟩
end Go.Proofs.Ytdgfipoibnjhaaa
