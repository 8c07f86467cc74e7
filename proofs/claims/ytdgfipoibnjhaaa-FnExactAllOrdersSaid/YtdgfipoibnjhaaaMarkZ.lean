/-
  The laws' helpers on lists of lists of rows: comparison and marks.
-/
import Derived.Test.YtdgfipoibnjhaaaMarkX
namespace Go.Proofs.Ytdgfipoibnjhaaa
set_option linter.unusedSimpArgs false
set_option linter.unusedVariables false
set_option maxRecDepth 100000
open Go.RowKit

def totX (X : List (List (List Int))) : Nat := (X.map tot).sum
theorem totX_take {X : List (List (List Int))} {k : Nat} {x : List (List Int)} (hk : X[k]? = some x) : totX (X.take (k + 1)) = totX (X.take k) + tot x := by
  unfold totX
  rw [List.take_add_one, hk]
  simp
theorem totX_le (X : List (List (List Int))) (k : Nat) : totX (X.take k) ≤ totX X := by
  have e : totX X = totX (X.take k) + totX (X.drop k) := by
    unfold totX
    rw [← List.sum_append, ← List.map_append, List.take_append_drop]
  omega
/-- few lists, few numbers -/
def SmallX (X : List (List (List Int))) : Prop := X.length ≤ 1000 ∧ totX X ≤ 900000 ∧ ∀ R ∈ X, SmallR R
theorem leaf_sub {es : List PX} {p : PX} (hp : p ∈ es) : ∀ b ∈ blks p.ps, b ∈ leaves es := fun b hb => by
  unfold leaves
  exact List.mem_flatMap.2 ⟨p, hp, hb⟩
theorem leaf_take {es : List PX} {k : Nat} {p : PX} (hk : es[k]? = some p) : leaves (es.take (k + 1)) = leaves (es.take k) ++ blks p.ps := by
  rw [List.take_add_one, hk, leaves_app]
  simp [leaves]
theorem leaf_tsub {es : List PX} {k : Nat} : ∀ b ∈ leaves (es.take k), b ∈ leaves es := fun b hb => by
  unfold leaves at hb ⊢
  obtain ⟨p, hp, e⟩ := List.mem_flatMap.1 hb
  exact List.mem_flatMap.2 ⟨p, List.mem_of_mem_take hp, e⟩
theorem leaf_nd {es : List PX} (hn : (leaves es).Nodup) {k : Nat} {p : PX} (hk : es[k]? = some p) : (blks p.ps).Nodup := by
  have e : leaves es = leaves (es.take (k + 1)) ++ leaves (es.drop (k + 1)) := by rw [← leaves_app, List.take_append_drop]
  rw [e, leaf_take hk, List.nodup_append, List.nodup_append] at hn
  exact hn.1.2.1
theorem leaf_fresh {es : List PX} (hn : (leaves es).Nodup) {k i : Nat} {p : PX} (hi : es[i]? = some p) (hk : k ≤ i) {b : Nat} (hb : b ∈ blks p.ps) : b ∉ leaves (es.take k) := fun hm => by
  have e : leaves es = leaves (es.take k) ++ leaves (es.drop k) := by rw [← leaves_app, List.take_append_drop]
  rw [e, List.nodup_append] at hn
  refine hn.2.2 b hm b ?_ rfl
  refine leaf_sub (p := p) (List.mem_of_getElem? (i := i - k) ?_) b hb
  rw [List.getElem?_drop, show k + (i - k) = i by omega]
  exact hi
theorem leaf_ne {es : List PX} (hn : (leaves es).Nodup) {i k : Nat} {p p' : PX} (hi : es[i]? = some p) (hk : es[k]? = some p') {b : Nat} (hb : b ∈ blks p.ps) (hb' : b ∈ blks p'.ps) : i = k := by
  rcases Nat.lt_trichotomy i k with h | h | h
  · exact absurd (leaf_sub (List.mem_of_getElem? (i := i) (show (es.take (i + 1))[i]? = some p by rw [List.getElem?_take_of_lt (Nat.lt_succ_self i)]; exact hi)) b hb) (leaf_fresh hn hk h hb')
  · exact h
  · exact absurd (leaf_sub (List.mem_of_getElem? (i := k) (show (es.take (k + 1))[k]? = some p' by rw [List.getElem?_take_of_lt (Nat.lt_succ_self k)]; exact hk)) b hb') (leaf_fresh hn hi h hb)
/-- where the elements and their rows lie -/
structure InZ (W : World) (A : Option Addr) (es : List PX) : Prop where
  out : ∀ (i : Nat) (p : PX), es[i]? = some p → ∃ g, A = some ⟨g, 0, none⟩ ∧ g < W.heap.size ∧ g ∉ leaves es ∧ W.cell? ⟨g, i, none⟩ = some p.cell
  inn : ∀ p ∈ es, ∀ (j : Nat) (r : PR), p.ps[j]? = some r → ∃ g off gr, p.A = some ⟨g, off, none⟩ ∧ g < W.heap.size ∧ g ∉ leaves es ∧ W.cell? ⟨g, off + j, none⟩ = some r.cell ∧ r.A = some ⟨gr, 0, none⟩
theorem InZ.grown {W W' : World} {A : Option Addr} {es : List PX} {L : List Nat} (h : InZ W A es) (hG : Grown L W W') (hL : ∀ b ∈ L, b ∈ leaves es) : InZ W' A es := by
  refine ⟨fun i p hp => ?_, fun p hp j r hr => ?_⟩
  · obtain ⟨g, h1, h2, h3, h4⟩ := h.out i p hp
    exact ⟨g, h1, Nat.lt_of_lt_of_le h2 hG.size, h3, (hG.cell h2 (fun hm => h3 (hL g hm))).trans h4⟩
  · obtain ⟨g, off, gr, h1, h2, h3, h4, h5⟩ := h.inn p hp j r hr
    exact ⟨g, off, gr, h1, Nat.lt_of_lt_of_le h2 hG.size, h3, (hG.cell h2 (fun hm => h3 (hL g hm))).trans h4, h5⟩
theorem InZ.ext {W W' : World} {A : Option Addr} {es : List PX} (h : InZ W A es) (hE : Ext W W') : InZ W' A es :=
  h.grown (L := []) ⟨hE.os, hE.tape, hE.output, hE.size, fun k hk _ => hE.block k hk⟩ (fun b hb => by cases hb)
theorem InZ.at_ {W : World} {A : Option Addr} {es : List PX} (h : InZ W A es) {p : PX} (hp : p ∈ es) : Inn W p := fun j r hr => by
  obtain ⟨g, off, gr, h1, h2, h3, h4, h5⟩ := h.inn p hp j r hr
  exact ⟨g, off, gr, h1, h2, fun hm => h3 (leaf_sub hp g hm), h4, h5, blks_mem hr h5⟩
/-- the rows hold marks -/
def Held (W : World) (es : List PX) (q : Int) : Prop := ∀ (i : Nat) (p : PX) (j : Nat) (r : PR) (g : Nat), es[i]? = some p → p.ps[j]? = some r → r.A = some ⟨g, 0, none⟩ → RowIs W g (marks1 (q + (totX ((es.map PX.rows).take i) : Nat) + (tot (p.rows.take j) : Nat)) r.xs.length)
theorem Held.ext {W W' : World} {es : List PX} {q : Int} (h : Held W es q) (hE : Ext W W') : Held W' es q := fun i p j r g h1 h2 h3 => (h i p j r g h1 h2 h3).ext hE
set_option maxHeartbeats 4000000 in
theorem markIntSSS_c (es : List PX) (A : Option Addr) (c : Nat) (w : World) (hz : InZ w A es) (hn : (leaves es).Nodup) (hs : ∀ b ∈ leaves es, Soft w b) (hr : ∀ (i : Nat) (p : PX) (j : Nat) (r : PR) (g : Nat), es[i]? = some p → p.ps[j]? = some r → r.A = some ⟨g, 0, none⟩ → RowIs w g r.xs) (hl : SmallX (es.map PX.rows)) :
    Calls Try.prog 11 #[.slice A es.length c, .int .i64 1] w fun e w' => e = .returned (.int .i64 (1 + (totX (es.map PX.rows) : Nat))) ∧ InZ w' A es ∧ Held w' es 1 ∧ Grown (leaves es) w w' := by
  have hXr : ∀ (k : Nat) (p : PX), es[k]? = some p → (es.map PX.rows)[k]? = some p.rows := fun k p h => by rw [List.getElem?_map, h]; rfl
  have hXl : (es.map PX.rows).length = es.length := by rw [List.length_map]
  have hen : es.length ≤ 1000 := by rw [← hXl]; exact hl.1
  have HZ := Lib.hid hz
  have HN := Lib.hid hn
  have HS := Lib.hid hs
  have HR := Lib.hid hr
  have HL := Lib.hid hl
  have HXr := Lib.hid hXr
  have HXl := Lib.hid hXl
  clear hz hn hs hr hl hXr hXl
  go_enter Try.func11, Try.ntmps11
  go_wp2
  go_loopw [1, 5] (fun v i wr => ∃ k : Nat, k ≤ es.length ∧ i = .int .i64 k ∧ v = .int .i64 (1 + (totX ((es.map PX.rows).take k) : Nat)) ∧ (∀ (i : Nat) (p : PX) (j : Nat) (r : PR) (g : Nat), es[i]? = some p → p.ps[j]? = some r → r.A = some ⟨g, 0, none⟩ → RowIs wr g (if i < k then marks1 (1 + (totX ((es.map PX.rows).take i) : Nat) + (tot (p.rows.take j) : Nat)) r.xs.length else r.xs)) ∧ Grown (leaves (es.take k)) w wr) (fun _ i _ => es.length - (intOf i).toNat)
  case atStart => exact ⟨0, Nat.zero_le _, rfl, by simp [totX], fun i p j r g h1 h2 h3 => by rw [if_neg (by omega)]; exact HR.out i p j r g h1 h2 h3, Grown.refl _ _⟩
  case round =>
    obtain ⟨k, hk, rfl, rfl, hU, hG⟩ := hrel
    have HU := Lib.hid hU
    have HG := Lib.hid hG
    clear hU hG
    by_cases hlt : k < es.length
    · obtain ⟨p, hpk⟩ : ∃ p, es[k]? = some p := ⟨es[k], List.getElem?_eq_getElem hlt⟩
      have hpm := List.mem_of_getElem? hpk
      have hZw := HZ.out.grown HG.out leaf_tsub
      obtain ⟨g0, hA, hgl, hgn, hcw⟩ := hZw.out k p hpk
      have hxr := HXr.out k p hpk
      have hT := totX_take hxr
      have htl := totX_le (es.map PX.rows) (k + 1)
      have hsm := HL.out.2.1
      have hsr := HL.out.2.2 _ (List.mem_of_getElem? hxr)
      have HT := Lib.hid hT
      have hq1 : 1 + (totX ((es.map PX.rows).take k) : Nat) ≤ (1000000 : Int) := by omega
      have hq0 : (0 : Int) ≤ 1 + (totX ((es.map PX.rows).take k) : Nat) := by omega
      have CM := Lib.hid (markIntSS_x p (1 + (totX ((es.map PX.rows).take k) : Nat)) wr (hZw.at_ hpm) (leaf_nd HN.out hpk) (fun b hb => HG.out.soft (HS.out b (leaf_sub hpm b hb)) (leaf_fresh HN.out hpk (Nat.le_refl k) hb)) (fun j r g h1 h2 => by
        have := HU.out k p j r g hpk h1 h2
        rw [if_neg (by omega)] at this
        exact this) hsr hq0 hq1)
      have HBt := Lib.hid (leaf_take hpk)
      have HPk := Lib.hid hpk
      subst hA
      unfold PX.cell at hcw
      clear hpk hpm hZw hxr hT
      go_wp2_with (fail)
      go_at_call 28
      refine CM.out.mono ?_
      rintro e w2 ⟨rfl, hM, hg⟩
      have HU2 := Lib.hid (show ∀ (i : Nat) (s : PX) (j : Nat) (r : PR) (g : Nat), es[i]? = some s → s.ps[j]? = some r → r.A = some ⟨g, 0, none⟩ → RowIs w2 g (if i < k + 1 then marks1 (1 + (totX ((es.map PX.rows).take i) : Nat) + (tot (s.rows.take j) : Nat)) r.xs.length else r.xs) from fun i s j r g h1 h2 h3 => by
        by_cases e : i = k
        · subst e
          rw [HPk.out] at h1
          cases h1
          rw [if_pos (by omega)]
          exact hM j r g h2 h3
        · have e2 : (if i < k + 1 then marks1 (1 + (totX ((es.map PX.rows).take i) : Nat) + (tot (s.rows.take j) : Nat)) r.xs.length else r.xs) = (if i < k then marks1 (1 + (totX ((es.map PX.rows).take i) : Nat) + (tot (s.rows.take j) : Nat)) r.xs.length else r.xs) := by
            by_cases h : i < k
            · rw [if_pos h, if_pos (by omega)]
            · rw [if_neg h, if_neg (by omega)]
          rw [e2]
          exact (HU.out i s j r g h1 h2 h3).grown hg (fun hm => e (leaf_ne HN.out h1 HPk.out (blks_mem h2 h3) hm)))
      have HG2 := Lib.hid (show Grown (leaves (es.take (k + 1))) w w2 from by
        rw [HBt.out]
        exact (HG.out.sub (fun x hx => List.mem_append_left _ hx)).tr (hg.sub (fun x hx => List.mem_append_right _ hx)))
      clear hM hg
      have htn := HT.out
      go_wp2
      refine ⟨⟨k + 1, by omega, by go_num, ?_, HU2.out, HG2.out⟩, by simp [intOf]; omega⟩
      rw [HT.out]
      go_num
    · obtain rfl : k = es.length := by omega
      have hG2 : Grown (leaves es) w wr := by
        have := HG.out
        rw [List.take_length] at this
        exact this
      have HF := Lib.hid (show InZ wr A es ∧ Held wr es 1 ∧ Grown (leaves es) w wr from ⟨HZ.out.grown hG2 (fun b hb => hb), fun i p j r g h1 h2 h3 => by
        have := HU.out i p j r g h1 h2 h3
        rw [if_pos (List.getElem?_eq_some_iff.1 h1).1] at this
        exact this, hG2⟩)
      have HTt := Lib.hid (show (es.map PX.rows).take es.length = es.map PX.rows from List.take_of_length_le (by rw [HXl.out]; exact Nat.le_refl _))
      rw [HTt.out]
      clear hG2
      go_wp2
      go_ret
      exact ⟨rfl, HF.out⟩
set_option maxHeartbeats 4000000 in
theorem heldIntSSS_c (es : List PX) (A : Option Addr) (c : Nat) (w : World) (hz : InZ w A es) (hh : Held w es 1) (hl : SmallX (es.map PX.rows)) :
    Calls Try.prog 12 #[.slice A es.length c, .int .i64 1] w fun e w' => e = .returned (.int .i64 (1 + (totX (es.map PX.rows) : Nat))) ∧ w = w' := by
  have hXr : ∀ (k : Nat) (p : PX), es[k]? = some p → (es.map PX.rows)[k]? = some p.rows := fun k p h => by rw [List.getElem?_map, h]; rfl
  have hXl : (es.map PX.rows).length = es.length := by rw [List.length_map]
  have hen : es.length ≤ 1000 := by rw [← hXl]; exact hl.1
  have HZ := Lib.hid hz
  have HH := Lib.hid hh
  have HL := Lib.hid hl
  have HXr := Lib.hid hXr
  have HXl := Lib.hid hXl
  clear hz hh hl hXr hXl
  go_enter Try.func12, Try.ntmps12
  go_wp2
  go_loop [1, 5] (fun v i => ∃ k : Nat, k ≤ es.length ∧ i = .int .i64 k ∧ v = .int .i64 (1 + (totX ((es.map PX.rows).take k) : Nat))) (fun _ i => es.length - (intOf i).toNat)
  case atStart => exact ⟨0, Nat.zero_le _, rfl, by simp [totX]⟩
  case round =>
    obtain ⟨k, hk, rfl, rfl⟩ := hrel
    by_cases hlt : k < es.length
    · obtain ⟨p, hpk⟩ : ∃ p, es[k]? = some p := ⟨es[k], List.getElem?_eq_getElem hlt⟩
      have hpm := List.mem_of_getElem? hpk
      obtain ⟨g0, hA, hgl, hgn, hcw⟩ := HZ.out.out k p hpk
      have hxr := HXr.out k p hpk
      have hT := totX_take hxr
      have htl := totX_le (es.map PX.rows) (k + 1)
      have hsm := HL.out.2.1
      have hsr := HL.out.2.2 _ (List.mem_of_getElem? hxr)
      have HT := Lib.hid hT
      have hq1 : 1 + (totX ((es.map PX.rows).take k) : Nat) ≤ (1000000 : Int) := by omega
      have hq0 : (0 : Int) ≤ 1 + (totX ((es.map PX.rows).take k) : Nat) := by omega
      have CM := Lib.hid (heldIntSS_x p (1 + (totX ((es.map PX.rows).take k) : Nat)) w (HZ.out.at_ hpm) (fun j r g h1 h2 => HH.out k p j r g hpk h1 h2) hsr hq0 hq1)
      have hlo : (1 + ((totX ((es.map PX.rows).take k) : Nat) : Int) + ((tot p.rows : Nat) : Int) < 0) = False := by simp; omega
      have htn : 1 + ((totX ((es.map PX.rows).take k) : Nat) : Int) + ((tot p.rows : Nat) : Int) ≤ 1000001 := by omega
      subst hA
      unfold PX.cell at hcw
      clear hpk hpm hxr hT
      go_wp2_with (fail)
      go_at_call 29
      refine CM.out.mono ?_
      rintro e w2 ⟨rfl, rfl⟩
      go_wp2
      refine ⟨⟨k + 1, by omega, by go_num, ?_⟩, by simp [intOf]; omega⟩
      rw [HT.out]
      go_num
    · obtain rfl : k = es.length := by omega
      have HTt := Lib.hid (show (es.map PX.rows).take es.length = es.map PX.rows from List.take_of_length_le (by rw [HXl.out]; exact Nat.le_refl _))
      rw [HTt.out]
      go_wp2
      go_ret
      exact ⟨rfl, rfl⟩
set_option maxHeartbeats 1000000 in
theorem eqIntSSS_c (xs : List (List (List Int))) (S S' : Nat → Prop) (A B : Option Addr) (c d : Nat) (w : World) (hx : Rows3 S w A xs) (hy : Rows3 S' w B xs) (hs : SmallX xs) :
    Calls Try.prog 8 #[.slice A xs.length c, .slice B xs.length d] w fun e w' => e = .returned (.bool true) ∧ Ext w w' := by
  have e1 : ((xs.length : Int) != (xs.length : Int)) = false := by simp
  have hn := hs.1
  go_enter Try.func8, Try.ntmps8
  go_wp2
  go_loopw [5] (fun i wr => ∃ k : Nat, k ≤ xs.length ∧ i = .int .i64 k ∧ Ext w wr) (fun i _ => xs.length - (intOf i).toNat)
  case atStart => exact ⟨0, Nat.zero_le _, rfl, Below.refl _ _⟩
  case round =>
    obtain ⟨k, hk, rfl, hE⟩ := hrel
    by_cases hlt : k < xs.length
    · obtain ⟨l, A', cap, b, off, hxk, rfl, _, hb0, hI, c0⟩ := (hx.ext hE).at_ hlt
      obtain ⟨l', A2, cap2, b', off', hyk, rfl, _, hb0', hI', d0⟩ := (hy.ext hE).at_ hlt
      rw [hxk] at hyk
      cases hyk
      have hon := hs.2.2 l (List.mem_of_getElem? hxk)
      clear hxk
      go_wp2
      go_still_tail 8, (by kernel_rfl)
      change wpList _ _ _ _ _ wr.drew
      go_wp2_with (go_at_call 25; refine (eqIntSS_c l _ _ _ _ _ _ _ (hI.ext (show Ext wr wr.drew by (repeat' (first | (with_reducible exact Below.refl _ _) | (with_reducible refine Below.mono (by assumption) ?_) | (with_reducible refine Below.trans ?_ (Below.mono (by assumption) ?_)) | (with_reducible refine Below.alloc ?_ ?_ _) | (with_reducible refine Below.drew ?_) | (with_reducible refine below_drewN ?_ _) | (with_reducible refine Below.setCell ?_ ?_ _) | (simp only [World.size_alloc, World.size_setCell, World.size_drew, size_drewN]; omega) | omega)))) (hI'.ext (show Ext wr wr.drew by (repeat' (first | (with_reducible exact Below.refl _ _) | (with_reducible refine Below.mono (by assumption) ?_) | (with_reducible refine Below.trans ?_ (Below.mono (by assumption) ?_)) | (with_reducible refine Below.alloc ?_ ?_ _) | (with_reducible refine Below.drew ?_) | (with_reducible refine below_drewN ?_ _) | (with_reducible refine Below.setCell ?_ ?_ _) | (simp only [World.size_alloc, World.size_setCell, World.size_drew, size_drewN]; omega) | omega)))) hon).mono ?_; rintro e w1 ⟨rfl, hb⟩; obtain ⟨hc, hf, hz, hs⟩ := bcell hb; (try simp only [World.size_alloc, World.size_setCell, World.size_drew, size_drewN] at hs); (first | have l0 := Nat.lt_of_lt_of_le l0 (show _ ≤ w1.heap.size by omega) | have l0 : w.heap.size < w1.heap.size := (by omega) | skip); (try have l0e := Nat.le_of_lt l0); (try have l0f := Nat.le_add_right_of_le (k := 1) l0e); (try have l1 := Nat.lt_of_lt_of_le l1 (show _ ≤ w1.heap.size by omega)); (try have l1e := Nat.le_of_lt l1); (try have l1f := Nat.le_add_right_of_le (k := 1) l1e); (try have l2 := Nat.lt_of_lt_of_le l2 (show _ ≤ w1.heap.size by omega)); (try have l2e := Nat.le_of_lt l2); (try have l2f := Nat.le_add_right_of_le (k := 1) l2e); (try have l3 := Nat.lt_of_lt_of_le l3 (show _ ≤ w1.heap.size by omega)); (try have l3e := Nat.le_of_lt l3); (try have l3f := Nat.le_add_right_of_le (k := 1) l3e))
      go_roundw
      case rel => exact ⟨k + 1, by omega, by go_num, (hE.tr (show Ext wr wr.drew by (repeat' (first | (with_reducible exact Below.refl _ _) | (with_reducible refine Below.mono (by assumption) ?_) | (with_reducible refine Below.trans ?_ (Below.mono (by assumption) ?_)) | (with_reducible refine Below.alloc ?_ ?_ _) | (with_reducible refine Below.drew ?_) | (with_reducible refine below_drewN ?_ _) | (with_reducible refine Below.setCell ?_ ?_ _) | (simp only [World.size_alloc, World.size_setCell, World.size_drew, size_drewN]; omega) | omega)))).tr hb⟩
      case measure => simp [intOf]; omega
    · obtain rfl : k = xs.length := by omega
      go_wp2
      go_ret
      exact ⟨rfl, hE⟩
end Go.Proofs.Ytdgfipoibnjhaaa
