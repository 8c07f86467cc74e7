/-
  Contracts of the reference's l9Far and l10Upto.
-/
import Derived.Test.YtbglkjmoednapaaDoorFar
namespace Go.Proofs.YtbglkjmoednapaaDoor
set_option linter.unusedSimpArgs false
set_option linter.unusedVariables false
set_option maxRecDepth 100000
open Go.RowKit

/-- one cell of a slice whose head is known -/
theorem Ints.cell {S : Nat → Prop} {w : World} {b off : Nat} {xs : List Int} (h : Ints S w (some ⟨b, off, none⟩) xs) {i : Nat} {x : Int} (hx : xs[i]? = some x) : w.cell? ⟨b, off + i, none⟩ = some (.int .i64 x) := by
  obtain ⟨b', off', us, e, _, _, _, hr, hc⟩ := h i x hx
  cases e
  cases hr
  simpa using hc 0 _ rfl
theorem Ints.off_ {S : Nat → Prop} {w : World} {A : Option Addr} {xs : List Int} (h : Ints S w A xs) (hn : 0 < xs.length) : ∃ b off, A = some ⟨b, off, none⟩ ∧ S b ∧ b < w.heap.size := by
  obtain ⟨x, b, off, _, e, hS, hb, _⟩ := h.at_ hn
  exact ⟨b, off, e, hS, hb⟩
/-- valid edges over m numbers -/
def EdM (m : Nat) (L : List T3) : Prop := ∀ e ∈ L, 0 ≤ e.a ∧ e.a < m ∧ 0 ≤ e.b ∧ e.b < m ∧ e.a ≠ e.b ∧ 1 ≤ e.c ∧ e.c ≤ 4
theorem farT_ge {L : List T3} {m : Nat} (hL : EdM m L) (t s v : Nat) : -1 ≤ farT L t s v ∧ farT L t s v ≤ s := by
  rcases far_spec (fun e he => by have := hL e he; omega) t s v with ⟨e, _⟩ | ⟨d, e, h, _⟩ <;> omega
/-- within a round the values stay small -/
theorem fold_ge {L : List T3} {s : Nat} {f : Nat → Int} (h : ∀ v, -1 ≤ f v ∧ f v ≤ s + 1) : ∀ v, -1 ≤ L.foldl (farStep s) f v ∧ L.foldl (farStep s) f v ≤ s + 1 := by
  induction L generalizing f with
  | nil => exact h
  | cons e L ih =>
    refine ih fun v => ?_
    unfold farStep
    split
    · unfold updI
      split
      · omega
      · exact h v
    · exact h v

theorem farStep_nat (s : Nat) (g : Nat → Int) (a y : Nat) (z : Int) : farStep s g ⟨(a : Int), (y : Int), z⟩ = if g y = s ∧ g a < 0 then updI g a (s + 1) else g := by simp [farStep]

set_option maxHeartbeats 4000000 in
theorem l9Far_c (m t : Nat) (L : List T3) (S : Nat → Prop) (A : Option Addr) (c : Nat) (w : World) (hx : Ops S w A L) (hn : L.length ≤ 144) (hm : m ≤ 6) (ht : t < m) (hL : EdM m L) :
    Calls Tryd.prog 24 #[.int .i64 m, .slice A L.length c, .int .i64 t] w (FreshI (fl m (farT L t m)) w) := by
  have HL := Lib.hid hL
  clear hL
  go_enter Tryd.func24, Tryd.ntmps24
  go_wp2
  have hO : Own1 (w.alloc (.cells #[] 3)) w.heap.size 3 (.slice (some ⟨w.heap.size, 0, none⟩) 0 0) (fl 0 fun _ => -1) := Own1.made w _ 0 rfl (by omega) (by omega) (by simp)
  have HO := Lib.hid hO
  clear hO
  go_loopw [7, 8] (fun v i wr => ∃ k : Nat, k ≤ m ∧ i = .int .i64 k ∧ Own1 wr w.heap.size 3 v (fl k fun _ => -1) ∧ Ext w wr) (fun _ i _ => m - (intOf i).toNat)
  case atStart => exact ⟨0, Nat.zero_le _, rfl, HO.out, by (repeat' (first | (with_reducible exact Below.refl _ _) | (with_reducible refine Below.mono (by assumption) ?_) | (with_reducible refine Below.trans ?_ (Below.mono (by assumption) ?_)) | (with_reducible refine Below.alloc ?_ ?_ _) | (with_reducible refine Below.drew ?_) | (with_reducible refine below_drewN ?_ _) | (with_reducible refine Below.setCell ?_ ?_ _) | (simp only [World.size_alloc, World.size_setCell, World.size_drew, size_drewN]; omega) | omega))⟩
  case round =>
    obtain ⟨k, hk, rfl, hown, hE⟩ := hrel
    have hfl := fl_len k (fun _ => (-1 : Int))
    have hEz := hE.size
    by_cases hlt : k < m
    · have hsn := fl_snoc k (fun _ => (-1 : Int))
      have HS := Lib.hid hsn
      clear hsn HO
      go_wp2_with (at_builtin; refine wpList_append1 _ rfl _ _ 26 rfl w.heap.size 3 Tryd.underlying26 infoInt rfl _ (fl k fun _ => -1) rfl (hown.ext (by (repeat' (first | (with_reducible exact Below.refl _ _) | (with_reducible refine Below.mono (by assumption) ?_) | (with_reducible refine Below.trans ?_ (Below.mono (by assumption) ?_)) | (with_reducible refine Below.alloc ?_ ?_ _) | (with_reducible refine Below.drew ?_) | (with_reducible refine below_drewN ?_ _) | (with_reducible refine Below.setCell ?_ ?_ _) | (simp only [World.size_alloc, World.size_setCell, World.size_drew, size_drewN]; omega) | omega)))) _ (-1) rfl ?_ ?_ ?_ ?_)
      all_goals try (first | omega | (simp only [World.size_alloc]; have := hE.size; omega) | (go_simp; done))
      intro v' w' hown' hgrow
      rw [← HS.out] at hown'
      have hE2 : Ext w w' := Below.grown (w := wr.alloc (.cells #[.int .i64 (-1)] 3)) (by (repeat' (first | (with_reducible exact Below.refl _ _) | (with_reducible refine Below.mono (by assumption) ?_) | (with_reducible refine Below.trans ?_ (Below.mono (by assumption) ?_)) | (with_reducible refine Below.alloc ?_ ?_ _) | (with_reducible refine Below.drew ?_) | (with_reducible refine below_drewN ?_ _) | (with_reducible refine Below.setCell ?_ ?_ _) | (simp only [World.size_alloc, World.size_setCell, World.size_drew, size_drewN]; omega) | omega))) hgrow (by simp only [World.size_alloc]; have := hE.size; omega) (fun g hg => own1_block hown g hg)
      clear hown hgrow
      go_wp2
      go_roundw
      case measure => simp [intOf]; omega
      case rel => exact ⟨k + 1, by omega, by go_num, hown', hE2⟩
    · obtain rfl : k = m := by omega
      obtain ⟨B, c', he, hA, hf⟩ := hown.form
      rw [hfl] at he
      obtain ⟨b, off, rfl, hSb, hb⟩ := hA.off_ (by rw [hfl]; omega)
      subst he
      have hf0 : ∀ o, wr.frozen? ⟨b, o, none⟩ = false := (hf _ rfl).2.2
      have hc0 := hA.cell (fl_get (f := fun _ => (-1 : Int)) ht)
      have hti : (t : Int) < k := by omega
      have hs0 := hA.set1 (i := t) (by rw [hfl]; exact ht) 0
      rw [fl_set ht] at hs0
      have hE1 : Ext w (wr.setCell ⟨b, off + t, none⟩ (.int .i64 0)) := by (repeat' (first | (with_reducible exact Below.refl _ _) | (with_reducible refine Below.mono (by assumption) ?_) | (with_reducible refine Below.trans ?_ (Below.mono (by assumption) ?_)) | (with_reducible refine Below.alloc ?_ ?_ _) | (with_reducible refine Below.drew ?_) | (with_reducible refine below_drewN ?_ _) | (with_reducible refine Below.setCell ?_ ?_ _) | (simp only [World.size_alloc, World.size_setCell, World.size_drew, size_drewN]; omega) | omega))
      have HA := Lib.hid hs0
      clear hfl hown hA hf hs0 HO
      go_wp2
      go_loopw [9] (fun i wr => ∃ s : Nat, s ≤ k ∧ i = .int .i64 s ∧ Ints (fun b => w.heap.size ≤ b) wr (some ⟨b, off, none⟩) (fl k (farT L t s)) ∧ Ext w wr ∧ (∀ o, wr.frozen? ⟨b, o, none⟩ = false) ∧ b < wr.heap.size) (fun i _ => k - (intOf i).toNat)
      case atStart => exact ⟨0, Nat.zero_le _, rfl, HA.out, hE1, fun o => by rw [World.frozen?_setCell]; exact hf0 o, by simp [World.setCell]; exact hb⟩
      case round =>
        obtain ⟨s, hs, rfl, hI, hE, hfz, hbz⟩ := hrel
        clear hc0 HA hE1 hf0
        by_cases hlt2 : s < k
        · obtain ⟨wo, rfl⟩ : ∃ wo : World, wo = wr := ⟨_, rfl⟩
          have hge := fun v => farT_ge HL.out t s v
          have hst : farT L t (s + 1) = L.foldl (farStep s) (farT L t s) := rfl
          have HS := Lib.hid hst
          clear hst
          generalize farT L t s = f0 at hI hge HS
          have HG := Lib.hid hge
          have HI := Lib.hid hI
          have HFZ := Lib.hid hfz
          clear hge hI hfz
          go_wp2
          go_loopw [10] (fun i wr => ∃ j : Nat, j ≤ L.length ∧ i = .int .i64 j ∧ Ints (fun b => w.heap.size ≤ b) wr (some ⟨b, off, none⟩) (fl k ((L.take j).foldl (farStep s) f0)) ∧ Ext w wr ∧ (∀ o, wr.frozen? ⟨b, o, none⟩ = false) ∧ b < wr.heap.size) (fun i _ => L.length - (intOf i).toNat)
          case atStart => exact ⟨0, Nat.zero_le _, rfl, HI.out, hE, HFZ.out, hbz⟩
          case round =>
            obtain ⟨j, hj, rfl, hI, hE3, hfz, hbz3⟩ := hrel
            have hfz0 := hfz
            clear HI HFZ
            by_cases hlt3 : j < L.length
            · obtain ⟨x0, x1, x2, b2, off2, hxk, rfl, _, hb2, d0, d1, d2⟩ := (hx.ext hE3).at_ hlt3
              obtain ⟨v1, v2, v3, v4, _⟩ := HL.out _ (List.mem_of_getElem? hxk)
              simp only at v1 v2 v3 v4
              have hft := fold_take (farStep s) f0 hxk
              have hgv := fold_ge (L := L.take j) (s := s) (f := f0) (fun v => by have := HG.out v; omega)
              generalize (L.take j).foldl (farStep s) f0 = g at hI hft hgv
              obtain ⟨a, rfl⟩ := Int.eq_ofNat_of_zero_le v1
              obtain ⟨y, rfl⟩ := Int.eq_ofNat_of_zero_le v3
              have ha : a < k := by omega
              have hy : y < k := by omega
              have ca := hI.cell (fl_get (f := g) ha)
              have cy := hI.cell (fl_get (f := g) hy)
              have hga := hgv a
              have hgy := hgv y
              rw [farStep_nat] at hft
              have HT := Lib.hid hft
              have hset := hI.set1 (i := a) (by rw [fl_len]; exact ha) ((s : Int) + 1)
              rw [fl_set ha] at hset
              have hEb : Ext wr (wr.alloc (.cells #[.int .i64 a, .int .i64 y, .int .i64 x2] 48)) := by (repeat' (first | (with_reducible exact Below.refl _ _) | (with_reducible refine Below.mono (by assumption) ?_) | (with_reducible refine Below.trans ?_ (Below.mono (by assumption) ?_)) | (with_reducible refine Below.alloc ?_ ?_ _) | (with_reducible refine Below.drew ?_) | (with_reducible refine below_drewN ?_ _) | (with_reducible refine Below.setCell ?_ ?_ _) | (simp only [World.size_alloc, World.size_setCell, World.size_drew, size_drewN]; omega) | omega))
              have HI := Lib.hid hI
              clear hft hgv hxk hset hI
              generalize hga2 : g a = ga at ca hga
              generalize hgy2 : g y = gy at cy hgy
              have HGA := Lib.hid hga2
              have HGY := Lib.hid hgy2
              clear hga2 hgy2
              by_cases hc : gy = s ∧ ga < 0
              · obtain ⟨rfl, hc2⟩ := hc
                have hq : (L.take (j + 1)).foldl (farStep s) f0 = updI g a (s + 1) := by rw [HT.out, if_pos ⟨HGY.out, by rw [HGA.out]; exact hc2⟩]
                have HQ := Lib.hid hq
                have e1 : ((s : Int) == s) = true := by simp
                have hai : (a : Int) < k := by omega
                have hyi : (y : Int) < k := by omega
                clear hq HT
                go_wp2
                refine ⟨⟨j + 1, by omega, by go_num, ?_, by (repeat' (first | (with_reducible exact Below.refl _ _) | (with_reducible refine Below.mono (by assumption) ?_) | (with_reducible refine Below.trans ?_ (Below.mono (by assumption) ?_)) | (with_reducible refine Below.alloc ?_ ?_ _) | (with_reducible refine Below.drew ?_) | (with_reducible refine below_drewN ?_ _) | (with_reducible refine Below.setCell ?_ ?_ _) | (simp only [World.size_alloc, World.size_setCell, World.size_drew, size_drewN]; omega) | omega)), fun o => ?_, by simp only [World.size_setCell, World.size_alloc]; omega⟩, by simp [intOf]; omega⟩
                · rw [HQ.out]
                  have h := HI.out.set1 (i := a) (by rw [fl_len]; exact ha) ((s : Int) + 1)
                  rw [fl_set ha] at h
                  exact h.ext (by (repeat' (first | (with_reducible exact Below.refl _ _) | (with_reducible refine Below.mono (by assumption) ?_) | (with_reducible refine Below.trans ?_ (Below.mono (by assumption) ?_)) | (with_reducible refine Below.alloc ?_ ?_ _) | (with_reducible refine Below.drew ?_) | (with_reducible refine below_drewN ?_ _) | (with_reducible refine Below.setCell ?_ ?_ _) | (simp only [World.size_alloc, World.size_setCell, World.size_drew, size_drewN]; omega) | omega)))
                · have hEq : Ext (wr.setCell ⟨b, off + a, none⟩ (.int .i64 ((s : Int) + 1))) ((wr.setCell ⟨b, off + a, none⟩ (.int .i64 ((s : Int) + 1))).alloc (.cells #[.int .i64 a, .int .i64 y, .int .i64 x2] 48)) := by (repeat' (first | (with_reducible exact Below.refl _ _) | (with_reducible refine Below.mono (by assumption) ?_) | (with_reducible refine Below.trans ?_ (Below.mono (by assumption) ?_)) | (with_reducible refine Below.alloc ?_ ?_ _) | (with_reducible refine Below.drew ?_) | (with_reducible refine below_drewN ?_ _) | (with_reducible refine Below.setCell ?_ ?_ _) | (simp only [World.size_alloc, World.size_setCell, World.size_drew, size_drewN]; omega) | omega))
                  have h1 := hEq.frozen (p := ⟨b, o, none⟩) (by simp only [World.size_setCell]; exact hbz3)
                  rw [World.frozen?_setCell] at h1
                  exact h1.trans (hfz0 o)
              · have hq : (L.take (j + 1)).foldl (farStep s) f0 = g := by rw [HT.out, if_neg (by rw [HGA.out, HGY.out]; exact hc)]
                have HQ := Lib.hid hq
                have hai : (a : Int) < k := by omega
                have hyi : (y : Int) < k := by omega
                clear hq HT
                by_cases hgs : gy = s
                · subst hgs
                  have hc2 : ¬ ga < 0 := fun h => hc ⟨rfl, h⟩
                  have e1 : ((s : Int) == s) = true := by simp
                  clear hc
                  go_wp2
                  exact ⟨⟨j + 1, by omega, by go_num, by rw [HQ.out]; exact HI.out.ext hEb, by (repeat' (first | (with_reducible exact Below.refl _ _) | (with_reducible refine Below.mono (by assumption) ?_) | (with_reducible refine Below.trans ?_ (Below.mono (by assumption) ?_)) | (with_reducible refine Below.alloc ?_ ?_ _) | (with_reducible refine Below.drew ?_) | (with_reducible refine below_drewN ?_ _) | (with_reducible refine Below.setCell ?_ ?_ _) | (simp only [World.size_alloc, World.size_setCell, World.size_drew, size_drewN]; omega) | omega)), fun o => (hEb.frozen (p := ⟨b, o, none⟩) hbz3).trans (hfz0 o), by simp only [World.size_alloc]; omega⟩, by simp [intOf]; omega⟩
                · have e1 : (gy == (s : Int)) = false := by simpa using hgs
                  clear hc hgs
                  go_wp2
                  exact ⟨⟨j + 1, by omega, by go_num, by rw [HQ.out]; exact HI.out.ext hEb, by (repeat' (first | (with_reducible exact Below.refl _ _) | (with_reducible refine Below.mono (by assumption) ?_) | (with_reducible refine Below.trans ?_ (Below.mono (by assumption) ?_)) | (with_reducible refine Below.alloc ?_ ?_ _) | (with_reducible refine Below.drew ?_) | (with_reducible refine below_drewN ?_ _) | (with_reducible refine Below.setCell ?_ ?_ _) | (simp only [World.size_alloc, World.size_setCell, World.size_drew, size_drewN]; omega) | omega)), fun o => (hEb.frozen (p := ⟨b, o, none⟩) hbz3).trans (hfz0 o), by simp only [World.size_alloc]; omega⟩, by simp [intOf]; omega⟩
            · obtain rfl : j = L.length := by omega
              rw [List.take_length, ← HS.out] at hI
              have HI := Lib.hid hI
              clear hI
              go_wp2
              exact ⟨⟨s + 1, by omega, by go_num, HI.out, hE3, hfz0, hbz3⟩, by simp [intOf]; omega⟩
        · obtain rfl : s = k := by omega
          have HI := Lib.hid hI
          have HFZ := Lib.hid hfz
          have hfl2 := fl_len s (farT L t s)
          have HFL := Lib.hid hfl2
          clear hI hfz hfl2
          go_wp2
          go_ret
          refine ⟨some ⟨b, off, none⟩, c', by rw [HFL.out]; rfl, HI.out, fun a ha => ?_, hE⟩
          cases ha
          exact ⟨hSb, hbz, HFZ.out⟩
end Go.Proofs.YtbglkjmoednapaaDoor
