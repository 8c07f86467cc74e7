/-
  Drawn orders: what l20Orders leaves.
-/
import Derived.Test.YtmbdacfgmiielaaGreatDoorGOrdF20
import Derived.Test.YtmbdacfgmiielaaGreatDoorDrawHd
import Derived.Deep.RegionHeld3
import Derived.Deep.CutRange
import Derived.Deep.CutBlock
import Derived.Deep.QuietTactic
import Derived.BigQuiet
namespace Go.Proofs.YtmbdacfgmiielaaGreatDoor
set_option linter.unusedSimpArgs false
set_option linter.unusedVariables false
set_option maxRecDepth 100000
open Go.RowKit

def lens (ps : List PR) : List Nat := ps.map fun p => p.xs.length
theorem lens_at {ps : List PR} {k m : Nat} (h : (lens ps)[k]? = some m) : ∃ p, ps[k]? = some p ∧ p.xs.length = m := by
  unfold lens at h
  rw [List.getElem?_map] at h
  obtain ⟨p, hp, e⟩ := Option.map_eq_some_iff.1 h
  exact ⟨p, hp, e⟩
theorem lens_set {ps : List PR} {k : Nat} {p p' : PR} (hk : ps[k]? = some p) (h : p'.xs.length = p.xs.length) : lens (ps.set k p') = lens ps := by
  unfold lens
  rw [List.map_set, h]
  apply List.ext_getElem?
  intro i
  by_cases e : k = i
  · subst e
    have hkl : k < (ps.map fun p => p.xs.length).length := by rw [List.length_map]; exact (List.getElem?_eq_some_iff.1 hk).1
    rw [List.getElem?_set_self hkl, List.getElem?_map, hk]
    rfl
  · rw [List.getElem?_set_ne e]
/-- what the draw of orders keeps -/
structure OKd (w : World) (r P : Nat) (v : Value) (L : List Nat) (ps : List PR) (W : World) : Prop where
  s : OwnS W w.heap.size v ps
  ln : lens ps = L
  bl : ∀ p ∈ ps, HasB p.cell
  rd : RdrB W r P
  gr : w.grownBy W (some r)
  lr : r < w.heap.size
section
variable {w W W' : World} {r P P' : Nat} {v : Value} {L : List Nat} {ps : List PR}
theorem OKd.more (h : OKd w r P v L ps W) (hp : P ≤ P') : OKd w r P' v L ps W := { h with rd := h.rd.mono hp }
theorem OKd.len (h : OKd w r P v L ps W) : ps.length = L.length := by rw [← h.ln]; simp [lens]
theorem OKd.ext (h : OKd w r P v L ps W) (hE : Ext W W') : OKd w r P v L ps W' := ⟨h.s.ext hE, h.ln, h.bl, h.rd.ext hE, grown_trans h.gr (grown_ext hE _), h.lr⟩
theorem OKd.pick (h : OKd w r P v L ps W) (hG : W.grownBy W' (some r)) (hR : RdrB W' r P') : OKd w r P' v L ps W' :=
  ⟨h.s.pick hG h.lr, h.ln, h.bl, hR, grown_trans h.gr hG, h.lr⟩
theorem OKd.put {g k j : Nat} (h : OKd w r P v L ps W) {p : PR} (hk : ps[k]? = some p) (hA : p.A = some ⟨g, 0, none⟩) (hj : j < p.xs.length) (x : Int) :
    OKd w r P v L (ps.set k ⟨p.A, p.c, p.xs.set j x⟩) (W.setCell ⟨g, j, none⟩ (.int .i64 x)) := by
  obtain ⟨h1, h2⟩ := h.s.put hk hA hj x
  have hlr := h.lr
  have hg : W.grownBy (W.setCell ⟨g, j, none⟩ (.int .i64 x)) (some g) := grown_set _
  refine ⟨h1, (lens_set hk (by simp)).trans h.ln, fun q hq => ?_, h.rd.grown hg (fun g' e => by have := Option.some.inj e; omega), grown_sub h.gr hg (fun g' e => by have := Option.some.inj e; omega), hlr⟩
  rcases List.mem_or_eq_of_mem_set hq with hq | rfl
  · exact h.bl q hq
  · exact ⟨g, by unfold PR.cell; rw [hA]; rfl⟩
theorem OKd.rep {g c k : Nat} (h : OKd w r P (.slice (some ⟨g, 0, none⟩) ps.length c) L ps W) {p p' : PR} (hk : ps[k]? = some p) {row : Option Nat} (hg : W.grownBy W' row) (hrow : row = none ∨ row = p.cell.ownBlock) (ho : Own1 W' w.heap.size 3 p'.cell p'.xs)
    (hat : p'.cell.ownBlock = p.cell.ownBlock ∨ ∃ b, p'.cell.ownBlock = some b ∧ W.heap.size ≤ b) :
    OKd w r P (.slice (some ⟨g, 0, none⟩) ps.length c) (lens (ps.set k p')) (ps.set k p') (W'.setCell ⟨g, k, none⟩ p'.cell) := by
  have hpm := List.mem_of_getElem? hk
  obtain ⟨h1, h2⟩ := h.s.rep hk hg hrow ho (.inr hat)
  have hlr := h.lr
  have hgs : W'.grownBy (W'.setCell ⟨g, k, none⟩ p'.cell) (some g) := grown_set _
  have hrl : ∀ b, row = some b → w.heap.size ≤ b := fun b hb => by
    rcases hrow with e | e
    · rw [e] at hb; cases hb
    · rw [e] at hb; exact ((h.s.own p hpm).lt b hb).1
  obtain ⟨b0, hb0⟩ := h.bl p hpm
  refine ⟨h1, rfl, fun q hq => ?_, (h.rd.grown hg (fun b hb => by have := hrl b hb; omega)).grown hgs (fun b hb => by have := Option.some.inj hb; omega), grown_sub (grown_sub h.gr hg hrl) hgs (fun b hb => by have := Option.some.inj hb; omega), hlr⟩
  rcases List.mem_or_eq_of_mem_set hq with hq | rfl
  · exact h.bl q hq
  · rcases hat with e | ⟨b, e, _⟩
    · exact ⟨b0, e.trans hb0⟩
    · exact ⟨b, e⟩
/-- the outer slice's cell behind an append to a row -/
theorem OKd.out_at {g c k : Nat} (h : OKd w r P (.slice (some ⟨g, 0, none⟩) ps.length c) L ps W) {p : PR} (hk : ps[k]? = some p) {row : Option Nat} (hg : W.grownBy W' row) (hrow : row = none ∨ row = p.cell.ownBlock) :
    W'.cell? ⟨g, k, none⟩ = some (.slice p.A p.xs.length p.c) ∧ W'.frozen? ⟨g, k, none⟩ = false := by
  have hpm := List.mem_of_getElem? hk
  have hkl : k < ps.length := (List.getElem?_eq_some_iff.1 hk).1
  have hrv : (Value.slice (some ⟨g, 0, none⟩) ps.length c).ownBlock = none ∨ (Value.slice (some ⟨g, 0, none⟩) ps.length c).ownBlock ≠ row := by
    rcases hrow with rfl | rfl
    · exact .inr (by simp [Value.ownBlock])
    · cases e : p.cell.ownBlock with
      | none => exact .inr (by simp [Value.ownBlock])
      | some b => exact h.s.ne hpm e
  have h1 : W'.ownsRow w.heap.size 49 1 (.slice (some ⟨g, 0, none⟩) ps.length c) ps.length (flatR ps) := World.ownsRow.kept h.s.out hg hrv
  refine ⟨?_, World.ownsRow.frozenAt h1 k⟩
  rw [World.ownsRow.cellAt h1 k (by omega)]
  simp [flatR, hk, PR.cell]
theorem OKd.row {k m : Nat} (h : OKd w r P v L ps W) (hk : L[k]? = some m) : ∃ (g c : Nat) (xs : List Int), ps[k]? = some ⟨some ⟨g, 0, none⟩, c, xs⟩ ∧ xs.length = m ∧ m ≤ c := by
  rw [← h.ln] at hk
  obtain ⟨p, hp, hm⟩ := lens_at hk
  have hpm := List.mem_of_getElem? hp
  obtain ⟨g, hg⟩ := h.bl p hpm
  have hc := h.s.cap hpm
  obtain ⟨A, c, xs⟩ := p
  rcases (h.s.own _ hpm).2 with ⟨hv, h0⟩ | ⟨g', cap, cur, hv, _, _, hle, _⟩
  · rw [hv] at hg; cases hg
  · simp only [PR.cell, Value.slice.injEq] at hv
    obtain ⟨rfl, _, _⟩ := hv
    exact ⟨g', c, xs, hp, hm, by rw [← hm]; exact hc⟩
end
/-- small lists of numbers -/
def SmallO (R : List (List Int)) : Prop := R.length ≤ 3 ∧ ∀ l ∈ R, l.length ≤ 36
/-- what a draw of orders hands back -/
def DrawnO (w : World) (r P : Nat) (e : Ending) (W : World) : Prop := ∃ (R : List (List Int)) (A : Option Addr) (c : Nat), e = .returned (.slice A R.length c) ∧ R.length ≤ c ∧ Rows2 (fun b => w.heap.size ≤ b) W A R ∧ SmallO R ∧ RdrB W r P ∧ w.grownBy W (some r)
theorem OKd.fin {w W : World} {r P P' N A c} {L : List Nat} {ps : List PR} (h : OKd w r P (.slice A N c) L ps W) (hp : P ≤ P') (hL : L.length ≤ 3 ∧ ∀ m ∈ L, m ≤ 36) : DrawnO w r P' (.returned (.slice A N c)) W := by
  obtain ⟨A', c', hv, hc, _, hR⟩ := h.s.form
  have hl := h.len
  refine ⟨ps.map PR.xs, A', c', by rw [hv, List.length_map], by rw [List.length_map]; exact hc, hR, ⟨by rw [List.length_map]; omega, fun l hl => ?_⟩, h.rd.mono hp, h.gr⟩
  obtain ⟨p, hp, rfl⟩ := List.mem_map.1 hl
  refine hL.2 _ ?_
  rw [← h.ln]
  exact List.mem_map.2 ⟨p, hp, rfl⟩

theorem OKd.finT {w W : World} {r P P' N g c : Nat} {L : List Nat} {ps : List PR} (h : OKd w r P (.slice (some ⟨g, 0, none⟩) N c) L ps W) (hp : P ≤ P') (hL : L.length ≤ 3 ∧ ∀ m ∈ L, m ≤ 36) (hN : 0 < N) (hn : L.length = N) : DrawnO w r P' (.returned (.slice (some ⟨g, 1, none⟩) (N - 1) (c - 1))) W := by
  obtain ⟨A', c', hv, hc, _, hR⟩ := h.s.form
  have hl := h.len
  simp only [Value.slice.injEq] at hv
  obtain ⟨rfl, _, rfl⟩ := hv
  have hln := h.ln
  cases ps with
  | nil => simp only [List.length_nil] at hl; omega
  | cons p0 qs =>
    simp only [List.length_cons] at hl hc
    simp only [List.map_cons] at hR
    refine ⟨qs.map PR.xs, some ⟨g, 1, none⟩, c - 1, by rw [List.length_map, show N - 1 = qs.length by omega], by rw [List.length_map]; omega, SlAt.tl hR, ⟨by rw [List.length_map]; omega, fun l hl => ?_⟩, h.rd.mono hp, h.gr⟩
    obtain ⟨p, hp, rfl⟩ := List.mem_map.1 hl
    refine hL.2 _ ?_
    rw [← hln]
    exact List.mem_map.2 ⟨p, List.mem_cons_of_mem _ hp, rfl⟩
set_option maxHeartbeats 8000000 in
theorem l20Orders_c (h : List TxnT) (S : Nat → Prop) (A : Option Addr) (c : Nat) (r P : Nat) (n : Int) (w : World) (hx : Txns S w A h) (hcap : CapN w A h.length) (hsm : Small h) (hR : RdrB w r P) (hP : P ≤ 1000) (hn : 1 ≤ n ∧ n ≤ 100) :
    Calls Tryz.prog 23 #[.pointer (some ⟨r, 0, none⟩), .slice A h.length c, .int .i64 n] w (DrawnO w r (P + 100)) := by
  have CF := Lib.hid (fun w hx hcap => specFirstOrders_o h S A c w hx hcap hsm)
  have hrl := hR.lt
  have HX := Lib.hid hx
  have HCap := Lib.hid hcap
  have HR := Lib.hid hR
  clear hx hcap hR
  go_enter Tryz.func23, Tryz.ntmps23
  go_wp2_with (fail)
  go_at_call 53
  refine (CF.out _ (HX.out.ext (by (repeat' (first | (with_reducible exact Below.refl _ _) | (with_reducible refine Below.mono (by assumption) ?_) | (with_reducible refine Below.trans ?_ (Below.mono (by assumption) ?_)) | (with_reducible refine Below.alloc ?_ ?_ _) | (with_reducible refine Below.drew ?_) | (with_reducible refine below_drewN ?_ _) | (with_reducible refine Below.setCell ?_ ?_ _) | (simp only [World.size_alloc, World.size_setCell, World.size_drew, size_drewN]; omega) | omega)))) (HCap.out.ext (by (repeat' (first | (with_reducible exact Below.refl _ _) | (with_reducible refine Below.mono (by assumption) ?_) | (with_reducible refine Below.trans ?_ (Below.mono (by assumption) ?_)) | (with_reducible refine Below.alloc ?_ ?_ _) | (with_reducible refine Below.drew ?_) | (with_reducible refine below_drewN ?_ _) | (with_reducible refine Below.setCell ?_ ?_ _) | (simp only [World.size_alloc, World.size_setCell, World.size_drew, size_drewN]; omega) | omega))))).mono ?_
  rintro e w1 ⟨v, ps, rfl, hO, hpm, hb, hpb⟩
  obtain ⟨hc, hf, hz, hs⟩ := bcell hb
  (try simp only [World.size_alloc, World.size_setCell, World.size_drew, size_drewN] at hs); (first | have l0 := Nat.lt_of_lt_of_le l0 (show _ ≤ w1.heap.size by omega) | have l0 : w.heap.size < w1.heap.size := (by omega) | skip); (try have l0e := Nat.le_of_lt l0); (try have l0f := Nat.le_add_right_of_le (k := 1) l0e); (try have l1 := Nat.lt_of_lt_of_le l1 (show _ ≤ w1.heap.size by omega)); (try have l1e := Nat.le_of_lt l1); (try have l1f := Nat.le_add_right_of_le (k := 1) l1e); (try have l2 := Nat.lt_of_lt_of_le l2 (show _ ≤ w1.heap.size by omega)); (try have l2e := Nat.le_of_lt l2); (try have l2f := Nat.le_add_right_of_le (k := 1) l2e); (try have l3 := Nat.lt_of_lt_of_le l3 (show _ ≤ w1.heap.size by omega)); (try have l3e := Nat.le_of_lt l3); (try have l3f := Nat.le_add_right_of_le (k := 1) l3e)
  have hE1 : Ext w w1 := by (repeat' (first | (with_reducible exact Below.refl _ _) | (with_reducible refine Below.mono (by assumption) ?_) | (with_reducible refine Below.trans ?_ (Below.mono (by assumption) ?_)) | (with_reducible refine Below.alloc ?_ ?_ _) | (with_reducible refine Below.drew ?_) | (with_reducible refine below_drewN ?_ _) | (with_reducible refine Below.setCell ?_ ?_ _) | (simp only [World.size_alloc, World.size_setCell, World.size_drew, size_drewN]; omega) | omega))
  have hok : OKd w r P v (lens ps) ps w1 := ⟨hO, rfl, hpb, HR.out.ext hE1, grown_ext hE1 _, hrl⟩
  have hL : (lens ps).length ≤ 3 ∧ ∀ m ∈ lens ps, m ≤ 18 := by
    have e : lens ps = (firstV h).map List.length := by rw [← hpm]; simp [lens]
    rw [e]
    unfold firstV
    split
    · refine ⟨by simp, fun m hm => ?_⟩
      simp only [List.map_cons, List.map_nil, List.mem_cons, List.not_mem_nil, or_false] at hm
      rcases hm with rfl | rfl | rfl <;> exact instd_len _ _
    · simp
  have hN : (lens ps).length = 0 ∨ (lens ps).length = 3 := by
    have e : lens ps = (firstV h).map List.length := by rw [← hpm]; simp [lens]
    rw [e]
    unfold firstV
    split
    · right; simp
    · left; simp
  have hlp : ps.length = (lens ps).length := by simp [lens]
  obtain ⟨A2, c2, hv2, hle2, hc2m, _⟩ := hO.form
  rw [hlp] at hv2 hle2
  subst hv2
  generalize lens ps = L at hok hL hN hle2 ⊢
  generalize hLN : L.length = N at hok hL hN hle2 ⊢
  have HLN := Lib.hid hLN
  have HN3 := Lib.hid hN
  have HOK := Lib.hid hok
  have HLm := Lib.hid hL.2
  have hN3 := hL.1
  clear hO hpm hpb hb hc hf hz hok hL hlp hLN hE1 hN
  go_wp2_with (fail)
  go_loopw [8] (fun i wr => ∃ (k : Nat) (ps' : List PR), k ≤ N ∧ i = .int .i64 k ∧ OKd w r (P + 18 * k) (.slice A2 N c2) L ps' wr) (fun i _ => N - (intOf i).toNat)
  case atStart => exact ⟨0, ps, Nat.zero_le _, rfl, HOK.out⟩
  case round =>
    obtain ⟨k, ps1, hk, rfl, hok⟩ := hrel
    have HOK := Lib.hid hok
    by_cases hlt : k < N
    · have hki : (k : Int) < N := by omega
      have hn1 := hok.len.trans HLN.out
      obtain ⟨g, rfl, hgn⟩ := hok.s.outer (by omega)
      clear hgn
      obtain ⟨m, hm⟩ : ∃ m, L[k]? = some m := ⟨L[k]'(by rw [HLN.out]; exact hlt), List.getElem?_eq_getElem _⟩
      have hm18 := HLm.out m (List.mem_of_getElem? hm)
      have HM := Lib.hid hm
      clear hok hm hn1
      go_wp2
      go_loopw [9] (fun i wr => ∃ (j : Nat) (ps' : List PR), j ≤ 18 ∧ i = .int .i64 j ∧ OKd w r (P + 18 * k + j) (.slice (some ⟨g, 0, none⟩) N c2) L ps' wr) (fun i _ => 18 - (intOf i).toNat)
      case atStart => exact ⟨0, ps1, Nat.zero_le _, rfl, HOK.out⟩
      case round =>
        obtain ⟨j, ps2, hj, rfl, hok⟩ := hrel
        obtain ⟨g2, c3, xs, hp, hxm, hmc⟩ := hok.row HM.out
        have hn2 := hok.len.trans HLN.out
        have s2 := hok.s
        rw [← hn2] at s2
        have hcl := s2.cell hp
        simp only at hcl
        rw [hxm] at hcl
        have hrd := hok.rd
        have HOK2 := Lib.hid hok
        have HXm := Lib.hid hxm
        have HP2 := Lib.hid hp
        by_cases hj1 : j + 1 < m
        · have hji : (j : Int) + 1 < m := by omega
          have hgl := (s2.out.lt g rfl).2
          have hg2l := ((s2.own _ (List.mem_of_getElem? hp)).lt g2 rfl).2
          clear s2 hok hxm hp hn2 HOK
          go_wp2_with (fail)
          go_at_call 43
          refine (pick_c r (P + 18 * k + j) 4 _ hrd (by omega) (by omega) (by omega)).mono ?_
          rintro e w5 ⟨z, rfl, hz4, hR5, hG5⟩
          obtain ⟨hc, hf, hz, hs⟩ := gcell hG5
          (try simp only [World.size_alloc, World.size_setCell, World.size_drew, size_drewN] at hs); (first | have l0 := Nat.lt_of_lt_of_le l0 (show _ ≤ w5.heap.size by omega) | have l0 : w.heap.size < w5.heap.size := (by omega) | skip); (try have l0e := Nat.le_of_lt l0); (try have l0f := Nat.le_add_right_of_le (k := 1) l0e); (try have l1 := Nat.lt_of_lt_of_le l1 (show _ ≤ w5.heap.size by omega)); (try have l1e := Nat.le_of_lt l1); (try have l1f := Nat.le_add_right_of_le (k := 1) l1e); (try have l2 := Nat.lt_of_lt_of_le l2 (show _ ≤ w5.heap.size by omega)); (try have l2e := Nat.le_of_lt l2); (try have l2f := Nat.le_add_right_of_le (k := 1) l2e); (try have l3 := Nat.lt_of_lt_of_le l3 (show _ ≤ w5.heap.size by omega)); (try have l3e := Nat.le_of_lt l3); (try have l3f := Nat.le_add_right_of_le (k := 1) l3e)
          have hok5 := HOK2.out.pick hG5 hR5
          have HOK5 := Lib.hid hok5
          clear hcl hok5 hc hf hz hrd
          by_cases hz0 : z = 0
          · have hzb : ((z : Int) == 0) = true := by simp [hz0]
            have s5 := HOK5.out.s
            have hn5 := HOK5.out.len.trans HLN.out
            rw [← hn5] at s5
            have hcl5 := s5.cell HP2.out
            simp only at hcl5
            rw [HXm.out] at hcl5
            obtain ⟨x, hxj⟩ : ∃ x, xs[j]? = some x := ⟨xs[j]'(by rw [HXm.out]; omega), List.getElem?_eq_getElem _⟩
            obtain ⟨y, hyj⟩ : ∃ y, xs[j + 1]? = some y := ⟨xs[j + 1]'(by rw [HXm.out]; omega), List.getElem?_eq_getElem _⟩
            have d0 := s5.num HP2.out rfl (show (PR.mk (some ⟨g2, 0, none⟩) c3 xs).xs[j]? = some x from hxj)
            have d1 := s5.num HP2.out rfl (show (PR.mk (some ⟨g2, 0, none⟩) c3 xs).xs[j + 1]? = some y from hyj)
            have f0 := s5.thaw HP2.out rfl j
            have hok6 := (HOK5.out.put (x := y) HP2.out rfl (show j < xs.length by rw [HXm.out]; omega)).ext (show Ext (w5.setCell ⟨g2, j, none⟩ (.int .i64 y)) (w5.setCell ⟨g2, j, none⟩ (.int .i64 y)).drew by (repeat' (first | (with_reducible exact Below.refl _ _) | (with_reducible refine Below.mono (by assumption) ?_) | (with_reducible refine Below.trans ?_ (Below.mono (by assumption) ?_)) | (with_reducible refine Below.alloc ?_ ?_ _) | (with_reducible refine Below.drew ?_) | (with_reducible refine below_drewN ?_ _) | (with_reducible refine Below.setCell ?_ ?_ _) | (simp only [World.size_alloc, World.size_setCell, World.size_drew, size_drewN]; omega) | omega)))
            have hkl : k < ps2.length := by rw [hn5]; exact hlt
            have hp6 : (ps2.set k ⟨some ⟨g2, 0, none⟩, c3, xs.set j y⟩)[k]? = some ⟨some ⟨g2, 0, none⟩, c3, xs.set j y⟩ := by rw [List.getElem?_set_self hkl]
            have s6 := hok6.s
            have hn6 := hok6.len.trans HLN.out
            rw [← hn6] at s6
            have hcl6 := s6.cell hp6
            simp only [List.length_set] at hcl6
            rw [HXm.out] at hcl6
            have f1 := s6.thaw hp6 rfl (j + 1)
            have d2 := s6.num hp6 rfl (show (PR.mk (some ⟨g2, 0, none⟩) c3 (xs.set j y)).xs[j + 1]? = some y by rw [List.getElem?_set_ne (by omega)]; exact hyj)
            have hok7 := hok6.put (x := x) hp6 rfl (show j + 1 < (xs.set j y).length by rw [List.length_set, HXm.out]; omega)
            have HOK7 := Lib.hid hok7
            have hj0 : (0 : Int) ≤ (j : Int) := by omega
            have hj2 : (j : Int) < (m : Int) := by omega
            have hj3 : (0 : Int) ≤ (j : Int) + 1 := by omega
            have hk0 : (0 : Int) ≤ (k : Int) := by omega
            clear s5 hn5 hxj hyj hok6 hkl hp6 s6 hn6 hok7
            go_upto_region 10 with (fail)
            go_region
            go_upto_region 11 with (fail)
            generalize (w5.setCell ⟨g2, j, none⟩ (.int .i64 y)).drew = w6 at hcl6 f1 d2 HOK7 ⊢
            go_wp2
            go_roundw
            case measure => simp [intOf]; omega
            case rel => exact ⟨j + 1, _, by omega, by go_num, HOK7.out.more (by omega)⟩
          · have hzb : ((z : Int) == 0) = false := by simp [hz0]
            go_wp2
            go_roundw
            case measure => simp [intOf]; omega
            case rel => exact ⟨j + 1, ps2, by omega, by go_num, HOK5.out.more (by omega)⟩
        · have hji : ¬ ((j : Int) + 1 < m) := by omega
          clear s2 hok hxm hp hn2 HOK
          go_wp2
          exact ⟨⟨k + 1, ps2, by omega, by go_num, HOK2.out.more (by omega)⟩, by simp [intOf]; omega⟩
    · obtain rfl : k = N := by omega
      have hrd := hok.rd
      have hlim : L.length ≤ 3 ∧ ∀ m ∈ L, m ≤ 36 := ⟨by rw [HLN.out]; omega, fun m hm => by have := HLm.out m hm; omega⟩
      have HLim := Lib.hid hlim
      clear hok hlim
      go_wp2_with (fail)
      go_at_call 51
      refine (odd_c r (P + 18 * k) n _ hrd (by omega) (by omega) (by omega)).mono ?_
      rintro e w5 ⟨b, rfl, hR5, hG5⟩
      obtain ⟨hc, hf, hz, hs⟩ := gcell hG5
      (try simp only [World.size_alloc, World.size_setCell, World.size_drew, size_drewN] at hs); (first | have l0 := Nat.lt_of_lt_of_le l0 (show _ ≤ w5.heap.size by omega) | have l0 : w.heap.size < w5.heap.size := (by omega) | skip); (try have l0e := Nat.le_of_lt l0); (try have l0f := Nat.le_add_right_of_le (k := 1) l0e); (try have l1 := Nat.lt_of_lt_of_le l1 (show _ ≤ w5.heap.size by omega)); (try have l1e := Nat.le_of_lt l1); (try have l1f := Nat.le_add_right_of_le (k := 1) l1e); (try have l2 := Nat.lt_of_lt_of_le l2 (show _ ≤ w5.heap.size by omega)); (try have l2e := Nat.le_of_lt l2); (try have l2f := Nat.le_add_right_of_le (k := 1) l2e); (try have l3 := Nat.lt_of_lt_of_le l3 (show _ ≤ w5.heap.size by omega)); (try have l3e := Nat.le_of_lt l3); (try have l3f := Nat.le_add_right_of_le (k := 1) l3e)
      have HOK5 := Lib.hid (HOK.out.pick hG5 hR5)
      clear hrd hR5 hG5 hc hf hz
      cases b with
      | false =>
        go_wp2
        go_ret
        exact HOK5.out.fin (by omega) HLim.out
      | true =>
        by_cases hk0 : k = 0
        · have hkz : decide ((k : Int) > 0) = false := by simp [hk0]
          have hkz2 : ¬ ((0 : Int) < (k : Int)) := by omega
          have hkz3 : ¬ (0 < k) := by omega
          clear hk0
          go_wp2
          go_ret
          exact HOK5.out.fin (by omega) HLim.out
        have hk2 : 2 < k := by have := HN3.out; omega
        have hk4 : (2 : Int) < (k : Int) := by omega
        have hk5 : (0 : Int) < (k : Int) := by omega
        have hk6 : (1 : Int) < (k : Int) := by omega
        have hk7 : (1 : Int) ≤ (k : Int) := by omega
        clear hk0
        have hn5 := HOK5.out.len.trans HLN.out
        have s5 := HOK5.out.s
        obtain ⟨g, rfl, hgn⟩ := s5.outer (by omega)
        clear hgn s5
        have hrd := HOK5.out.rd
        go_wp2_with (fail)
        go_at_call 43
        refine (pick_c r (P + 18 * k + 1) 3 _ hrd (by omega) (by omega) (by omega)).mono ?_
        rintro e w6 ⟨z, rfl, hz3, hR6, hG6⟩
        obtain ⟨hc, hf, hz, hs⟩ := gcell hG6
        (try simp only [World.size_alloc, World.size_setCell, World.size_drew, size_drewN] at hs); (first | have l0 := Nat.lt_of_lt_of_le l0 (show _ ≤ w6.heap.size by omega) | have l0 : w.heap.size < w6.heap.size := (by omega) | skip); (try have l0e := Nat.le_of_lt l0); (try have l0f := Nat.le_add_right_of_le (k := 1) l0e); (try have l1 := Nat.lt_of_lt_of_le l1 (show _ ≤ w6.heap.size by omega)); (try have l1e := Nat.le_of_lt l1); (try have l1f := Nat.le_add_right_of_le (k := 1) l1e); (try have l2 := Nat.lt_of_lt_of_le l2 (show _ ≤ w6.heap.size by omega)); (try have l2e := Nat.le_of_lt l2); (try have l2f := Nat.le_add_right_of_le (k := 1) l2e); (try have l3 := Nat.lt_of_lt_of_le l3 (show _ ≤ w6.heap.size by omega)); (try have l3e := Nat.le_of_lt l3); (try have l3f := Nat.le_add_right_of_le (k := 1) l3e)
        have HOK6 := Lib.hid (HOK5.out.pick hG6 hR6)
        have hz3 := hz3 (by omega)
        clear hrd hR6 hG6 hc hf hz hn5
        by_cases hz0 : z = 0
        · have hzb : ((z : Int) == 0) = true := by simp [hz0]
          have hcc : ¬ (c2 - 1 = 0) := by omega
          have hcc2 : ¬ (c2 ≤ 1) := by omega
          have hcc3 : ¬ ((c2 : Int) = 1) := by omega
          have hkc : (k : Int) ≤ (c2 : Int) := by omega
          go_wp2
          go_ret
          exact HOK6.out.finT (by omega) HLim.out (by omega) HLN.out
        have hzb : ((z : Int) == 0) = false := by simp [hz0]
        by_cases hz1 : z = 1
        · have hzc : ((z : Int) == 1) = true := by simp [hz1]
          obtain ⟨m, hm⟩ : ∃ m, L[0]? = some m := ⟨L[0]'(by rw [HLN.out]; omega), List.getElem?_eq_getElem _⟩
          have hm18 := HLm.out m (List.mem_of_getElem? hm)
          obtain ⟨g2, c3, xs, hp, hxm, hmc⟩ := HOK6.out.row hm
          have hn6 := HOK6.out.len.trans HLN.out
          have hok6 := HOK6.out
          rw [← hn6] at hok6
          have hok7 := hok6.ext (show Ext w6 (w6.alloc (.cells #[.int .i64 77] 3)) by (repeat' (first | (with_reducible exact Below.refl _ _) | (with_reducible refine Below.mono (by assumption) ?_) | (with_reducible refine Below.trans ?_ (Below.mono (by assumption) ?_)) | (with_reducible refine Below.alloc ?_ ?_ _) | (with_reducible refine Below.drew ?_) | (with_reducible refine below_drewN ?_ _) | (with_reducible refine Below.setCell ?_ ?_ _) | (simp only [World.size_alloc, World.size_setCell, World.size_drew, size_drewN]; omega) | omega)))
          have hcl := hok6.s.cell hp
          simp only at hcl
          rw [hxm] at hcl
          have how := hok7.s.own _ (List.mem_of_getElem? hp)
          have HRp := Lib.hid (fun W' p' row hg hrow ho hat => hok7.rep (W' := W') (p' := p') (row := row) hp hg hrow ho hat)
          have HOa := Lib.hid (fun W' row hg hrow => hok7.out_at (W' := W') (row := row) hp hg hrow)
          have hlens : ∀ p', lens (ps1.set 0 p') = L.set 0 p'.xs.length := fun p' => by rw [← HOK6.out.ln]; unfold lens; rw [List.map_set]
          have HLs := Lib.hid hlens
          simp only [PR.cell] at how
          rw [hxm] at how
          rw [hn6] at HRp
          clear hok6 hok7 hp hn6 hm hlens
          have hxl : xs.length ≤ 1048576 := by omega
          have HXm := Lib.hid hxm
          clear hxm
          go_wp2_with (at_builtin; go_loud (refine wpList_append1_at _ rfl _ _ 49 rfl w.heap.size 3 Tryz.underlying49 info1 rfl _ xs rfl how _ 77 rfl ?_ ?_ ?_ ?_))
          · first | (simp; done) | simp [World.cell?_alloc_new]
          · exact hxl
          · have := HOK6.out.gr.size
            simp only [World.size_alloc]
            omega
          · intro v' w7 hown' hgrow hat
            obtain ⟨A9, c9, hv9, _⟩ := hown'.form
            subst hv9
            have hga := HOa.out w7 _ hgrow (.inr rfl)
            have hF := HRp.out w7 ⟨A9, c9, xs ++ [77]⟩ _ hgrow (.inr rfl) hown' (by
              rcases hat with e | e
              · exact .inl e
              · exact .inr ⟨_, e, by simp only [World.size_alloc]; omega⟩)
            try simp only at hga
            rw [HXm.out] at hga
            obtain ⟨q0, q1⟩ := hga
            have hlim2 : (lens (ps1.set 0 ⟨A9, c9, xs ++ [77]⟩)).length ≤ 3 ∧ ∀ m ∈ lens (ps1.set 0 ⟨A9, c9, xs ++ [77]⟩), m ≤ 36 := by
              rw [HLs.out]
              refine ⟨by rw [List.length_set]; exact HLim.out.1, fun m' hm' => ?_⟩
              rcases List.mem_or_eq_of_mem_set hm' with h9 | rfl
              · exact HLim.out.2 _ h9
              · simp only [List.length_append, List.length_singleton]
                rw [HXm.out]
                omega
            have hF9 := hF.fin (P' := P + 100) (by omega) hlim2
            have HF := Lib.hid (show DrawnO w r (P + 100) (.returned (.slice (some ⟨g, 0, none⟩) k c2)) (w7.setCell ⟨g, 0, none⟩ (.slice A9 (xs.length + 1) c9)) from by simpa [PR.cell] using hF9)
            clear hF9
            clear hown' hgrow hat hF hlim2 how hcl
            go_wp2
            go_ret
            exact HF.out
        have hzc : ((z : Int) == 1) = false := by
          have : ¬ ((z : Int) = 1) := by omega
          simpa using this
        obtain ⟨m, hm⟩ : ∃ m, L[1]? = some m := ⟨L[1]'(by rw [HLN.out]; omega), List.getElem?_eq_getElem _⟩
        have hm18 := HLm.out m (List.mem_of_getElem? hm)
        obtain ⟨g2, c3, xs, hp, hxm, hmc⟩ := HOK6.out.row hm
        have hn6 := HOK6.out.len.trans HLN.out
        have hok6 := HOK6.out
        rw [← hn6] at hok6
        have hcl := hok6.s.cell hp
        simp only at hcl
        rw [hxm] at hcl
        have how := hok6.s.own _ (List.mem_of_getElem? hp)
        have HRp := Lib.hid (fun W' p' row hg hrow ho hat => hok6.rep (W' := W') (p' := p') (row := row) hp hg hrow ho hat)
        have HOa := Lib.hid (fun W' row hg hrow => hok6.out_at (W' := W') (row := row) hp hg hrow)
        have hlens : ∀ p', lens (ps1.set 1 p') = L.set 1 p'.xs.length := fun p' => by rw [← HOK6.out.ln]; unfold lens; rw [List.map_set]
        have HLs := Lib.hid hlens
        have hgl := (hok6.s.out.lt g rfl).2
        have hg2l := (how.lt g2 rfl).2
        obtain ⟨A3, c4, hv3, hI3, _⟩ := Own1.form how
        simp only [PR.cell, Value.slice.injEq] at hv3
        obtain ⟨rfl, _, rfl⟩ := hv3
        have n1 := ints_add hI3
        rw [hn6] at HRp
        have hz6 := HOK6.out.gr.size
        have HXm := Lib.hid hxm
        have hxl : xs.length ≤ 18 := by omega
        have hO : Own1 (w6.alloc (.cells #[] 3)) w6.heap.size 3 (.slice (some ⟨w6.heap.size, 0, none⟩) 0 0) [] := Own1.made w6 #[] 0 rfl (Nat.le_refl _) (by omega) rfl
        clear hok6 hp hn6 hm hlens how hI3
        go_upto_region 14 with (fail)
        go_region_law (first
          | (refine step_app1n rfl (.tmp 72) (.tmp 75) rfl w6.heap.size _ rfl [] (hO.ext (by (repeat' (first | (with_reducible exact Below.refl _ _) | (with_reducible refine Below.mono (by assumption) ?_) | (with_reducible refine Below.trans ?_ (Below.mono (by assumption) ?_)) | (with_reducible refine Below.alloc ?_ ?_ _) | (with_reducible refine Below.drew ?_) | (with_reducible refine below_drewN ?_ _) | (with_reducible refine Below.setCell ?_ ?_ _) | (simp only [World.size_alloc, World.size_setCell, World.size_drew, size_drewN]; omega) | omega)))) ⟨g2, 0, none⟩ m _ xs rfl HXm.out.symm (news_ext (show Ext w6 _ from by (repeat' (first | (with_reducible exact Below.refl _ _) | (with_reducible refine Below.mono (by assumption) ?_) | (with_reducible refine Below.trans ?_ (Below.mono (by assumption) ?_)) | (with_reducible refine Below.alloc ?_ ?_ _) | (with_reducible refine Below.drew ?_) | (with_reducible refine below_drewN ?_ _) | (with_reducible refine Below.setCell ?_ ?_ _) | (simp only [World.size_alloc, World.size_setCell, World.size_drew, size_drewN]; omega) | omega))) hg2l n1) (by simp only [List.length_nil]; omega) (by simp only [World.size_alloc, World.size_drew]; omega) ?_
             intro v1 w2 hO2 hg2 hat2
             have hE2 : Ext w6 w2 := by
               refine Below.grown ?_ hg2 ?_ (fun g hg => (World.ownsRow.lt hO g hg).1)
               · (repeat' (first | (with_reducible exact Below.refl _ _) | (with_reducible refine Below.mono (by assumption) ?_) | (with_reducible refine Below.trans ?_ (Below.mono (by assumption) ?_)) | (with_reducible refine Below.alloc ?_ ?_ _) | (with_reducible refine Below.drew ?_) | (with_reducible refine below_drewN ?_ _) | (with_reducible refine Below.setCell ?_ ?_ _) | (simp only [World.size_alloc, World.size_setCell, World.size_drew, size_drewN]; omega) | omega))
               · simp only [World.size_alloc, World.size_drew]; omega
             have z2 := hE2.size
             have k2 := hE2.keep hgl hcl)
          | (refine step_app1n rfl (.tmp 76) (.tmp 79) rfl w6.heap.size v1 rfl ([] ++ xs) (hO2.ext (by (repeat' (first | (with_reducible exact Below.refl _ _) | (with_reducible refine Below.mono (by assumption) ?_) | (with_reducible refine Below.trans ?_ (Below.mono (by assumption) ?_)) | (with_reducible refine Below.alloc ?_ ?_ _) | (with_reducible refine Below.drew ?_) | (with_reducible refine below_drewN ?_ _) | (with_reducible refine Below.setCell ?_ ?_ _) | (simp only [World.size_alloc, World.size_setCell, World.size_drew, size_drewN]; omega) | omega)))) ⟨g2, 0, none⟩ m _ xs rfl HXm.out.symm (news_ext (show Ext w6 _ from by (repeat' (first | (with_reducible exact Below.refl _ _) | (with_reducible refine Below.mono (by assumption) ?_) | (with_reducible refine Below.trans ?_ (Below.mono (by assumption) ?_)) | (with_reducible refine Below.alloc ?_ ?_ _) | (with_reducible refine Below.drew ?_) | (with_reducible refine below_drewN ?_ _) | (with_reducible refine Below.setCell ?_ ?_ _) | (simp only [World.size_alloc, World.size_setCell, World.size_drew, size_drewN]; omega) | omega))) hg2l n1) (by rw [List.nil_append]; omega) (by first | exact z2 | (simp only [World.size_drew]; exact z2)) ?_
             intro v3 w3 hO3 hg3 hat3
             have hE3 : Ext w6 w3 := by
               refine Below.grown ?_ hg3 ?_ (fun g hg => (World.ownsRow.lt hO2 g hg).1)
               · (repeat' (first | (with_reducible exact Below.refl _ _) | (with_reducible refine Below.mono (by assumption) ?_) | (with_reducible refine Below.trans ?_ (Below.mono (by assumption) ?_)) | (with_reducible refine Below.alloc ?_ ?_ _) | (with_reducible refine Below.drew ?_) | (with_reducible refine below_drewN ?_ _) | (with_reducible refine Below.setCell ?_ ?_ _) | (simp only [World.size_alloc, World.size_setCell, World.size_drew, size_drewN]; omega) | omega))
               · first | exact z2 | (simp only [World.size_drew]; exact z2)
             have hq := HOa.out w3 none (grown_ext hE3 _) (.inl rfl)
             try simp only at hq
             rw [HXm.out] at hq
             obtain ⟨q0, q1⟩ := hq
             obtain ⟨A9, c9, hv9, _⟩ := hO3.form
             generalize hn9 : ([] ++ xs ++ xs).length = n9 at hv9
             subst hv9
             have hbk : ∃ b, (Value.slice A9 n9 c9).ownBlock = some b := by
               rcases hat3 with e | e
               · rcases hat2 with e2 | e2
                 · exact ⟨_, e.trans (e2.trans rfl)⟩
                 · exact ⟨_, e.trans e2⟩
               · exact ⟨_, e⟩
             have hF : DrawnO w r (P + 100) (.returned (.slice (some ⟨g, 0, none⟩) k c2)) (w3.setCell ⟨g, 1, none⟩ (.slice A9 n9 c9)) := by
               obtain ⟨b9, hb9⟩ := hbk
               have h8 := HRp.out w3 ⟨A9, c9, [] ++ xs ++ xs⟩ none (grown_ext hE3 _) (.inl rfl) (by unfold PR.cell; rw [hn9]; exact Own1.below hO3 hz6) (.inr ⟨b9, by unfold PR.cell; rw [hn9]; exact hb9, (World.ownsRow.lt hO3 b9 hb9).1⟩)
               have h9 := h8.fin (P' := P + 100) (by omega) (by
                 rw [HLs.out]
                 refine ⟨by rw [List.length_set]; exact HLim.out.1, fun m' hm' => ?_⟩
                 rcases List.mem_or_eq_of_mem_set hm' with h9 | rfl
                 · exact HLim.out.2 _ h9
                 · simp only [List.length_append, List.length_nil]
                   omega)
               simp only [PR.cell] at h9
               rw [hn9] at h9
               exact h9
             have HF := Lib.hid hF
             clear hF hbk hO3 hO2 hg2 hg3 hat2 hat3 hn9))
        all_goals go_wp2
        all_goals go_ret
        all_goals exact HF.out
end Go.Proofs.YtmbdacfgmiielaaGreatDoor
