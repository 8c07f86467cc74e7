/-
  Contracts of TopOrder, the reference's and the program's.
-/
import Derived.Test.YtgoolakphehabaaDoorMat
namespace Go.Proofs.YtgoolakphehabaaDoor
set_option linter.unusedSimpArgs false
set_option linter.unusedVariables false
set_option maxRecDepth 100000
open Go.RowKit

theorem edgesValid_iff {many : Int} {L : List T3} (h : edgesValid many L = true) : ∃ m : Nat, many = m ∧ m ≤ 6 ∧ L.length ≤ 144 ∧ ∀ e ∈ L, 0 ≤ e.a ∧ e.a < m ∧ 0 ≤ e.b ∧ e.b < m ∧ e.a ≠ e.b ∧ 1 ≤ e.c ∧ e.c ≤ 4 := by
  unfold edgesValid at h
  simp only [Bool.and_eq_true, List.all_eq_true, decide_eq_true_eq, inB_iff] at h
  obtain ⟨h1, ⟨h2, h3⟩, h4⟩ := h
  obtain ⟨m, rfl⟩ := Int.eq_ofNat_of_zero_le h2
  have hw : wrap64 ((m : Int) - 1) = (m : Int) - 1 := IntWalk.wrap64_in _ ⟨by omega, by omega⟩
  refine ⟨m, rfl, by omega, h4, fun e he => ?_⟩
  have := h1 e he
  unfold edv at this
  rw [hw] at this
  simp only [Bool.and_eq_true, inB_iff, Bool.not_eq_true', beq_eq_false_iff_ne] at this
  obtain ⟨⟨⟨a1, a2⟩, a3⟩, a4⟩ := this
  exact ⟨a1.1, by omega, a2.1, by omega, a3, a4.1, a4.2⟩

/-- the least one that may come next among those from m - t on, or -1 -/
def nx (p : Nat → Bool) (m : Nat) : Nat → Int
  | 0 => -1
  | t + 1 => if p (m - 1 - t) = true then ((m - 1 - t : Nat) : Int) else nx p m t
theorem nx_find (p : Nat → Bool) (m : Nat) : ∀ t, t ≤ m → nx p m t = match (List.range' (m - t) t).find? p with | some i => (i : Int) | none => -1 := by
  intro t
  induction t with
  | zero => intro _; simp [nx]
  | succ t ih =>
    intro ht
    have e : List.range' (m - (t + 1)) (t + 1) = (m - 1 - t) :: List.range' (m - t) t := by
      rw [List.range'_succ]
      congr 1
      · omega
      · congr 1
        omega
    unfold nx
    rw [e, List.find?_cons]
    cases hp : p (m - 1 - t) with
    | true => simp
    | false =>
      simp only [Bool.false_eq_true, if_false]
      exact ih (by omega)
theorem nx_all (p : Nat → Bool) (m : Nat) : nx p m m = match topNext p m with | some i => (i : Int) | none => -1 := by
  rw [nx_find p m m (Nat.le_refl _), Nat.sub_self]
  unfold topNext
  rw [List.range_eq_range']
def topR (m : Nat) (p : Nat → Nat → Bool) : List Int × Bool := match topT m p m with | some (out, _) => (out, true) | none => ([], false)

/-- a call that hands back new ints and a bool -/
def FreshIB (r : List Int × Bool) (w : World) (en : Ending) (w' : World) : Prop :=
  ∃ A c, en = .returned (.tuple #[.slice A r.1.length c, .bool r.2]) ∧ Ints (fun b => w.heap.size ≤ b) w' A r.1 ∧ (∀ a, A = some a → w.heap.size ≤ a.block ∧ a.block < w'.heap.size ∧ ∀ o, w'.frozen? ⟨a.block, o, none⟩ = false) ∧ Ext w w'
def lenOf : Value → Nat
  | .slice _ n _ => n
  | _ => 0

/-- n bools, those of a number's bits -/
def plA (n g : Nat) : Array Value := ((List.range n).map fun i => Value.bool (g.testBit i)).toArray
theorem plA_size (n g : Nat) : (plA n g).size = n := by simp [plA]
theorem plA_get {n g i : Nat} (h : i < n) : (plA n g)[i]? = some (.bool (g.testBit i)) := by simp [plA, h]
theorem plA_zero (n : Nat) : madeCells (Value.bool false).cells (n * 1) = plA n 0 := by
  apply Array.ext_getElem?
  intro i
  rcases Nat.lt_or_ge i n with h | h
  · rw [plA_get h]
    simp [madeCells, h, Value.cells, Nat.mod_one]
  · rw [Array.getElem?_eq_none (by simp [madeCells]; omega), Array.getElem?_eq_none (by rw [plA_size]; omega)]
theorem plA_set {n g i : Nat} (hg : g < 64) (hi : i < n) (hn : n ≤ 6) : (plA n g).setIfInBounds i (.bool true) = plA n (orN g (shlN i)) := by
  apply Array.ext_getElem?
  intro j
  rw [Array.getElem?_setIfInBounds]
  rcases Nat.lt_or_ge j n with h | h
  · rw [plA_get h, plA_get h, orN_bit hg (shlN_lt (show i < 6 by omega)), shlN_bit (show i < 64 by omega)]
    by_cases e : i = j
    · subst e
      rw [if_pos rfl, if_pos (by rw [plA_size]; exact hi)]
      simp
    · rw [if_neg e]
      simp [e]
  · have e1 : ∀ g', (plA n g')[j]? = none := fun g' => Array.getElem?_eq_none (by rw [plA_size]; omega)
    rw [e1, e1]
    split
    · rename_i e
      subst e
      omega
    · rfl
theorem Blk.grown {w w' : World} {g : Nat} {t : TypeId} {cs : Array Value} {row : Option Nat} (h : Blk w g t cs) (hg : w.grownBy w' row) (hne : some g ≠ row) : Blk w' g t cs := (hg.block g h.lt hne).trans h
theorem Off.ne {v : Value} {g : Nat} (h : Off v g (g + 1)) : some g ≠ v.ownBlock := fun e => by have := h g e.symm; omega

theorem free_new (w : World) (cs : Array Value) (T : TypeId) {lo : Nat} (h : lo ≤ w.heap.size) : ∀ a, (some ⟨w.heap.size, 0, none⟩ : Option Addr) = some a → lo ≤ a.block ∧ a.block < (w.alloc (.cells cs T)).heap.size ∧ ∀ o, (w.alloc (.cells cs T)).frozen? ⟨a.block, o, none⟩ = false := by
  intro a ha
  cases ha
  exact ⟨h, by simp, fun o => (Blk.new w T cs).frozen o⟩

/-- what TopOrder returns -/
def topV (many : Int) (L : List T3) : List Int × Bool := if edgesValid many L = true then topR many.toNat (topFreeS L) else ([], false)
theorem infoInt : (Tryd.prog.info? 3).map (fun i => (i.zero, i.size, i.bytes)) = some (some (.int .i64 0), 1, 8) := by kernel_rfl
theorem infoBool : (Tryd.prog.info? 4).map (fun i => (i.zero, i.size, i.bytes)) = some (some (.bool false), 1, 1) := by kernel_rfl
set_option maxHeartbeats 4000000 in
theorem specTopOrder_ok (many : Int) (L : List T3) (S : Nat → Prop) (A : Option Addr) (c : Nat) (w : World) (hx : Ops S w A L) (hv : edgesValid many L = true) :
    Calls Tryd.prog 13 #[.int .i64 many, .slice A L.length c] w (FreshIB (topR many.toNat (topFreeS L)) w) := by
  have CV := fun w hx => specEdgesValid_c many L S A c w hx (by obtain ⟨m, _, _, h, _⟩ := edgesValid_iff hv; omega)
  rw [hv] at CV
  obtain ⟨m, rfl, hm6, hl, hval⟩ := edgesValid_iff hv
  obtain ⟨i0, hi, hz0, hz1, hz2⟩ := info_parts infoBool
  have hmk : ∀ W, (Instr.makeSlice 53 (.int .i64 (m : Int)) (.int .i64 (m : Int))).run Tryd.prog W = .ok (.slice (some ⟨W.heap.size, 0, none⟩) m m) (W.alloc (.cells (plA m 0) 4)) := fun W => by
    have hq := run_make_rowN (P := Tryd.prog) 53 4 i0 _ Tryd.underlying53 hi hz0 .i64 .i64 m m (Nat.le_refl _) (by rw [hz2]; omega) (by omega) W
    rw [hz1, plA_zero] at hq
    exact hq
  have CV := Lib.hid CV
  have HV := Lib.hid hval
  clear hv hval
  simp only [Int.toNat_natCast]
  go_enter Tryd.func13, Tryd.ntmps13
  go_wp2_with (fail)
  go_at_call 9
  refine (CV.out _ (hx.ext (by (repeat' (first | (with_reducible exact Below.refl _ _) | (with_reducible refine Below.mono (by assumption) ?_) | (with_reducible refine Below.trans ?_ (Below.mono (by assumption) ?_)) | (with_reducible refine Below.alloc ?_ ?_ _) | (with_reducible refine Below.drew ?_) | (with_reducible refine below_drewN ?_ _) | (with_reducible refine Below.setCell ?_ ?_ _) | (simp only [World.size_alloc, World.size_setCell, World.size_drew, size_drewN]; omega) | omega))))).mono ?_
  rintro e w1 ⟨rfl, hb⟩
  obtain ⟨hc, hf, hz, hs⟩ := bcell hb
  (try simp only [World.size_alloc, World.size_setCell, World.size_drew, size_drewN] at hs); (first | have l0 := Nat.lt_of_lt_of_le l0 (show _ ≤ w1.heap.size by omega) | have l0 : w.heap.size < w1.heap.size := (by omega) | skip); (try have l0e := Nat.le_of_lt l0); (try have l0f := Nat.le_add_right_of_le (k := 1) l0e); (try have l1 := Nat.lt_of_lt_of_le l1 (show _ ≤ w1.heap.size by omega)); (try have l1e := Nat.le_of_lt l1); (try have l1f := Nat.le_add_right_of_le (k := 1) l1e); (try have l2 := Nat.lt_of_lt_of_le l2 (show _ ≤ w1.heap.size by omega)); (try have l2e := Nat.le_of_lt l2); (try have l2f := Nat.le_add_right_of_le (k := 1) l2e); (try have l3 := Nat.lt_of_lt_of_le l3 (show _ ≤ w1.heap.size by omega)); (try have l3e := Nat.le_of_lt l3); (try have l3f := Nat.le_add_right_of_le (k := 1) l3e)
  have e1 : Ext w w1 := by (repeat' (first | (with_reducible exact Below.refl _ _) | (with_reducible refine Below.mono (by assumption) ?_) | (with_reducible refine Below.trans ?_ (Below.mono (by assumption) ?_)) | (with_reducible refine Below.alloc ?_ ?_ _) | (with_reducible refine Below.drew ?_) | (with_reducible refine below_drewN ?_ _) | (with_reducible refine Below.setCell ?_ ?_ _) | (simp only [World.size_alloc, World.size_setCell, World.size_drew, size_drewN]; omega) | omega))
  have e0 : Ext (w.alloc (.cells #[] 3)) w1 := hb
  have hO := (Own1.made (base := w.heap.size) (e := 3) w #[] 0 rfl (Nat.le_refl _) (by omega) (by simp)).ext e0
  have hz01 : w.heap.size < w1.heap.size := by have := hb.size; simp only [World.size_alloc] at this; omega
  clear hc hf hz hs hb e0
  go_wp2
  have hPB : Blk (w1.alloc (.cells (plA m 0) 4)) w1.heap.size 4 (plA m 0) := Blk.new _ _ _
  have hO2 : Own1 (w1.alloc (.cells (plA m 0) 4)) w.heap.size 3 (.slice (some ⟨w.heap.size, 0, none⟩) 0 0) [] := hO.ext (by (repeat' (first | (with_reducible exact Below.refl _ _) | (with_reducible refine Below.mono (by assumption) ?_) | (with_reducible refine Below.trans ?_ (Below.mono (by assumption) ?_)) | (with_reducible refine Below.alloc ?_ ?_ _) | (with_reducible refine Below.drew ?_) | (with_reducible refine below_drewN ?_ _) | (with_reducible refine Below.setCell ?_ ?_ _) | (simp only [World.size_alloc, World.size_setCell, World.size_drew, size_drewN]; omega) | omega)))
  have hoff : Off (.slice (some ⟨w.heap.size, 0, none⟩) 0 0) w1.heap.size (w1.heap.size + 1) := fun g hg => by
    simp only [Value.ownBlock] at hg
    cases hg
    omega
  have HPB := Lib.hid hPB
  have HO := Lib.hid hO2
  clear hmk hO hPB hO2
  go_loopw [6] (fun v wr => ∃ (r : Nat) (out : List Int) (g : Nat) (B : Option Addr) (c' : Nat), r ≤ m ∧ topT m (topFreeS L) r = some (out, g) ∧ v = .slice B r c' ∧ Own1 wr w.heap.size 3 v out ∧ Blk wr w1.heap.size 4 (plA m g) ∧ Ext w wr ∧ Off v w1.heap.size (w1.heap.size + 1) ∧ w1.heap.size < wr.heap.size) (fun v _ => m - lenOf v)
  case atStart => exact ⟨0, [], 0, _, 0, Nat.zero_le _, rfl, rfl, HO.out, HPB.out, by (repeat' (first | (with_reducible exact Below.refl _ _) | (with_reducible refine Below.mono (by assumption) ?_) | (with_reducible refine Below.trans ?_ (Below.mono (by assumption) ?_)) | (with_reducible refine Below.alloc ?_ ?_ _) | (with_reducible refine Below.drew ?_) | (with_reducible refine below_drewN ?_ _) | (with_reducible refine Below.setCell ?_ ?_ _) | (simp only [World.size_alloc, World.size_setCell, World.size_drew, size_drewN]; omega) | omega)), hoff, by simp⟩
  case round =>
    obtain ⟨r, out, g, B, c', hr, htop, rfl, hown, hPl, hE, hof, hsz⟩ := hrel
    clear HPB HO hoff
    have hg64 := topT_low hm6 r out g htop
    have hol := topT_len r out g htop
    have HT := Lib.hid htop
    have HOL := Lib.hid hol
    clear htop hol
    by_cases hlt : r < m
    · obtain ⟨wo, rfl⟩ : ∃ wo : World, wo = wr := ⟨_, rfl⟩
      go_wp2
      go_loopw [8, 9] (fun v k wr => ∃ t : Nat, t ≤ m ∧ k = .int .i64 ((m : Int) - t - 1) ∧ v = .int .i64 (nx (topFreeS L g) m t) ∧ wr = wo) (fun _ k _ => (intOf k + 1).toNat)
      case atStart => exact ⟨0, Nat.zero_le _, by go_num, rfl, rfl⟩
      case round =>
        obtain ⟨t, ht, rfl, rfl, rfl⟩ := hrel
        by_cases htm : t < m
        · obtain ⟨q, hq⟩ : ∃ q : Nat, q = m - 1 - t := ⟨_, rfl⟩
          have e9 : ((m : Int) - t - 1) = (q : Int) := by omega
          have hqm : q < m := by omega
          have hnx : nx (topFreeS L g) m (t + 1) = if topFreeS L g q = true then (q : Int) else nx (topFreeS L g) m t := by rw [hq]; rfl
          have HN := Lib.hid hnx
          clear hnx hq
          have cq : wr.cell? ⟨w1.heap.size, q, none⟩ = some (.bool (g.testBit q)) := by rw [hPl.cell, plA_get hqm]
          have hqi : (q : Int) < m := by omega
          rw [e9]
          go_wp2
          generalize hgb : g.testBit q = G
          have HG := Lib.hid hgb
          clear hgb
          go_loop [10, 11] (fun f i => ∃ j : Nat, j ≤ L.length ∧ i = .int .i64 j ∧ f = .bool (!G && (L.take j).all fun e => decide (e.b ≠ q) || g.testBit e.a.toNat)) (fun _ i => L.length - (intOf i).toNat)
          case atStart => exact ⟨0, Nat.zero_le _, rfl, by simp⟩
          case round =>
            obtain ⟨j, hj, rfl, rfl⟩ := hrel
            by_cases hlt2 : j < L.length
            · obtain ⟨x0, x1, x2, b, off, hxk, rfl, _, hb0, c0, c1, c2⟩ := (hx.ext hE).at_ hlt2
              obtain ⟨v1, v2, v3, v4, _⟩ := HV.out _ (List.mem_of_getElem? hxk)
              simp only at v1 v2 v3 v4
              obtain ⟨a, rfl⟩ := Int.eq_ofNat_of_zero_le v1
              have ha : a < m := by omega
              have ca : wr.cell? ⟨w1.heap.size, a, none⟩ = some (.bool (g.testBit a)) := by rw [hPl.cell, plA_get ha]
              have hst : (!G && (L.take (j + 1)).all fun e => decide (e.b ≠ q) || g.testBit e.a.toNat) = ((!G && (L.take j).all fun e => decide (e.b ≠ q) || g.testBit e.a.toNat) && (decide (x1 ≠ (q : Int)) || g.testBit a)) := by
                rw [List.take_add_one, hxk]
                simp [Bool.and_assoc]
              have HS := Lib.hid hst
              clear hst hxk
              generalize (!G && (L.take j).all fun e => decide (e.b ≠ q) || g.testBit e.a.toNat) = F at HS ⊢
              generalize g.testBit a = ga at ca HS
              have hai : (a : Int) < m := by omega
              by_cases hxq : x1 = (q : Int)
              · have hne : (x1 != (q : Int)) = false := by simp [hxq]
                have hst2 : (F && (decide (x1 ≠ (q : Int)) || ga)) = (F && ga) := by simp [hxq]
                have HS2 := Lib.hid (HS.out.trans hst2)
                clear hst2 HS
                cases F with
                | true =>
                  go_wp2
                  exact ⟨⟨j + 1, by omega, by go_num, by rw [HS2.out]; simp⟩, by simp [intOf]; omega⟩
                | false =>
                  go_wp2
                  exact ⟨⟨j + 1, by omega, by go_num, by rw [HS2.out]; simp⟩, by simp [intOf]; omega⟩
              · have hne : (x1 != (q : Int)) = true := by simpa using hxq
                have hst2 : (F && (decide (x1 ≠ (q : Int)) || ga)) = F := by simp [hxq]
                have HS2 := Lib.hid (HS.out.trans hst2)
                clear hst2 HS hxq
                cases F with
                | true =>
                  go_wp2
                  exact ⟨⟨j + 1, by omega, by go_num, by rw [HS2.out]⟩, by simp [intOf]; omega⟩
                | false =>
                  go_wp2
                  exact ⟨⟨j + 1, by omega, by go_num, by rw [HS2.out]⟩, by simp [intOf]; omega⟩
            · obtain rfl : j = L.length := by omega
              have hfr : (!G && (L.take L.length).all fun e => decide (e.b ≠ q) || g.testBit e.a.toNat) = topFreeS L g q := by rw [List.take_length, ← HG.out]; rfl
              rw [hfr]
              clear hfr
              have hnn := HN.out
              cases hF : topFreeS L g q with
              | true =>
                rw [hF, if_pos rfl] at hnn
                have HNN := Lib.hid hnn
                clear hnn hF HN
                go_wp2
                exact ⟨⟨t + 1, by omega, by go_num, by rw [HNN.out], by first | rfl | trivial⟩, by first | (simp [intOf]; done) | (simp [intOf]; omega)⟩
              | false =>
                rw [hF, if_neg (by simp)] at hnn
                have HNN := Lib.hid hnn
                clear hnn hF HN
                go_wp2
                exact ⟨⟨t + 1, by omega, by go_num, by rw [HNN.out], by first | rfl | trivial⟩, by first | (simp [intOf]; done) | (simp [intOf]; omega)⟩
        · obtain rfl : t = m := by omega
          rw [nx_all]
          have e9 : ((t : Int) - t - 1) = -1 := by omega
          rw [e9]
          cases hn : topNext (topFreeS L g) t with
          | none =>
            have hnone : topR t (topFreeS L) = ([], false) := by
              have h1 : topT t (topFreeS L) (r + 1) = none := by
                unfold topT
                rw [HT.out]
                simp only [hn]
              unfold topR
              rw [topT_none h1 t (by omega)]
            have HN := Lib.hid hnone
            clear hn hnone
            go_wp2
            go_ret2
            rw [HN.out]
            exact ⟨_, 0, rfl, SlAt.nil, free_new _ _ _ (by omega), by (repeat' (first | (with_reducible exact Below.refl _ _) | (with_reducible refine Below.mono (by assumption) ?_) | (with_reducible refine Below.trans ?_ (Below.mono (by assumption) ?_)) | (with_reducible refine Below.alloc ?_ ?_ _) | (with_reducible refine Below.drew ?_) | (with_reducible refine below_drewN ?_ _) | (with_reducible refine Below.setCell ?_ ?_ _) | (simp only [World.size_alloc, World.size_setCell, World.size_drew, size_drewN]; omega) | omega))⟩
          | some i =>
            obtain ⟨him, _⟩ := topNext_some hn
            have hnext : topT t (topFreeS L) (r + 1) = some (out ++ [(i : Int)], orN g (shlN i)) := by
              conv => lhs; unfold topT
              rw [HT.out]
              simp only [hn]
            have HN := Lib.hid hnext
            clear hn hnext
            have ci : wr.cell? ⟨w1.heap.size, i, none⟩ = some (.bool (g.testBit i)) := by rw [hPl.cell, plA_get him]
            have hfz := hPl.frozen
            have hii : (i : Int) < t := by omega
            have hset : Blk (wr.setCell ⟨w1.heap.size, i, none⟩ (.bool true)) w1.heap.size 4 (plA t (orN g (shlN i))) := by
              have h := hPl.set_ i (.bool true)
              rwa [plA_set hg64 him hm6] at h
            have hown2 : Own1 (wr.setCell ⟨w1.heap.size, i, none⟩ (.bool true)) w.heap.size 3 (.slice B r c') out := hown.grown (grown_set _) hof.ne
            have hE2 : Ext w (wr.setCell ⟨w1.heap.size, i, none⟩ (.bool true)) := by (repeat' (first | (with_reducible exact Below.refl _ _) | (with_reducible refine Below.mono (by assumption) ?_) | (with_reducible refine Below.trans ?_ (Below.mono (by assumption) ?_)) | (with_reducible refine Below.alloc ?_ ?_ _) | (with_reducible refine Below.drew ?_) | (with_reducible refine below_drewN ?_ _) | (with_reducible refine Below.setCell ?_ ?_ _) | (simp only [World.size_alloc, World.size_setCell, World.size_drew, size_drewN]; omega) | omega))
            have HB := Lib.hid hset
            have HO2 := Lib.hid hown2
            have hol := HOL.out
            clear hset hown2
            go_wp2_with (at_builtin; refine wpList_append1_at _ rfl _ _ 31 rfl w.heap.size 3 Tryd.underlying31 infoInt rfl _ out rfl (HO2.out.ext (by (repeat' (first | (with_reducible exact Below.refl _ _) | (with_reducible refine Below.mono (by assumption) ?_) | (with_reducible refine Below.trans ?_ (Below.mono (by assumption) ?_)) | (with_reducible refine Below.alloc ?_ ?_ _) | (with_reducible refine Below.drew ?_) | (with_reducible refine below_drewN ?_ _) | (with_reducible refine Below.setCell ?_ ?_ _) | (simp only [World.size_alloc, World.size_setCell, World.size_drew, size_drewN]; omega) | omega)))) _ i rfl ?_ ?_ ?_ ?_)
            all_goals try (first | omega | (simp only [World.size_alloc, World.size_setCell]; omega) | (go_simp; done))
            intro v' w' hown' hgrow hat
            obtain ⟨B', c2, hv', _⟩ := hown'.form
            have hE3 : Ext w w' := Below.grown (w := (wr.setCell ⟨w1.heap.size, i, none⟩ (.bool true)).alloc (.cells #[.int .i64 i] 3)) (by (repeat' (first | (with_reducible exact Below.refl _ _) | (with_reducible refine Below.mono (by assumption) ?_) | (with_reducible refine Below.trans ?_ (Below.mono (by assumption) ?_)) | (with_reducible refine Below.alloc ?_ ?_ _) | (with_reducible refine Below.drew ?_) | (with_reducible refine below_drewN ?_ _) | (with_reducible refine Below.setCell ?_ ?_ _) | (simp only [World.size_alloc, World.size_setCell, World.size_drew, size_drewN]; omega) | omega))) hgrow (by simp only [World.size_alloc, World.size_setCell]; omega) (fun g hg => own1_block hown g hg)
            have hPl2 := Blk.grown (HB.out.alloc (.cells #[.int .i64 i] 3)) hgrow hof.ne
            have hof2 := hof.step hat (by first | omega | (simp only [World.size_alloc, World.size_setCell]; omega))
            have hz2 := hgrow.size
            simp only [World.size_alloc, World.size_setCell] at hz2
            clear hgrow hat hown
            rw [List.length_append, hol, List.length_singleton] at hv'
            subst hv'
            go_wp2
            go_roundw
            case measure => simp [lenOf]; omega
            case rel => exact ⟨r + 1, _, _, B', c2, by omega, HN.out, rfl, hown', hPl2, hE3, hof2, by omega⟩
    · obtain rfl : r = m := by omega
      have hsome : topR r (topFreeS L) = (out, true) := by
        unfold topR
        rw [HT.out]
      have HN := Lib.hid hsome
      have hol := HOL.out
      obtain ⟨B', c2, he, hA, hf⟩ := hown.form
      rw [hol] at he
      cases he
      have HA := Lib.hid hA
      have HF := Lib.hid hf
      clear hsome hA hf
      go_wp2
      go_ret2
      rw [HN.out]
      exact ⟨_, _, by rw [hol]; rfl, HA.out, HF.out, hE⟩

set_option maxHeartbeats 1000000 in
theorem specTopOrder_c (many : Int) (L : List T3) (S : Nat → Prop) (A : Option Addr) (c : Nat) (w : World) (hx : Ops S w A L) (hn : L.length ≤ 1048576) :
    Calls Tryd.prog 13 #[.int .i64 many, .slice A L.length c] w (FreshIB (topV many L) w) := by
  unfold topV
  cases hv : edgesValid many L with
  | true => rw [if_pos rfl]; exact specTopOrder_ok many L S A c w hx hv
  | false =>
    rw [if_neg (by simp)]
    have CV := fun w hx => specEdgesValid_c many L S A c w hx hn
    rw [hv] at CV
    have CV := Lib.hid CV
    clear hv
    go_enter Tryd.func13, Tryd.ntmps13
    go_wp2_with (fail)
    go_at_call 9
    refine (CV.out _ (hx.ext (by (repeat' (first | (with_reducible exact Below.refl _ _) | (with_reducible refine Below.mono (by assumption) ?_) | (with_reducible refine Below.trans ?_ (Below.mono (by assumption) ?_)) | (with_reducible refine Below.alloc ?_ ?_ _) | (with_reducible refine Below.drew ?_) | (with_reducible refine below_drewN ?_ _) | (with_reducible refine Below.setCell ?_ ?_ _) | (simp only [World.size_alloc, World.size_setCell, World.size_drew, size_drewN]; omega) | omega))))).mono ?_
    rintro e w1 ⟨rfl, hb⟩
    obtain ⟨hc, hf, hz, hs⟩ := bcell hb
    (try simp only [World.size_alloc, World.size_setCell, World.size_drew, size_drewN] at hs); (first | have l0 := Nat.lt_of_lt_of_le l0 (show _ ≤ w1.heap.size by omega) | have l0 : w.heap.size < w1.heap.size := (by omega) | skip); (try have l0e := Nat.le_of_lt l0); (try have l0f := Nat.le_add_right_of_le (k := 1) l0e); (try have l1 := Nat.lt_of_lt_of_le l1 (show _ ≤ w1.heap.size by omega)); (try have l1e := Nat.le_of_lt l1); (try have l1f := Nat.le_add_right_of_le (k := 1) l1e); (try have l2 := Nat.lt_of_lt_of_le l2 (show _ ≤ w1.heap.size by omega)); (try have l2e := Nat.le_of_lt l2); (try have l2f := Nat.le_add_right_of_le (k := 1) l2e); (try have l3 := Nat.lt_of_lt_of_le l3 (show _ ≤ w1.heap.size by omega)); (try have l3e := Nat.le_of_lt l3); (try have l3f := Nat.le_add_right_of_le (k := 1) l3e)
    have e1 : Ext w w1 := by (repeat' (first | (with_reducible exact Below.refl _ _) | (with_reducible refine Below.mono (by assumption) ?_) | (with_reducible refine Below.trans ?_ (Below.mono (by assumption) ?_)) | (with_reducible refine Below.alloc ?_ ?_ _) | (with_reducible refine Below.drew ?_) | (with_reducible refine below_drewN ?_ _) | (with_reducible refine Below.setCell ?_ ?_ _) | (simp only [World.size_alloc, World.size_setCell, World.size_drew, size_drewN]; omega) | omega))
    have hf0 := Free.ext (free_new w #[] 3 (Nat.le_refl _)) hb
    have HF := Lib.hid hf0
    clear hf0 hc hf hz hs hb
    go_wp2
    go_ret2
    exact ⟨_, 0, rfl, SlAt.nil, HF.out, e1⟩

theorem topT_congr {m : Nat} {p q : Nat → Nat → Bool} (h : ∀ g i, p g i = q g i) : ∀ r, topT m p r = topT m q r := by
  have : p = q := by funext g i; exact h g i
  rw [this]
  intro r
  rfl
theorem topV_impl {many : Int} {L : List T3} (hv : edgesValid many L = true) : topV many L = topR many.toNat (topFree many.toNat (rowsOf [1, 2, 3, 4] L)) := by
  unfold topV
  rw [if_pos hv]
  obtain ⟨m, rfl, hm6, _, hval⟩ := edgesValid_iff hv
  unfold topR
  rw [topT_congr (q := topFree (m : Int).toNat (rowsOf [1, 2, 3, 4] L)) (fun g i => topFree_eq (fun e he => by have := hval e he; unfold ed6; omega) (fun e he => by have := hval e he; simp only [Int.toNat_natCast]; omega) (fun e he => by
    obtain ⟨_, _, _, _, _, h1, h2⟩ := hval e he
    have : e.c = 1 ∨ e.c = 2 ∨ e.c = 3 ∨ e.c = 4 := by omega
    simpa using this) (by simp only [Int.toNat_natCast]; exact hm6) g i)]

set_option maxHeartbeats 4000000 in
theorem implTopOrder_ok (many : Int) (L : List T3) (S : Nat → Prop) (A : Option Addr) (c : Nat) (w : World) (hx : Ops S w A L) (hn : L.length ≤ 1048576) (hv : edgesValid many L = true) :
    Calls Tryd.prog 12 #[.int .i64 many, .slice A L.length c] w (FreshIB (topR many.toNat (topFree many.toNat (rowsOf [1, 2, 3, 4] L))) w) := by
  have CV := fun w hx => implEdgesValid_c many L S A c w hx hn
  rw [hv] at CV
  obtain ⟨m, rfl, hm6, hl, hval⟩ := edgesValid_iff hv
  have hed : ∀ e ∈ L, ed6 e := fun e he => by have := hval e he; unfold ed6; omega
  have CA := fun w hx => allOf_c L S A c w hx hed hn
  have hlow := rowsOf_low [1, 2, 3, 4] L hed
  generalize rowsOf [1, 2, 3, 4] L = F at CA hlow
  simp only [Int.toNat_natCast]
  obtain ⟨i0, hi, hz0, hz1, hz2⟩ := info_parts infoInt
  have hmk : ∀ W, (Instr.makeSlice 31 (.int .i64 0) (.int .i64 (m : Int))).run Tryd.prog W = .ok (.slice (some ⟨W.heap.size, 0, none⟩) 0 m) (W.alloc (.cells (madeCells (Value.int .i64 0).cells (m * 1)) 3)) := fun W => by
    have hq := run_make_rowN (P := Tryd.prog) 31 3 i0 _ Tryd.underlying31 hi hz0 .i64 .i64 0 m (Nat.zero_le _) (by rw [hz2]; omega) (by omega) W
    rw [hz1] at hq
    exact hq
  have CV := Lib.hid CV
  have CA := Lib.hid CA
  have HL := Lib.hid hlow
  clear hv hval hed hlow
  go_enter Tryd.func12, Tryd.ntmps12
  go_wp2_with (fail)
  go_at_call 8
  refine (CV.out _ (hx.ext (by (repeat' (first | (with_reducible exact Below.refl _ _) | (with_reducible refine Below.mono (by assumption) ?_) | (with_reducible refine Below.trans ?_ (Below.mono (by assumption) ?_)) | (with_reducible refine Below.alloc ?_ ?_ _) | (with_reducible refine Below.drew ?_) | (with_reducible refine below_drewN ?_ _) | (with_reducible refine Below.setCell ?_ ?_ _) | (simp only [World.size_alloc, World.size_setCell, World.size_drew, size_drewN]; omega) | omega))))).mono ?_
  rintro e w1 ⟨rfl, hb⟩
  obtain ⟨hc, hf, hz, hs⟩ := bcell hb
  (try simp only [World.size_alloc, World.size_setCell, World.size_drew, size_drewN] at hs); (first | have l0 := Nat.lt_of_lt_of_le l0 (show _ ≤ w1.heap.size by omega) | have l0 : w.heap.size < w1.heap.size := (by omega) | skip); (try have l0e := Nat.le_of_lt l0); (try have l0f := Nat.le_add_right_of_le (k := 1) l0e); (try have l1 := Nat.lt_of_lt_of_le l1 (show _ ≤ w1.heap.size by omega)); (try have l1e := Nat.le_of_lt l1); (try have l1f := Nat.le_add_right_of_le (k := 1) l1e); (try have l2 := Nat.lt_of_lt_of_le l2 (show _ ≤ w1.heap.size by omega)); (try have l2e := Nat.le_of_lt l2); (try have l2f := Nat.le_add_right_of_le (k := 1) l2e); (try have l3 := Nat.lt_of_lt_of_le l3 (show _ ≤ w1.heap.size by omega)); (try have l3e := Nat.le_of_lt l3); (try have l3f := Nat.le_add_right_of_le (k := 1) l3e)
  have e1 : Ext w w1 := by (repeat' (first | (with_reducible exact Below.refl _ _) | (with_reducible refine Below.mono (by assumption) ?_) | (with_reducible refine Below.trans ?_ (Below.mono (by assumption) ?_)) | (with_reducible refine Below.alloc ?_ ?_ _) | (with_reducible refine Below.drew ?_) | (with_reducible refine below_drewN ?_ _) | (with_reducible refine Below.setCell ?_ ?_ _) | (simp only [World.size_alloc, World.size_setCell, World.size_drew, size_drewN]; omega) | omega))
  clear hc hf hz hs hb
  go_wp2_with (fail)
  refine (CA.out _ (hx.ext e1)).mono ?_
  rintro e w2 ⟨rfl, hb⟩
  have e2 : Ext w w2 := e1.tr hb
  clear hb
  go_wp2
  have z2 := e2.size
  have hM0 : Blk ((w2.alloc (.cells (matA F) 50)).alloc (.cells (madeCells #[Value.int .i64 0] m) 3)) w2.heap.size 50 (matA F) := (Blk.new w2 50 (matA F)).alloc _
  have hO0 : Own1 ((w2.alloc (.cells (matA F) 50)).alloc (.cells (madeCells #[Value.int .i64 0] m) 3)) (w2.heap.size + 1) 3 (.slice (some ⟨w2.heap.size + 1, 0, none⟩) 0 m) [] :=
    Own1.made (w2.alloc (.cells (matA F) 50)) _ m (by simp) (by simp) (by omega) (by simp [madeCells])
  have HM := Lib.hid hM0
  have HO := Lib.hid hO0
  clear hmk hM0 hO0
  go_loopw [7, 8, 22] (fun v gv i wr => ∃ (r : Nat) (out : List Int) (g : Nat), r ≤ m ∧ i = .int .i64 r ∧ topT m (topFree m F) r = some (out, g) ∧ gv = .int .u64 ((g : Nat) : Int) ∧ Own1 wr (w2.heap.size + 1) 3 v out ∧ Blk wr w2.heap.size 50 (matA F) ∧ Ext w wr) (fun _ _ i _ => m - (intOf i).toNat)
  case atStart => exact ⟨0, [], 0, Nat.zero_le _, rfl, rfl, rfl, HO.out, HM.out, by (repeat' (first | (with_reducible exact Below.refl _ _) | (with_reducible refine Below.mono (by assumption) ?_) | (with_reducible refine Below.trans ?_ (Below.mono (by assumption) ?_)) | (with_reducible refine Below.alloc ?_ ?_ _) | (with_reducible refine Below.drew ?_) | (with_reducible refine below_drewN ?_ _) | (with_reducible refine Below.setCell ?_ ?_ _) | (simp only [World.size_alloc, World.size_setCell, World.size_drew, size_drewN]; omega) | omega))⟩
  case round =>
    obtain ⟨r, out, g, hr, rfl, htop, rfl, hown, hM, hE⟩ := hrel
    clear HM HO
    have hg64 := topT_low hm6 r out g htop
    have hol := topT_len r out g htop
    have HT := Lib.hid htop
    have HOL := Lib.hid hol
    have hmz := hM.lt
    clear htop hol
    by_cases hlt : r < m
    · obtain ⟨wo, rfl⟩ : ∃ wo : World, wo = wr := ⟨_, rfl⟩
      have HOW := Lib.hid hown
      have HMM := Lib.hid hM
      clear hown hM
      go_wp2
      go_loopw [9, 10] (fun v k wr => ∃ t : Nat, t ≤ m ∧ k = .int .i64 ((m : Int) - t - 1) ∧ v = .int .i64 (nx (topFree m F g) m t) ∧ Ext wo wr) (fun _ k _ => (intOf k + 1).toNat)
      case atStart => exact ⟨0, Nat.zero_le _, by go_num, rfl, Below.refl _ _⟩
      case round =>
        obtain ⟨t, ht, rfl, rfl, hE2⟩ := hrel
        by_cases htm : t < m
        · obtain ⟨q, hq⟩ : ∃ q : Nat, q = m - 1 - t := ⟨_, rfl⟩
          have e9 : ((m : Int) - t - 1) = (q : Int) := by omega
          have hqm : q < m := by omega
          have hnx : nx (topFree m F g) m (t + 1) = if topFree m F g q = true then (q : Int) else nx (topFree m F g) m t := by rw [hq]; rfl
          have HN := Lib.hid hnx
          clear hnx hq
          have hbz := bits_zero (r := g) (b := q) hg64 (by omega)
          generalize hgb : g.testBit q = G at hbz
          have HG := Lib.hid hgb
          clear hgb
          rw [e9]
          go_wp2
          clear hbz
          go_loopw [11, 36] (fun f i wr => ∃ j : Nat, j ≤ m ∧ i = .int .i64 j ∧ f = .bool (!G && (List.range j).all fun k => g.testBit k || !(F k).testBit q) ∧ Ext wo wr) (fun _ i _ => m - (intOf i).toNat)
          case atStart => exact ⟨0, Nat.zero_le _, rfl, by simp, hE2⟩
          case round =>
            obtain ⟨j, hj, rfl, rfl, hE3⟩ := hrel
            by_cases hlt2 : j < m
            · have hst : (!G && (List.range (j + 1)).all fun k => g.testBit k || !(F k).testBit q) = ((!G && (List.range j).all fun k => g.testBit k || !(F k).testBit q) && (g.testBit j || !(F j).testBit q)) := by
                rw [List.range_succ]
                simp [Bool.and_assoc]
              have HS := Lib.hid hst
              clear hst
              generalize (!G && (List.range j).all fun k => g.testBit k || !(F k).testBit q) = Fv at HS ⊢
              have hbo := bits_one (r := g) (b := j) hg64 (by omega)
              have CH := fun w => has_c F j q w (by omega) (by omega) HL.out
              generalize g.testBit j = gj at hbo HS
              generalize (F j).testBit q = fj at CH HS
              have CH := Lib.hid CH
              have hM3 := HMM.out.ext hE3
              have m0 := mat_cell hM3 (i := 0) (by omega)
              have m1 := mat_cell hM3 (i := 1) (by omega)
              have m2 := mat_cell hM3 (i := 2) (by omega)
              have m3 := mat_cell hM3 (i := 3) (by omega)
              have m4 := mat_cell hM3 (i := 4) (by omega)
              have m5 := mat_cell hM3 (i := 5) (by omega)
              clear hM3
              cases Fv with
              | false =>
                go_wp2
                exact ⟨⟨j + 1, by omega, by go_num, by rw [HS.out]; simp, hE3⟩, by simp [intOf]; omega⟩
              | true =>
                cases gj with
                | true =>
                  go_wp2
                  exact ⟨⟨j + 1, by omega, by go_num, by rw [HS.out]; simp, hE3⟩, by simp [intOf]; omega⟩
                | false =>
                  go_wp2_with (fail)
                  refine (CH.out _).mono ?_
                  rintro e w4 ⟨rfl, hb4⟩
                  have hE4 := hE3.tr hb4
                  clear m0 m1 m2 m3 m4 m5 hb4
                  go_wp2
                  exact ⟨⟨j + 1, by omega, by go_num, by rw [HS.out]; simp, hE4⟩, by simp [intOf]; omega⟩
            · obtain rfl : j = m := by omega
              have hfr : (!G && (List.range j).all fun k => g.testBit k || !(F k).testBit q) = topFree j F g q := by rw [← HG.out]; rfl
              rw [hfr]
              clear hfr
              have hnn := HN.out
              cases hF : topFree j F g q with
              | true =>
                rw [hF, if_pos rfl] at hnn
                have HNN := Lib.hid hnn
                clear hnn hF HN
                go_wp2
                exact ⟨⟨t + 1, by omega, by go_num, by rw [HNN.out], hE3⟩, by first | (simp [intOf]; done) | (simp [intOf]; omega)⟩
              | false =>
                rw [hF, if_neg (by simp)] at hnn
                have HNN := Lib.hid hnn
                clear hnn hF HN
                go_wp2
                exact ⟨⟨t + 1, by omega, by go_num, by rw [HNN.out], hE3⟩, by first | (simp [intOf]; done) | (simp [intOf]; omega)⟩
        · obtain rfl : t = m := by omega
          rw [nx_all]
          have e9 : ((t : Int) - t - 1) = -1 := by omega
          rw [e9]
          have hE20 := hE.tr hE2
          have hown2 := HOW.out.ext hE2
          have hM2 := HMM.out.ext hE2
          cases hn : topNext (topFree t F g) t with
          | none =>
            have hnone : topR t (topFree t F) = ([], false) := by
              have h1 : topT t (topFree t F) (r + 1) = none := by
                unfold topT
                rw [HT.out]
                simp only [hn]
              unfold topR
              rw [topT_none h1 t (by omega)]
            have HN := Lib.hid hnone
            clear hn hnone hown2 hM2
            go_wp2
            go_ret2
            rw [HN.out]
            exact ⟨none, 0, rfl, SlAt.nil, (fun a ha => by cases ha), hE20⟩
          | some i =>
            obtain ⟨him, _⟩ := topNext_some hn
            have hnext : topT t (topFree t F) (r + 1) = some (out ++ [(i : Int)], orN g (shlN i)) := by
              conv => lhs; unfold topT
              rw [HT.out]
              simp only [hn]
            have HN := Lib.hid hnext
            have hsh := shl_wrap (b := i) (by omega)
            have hor := bits_orN hg64 (shlN_lt (show i < 6 by omega))
            have hol := HOL.out
            have hz2 := hE2.size
            have HM2 := Lib.hid hM2
            have HO2 := Lib.hid hown2
            clear hn hnext hown2 hM2
            go_wp2_with (at_builtin; refine wpList_append1_at _ rfl _ _ 31 rfl (w2.heap.size + 1) 3 Tryd.underlying31 infoInt rfl _ out rfl (HO2.out.ext (by (repeat' (first | (with_reducible exact Below.refl _ _) | (with_reducible refine Below.mono (by assumption) ?_) | (with_reducible refine Below.trans ?_ (Below.mono (by assumption) ?_)) | (with_reducible refine Below.alloc ?_ ?_ _) | (with_reducible refine Below.drew ?_) | (with_reducible refine below_drewN ?_ _) | (with_reducible refine Below.setCell ?_ ?_ _) | (simp only [World.size_alloc, World.size_setCell, World.size_drew, size_drewN]; omega) | omega)))) _ i rfl ?_ ?_ ?_ ?_)
            all_goals try (first | omega | (simp only [World.size_alloc, World.size_setCell]; omega) | (go_simp; done))
            intro v' w' hown' hgrow hat
            have hE5 : Ext w w' := Below.grown (w := wr.alloc (.cells #[.int .i64 i] 3)) (by (repeat' (first | (with_reducible exact Below.refl _ _) | (with_reducible refine Below.mono (by assumption) ?_) | (with_reducible refine Below.trans ?_ (Below.mono (by assumption) ?_)) | (with_reducible refine Below.alloc ?_ ?_ _) | (with_reducible refine Below.drew ?_) | (with_reducible refine below_drewN ?_ _) | (with_reducible refine Below.setCell ?_ ?_ _) | (simp only [World.size_alloc, World.size_setCell, World.size_drew, size_drewN]; omega) | omega))) hgrow (by simp only [World.size_alloc]; omega) (fun g hg => by have := own1_block HO2.out g hg; omega)
            have hM5 := Blk.grown (HM2.out.alloc (.cells #[.int .i64 i] 3)) hgrow (fun he => by have := own1_block HO2.out _ he.symm; omega)
            have HM5 := Lib.hid hM5
            have HO5 := Lib.hid hown'
            clear hgrow hat hM5 hown'
            go_wp2
            go_roundw
            case measure => simp [intOf]; omega
            case rel => exact ⟨r + 1, _, _, by omega, by go_num, HN.out, rfl, HO5.out, HM5.out, hE5⟩
    · obtain rfl : r = m := by omega
      have hsome : topR r (topFree r F) = (out, true) := by
        unfold topR
        rw [HT.out]
      have HN := Lib.hid hsome
      obtain ⟨B', c2, he, hA, hf⟩ := (hown.below (base' := w.heap.size) (by omega)).form
      have HA := Lib.hid hA
      have HF := Lib.hid hf
      have HE := Lib.hid he
      clear hsome hA hf hown hM he
      go_wp2
      go_ret2
      rw [HN.out]
      exact ⟨_, _, by rw [show u7 = _ from HE.out]; rfl, HA.out, HF.out, hE⟩
set_option maxHeartbeats 1000000 in
theorem implTopOrder_c (many : Int) (L : List T3) (S : Nat → Prop) (A : Option Addr) (c : Nat) (w : World) (hx : Ops S w A L) (hn : L.length ≤ 1048576) :
    Calls Tryd.prog 12 #[.int .i64 many, .slice A L.length c] w (FreshIB (topV many L) w) := by
  cases hv : edgesValid many L with
  | true => rw [topV_impl hv]; exact implTopOrder_ok many L S A c w hx hn hv
  | false =>
    have hV : topV many L = ([], false) := by unfold topV; rw [hv]; rfl
    rw [hV]
    have CV := fun w hx => implEdgesValid_c many L S A c w hx hn
    rw [hv] at CV
    have CV := Lib.hid CV
    clear hv hV
    go_enter Tryd.func12, Tryd.ntmps12
    go_wp2_with (fail)
    go_at_call 8
    refine (CV.out _ (hx.ext (by (repeat' (first | (with_reducible exact Below.refl _ _) | (with_reducible refine Below.mono (by assumption) ?_) | (with_reducible refine Below.trans ?_ (Below.mono (by assumption) ?_)) | (with_reducible refine Below.alloc ?_ ?_ _) | (with_reducible refine Below.drew ?_) | (with_reducible refine below_drewN ?_ _) | (with_reducible refine Below.setCell ?_ ?_ _) | (simp only [World.size_alloc, World.size_setCell, World.size_drew, size_drewN]; omega) | omega))))).mono ?_
    rintro e w1 ⟨rfl, hb⟩
    obtain ⟨hc, hf, hz, hs⟩ := bcell hb
    (try simp only [World.size_alloc, World.size_setCell, World.size_drew, size_drewN] at hs); (first | have l0 := Nat.lt_of_lt_of_le l0 (show _ ≤ w1.heap.size by omega) | have l0 : w.heap.size < w1.heap.size := (by omega) | skip); (try have l0e := Nat.le_of_lt l0); (try have l0f := Nat.le_add_right_of_le (k := 1) l0e); (try have l1 := Nat.lt_of_lt_of_le l1 (show _ ≤ w1.heap.size by omega)); (try have l1e := Nat.le_of_lt l1); (try have l1f := Nat.le_add_right_of_le (k := 1) l1e); (try have l2 := Nat.lt_of_lt_of_le l2 (show _ ≤ w1.heap.size by omega)); (try have l2e := Nat.le_of_lt l2); (try have l2f := Nat.le_add_right_of_le (k := 1) l2e); (try have l3 := Nat.lt_of_lt_of_le l3 (show _ ≤ w1.heap.size by omega)); (try have l3e := Nat.le_of_lt l3); (try have l3f := Nat.le_add_right_of_le (k := 1) l3e)
    have e1 : Ext w w1 := by (repeat' (first | (with_reducible exact Below.refl _ _) | (with_reducible refine Below.mono (by assumption) ?_) | (with_reducible refine Below.trans ?_ (Below.mono (by assumption) ?_)) | (with_reducible refine Below.alloc ?_ ?_ _) | (with_reducible refine Below.drew ?_) | (with_reducible refine below_drewN ?_ _) | (with_reducible refine Below.setCell ?_ ?_ _) | (simp only [World.size_alloc, World.size_setCell, World.size_drew, size_drewN]; omega) | omega))
    clear hc hf hz hs hb
    go_wp2
    go_ret2
    exact ⟨none, 0, rfl, SlAt.nil, (fun a ha => by cases ha), e1⟩
end Go.Proofs.YtgoolakphehabaaDoor
