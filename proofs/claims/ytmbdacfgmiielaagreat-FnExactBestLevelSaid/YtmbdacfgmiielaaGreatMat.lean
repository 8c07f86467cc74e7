/-
  Contracts of the program's matrices: one bit, the rows of edges, the closure.
-/
import Derived.Test.YtmbdacfgmiielaaGreatGInts5
import Derived.Test.YtmbdacfgmiielaaGreatGEq2
import Derived.Test.YtmbdacfgmiielaaGreatGraph
import Derived.Laws.Bits64b
namespace Go.Proofs.YtmbdacfgmiielaaGreat
set_option linter.unusedSimpArgs false
set_option linter.unusedVariables false
set_option maxRecDepth 100000
open Go.RowKit

theorem bits_one {r b : Nat} (hr : r < 64) (hb : b < 64) : (bits .and .u64 ((r : Int) / 2 ^ b) 1 == 1) = r.testBit b := by
  have e1 : ((r : Int) / 2 ^ b) = ((r / 2 ^ b : Nat) : Int) := by simp
  have hle : r / 2 ^ b ≤ r := Nat.div_le_self _ _
  have e2 := bits_and_u64_nat (r / 2 ^ b) 1 (by omega) (by omega)
  rw [e1]
  rw [show ((1 : Nat) : Int) = 1 from rfl] at e2
  rw [e2, Nat.and_one_is_mod, Nat.testBit_eq_decide_div_mod_eq]
  rcases Nat.mod_two_eq_zero_or_one (r / 2 ^ b) with h | h <;> rw [h] <;> rfl
theorem shl_wrap {b : Nat} (hb : b < 6) : IntKind.u64.wrap (2 ^ b) = ((shlN b : Nat) : Int) := by
  have h1 := shlN_lt hb
  have e : ((2 : Int) ^ b) = ((shlN b : Nat) : Int) := by
    unfold shlN
    rw [if_pos (by omega)]
    simp
  rw [e]
  exact IntWalk.u64_in _ (by omega)
theorem bits_orN {a b : Nat} (ha : a < 64) (hb : b < 64) : bits .or .u64 (a : Int) (b : Int) = ((orN a b : Nat) : Int) := by
  have e := bits_or_u64_nat a b (by omega) (by omega)
  rw [e]
  unfold orN
  rw [Nat.mod_eq_of_lt (by omega), Nat.mod_eq_of_lt (by omega)]

def matA (f : Nat → Nat) : Array Value := #[.int .u64 ((f 0 : Nat) : Int), .int .u64 ((f 1 : Nat) : Int), .int .u64 ((f 2 : Nat) : Int), .int .u64 ((f 3 : Nat) : Int), .int .u64 ((f 4 : Nat) : Int), .int .u64 ((f 5 : Nat) : Int)]
theorem matA_size (f : Nat → Nat) : (matA f).size = 6 := rfl
theorem matA_get (f : Nat → Nat) {i : Nat} (hi : i < 6) : (matA f)[i]? = some (.int .u64 ((f i : Nat) : Int)) := by
  match i, hi with
  | 0, _ => rfl
  | 1, _ => rfl
  | 2, _ => rfl
  | 3, _ => rfl
  | 4, _ => rfl
  | 5, _ => rfl
theorem matA_set (f : Nat → Nat) {i : Nat} (hi : i < 6) (r : Nat) : (matA f).setIfInBounds i (.int .u64 (r : Int)) = matA (upd f i r) := by
  apply Array.ext_getElem?
  intro j
  rw [Array.getElem?_setIfInBounds]
  by_cases hj : j < 6
  · rw [matA_get _ hj]
    by_cases e : i = j
    · subst e
      rw [if_pos rfl, if_pos (by rw [matA_size]; exact hi), matA_get _ hi, upd_same]
    · rw [if_neg e, matA_get _ hj, upd_other _ _ (fun h => e h.symm)]
  · have h1 : ∀ g, (matA g)[j]? = none := fun g => Array.getElem?_eq_none (by rw [matA_size]; omega)
    rw [h1, h1]
    split
    · rename_i e
      subst e
      omega
    · rfl
theorem mat_cell {w : World} {g : Nat} {T : TypeId} {f : Nat → Nat} (h : Blk w g T (matA f)) {i : Nat} (hi : i < 6) : w.cell? ⟨g, i, none⟩ = some (.int .u64 ((f i : Nat) : Int)) := by
  rw [h.cell, matA_get f hi]
theorem box_mat (w : World) (T : TypeId) (f : Nat → Nat) : Blk (w.alloc (.cells #[.int .u64 ((f 0 : Nat) : Int), .int .u64 ((f 1 : Nat) : Int), .int .u64 ((f 2 : Nat) : Int), .int .u64 ((f 3 : Nat) : Int), .int .u64 ((f 4 : Nat) : Int), .int .u64 ((f 5 : Nat) : Int)] T)) w.heap.size T (matA f) := Blk.new _ _ _

set_option maxHeartbeats 1000000 in
theorem has_c (f : Nat → Nat) (a b : Nat) (w : World) (ha : a < 6) (hb : b < 6) (hf : Low f) :
    Calls Tryz.prog 88 #[.agg #[.int .u64 ((f 0 : Nat) : Int), .int .u64 ((f 1 : Nat) : Int), .int .u64 ((f 2 : Nat) : Int), .int .u64 ((f 3 : Nat) : Int), .int .u64 ((f 4 : Nat) : Int), .int .u64 ((f 5 : Nat) : Int)], .int .i64 a, .int .i64 b] w fun e w' => e = .returned (.bool ((f a).testBit b)) ∧ Ext w w' := by
  have hbit := bits_one (r := f a) (b := b) (hf a ha) (by omega)
  have hcell := mat_cell (box_mat w 106 f) ha
  go_enter Tryz.func88, Tryz.ntmps88
  go_wp2
  go_ret
  exact ⟨rfl, by (repeat' (first | (with_reducible exact Below.refl _ _) | (with_reducible refine Below.mono (by assumption) ?_) | (with_reducible refine Below.trans ?_ (Below.mono (by assumption) ?_)) | (with_reducible refine Below.alloc ?_ ?_ _) | (with_reducible refine Below.drew ?_) | (with_reducible refine below_drewN ?_ _) | (with_reducible refine Below.setCell ?_ ?_ _) | (simp only [World.size_alloc, World.size_setCell, World.size_drew, size_drewN]; omega) | omega))⟩

set_option maxHeartbeats 1000000 in
theorem indexInt_c (x : Int) (xs : List Int) (S : Nat → Prop) (A : Option Addr) (c : Nat) (w : World) (hx : Ints S w A xs) (hn : xs.length ≤ 1048576) :
    Calls Tryz.prog 53 #[.slice A xs.length c, .int .i64 x] w (IdxOf (fun o => decide (o = x)) xs w) := by
  go_enter Tryz.func53, Tryz.ntmps53
  go_wp2
  go_loop [8] (fun i => ∃ k : Nat, k ≤ xs.length ∧ i = .int .i64 k ∧ AllTo (fun o => !decide (o = x)) xs k) (fun i => xs.length - (intOf i).toNat)
  case atStart => exact ⟨0, Nat.zero_le _, rfl, AllTo.zero⟩
  case round =>
    obtain ⟨k, hk, rfl, hall⟩ := hrel
    have HA := Lib.hid hall
    clear hall
    by_cases hlt : k < xs.length
    · obtain ⟨x0, b', off, hxk, rfl, _, hb0, c0⟩ := hx.at_ hlt
      have HX := Lib.hid hxk
      clear hxk
      by_cases he : x0 = x
      · have e1 : (x == x0) = true := by simp [he]
        have hv : (fun o => decide (o = x)) x0 = true := by simp [he]
        have ha := any_true (p := fun o => decide (o = x)) HX.out hv
        have HV := Lib.hid ha
        clear he ha hv
        go_wp2
        go_ret
        exact ⟨_, rfl, by rw [HV.out]; simp, Below.refl _ _⟩
      · have e1 : (x == x0) = false := by simpa using fun h => he h.symm
        have hv : (fun o => !decide (o = x)) x0 = true := by simp [he]
        have HV := Lib.hid hv
        clear he hv
        go_wp2
        exact ⟨⟨k + 1, by omega, by go_num, HA.out.step HX.out HV.out⟩, by simp [intOf]; omega⟩
    · obtain rfl : k = xs.length := by omega
      have hav : xs.any (fun o => decide (o = x)) = false := by
        have := HA.out.all
        rw [List.any_eq_false]
        intro y hy
        simpa using List.all_eq_true.1 this y hy
      have HV := Lib.hid hav
      clear hav
      go_wp2
      go_ret
      exact ⟨_, rfl, by rw [HV.out]; rfl, Below.refl _ _⟩
theorem containsInt_c (x : Int) (xs : List Int) (S : Nat → Prop) (A : Option Addr) (c : Nat) (w : World) (hx : Ints S w A xs) (hn : xs.length ≤ 1048576) :
    Calls Tryz.prog 110 #[.slice A xs.length c, .int .i64 x] w fun e w' => e = .returned (.bool (decide (x ∈ xs))) ∧ Ext w w' := by
  have hal : xs.any (fun o => decide (o = x)) = decide (x ∈ xs) := by
    rw [Bool.eq_iff_iff]
    simp
  rw [← hal]
  have HL := Lib.hid hal
  clear hal
  go_enter Tryz.func110, Tryz.ntmps110
  go_wp2_with (go_at_call 53; refine (indexInt_c x xs S A c _ (hx.ext (by (repeat' (first | (with_reducible exact Below.refl _ _) | (with_reducible refine Below.mono (by assumption) ?_) | (with_reducible refine Below.trans ?_ (Below.mono (by assumption) ?_)) | (with_reducible refine Below.alloc ?_ ?_ _) | (with_reducible refine Below.drew ?_) | (with_reducible refine below_drewN ?_ _) | (with_reducible refine Below.setCell ?_ ?_ _) | (simp only [World.size_alloc, World.size_setCell, World.size_drew, size_drewN]; omega) | omega)))) hn).mono ?_; rintro e w1 ⟨r, rfl, hr, hb⟩; have HR := Lib.hid hr; clear hr)
  go_ret
  exact ⟨ret_bool HR.out, by (repeat' (first | (with_reducible exact Below.refl _ _) | (with_reducible refine Below.mono (by assumption) ?_) | (with_reducible refine Below.trans ?_ (Below.mono (by assumption) ?_)) | (with_reducible refine Below.alloc ?_ ?_ _) | (with_reducible refine Below.drew ?_) | (with_reducible refine below_drewN ?_ _) | (with_reducible refine Below.setCell ?_ ?_ _) | (simp only [World.size_alloc, World.size_setCell, World.size_drew, size_drewN]; omega) | omega))⟩

set_option maxHeartbeats 2000000 in
theorem matrixOf_c (L : List T3) (ks : List Int) (S S' : Nat → Prop) (A B : Option Addr) (c d : Nat) (w : World) (hx : Ops S w A L) (hk : Ints S' w B ks) (hL : ∀ e ∈ L, ed6 e) (hn : L.length ≤ 1048576) (hkn : ks.length ≤ 1048576) :
    Calls Tryz.prog 85 #[.slice A L.length c, .slice B ks.length d] w fun e w' => e = .returned (.agg #[.int .u64 (((rowsOf ks L) 0 : Nat) : Int), .int .u64 (((rowsOf ks L) 1 : Nat) : Int), .int .u64 (((rowsOf ks L) 2 : Nat) : Int), .int .u64 (((rowsOf ks L) 3 : Nat) : Int), .int .u64 (((rowsOf ks L) 4 : Nat) : Int), .int .u64 (((rowsOf ks L) 5 : Nat) : Int)]) ∧ Ext w w' := by
  have HL := Lib.hid hL
  clear hL
  go_enter Tryz.func85, Tryz.ntmps85
  go_wp2
  have hM0 : Blk ((w.alloc (.cells (matA fun _ => 0) 106)).alloc (.cells (matA fun _ => 0) 106)) (w.heap.size + 1) 106 (matA fun _ => 0) := by
    have h := Blk.new (w.alloc (.cells (matA fun _ => 0) 106)) 106 (matA fun _ => 0)
    simp only [World.size_alloc] at h
    exact h
  have hR0 : Blk ((w.alloc (.cells (matA fun _ => 0) 106)).alloc (.cells (matA fun _ => 0) 106)) w.heap.size 106 (matA fun _ => 0) :=
    (Blk.new w 106 (matA fun _ => 0)).alloc _
  go_loopw [10] (fun i wr => ∃ k : Nat, k ≤ L.length ∧ i = .int .i64 k ∧ Blk wr (w.heap.size + 1) 106 (matA (rowsOf ks (L.take k))) ∧ Blk wr w.heap.size 106 (matA fun _ => 0) ∧ Ext w wr) (fun i _ => L.length - (intOf i).toNat)
  case atStart => exact ⟨0, Nat.zero_le _, rfl, hM0, hR0, by (repeat' (first | (with_reducible exact Below.refl _ _) | (with_reducible refine Below.mono (by assumption) ?_) | (with_reducible refine Below.trans ?_ (Below.mono (by assumption) ?_)) | (with_reducible refine Below.alloc ?_ ?_ _) | (with_reducible refine Below.drew ?_) | (with_reducible refine below_drewN ?_ _) | (with_reducible refine Below.setCell ?_ ?_ _) | (simp only [World.size_alloc, World.size_setCell, World.size_drew, size_drewN]; omega) | omega))⟩
  case round =>
    obtain ⟨k, hk', rfl, hM, hR, hE⟩ := hrel
    clear hM0 hR0
    have hgl := hM.lt
    by_cases hlt : k < L.length
    · obtain ⟨x0, x1, x2, b, off, hxk, rfl, _, hb0, c0, c1, c2⟩ := (hx.ext hE).at_ hlt
      obtain ⟨g1, g2, g3, g4⟩ := HL.out _ (List.mem_of_getElem? hxk)
      simp only at g1 g2 g3 g4
      have hst := rowsOf_take (ks := ks) hxk
      have HS := Lib.hid hst
      clear hxk hst
      obtain ⟨a, rfl⟩ := Int.eq_ofNat_of_zero_le g1
      obtain ⟨bb, rfl⟩ := Int.eq_ofNat_of_zero_le g3
      have ha6 : a < 6 := by omega
      have hlow := rowsOf_low ks (L.take k) (fun e he => HL.out e (List.mem_of_mem_take he))
      generalize rowsOf ks (L.take k) = f at hM HS hlow
      have hF := Lib.hid hlow
      clear hlow
      by_cases hc : x2 ∈ ks
      · have hd : decide (x2 ∈ ks) = true := by simp [hc]
        have hadd : rowsOf ks (L.take (k + 1)) = upd f a (orN (f a) (shlN bb)) := by rw [HS.out]; unfold addE; rw [if_pos hc]; rfl
        have HA := Lib.hid hadd
        clear hc hadd HS
        go_wp2_with (fail)
        go_wp2_with (fail)
        go_at_call 110
        refine (containsInt_c x2 ks _ _ _ _ (hk.ext (by (repeat' (first | (with_reducible exact Below.refl _ _) | (with_reducible refine Below.mono (by assumption) ?_) | (with_reducible refine Below.trans ?_ (Below.mono (by assumption) ?_)) | (with_reducible refine Below.alloc ?_ ?_ _) | (with_reducible refine Below.drew ?_) | (with_reducible refine below_drewN ?_ _) | (with_reducible refine Below.setCell ?_ ?_ _) | (simp only [World.size_alloc, World.size_setCell, World.size_drew, size_drewN]; omega) | omega)))) hkn).mono ?_
        rintro e w1 ⟨rfl, hb⟩
        obtain ⟨hc, hf, hz, hs⟩ := bcell hb
        (try simp only [World.size_alloc, World.size_setCell, World.size_drew, size_drewN] at hs); (first | have l0 := Nat.lt_of_lt_of_le l0 (show _ ≤ w1.heap.size by omega) | have l0 : w.heap.size < w1.heap.size := (by omega) | skip); (try have l0e := Nat.le_of_lt l0); (try have l0f := Nat.le_add_right_of_le (k := 1) l0e); (try have l1 := Nat.lt_of_lt_of_le l1 (show _ ≤ w1.heap.size by omega)); (try have l1e := Nat.le_of_lt l1); (try have l1f := Nat.le_add_right_of_le (k := 1) l1e); (try have l2 := Nat.lt_of_lt_of_le l2 (show _ ≤ w1.heap.size by omega)); (try have l2e := Nat.le_of_lt l2); (try have l2f := Nat.le_add_right_of_le (k := 1) l2e); (try have l3 := Nat.lt_of_lt_of_le l3 (show _ ≤ w1.heap.size by omega)); (try have l3e := Nat.le_of_lt l3); (try have l3f := Nat.le_add_right_of_le (k := 1) l3e)
        rw [hd]
        have hr1 : Ext wr w1 := by (repeat' (first | (with_reducible exact Below.refl _ _) | (with_reducible refine Below.mono (by assumption) ?_) | (with_reducible refine Below.trans ?_ (Below.mono (by assumption) ?_)) | (with_reducible refine Below.alloc ?_ ?_ _) | (with_reducible refine Below.drew ?_) | (with_reducible refine below_drewN ?_ _) | (with_reducible refine Below.setCell ?_ ?_ _) | (simp only [World.size_alloc, World.size_setCell, World.size_drew, size_drewN]; omega) | omega))
        obtain ⟨y0, y1, y2⟩ := box3 hb
        have hM1 := hM.ext hr1
        have hR1 := hR.ext hr1
        have hE1 := hE.tr hr1
        have hcm := mat_cell hM1 ha6
        have hfz := hM1.frozen
        have hw1 : wr.heap.size < w1.heap.size := by have := hb.size; simp only [World.size_alloc] at this; omega
        have hb6 : bb < 6 := by omega
        have hai : (a : Int) < 6 := by omega
        have hsh : IntKind.u64.wrap (2 ^ bb) = ((shlN bb : Nat) : Int) := shl_wrap hb6
        have hor := bits_orN (hF.out a ha6) (shlN_lt hb6)
        clear hc hf hz hs hb hM hR
        go_wp2
        go_still_tail 9, (by kernel_rfl)
        change wpList _ _ _ _ _ w1.drew
        have hset : Blk (w1.setCell ⟨w.heap.size + 1, a, none⟩ (.int .u64 ((orN (f a) (shlN bb) : Nat) : Int))) (w.heap.size + 1) 106 (matA (rowsOf ks (L.take (k + 1)))) := by
          have h := hM1.set_ a (.int .u64 ((orN (f a) (shlN bb) : Nat) : Int))
          rw [matA_set _ ha6, ← HA.out] at h
          exact h
        have hR2 : Blk (w1.setCell ⟨w.heap.size + 1, a, none⟩ (.int .u64 ((orN (f a) (shlN bb) : Nat) : Int))) w.heap.size 106 (matA fun _ => 0) :=
          (Below.heap_setCell w1 ⟨w.heap.size + 1, a, none⟩ _ w.heap.size (by simp)).trans hR1
        have HB := Lib.hid hset
        have HR := Lib.hid hR2
        clear hset hR2 hM1 hR1
        go_wp2
        go_roundw
        case measure => simp [intOf]; omega
        case rel => exact ⟨k + 1, by omega, by go_num, HB.out, HR.out, by (repeat' (first | (with_reducible exact Below.refl _ _) | (with_reducible refine Below.mono (by assumption) ?_) | (with_reducible refine Below.trans ?_ (Below.mono (by assumption) ?_)) | (with_reducible refine Below.alloc ?_ ?_ _) | (with_reducible refine Below.drew ?_) | (with_reducible refine below_drewN ?_ _) | (with_reducible refine Below.setCell ?_ ?_ _) | (simp only [World.size_alloc, World.size_setCell, World.size_drew, size_drewN]; omega) | omega))⟩
      · have hd : decide (x2 ∈ ks) = false := by simp [hc]
        have hadd : rowsOf ks (L.take (k + 1)) = f := by rw [HS.out]; unfold addE; rw [if_neg hc]
        have HA := Lib.hid hadd
        clear hc hadd HS
        go_wp2_with (fail)
        go_at_call 110
        refine (containsInt_c x2 ks _ _ _ _ (hk.ext (by (repeat' (first | (with_reducible exact Below.refl _ _) | (with_reducible refine Below.mono (by assumption) ?_) | (with_reducible refine Below.trans ?_ (Below.mono (by assumption) ?_)) | (with_reducible refine Below.alloc ?_ ?_ _) | (with_reducible refine Below.drew ?_) | (with_reducible refine below_drewN ?_ _) | (with_reducible refine Below.setCell ?_ ?_ _) | (simp only [World.size_alloc, World.size_setCell, World.size_drew, size_drewN]; omega) | omega)))) hkn).mono ?_
        rintro e w1 ⟨rfl, hb⟩
        obtain ⟨hc, hf, hz, hs⟩ := bcell hb
        (try simp only [World.size_alloc, World.size_setCell, World.size_drew, size_drewN] at hs); (first | have l0 := Nat.lt_of_lt_of_le l0 (show _ ≤ w1.heap.size by omega) | have l0 : w.heap.size < w1.heap.size := (by omega) | skip); (try have l0e := Nat.le_of_lt l0); (try have l0f := Nat.le_add_right_of_le (k := 1) l0e); (try have l1 := Nat.lt_of_lt_of_le l1 (show _ ≤ w1.heap.size by omega)); (try have l1e := Nat.le_of_lt l1); (try have l1f := Nat.le_add_right_of_le (k := 1) l1e); (try have l2 := Nat.lt_of_lt_of_le l2 (show _ ≤ w1.heap.size by omega)); (try have l2e := Nat.le_of_lt l2); (try have l2f := Nat.le_add_right_of_le (k := 1) l2e); (try have l3 := Nat.lt_of_lt_of_le l3 (show _ ≤ w1.heap.size by omega)); (try have l3e := Nat.le_of_lt l3); (try have l3f := Nat.le_add_right_of_le (k := 1) l3e)
        rw [hd]
        have hr1 : Ext wr w1 := by (repeat' (first | (with_reducible exact Below.refl _ _) | (with_reducible refine Below.mono (by assumption) ?_) | (with_reducible refine Below.trans ?_ (Below.mono (by assumption) ?_)) | (with_reducible refine Below.alloc ?_ ?_ _) | (with_reducible refine Below.drew ?_) | (with_reducible refine below_drewN ?_ _) | (with_reducible refine Below.setCell ?_ ?_ _) | (simp only [World.size_alloc, World.size_setCell, World.size_drew, size_drewN]; omega) | omega))
        have hM1 := hM.ext hr1
        have hR1 := hR.ext hr1
        have hE1 := hE.tr hr1
        clear hc hf hz hs hb hM hR
        go_wp2
        exact ⟨⟨k + 1, by omega, by go_num, by rw [HA.out]; exact hM1, hR1, hE1⟩, by simp [intOf]; omega⟩
    · obtain rfl : k = L.length := by omega
      rw [List.take_length] at hM
      generalize hff : rowsOf ks L = f at hM
      have HFF := Lib.hid hff
      clear hff
      have m0 := mat_cell hM (i := 0) (by omega)
      have m1 := mat_cell hM (i := 1) (by omega)
      have m2 := mat_cell hM (i := 2) (by omega)
      have m3 := mat_cell hM (i := 3) (by omega)
      have m4 := mat_cell hM (i := 4) (by omega)
      have m5 := mat_cell hM (i := 5) (by omega)
      have q0 := mat_cell hR (i := 0) (by omega)
      have q1 := mat_cell hR (i := 1) (by omega)
      have q2 := mat_cell hR (i := 2) (by omega)
      have q3 := mat_cell hR (i := 3) (by omega)
      have q4 := mat_cell hR (i := 4) (by omega)
      have q5 := mat_cell hR (i := 5) (by omega)
      have qf := hR.frozen
      clear hM hR
      go_wp2
      exact bodyPost_ret (v := .agg #[.int .u64 ((f 0 : Nat) : Int), .int .u64 ((f 1 : Nat) : Int), .int .u64 ((f 2 : Nat) : Int), .int .u64 ((f 3 : Nat) : Int), .int .u64 ((f 4 : Nat) : Int), .int .u64 ((f 5 : Nat) : Int)]) (by simp [results, Tryz.results85, go_sem, q0, q1, q2, q3, q4, q5]) rfl ⟨by rw [HFF.out], by (repeat' (first | (with_reducible exact Below.refl _ _) | (with_reducible refine Below.mono (by assumption) ?_) | (with_reducible refine Below.trans ?_ (Below.mono (by assumption) ?_)) | (with_reducible refine Below.alloc ?_ ?_ _) | (with_reducible refine Below.drew ?_) | (with_reducible refine below_drewN ?_ _) | (with_reducible refine Below.setCell ?_ ?_ _) | (simp only [World.size_alloc, World.size_setCell, World.size_drew, size_drewN]; omega) | omega))⟩


set_option maxHeartbeats 4000000 in
theorem reach_c (f : Nat → Nat) (w : World) (hf : Low f) :
    Calls Tryz.prog 87 #[.agg #[.int .u64 ((f 0 : Nat) : Int), .int .u64 ((f 1 : Nat) : Int), .int .u64 ((f 2 : Nat) : Int), .int .u64 ((f 3 : Nat) : Int), .int .u64 ((f 4 : Nat) : Int), .int .u64 ((f 5 : Nat) : Int)]] w fun e w' => e = .returned (.agg #[.int .u64 (((clo f) 0 : Nat) : Int), .int .u64 (((clo f) 1 : Nat) : Int), .int .u64 (((clo f) 2 : Nat) : Int), .int .u64 (((clo f) 3 : Nat) : Int), .int .u64 (((clo f) 4 : Nat) : Int), .int .u64 (((clo f) 5 : Nat) : Int)]) ∧ Ext w w' := by
  have hM0 : Blk ((w.alloc (.cells (matA f) 106)).alloc (.cells (matA fun _ => 0) 106)) w.heap.size 106 (matA (cloT f 0)) := (Blk.new w 106 (matA f)).alloc _
  have hR0 : Blk ((w.alloc (.cells (matA f) 106)).alloc (.cells (matA fun _ => 0) 106)) (w.heap.size + 1) 106 (matA fun _ => 0) := by
    have h := Blk.new (w.alloc (.cells (matA f) 106)) 106 (matA fun _ => 0)
    simp only [World.size_alloc] at h
    exact h
  have HM := Lib.hid hM0
  have HR := Lib.hid hR0
  have HF := Lib.hid hf
  clear hM0 hR0 hf
  go_enter Tryz.func87, Tryz.ntmps87
  go_wp2
  go_loopw [5] (fun i wr => ∃ k : Nat, k ≤ 6 ∧ i = .int .i64 k ∧ Blk wr w.heap.size 106 (matA (cloT f k)) ∧ Blk wr (w.heap.size + 1) 106 (matA fun _ => 0) ∧ Ext w wr) (fun i _ => 6 - (intOf i).toNat)
  case atStart => exact ⟨0, Nat.zero_le _, rfl, HM.out, HR.out, by (repeat' (first | (with_reducible exact Below.refl _ _) | (with_reducible refine Below.mono (by assumption) ?_) | (with_reducible refine Below.trans ?_ (Below.mono (by assumption) ?_)) | (with_reducible refine Below.alloc ?_ ?_ _) | (with_reducible refine Below.drew ?_) | (with_reducible refine below_drewN ?_ _) | (with_reducible refine Below.setCell ?_ ?_ _) | (simp only [World.size_alloc, World.size_setCell, World.size_drew, size_drewN]; omega) | omega))⟩
  case round =>
    obtain ⟨k, hk, rfl, hM, hR, hE⟩ := hrel
    by_cases hlt : k < 6
    · have hlow := cloT_low HF.out k (by omega)
      have hst : cloT f (k + 1) = pasT (cloT f k) k 6 := rfl
      have HS := Lib.hid hst
      clear hst
      generalize cloT f k = p at hM hlow HS
      have hki0 : (k : Int) < 6 := by omega
      have hps := pas_spec hlow hlt
      have HP := Lib.hid hps
      clear hps hlow HM HR
      have HM := Lib.hid hM
      have HR := Lib.hid hR
      have HE := Lib.hid hE
      clear hM hR hE
      go_wp2
      go_loopw [8] (fun i wr => ∃ j : Nat, j ≤ 6 ∧ i = .int .i64 j ∧ Blk wr w.heap.size 106 (matA (pasT p k j)) ∧ Blk wr (w.heap.size + 1) 106 (matA fun _ => 0) ∧ Ext w wr) (fun i _ => 6 - (intOf i).toNat)
      case atStart => exact ⟨0, Nat.zero_le _, rfl, HM.out, HR.out, HE.out⟩
      case round =>
        obtain ⟨j, hj, rfl, hM, hR, hE⟩ := hrel
        clear HM HR HE
        by_cases hlt2 : j < 6
        · have hlj := (HP.out j (by omega)).1
          have hst : pasT p k (j + 1) = if (pasT p k j j).testBit k = true then upd (pasT p k j) j (orN (pasT p k j j) (pasT p k j k)) else pasT p k j := rfl
          have HT := Lib.hid hst
          clear hst
          generalize pasT p k j = q at hM hlj HT
          have cj := mat_cell hM hlt2
          have ck := mat_cell hM hlt
          have hbit := bits_one (r := q j) (b := k) (hlj j hlt2) (by omega)
          have hor := bits_orN (hlj j hlt2) (hlj k hlt)
          have hji : (j : Int) < 6 := by omega
          have hki : (k : Int) < 6 := by omega
          have hfz := hM.frozen
          have hgl := hM.lt
          have HL := Lib.hid hlj
          have HM := Lib.hid hM
          have HR := Lib.hid hR
          clear hlj hM hR
          cases hb : (q j).testBit k with
          | true =>
            rw [hb] at hbit
            have ht := HT.out
            rw [hb, if_pos rfl] at ht
            have hset : Blk (wr.setCell ⟨w.heap.size, j, none⟩ (.int .u64 ((orN (q j) (q k) : Nat) : Int))) w.heap.size 106 (matA (pasT p k (j + 1))) := by
              have h := HM.out.set_ j (.int .u64 ((orN (q j) (q k) : Nat) : Int))
              rw [matA_set _ hlt2, ← ht] at h
              exact h
            have hR2 : Blk (wr.setCell ⟨w.heap.size, j, none⟩ (.int .u64 ((orN (q j) (q k) : Nat) : Int))) (w.heap.size + 1) 106 (matA fun _ => 0) :=
              (Below.heap_setCell wr ⟨w.heap.size, j, none⟩ _ (w.heap.size + 1) (by simp)).trans HR.out
            have HB := Lib.hid hset
            have HR2 := Lib.hid hR2
            clear hset hR2 ht hb HT
            go_wp2
            go_still_tail 8, (by kernel_rfl)
            change wpList _ _ _ _ _ wr.drew
            go_wp2
            go_roundw
            case measure => simp [intOf]; omega
            case rel => exact ⟨j + 1, by omega, by go_num, HB.out, HR2.out, by (repeat' (first | (with_reducible exact Below.refl _ _) | (with_reducible refine Below.mono (by assumption) ?_) | (with_reducible refine Below.trans ?_ (Below.mono (by assumption) ?_)) | (with_reducible refine Below.alloc ?_ ?_ _) | (with_reducible refine Below.drew ?_) | (with_reducible refine below_drewN ?_ _) | (with_reducible refine Below.setCell ?_ ?_ _) | (simp only [World.size_alloc, World.size_setCell, World.size_drew, size_drewN]; omega) | omega))⟩
          | false =>
            rw [hb] at hbit
            have ht := HT.out
            rw [hb, if_neg (by simp)] at ht
            have HT2 := Lib.hid ht
            clear ht hb HT
            go_wp2
            exact ⟨⟨j + 1, by omega, by go_num, by rw [HT2.out]; exact HM.out, HR.out, hE⟩, by simp [intOf]; omega⟩
        · obtain rfl : j = 6 := by omega
          rw [← HS.out] at hM
          have HM := Lib.hid hM
          have HR := Lib.hid hR
          clear hM hR
          go_wp2
          exact ⟨⟨k + 1, by omega, by go_num, HM.out, HR.out, hE⟩, by simp [intOf]; omega⟩
    · obtain rfl : k = 6 := by omega
      generalize hff : cloT f 6 = p at hM
      have HFF := Lib.hid hff
      clear hff HM HR
      have m0 := mat_cell hM (i := 0) (by omega)
      have m1 := mat_cell hM (i := 1) (by omega)
      have m2 := mat_cell hM (i := 2) (by omega)
      have m3 := mat_cell hM (i := 3) (by omega)
      have m4 := mat_cell hM (i := 4) (by omega)
      have m5 := mat_cell hM (i := 5) (by omega)
      have q0 := mat_cell hR (i := 0) (by omega)
      have q1 := mat_cell hR (i := 1) (by omega)
      have q2 := mat_cell hR (i := 2) (by omega)
      have q3 := mat_cell hR (i := 3) (by omega)
      have q4 := mat_cell hR (i := 4) (by omega)
      have q5 := mat_cell hR (i := 5) (by omega)
      have qf := hR.frozen
      clear hM hR
      go_wp2
      exact bodyPost_ret (v := .agg #[.int .u64 ((p 0 : Nat) : Int), .int .u64 ((p 1 : Nat) : Int), .int .u64 ((p 2 : Nat) : Int), .int .u64 ((p 3 : Nat) : Int), .int .u64 ((p 4 : Nat) : Int), .int .u64 ((p 5 : Nat) : Int)]) (by simp [results, Tryz.results87, go_sem, q0, q1, q2, q3, q4, q5]) rfl ⟨by unfold clo; rw [HFF.out], by (repeat' (first | (with_reducible exact Below.refl _ _) | (with_reducible refine Below.mono (by assumption) ?_) | (with_reducible refine Below.trans ?_ (Below.mono (by assumption) ?_)) | (with_reducible refine Below.alloc ?_ ?_ _) | (with_reducible refine Below.drew ?_) | (with_reducible refine below_drewN ?_ _) | (with_reducible refine Below.setCell ?_ ?_ _) | (simp only [World.size_alloc, World.size_setCell, World.size_drew, size_drewN]; omega) | omega))⟩

/-- whether one of the six is on a cycle -/
def arou (f : Nat → Nat) : Bool := (List.range 6).any fun i => (clo f i).testBit i
set_option maxHeartbeats 4000000 in
theorem around_c (f : Nat → Nat) (w : World) (hf : Low f) :
    Calls Tryz.prog 86 #[.agg #[.int .u64 ((f 0 : Nat) : Int), .int .u64 ((f 1 : Nat) : Int), .int .u64 ((f 2 : Nat) : Int), .int .u64 ((f 3 : Nat) : Int), .int .u64 ((f 4 : Nat) : Int), .int .u64 ((f 5 : Nat) : Int)]] w fun e w' => e = .returned (.bool (arou f)) ∧ Ext w w' := by
  have C := fun w => reach_c f w hf
  have hcl := clo_low hf
  have har : arou f = (List.range 6).any fun i => (clo f i).testBit i := rfl
  generalize arou f = r at har ⊢
  generalize clo f = p at C hcl har
  have C := Lib.hid C
  have HC := Lib.hid hcl
  have HA := Lib.hid har
  clear hcl har hf
  go_enter Tryz.func86, Tryz.ntmps86
  go_wp2_with (fail)
  go_at_call 87
  refine (C.out _).mono ?_
  rintro e w1 ⟨rfl, hb⟩
  obtain ⟨hc, hf, hz, hs⟩ := bcell hb
  (try simp only [World.size_alloc, World.size_setCell, World.size_drew, size_drewN] at hs); (first | have l0 := Nat.lt_of_lt_of_le l0 (show _ ≤ w1.heap.size by omega) | have l0 : w.heap.size < w1.heap.size := (by omega) | skip); (try have l0e := Nat.le_of_lt l0); (try have l0f := Nat.le_add_right_of_le (k := 1) l0e); (try have l1 := Nat.lt_of_lt_of_le l1 (show _ ≤ w1.heap.size by omega)); (try have l1e := Nat.le_of_lt l1); (try have l1f := Nat.le_add_right_of_le (k := 1) l1e); (try have l2 := Nat.lt_of_lt_of_le l2 (show _ ≤ w1.heap.size by omega)); (try have l2e := Nat.le_of_lt l2); (try have l2f := Nat.le_add_right_of_le (k := 1) l2e); (try have l3 := Nat.lt_of_lt_of_le l3 (show _ ≤ w1.heap.size by omega)); (try have l3e := Nat.le_of_lt l3); (try have l3f := Nat.le_add_right_of_le (k := 1) l3e)
  have hE1 : Ext w w1 := by (repeat' (first | (with_reducible exact Below.refl _ _) | (with_reducible refine Below.mono (by assumption) ?_) | (with_reducible refine Below.trans ?_ (Below.mono (by assumption) ?_)) | (with_reducible refine Below.alloc ?_ ?_ _) | (with_reducible refine Below.drew ?_) | (with_reducible refine below_drewN ?_ _) | (with_reducible refine Below.setCell ?_ ?_ _) | (simp only [World.size_alloc, World.size_setCell, World.size_drew, size_drewN]; omega) | omega))
  have hB : Blk (w1.alloc (.cells (matA p) 106)) w1.heap.size 106 (matA p) := Blk.new _ _ _
  have HB := Lib.hid hB
  clear hB hc hf hz hs hb
  go_wp2
  go_loopw [7] (fun i wr => ∃ k : Nat, k ≤ 6 ∧ i = .int .i64 k ∧ Blk wr w1.heap.size 106 (matA p) ∧ Ext w wr ∧ ∀ j, j < k → (p j).testBit j = false) (fun i _ => 6 - (intOf i).toNat)
  case atStart => exact ⟨0, Nat.zero_le _, rfl, HB.out, by (repeat' (first | (with_reducible exact Below.refl _ _) | (with_reducible refine Below.mono (by assumption) ?_) | (with_reducible refine Below.trans ?_ (Below.mono (by assumption) ?_)) | (with_reducible refine Below.alloc ?_ ?_ _) | (with_reducible refine Below.drew ?_) | (with_reducible refine below_drewN ?_ _) | (with_reducible refine Below.setCell ?_ ?_ _) | (simp only [World.size_alloc, World.size_setCell, World.size_drew, size_drewN]; omega) | omega)), fun j h => by omega⟩
  case round =>
    obtain ⟨k, hk, rfl, hM, hE, hall⟩ := hrel
    have HL := Lib.hid hall
    clear hall HB
    by_cases hlt : k < 6
    · have m0 := mat_cell hM (i := 0) (by omega)
      have m1 := mat_cell hM (i := 1) (by omega)
      have m2 := mat_cell hM (i := 2) (by omega)
      have m3 := mat_cell hM (i := 3) (by omega)
      have m4 := mat_cell hM (i := 4) (by omega)
      have m5 := mat_cell hM (i := 5) (by omega)
      cases hb : (p k).testBit k with
      | true =>
        have hr : r = true := by
          rw [HA.out, List.any_eq_true]
          exact ⟨k, List.mem_range.2 hlt, hb⟩
        have C2 := fun w => has_c p k k w hlt hlt HC.out
        rw [hb] at C2
        have C2 := Lib.hid C2
        have HR := Lib.hid hr
        clear hr hb
        go_wp2_with (fail)
        refine (C2.out _).mono ?_
        rintro e w2 ⟨rfl, hb2⟩
        go_wp2
        go_ret
        exact ⟨ret_bool HR.out.symm, hE.tr hb2⟩
      | false =>
        have C2 := fun w => has_c p k k w hlt hlt HC.out
        rw [hb] at C2
        have C2 := Lib.hid C2
        have hall2 : ∀ j, j < k + 1 → (p j).testBit j = false := fun j hj => by
          by_cases e : j = k
          · subst e; exact hb
          · exact HL.out j (by omega)
        have HL2 := Lib.hid hall2
        clear hall2 hb
        have HM := Lib.hid hM
        clear hM
        go_wp2_with (fail)
        refine (C2.out _).mono ?_
        rintro e w2 ⟨rfl, hb2⟩
        go_wp2
        exact ⟨⟨k + 1, by omega, by go_num, HM.out.ext hb2, hE.tr hb2, HL2.out⟩, by simp [intOf]; omega⟩
    · obtain rfl : k = 6 := by omega
      have hr : r = false := by
        rw [HA.out, List.any_eq_false]
        intro j hj
        rw [List.mem_range] at hj
        rw [HL.out j hj]
        simp
      have HR := Lib.hid hr
      clear hr hM
      go_wp2
      go_ret
      exact ⟨ret_bool HR.out.symm, hE⟩
end Go.Proofs.YtmbdacfgmiielaaGreat
