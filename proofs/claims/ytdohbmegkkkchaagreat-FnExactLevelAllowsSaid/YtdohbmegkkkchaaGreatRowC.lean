/-
  Contracts of the laws' helpers on lists of lists of ints: sizes and copies.
-/
import Derived.Test.YtdohbmegkkkchaaGreatLstO
import Derived.Deep.RegionHeld3
namespace Go.Proofs.YtdohbmegkkkchaaGreat
set_option linter.unusedSimpArgs false
set_option linter.unusedVariables false
set_option maxRecDepth 100000
open Go.RowKit

def SzTo2 (h : List TxnT) (w : World) (e : Ending) (w' : World) : Prop := ∃ r : Int, e = .returned (.int .i64 r) ∧ (r = -1 ∨ (0 ≤ r ∧ r ≤ 1048576 ∧ Small h)) ∧ Ext w w'
set_option maxHeartbeats 2000000 in
theorem szTxnS2_c (h : List TxnT) (S : Nat → Prop) (A : Option Addr) (c : Nat) (w : World) (hx : Txns S w A h) (hl : h.length ≤ maxLen) (ho : ∀ t ∈ h, t.ops.length ≤ maxLen) :
    Calls Tryz.prog 7 #[.slice A h.length c, .int .i64 1048576] w (SzTo2 h w) := by
  have C := szf_cases 1048576 h.length
  unfold maxLen at hl
  by_cases hb : h.length ≤ 1048576
  · go_enter Tryz.func7, Tryz.ntmps7
    go_wp2
    go_loopw [1, 5] (fun q i wr => ∃ k : Nat, k ≤ h.length ∧ i = .int .i64 k ∧ q = .int .i64 (1048576 - (h.length : Int) - (total (h.take k) : Int)) ∧ h.length + total (h.take k) ≤ 1048576 ∧ Ext w wr) (fun _ i _ => h.length - (intOf i).toNat)
    case atStart => exact ⟨0, Nat.zero_le _, rfl, by simp [total], by simpa [total] using hb, Below.refl _ _⟩
    case round =>
      obtain ⟨k, hk, rfl, rfl, hsm, hE⟩ := hrel
      have hEz := hE.size
      by_cases hlt : k < h.length
      · obtain ⟨s, ops, d, A', cap, b, off, hxk, rfl, _, hb0, hO, c0, c1, c2⟩ := (hx.ext hE).at_ hlt
        have ht := total_take h k _ hxk
        simp only at ht
        have hol := ho _ (List.mem_of_getElem? hxk)
        simp only at hol
        have C2 := fun w => szTxn_c s A' ops.length cap d (1048576 - (h.length : Int) - (total (h.take k) : Int)) hol (by omega) (by omega) w
        by_cases hfit : (1048576 - (h.length : Int) - (total (h.take k) : Int)) - (ops.length : Int) < 0
        · have e : szf (1048576 - (h.length : Int) - (total (h.take k) : Int)) ops.length = -1 := by simp [szf, hfit]
          rw [e] at C2
          have C2 := Lib.hid C2
          clear e ht hxk
          go_wp2_with (go_at_call 26; refine (C2.out _).mono ?_; rintro e w1 ⟨rfl, hb⟩; obtain ⟨hc, hf, hz, hs⟩ := bcell hb; (try simp only [World.size_alloc, World.size_setCell, World.size_drew, size_drewN] at hs); (first | have l0 := Nat.lt_of_lt_of_le l0 (show _ ≤ w1.heap.size by omega) | have l0 : w.heap.size < w1.heap.size := (by omega) | skip); (try have l0e := Nat.le_of_lt l0); (try have l0f := Nat.le_add_right_of_le (k := 1) l0e); (try have l1 := Nat.lt_of_lt_of_le l1 (show _ ≤ w1.heap.size by omega)); (try have l1e := Nat.le_of_lt l1); (try have l1f := Nat.le_add_right_of_le (k := 1) l1e); (try have l2 := Nat.lt_of_lt_of_le l2 (show _ ≤ w1.heap.size by omega)); (try have l2e := Nat.le_of_lt l2); (try have l2f := Nat.le_add_right_of_le (k := 1) l2e); (try have l3 := Nat.lt_of_lt_of_le l3 (show _ ≤ w1.heap.size by omega)); (try have l3e := Nat.le_of_lt l3); (try have l3f := Nat.le_add_right_of_le (k := 1) l3e))
          go_ret
          exact ⟨_, rfl, .inl rfl, by (repeat' (first | (with_reducible exact Below.refl _ _) | (with_reducible refine Below.mono (by assumption) ?_) | (with_reducible refine Below.trans ?_ (Below.mono (by assumption) ?_)) | (with_reducible refine Below.alloc ?_ ?_ _) | (with_reducible refine Below.drew ?_) | (with_reducible refine below_drewN ?_ _) | (with_reducible refine Below.setCell ?_ ?_ _) | (simp only [World.size_alloc, World.size_setCell, World.size_drew, size_drewN]; omega) | omega))⟩
        · have e : szf (1048576 - (h.length : Int) - (total (h.take k) : Int)) ops.length = (1048576 - (h.length : Int) - (total (h.take k) : Int)) - (ops.length : Int) := by simp [szf, hfit]
          rw [e] at C2
          have C2 := Lib.hid C2
          have HT := Lib.hid ht
          clear e ht hxk
          go_wp2_with (go_at_call 26; refine (C2.out _).mono ?_; rintro e w1 ⟨rfl, hb⟩; obtain ⟨hc, hf, hz, hs⟩ := bcell hb; (try simp only [World.size_alloc, World.size_setCell, World.size_drew, size_drewN] at hs); (first | have l0 := Nat.lt_of_lt_of_le l0 (show _ ≤ w1.heap.size by omega) | have l0 : w.heap.size < w1.heap.size := (by omega) | skip); (try have l0e := Nat.le_of_lt l0); (try have l0f := Nat.le_add_right_of_le (k := 1) l0e); (try have l1 := Nat.lt_of_lt_of_le l1 (show _ ≤ w1.heap.size by omega)); (try have l1e := Nat.le_of_lt l1); (try have l1f := Nat.le_add_right_of_le (k := 1) l1e); (try have l2 := Nat.lt_of_lt_of_le l2 (show _ ≤ w1.heap.size by omega)); (try have l2e := Nat.le_of_lt l2); (try have l2f := Nat.le_add_right_of_le (k := 1) l2e); (try have l3 := Nat.lt_of_lt_of_le l3 (show _ ≤ w1.heap.size by omega)); (try have l3e := Nat.le_of_lt l3); (try have l3f := Nat.le_add_right_of_le (k := 1) l3e))
          exact ⟨⟨k + 1, by omega, by go_num, by rw [HT.out]; go_num, by rw [HT.out]; omega, by (repeat' (first | (with_reducible exact Below.refl _ _) | (with_reducible refine Below.mono (by assumption) ?_) | (with_reducible refine Below.trans ?_ (Below.mono (by assumption) ?_)) | (with_reducible refine Below.alloc ?_ ?_ _) | (with_reducible refine Below.drew ?_) | (with_reducible refine below_drewN ?_ _) | (with_reducible refine Below.setCell ?_ ?_ _) | (simp only [World.size_alloc, World.size_setCell, World.size_drew, size_drewN]; omega) | omega))⟩, by simp [intOf]; omega⟩
      · obtain rfl : k = h.length := by omega
        rw [List.take_length] at hsm ⊢
        go_wp2
        go_ret
        exact ⟨_, rfl, .inr ⟨by omega, by omega, hsm⟩, hE⟩
  · go_enter Tryz.func7, Tryz.ntmps7
    go_wp2
    go_ret
    exact ⟨_, rfl, .inl rfl, Below.refl _ _⟩
def SzToR (R : List (List Int)) (w : World) (e : Ending) (w' : World) : Prop := ∃ r : Int, e = .returned (.int .i64 r) ∧ (r = -1 ∨ (0 ≤ r ∧ r ≤ 1048576 ∧ SmallR R)) ∧ Ext w w'
set_option maxHeartbeats 2000000 in
theorem szIntSS_c (R : List (List Int)) (S : Nat → Prop) (A : Option Addr) (c : Nat) (q : Int) (w : World) (hx : Rows2 S w A R) (hl : R.length ≤ maxLen) (ho : ∀ l ∈ R, l.length ≤ maxLen) (hq0 : 0 ≤ q) (hq : q ≤ 1048576) :
    Calls Tryz.prog 8 #[.slice A R.length c, .int .i64 q] w (SzToR R w) := by
  unfold maxLen at hl
  by_cases hb : R.length ≤ q
  · go_enter Tryz.func8, Tryz.ntmps8
    go_wp2
    go_loopw [1, 5] (fun v i wr => ∃ k : Nat, k ≤ R.length ∧ i = .int .i64 k ∧ v = .int .i64 (q - (R.length : Int) - (tot (R.take k) : Int)) ∧ R.length + tot (R.take k) ≤ q ∧ Ext w wr) (fun _ i _ => R.length - (intOf i).toNat)
    case atStart => exact ⟨0, Nat.zero_le _, rfl, by simp [tot], by simpa [tot] using hb, Below.refl _ _⟩
    case round =>
      obtain ⟨k, hk, rfl, rfl, hsm, hE⟩ := hrel
      by_cases hlt : k < R.length
      · obtain ⟨l, A', cap, b, off, hxk, rfl, _, hb0, hI, c0⟩ := (hx.ext hE).at_ hlt
        have ht := tot_take hxk
        have hol := ho _ (List.mem_of_getElem? hxk)
        have C2 := fun w => szIntS_c A' l.length cap (q - (R.length : Int) - (tot (R.take k) : Int)) hol (by omega) (by omega) w
        have hli : (k : Int) < R.length := by omega
        by_cases hfit : (q - (R.length : Int) - (tot (R.take k) : Int)) - (l.length : Int) < 0
        · have e : szf (q - (R.length : Int) - (tot (R.take k) : Int)) l.length = -1 := by simp [szf, hfit]
          rw [e] at C2
          have C2 := Lib.hid C2
          clear e ht hxk
          go_wp2_with (go_at_call 27; refine (C2.out _).mono ?_; rintro e w' ⟨rfl, rfl⟩)
          go_ret
          exact ⟨_, rfl, .inl rfl, hE⟩
        · have e : szf (q - (R.length : Int) - (tot (R.take k) : Int)) l.length = (q - (R.length : Int) - (tot (R.take k) : Int)) - (l.length : Int) := by simp [szf, hfit]
          rw [e] at C2
          have C2 := Lib.hid C2
          have HT := Lib.hid ht
          clear e ht hxk
          go_wp2_with (go_at_call 27; refine (C2.out _).mono ?_; rintro e w' ⟨rfl, rfl⟩)
          exact ⟨⟨k + 1, by omega, by go_num, by rw [HT.out]; go_num, by rw [HT.out]; omega, hE⟩, by simp [intOf]; omega⟩
      · obtain rfl : k = R.length := by omega
        rw [List.take_length] at hsm ⊢
        go_wp2
        go_ret
        exact ⟨_, rfl, .inr ⟨by omega, by omega, by unfold SmallR; omega⟩, hE⟩
  · have hb' : q - (R.length : Int) < 0 := by omega
    go_enter Tryz.func8, Tryz.ntmps8
    go_wp2
    go_ret
    exact ⟨_, rfl, .inl rfl, Below.refl _ _⟩
/-- the first k ints stand in the cells -/
def Upto1 (cs : Array Value) (xs : List Int) (k : Nat) : Prop := cs.size = xs.length ∧ ∀ i x, i < k → xs[i]? = some x → cs[i]? = some (.int .i64 x)
theorem Upto1.step {cs : Array Value} {xs : List Int} {k : Nat} {a : Int} (h : Upto1 cs xs k) (hx : xs[k]? = some a) : Upto1 (cs.setIfInBounds k (.int .i64 a)) xs (k + 1) := by
  obtain ⟨h1, h2⟩ := h
  have hk : k < xs.length := (List.getElem?_eq_some_iff.1 hx).1
  refine ⟨by simp [h1], fun i x hi hxi => ?_⟩
  rcases Nat.lt_or_ge i k with hlt | hge
  · rw [Array.getElem?_setIfInBounds_ne (by omega)]
    exact h2 i x hlt hxi
  · obtain rfl : i = k := by omega
    rw [hx] at hxi
    cases hxi
    rw [Array.getElem?_setIfInBounds_self_of_lt (by omega)]
theorem Upto1.ints {w : World} {g : Nat} {t : TypeId} {cs : Array Value} {xs : List Int} {S : Nat → Prop} (h : Upto1 cs xs xs.length) (hB : Blk w g t cs) (hS : S g) : Ints S w (some ⟨g, 0, none⟩) xs := by
  intro i x hx
  have hi : i < xs.length := (List.getElem?_eq_some_iff.1 hx).1
  refine ⟨g, 0, _, rfl, hS, hB.lt, rfl, rfl, fun j u hu => ?_⟩
  rw [hB.cell]
  match j, hu with
  | 0, hu => cases hu; simpa using h.2 i x hi hx
  | j + 1, hu => simp at hu
theorem infoIntC : (Tryz.prog.info? 3).map (fun i => (i.zero, i.size, i.bytes)) = some (some (.int .i64 0), 1, 8) := by kernel_rfl
theorem infoRowC : (Tryz.prog.info? 47).map (fun i => (i.zero, i.size, i.bytes)) = some (some (.slice none 0 0), 1, 24) := by kernel_rfl
set_option maxHeartbeats 2000000 in
theorem toIntS_c (xs : List Int) (S : Nat → Prop) (A : Option Addr) (c : Nat) (w : World) (hx : Ints S w A xs) (hn : xs.length ≤ 1048576) :
    Calls Tryz.prog 34 #[.slice A xs.length c] w fun e w' => e = .returned (.slice (some ⟨w.heap.size, 0, none⟩) xs.length xs.length) ∧ RI w.heap.size w' (some ⟨w.heap.size, 0, none⟩) xs ∧ Ext w w' := by
  obtain ⟨i0, hi, hz0, hz1, hz2⟩ := info_parts infoIntC
  have hmk := fun W => run_make_rowN (P := Tryz.prog) 47 3 i0 _ Tryz.underlying47 hi hz0 .i64 .i64 xs.length xs.length (Nat.le_refl _) (by rw [hz2]; omega) (by omega) W
  rw [hz1] at hmk
  go_enter Tryz.func34, Tryz.ntmps34
  go_wp2
  go_loopw [4] (fun i wr => ∃ (k : Nat) (cs : Array Value), k ≤ xs.length ∧ i = .int .i64 k ∧ Blk wr w.heap.size 3 cs ∧ Upto1 cs xs k ∧ Ext w wr) (fun i _ => xs.length - (intOf i).toNat)
  case atStart => exact ⟨0, _, Nat.zero_le _, rfl, Blk.new _ _ _, ⟨by simp [madeCells], fun i x h => by omega⟩, by (repeat' (first | (with_reducible exact Below.refl _ _) | (with_reducible refine Below.mono (by assumption) ?_) | (with_reducible refine Below.trans ?_ (Below.mono (by assumption) ?_)) | (with_reducible refine Below.alloc ?_ ?_ _) | (with_reducible refine Below.drew ?_) | (with_reducible refine below_drewN ?_ _) | (with_reducible refine Below.setCell ?_ ?_ _) | (simp only [World.size_alloc, World.size_setCell, World.size_drew, size_drewN]; omega) | omega))⟩
  case round =>
    obtain ⟨k, cs, hk, rfl, hB, hU, hE⟩ := hrel
    by_cases hlt : k < xs.length
    · obtain ⟨x0, b, off, hxk, rfl, _, hb0, c0⟩ := (hx.ext hE).at_ hlt
      have hg := hB.lt
      have hs3 := hU.1
      obtain ⟨u0, d0⟩ := hB.at_ (i := k) (by omega)
      have hfz := hB.frozen
      have hki : (k : Int) < xs.length := by omega
      have HST := Lib.hid (hU.step hxk)
      have HB := Lib.hid hB
      clear hxk hU hB hs3
      go_wp2
      go_roundw
      case rel => exact ⟨k + 1, _, by omega, by go_num, HB.out.set_ _ _, HST.out, by (repeat' (first | (with_reducible exact Below.refl _ _) | (with_reducible refine Below.mono (by assumption) ?_) | (with_reducible refine Below.trans ?_ (Below.mono (by assumption) ?_)) | (with_reducible refine Below.alloc ?_ ?_ _) | (with_reducible refine Below.drew ?_) | (with_reducible refine below_drewN ?_ _) | (with_reducible refine Below.setCell ?_ ?_ _) | (simp only [World.size_alloc, World.size_setCell, World.size_drew, size_drewN]; omega) | omega))⟩
      case measure => simp [intOf]; omega
    · obtain rfl : k = xs.length := by omega
      go_wp2
      go_ret
      exact ⟨rfl, ⟨hU.ints hB (Nat.le_refl _), fun a ha => by cases ha; exact ⟨Nat.le_refl _, hB.lt, hB.frozen⟩⟩, hE⟩
theorem grown_new' {w w1 w2 : World} {r : Nat} (hE : Ext w w1) (hr : w.heap.size ≤ r) (h : w1.grownBy w2 (some r)) : Ext w w2 :=
  ⟨h.os.trans hE.os, h.tape.trans hE.tape, h.output.trans hE.output, Nat.le_trans hE.size h.size, fun k hk => (h.block k (Nat.lt_of_lt_of_le hk hE.size) (fun e => by have := Option.some.inj e; omega)).trans (hE.block k hk)⟩
/-- rows copied into the cells, each in a block apart -/
structure UptoR (w : World) (g : Nat) (cs : Array Value) (xs : List (List Int)) (ps : List PR) : Prop where
  size : cs.size = xs.length
  pre : ps.map PR.xs = xs.take ps.length
  cell : ∀ (i : Nat) (p : PR), ps[i]? = some p → cs[i]? = some p.cell
  row : ∀ p ∈ ps, RowIn w (g + 1) p
  apart : ∀ (i j : Nat) (p q : PR) a b, i < j → ps[i]? = some p → ps[j]? = some q → p.A = some a → q.A = some b → a.block ≠ b.block
theorem UptoR.ext {w w' : World} {g : Nat} {cs : Array Value} {xs : List (List Int)} {ps : List PR} (h : UptoR w g cs xs ps) (hE : Ext w w') : UptoR w' g cs xs ps := ⟨h.size, h.pre, h.cell, fun p hp => (h.row p hp).ext hE, h.apart⟩
theorem UptoR.step {w w1 : World} {g : Nat} {cs : Array Value} {xs : List (List Int)} {ps : List PR} {x : List Int} {c : Nat} (h : UptoR w g cs xs ps) (hx : xs[ps.length]? = some x) (hg : g < w.heap.size) (hE : Ext w w1) {A : Option Addr} (hr : RI w.heap.size w1 A x) :
    UptoR (w1.setCell ⟨g, ps.length, none⟩ (.slice A x.length c)) g (cs.setIfInBounds ps.length (.slice A x.length c)) xs (ps ++ [⟨A, c, x⟩]) := by
  have hk : ps.length < xs.length := (List.getElem?_eq_some_iff.1 hx).1
  have hnew : RowIn w1 (g + 1) ⟨A, c, x⟩ := (RowIn.of hr.1 hr.2).below (by omega)
  have keep : ∀ p, RowIn w1 (g + 1) p → RowIn (w1.setCell ⟨g, ps.length, none⟩ (.slice A x.length c)) (g + 1) p := fun p hp => hp.grown (row := some g) (grown_set _) (fun a ha e => by have := (hp.2 a ha).1; injection e with e; omega)
  refine ⟨by simp [h.size], ?_, fun i p hp => ?_, fun p hp => ?_, fun i j p q a b hij hp hq ha hb => ?_⟩
  · rw [List.map_append, h.pre, List.length_append, List.length_singleton, List.take_add_one, hx]
    rfl
  · rcases Nat.lt_or_ge i ps.length with hi | hi
    · rw [List.getElem?_append_left hi] at hp
      rw [Array.getElem?_setIfInBounds_ne (by omega)]
      exact h.cell i p hp
    · have hil := (List.getElem?_eq_some_iff.1 hp).1
      rw [List.length_append, List.length_singleton] at hil
      obtain rfl : i = ps.length := by omega
      rw [List.getElem?_append_right (Nat.le_refl _), Nat.sub_self] at hp
      cases hp
      rw [Array.getElem?_setIfInBounds_self_of_lt (by rw [h.size]; omega)]
      rfl
  · rcases List.mem_append.1 hp with hp | hp
    · exact keep p ((h.row p hp).ext hE)
    · obtain rfl := List.mem_singleton.1 hp
      exact keep _ hnew
  · have hjl := (List.getElem?_eq_some_iff.1 hq).1
    rw [List.length_append, List.length_singleton] at hjl
    rw [List.getElem?_append_left (by omega)] at hp
    rcases Nat.lt_or_ge j ps.length with hjl2 | hjl2
    · rw [List.getElem?_append_left hjl2] at hq
      exact h.apart i j p q a b hij hp hq ha hb
    · obtain rfl : j = ps.length := by omega
      rw [List.getElem?_append_right (Nat.le_refl _), Nat.sub_self] at hq
      cases hq
      have h1 := ((h.row p (List.mem_of_getElem? hp)).2 a ha).2.1
      have h2 := (hr.2 b hb).1
      omega
theorem UptoR.done {w : World} {g : Nat} {cs : Array Value} {xs : List (List Int)} {ps : List PR} (h : UptoR w g cs xs ps) (hl : ps.length = xs.length) (hB : Blk w g 47 cs) : RI2 g w (some ⟨g, 0, none⟩) xs (fun i => (ps[i]?).bind PR.A) := by
  have hpx : ps.map PR.xs = xs := by rw [h.pre, hl, List.take_length]
  refine ⟨fun i x hx => ?_, fun i j a b hij hj ha hb => ?_⟩
  · rw [← hpx, List.getElem?_map] at hx
    obtain ⟨p, hp, rfl⟩ := Option.map_eq_some_iff.1 hx
    have hr := h.row p (List.mem_of_getElem? hp)
    simp only [hp, Option.bind_some]
    refine ⟨g, 0, p.c, rfl, Nat.le_refl _, hB.lt, ?_, hr.1, fun a ha => ?_⟩
    · rw [hB.cell, Nat.zero_add]
      exact h.cell i p hp
    · obtain ⟨h1, h2, h3⟩ := hr.2 a ha
      exact ⟨by omega, h2, h3, by omega⟩
  · obtain ⟨p, hp, ha⟩ := Option.bind_eq_some_iff.1 ha
    obtain ⟨q, hq, hb⟩ := Option.bind_eq_some_iff.1 hb
    exact h.apart i j p q a b hij hp hq ha hb
set_option maxHeartbeats 2000000 in
theorem toIntSS_c (xs : List (List Int)) (S : Nat → Prop) (A : Option Addr) (c : Nat) (w : World) (hx : Rows2 S w A xs) (hs : SmallR xs) :
    Calls Tryz.prog 11 #[.slice A xs.length c] w (FreshR xs w) := by
  have hn := hs.len
  obtain ⟨i0, hi, hz0, hz1, hz2⟩ := info_parts infoRowC
  have hmk := fun W => run_make_rowN (P := Tryz.prog) 23 47 i0 _ Tryz.underlying23 hi hz0 .i64 .i64 xs.length xs.length (Nat.le_refl _) (by rw [hz2]; omega) (by omega) W
  rw [hz1] at hmk
  have HS := Lib.hid hs
  clear hs
  go_enter Tryz.func11, Tryz.ntmps11
  go_wp2
  go_loopw [4] (fun i wr => ∃ (ps : List PR) (cs : Array Value), ps.length ≤ xs.length ∧ i = .int .i64 (ps.length : Nat) ∧ Blk wr w.heap.size 47 cs ∧ UptoR wr w.heap.size cs xs ps ∧ Ext w wr) (fun i _ => xs.length - (intOf i).toNat)
  case atStart => exact ⟨[], _, Nat.zero_le _, rfl, Blk.new _ _ _, ⟨by simp [madeCells], rfl, (fun i p h => by simp at h), (fun p h => by cases h), (fun i j p q a b _ h => by simp at h)⟩, by (repeat' (first | (with_reducible exact Below.refl _ _) | (with_reducible refine Below.mono (by assumption) ?_) | (with_reducible refine Below.trans ?_ (Below.mono (by assumption) ?_)) | (with_reducible refine Below.alloc ?_ ?_ _) | (with_reducible refine Below.drew ?_) | (with_reducible refine below_drewN ?_ _) | (with_reducible refine Below.setCell ?_ ?_ _) | (simp only [World.size_alloc, World.size_setCell, World.size_drew, size_drewN]; omega) | omega))⟩
  case round =>
    obtain ⟨ps, cs, hk, rfl, hB, hU, hE⟩ := hrel
    by_cases hlt : ps.length < xs.length
    · obtain ⟨l, A', cap, b, off, hxk, rfl, _, hb0, hI, c0⟩ := (hx.ext hE).at_ hlt
      have hon := HS.out.row hxk
      have HX := Lib.hid hxk
      have HU := Lib.hid hU
      have HB := Lib.hid hB
      have HE := Lib.hid hE
      have hg := hB.lt
      have hs3 := hU.size
      have hki : ((ps.length : Nat) : Int) < xs.length := by omega
      clear hxk hU hB hE
      go_wp2_with (fail)
      go_at_call 34
      refine (toIntS_c l _ _ _ _ hI hon).mono ?_
      rintro e w1 ⟨rfl, hRI, hb⟩
      have hB1 := HB.out.ext hb
      obtain ⟨u0, d0⟩ := hB1.at_ (i := ps.length) (by omega)
      have hfz := hB1.frozen
      have hg1 := hB1.lt
      have hst := HU.out.step (c := l.length) HX.out hg hb hRI
      have HSt := Lib.hid hst
      have HB1 := Lib.hid hB1
      have HEx := Lib.hid (show Ext w (w1.setCell ⟨w.heap.size, ps.length, none⟩ (.slice (some ⟨wr.heap.size, 0, none⟩) l.length l.length)) from grown_new' (HE.out.tr hb) (Nat.le_refl _) (grown_set _))
      clear hst hRI hB1 hb hs3
      go_wp2
      go_roundw
      case rel => exact ⟨_, _, by rw [List.length_append, List.length_singleton]; omega, by rw [List.length_append, List.length_singleton]; go_num, HB1.out.set_ _ _, HSt.out, HEx.out⟩
      case measure => simp [intOf]; omega
    · have hl : ps.length = xs.length := by omega
      have hd := hU.done hl hB
      have HD := Lib.hid hd
      have HE := Lib.hid hE
      have HL := Lib.hid hl
      clear hd hB hU hE
      go_wp2
      go_ret
      exact ⟨_, _, rfl, HD.out.rows, ⟨_, HD.out⟩, HE.out⟩
end Go.Proofs.YtdohbmegkkkchaaGreat
