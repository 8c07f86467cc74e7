/-
  Contracts of FirstReads and LastWrites, the reference's and the program's.
-/
import Derived.Test.YtdgfipoibnjhaaaOwn
namespace Go.Proofs.Ytdgfipoibnjhaaa
set_option linter.unusedSimpArgs false
set_option linter.unusedVariables false
set_option maxRecDepth 100000
open Go.RowKit

theorem info3 : (Try.prog.info? 59).map (fun i => (i.zero, i.size, i.bytes)) = some (some (.agg #[.int .i64 0, .int .i64 0, .int .i64 0]), 3, 24) := by kernel_rfl

/-- a key was used by one of the first operations -/
def touched (ops : List T3) (key : Int) : Nat → Bool
  | 0 => false
  | n + 1 => match ops[n]? with
    | some o => decide (o.b = key) || touched ops key n
    | none => touched ops key n
/-- the last write to a key among the first operations -/
def lastW (ops : List T3) (key : Int) : Nat → Option T3
  | 0 => none
  | n + 1 => match ops[n]? with
    | some o => if o.a = 2 ∧ o.b = key then some o else lastW ops key n
    | none => lastW ops key n
def lwsTo (ops : List T3) : Nat → List T3
  | 0 => []
  | k + 1 => lwsTo ops k ++ (lastW ops k ops.length).toList
theorem lastW_succ {ops : List T3} {key : Int} {n : Nat} {o : T3} (h : ops[n]? = some o) : lastW ops key (n + 1) = if o.a = 2 ∧ o.b = key then some o else lastW ops key n := by
  simp [lastW, h]
theorem lwsTo_some {ops : List T3} {k : Nat} {o : T3} (h : lastW ops k ops.length = some o) : lwsTo ops (k + 1) = lwsTo ops k ++ [o] := by simp [lwsTo, h]
theorem lwsTo_none {ops : List T3} {k : Nat} (h : lastW ops k ops.length = none) : lwsTo ops (k + 1) = lwsTo ops k := by simp [lwsTo, h]
theorem lwsTo_len (ops : List T3) (n : Nat) : (lwsTo ops n).length ≤ n := by
  induction n with
  | zero => simp [lwsTo]
  | succ n ih =>
    unfold lwsTo
    cases lastW ops n ops.length <;> simp <;> omega

set_option maxHeartbeats 4000000 in
theorem specLastWrites_ok (t : TxnT) (S : Nat → Prop) (A : Option Addr) (c : Nat) (w : World) (hx : Ops S w A t.ops) (hn : t.ops.length ≤ 1048576) (hv : txnv t = true) :
    Calls Try.prog 35 #[.agg #[.int .i64 t.sess, .slice A t.ops.length c, .bool t.done]] w (Fresh (lwsTo t.ops 3) w) := by
  have C := fun w hx => specTxnValid_c t S A c w hx hn
  rw [hv] at C
  have C := Lib.hid C
  go_enter Try.func35, Try.ntmps35
  go_wp2
  have hO : Own3 ((w.alloc (.cells #[.int .i64 t.sess, .slice A t.ops.length c, .bool t.done] 46)).alloc (.cells #[] 59)) (w.heap.size + 1) 59 (.slice (some ⟨w.heap.size + 1, 0, none⟩) 0 0) [] := Own3.made _ _ _ (by simp) (by simp) (by omega) rfl
  go_loopw [3, 4] (fun v i wr => ∃ k : Nat, k ≤ 3 ∧ i = .int .i64 k ∧ Own3 wr (w.heap.size + 1) 59 v (lwsTo t.ops k) ∧ Ext (w.alloc (.cells #[.int .i64 t.sess, .slice A t.ops.length c, .bool t.done] 46)) wr) (fun _ i _ => 3 - (intOf i).toNat)
  case atStart => exact ⟨0, by omega, rfl, hO, by (repeat' (first | (with_reducible exact Below.refl _ _) | (with_reducible refine Below.mono (by assumption) ?_) | (with_reducible refine Below.trans ?_ (Below.mono (by assumption) ?_)) | (with_reducible refine Below.alloc ?_ ?_ _) | (with_reducible refine Below.drew ?_) | (with_reducible refine below_drewN ?_ _) | (with_reducible refine Below.setCell ?_ ?_ _) | (simp only [World.size_alloc, World.size_setCell, World.size_drew, size_drewN]; omega) | omega))⟩
  case round =>
    obtain ⟨k, hk, rfl, hown, hE⟩ := hrel
    clear hO
    have hE0 : Ext w wr := by have h := hE.size; simp only [World.size_alloc] at h; (repeat' (first | (with_reducible exact Below.refl _ _) | (with_reducible refine Below.mono (by assumption) ?_) | (with_reducible refine Below.trans ?_ (Below.mono (by assumption) ?_)) | (with_reducible refine Below.alloc ?_ ?_ _) | (with_reducible refine Below.drew ?_) | (with_reducible refine below_drewN ?_ _) | (with_reducible refine Below.setCell ?_ ?_ _) | (simp only [World.size_alloc, World.size_setCell, World.size_drew, size_drewN]; omega) | omega))
    obtain ⟨hcr, hfr, hzr, hsr⟩ := bcell hE
    simp only [World.size_alloc] at hsr
    have l0 : w.heap.size < wr.heap.size := hsr
    by_cases hlt : k < 3
    · go_wp2_with (go_at_call 32; refine (C.out _ (hx.ext (by (repeat' (first | (with_reducible exact Below.refl _ _) | (with_reducible refine Below.mono (by assumption) ?_) | (with_reducible refine Below.trans ?_ (Below.mono (by assumption) ?_)) | (with_reducible refine Below.alloc ?_ ?_ _) | (with_reducible refine Below.drew ?_) | (with_reducible refine below_drewN ?_ _) | (with_reducible refine Below.setCell ?_ ?_ _) | (simp only [World.size_alloc, World.size_setCell, World.size_drew, size_drewN]; omega) | omega))))).mono ?_; rintro e w1 ⟨rfl, hb⟩; obtain ⟨hc, hf, hz, hs⟩ := bcell hb; (try simp only [World.size_alloc, World.size_setCell, World.size_drew, size_drewN] at hs); (first | have l0 := Nat.lt_of_lt_of_le l0 (show _ ≤ w1.heap.size by omega) | have l0 : w.heap.size < w1.heap.size := (by omega) | skip); (try have l0e := Nat.le_of_lt l0); (try have l0f := Nat.le_add_right_of_le (k := 1) l0e); (try have l1 := Nat.lt_of_lt_of_le l1 (show _ ≤ w1.heap.size by omega)); (try have l1e := Nat.le_of_lt l1); (try have l1f := Nat.le_add_right_of_le (k := 1) l1e); (try have l2 := Nat.lt_of_lt_of_le l2 (show _ ≤ w1.heap.size by omega)); (try have l2e := Nat.le_of_lt l2); (try have l2f := Nat.le_add_right_of_le (k := 1) l2e); (try have l3 := Nat.lt_of_lt_of_le l3 (show _ ≤ w1.heap.size by omega)); (try have l3e := Nat.le_of_lt l3); (try have l3f := Nat.le_add_right_of_le (k := 1) l3e); have hr1 : Ext wr w1 := (by (repeat' (first | (with_reducible exact Below.refl _ _) | (with_reducible refine Below.mono (by assumption) ?_) | (with_reducible refine Below.trans ?_ (Below.mono (by assumption) ?_)) | (with_reducible refine Below.alloc ?_ ?_ _) | (with_reducible refine Below.drew ?_) | (with_reducible refine below_drewN ?_ _) | (with_reducible refine Below.setCell ?_ ?_ _) | (simp only [World.size_alloc, World.size_setCell, World.size_drew, size_drewN]; omega) | omega))); obtain ⟨z0, z1, z2⟩ := box3 (hE.tr hr1))
      have hx1 := hx.ext (hE0.tr hr1)
      have hown1 := hown.ext hr1
      have hE1 := hE.tr hr1
      have hs1 := hE1.size
      simp only [World.size_alloc] at hs1
      clear hc hf hz hcr hfr hzr hown
      go_loop [3, 5] (fun v i => ∃ m : Nat, m ≤ t.ops.length ∧ v = u3 ∧ i = .int .i64 ((m : Int) - 1) ∧ lastW t.ops k t.ops.length = lastW t.ops k m) (fun _ i => (intOf i + 1).toNat)
      case atStart => exact ⟨t.ops.length, Nat.le_refl _, rfl, rfl, rfl⟩
      case round =>
        obtain ⟨m, hm, rfl, rfl, hbe⟩ := hrel
        have HB := Lib.hid hbe
        clear hbe
        by_cases hlt : 0 < m
        · obtain ⟨q, rfl⟩ : ∃ q, m = q + 1 := ⟨m - 1, by omega⟩
          obtain ⟨x0, x1, x2, b, off, hxk, rfl, _, hb0, c0, c1, c2⟩ := hx1.at_ (i := q) (by omega)
          have hbs := lastW_succ (key := (k : Int)) hxk
          clear hxk
          have HS := Lib.hid hbs
          clear hbs
          rw [show ((q + 1 : Nat) : Int) - 1 = (q : Int) by omega]
          go_wp2_with (at_builtin; refine wpList_append3 _ rfl _ _ 44 rfl (w.heap.size + 1) 59 Try.underlying44 info3 rfl _ (lwsTo t.ops k) rfl (hown1.ext (by (repeat' (first | (with_reducible exact Below.refl _ _) | (with_reducible refine Below.mono (by assumption) ?_) | (with_reducible refine Below.trans ?_ (Below.mono (by assumption) ?_)) | (with_reducible refine Below.alloc ?_ ?_ _) | (with_reducible refine Below.drew ?_) | (with_reducible refine below_drewN ?_ _) | (with_reducible refine Below.setCell ?_ ?_ _) | (simp only [World.size_alloc, World.size_setCell, World.size_drew, size_drewN]; omega) | omega)))) _ x0 x1 x2 rfl ?_ ?_ ?_ ?_ ?_ ?_)
          case roundEnd =>
            have hne : ¬ (x0 = 2 ∧ x1 = (k : Int)) := by
              first
                | (have h : (x1 == (k : Int)) = false := by assumption
                   exact fun e => absurd e.2 (by simpa using h))
                | (have h : ¬ x0 = 2 := by assumption
                   exact fun e => h e.1)
            exact ⟨⟨q, by omega, rfl, rfl, by rw [HB.out, HS.out, if_neg hne]⟩, by first | (simp [intOf]; done) | (simp [intOf]; omega)⟩
          case roundEnd =>
            have hne : ¬ (x0 = 2 ∧ x1 = (k : Int)) := by
              first
                | (have h : (x1 == (k : Int)) = false := by assumption
                   exact fun e => absurd e.2 (by simpa using h))
                | (have h : ¬ x0 = 2 := by assumption
                   exact fun e => h e.1)
            exact ⟨⟨q, by omega, rfl, rfl, by rw [HB.out, HS.out, if_neg hne]⟩, by first | (simp [intOf]; done) | (simp [intOf]; omega)⟩
          · have := lwsTo_len t.ops k
            omega
          · intro v' w' hown' hgrow
            have hr : x0 = 2 := by assumption
            have hkey : x1 = (k : Int) := by simpa using ‹(x1 == (k : Int)) = true›
            have hlw : lastW t.ops k t.ops.length = some ⟨2, x1, x2⟩ := by rw [HB.out, HS.out, if_pos ⟨hr, hkey⟩, hr]
            have hap := lwsTo_some hlw
            rw [← hap] at hown'
            have hE' : Ext (w.alloc (.cells #[.int .i64 t.sess, .slice (some ⟨b, off, none⟩) t.ops.length c, .bool t.done] 46)) w' := by
              refine Below.grown (w := w1.alloc (.cells #[.int .i64 2, .int .i64 x1, .int .i64 x2] 59)) (by (repeat' (first | (with_reducible exact Below.refl _ _) | (with_reducible refine Below.mono (by assumption) ?_) | (with_reducible refine Below.trans ?_ (Below.mono (by assumption) ?_)) | (with_reducible refine Below.alloc ?_ ?_ _) | (with_reducible refine Below.drew ?_) | (with_reducible refine below_drewN ?_ _) | (with_reducible refine Below.setCell ?_ ?_ _) | (simp only [World.size_alloc, World.size_setCell, World.size_drew, size_drewN]; omega) | omega))) hgrow (by simp only [World.size_alloc]; omega) (fun g hg => ?_)
              have := (World.ownsRow.lt hown1 g hg).1
              simp only [World.size_alloc]
              exact this
            clear hap hgrow hlw
            go_wp2
            exact ⟨⟨k + 1, by omega, by go_num, hown', hE'⟩, by simp [intOf]; omega⟩
        · obtain rfl : m = 0 := by omega
          go_wp2
          exact ⟨⟨k + 1, by omega, by go_num, by rw [lwsTo_none (by rw [HB.out]; rfl)]; exact hown1, hE1⟩, by simp [intOf]; omega⟩
    · obtain rfl : k = 3 := by omega
      go_wp2_with (go_at_call 32; refine (C.out _ (hx.ext (by (repeat' (first | (with_reducible exact Below.refl _ _) | (with_reducible refine Below.mono (by assumption) ?_) | (with_reducible refine Below.trans ?_ (Below.mono (by assumption) ?_)) | (with_reducible refine Below.alloc ?_ ?_ _) | (with_reducible refine Below.drew ?_) | (with_reducible refine below_drewN ?_ _) | (with_reducible refine Below.setCell ?_ ?_ _) | (simp only [World.size_alloc, World.size_setCell, World.size_drew, size_drewN]; omega) | omega))))).mono ?_; rintro e w1 ⟨rfl, hb⟩; obtain ⟨hc, hf, hz, hs⟩ := bcell hb; (try simp only [World.size_alloc, World.size_setCell, World.size_drew, size_drewN] at hs); (first | have l0 := Nat.lt_of_lt_of_le l0 (show _ ≤ w1.heap.size by omega) | have l0 : w.heap.size < w1.heap.size := (by omega) | skip); (try have l0e := Nat.le_of_lt l0); (try have l0f := Nat.le_add_right_of_le (k := 1) l0e); (try have l1 := Nat.lt_of_lt_of_le l1 (show _ ≤ w1.heap.size by omega)); (try have l1e := Nat.le_of_lt l1); (try have l1f := Nat.le_add_right_of_le (k := 1) l1e); (try have l2 := Nat.lt_of_lt_of_le l2 (show _ ≤ w1.heap.size by omega)); (try have l2e := Nat.le_of_lt l2); (try have l2f := Nat.le_add_right_of_le (k := 1) l2e); (try have l3 := Nat.lt_of_lt_of_le l3 (show _ ≤ w1.heap.size by omega)); (try have l3e := Nat.le_of_lt l3); (try have l3f := Nat.le_add_right_of_le (k := 1) l3e))
      go_ret
      exact hown.fresh (by omega) hE0

def encT3 (o : T3) : Value := .agg #[.int .i64 o.a, .int .i64 o.b, .int .i64 o.c]
def lmap (ops : List T3) (k : Nat) : Int → Option Value := fun key => (lastW ops key k).map encT3
theorem lmap_put {ops : List T3} {k : Nat} {o : T3} (h : ops[k]? = some o) (hw : o.a = 2) : (fun k' => if k' = o.b then some (encT3 o) else lmap ops k k') = lmap ops (k + 1) := by
  funext k'
  unfold lmap
  rw [lastW_succ h]
  by_cases e : k' = o.b
  · subst e; simp [hw]
  · rw [if_neg e, if_neg (fun h => e h.2.symm)]
theorem lmap_stay {ops : List T3} {k : Nat} {o : T3} (h : ops[k]? = some o) (hw : o.a ≠ 2) : lmap ops k = lmap ops (k + 1) := by
  funext k'
  unfold lmap
  rw [lastW_succ h, if_neg (fun h => hw h.1)]

theorem MapF.more {κ : Type} [DecidableEq κ] {ek : κ → Value} {w : World} {b : Nat} {f : κ → Option Value} {n m : Nat} (h : MapF ek w b f n) (hm : n ≤ m) : MapF ek w b f m := by
  obtain ⟨es, clk, kvs, h0, h1, h2, h3⟩ := h
  exact ⟨es, clk, kvs, h0, h1, h2, by omega⟩

set_option maxHeartbeats 4000000 in
theorem lastWrites_c (t : TxnT) (S : Nat → Prop) (A : Option Addr) (c : Nat) (w : World) (hx : Ops S w A t.ops) (hn : t.ops.length ≤ 1048576) :
    Calls Try.prog 52 #[.agg #[.int .i64 t.sess, .slice A t.ops.length c, .bool t.done]] w (Fresh (lwsTo t.ops 3) w) := by
  have hmm := @run_makeMap Try.prog
  go_enter Try.func52, Try.ntmps52
  go_wp2
  have hM : MapF (fun k : Int => Value.int .i64 k) ((w.alloc (.cells #[.int .i64 t.sess, .slice A t.ops.length c, .bool t.done] 46)).alloc (.map #[] 0)) (w.heap.size + 1) (lmap t.ops 0) 0 := by
    have h := MapF.made (ek := fun k : Int => Value.int .i64 k) (w.alloc (.cells #[.int .i64 t.sess, .slice A t.ops.length c, .bool t.done] 46))
    simp only [World.size_alloc] at h
    exact h
  go_loopw [14] (fun i wr => ∃ k : Nat, k ≤ t.ops.length ∧ i = .int .i64 k ∧ MapF (fun k : Int => Value.int .i64 k) wr (w.heap.size + 1) (lmap t.ops k) k ∧ Ext (w.alloc (.cells #[.int .i64 t.sess, .slice A t.ops.length c, .bool t.done] 46)) wr) (fun i _ => t.ops.length - (intOf i).toNat)
  case atStart => exact ⟨0, Nat.zero_le _, rfl, hM, by (repeat' (first | (with_reducible exact Below.refl _ _) | (with_reducible refine Below.mono (by assumption) ?_) | (with_reducible refine Below.trans ?_ (Below.mono (by assumption) ?_)) | (with_reducible refine Below.alloc ?_ ?_ _) | (with_reducible refine Below.drew ?_) | (with_reducible refine below_drewN ?_ _) | (with_reducible refine Below.setCell ?_ ?_ _) | (simp only [World.size_alloc, World.size_setCell, World.size_drew, size_drewN]; omega) | omega))⟩
  case round =>
    obtain ⟨k, hk, rfl, hmap, hE⟩ := hrel
    clear hM hmm
    have hE0 : Ext w wr := by have h := hE.size; simp only [World.size_alloc] at h; (repeat' (first | (with_reducible exact Below.refl _ _) | (with_reducible refine Below.mono (by assumption) ?_) | (with_reducible refine Below.trans ?_ (Below.mono (by assumption) ?_)) | (with_reducible refine Below.alloc ?_ ?_ _) | (with_reducible refine Below.drew ?_) | (with_reducible refine below_drewN ?_ _) | (with_reducible refine Below.setCell ?_ ?_ _) | (simp only [World.size_alloc, World.size_setCell, World.size_drew, size_drewN]; omega) | omega))
    have hsr := hE.size
    simp only [World.size_alloc] at hsr
    by_cases hlt : k < t.ops.length
    · obtain ⟨x0, x1, x2, b, off, hxk, rfl, _, hb0, c0, c1, c2⟩ := (hx.ext hE0).at_ hlt
      have HX := Lib.hid hxk
      clear hxk
      by_cases hr : x0 = 2
      · have hr0 : (x0 == 2) = true := by simp [hr]
        go_wp2_with (first
          | (go_at_call 60; refine (writes_c _ _ _ _).mono ?_; rintro e w1 ⟨rfl, hb⟩; obtain ⟨hc, hf, hz, hs⟩ := bcell hb; (try simp only [World.size_alloc, World.size_setCell, World.size_drew, size_drewN] at hs); (first | have l0 := Nat.lt_of_lt_of_le l0 (show _ ≤ w1.heap.size by omega) | have l0 : w.heap.size < w1.heap.size := (by omega) | skip); (try have l0e := Nat.le_of_lt l0); (try have l0f := Nat.le_add_right_of_le (k := 1) l0e); (try have l1 := Nat.lt_of_lt_of_le l1 (show _ ≤ w1.heap.size by omega)); (try have l1e := Nat.le_of_lt l1); (try have l1f := Nat.le_add_right_of_le (k := 1) l1e); (try have l2 := Nat.lt_of_lt_of_le l2 (show _ ≤ w1.heap.size by omega)); (try have l2e := Nat.le_of_lt l2); (try have l2f := Nat.le_add_right_of_le (k := 1) l2e); (try have l3 := Nat.lt_of_lt_of_le l3 (show _ ≤ w1.heap.size by omega)); (try have l3e := Nat.le_of_lt l3); (try have l3f := Nat.le_add_right_of_le (k := 1) l3e); have hr1 : Ext wr w1 := (by (repeat' (first | (with_reducible exact Below.refl _ _) | (with_reducible refine Below.mono (by assumption) ?_) | (with_reducible refine Below.trans ?_ (Below.mono (by assumption) ?_)) | (with_reducible refine Below.alloc ?_ ?_ _) | (with_reducible refine Below.drew ?_) | (with_reducible refine below_drewN ?_ _) | (with_reducible refine Below.setCell ?_ ?_ _) | (simp only [World.size_alloc, World.size_setCell, World.size_drew, size_drewN]; omega) | omega))); obtain ⟨y0, y1, y2⟩ := box3 hb)
          | (at_mapUpdate; refine wpList_putF _ rfl _ _ _ 85 rfl Try.underlying85 (int_keylaw Try.underlying3) _ _ _ rfl (hmap.ext (by (repeat' (first | (with_reducible exact Below.refl _ _) | (with_reducible refine Below.mono (by assumption) ?_) | (with_reducible refine Below.trans ?_ (Below.mono (by assumption) ?_)) | (with_reducible refine Below.alloc ?_ ?_ _) | (with_reducible refine Below.drew ?_) | (with_reducible refine below_drewN ?_ _) | (with_reducible refine Below.setCell ?_ ?_ _) | (simp only [World.size_alloc, World.size_setCell, World.size_drew, size_drewN]; omega) | omega)))) x1 _ rfl rfl ?_))
        intro w2 hmap2 hgrow2
        have hmap3 : MapF (fun k : Int => Value.int .i64 k) w2 (w.heap.size + 1) (lmap t.ops (k + 1)) (k + 1) := by rw [← lmap_put HX.out hr]; simp only [hr] at hmap2 ⊢; exact hmap2
        have hE2 := Below.grown (hE.tr hr1) hgrow2 (hE.tr hr1).size (fun g hg => by cases hg; simp only [World.size_alloc]; omega)
        clear hmap2
        go_wp2
        exact ⟨⟨k + 1, by omega, by go_num, hmap3, hE2⟩, by simp [intOf]; omega⟩
      · have hr0 : (x0 == 2) = false := by simp [hr]
        go_wp2_with (go_at_call 60; refine (writes_c _ _ _ _).mono ?_; rintro e w1 ⟨rfl, hb⟩; obtain ⟨hc, hf, hz, hs⟩ := bcell hb; (try simp only [World.size_alloc, World.size_setCell, World.size_drew, size_drewN] at hs); (first | have l0 := Nat.lt_of_lt_of_le l0 (show _ ≤ w1.heap.size by omega) | have l0 : w.heap.size < w1.heap.size := (by omega) | skip); (try have l0e := Nat.le_of_lt l0); (try have l0f := Nat.le_add_right_of_le (k := 1) l0e); (try have l1 := Nat.lt_of_lt_of_le l1 (show _ ≤ w1.heap.size by omega)); (try have l1e := Nat.le_of_lt l1); (try have l1f := Nat.le_add_right_of_le (k := 1) l1e); (try have l2 := Nat.lt_of_lt_of_le l2 (show _ ≤ w1.heap.size by omega)); (try have l2e := Nat.le_of_lt l2); (try have l2f := Nat.le_add_right_of_le (k := 1) l2e); (try have l3 := Nat.lt_of_lt_of_le l3 (show _ ≤ w1.heap.size by omega)); (try have l3e := Nat.le_of_lt l3); (try have l3f := Nat.le_add_right_of_le (k := 1) l3e); have hr1 : Ext wr w1 := (by (repeat' (first | (with_reducible exact Below.refl _ _) | (with_reducible refine Below.mono (by assumption) ?_) | (with_reducible refine Below.trans ?_ (Below.mono (by assumption) ?_)) | (with_reducible refine Below.alloc ?_ ?_ _) | (with_reducible refine Below.drew ?_) | (with_reducible refine below_drewN ?_ _) | (with_reducible refine Below.setCell ?_ ?_ _) | (simp only [World.size_alloc, World.size_setCell, World.size_drew, size_drewN]; omega) | omega))))
        exact ⟨⟨k + 1, by omega, by go_num, by rw [← lmap_stay HX.out hr]; exact (hmap.ext hr1).more (by omega), by (repeat' (first | (with_reducible exact Below.refl _ _) | (with_reducible refine Below.mono (by assumption) ?_) | (with_reducible refine Below.trans ?_ (Below.mono (by assumption) ?_)) | (with_reducible refine Below.alloc ?_ ?_ _) | (with_reducible refine Below.drew ?_) | (with_reducible refine below_drewN ?_ _) | (with_reducible refine Below.setCell ?_ ?_ _) | (simp only [World.size_alloc, World.size_setCell, World.size_drew, size_drewN]; omega) | omega))⟩, by simp [intOf]; omega⟩
    · obtain rfl : k = t.ops.length := by omega
      obtain ⟨m, hm, hlen⟩ := hmap.len (t := 85) Try.underlying85
      obtain ⟨i0, hi, hz0, hz1, hz2⟩ := info_parts info3
      have hmk : (Instr.makeSlice 44 (.int .i64 0) (.int .i64 m)).run Try.prog wr = _ := run_make_rowN (P := Try.prog) 44 59 i0 _ Try.underlying44 hi hz0 .i64 .i64 0 m (by omega) (by rw [hz2]; omega) (by omega) wr
      rw [hz1] at hmk
      have hbl := hmap.lt
      have hM2 : MapF (fun k : Int => Value.int .i64 k) (wr.alloc (.cells (madeCells (Value.agg #[.int .i64 0, .int .i64 0, .int .i64 0]).cells (m * 3)) 59)) (w.heap.size + 1) (lmap t.ops t.ops.length) t.ops.length := hmap.ext (by (repeat' (first | (with_reducible exact Below.refl _ _) | (with_reducible refine Below.mono (by assumption) ?_) | (with_reducible refine Below.trans ?_ (Below.mono (by assumption) ?_)) | (with_reducible refine Below.alloc ?_ ?_ _) | (with_reducible refine Below.drew ?_) | (with_reducible refine below_drewN ?_ _) | (with_reducible refine Below.setCell ?_ ?_ _) | (simp only [World.size_alloc, World.size_setCell, World.size_drew, size_drewN]; omega) | omega)))
      have hO2 : Own3 (wr.alloc (.cells (madeCells (Value.agg #[.int .i64 0, .int .i64 0, .int .i64 0]).cells (m * 3)) 59)) (w.heap.size + 2) 59 (.slice (some ⟨wr.heap.size, 0, none⟩) 0 m) (lwsTo t.ops 0) :=
        Own3.made wr _ m rfl (by omega) (by omega) (by simp [madeCells])
      go_wp2
      clear hmk hmap
      obtain ⟨wo, rfl⟩ : ∃ wo : World, wo = wr := ⟨_, rfl⟩
      go_loopw [6, 28] (fun v i wr => ∃ j : Nat, j ≤ 3 ∧ i = .int .i64 j ∧ Own3 wr (w.heap.size + 2) 59 v (lwsTo t.ops j) ∧ MapF (fun k : Int => Value.int .i64 k) wr (w.heap.size + 1) (lmap t.ops t.ops.length) t.ops.length ∧ Ext (w.alloc (.cells #[.int .i64 t.sess, .slice A t.ops.length c, .bool t.done] 46)) wr) (fun _ i _ => 3 - (intOf i).toNat)
      case atStart => exact ⟨0, by omega, rfl, hO2, hM2, by (repeat' (first | (with_reducible exact Below.refl _ _) | (with_reducible refine Below.mono (by assumption) ?_) | (with_reducible refine Below.trans ?_ (Below.mono (by assumption) ?_)) | (with_reducible refine Below.alloc ?_ ?_ _) | (with_reducible refine Below.drew ?_) | (with_reducible refine below_drewN ?_ _) | (with_reducible refine Below.setCell ?_ ?_ _) | (simp only [World.size_alloc, World.size_setCell, World.size_drew, size_drewN]; omega) | omega))⟩
      case round =>
        obtain ⟨j, hj, rfl, hown, hmap, hE'⟩ := hrel
        have hsr' := hE'.size
        simp only [World.size_alloc] at hsr'
        clear hM2 hO2
        have hE0' : Ext w wr := by (repeat' (first | (with_reducible exact Below.refl _ _) | (with_reducible refine Below.mono (by assumption) ?_) | (with_reducible refine Below.trans ?_ (Below.mono (by assumption) ?_)) | (with_reducible refine Below.alloc ?_ ?_ _) | (with_reducible refine Below.drew ?_) | (with_reducible refine below_drewN ?_ _) | (with_reducible refine Below.setCell ?_ ?_ _) | (simp only [World.size_alloc, World.size_setCell, World.size_drew, size_drewN]; omega) | omega))
        by_cases hlt : j < 3
        · have hl := hmap.look (int_keylaw Try.underlying3) (t := 85) Try.underlying85 (z := .agg #[.int .i64 0, .int .i64 0, .int .i64 0]) (fun W => Try.zeroValue59 W) (j : Int) true
          simp only [if_pos, lmap] at hl
          cases hw : lastW t.ops j t.ops.length with
          | none =>
            rw [hw] at hl
            simp only [Option.map_none, Option.getD_none, Option.isSome_none] at hl
            have hn' := lwsTo_none hw
            have HN := Lib.hid hn'
            clear hn' hw
            go_wp2
            exact ⟨⟨j + 1, by omega, by go_num, by rw [HN.out]; exact hown.ext (by (repeat' (first | (with_reducible exact Below.refl _ _) | (with_reducible refine Below.mono (by assumption) ?_) | (with_reducible refine Below.trans ?_ (Below.mono (by assumption) ?_)) | (with_reducible refine Below.alloc ?_ ?_ _) | (with_reducible refine Below.drew ?_) | (with_reducible refine below_drewN ?_ _) | (with_reducible refine Below.setCell ?_ ?_ _) | (simp only [World.size_alloc, World.size_setCell, World.size_drew, size_drewN]; omega) | omega))), hmap.ext (by (repeat' (first | (with_reducible exact Below.refl _ _) | (with_reducible refine Below.mono (by assumption) ?_) | (with_reducible refine Below.trans ?_ (Below.mono (by assumption) ?_)) | (with_reducible refine Below.alloc ?_ ?_ _) | (with_reducible refine Below.drew ?_) | (with_reducible refine below_drewN ?_ _) | (with_reducible refine Below.setCell ?_ ?_ _) | (simp only [World.size_alloc, World.size_setCell, World.size_drew, size_drewN]; omega) | omega))), by (repeat' (first | (with_reducible exact Below.refl _ _) | (with_reducible refine Below.mono (by assumption) ?_) | (with_reducible refine Below.trans ?_ (Below.mono (by assumption) ?_)) | (with_reducible refine Below.alloc ?_ ?_ _) | (with_reducible refine Below.drew ?_) | (with_reducible refine below_drewN ?_ _) | (with_reducible refine Below.setCell ?_ ?_ _) | (simp only [World.size_alloc, World.size_setCell, World.size_drew, size_drewN]; omega) | omega))⟩, by simp [intOf]; omega⟩
          | some o =>
            obtain ⟨x0, x1, x2⟩ := o
            rw [hw] at hl
            simp only [Option.map_some, Option.getD_some, Option.isSome_some, encT3] at hl
            have hn' := lwsTo_some hw
            have HN := Lib.hid hn'
            clear hn' hw
            go_wp2_with (at_builtin; refine wpList_append3 _ rfl _ _ 44 rfl (w.heap.size + 2) 59 Try.underlying44 info3 rfl _ (lwsTo t.ops j) rfl (hown.ext (by (repeat' (first | (with_reducible exact Below.refl _ _) | (with_reducible refine Below.mono (by assumption) ?_) | (with_reducible refine Below.trans ?_ (Below.mono (by assumption) ?_)) | (with_reducible refine Below.alloc ?_ ?_ _) | (with_reducible refine Below.drew ?_) | (with_reducible refine below_drewN ?_ _) | (with_reducible refine Below.setCell ?_ ?_ _) | (simp only [World.size_alloc, World.size_setCell, World.size_drew, size_drewN]; omega) | omega)))) _ x0 x1 x2 rfl ?_ ?_ ?_ ?_ ?_ ?_)
            · simp
            · simp
            · simp
            · have := lwsTo_len t.ops j
              omega
            · simp only [World.size_alloc]; omega
            · intro v' w' hown' hgrow
              have hownA := hown.ext (w' := (wr.alloc (.cells #[.int .i64 x0, .int .i64 x1, .int .i64 x2] 59)).alloc (.cells #[.int .i64 x0, .int .i64 x1, .int .i64 x2] 59)) (by (repeat' (first | (with_reducible exact Below.refl _ _) | (with_reducible refine Below.mono (by assumption) ?_) | (with_reducible refine Below.trans ?_ (Below.mono (by assumption) ?_)) | (with_reducible refine Below.alloc ?_ ?_ _) | (with_reducible refine Below.drew ?_) | (with_reducible refine below_drewN ?_ _) | (with_reducible refine Below.setCell ?_ ?_ _) | (simp only [World.size_alloc, World.size_setCell, World.size_drew, size_drewN]; omega) | omega)))
              have hmapA := hmap.ext (w' := (wr.alloc (.cells #[.int .i64 x0, .int .i64 x1, .int .i64 x2] 59)).alloc (.cells #[.int .i64 x0, .int .i64 x1, .int .i64 x2] 59)) (by (repeat' (first | (with_reducible exact Below.refl _ _) | (with_reducible refine Below.mono (by assumption) ?_) | (with_reducible refine Below.trans ?_ (Below.mono (by assumption) ?_)) | (with_reducible refine Below.alloc ?_ ?_ _) | (with_reducible refine Below.drew ?_) | (with_reducible refine below_drewN ?_ _) | (with_reducible refine Below.setCell ?_ ?_ _) | (simp only [World.size_alloc, World.size_setCell, World.size_drew, size_drewN]; omega) | omega)))
              have hmap3 := hmapA.grown hgrow (hownA.ne_map hmapA)
              have hE3 : Ext (w.alloc (.cells #[.int .i64 t.sess, .slice A t.ops.length c, .bool t.done] 46)) w' := Below.grown (w := (wr.alloc (.cells #[.int .i64 x0, .int .i64 x1, .int .i64 x2] 59)).alloc (.cells #[.int .i64 x0, .int .i64 x1, .int .i64 x2] 59)) (by (repeat' (first | (with_reducible exact Below.refl _ _) | (with_reducible refine Below.mono (by assumption) ?_) | (with_reducible refine Below.trans ?_ (Below.mono (by assumption) ?_)) | (with_reducible refine Below.alloc ?_ ?_ _) | (with_reducible refine Below.drew ?_) | (with_reducible refine below_drewN ?_ _) | (with_reducible refine Below.setCell ?_ ?_ _) | (simp only [World.size_alloc, World.size_setCell, World.size_drew, size_drewN]; omega) | omega))) hgrow (by simp only [World.size_alloc]; omega) (fun g hg => by
                have := (World.ownsRow.lt hown g hg).1
                simp only [World.size_alloc]
                omega)
              rw [← HN.out] at hown'
              clear hgrow hownA hmapA hl
              go_wp2
              exact ⟨⟨j + 1, by omega, by go_num, hown', hmap3, hE3⟩, by simp [intOf]; omega⟩
        · obtain rfl : j = 3 := by omega
          go_wp2
          go_ret
          exact hown.fresh (by omega) hE0'


end Go.Proofs.Ytdgfipoibnjhaaa
