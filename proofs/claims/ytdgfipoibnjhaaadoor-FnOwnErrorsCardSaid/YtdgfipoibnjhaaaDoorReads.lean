/-
  Contracts of FirstReads and LastWrites, the reference's and the program's.
-/
import Derived.Test.YtdgfipoibnjhaaaDoorOwn
namespace Go.Proofs.YtdgfipoibnjhaaaDoor
set_option linter.unusedSimpArgs false
set_option linter.unusedVariables false
set_option maxRecDepth 100000
open Go.RowKit

theorem before_succ {ops : List T3} {key : Int} {n : Nat} {o : T3} (h : ops[n]? = some o) : before ops key (n + 1) = if o.b = key then o.c else before ops key n := by
  simp [before, h]

set_option maxHeartbeats 1000000 in
theorem l4Before_c (t : TxnT) (S : Nat → Prop) (A : Option Addr) (c n : Nat) (key : Int) (w : World) (hx : Ops S w A t.ops) (hn : t.ops.length ≤ 1048576) (hle : n ≤ t.ops.length) :
    Calls Tryd.prog 38 #[.agg #[.int .i64 t.sess, .slice A t.ops.length c, .bool t.done], .int .i64 n, .int .i64 key] w fun e w' => e = .returned (.int .i64 (before t.ops key n)) ∧ Ext w w' := by
  obtain ⟨s, ops, d⟩ := t
  simp only at hx hn hle ⊢
  go_enter Tryd.func38, Tryd.ntmps38
  go_wp2
  go_loopw [7] (fun i wr => ∃ m : Nat, m ≤ n ∧ i = .int .i64 ((m : Int) - 1) ∧ before ops key n = before ops key m ∧ Ext (w.alloc (.cells #[.int .i64 s, .slice A ops.length c, .bool d] 32)) wr) (fun i _ => (intOf i + 1).toNat)
  case atStart => exact ⟨n, Nat.le_refl _, rfl, rfl, Below.refl _ _⟩
  case round =>
    obtain ⟨m, hm, rfl, hbe, hE⟩ := hrel
    have HB := Lib.hid hbe
    clear hbe
    have hE0 : Ext w wr := by have h := hE.size; simp only [World.size_alloc] at h; (repeat' (first | (with_reducible exact Below.refl _ _) | (with_reducible refine Below.mono (by assumption) ?_) | (with_reducible refine Below.trans ?_ (Below.mono (by assumption) ?_)) | (with_reducible refine Below.alloc ?_ ?_ _) | (with_reducible refine Below.drew ?_) | (with_reducible refine below_drewN ?_ _) | (with_reducible refine Below.setCell ?_ ?_ _) | (simp only [World.size_alloc, World.size_setCell, World.size_drew, size_drewN]; omega) | omega))
    obtain ⟨hcr, hfr, hzr, hsr⟩ := bcell hE
    simp only [World.size_alloc] at hsr
    by_cases hlt : 0 < m
    · obtain ⟨q, rfl⟩ : ∃ q, m = q + 1 := ⟨m - 1, by omega⟩
      obtain ⟨x0, x1, x2, b, off, hxk, rfl, _, hb0, c0, c1, c2⟩ := (hx.ext hE0).at_ (i := q) (by omega)
      have hbs := before_succ (key := key) hxk
      clear hxk
      have HS := Lib.hid hbs
      clear hbs
      rw [show ((q + 1 : Nat) : Int) - 1 = (q : Int) by omega]
      go_wp2
      case roundEnd =>
        have hne : x1 ≠ key := by simpa using ‹(x1 == key) = false›
        exact ⟨⟨q, by omega, rfl, by rw [HB.out, HS.out, if_neg hne], by (repeat' (first | (with_reducible exact Below.refl _ _) | (with_reducible refine Below.mono (by assumption) ?_) | (with_reducible refine Below.trans ?_ (Below.mono (by assumption) ?_)) | (with_reducible refine Below.alloc ?_ ?_ _) | (with_reducible refine Below.drew ?_) | (with_reducible refine below_drewN ?_ _) | (with_reducible refine Below.setCell ?_ ?_ _) | (simp only [World.size_alloc, World.size_setCell, World.size_drew, size_drewN]; omega) | omega))⟩, by first | (simp [intOf]; done) | (simp [intOf]; omega)⟩
      have heq : x1 = key := by simpa using ‹(x1 == key) = true›
      go_ret
      exact ⟨ret_int (by rw [HB.out, HS.out, if_pos heq]), by (repeat' (first | (with_reducible exact Below.refl _ _) | (with_reducible refine Below.mono (by assumption) ?_) | (with_reducible refine Below.trans ?_ (Below.mono (by assumption) ?_)) | (with_reducible refine Below.alloc ?_ ?_ _) | (with_reducible refine Below.drew ?_) | (with_reducible refine below_drewN ?_ _) | (with_reducible refine Below.setCell ?_ ?_ _) | (simp only [World.size_alloc, World.size_setCell, World.size_drew, size_drewN]; omega) | omega))⟩
    · obtain rfl : m = 0 := by omega
      go_wp2
      go_ret
      exact ⟨ret_int (by rw [HB.out]; rfl), by (repeat' (first | (with_reducible exact Below.refl _ _) | (with_reducible refine Below.mono (by assumption) ?_) | (with_reducible refine Below.trans ?_ (Below.mono (by assumption) ?_)) | (with_reducible refine Below.alloc ?_ ?_ _) | (with_reducible refine Below.drew ?_) | (with_reducible refine below_drewN ?_ _) | (with_reducible refine Below.setCell ?_ ?_ _) | (simp only [World.size_alloc, World.size_setCell, World.size_drew, size_drewN]; omega) | omega))⟩

theorem info3 : (Tryd.prog.info? 34).map (fun i => (i.zero, i.size, i.bytes)) = some (some (.agg #[.int .i64 0, .int .i64 0, .int .i64 0]), 3, 24) := by kernel_rfl

/-- a key was used by one of the first operations -/
def touched (ops : List T3) (key : Int) : Nat → Bool
  | 0 => false
  | n + 1 => match ops[n]? with
    | some o => decide (o.b = key) || touched ops key n
    | none => touched ops key n
def frsI (ops : List T3) : Nat → List T3
  | 0 => []
  | n + 1 => match ops[n]? with
    | some o => if o.a = 1 ∧ touched ops o.b n = false then frsI ops n ++ [o] else frsI ops n
    | none => frsI ops n
theorem touched_succ {ops : List T3} {key : Int} {n : Nat} {o : T3} (h : ops[n]? = some o) : touched ops key (n + 1) = (decide (o.b = key) || touched ops key n) := by
  simp [touched, h]
theorem frsI_hit {ops : List T3} {n : Nat} {o : T3} (h : ops[n]? = some o) (hc : o.a = 1 ∧ touched ops o.b n = false) : frsI ops (n + 1) = frsI ops n ++ [o] := by simp [frsI, h, hc]
theorem frsI_miss {ops : List T3} {n : Nat} {o : T3} (h : ops[n]? = some o) (hc : ¬ (o.a = 1 ∧ touched ops o.b n = false)) : frsI ops (n + 1) = frsI ops n := by
  conv => lhs; unfold frsI
  rw [h]
  simp only [if_neg hc]
theorem frsI_len (ops : List T3) (n : Nat) : (frsI ops n).length ≤ n := by
  induction n with
  | zero => simp [frsI]
  | succ n ih =>
    unfold frsI
    split
    · split
      · simp; omega
      · omega
    · omega
def tmap (ops : List T3) (k : Nat) : Int → Option Value := fun key => if touched ops key k = true then some (.bool true) else none
theorem tmap_get (ops : List T3) (k : Nat) (key : Int) : (tmap ops k key).getD (.bool false) = .bool (touched ops key k) := by
  unfold tmap
  split <;> simp_all
theorem tmap_put {ops : List T3} {k : Nat} {o : T3} (h : ops[k]? = some o) : (fun k' => if k' = o.b then some (Value.bool true) else tmap ops k k') = tmap ops (k + 1) := by
  funext k'
  unfold tmap
  rw [touched_succ h]
  by_cases e : k' = o.b
  · subst e; simp
  · rw [if_neg e]
    have : ¬ o.b = k' := fun h => e h.symm
    simp [this]


/-- the last write to a key among the first operations -/
def lastW (ops : List T3) (key : Int) : Nat → Option T3
  | 0 => none
  | n + 1 => match ops[n]? with
    | some o => if o.a = 2 ∧ o.b = key then some o else lastW ops key n
    | none => lastW ops key n
def lwsTo (ops : List T3) : Nat → List T3
  | 0 => []
  | k + 1 => lwsTo ops k ++ (lastW ops k ops.length).toList
theorem lastW_succ {ops : List T3} {key : Int} {n : Nat} {o : T3} (h : ops[n]? = some o) : lastW ops key (n + 1) = if o.a = 2 ∧ o.b = key then some o else lastW ops key n := by
  simp [lastW, h]
theorem lwsTo_some {ops : List T3} {k : Nat} {o : T3} (h : lastW ops k ops.length = some o) : lwsTo ops (k + 1) = lwsTo ops k ++ [o] := by simp [lwsTo, h]
theorem lwsTo_none {ops : List T3} {k : Nat} (h : lastW ops k ops.length = none) : lwsTo ops (k + 1) = lwsTo ops k := by simp [lwsTo, h]
theorem lwsTo_len (ops : List T3) (n : Nat) : (lwsTo ops n).length ≤ n := by
  induction n with
  | zero => simp [lwsTo]
  | succ n ih =>
    unfold lwsTo
    cases lastW ops n ops.length <;> simp <;> omega

set_option maxHeartbeats 2000000 in
theorem specLastWrites_bad (t : TxnT) (S : Nat → Prop) (A : Option Addr) (c : Nat) (w : World) (hx : Ops S w A t.ops) (hn : t.ops.length ≤ 1048576) (hv : txnv t = false) :
    Calls Tryd.prog 85 #[.agg #[.int .i64 t.sess, .slice A t.ops.length c, .bool t.done]] w (Fresh [] w) := by
  have C := fun w hx => specTxnValid_c t S A c w hx hn
  rw [hv] at C
  have C := Lib.hid C
  go_enter Tryd.func85, Tryd.ntmps85
  go_wp2
  have hO : Own3 ((w.alloc (.cells #[.int .i64 t.sess, .slice A t.ops.length c, .bool t.done] 32)).alloc (.cells #[] 34)) w.heap.size 34 (.slice (some ⟨w.heap.size + 1, 0, none⟩) 0 0) [] := Own3.made _ _ _ (by simp) (by simp) (by omega) rfl
  go_loopw [3, 4] (fun v i wr => i = .int .i64 0 ∧ Own3 wr w.heap.size 34 v [] ∧ Ext (w.alloc (.cells #[.int .i64 t.sess, .slice A t.ops.length c, .bool t.done] 32)) wr) (fun _ _ _ => 0)
  case atStart => exact ⟨rfl, hO, by (repeat' (first | (with_reducible exact Below.refl _ _) | (with_reducible refine Below.mono (by assumption) ?_) | (with_reducible refine Below.trans ?_ (Below.mono (by assumption) ?_)) | (with_reducible refine Below.alloc ?_ ?_ _) | (with_reducible refine Below.drew ?_) | (with_reducible refine below_drewN ?_ _) | (with_reducible refine Below.setCell ?_ ?_ _) | (simp only [World.size_alloc, World.size_setCell, World.size_drew, size_drewN]; omega) | omega))⟩
  case round =>
    obtain ⟨rfl, hown, hE⟩ := hrel
    have hE0 : Ext w wr := by have h := hE.size; simp only [World.size_alloc] at h; (repeat' (first | (with_reducible exact Below.refl _ _) | (with_reducible refine Below.mono (by assumption) ?_) | (with_reducible refine Below.trans ?_ (Below.mono (by assumption) ?_)) | (with_reducible refine Below.alloc ?_ ?_ _) | (with_reducible refine Below.drew ?_) | (with_reducible refine below_drewN ?_ _) | (with_reducible refine Below.setCell ?_ ?_ _) | (simp only [World.size_alloc, World.size_setCell, World.size_drew, size_drewN]; omega) | omega))
    obtain ⟨hcr, hfr, hzr, hsr⟩ := bcell hE
    simp only [World.size_alloc] at hsr
    go_wp2_with (go_at_call 57; refine (C.out _ (hx.ext (by (repeat' (first | (with_reducible exact Below.refl _ _) | (with_reducible refine Below.mono (by assumption) ?_) | (with_reducible refine Below.trans ?_ (Below.mono (by assumption) ?_)) | (with_reducible refine Below.alloc ?_ ?_ _) | (with_reducible refine Below.drew ?_) | (with_reducible refine below_drewN ?_ _) | (with_reducible refine Below.setCell ?_ ?_ _) | (simp only [World.size_alloc, World.size_setCell, World.size_drew, size_drewN]; omega) | omega))))).mono ?_; rintro e w1 ⟨rfl, hb⟩; obtain ⟨hc, hf, hz, hs⟩ := bcell hb; (try simp only [World.size_alloc, World.size_setCell, World.size_drew, size_drewN] at hs); (first | have l0 := Nat.lt_of_lt_of_le l0 (show _ ≤ w1.heap.size by omega) | have l0 : w.heap.size < w1.heap.size := (by omega) | skip); (try have l0e := Nat.le_of_lt l0); (try have l0f := Nat.le_add_right_of_le (k := 1) l0e); (try have l1 := Nat.lt_of_lt_of_le l1 (show _ ≤ w1.heap.size by omega)); (try have l1e := Nat.le_of_lt l1); (try have l1f := Nat.le_add_right_of_le (k := 1) l1e); (try have l2 := Nat.lt_of_lt_of_le l2 (show _ ≤ w1.heap.size by omega)); (try have l2e := Nat.le_of_lt l2); (try have l2f := Nat.le_add_right_of_le (k := 1) l2e); (try have l3 := Nat.lt_of_lt_of_le l3 (show _ ≤ w1.heap.size by omega)); (try have l3e := Nat.le_of_lt l3); (try have l3f := Nat.le_add_right_of_le (k := 1) l3e))
    go_ret
    exact (hown.ext hb).fresh (Nat.le_refl _) (by (repeat' (first | (with_reducible exact Below.refl _ _) | (with_reducible refine Below.mono (by assumption) ?_) | (with_reducible refine Below.trans ?_ (Below.mono (by assumption) ?_)) | (with_reducible refine Below.alloc ?_ ?_ _) | (with_reducible refine Below.drew ?_) | (with_reducible refine below_drewN ?_ _) | (with_reducible refine Below.setCell ?_ ?_ _) | (simp only [World.size_alloc, World.size_setCell, World.size_drew, size_drewN]; omega) | omega)))

set_option maxHeartbeats 4000000 in
theorem specLastWrites_ok (t : TxnT) (S : Nat → Prop) (A : Option Addr) (c : Nat) (w : World) (hx : Ops S w A t.ops) (hn : t.ops.length ≤ 1048576) (hv : txnv t = true) :
    Calls Tryd.prog 85 #[.agg #[.int .i64 t.sess, .slice A t.ops.length c, .bool t.done]] w (Fresh (lwsTo t.ops 3) w) := by
  have C := fun w hx => specTxnValid_c t S A c w hx hn
  rw [hv] at C
  have C := Lib.hid C
  go_enter Tryd.func85, Tryd.ntmps85
  go_wp2
  have hO : Own3 ((w.alloc (.cells #[.int .i64 t.sess, .slice A t.ops.length c, .bool t.done] 32)).alloc (.cells #[] 34)) (w.heap.size + 1) 34 (.slice (some ⟨w.heap.size + 1, 0, none⟩) 0 0) [] := Own3.made _ _ _ (by simp) (by simp) (by omega) rfl
  go_loopw [3, 4] (fun v i wr => ∃ k : Nat, k ≤ 3 ∧ i = .int .i64 k ∧ Own3 wr (w.heap.size + 1) 34 v (lwsTo t.ops k) ∧ Ext (w.alloc (.cells #[.int .i64 t.sess, .slice A t.ops.length c, .bool t.done] 32)) wr) (fun _ i _ => 3 - (intOf i).toNat)
  case atStart => exact ⟨0, by omega, rfl, hO, by (repeat' (first | (with_reducible exact Below.refl _ _) | (with_reducible refine Below.mono (by assumption) ?_) | (with_reducible refine Below.trans ?_ (Below.mono (by assumption) ?_)) | (with_reducible refine Below.alloc ?_ ?_ _) | (with_reducible refine Below.drew ?_) | (with_reducible refine below_drewN ?_ _) | (with_reducible refine Below.setCell ?_ ?_ _) | (simp only [World.size_alloc, World.size_setCell, World.size_drew, size_drewN]; omega) | omega))⟩
  case round =>
    obtain ⟨k, hk, rfl, hown, hE⟩ := hrel
    clear hO
    have hE0 : Ext w wr := by have h := hE.size; simp only [World.size_alloc] at h; (repeat' (first | (with_reducible exact Below.refl _ _) | (with_reducible refine Below.mono (by assumption) ?_) | (with_reducible refine Below.trans ?_ (Below.mono (by assumption) ?_)) | (with_reducible refine Below.alloc ?_ ?_ _) | (with_reducible refine Below.drew ?_) | (with_reducible refine below_drewN ?_ _) | (with_reducible refine Below.setCell ?_ ?_ _) | (simp only [World.size_alloc, World.size_setCell, World.size_drew, size_drewN]; omega) | omega))
    obtain ⟨hcr, hfr, hzr, hsr⟩ := bcell hE
    simp only [World.size_alloc] at hsr
    have l0 : w.heap.size < wr.heap.size := hsr
    by_cases hlt : k < 3
    · go_wp2_with (go_at_call 57; refine (C.out _ (hx.ext (by (repeat' (first | (with_reducible exact Below.refl _ _) | (with_reducible refine Below.mono (by assumption) ?_) | (with_reducible refine Below.trans ?_ (Below.mono (by assumption) ?_)) | (with_reducible refine Below.alloc ?_ ?_ _) | (with_reducible refine Below.drew ?_) | (with_reducible refine below_drewN ?_ _) | (with_reducible refine Below.setCell ?_ ?_ _) | (simp only [World.size_alloc, World.size_setCell, World.size_drew, size_drewN]; omega) | omega))))).mono ?_; rintro e w1 ⟨rfl, hb⟩; obtain ⟨hc, hf, hz, hs⟩ := bcell hb; (try simp only [World.size_alloc, World.size_setCell, World.size_drew, size_drewN] at hs); (first | have l0 := Nat.lt_of_lt_of_le l0 (show _ ≤ w1.heap.size by omega) | have l0 : w.heap.size < w1.heap.size := (by omega) | skip); (try have l0e := Nat.le_of_lt l0); (try have l0f := Nat.le_add_right_of_le (k := 1) l0e); (try have l1 := Nat.lt_of_lt_of_le l1 (show _ ≤ w1.heap.size by omega)); (try have l1e := Nat.le_of_lt l1); (try have l1f := Nat.le_add_right_of_le (k := 1) l1e); (try have l2 := Nat.lt_of_lt_of_le l2 (show _ ≤ w1.heap.size by omega)); (try have l2e := Nat.le_of_lt l2); (try have l2f := Nat.le_add_right_of_le (k := 1) l2e); (try have l3 := Nat.lt_of_lt_of_le l3 (show _ ≤ w1.heap.size by omega)); (try have l3e := Nat.le_of_lt l3); (try have l3f := Nat.le_add_right_of_le (k := 1) l3e); have hr1 : Ext wr w1 := (by (repeat' (first | (with_reducible exact Below.refl _ _) | (with_reducible refine Below.mono (by assumption) ?_) | (with_reducible refine Below.trans ?_ (Below.mono (by assumption) ?_)) | (with_reducible refine Below.alloc ?_ ?_ _) | (with_reducible refine Below.drew ?_) | (with_reducible refine below_drewN ?_ _) | (with_reducible refine Below.setCell ?_ ?_ _) | (simp only [World.size_alloc, World.size_setCell, World.size_drew, size_drewN]; omega) | omega))); obtain ⟨z0, z1, z2⟩ := box3 (hE.tr hr1))
      have hx1 := hx.ext (hE0.tr hr1)
      have hown1 := hown.ext hr1
      have hE1 := hE.tr hr1
      have hs1 := hE1.size
      simp only [World.size_alloc] at hs1
      clear hc hf hz hcr hfr hzr hown
      go_loop [3, 5] (fun v i => ∃ m : Nat, m ≤ t.ops.length ∧ v = u3 ∧ i = .int .i64 ((m : Int) - 1) ∧ lastW t.ops k t.ops.length = lastW t.ops k m) (fun _ i => (intOf i + 1).toNat)
      case atStart => exact ⟨t.ops.length, Nat.le_refl _, rfl, rfl, rfl⟩
      case round =>
        obtain ⟨m, hm, rfl, rfl, hbe⟩ := hrel
        have HB := Lib.hid hbe
        clear hbe
        by_cases hlt : 0 < m
        · obtain ⟨q, rfl⟩ : ∃ q, m = q + 1 := ⟨m - 1, by omega⟩
          obtain ⟨x0, x1, x2, b, off, hxk, rfl, _, hb0, c0, c1, c2⟩ := hx1.at_ (i := q) (by omega)
          have hbs := lastW_succ (key := (k : Int)) hxk
          clear hxk
          have HS := Lib.hid hbs
          clear hbs
          rw [show ((q + 1 : Nat) : Int) - 1 = (q : Int) by omega]
          go_wp2_with (at_builtin; refine wpList_append3 _ rfl _ _ 30 rfl (w.heap.size + 1) 34 Tryd.underlying30 info3 rfl _ (lwsTo t.ops k) rfl (hown1.ext (by (repeat' (first | (with_reducible exact Below.refl _ _) | (with_reducible refine Below.mono (by assumption) ?_) | (with_reducible refine Below.trans ?_ (Below.mono (by assumption) ?_)) | (with_reducible refine Below.alloc ?_ ?_ _) | (with_reducible refine Below.drew ?_) | (with_reducible refine below_drewN ?_ _) | (with_reducible refine Below.setCell ?_ ?_ _) | (simp only [World.size_alloc, World.size_setCell, World.size_drew, size_drewN]; omega) | omega)))) _ x0 x1 x2 rfl ?_ ?_ ?_ ?_ ?_ ?_)
          case roundEnd =>
            have hne : ¬ (x0 = 2 ∧ x1 = (k : Int)) := by
              first
                | (have h : (x1 == (k : Int)) = false := by assumption
                   exact fun e => absurd e.2 (by simpa using h))
                | (have h : ¬ x0 = 2 := by assumption
                   exact fun e => h e.1)
            exact ⟨⟨q, by omega, rfl, rfl, by rw [HB.out, HS.out, if_neg hne]⟩, by first | (simp [intOf]; done) | (simp [intOf]; omega)⟩
          case roundEnd =>
            have hne : ¬ (x0 = 2 ∧ x1 = (k : Int)) := by
              first
                | (have h : (x1 == (k : Int)) = false := by assumption
                   exact fun e => absurd e.2 (by simpa using h))
                | (have h : ¬ x0 = 2 := by assumption
                   exact fun e => h e.1)
            exact ⟨⟨q, by omega, rfl, rfl, by rw [HB.out, HS.out, if_neg hne]⟩, by first | (simp [intOf]; done) | (simp [intOf]; omega)⟩
          · have := lwsTo_len t.ops k
            omega
          · intro v' w' hown' hgrow
            have hr : x0 = 2 := by assumption
            have hkey : x1 = (k : Int) := by simpa using ‹(x1 == (k : Int)) = true›
            have hlw : lastW t.ops k t.ops.length = some ⟨2, x1, x2⟩ := by rw [HB.out, HS.out, if_pos ⟨hr, hkey⟩, hr]
            have hap := lwsTo_some hlw
            rw [← hap] at hown'
            have hE' : Ext (w.alloc (.cells #[.int .i64 t.sess, .slice (some ⟨b, off, none⟩) t.ops.length c, .bool t.done] 32)) w' := by
              refine Below.grown (w := w1.alloc (.cells #[.int .i64 2, .int .i64 x1, .int .i64 x2] 34)) (by (repeat' (first | (with_reducible exact Below.refl _ _) | (with_reducible refine Below.mono (by assumption) ?_) | (with_reducible refine Below.trans ?_ (Below.mono (by assumption) ?_)) | (with_reducible refine Below.alloc ?_ ?_ _) | (with_reducible refine Below.drew ?_) | (with_reducible refine below_drewN ?_ _) | (with_reducible refine Below.setCell ?_ ?_ _) | (simp only [World.size_alloc, World.size_setCell, World.size_drew, size_drewN]; omega) | omega))) hgrow (by simp only [World.size_alloc]; omega) (fun g hg => ?_)
              have := (World.ownsRow.lt hown1 g hg).1
              simp only [World.size_alloc]
              exact this
            clear hap hgrow hlw
            go_wp2
            exact ⟨⟨k + 1, by omega, by go_num, hown', hE'⟩, by simp [intOf]; omega⟩
        · obtain rfl : m = 0 := by omega
          go_wp2
          exact ⟨⟨k + 1, by omega, by go_num, by rw [lwsTo_none (by rw [HB.out]; rfl)]; exact hown1, hE1⟩, by simp [intOf]; omega⟩
    · obtain rfl : k = 3 := by omega
      go_wp2_with (go_at_call 57; refine (C.out _ (hx.ext (by (repeat' (first | (with_reducible exact Below.refl _ _) | (with_reducible refine Below.mono (by assumption) ?_) | (with_reducible refine Below.trans ?_ (Below.mono (by assumption) ?_)) | (with_reducible refine Below.alloc ?_ ?_ _) | (with_reducible refine Below.drew ?_) | (with_reducible refine below_drewN ?_ _) | (with_reducible refine Below.setCell ?_ ?_ _) | (simp only [World.size_alloc, World.size_setCell, World.size_drew, size_drewN]; omega) | omega))))).mono ?_; rintro e w1 ⟨rfl, hb⟩; obtain ⟨hc, hf, hz, hs⟩ := bcell hb; (try simp only [World.size_alloc, World.size_setCell, World.size_drew, size_drewN] at hs); (first | have l0 := Nat.lt_of_lt_of_le l0 (show _ ≤ w1.heap.size by omega) | have l0 : w.heap.size < w1.heap.size := (by omega) | skip); (try have l0e := Nat.le_of_lt l0); (try have l0f := Nat.le_add_right_of_le (k := 1) l0e); (try have l1 := Nat.lt_of_lt_of_le l1 (show _ ≤ w1.heap.size by omega)); (try have l1e := Nat.le_of_lt l1); (try have l1f := Nat.le_add_right_of_le (k := 1) l1e); (try have l2 := Nat.lt_of_lt_of_le l2 (show _ ≤ w1.heap.size by omega)); (try have l2e := Nat.le_of_lt l2); (try have l2f := Nat.le_add_right_of_le (k := 1) l2e); (try have l3 := Nat.lt_of_lt_of_le l3 (show _ ≤ w1.heap.size by omega)); (try have l3e := Nat.le_of_lt l3); (try have l3f := Nat.le_add_right_of_le (k := 1) l3e))
      go_ret
      exact hown.fresh (by omega) hE0

def encT3 (o : T3) : Value := .agg #[.int .i64 o.a, .int .i64 o.b, .int .i64 o.c]
def lmap (ops : List T3) (k : Nat) : Int → Option Value := fun key => (lastW ops key k).map encT3
theorem lmap_put {ops : List T3} {k : Nat} {o : T3} (h : ops[k]? = some o) (hw : o.a = 2) : (fun k' => if k' = o.b then some (encT3 o) else lmap ops k k') = lmap ops (k + 1) := by
  funext k'
  unfold lmap
  rw [lastW_succ h]
  by_cases e : k' = o.b
  · subst e; simp [hw]
  · rw [if_neg e, if_neg (fun h => e h.2.symm)]
theorem lmap_stay {ops : List T3} {k : Nat} {o : T3} (h : ops[k]? = some o) (hw : o.a ≠ 2) : lmap ops k = lmap ops (k + 1) := by
  funext k'
  unfold lmap
  rw [lastW_succ h, if_neg (fun h => hw h.1)]

theorem MapF.more {κ : Type} [DecidableEq κ] {ek : κ → Value} {w : World} {b : Nat} {f : κ → Option Value} {n m : Nat} (h : MapF ek w b f n) (hm : n ≤ m) : MapF ek w b f m := by
  obtain ⟨es, clk, kvs, h0, h1, h2, h3⟩ := h
  exact ⟨es, clk, kvs, h0, h1, h2, by omega⟩

set_option maxHeartbeats 4000000 in
theorem lastWrites_c (t : TxnT) (S : Nat → Prop) (A : Option Addr) (c : Nat) (w : World) (hx : Ops S w A t.ops) (hn : t.ops.length ≤ 1048576) :
    Calls Tryd.prog 53 #[.agg #[.int .i64 t.sess, .slice A t.ops.length c, .bool t.done]] w (Fresh (lwsTo t.ops 3) w) := by
  have hmm := @run_makeMap Tryd.prog
  go_enter Tryd.func53, Tryd.ntmps53
  go_wp2
  have hM : MapF (fun k : Int => Value.int .i64 k) ((w.alloc (.cells #[.int .i64 t.sess, .slice A t.ops.length c, .bool t.done] 32)).alloc (.map #[] 0)) (w.heap.size + 1) (lmap t.ops 0) 0 := by
    have h := MapF.made (ek := fun k : Int => Value.int .i64 k) (w.alloc (.cells #[.int .i64 t.sess, .slice A t.ops.length c, .bool t.done] 32))
    simp only [World.size_alloc] at h
    exact h
  go_loopw [14] (fun i wr => ∃ k : Nat, k ≤ t.ops.length ∧ i = .int .i64 k ∧ MapF (fun k : Int => Value.int .i64 k) wr (w.heap.size + 1) (lmap t.ops k) k ∧ Ext (w.alloc (.cells #[.int .i64 t.sess, .slice A t.ops.length c, .bool t.done] 32)) wr) (fun i _ => t.ops.length - (intOf i).toNat)
  case atStart => exact ⟨0, Nat.zero_le _, rfl, hM, by (repeat' (first | (with_reducible exact Below.refl _ _) | (with_reducible refine Below.mono (by assumption) ?_) | (with_reducible refine Below.trans ?_ (Below.mono (by assumption) ?_)) | (with_reducible refine Below.alloc ?_ ?_ _) | (with_reducible refine Below.drew ?_) | (with_reducible refine below_drewN ?_ _) | (with_reducible refine Below.setCell ?_ ?_ _) | (simp only [World.size_alloc, World.size_setCell, World.size_drew, size_drewN]; omega) | omega))⟩
  case round =>
    obtain ⟨k, hk, rfl, hmap, hE⟩ := hrel
    clear hM hmm
    have hE0 : Ext w wr := by have h := hE.size; simp only [World.size_alloc] at h; (repeat' (first | (with_reducible exact Below.refl _ _) | (with_reducible refine Below.mono (by assumption) ?_) | (with_reducible refine Below.trans ?_ (Below.mono (by assumption) ?_)) | (with_reducible refine Below.alloc ?_ ?_ _) | (with_reducible refine Below.drew ?_) | (with_reducible refine below_drewN ?_ _) | (with_reducible refine Below.setCell ?_ ?_ _) | (simp only [World.size_alloc, World.size_setCell, World.size_drew, size_drewN]; omega) | omega))
    have hsr := hE.size
    simp only [World.size_alloc] at hsr
    by_cases hlt : k < t.ops.length
    · obtain ⟨x0, x1, x2, b, off, hxk, rfl, _, hb0, c0, c1, c2⟩ := (hx.ext hE0).at_ hlt
      have HX := Lib.hid hxk
      clear hxk
      by_cases hr : x0 = 2
      · have hr0 : (x0 == 2) = true := by simp [hr]
        go_wp2_with (first
          | (go_at_call 87; refine (writes_c _ _ _ _).mono ?_; rintro e w1 ⟨rfl, hb⟩; obtain ⟨hc, hf, hz, hs⟩ := bcell hb; (try simp only [World.size_alloc, World.size_setCell, World.size_drew, size_drewN] at hs); (first | have l0 := Nat.lt_of_lt_of_le l0 (show _ ≤ w1.heap.size by omega) | have l0 : w.heap.size < w1.heap.size := (by omega) | skip); (try have l0e := Nat.le_of_lt l0); (try have l0f := Nat.le_add_right_of_le (k := 1) l0e); (try have l1 := Nat.lt_of_lt_of_le l1 (show _ ≤ w1.heap.size by omega)); (try have l1e := Nat.le_of_lt l1); (try have l1f := Nat.le_add_right_of_le (k := 1) l1e); (try have l2 := Nat.lt_of_lt_of_le l2 (show _ ≤ w1.heap.size by omega)); (try have l2e := Nat.le_of_lt l2); (try have l2f := Nat.le_add_right_of_le (k := 1) l2e); (try have l3 := Nat.lt_of_lt_of_le l3 (show _ ≤ w1.heap.size by omega)); (try have l3e := Nat.le_of_lt l3); (try have l3f := Nat.le_add_right_of_le (k := 1) l3e); have hr1 : Ext wr w1 := (by (repeat' (first | (with_reducible exact Below.refl _ _) | (with_reducible refine Below.mono (by assumption) ?_) | (with_reducible refine Below.trans ?_ (Below.mono (by assumption) ?_)) | (with_reducible refine Below.alloc ?_ ?_ _) | (with_reducible refine Below.drew ?_) | (with_reducible refine below_drewN ?_ _) | (with_reducible refine Below.setCell ?_ ?_ _) | (simp only [World.size_alloc, World.size_setCell, World.size_drew, size_drewN]; omega) | omega))); obtain ⟨y0, y1, y2⟩ := box3 hb)
          | (at_mapUpdate; refine wpList_putF _ rfl _ _ _ 101 rfl Tryd.underlying101 (int_keylaw Tryd.underlying3) _ _ _ rfl (hmap.ext (by (repeat' (first | (with_reducible exact Below.refl _ _) | (with_reducible refine Below.mono (by assumption) ?_) | (with_reducible refine Below.trans ?_ (Below.mono (by assumption) ?_)) | (with_reducible refine Below.alloc ?_ ?_ _) | (with_reducible refine Below.drew ?_) | (with_reducible refine below_drewN ?_ _) | (with_reducible refine Below.setCell ?_ ?_ _) | (simp only [World.size_alloc, World.size_setCell, World.size_drew, size_drewN]; omega) | omega)))) x1 _ rfl rfl ?_))
        intro w2 hmap2 hgrow2
        have hmap3 : MapF (fun k : Int => Value.int .i64 k) w2 (w.heap.size + 1) (lmap t.ops (k + 1)) (k + 1) := by rw [← lmap_put HX.out hr]; simp only [hr] at hmap2 ⊢; exact hmap2
        have hE2 := Below.grown (hE.tr hr1) hgrow2 (hE.tr hr1).size (fun g hg => by cases hg; simp only [World.size_alloc]; omega)
        clear hmap2
        go_wp2
        exact ⟨⟨k + 1, by omega, by go_num, hmap3, hE2⟩, by simp [intOf]; omega⟩
      · have hr0 : (x0 == 2) = false := by simp [hr]
        go_wp2_with (go_at_call 87; refine (writes_c _ _ _ _).mono ?_; rintro e w1 ⟨rfl, hb⟩; obtain ⟨hc, hf, hz, hs⟩ := bcell hb; (try simp only [World.size_alloc, World.size_setCell, World.size_drew, size_drewN] at hs); (first | have l0 := Nat.lt_of_lt_of_le l0 (show _ ≤ w1.heap.size by omega) | have l0 : w.heap.size < w1.heap.size := (by omega) | skip); (try have l0e := Nat.le_of_lt l0); (try have l0f := Nat.le_add_right_of_le (k := 1) l0e); (try have l1 := Nat.lt_of_lt_of_le l1 (show _ ≤ w1.heap.size by omega)); (try have l1e := Nat.le_of_lt l1); (try have l1f := Nat.le_add_right_of_le (k := 1) l1e); (try have l2 := Nat.lt_of_lt_of_le l2 (show _ ≤ w1.heap.size by omega)); (try have l2e := Nat.le_of_lt l2); (try have l2f := Nat.le_add_right_of_le (k := 1) l2e); (try have l3 := Nat.lt_of_lt_of_le l3 (show _ ≤ w1.heap.size by omega)); (try have l3e := Nat.le_of_lt l3); (try have l3f := Nat.le_add_right_of_le (k := 1) l3e); have hr1 : Ext wr w1 := (by (repeat' (first | (with_reducible exact Below.refl _ _) | (with_reducible refine Below.mono (by assumption) ?_) | (with_reducible refine Below.trans ?_ (Below.mono (by assumption) ?_)) | (with_reducible refine Below.alloc ?_ ?_ _) | (with_reducible refine Below.drew ?_) | (with_reducible refine below_drewN ?_ _) | (with_reducible refine Below.setCell ?_ ?_ _) | (simp only [World.size_alloc, World.size_setCell, World.size_drew, size_drewN]; omega) | omega))))
        exact ⟨⟨k + 1, by omega, by go_num, by rw [← lmap_stay HX.out hr]; exact (hmap.ext hr1).more (by omega), by (repeat' (first | (with_reducible exact Below.refl _ _) | (with_reducible refine Below.mono (by assumption) ?_) | (with_reducible refine Below.trans ?_ (Below.mono (by assumption) ?_)) | (with_reducible refine Below.alloc ?_ ?_ _) | (with_reducible refine Below.drew ?_) | (with_reducible refine below_drewN ?_ _) | (with_reducible refine Below.setCell ?_ ?_ _) | (simp only [World.size_alloc, World.size_setCell, World.size_drew, size_drewN]; omega) | omega))⟩, by simp [intOf]; omega⟩
    · obtain rfl : k = t.ops.length := by omega
      obtain ⟨m, hm, hlen⟩ := hmap.len (t := 101) Tryd.underlying101
      obtain ⟨i0, hi, hz0, hz1, hz2⟩ := info_parts info3
      have hmk : (Instr.makeSlice 30 (.int .i64 0) (.int .i64 m)).run Tryd.prog wr = _ := run_make_rowN (P := Tryd.prog) 30 34 i0 _ Tryd.underlying30 hi hz0 .i64 .i64 0 m (by omega) (by rw [hz2]; omega) (by omega) wr
      rw [hz1] at hmk
      have hbl := hmap.lt
      have hM2 : MapF (fun k : Int => Value.int .i64 k) (wr.alloc (.cells (madeCells (Value.agg #[.int .i64 0, .int .i64 0, .int .i64 0]).cells (m * 3)) 34)) (w.heap.size + 1) (lmap t.ops t.ops.length) t.ops.length := hmap.ext (by (repeat' (first | (with_reducible exact Below.refl _ _) | (with_reducible refine Below.mono (by assumption) ?_) | (with_reducible refine Below.trans ?_ (Below.mono (by assumption) ?_)) | (with_reducible refine Below.alloc ?_ ?_ _) | (with_reducible refine Below.drew ?_) | (with_reducible refine below_drewN ?_ _) | (with_reducible refine Below.setCell ?_ ?_ _) | (simp only [World.size_alloc, World.size_setCell, World.size_drew, size_drewN]; omega) | omega)))
      have hO2 : Own3 (wr.alloc (.cells (madeCells (Value.agg #[.int .i64 0, .int .i64 0, .int .i64 0]).cells (m * 3)) 34)) (w.heap.size + 2) 34 (.slice (some ⟨wr.heap.size, 0, none⟩) 0 m) (lwsTo t.ops 0) :=
        Own3.made wr _ m rfl (by omega) (by omega) (by simp [madeCells])
      go_wp2
      clear hmk hmap
      obtain ⟨wo, rfl⟩ : ∃ wo : World, wo = wr := ⟨_, rfl⟩
      go_loopw [6, 28] (fun v i wr => ∃ j : Nat, j ≤ 3 ∧ i = .int .i64 j ∧ Own3 wr (w.heap.size + 2) 34 v (lwsTo t.ops j) ∧ MapF (fun k : Int => Value.int .i64 k) wr (w.heap.size + 1) (lmap t.ops t.ops.length) t.ops.length ∧ Ext (w.alloc (.cells #[.int .i64 t.sess, .slice A t.ops.length c, .bool t.done] 32)) wr) (fun _ i _ => 3 - (intOf i).toNat)
      case atStart => exact ⟨0, by omega, rfl, hO2, hM2, by (repeat' (first | (with_reducible exact Below.refl _ _) | (with_reducible refine Below.mono (by assumption) ?_) | (with_reducible refine Below.trans ?_ (Below.mono (by assumption) ?_)) | (with_reducible refine Below.alloc ?_ ?_ _) | (with_reducible refine Below.drew ?_) | (with_reducible refine below_drewN ?_ _) | (with_reducible refine Below.setCell ?_ ?_ _) | (simp only [World.size_alloc, World.size_setCell, World.size_drew, size_drewN]; omega) | omega))⟩
      case round =>
        obtain ⟨j, hj, rfl, hown, hmap, hE'⟩ := hrel
        have hsr' := hE'.size
        simp only [World.size_alloc] at hsr'
        clear hM2 hO2
        have hE0' : Ext w wr := by (repeat' (first | (with_reducible exact Below.refl _ _) | (with_reducible refine Below.mono (by assumption) ?_) | (with_reducible refine Below.trans ?_ (Below.mono (by assumption) ?_)) | (with_reducible refine Below.alloc ?_ ?_ _) | (with_reducible refine Below.drew ?_) | (with_reducible refine below_drewN ?_ _) | (with_reducible refine Below.setCell ?_ ?_ _) | (simp only [World.size_alloc, World.size_setCell, World.size_drew, size_drewN]; omega) | omega))
        by_cases hlt : j < 3
        · have hl := hmap.look (int_keylaw Tryd.underlying3) (t := 101) Tryd.underlying101 (z := .agg #[.int .i64 0, .int .i64 0, .int .i64 0]) (fun W => Tryd.zeroValue34 W) (j : Int) true
          simp only [if_pos, lmap] at hl
          cases hw : lastW t.ops j t.ops.length with
          | none =>
            rw [hw] at hl
            simp only [Option.map_none, Option.getD_none, Option.isSome_none] at hl
            have hn' := lwsTo_none hw
            have HN := Lib.hid hn'
            clear hn' hw
            go_wp2
            exact ⟨⟨j + 1, by omega, by go_num, by rw [HN.out]; exact hown.ext (by (repeat' (first | (with_reducible exact Below.refl _ _) | (with_reducible refine Below.mono (by assumption) ?_) | (with_reducible refine Below.trans ?_ (Below.mono (by assumption) ?_)) | (with_reducible refine Below.alloc ?_ ?_ _) | (with_reducible refine Below.drew ?_) | (with_reducible refine below_drewN ?_ _) | (with_reducible refine Below.setCell ?_ ?_ _) | (simp only [World.size_alloc, World.size_setCell, World.size_drew, size_drewN]; omega) | omega))), hmap.ext (by (repeat' (first | (with_reducible exact Below.refl _ _) | (with_reducible refine Below.mono (by assumption) ?_) | (with_reducible refine Below.trans ?_ (Below.mono (by assumption) ?_)) | (with_reducible refine Below.alloc ?_ ?_ _) | (with_reducible refine Below.drew ?_) | (with_reducible refine below_drewN ?_ _) | (with_reducible refine Below.setCell ?_ ?_ _) | (simp only [World.size_alloc, World.size_setCell, World.size_drew, size_drewN]; omega) | omega))), by (repeat' (first | (with_reducible exact Below.refl _ _) | (with_reducible refine Below.mono (by assumption) ?_) | (with_reducible refine Below.trans ?_ (Below.mono (by assumption) ?_)) | (with_reducible refine Below.alloc ?_ ?_ _) | (with_reducible refine Below.drew ?_) | (with_reducible refine below_drewN ?_ _) | (with_reducible refine Below.setCell ?_ ?_ _) | (simp only [World.size_alloc, World.size_setCell, World.size_drew, size_drewN]; omega) | omega))⟩, by simp [intOf]; omega⟩
          | some o =>
            obtain ⟨x0, x1, x2⟩ := o
            rw [hw] at hl
            simp only [Option.map_some, Option.getD_some, Option.isSome_some, encT3] at hl
            have hn' := lwsTo_some hw
            have HN := Lib.hid hn'
            clear hn' hw
            go_wp2_with (at_builtin; refine wpList_append3 _ rfl _ _ 30 rfl (w.heap.size + 2) 34 Tryd.underlying30 info3 rfl _ (lwsTo t.ops j) rfl (hown.ext (by (repeat' (first | (with_reducible exact Below.refl _ _) | (with_reducible refine Below.mono (by assumption) ?_) | (with_reducible refine Below.trans ?_ (Below.mono (by assumption) ?_)) | (with_reducible refine Below.alloc ?_ ?_ _) | (with_reducible refine Below.drew ?_) | (with_reducible refine below_drewN ?_ _) | (with_reducible refine Below.setCell ?_ ?_ _) | (simp only [World.size_alloc, World.size_setCell, World.size_drew, size_drewN]; omega) | omega)))) _ x0 x1 x2 rfl ?_ ?_ ?_ ?_ ?_ ?_)
            · simp
            · simp
            · simp
            · have := lwsTo_len t.ops j
              omega
            · simp only [World.size_alloc]; omega
            · intro v' w' hown' hgrow
              have hownA := hown.ext (w' := (wr.alloc (.cells #[.int .i64 x0, .int .i64 x1, .int .i64 x2] 34)).alloc (.cells #[.int .i64 x0, .int .i64 x1, .int .i64 x2] 34)) (by (repeat' (first | (with_reducible exact Below.refl _ _) | (with_reducible refine Below.mono (by assumption) ?_) | (with_reducible refine Below.trans ?_ (Below.mono (by assumption) ?_)) | (with_reducible refine Below.alloc ?_ ?_ _) | (with_reducible refine Below.drew ?_) | (with_reducible refine below_drewN ?_ _) | (with_reducible refine Below.setCell ?_ ?_ _) | (simp only [World.size_alloc, World.size_setCell, World.size_drew, size_drewN]; omega) | omega)))
              have hmapA := hmap.ext (w' := (wr.alloc (.cells #[.int .i64 x0, .int .i64 x1, .int .i64 x2] 34)).alloc (.cells #[.int .i64 x0, .int .i64 x1, .int .i64 x2] 34)) (by (repeat' (first | (with_reducible exact Below.refl _ _) | (with_reducible refine Below.mono (by assumption) ?_) | (with_reducible refine Below.trans ?_ (Below.mono (by assumption) ?_)) | (with_reducible refine Below.alloc ?_ ?_ _) | (with_reducible refine Below.drew ?_) | (with_reducible refine below_drewN ?_ _) | (with_reducible refine Below.setCell ?_ ?_ _) | (simp only [World.size_alloc, World.size_setCell, World.size_drew, size_drewN]; omega) | omega)))
              have hmap3 := hmapA.grown hgrow (hownA.ne_map hmapA)
              have hE3 : Ext (w.alloc (.cells #[.int .i64 t.sess, .slice A t.ops.length c, .bool t.done] 32)) w' := Below.grown (w := (wr.alloc (.cells #[.int .i64 x0, .int .i64 x1, .int .i64 x2] 34)).alloc (.cells #[.int .i64 x0, .int .i64 x1, .int .i64 x2] 34)) (by (repeat' (first | (with_reducible exact Below.refl _ _) | (with_reducible refine Below.mono (by assumption) ?_) | (with_reducible refine Below.trans ?_ (Below.mono (by assumption) ?_)) | (with_reducible refine Below.alloc ?_ ?_ _) | (with_reducible refine Below.drew ?_) | (with_reducible refine below_drewN ?_ _) | (with_reducible refine Below.setCell ?_ ?_ _) | (simp only [World.size_alloc, World.size_setCell, World.size_drew, size_drewN]; omega) | omega))) hgrow (by simp only [World.size_alloc]; omega) (fun g hg => by
                have := (World.ownsRow.lt hown g hg).1
                simp only [World.size_alloc]
                omega)
              rw [← HN.out] at hown'
              clear hgrow hownA hmapA hl
              go_wp2
              exact ⟨⟨j + 1, by omega, by go_num, hown', hmap3, hE3⟩, by simp [intOf]; omega⟩
        · obtain rfl : j = 3 := by omega
          go_wp2
          go_ret
          exact hown.fresh (by omega) hE0'

set_option maxHeartbeats 2000000 in
theorem wrap_lastWrites_c (t : TxnT) (S : Nat → Prop) (A : Option Addr) (c : Nat) (w : World) (hx : Ops S w A t.ops) (hn : t.ops.length ≤ 1048576) :
    Calls Tryd.prog 20 #[.agg #[.int .i64 t.sess, .slice A t.ops.length c, .bool t.done]] w (Fresh (if txnv t = true then lwsTo t.ops 3 else []) w) := by
  have C := fun w hx => implTxnValid_c t S A c w hx hn
  cases hv : txnv t with
  | false =>
    rw [hv] at C
    have C := Lib.hid C
    clear hv
    rw [if_neg (by simp)]
    go_enter Tryd.func20, Tryd.ntmps20
    go_wp2_with (go_at_call 52; refine (C.out _ (hx.ext (by (repeat' (first | (with_reducible exact Below.refl _ _) | (with_reducible refine Below.mono (by assumption) ?_) | (with_reducible refine Below.trans ?_ (Below.mono (by assumption) ?_)) | (with_reducible refine Below.alloc ?_ ?_ _) | (with_reducible refine Below.drew ?_) | (with_reducible refine below_drewN ?_ _) | (with_reducible refine Below.setCell ?_ ?_ _) | (simp only [World.size_alloc, World.size_setCell, World.size_drew, size_drewN]; omega) | omega))))).mono ?_; rintro e w1 ⟨rfl, hb⟩; obtain ⟨hc, hf, hz, hs⟩ := bcell hb; (try simp only [World.size_alloc, World.size_setCell, World.size_drew, size_drewN] at hs); (first | have l0 := Nat.lt_of_lt_of_le l0 (show _ ≤ w1.heap.size by omega) | have l0 : w.heap.size < w1.heap.size := (by omega) | skip); (try have l0e := Nat.le_of_lt l0); (try have l0f := Nat.le_add_right_of_le (k := 1) l0e); (try have l1 := Nat.lt_of_lt_of_le l1 (show _ ≤ w1.heap.size by omega)); (try have l1e := Nat.le_of_lt l1); (try have l1f := Nat.le_add_right_of_le (k := 1) l1e); (try have l2 := Nat.lt_of_lt_of_le l2 (show _ ≤ w1.heap.size by omega)); (try have l2e := Nat.le_of_lt l2); (try have l2f := Nat.le_add_right_of_le (k := 1) l2e); (try have l3 := Nat.lt_of_lt_of_le l3 (show _ ≤ w1.heap.size by omega)); (try have l3e := Nat.le_of_lt l3); (try have l3f := Nat.le_add_right_of_le (k := 1) l3e))
    go_ret
    exact ⟨none, 0, rfl, SlAt.nil, (fun a ha => by cases ha), by (repeat' (first | (with_reducible exact Below.refl _ _) | (with_reducible refine Below.mono (by assumption) ?_) | (with_reducible refine Below.trans ?_ (Below.mono (by assumption) ?_)) | (with_reducible refine Below.alloc ?_ ?_ _) | (with_reducible refine Below.drew ?_) | (with_reducible refine below_drewN ?_ _) | (with_reducible refine Below.setCell ?_ ?_ _) | (simp only [World.size_alloc, World.size_setCell, World.size_drew, size_drewN]; omega) | omega))⟩
  | true =>
    rw [hv] at C
    have C := Lib.hid C
    clear hv
    rw [if_pos rfl]
    go_enter Tryd.func20, Tryd.ntmps20
    go_wp2_with (first | (go_at_call 52; refine (C.out _ (hx.ext (by (repeat' (first | (with_reducible exact Below.refl _ _) | (with_reducible refine Below.mono (by assumption) ?_) | (with_reducible refine Below.trans ?_ (Below.mono (by assumption) ?_)) | (with_reducible refine Below.alloc ?_ ?_ _) | (with_reducible refine Below.drew ?_) | (with_reducible refine below_drewN ?_ _) | (with_reducible refine Below.setCell ?_ ?_ _) | (simp only [World.size_alloc, World.size_setCell, World.size_drew, size_drewN]; omega) | omega))))).mono ?_; rintro e w1 ⟨rfl, hb⟩; obtain ⟨hc, hf, hz, hs⟩ := bcell hb; (try simp only [World.size_alloc, World.size_setCell, World.size_drew, size_drewN] at hs); (first | have l0 := Nat.lt_of_lt_of_le l0 (show _ ≤ w1.heap.size by omega) | have l0 : w.heap.size < w1.heap.size := (by omega) | skip); (try have l0e := Nat.le_of_lt l0); (try have l0f := Nat.le_add_right_of_le (k := 1) l0e); (try have l1 := Nat.lt_of_lt_of_le l1 (show _ ≤ w1.heap.size by omega)); (try have l1e := Nat.le_of_lt l1); (try have l1f := Nat.le_add_right_of_le (k := 1) l1e); (try have l2 := Nat.lt_of_lt_of_le l2 (show _ ≤ w1.heap.size by omega)); (try have l2e := Nat.le_of_lt l2); (try have l2f := Nat.le_add_right_of_le (k := 1) l2e); (try have l3 := Nat.lt_of_lt_of_le l3 (show _ ≤ w1.heap.size by omega)); (try have l3e := Nat.le_of_lt l3); (try have l3f := Nat.le_add_right_of_le (k := 1) l3e)) | (go_at_call 53; refine (lastWrites_c t S A c _ (hx.ext (by (repeat' (first | (with_reducible exact Below.refl _ _) | (with_reducible refine Below.mono (by assumption) ?_) | (with_reducible refine Below.trans ?_ (Below.mono (by assumption) ?_)) | (with_reducible refine Below.alloc ?_ ?_ _) | (with_reducible refine Below.drew ?_) | (with_reducible refine below_drewN ?_ _) | (with_reducible refine Below.setCell ?_ ?_ _) | (simp only [World.size_alloc, World.size_setCell, World.size_drew, size_drewN]; omega) | omega)))) hn).mono ?_; rintro e w2 ⟨A2, c2, rfl, hA2, hf2, hb2⟩; have HA := Lib.hid hA2; have HF := Lib.hid hf2; clear hA2 hf2))
    have h1 := hb.size
    have h2 := hb2.size
    simp only [World.size_alloc] at h1 h2
    go_ret
    exact ⟨_, _, rfl, HA.out.mono (fun b h _ => by omega) (fun _ _ h => h), (fun a ha => ⟨by have := (HF.out a ha).1; omega, (HF.out a ha).2⟩), by (repeat' (first | (with_reducible exact Below.refl _ _) | (with_reducible refine Below.mono (by assumption) ?_) | (with_reducible refine Below.trans ?_ (Below.mono (by assumption) ?_)) | (with_reducible refine Below.alloc ?_ ?_ _) | (with_reducible refine Below.drew ?_) | (with_reducible refine below_drewN ?_ _) | (with_reducible refine Below.setCell ?_ ?_ _) | (simp only [World.size_alloc, World.size_setCell, World.size_drew, size_drewN]; omega) | omega))⟩

theorem opv_c {o : T3} (h : opv o = true) : 0 ≤ o.c := by
  simp only [opv, inB, Bool.and_eq_true, decide_eq_true_eq] at h
  omega
theorem before_touched {ops : List T3} (hv : ∀ o ∈ ops, opv o = true) (key : Int) (n : Nat) : before ops key n < 0 ↔ touched ops key n = false := by
  induction n with
  | zero => simp [before, touched]
  | succ n ih =>
    unfold before touched
    cases h : ops[n]? with
    | none => simpa using ih
    | some o =>
      have := opv_c (hv o (List.mem_of_getElem? h))
      by_cases e : o.b = key
      · simp [e]; omega
      · simpa [e] using ih
theorem frs_eq {ops : List T3} (hv : ∀ o ∈ ops, opv o = true) (n : Nat) : frsI ops n = frs ops n := by
  induction n with
  | zero => rfl
  | succ n ih =>
    unfold frsI frs
    rw [ih]
    cases h : ops[n]? with
    | none => rfl
    | some o =>
      simp only
      by_cases e : o.a = 1 ∧ before ops o.b n < 0
      · rw [if_pos e, if_pos ⟨e.1, (before_touched hv o.b n).1 e.2⟩]
      · rw [if_neg e, if_neg (fun h => e ⟨h.1, (before_touched hv o.b n).2 h.2⟩)]
theorem txnv_ops {t : TxnT} (h : txnv t = true) : ∀ o ∈ t.ops, opv o = true := by
  simp only [txnv, Bool.and_eq_true] at h
  exact List.all_eq_true.1 h.1
end Go.Proofs.YtdgfipoibnjhaaaDoor
