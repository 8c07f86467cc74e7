/-
  Copies of histories whose transactions lie apart, and what marking one leaves alone.
-/
import Derived.Test.YtmbdacfgmiielaaGreatGOwn3
/-
  Contracts of the laws' helpers on histories: sizes, copies, comparisons.
-/
namespace Go.Proofs.YtmbdacfgmiielaaGreat
set_option linter.unusedSimpArgs false
set_option linter.unusedVariables false
set_option maxRecDepth 100000
open Go.RowKit

def total (h : List TxnT) : Nat := (h.map fun t => t.ops.length).sum
/-- a history that passes the laws' size check -/
def Small (h : List TxnT) : Prop := h.length + total h ≤ 1048576
theorem total_take (h : List TxnT) (k : Nat) (t : TxnT) (hk : h[k]? = some t) : total (h.take (k + 1)) = total (h.take k) + t.ops.length := by
  unfold total
  rw [List.take_add_one, hk]
  simp
theorem total_le (h : List TxnT) (k : Nat) : total (h.take k) ≤ total h := by
  have e : total h = total (h.take k) + total (h.drop k) := by
    unfold total
    rw [← List.sum_append, ← List.map_append, List.take_append_drop]
  omega
theorem Small.ops {h : List TxnT} (hs : Small h) {k : Nat} {t : TxnT} (hk : h[k]? = some t) : t.ops.length ≤ 1048576 := by
  have h1 := total_take h k t hk
  have h2 := total_le h (k + 1)
  unfold Small at hs
  omega
theorem Small.len {h : List TxnT} (hs : Small h) : h.length ≤ 1048576 := by unfold Small at hs; omega

/-- what is left of a size: below 0 it is not asked further -/
def SzTo (h : List TxnT) (w : World) (e : Ending) (w' : World) : Prop := ∃ r : Int, e = .returned (.int .i64 r) ∧ (r = -1 ∨ (0 ≤ r ∧ Small h)) ∧ Ext w w'

set_option maxHeartbeats 2000000 in
theorem szTxnS_c (h : List TxnT) (S : Nat → Prop) (A : Option Addr) (c : Nat) (w : World) (hx : Txns S w A h) (hl : h.length ≤ maxLen) (ho : ∀ t ∈ h, t.ops.length ≤ maxLen) :
    Calls Tryz.prog 4 #[.slice A h.length c, .int .i64 1048576] w (SzTo h w) := by
  have C := szf_cases 1048576 h.length
  unfold maxLen at hl
  by_cases hb : h.length ≤ 1048576
  · go_enter Tryz.func4, Tryz.ntmps4
    go_wp2
    go_loopw [1, 5] (fun q i wr => ∃ k : Nat, k ≤ h.length ∧ i = .int .i64 k ∧ q = .int .i64 (1048576 - (h.length : Int) - (total (h.take k) : Int)) ∧ h.length + total (h.take k) ≤ 1048576 ∧ Ext w wr) (fun _ i _ => h.length - (intOf i).toNat)
    case atStart => exact ⟨0, Nat.zero_le _, rfl, by simp [total], by simpa [total] using hb, Below.refl _ _⟩
    case round =>
      obtain ⟨k, hk, rfl, rfl, hsm, hE⟩ := hrel
      have hEz := hE.size
      by_cases hlt : k < h.length
      · obtain ⟨s, ops, d, A', cap, b, off, hxk, rfl, _, hb0, hO, c0, c1, c2⟩ := (hx.ext hE).at_ hlt
        have ht := total_take h k _ hxk
        simp only at ht
        have hol := ho _ (List.mem_of_getElem? hxk)
        simp only at hol
        have C2 := fun w => szTxn_c s A' ops.length cap d (1048576 - (h.length : Int) - (total (h.take k) : Int)) hol (by omega) (by omega) w
        by_cases hfit : (1048576 - (h.length : Int) - (total (h.take k) : Int)) - (ops.length : Int) < 0
        · have e : szf (1048576 - (h.length : Int) - (total (h.take k) : Int)) ops.length = -1 := by simp [szf, hfit]
          rw [e] at C2
          have C2 := Lib.hid C2
          clear e ht hxk
          go_wp2_with (go_at_call 9; refine (C2.out _).mono ?_; rintro e w1 ⟨rfl, hb⟩; obtain ⟨hc, hf, hz, hs⟩ := bcell hb; (try simp only [World.size_alloc, World.size_setCell, World.size_drew, size_drewN] at hs); (first | have l0 := Nat.lt_of_lt_of_le l0 (show _ ≤ w1.heap.size by omega) | have l0 : w.heap.size < w1.heap.size := (by omega) | skip); (try have l0e := Nat.le_of_lt l0); (try have l0f := Nat.le_add_right_of_le (k := 1) l0e); (try have l1 := Nat.lt_of_lt_of_le l1 (show _ ≤ w1.heap.size by omega)); (try have l1e := Nat.le_of_lt l1); (try have l1f := Nat.le_add_right_of_le (k := 1) l1e); (try have l2 := Nat.lt_of_lt_of_le l2 (show _ ≤ w1.heap.size by omega)); (try have l2e := Nat.le_of_lt l2); (try have l2f := Nat.le_add_right_of_le (k := 1) l2e); (try have l3 := Nat.lt_of_lt_of_le l3 (show _ ≤ w1.heap.size by omega)); (try have l3e := Nat.le_of_lt l3); (try have l3f := Nat.le_add_right_of_le (k := 1) l3e))
          go_ret
          exact ⟨_, rfl, .inl rfl, by (repeat' (first | (with_reducible exact Below.refl _ _) | (with_reducible refine Below.mono (by assumption) ?_) | (with_reducible refine Below.trans ?_ (Below.mono (by assumption) ?_)) | (with_reducible refine Below.alloc ?_ ?_ _) | (with_reducible refine Below.drew ?_) | (with_reducible refine below_drewN ?_ _) | (with_reducible refine Below.setCell ?_ ?_ _) | (simp only [World.size_alloc, World.size_setCell, World.size_drew, size_drewN]; omega) | omega))⟩
        · have e : szf (1048576 - (h.length : Int) - (total (h.take k) : Int)) ops.length = (1048576 - (h.length : Int) - (total (h.take k) : Int)) - (ops.length : Int) := by simp [szf, hfit]
          rw [e] at C2
          have C2 := Lib.hid C2
          have HT := Lib.hid ht
          clear e ht hxk
          go_wp2_with (go_at_call 9; refine (C2.out _).mono ?_; rintro e w1 ⟨rfl, hb⟩; obtain ⟨hc, hf, hz, hs⟩ := bcell hb; (try simp only [World.size_alloc, World.size_setCell, World.size_drew, size_drewN] at hs); (first | have l0 := Nat.lt_of_lt_of_le l0 (show _ ≤ w1.heap.size by omega) | have l0 : w.heap.size < w1.heap.size := (by omega) | skip); (try have l0e := Nat.le_of_lt l0); (try have l0f := Nat.le_add_right_of_le (k := 1) l0e); (try have l1 := Nat.lt_of_lt_of_le l1 (show _ ≤ w1.heap.size by omega)); (try have l1e := Nat.le_of_lt l1); (try have l1f := Nat.le_add_right_of_le (k := 1) l1e); (try have l2 := Nat.lt_of_lt_of_le l2 (show _ ≤ w1.heap.size by omega)); (try have l2e := Nat.le_of_lt l2); (try have l2f := Nat.le_add_right_of_le (k := 1) l2e); (try have l3 := Nat.lt_of_lt_of_le l3 (show _ ≤ w1.heap.size by omega)); (try have l3e := Nat.le_of_lt l3); (try have l3f := Nat.le_add_right_of_le (k := 1) l3e))
          exact ⟨⟨k + 1, by omega, by go_num, by rw [HT.out]; go_num, by rw [HT.out]; omega, by (repeat' (first | (with_reducible exact Below.refl _ _) | (with_reducible refine Below.mono (by assumption) ?_) | (with_reducible refine Below.trans ?_ (Below.mono (by assumption) ?_)) | (with_reducible refine Below.alloc ?_ ?_ _) | (with_reducible refine Below.drew ?_) | (with_reducible refine below_drewN ?_ _) | (with_reducible refine Below.setCell ?_ ?_ _) | (simp only [World.size_alloc, World.size_setCell, World.size_drew, size_drewN]; omega) | omega))⟩, by simp [intOf]; omega⟩
      · obtain rfl : k = h.length := by omega
        rw [List.take_length] at hsm ⊢
        go_wp2
        go_ret
        exact ⟨_, rfl, .inr ⟨by omega, hsm⟩, hE⟩
  · go_enter Tryz.func4, Tryz.ntmps4
    go_wp2
    go_ret
    exact ⟨_, rfl, .inl rfl, Below.refl _ _⟩

set_option maxHeartbeats 2000000 in
theorem eqTxnS_c (h : List TxnT) (S S' : Nat → Prop) (A B : Option Addr) (c d : Nat) (w : World) (hx : Txns S w A h) (hy : Txns S' w B h) (hs : Small h) :
    Calls Tryz.prog 8 #[.slice A h.length c, .slice B h.length d] w fun e w' => e = .returned (.bool true) ∧ Ext w w' := by
  have e1 : ((h.length : Int) != (h.length : Int)) = false := by simp
  have hl := hs.len
  go_enter Tryz.func8, Tryz.ntmps8
  go_wp2
  go_loopw [5] (fun i wr => ∃ k : Nat, k ≤ h.length ∧ i = .int .i64 k ∧ Ext w wr) (fun i _ => h.length - (intOf i).toNat)
  case atStart => exact ⟨0, Nat.zero_le _, rfl, Below.refl _ _⟩
  case round =>
    obtain ⟨k, hk, rfl, hE⟩ := hrel
    have hEz := hE.size
    by_cases hlt : k < h.length
    · obtain ⟨s, ops, dn, A', cap, b, off, hxk, rfl, _, hb0, hO, c0, c1, c2⟩ := (hx.ext hE).at_ hlt
      obtain ⟨s', ops', dn', A2, cap2, b', off', hyk, rfl, _, hb0', hO', d0, d1, d2⟩ := (hy.ext hE).at_ hlt
      rw [hxk] at hyk
      cases hyk
      have hon := hs.ops hxk
      simp only at hon
      clear hxk
      go_wp2
      go_still_tail 8, (by kernel_rfl)
      change wpList _ _ _ _ _ wr.drew
      go_wp2_with (go_at_call 15; refine (eqTxn_c ⟨s, ops, dn⟩ _ _ _ _ _ _ _ (hO.ext (by (repeat' (first | (with_reducible exact Below.refl _ _) | (with_reducible refine Below.mono (by assumption) ?_) | (with_reducible refine Below.trans ?_ (Below.mono (by assumption) ?_)) | (with_reducible refine Below.alloc ?_ ?_ _) | (with_reducible refine Below.drew ?_) | (with_reducible refine below_drewN ?_ _) | (with_reducible refine Below.setCell ?_ ?_ _) | (simp only [World.size_alloc, World.size_setCell, World.size_drew, size_drewN]; omega) | omega)))) (hO'.ext (by (repeat' (first | (with_reducible exact Below.refl _ _) | (with_reducible refine Below.mono (by assumption) ?_) | (with_reducible refine Below.trans ?_ (Below.mono (by assumption) ?_)) | (with_reducible refine Below.alloc ?_ ?_ _) | (with_reducible refine Below.drew ?_) | (with_reducible refine below_drewN ?_ _) | (with_reducible refine Below.setCell ?_ ?_ _) | (simp only [World.size_alloc, World.size_setCell, World.size_drew, size_drewN]; omega) | omega)))) hon).mono ?_; rintro e w1 ⟨rfl, hb⟩; obtain ⟨hc, hf, hz, hs⟩ := bcell hb; (try simp only [World.size_alloc, World.size_setCell, World.size_drew, size_drewN] at hs); (first | have l0 := Nat.lt_of_lt_of_le l0 (show _ ≤ w1.heap.size by omega) | have l0 : w.heap.size < w1.heap.size := (by omega) | skip); (try have l0e := Nat.le_of_lt l0); (try have l0f := Nat.le_add_right_of_le (k := 1) l0e); (try have l1 := Nat.lt_of_lt_of_le l1 (show _ ≤ w1.heap.size by omega)); (try have l1e := Nat.le_of_lt l1); (try have l1f := Nat.le_add_right_of_le (k := 1) l1e); (try have l2 := Nat.lt_of_lt_of_le l2 (show _ ≤ w1.heap.size by omega)); (try have l2e := Nat.le_of_lt l2); (try have l2f := Nat.le_add_right_of_le (k := 1) l2e); (try have l3 := Nat.lt_of_lt_of_le l3 (show _ ≤ w1.heap.size by omega)); (try have l3e := Nat.le_of_lt l3); (try have l3f := Nat.le_add_right_of_le (k := 1) l3e))
      go_roundw
      case rel => exact ⟨k + 1, by omega, by go_num, by (repeat' (first | (with_reducible exact Below.refl _ _) | (with_reducible refine Below.mono (by assumption) ?_) | (with_reducible refine Below.trans ?_ (Below.mono (by assumption) ?_)) | (with_reducible refine Below.alloc ?_ ?_ _) | (with_reducible refine Below.drew ?_) | (with_reducible refine below_drewN ?_ _) | (with_reducible refine Below.setCell ?_ ?_ _) | (simp only [World.size_alloc, World.size_setCell, World.size_drew, size_drewN]; omega) | omega))⟩
      case measure => simp [intOf]; omega
    · go_wp2
      go_ret
      exact ⟨rfl, hE⟩

/-- the first k transactions stand in the cells, their operations in S -/
def UptoT (w : World) (S : Nat → Prop) (cs : Array Value) (xs : List TxnT) (k : Nat) : Prop := cs.size = xs.length * 3 ∧ ∀ i x, i < k → xs[i]? = some x →
  ∃ A cap, cs[i * 3]? = some (.int .i64 x.sess) ∧ cs[i * 3 + 1]? = some (.slice A x.ops.length cap) ∧ cs[i * 3 + 2]? = some (.bool x.done) ∧ Ops S w A x.ops
theorem UptoT.ext {w w' : World} {S : Nat → Prop} {cs : Array Value} {xs : List TxnT} {k : Nat} (h : UptoT w S cs xs k) (hE : Ext w w') : UptoT w' S cs xs k :=
  ⟨h.1, fun i x hi hx => by
    obtain ⟨A, cap, e0, e1, e2, hO⟩ := h.2 i x hi hx
    exact ⟨A, cap, e0, e1, e2, hO.ext hE⟩⟩
theorem UptoT.setCell {w : World} {S : Nat → Prop} {cs : Array Value} {xs : List TxnT} {k : Nat} (h : UptoT w S cs xs k) {p : Addr} (hp : ¬ S p.block) (u : Value) : UptoT (w.setCell p u) S cs xs k :=
  ⟨h.1, fun i x hi hx => by
    obtain ⟨A, cap, e0, e1, e2, hO⟩ := h.2 i x hi hx
    exact ⟨A, cap, e0, e1, e2, hO.setCell hp u⟩⟩
theorem UptoT.step {w : World} {S : Nat → Prop} {cs : Array Value} {xs : List TxnT} {k : Nat} {s : Int} {ops : List T3} {d : Bool} {A : Option Addr} {cap : Nat} (h : UptoT w S cs xs k) (hx : xs[k]? = some ⟨s, ops, d⟩) (hO : Ops S w A ops) :
    UptoT w S (((cs.setIfInBounds (k * 3) (.int .i64 s)).setIfInBounds (k * 3 + 1) (.slice A ops.length cap)).setIfInBounds (k * 3 + 2) (.bool d)) xs (k + 1) := by
  obtain ⟨h1, h2⟩ := h
  have hk : k < xs.length := (List.getElem?_eq_some_iff.1 hx).1
  refine ⟨by simp [h1], fun i x hi hxi => ?_⟩
  rcases Nat.lt_or_ge i k with hlt | hge
  · obtain ⟨A', cap', e0, e1, e2, hO'⟩ := h2 i x hlt hxi
    refine ⟨A', cap', ?_, ?_, ?_, hO'⟩
    · rw [Array.getElem?_setIfInBounds_ne (by omega), Array.getElem?_setIfInBounds_ne (by omega), Array.getElem?_setIfInBounds_ne (by omega)]; exact e0
    · rw [Array.getElem?_setIfInBounds_ne (by omega), Array.getElem?_setIfInBounds_ne (by omega), Array.getElem?_setIfInBounds_ne (by omega)]; exact e1
    · rw [Array.getElem?_setIfInBounds_ne (by omega), Array.getElem?_setIfInBounds_ne (by omega), Array.getElem?_setIfInBounds_ne (by omega)]; exact e2
  · obtain rfl : i = k := by omega
    rw [hx] at hxi
    cases hxi
    refine ⟨A, cap, ?_, ?_, ?_, hO⟩
    · rw [Array.getElem?_setIfInBounds_ne (by omega), Array.getElem?_setIfInBounds_ne (by omega), Array.getElem?_setIfInBounds_self_of_lt (by (try simp); omega)]
    · rw [Array.getElem?_setIfInBounds_ne (by omega), Array.getElem?_setIfInBounds_self_of_lt (by (try simp); omega)]
    · rw [Array.getElem?_setIfInBounds_self_of_lt (by (try simp); omega)]
/-- a history whose transactions lie in So, their operations in Si -/
abbrev Txns2 (So Si : Nat → Prop) := SlAt 3 (RTxn Si) So
theorem Txns2.txns {So Si S : Nat → Prop} {w : World} {A : Option Addr} {xs : List TxnT} (h : Txns2 So Si w A xs) (h1 : ∀ b, So b → b < w.heap.size → S b) (h2 : ∀ b, Si b → b < w.heap.size → S b) : Txns S w A xs :=
  SlAt.mono h h1 (mono_txn h2)
theorem UptoT.txns {w : World} {g : Nat} {t : TypeId} {cs : Array Value} {xs : List TxnT} {So Si : Nat → Prop} (h : UptoT w Si cs xs xs.length) (hB : Blk w g t cs) (hS : So g) : Txns2 So Si w (some ⟨g, 0, none⟩) xs := by
  intro i x hx
  have hi : i < xs.length := (List.getElem?_eq_some_iff.1 hx).1
  obtain ⟨A, cap, e0, e1, e2, hO⟩ := h.2 i x hi hx
  refine ⟨g, 0, _, rfl, hS, hB.lt, rfl, ⟨A, cap, rfl, hO⟩, fun j u hu => ?_⟩
  rw [hB.cell]
  match j, hu with
  | 0, hu => cases hu; simpa using e0
  | 1, hu => cases hu; simpa using e1
  | 2, hu => cases hu; simpa using e2
  | j + 3, hu => simp at hu

/-- a copy of a history, in memory of its own -/
def FreshH (h : List TxnT) (w : World) (e : Ending) (w' : World) : Prop :=
  ∃ A, e = .returned (.slice A h.length h.length) ∧ Txns2 (fun b => b = w.heap.size) (fun b => w.heap.size < b) w' A h ∧ Ext w w'

theorem infoTxn : (Tryz.prog.info? 39).map (fun i => (i.zero, i.size, i.bytes)) = some (some (.agg #[.int .i64 0, .slice none 0 0, .bool false]), 3, 40) := by kernel_rfl

set_option maxHeartbeats 2000000 in
theorem toTxnS_c (xs : List TxnT) (S : Nat → Prop) (A : Option Addr) (c : Nat) (w : World) (hx : Txns S w A xs) (hs : Small xs) :
    Calls Tryz.prog 6 #[.slice A xs.length c] w (FreshH xs w) := by
  have hn := hs.len
  obtain ⟨i0, hi, hz0, hz1, hz2⟩ := info_parts infoTxn
  have hmk := fun W => run_make_rowN (P := Tryz.prog) 25 39 i0 _ Tryz.underlying25 hi hz0 .i64 .i64 xs.length xs.length (Nat.le_refl _) (by rw [hz2]; omega) (by omega) W
  rw [hz1] at hmk
  go_enter Tryz.func6, Tryz.ntmps6
  go_wp2
  go_loopw [4] (fun i wr => ∃ (k : Nat) (cs : Array Value), k ≤ xs.length ∧ i = .int .i64 k ∧ Blk wr w.heap.size 39 cs ∧ UptoT wr (fun b => w.heap.size < b) cs xs k ∧ Ext w wr) (fun i _ => xs.length - (intOf i).toNat)
  case atStart => exact ⟨0, _, Nat.zero_le _, rfl, Blk.new _ _ _, ⟨by simp [madeCells], fun i x h => by omega⟩, by (repeat' (first | (with_reducible exact Below.refl _ _) | (with_reducible refine Below.mono (by assumption) ?_) | (with_reducible refine Below.trans ?_ (Below.mono (by assumption) ?_)) | (with_reducible refine Below.alloc ?_ ?_ _) | (with_reducible refine Below.drew ?_) | (with_reducible refine below_drewN ?_ _) | (with_reducible refine Below.setCell ?_ ?_ _) | (simp only [World.size_alloc, World.size_setCell, World.size_drew, size_drewN]; omega) | omega))⟩
  case round =>
    obtain ⟨k, cs, hk, rfl, hB, hU, hE⟩ := hrel
    by_cases hlt : k < xs.length
    · obtain ⟨s, ops, d, A', cap, b, off, hxk, rfl, _, hb0, hO, c0, c1, c2⟩ := (hx.ext hE).at_ hlt
      have hg := hB.lt
      have hs3 := hU.1
      have hon := hs.ops hxk
      simp only at hon
      obtain ⟨u0, d0⟩ := hB.at_ (i := k * 3) (by omega)
      obtain ⟨u1, d1⟩ := hB.at_ (i := k * 3 + 1) (by omega)
      obtain ⟨u2, d2⟩ := hB.at_ (i := k * 3 + 2) (by omega)
      have hfz := hB.frozen
      have HX := Lib.hid hxk; have HU := Lib.hid hU; have HS := Lib.hid hs3
      clear hxk hU hs3
      go_wp2_with (go_at_call 12; refine (toTxn_c ⟨s, ops, d⟩ _ _ _ _ (hO.ext (by (repeat' (first | (with_reducible exact Below.refl _ _) | (with_reducible refine Below.mono (by assumption) ?_) | (with_reducible refine Below.trans ?_ (Below.mono (by assumption) ?_)) | (with_reducible refine Below.alloc ?_ ?_ _) | (with_reducible refine Below.drew ?_) | (with_reducible refine below_drewN ?_ _) | (with_reducible refine Below.setCell ?_ ?_ _) | (simp only [World.size_alloc, World.size_setCell, World.size_drew, size_drewN]; omega) | omega)))) hon).mono ?_; rintro e w1 ⟨A2, rfl, hA2, hf2, hb⟩; obtain ⟨hc, hf, hz, hs⟩ := bcell hb; (try simp only [World.size_alloc, World.size_setCell, World.size_drew, size_drewN] at hs); (first | have l0 := Nat.lt_of_lt_of_le l0 (show _ ≤ w1.heap.size by omega) | have l0 : w.heap.size < w1.heap.size := (by omega) | skip); (try have l0e := Nat.le_of_lt l0); (try have l0f := Nat.le_add_right_of_le (k := 1) l0e); (try have l1 := Nat.lt_of_lt_of_le l1 (show _ ≤ w1.heap.size by omega)); (try have l1e := Nat.le_of_lt l1); (try have l1f := Nat.le_add_right_of_le (k := 1) l1e); (try have l2 := Nat.lt_of_lt_of_le l2 (show _ ≤ w1.heap.size by omega)); (try have l2e := Nat.le_of_lt l2); (try have l2f := Nat.le_add_right_of_le (k := 1) l2e); (try have l3 := Nat.lt_of_lt_of_le l3 (show _ ≤ w1.heap.size by omega)); (try have l3e := Nat.le_of_lt l3); (try have l3f := Nat.le_add_right_of_le (k := 1) l3e))
      go_roundw
      case rel =>
        have hU2 := HU.out.ext hb
        have hO2 : Ops (fun b => w.heap.size < b) w1 A2 ops := hA2.mono (fun b h _ => by omega) (fun _ _ h => h)
        have hst := hU2.step (cap := ops.length) HX.out hO2
        refine ⟨k + 1, _, by omega, by go_num, (((hB.ext hb).set_ _ _).set_ _ _).set_ _ _, ?_, by (repeat' (first | (with_reducible exact Below.refl _ _) | (with_reducible refine Below.mono (by assumption) ?_) | (with_reducible refine Below.trans ?_ (Below.mono (by assumption) ?_)) | (with_reducible refine Below.alloc ?_ ?_ _) | (with_reducible refine Below.drew ?_) | (with_reducible refine below_drewN ?_ _) | (with_reducible refine Below.setCell ?_ ?_ _) | (simp only [World.size_alloc, World.size_setCell, World.size_drew, size_drewN]; omega) | omega))⟩
        exact ((hst.setCell (by simp) _).setCell (by simp) _).setCell (by simp) _
      case measure => simp [intOf]; omega
    · obtain rfl : k = xs.length := by omega
      go_wp2
      go_ret
      exact ⟨_, rfl, hU.txns hB rfl, hE⟩
end Go.Proofs.YtmbdacfgmiielaaGreat
namespace Go.Proofs.YtmbdacfgmiielaaGreat
set_option linter.unusedSimpArgs false
set_option linter.unusedVariables false
set_option maxRecDepth 100000
open Go.RowKit

/-- between lo and hi memory may have turned, elsewhere not -/
structure Within (lo hi : Nat) (w w' : World) : Prop where
  os : w'.os = w.os
  tape : w'.tape = w.tape
  output : w'.output = w.output
  size : w.heap.size ≤ w'.heap.size
  block : ∀ k, k < w.heap.size → (k < lo ∨ hi ≤ k) → w'.heap[k]? = w.heap[k]?
theorem Within.refl (lo hi : Nat) (w : World) : Within lo hi w w := ⟨rfl, rfl, rfl, Nat.le_refl _, fun _ _ _ => rfl⟩
theorem Within.tr {lo hi : Nat} {a b c : World} (h : Within lo hi a b) (k : Within lo hi b c) : Within lo hi a c :=
  ⟨k.os.trans h.os, k.tape.trans h.tape, k.output.trans h.output, Nat.le_trans h.size k.size, fun i hi hn => (k.block i (Nat.lt_of_lt_of_le hi h.size) hn).trans (h.block i hi hn)⟩
theorem Within.set_ {lo hi g o : Nat} {w : World} (u : Value) (h1 : lo ≤ g) (h2 : g < hi) : Within lo hi w (w.setCell ⟨g, o, none⟩ u) :=
  ⟨rfl, rfl, rfl, by simp [World.setCell], fun k _ hn => Below.heap_setCell w ⟨g, o, none⟩ u _ (fun e => by simp only at e; omega)⟩
theorem Within.grown {lo hi : Nat} {w w' : World} {row : Option Nat} (h : w.grownBy w' row) (hr : ∀ g, row = some g → lo ≤ g ∧ g < hi) : Within lo hi w w' :=
  ⟨h.os, h.tape, h.output, h.size, fun k hk hn => h.block k hk (fun e => by have := hr k e.symm; omega)⟩
theorem Within.ext {lo hi : Nat} {w w' : World} (h : Ext w w') : Within lo hi w w' := ⟨h.os, h.tape, h.output, h.size, fun k hk _ => h.block k hk⟩
/-- what was old before stays -/
theorem Within.old {lo hi : Nat} {a w w' : World} (h : Ext a w) (hw : Within lo hi w w') (hl : a.heap.size ≤ lo) : Ext a w' :=
  ⟨hw.os.trans h.os, hw.tape.trans h.tape, hw.output.trans h.output, Nat.le_trans h.size hw.size, fun k hk => (hw.block k (Nat.lt_of_lt_of_le hk h.size) (.inl (Nat.lt_of_lt_of_le hk hl))).trans (h.block k hk)⟩

/-- the history h in the cells cs of block g, each transaction's operations between lim i and lim (i + 1) -/
def SepR (w : World) (g : Nat) (cs : Array Value) (h : List TxnT) (lim : Nat → Nat) (lo hi : Nat) : Prop :=
  cs.size = h.length * 3 ∧ g < lim 0 ∧ (∀ i, i < hi → lim i ≤ lim (i + 1)) ∧ lim hi ≤ w.heap.size ∧ ∀ i x, lo ≤ i → i < hi → h[i]? = some x →
    ∃ A cap, cs[i * 3]? = some (.int .i64 x.sess) ∧ cs[i * 3 + 1]? = some (.slice A x.ops.length cap) ∧ cs[i * 3 + 2]? = some (.bool x.done) ∧ Ops (fun b => lim i ≤ b ∧ b < lim (i + 1)) w A x.ops ∧
      ∀ a, A = some a → lim i ≤ a.block ∧ a.block < lim (i + 1) ∧ ∀ o, w.frozen? ⟨a.block, o, none⟩ = false
def Sep (w : World) (g : Nat) (t : TypeId) (h : List TxnT) (lim : Nat → Nat) (lo hi : Nat) : Prop := ∃ cs, Blk w g t cs ∧ SepR w g cs h lim lo hi
theorem lim_le {lim : Nat → Nat} {hi : Nat} (h : ∀ i, i < hi → lim i ≤ lim (i + 1)) {i j : Nat} (hij : i ≤ j) (hj : j ≤ hi) : lim i ≤ lim j := by
  induction j with
  | zero => obtain rfl : i = 0 := by omega
            exact Nat.le_refl _
  | succ j ih =>
    rcases Nat.lt_or_ge i (j + 1) with h1 | h1
    · exact Nat.le_trans (ih (by omega) (by omega)) (h j (by omega))
    · obtain rfl : i = j + 1 := by omega
      exact Nat.le_refl _
theorem Sep.txns {w : World} {g : Nat} {t : TypeId} {h : List TxnT} {lim : Nat → Nat} (hs : Sep w g t h lim 0 h.length) : Txns2 (fun b => b = g) (fun b => g < b) w (some ⟨g, 0, none⟩) h := by
  obtain ⟨cs, hB, h1, h2, h3, h4, h5⟩ := hs
  refine UptoT.txns (cs := cs) (t := t) ⟨h1, fun i x hi hx => ?_⟩ hB rfl
  obtain ⟨A, cap, e0, e1, e2, hO, hA⟩ := h5 i x (Nat.zero_le _) hi hx
  exact ⟨A, cap, e0, e1, e2, hO.mono (fun b hb _ => by have := lim_le h3 (Nat.zero_le i) (by omega); omega) (fun _ _ h => h)⟩

theorem SepR.ext {w w' : World} {g : Nat} {cs : Array Value} {h : List TxnT} {lim : Nat → Nat} {lo hi : Nat} (hs : SepR w g cs h lim lo hi) (hE : Ext w w') : SepR w' g cs h lim lo hi := by
  obtain ⟨h1, h2, h3, h4, h5⟩ := hs
  refine ⟨h1, h2, h3, Nat.le_trans h4 hE.size, fun i x hi hj hx => ?_⟩
  obtain ⟨A, cap, e0, e1, e2, hO, hA⟩ := h5 i x hi hj hx
  refine ⟨A, cap, e0, e1, e2, hO.ext hE, fun a ha => ?_⟩
  obtain ⟨a1, a2, a3⟩ := hA a ha
  have hle := lim_le h3 (i := i + 1) (by omega) (Nat.le_refl _)
  exact ⟨a1, a2, fun o => by rw [hE.frozen (p := ⟨a.block, o, none⟩) (by simp only; omega)]; exact a3 o⟩
theorem Sep.ext {w w' : World} {g : Nat} {t : TypeId} {h : List TxnT} {lim : Nat → Nat} {lo hi : Nat} (hs : Sep w g t h lim lo hi) (hE : Ext w w') : Sep w' g t h lim lo hi := by
  obtain ⟨cs, hB, hR⟩ := hs
  exact ⟨cs, hB.ext hE, hR.ext hE⟩
theorem SepR.setCell {w : World} {g : Nat} {cs : Array Value} {h : List TxnT} {lim : Nat → Nat} {lo hi : Nat} (hs : SepR w g cs h lim lo hi) (o : Nat) (u : Value) : SepR (w.setCell ⟨g, o, none⟩ u) g cs h lim lo hi := by
  obtain ⟨h1, h2, h3, h4, h5⟩ := hs
  refine ⟨h1, h2, h3, by simpa [World.setCell] using h4, fun i x hi hj hx => ?_⟩
  obtain ⟨A, cap, e0, e1, e2, hO, hA⟩ := h5 i x hi hj hx
  have hle := lim_le h3 (Nat.zero_le i) (by omega)
  refine ⟨A, cap, e0, e1, e2, hO.setCell (by simp only; omega) u, fun a ha => ?_⟩
  obtain ⟨a1, a2, a3⟩ := hA a ha
  exact ⟨a1, a2, fun o => by rw [World.frozen?_setCell]; exact a3 o⟩
theorem SepR.step {w : World} {g : Nat} {cs : Array Value} {h : List TxnT} {lim : Nat → Nat} {k m : Nat} {s : Int} {ops : List T3} {d : Bool} {A : Option Addr} {cap : Nat} (hs : SepR w g cs h lim 0 k) (hx : h[k]? = some ⟨s, ops, d⟩)
    (hlm : lim k ≤ m) (hO : Ops (fun b => m ≤ b) w A ops) (hA : ∀ a, A = some a → m ≤ a.block ∧ a.block < w.heap.size ∧ ∀ o, w.frozen? ⟨a.block, o, none⟩ = false) (hm : m ≤ w.heap.size) :
    SepR w g (((cs.setIfInBounds (k * 3) (.int .i64 s)).setIfInBounds (k * 3 + 1) (.slice A ops.length cap)).setIfInBounds (k * 3 + 2) (.bool d)) h (fun i => if i ≤ k then lim i else w.heap.size) 0 (k + 1) := by
  obtain ⟨h1, h2, h3, h4, h5⟩ := hs
  have hk : k < h.length := (List.getElem?_eq_some_iff.1 hx).1
  refine ⟨by simp [h1], by simpa using h2, fun i hi => ?_, by simp only [if_neg (show ¬ k + 1 ≤ k by omega)]; exact Nat.le_refl _, fun i x _ hi hxi => ?_⟩
  · rcases Nat.lt_or_ge i k with hlt | hge
    · simp only [if_pos (Nat.le_of_lt hlt), if_pos (show i + 1 ≤ k by omega)]
      exact h3 i hlt
    · obtain rfl : i = k := by omega
      simp only [Nat.le_refl, if_true, if_neg (show ¬ i + 1 ≤ i by omega)]
      omega
  · rcases Nat.lt_or_ge i k with hlt | hge
    · obtain ⟨A', cap', e0, e1, e2, hO', hA'⟩ := h5 i x (Nat.zero_le _) hlt hxi
      simp only [if_pos (Nat.le_of_lt hlt), if_pos (show i + 1 ≤ k by omega)]
      refine ⟨A', cap', ?_, ?_, ?_, hO', hA'⟩
      · rw [Array.getElem?_setIfInBounds_ne (by omega), Array.getElem?_setIfInBounds_ne (by omega), Array.getElem?_setIfInBounds_ne (by omega)]; exact e0
      · rw [Array.getElem?_setIfInBounds_ne (by omega), Array.getElem?_setIfInBounds_ne (by omega), Array.getElem?_setIfInBounds_ne (by omega)]; exact e1
      · rw [Array.getElem?_setIfInBounds_ne (by omega), Array.getElem?_setIfInBounds_ne (by omega), Array.getElem?_setIfInBounds_ne (by omega)]; exact e2
    · obtain rfl : i = k := by omega
      rw [hx] at hxi
      cases hxi
      simp only [Nat.le_refl, if_true, if_neg (show ¬ i + 1 ≤ i by omega)]
      refine ⟨A, cap, ?_, ?_, ?_, hO.mono (fun b hb hl => ⟨by omega, hl⟩) (fun _ _ h => h), fun a ha => ?_⟩
      · rw [Array.getElem?_setIfInBounds_ne (by omega), Array.getElem?_setIfInBounds_ne (by omega), Array.getElem?_setIfInBounds_self_of_lt (by (try simp); omega)]
      · rw [Array.getElem?_setIfInBounds_ne (by omega), Array.getElem?_setIfInBounds_self_of_lt (by (try simp); omega)]
      · rw [Array.getElem?_setIfInBounds_self_of_lt (by (try simp); omega)]
      · have := hA a ha
        exact ⟨by omega, this.2.1, this.2.2⟩
theorem SepR.later {w w' : World} {g : Nat} {cs cs' : Array Value} {h : List TxnT} {lim : Nat → Nat} {j hi : Nat} {row : Option Nat} (hs : SepR w g cs h lim j hi) (hj : j < hi) (hg : w.grownBy w' row) (hr : ∀ b, row = some b → b < lim (j + 1)) (hz : cs'.size = cs.size) (hc : ∀ i, (j + 1) * 3 ≤ i → cs'[i]? = cs[i]?) : SepR w' g cs' h lim (j + 1) hi := by
  obtain ⟨h1, h2, h3, h4, h5⟩ := hs
  refine ⟨hz.trans h1, h2, h3, Nat.le_trans h4 hg.size, fun i x hi' hj' hx => ?_⟩
  obtain ⟨A, cap, e0, e1, e2, hO, hA⟩ := h5 i x (by omega) hj' hx
  have hle := lim_le h3 hi' (by omega)
  have hle2 := lim_le h3 (i := i + 1) (by omega) (Nat.le_refl _)
  refine ⟨A, cap, (hc _ (by omega)).trans e0, (hc _ (by omega)).trans e1, (hc _ (by omega)).trans e2, hO.grown hg (fun b hb _ he => by have := hr b he.symm; omega), fun a ha => ?_⟩
  obtain ⟨a1, a2, a3⟩ := hA a ha
  exact ⟨a1, a2, fun o => by rw [World.frozen?_of_block (a := ⟨a.block, o, none⟩) (hg.block a.block (by omega) (fun he => by have := hr a.block he.symm; omega))]; exact a3 o⟩

end Go.Proofs.YtmbdacfgmiielaaGreat
