/-
  Contracts of the laws' helpers on histories: sizes, copies, comparisons.
-/
import Derived.Test.YtdgfipoibnjhaaaOwn
import Derived.Test.YtdgfipoibnjhaaaMark
namespace Go.Proofs.Ytdgfipoibnjhaaa
set_option linter.unusedSimpArgs false
set_option linter.unusedVariables false
set_option maxRecDepth 100000
open Go.RowKit

def total (h : List TxnT) : Nat := (h.map fun t => t.ops.length).sum
/-- a history that passes the laws' size check -/
def Small (h : List TxnT) : Prop := h.length + total h ≤ 1048576
theorem total_take (h : List TxnT) (k : Nat) (t : TxnT) (hk : h[k]? = some t) : total (h.take (k + 1)) = total (h.take k) + t.ops.length := by
  unfold total
  rw [List.take_add_one, hk]
  simp
theorem total_le (h : List TxnT) (k : Nat) : total (h.take k) ≤ total h := by
  have e : total h = total (h.take k) + total (h.drop k) := by
    unfold total
    rw [← List.sum_append, ← List.map_append, List.take_append_drop]
  omega
theorem Small.ops {h : List TxnT} (hs : Small h) {k : Nat} {t : TxnT} (hk : h[k]? = some t) : t.ops.length ≤ 1048576 := by
  have h1 := total_take h k t hk
  have h2 := total_le h (k + 1)
  unfold Small at hs
  omega
theorem Small.len {h : List TxnT} (hs : Small h) : h.length ≤ 1048576 := by unfold Small at hs; omega

/-- what is left of a size: below 0 it is not asked further -/
def SzTo (h : List TxnT) (w : World) (e : Ending) (w' : World) : Prop := ∃ r : Int, e = .returned (.int .i64 r) ∧ (r = -1 ∨ (0 ≤ r ∧ Small h)) ∧ Ext w w'

set_option maxHeartbeats 2000000 in
theorem szTxnS_c (h : List TxnT) (S : Nat → Prop) (A : Option Addr) (c : Nat) (w : World) (hx : Txns S w A h) (hl : h.length ≤ maxLen) (ho : ∀ t ∈ h, t.ops.length ≤ maxLen) :
    Calls Try.prog 4 #[.slice A h.length c, .int .i64 1048576] w (SzTo h w) := by
  have C := szf_cases 1048576 h.length
  unfold maxLen at hl
  by_cases hb : h.length ≤ 1048576
  · go_enter Try.func4, Try.ntmps4
    go_wp2
    go_loopw [1, 5] (fun q i wr => ∃ k : Nat, k ≤ h.length ∧ i = .int .i64 k ∧ q = .int .i64 (1048576 - (h.length : Int) - (total (h.take k) : Int)) ∧ h.length + total (h.take k) ≤ 1048576 ∧ Ext w wr) (fun _ i _ => h.length - (intOf i).toNat)
    case atStart => exact ⟨0, Nat.zero_le _, rfl, by simp [total], by simpa [total] using hb, Below.refl _ _⟩
    case round =>
      obtain ⟨k, hk, rfl, rfl, hsm, hE⟩ := hrel
      have hEz := hE.size
      by_cases hlt : k < h.length
      · obtain ⟨s, ops, d, A', cap, b, off, hxk, rfl, _, hb0, hO, c0, c1, c2⟩ := (hx.ext hE).at_ hlt
        have ht := total_take h k _ hxk
        simp only at ht
        have hol := ho _ (List.mem_of_getElem? hxk)
        simp only at hol
        have C2 := fun w => szTxn_c s A' ops.length cap d (1048576 - (h.length : Int) - (total (h.take k) : Int)) hol (by omega) (by omega) w
        by_cases hfit : (1048576 - (h.length : Int) - (total (h.take k) : Int)) - (ops.length : Int) < 0
        · have e : szf (1048576 - (h.length : Int) - (total (h.take k) : Int)) ops.length = -1 := by simp [szf, hfit]
          rw [e] at C2
          have C2 := Lib.hid C2
          clear e ht hxk
          go_wp2_with (go_at_call 13; refine (C2.out _).mono ?_; rintro e w1 ⟨rfl, hb⟩; obtain ⟨hc, hf, hz, hs⟩ := bcell hb; (try simp only [World.size_alloc, World.size_setCell, World.size_drew, size_drewN] at hs); (first | have l0 := Nat.lt_of_lt_of_le l0 (show _ ≤ w1.heap.size by omega) | have l0 : w.heap.size < w1.heap.size := (by omega) | skip); (try have l0e := Nat.le_of_lt l0); (try have l0f := Nat.le_add_right_of_le (k := 1) l0e); (try have l1 := Nat.lt_of_lt_of_le l1 (show _ ≤ w1.heap.size by omega)); (try have l1e := Nat.le_of_lt l1); (try have l1f := Nat.le_add_right_of_le (k := 1) l1e); (try have l2 := Nat.lt_of_lt_of_le l2 (show _ ≤ w1.heap.size by omega)); (try have l2e := Nat.le_of_lt l2); (try have l2f := Nat.le_add_right_of_le (k := 1) l2e); (try have l3 := Nat.lt_of_lt_of_le l3 (show _ ≤ w1.heap.size by omega)); (try have l3e := Nat.le_of_lt l3); (try have l3f := Nat.le_add_right_of_le (k := 1) l3e))
          go_ret
          exact ⟨_, rfl, .inl rfl, by (repeat' (first | (with_reducible exact Below.refl _ _) | (with_reducible refine Below.mono (by assumption) ?_) | (with_reducible refine Below.trans ?_ (Below.mono (by assumption) ?_)) | (with_reducible refine Below.alloc ?_ ?_ _) | (with_reducible refine Below.drew ?_) | (with_reducible refine below_drewN ?_ _) | (with_reducible refine Below.setCell ?_ ?_ _) | (simp only [World.size_alloc, World.size_setCell, World.size_drew, size_drewN]; omega) | omega))⟩
        · have e : szf (1048576 - (h.length : Int) - (total (h.take k) : Int)) ops.length = (1048576 - (h.length : Int) - (total (h.take k) : Int)) - (ops.length : Int) := by simp [szf, hfit]
          rw [e] at C2
          have C2 := Lib.hid C2
          have HT := Lib.hid ht
          clear e ht hxk
          go_wp2_with (go_at_call 13; refine (C2.out _).mono ?_; rintro e w1 ⟨rfl, hb⟩; obtain ⟨hc, hf, hz, hs⟩ := bcell hb; (try simp only [World.size_alloc, World.size_setCell, World.size_drew, size_drewN] at hs); (first | have l0 := Nat.lt_of_lt_of_le l0 (show _ ≤ w1.heap.size by omega) | have l0 : w.heap.size < w1.heap.size := (by omega) | skip); (try have l0e := Nat.le_of_lt l0); (try have l0f := Nat.le_add_right_of_le (k := 1) l0e); (try have l1 := Nat.lt_of_lt_of_le l1 (show _ ≤ w1.heap.size by omega)); (try have l1e := Nat.le_of_lt l1); (try have l1f := Nat.le_add_right_of_le (k := 1) l1e); (try have l2 := Nat.lt_of_lt_of_le l2 (show _ ≤ w1.heap.size by omega)); (try have l2e := Nat.le_of_lt l2); (try have l2f := Nat.le_add_right_of_le (k := 1) l2e); (try have l3 := Nat.lt_of_lt_of_le l3 (show _ ≤ w1.heap.size by omega)); (try have l3e := Nat.le_of_lt l3); (try have l3f := Nat.le_add_right_of_le (k := 1) l3e))
          exact ⟨⟨k + 1, by omega, by go_num, by rw [HT.out]; go_num, by rw [HT.out]; omega, by (repeat' (first | (with_reducible exact Below.refl _ _) | (with_reducible refine Below.mono (by assumption) ?_) | (with_reducible refine Below.trans ?_ (Below.mono (by assumption) ?_)) | (with_reducible refine Below.alloc ?_ ?_ _) | (with_reducible refine Below.drew ?_) | (with_reducible refine below_drewN ?_ _) | (with_reducible refine Below.setCell ?_ ?_ _) | (simp only [World.size_alloc, World.size_setCell, World.size_drew, size_drewN]; omega) | omega))⟩, by simp [intOf]; omega⟩
      · obtain rfl : k = h.length := by omega
        rw [List.take_length] at hsm ⊢
        go_wp2
        go_ret
        exact ⟨_, rfl, .inr ⟨by omega, hsm⟩, hE⟩
  · go_enter Try.func4, Try.ntmps4
    go_wp2
    go_ret
    exact ⟨_, rfl, .inl rfl, Below.refl _ _⟩

set_option maxHeartbeats 2000000 in
theorem eqTxnS_c (h : List TxnT) (S S' : Nat → Prop) (A B : Option Addr) (c d : Nat) (w : World) (hx : Txns S w A h) (hy : Txns S' w B h) (hs : Small h) :
    Calls Try.prog 9 #[.slice A h.length c, .slice B h.length d] w fun e w' => e = .returned (.bool true) ∧ Ext w w' := by
  have e1 : ((h.length : Int) != (h.length : Int)) = false := by simp
  have hl := hs.len
  go_enter Try.func9, Try.ntmps9
  go_wp2
  go_loopw [5] (fun i wr => ∃ k : Nat, k ≤ h.length ∧ i = .int .i64 k ∧ Ext w wr) (fun i _ => h.length - (intOf i).toNat)
  case atStart => exact ⟨0, Nat.zero_le _, rfl, Below.refl _ _⟩
  case round =>
    obtain ⟨k, hk, rfl, hE⟩ := hrel
    have hEz := hE.size
    by_cases hlt : k < h.length
    · obtain ⟨s, ops, dn, A', cap, b, off, hxk, rfl, _, hb0, hO, c0, c1, c2⟩ := (hx.ext hE).at_ hlt
      obtain ⟨s', ops', dn', A2, cap2, b', off', hyk, rfl, _, hb0', hO', d0, d1, d2⟩ := (hy.ext hE).at_ hlt
      rw [hxk] at hyk
      cases hyk
      have hon := hs.ops hxk
      simp only at hon
      clear hxk
      go_wp2
      go_still_tail 8, (by kernel_rfl)
      change wpList _ _ _ _ _ wr.drew
      go_wp2_with (go_at_call 26; refine (eqTxn_c ⟨s, ops, dn⟩ _ _ _ _ _ _ _ (hO.ext (by (repeat' (first | (with_reducible exact Below.refl _ _) | (with_reducible refine Below.mono (by assumption) ?_) | (with_reducible refine Below.trans ?_ (Below.mono (by assumption) ?_)) | (with_reducible refine Below.alloc ?_ ?_ _) | (with_reducible refine Below.drew ?_) | (with_reducible refine below_drewN ?_ _) | (with_reducible refine Below.setCell ?_ ?_ _) | (simp only [World.size_alloc, World.size_setCell, World.size_drew, size_drewN]; omega) | omega)))) (hO'.ext (by (repeat' (first | (with_reducible exact Below.refl _ _) | (with_reducible refine Below.mono (by assumption) ?_) | (with_reducible refine Below.trans ?_ (Below.mono (by assumption) ?_)) | (with_reducible refine Below.alloc ?_ ?_ _) | (with_reducible refine Below.drew ?_) | (with_reducible refine below_drewN ?_ _) | (with_reducible refine Below.setCell ?_ ?_ _) | (simp only [World.size_alloc, World.size_setCell, World.size_drew, size_drewN]; omega) | omega)))) hon).mono ?_; rintro e w1 ⟨rfl, hb⟩; obtain ⟨hc, hf, hz, hs⟩ := bcell hb; (try simp only [World.size_alloc, World.size_setCell, World.size_drew, size_drewN] at hs); (first | have l0 := Nat.lt_of_lt_of_le l0 (show _ ≤ w1.heap.size by omega) | have l0 : w.heap.size < w1.heap.size := (by omega) | skip); (try have l0e := Nat.le_of_lt l0); (try have l0f := Nat.le_add_right_of_le (k := 1) l0e); (try have l1 := Nat.lt_of_lt_of_le l1 (show _ ≤ w1.heap.size by omega)); (try have l1e := Nat.le_of_lt l1); (try have l1f := Nat.le_add_right_of_le (k := 1) l1e); (try have l2 := Nat.lt_of_lt_of_le l2 (show _ ≤ w1.heap.size by omega)); (try have l2e := Nat.le_of_lt l2); (try have l2f := Nat.le_add_right_of_le (k := 1) l2e); (try have l3 := Nat.lt_of_lt_of_le l3 (show _ ≤ w1.heap.size by omega)); (try have l3e := Nat.le_of_lt l3); (try have l3f := Nat.le_add_right_of_le (k := 1) l3e))
      go_roundw
      case rel => exact ⟨k + 1, by omega, by go_num, by (repeat' (first | (with_reducible exact Below.refl _ _) | (with_reducible refine Below.mono (by assumption) ?_) | (with_reducible refine Below.trans ?_ (Below.mono (by assumption) ?_)) | (with_reducible refine Below.alloc ?_ ?_ _) | (with_reducible refine Below.drew ?_) | (with_reducible refine below_drewN ?_ _) | (with_reducible refine Below.setCell ?_ ?_ _) | (simp only [World.size_alloc, World.size_setCell, World.size_drew, size_drewN]; omega) | omega))⟩
      case measure => simp [intOf]; omega
    · go_wp2
      go_ret
      exact ⟨rfl, hE⟩

/-- the first k transactions stand in the cells, their operations in S -/
def UptoT (w : World) (S : Nat → Prop) (cs : Array Value) (xs : List TxnT) (k : Nat) : Prop := cs.size = xs.length * 3 ∧ ∀ i x, i < k → xs[i]? = some x →
  ∃ A cap, cs[i * 3]? = some (.int .i64 x.sess) ∧ cs[i * 3 + 1]? = some (.slice A x.ops.length cap) ∧ cs[i * 3 + 2]? = some (.bool x.done) ∧ Ops S w A x.ops
theorem UptoT.ext {w w' : World} {S : Nat → Prop} {cs : Array Value} {xs : List TxnT} {k : Nat} (h : UptoT w S cs xs k) (hE : Ext w w') : UptoT w' S cs xs k :=
  ⟨h.1, fun i x hi hx => by
    obtain ⟨A, cap, e0, e1, e2, hO⟩ := h.2 i x hi hx
    exact ⟨A, cap, e0, e1, e2, hO.ext hE⟩⟩
theorem UptoT.setCell {w : World} {S : Nat → Prop} {cs : Array Value} {xs : List TxnT} {k : Nat} (h : UptoT w S cs xs k) {p : Addr} (hp : ¬ S p.block) (u : Value) : UptoT (w.setCell p u) S cs xs k :=
  ⟨h.1, fun i x hi hx => by
    obtain ⟨A, cap, e0, e1, e2, hO⟩ := h.2 i x hi hx
    exact ⟨A, cap, e0, e1, e2, hO.setCell hp u⟩⟩
theorem UptoT.step {w : World} {S : Nat → Prop} {cs : Array Value} {xs : List TxnT} {k : Nat} {s : Int} {ops : List T3} {d : Bool} {A : Option Addr} {cap : Nat} (h : UptoT w S cs xs k) (hx : xs[k]? = some ⟨s, ops, d⟩) (hO : Ops S w A ops) :
    UptoT w S (((cs.setIfInBounds (k * 3) (.int .i64 s)).setIfInBounds (k * 3 + 1) (.slice A ops.length cap)).setIfInBounds (k * 3 + 2) (.bool d)) xs (k + 1) := by
  obtain ⟨h1, h2⟩ := h
  have hk : k < xs.length := (List.getElem?_eq_some_iff.1 hx).1
  refine ⟨by simp [h1], fun i x hi hxi => ?_⟩
  rcases Nat.lt_or_ge i k with hlt | hge
  · obtain ⟨A', cap', e0, e1, e2, hO'⟩ := h2 i x hlt hxi
    refine ⟨A', cap', ?_, ?_, ?_, hO'⟩
    · rw [Array.getElem?_setIfInBounds_ne (by omega), Array.getElem?_setIfInBounds_ne (by omega), Array.getElem?_setIfInBounds_ne (by omega)]; exact e0
    · rw [Array.getElem?_setIfInBounds_ne (by omega), Array.getElem?_setIfInBounds_ne (by omega), Array.getElem?_setIfInBounds_ne (by omega)]; exact e1
    · rw [Array.getElem?_setIfInBounds_ne (by omega), Array.getElem?_setIfInBounds_ne (by omega), Array.getElem?_setIfInBounds_ne (by omega)]; exact e2
  · obtain rfl : i = k := by omega
    rw [hx] at hxi
    cases hxi
    refine ⟨A, cap, ?_, ?_, ?_, hO⟩
    · rw [Array.getElem?_setIfInBounds_ne (by omega), Array.getElem?_setIfInBounds_ne (by omega), Array.getElem?_setIfInBounds_self_of_lt (by (try simp); omega)]
    · rw [Array.getElem?_setIfInBounds_ne (by omega), Array.getElem?_setIfInBounds_self_of_lt (by (try simp); omega)]
    · rw [Array.getElem?_setIfInBounds_self_of_lt (by (try simp); omega)]
/-- a history whose transactions lie in So, their operations in Si -/
abbrev Txns2 (So Si : Nat → Prop) := SlAt 3 (RTxn Si) So
theorem Txns2.txns {So Si S : Nat → Prop} {w : World} {A : Option Addr} {xs : List TxnT} (h : Txns2 So Si w A xs) (h1 : ∀ b, So b → b < w.heap.size → S b) (h2 : ∀ b, Si b → b < w.heap.size → S b) : Txns S w A xs :=
  SlAt.mono h h1 (mono_txn h2)
theorem UptoT.txns {w : World} {g : Nat} {t : TypeId} {cs : Array Value} {xs : List TxnT} {So Si : Nat → Prop} (h : UptoT w Si cs xs xs.length) (hB : Blk w g t cs) (hS : So g) : Txns2 So Si w (some ⟨g, 0, none⟩) xs := by
  intro i x hx
  have hi : i < xs.length := (List.getElem?_eq_some_iff.1 hx).1
  obtain ⟨A, cap, e0, e1, e2, hO⟩ := h.2 i x hi hx
  refine ⟨g, 0, _, rfl, hS, hB.lt, rfl, ⟨A, cap, rfl, hO⟩, fun j u hu => ?_⟩
  rw [hB.cell]
  match j, hu with
  | 0, hu => cases hu; simpa using e0
  | 1, hu => cases hu; simpa using e1
  | 2, hu => cases hu; simpa using e2
  | j + 3, hu => simp at hu

theorem infoTxn : (Try.prog.info? 46).map (fun i => (i.zero, i.size, i.bytes)) = some (some (.agg #[.int .i64 0, .slice none 0 0, .bool false]), 3, 40) := by kernel_rfl

end Go.Proofs.Ytdgfipoibnjhaaa
