/-
  Appends of whole slices of numbers inside regions that draw.
-/
import Derived.Test.YtdgfipoibnjhaaaDoorSer
import Derived.Test.YtdgfipoibnjhaaaDoorDone
import Derived.Test.YtdgfipoibnjhaaaDoorRes
/-
  Plain facts: the first serial order that goes on from a beginning.
-/
namespace Go.Proofs.YtdgfipoibnjhaaaDoor
set_option linter.unusedSimpArgs false
set_option linter.unusedVariables false
set_option maxRecDepth 100000

/-- the first order of all numbers that goes on from a beginning and whose reads are right (n: how many are left) -/
def fnd (h : List TxnT) (all : List Int) : Nat → List Int → Option (List Int)
  | 0, pre => some pre
  | n + 1, pre => all.findSome? fun x => if x ∈ pre then none else if (runH h (pre ++ [x])).isSome = true then fnd h all n (pre ++ [x]) else none
/-- .. with the beginning looked at, too -/
def fndR (h : List TxnT) (all : List Int) (n : Nat) (pre : List Int) : Option (List Int) := if (runH h pre).isSome = true then fnd h all n pre else none
def fndV (h : List TxnT) : Option (List Int) := if histv h = true then fnd h (dnT h h.length) (dnT h h.length).length [] else none
/-- what is left of all numbers behind a beginning -/
def left (all pre : List Int) : List Int := all.filter fun x => decide (x ∉ pre)
theorem left_nil (all : List Int) : left all [] = all := by simp [left]
theorem find_left (all pre : List Int) (G : Int → Option (List Int)) : all.findSome? (fun x => if x ∈ pre then none else G x) = (left all pre).findSome? G := by
  induction all with
  | nil => rfl
  | cons x xs ih =>
    unfold left at ih ⊢
    by_cases hx : x ∈ pre
    · rw [List.findSome?_cons, if_pos hx, List.filter_cons_of_neg (by simpa using hx)]
      exact ih
    · rw [List.findSome?_cons, if_neg hx, List.filter_cons_of_pos (by simpa using hx), List.findSome?_cons]
      cases G x with
      | some y => rfl
      | none => exact ih
theorem fnd_left (h : List TxnT) (all : List Int) (n : Nat) (pre : List Int) : fnd h all (n + 1) pre = (left all pre).findSome? fun x => fndR h all n (pre ++ [x]) := by
  conv => lhs; unfold fnd
  rw [← find_left]
  rfl
theorem erase_flt : ∀ (l : List Int), l.Nodup → ∀ (k : Nat) (x : Int), l[k]? = some x → l.eraseIdx k = l.filter fun y => decide (y ≠ x)
  | [], _, k, x, h => by simp at h
  | z :: zs, hn, k, x, h => by
    obtain ⟨h1, h2⟩ := List.nodup_cons.1 hn
    cases k with
    | zero =>
      simp at h
      subst h
      rw [List.eraseIdx_zero, List.tail_cons, List.filter_cons_of_neg (by simp)]
      symm
      rw [List.filter_eq_self]
      intro y hy
      simp only [ne_eq, decide_eq_true_eq]
      rintro rfl
      exact h1 hy
    | succ k =>
      have hx : zs[k]? = some x := by simpa using h
      have hne : z ≠ x := by rintro rfl; exact h1 (List.mem_of_getElem? hx)
      rw [List.eraseIdx_cons_succ, List.filter_cons_of_pos (by simpa using hne), erase_flt zs h2 k x hx]
theorem left_next {all pre : List Int} (hn : all.Nodup) {k : Nat} {x : Int} (hx : (left all pre)[k]? = some x) : left all (pre ++ [x]) = (left all pre).eraseIdx k := by
  have hnl : (left all pre).Nodup := hn.filter _
  have e1 : left all (pre ++ [x]) = (left all pre).filter (fun y => decide (y ≠ x)) := by
    unfold left
    rw [List.filter_filter]
    congr 1
    funext y
    simp only [List.mem_append, List.mem_singleton, not_or, ne_eq]
    by_cases h1 : y ∈ pre <;> by_cases h2 : y = x <;> simp [h1, h2]
  rw [e1]
  exact (erase_flt _ hnl k x hx).symm
theorem left_len {all pre : List Int} (hn : all.Nodup) {k : Nat} {x : Int} (hx : (left all pre)[k]? = some x) : (left all (pre ++ [x])).length + 1 = (left all pre).length := by
  rw [left_next hn hx, List.length_eraseIdx]
  obtain ⟨hk, _⟩ := List.getElem?_eq_some_iff.1 hx
  rw [if_pos hk]
  omega
theorem erase_split {xs : List Int} (k : Nat) (hk : k < xs.length) : xs.eraseIdx k = xs.take k ++ xs.drop (k + 1) := List.eraseIdx_eq_take_drop_succ xs k
/-- the search, number by number -/
theorem some_at {xs : List Int} {G : Int → Option (List Int)} {k : Nat} {x : Int} {ys : List Int} (hx : xs[k]? = some x) (hno : ∀ (j : Nat) y, j < k → xs[j]? = some y → G y = none) (hy : G x = some ys) : xs.findSome? G = some ys := by
  induction xs generalizing k with
  | nil => simp at hx
  | cons z zs ih =>
    rw [List.findSome?_cons]
    cases k with
    | zero =>
      simp at hx
      subst hx
      rw [hy]
    | succ k =>
      rw [hno 0 z (by omega) rfl]
      exact ih (by simpa using hx) (fun j y hj hjy => hno (j + 1) y (by omega) (by simpa using hjy))
theorem none_all {xs : List Int} {G : Int → Option (List Int)} (hno : ∀ (j : Nat) y, xs[j]? = some y → G y = none) : xs.findSome? G = none := by
  rw [List.findSome?_eq_none_iff]
  intro y hy
  obtain ⟨j, hj⟩ := List.mem_iff_getElem?.1 hy
  exact hno j y hj
end Go.Proofs.YtdgfipoibnjhaaaDoor
/-
  The numbers of committed transactions, in a slice of the call's own.
-/
namespace Go.Proofs.YtdgfipoibnjhaaaDoor
set_option linter.unusedSimpArgs false
set_option linter.unusedVariables false
set_option maxRecDepth 100000
open Go.RowKit

set_option maxHeartbeats 2000000 in
theorem specDoneTxns_o (h : List TxnT) (S : Nat → Prop) (A : Option Addr) (c : Nat) (w : World) (hx : Txns S w A h) (hsm : Small h) (hv : histv h = true) :
    Calls Tryd.prog 50 #[.slice A h.length c] w fun e w' => ∃ v, e = .returned v ∧ Own1 w' w.heap.size 3 v (dnT h h.length) ∧ Ext w w' := by
  have C := fun w hx => specHistoryValid_c h S A c w hx hsm
  have hn := hsm.len
  rw [hv] at C
  have C := Lib.hid C
  go_enter Tryd.func50, Tryd.ntmps50
  go_wp2
  have hO : Own1 (w.alloc (.cells #[] 3)) w.heap.size 3 (.slice (some ⟨w.heap.size, 0, none⟩) 0 0) (dnT h 0) := Own1.made w _ 0 rfl (by omega) (by omega) (by simp)
  go_loopw [3, 4] (fun v i wr => ∃ k : Nat, k ≤ h.length ∧ i = .int .i64 k ∧ Own1 wr w.heap.size 3 v (dnT h k) ∧ Ext w wr) (fun _ i _ => h.length - (intOf i).toNat)
  case atStart => exact ⟨0, Nat.zero_le _, rfl, hO, by (repeat' (first | (with_reducible exact Below.refl _ _) | (with_reducible refine Below.mono (by assumption) ?_) | (with_reducible refine Below.trans ?_ (Below.mono (by assumption) ?_)) | (with_reducible refine Below.alloc ?_ ?_ _) | (with_reducible refine Below.drew ?_) | (with_reducible refine below_drewN ?_ _) | (with_reducible refine Below.setCell ?_ ?_ _) | (simp only [World.size_alloc, World.size_setCell, World.size_drew, size_drewN]; omega) | omega))⟩
  case round =>
    obtain ⟨k, hk, rfl, hown, hE⟩ := hrel
    have hEz := hE.size
    clear hO
    by_cases hlt : k < h.length
    · have hE9 := hE
      go_wp2_with (fail)
      go_at_call 26
      refine (C.out _ (hx.ext hE)).mono ?_
      rintro e w1 ⟨rfl, hb⟩
      obtain ⟨hc, hf, hz, hs⟩ := bcell hb
      (try simp only [World.size_alloc, World.size_setCell, World.size_drew, size_drewN] at hs); (first | have l0 := Nat.lt_of_lt_of_le l0 (show _ ≤ w1.heap.size by omega) | have l0 : w.heap.size < w1.heap.size := (by omega) | skip); (try have l0e := Nat.le_of_lt l0); (try have l0f := Nat.le_add_right_of_le (k := 1) l0e); (try have l1 := Nat.lt_of_lt_of_le l1 (show _ ≤ w1.heap.size by omega)); (try have l1e := Nat.le_of_lt l1); (try have l1f := Nat.le_add_right_of_le (k := 1) l1e); (try have l2 := Nat.lt_of_lt_of_le l2 (show _ ≤ w1.heap.size by omega)); (try have l2e := Nat.le_of_lt l2); (try have l2f := Nat.le_add_right_of_le (k := 1) l2e); (try have l3 := Nat.lt_of_lt_of_le l3 (show _ ≤ w1.heap.size by omega)); (try have l3e := Nat.le_of_lt l3); (try have l3f := Nat.le_add_right_of_le (k := 1) l3e)
      have e1 := hE.tr hb
      have hown1 := hown.ext hb
      have hz1 := e1.size
      clear hown
      obtain ⟨s, ops, d, A', cap, b, off, hxk, rfl, _, hb0, hOp, c0, c1, c2⟩ := (hx.ext e1).at_ hlt
      have hst := dnT_succ hxk
      have hdl := dnT_len h k
      have HS := Lib.hid hst
      clear hxk hst
      cases d with
      | false =>
        go_wp2
        exact ⟨⟨k + 1, by omega, by go_num, by rw [HS.out]; exact hown1, e1⟩, by simp [intOf]; omega⟩
      | true =>
        go_wp2_with (at_builtin; refine wpList_append1 _ rfl _ _ 41 rfl w.heap.size 3 Tryd.underlying41 info1 rfl _ (dnT h k) rfl (hown1.ext (by (repeat' (first | (with_reducible exact Below.refl _ _) | (with_reducible refine Below.mono (by assumption) ?_) | (with_reducible refine Below.trans ?_ (Below.mono (by assumption) ?_)) | (with_reducible refine Below.alloc ?_ ?_ _) | (with_reducible refine Below.drew ?_) | (with_reducible refine below_drewN ?_ _) | (with_reducible refine Below.setCell ?_ ?_ _) | (simp only [World.size_alloc, World.size_setCell, World.size_drew, size_drewN]; omega) | omega)))) _ k rfl ?_ ?_ ?_ ?_)
        all_goals try (first | omega | (simp only [World.size_alloc]; omega) | (go_simp; done))
        · intro v' w' hown' hgrow
          have hE2 : Ext w w' := Below.grown (e1.tr (by (repeat' (first | (with_reducible exact Below.refl _ _) | (with_reducible refine Below.mono (by assumption) ?_) | (with_reducible refine Below.trans ?_ (Below.mono (by assumption) ?_)) | (with_reducible refine Below.alloc ?_ ?_ _) | (with_reducible refine Below.drew ?_) | (with_reducible refine below_drewN ?_ _) | (with_reducible refine Below.setCell ?_ ?_ _) | (simp only [World.size_alloc, World.size_setCell, World.size_drew, size_drewN]; omega) | omega)))) hgrow (by first | omega | (simp only [World.size_alloc]; omega)) (fun g hg => (own1_block hown1 g hg))
          clear hown1
          go_wp2
          go_roundw
          case measure => simp [intOf]; omega
          case rel => exact ⟨k + 1, by omega, by go_num, by rw [HS.out]; exact hown', hE2⟩
    · obtain rfl : k = h.length := by omega
      have HF := Lib.hid (And.intro hown hE)
      clear hown hE
      go_wp2
      go_ret
      exact ⟨_, rfl, HF.out.1, HF.out.2⟩
end Go.Proofs.YtdgfipoibnjhaaaDoor
namespace Go.Proofs.YtdgfipoibnjhaaaDoor
set_option linter.unusedSimpArgs false
set_option linter.unusedVariables false
set_option maxRecDepth 100000
open Go.RowKit

/-- append of a slice of numbers, inside a region that draws -/
theorem step_app1n {ops : Array Oper} {o : Oper} {a : Act} {w : World} {K : Act → World → Prop} {Q : Exit → Act → World → Prop} {E : Prop} (hg : o.guard = none) (s x : Operand)
    (hop : o.op = Op.call { callee := Callee.builtin Builtin.append, args := #[s, x], argTypes := #[41, 41] }) (base : Nat) (v : Value) (hs : a.eval s = v) (xs : List Int) (hown : Own1 w base 3 v xs) (ad : Addr) (m c : Nat) (ys : List Int) (hx : a.eval x = .slice (some ad) m c) (hm : m = ys.length)
    (hnews : ∀ j y, ys[j]? = some y → w.cell? (ad.add j) = some (.int .i64 y)) (hl : xs.length + ys.length ≤ 1048576) (hbase : base ≤ w.heap.size)
    (hK : ∀ v' w', Own1 w' base 3 v' (xs ++ ys) → w.grownBy w' v.ownBlock → (v'.ownBlock = v.ownBlock ∨ v'.ownBlock = some w.heap.size) → K (a.put o.dst v') w') :
    if Region.wanted o (yielded ops a.tmps) = true then Oper.wp Tryd.prog o a w K Q else E := by
  obtain ⟨i0, hi, hz0, hz1, hz2⟩ := info_parts info1
  subst hm
  have hw : Region.wanted o (yielded ops a.tmps) = true := by simp [Region.wanted, hg]
  rw [if_pos hw]
  obtain ⟨v', w', hr, h2, h3, _, h5⟩ := run_append_own_at (P := Tryd.prog) w base 41 o.type 3 i0 _ 1 8 Tryd.underlying41 hi hz0 hz1 hz2 rfl (by decide) v xs.length (flat1 xs) hown ad ys.length c (flat1 ys) (by simp [flat1]) (fun j u hu => by
    simp only [flat1, List.getElem?_map] at hu
    cases hy : ys[j]? with
    | none => rw [hy] at hu; cases hu
    | some y =>
      rw [hy] at hu
      cases hu
      exact hnews j y hy) (fun u hu => by
    simp only [flat1, List.mem_map] at hu
    obtain ⟨x, _, rfl⟩ := hu
    rfl) (by unfold maxLen; omega) (by omega) hbase
  unfold Oper.wp execOp
  simp only [hop, resolve, invoke, builtin, Sem.run_bind, Sem.run_pure, Result.andThen_ok, List.map_toArray, List.map_cons, List.map_nil, hs, hx, hr]
  refine hK _ _ ?_ h3 h5
  unfold Own1
  rw [show flat1 (xs ++ ys) = flat1 xs ++ flat1 ys by simp [flat1], List.length_append]
  exact h2
theorem ints_add {S : Nat → Prop} {w : World} {b off : Nat} {xs : List Int} (h : Ints S w (some ⟨b, off, none⟩) xs) : ∀ j y, xs[j]? = some y → w.cell? (Addr.add ⟨b, off, none⟩ j) = some (.int .i64 y) := by
  intro j y hy
  obtain ⟨y', b', off', hy', e, _, _, hc⟩ := h.at_ (i := j) (List.getElem?_eq_some_iff.1 hy).1
  rw [hy] at hy'
  cases hy'
  cases e
  rw [← hc]
  unfold Addr.add
  split
  · rename_i h0
    have h0 : j = 0 := by simpa using h0
    subst h0
    rfl
  · rfl
theorem ints_drop {S : Nat → Prop} {w : World} {b off : Nat} {xs : List Int} (h : Ints S w (some ⟨b, off, none⟩) xs) (m : Nat) : Ints S w (some ⟨b, off + m, none⟩) (xs.drop m) := by
  intro i x hx
  rw [List.getElem?_drop] at hx
  obtain ⟨b', off', us, e, h1, h2, h3, h4, h5⟩ := h (m + i) x hx
  cases e
  refine ⟨b, off + m, us, rfl, h1, h2, h3, h4, fun j u hu => ?_⟩
  have := h5 j u hu
  rw [show off + (m + i) * 1 + j = off + m + i * 1 + j by omega] at this
  exact this
theorem news_ext {w w' : World} (hE : Ext w w') {b off : Nat} (hb : b < w.heap.size) {ys : List Int} (h : ∀ j y, ys[j]? = some y → w.cell? (Addr.add ⟨b, off, none⟩ j) = some (.int .i64 y)) : ∀ j y, ys[j]? = some y → w'.cell? (Addr.add ⟨b, off, none⟩ j) = some (.int .i64 y) := fun j y hj =>
  by
    have h1 := h j y hj
    rw [← h1]
    apply hE.cell
    unfold Addr.add
    split <;> exact hb
theorem litF (w : World) (cs : Array Value) (t : TypeId) (i : Nat) : (w.alloc (.cells cs t)).cell? ⟨w.heap.size, i, none⟩ = cs[i]? := by simp [World.cell?_alloc_new]
theorem news_one {w : World} {g : Nat} {x : Int} (h : w.cell? ⟨g, 0, none⟩ = some (.int .i64 x)) : ∀ j y, [x][j]? = some y → w.cell? (Addr.add ⟨g, 0, none⟩ j) = some (.int .i64 y) := by
  intro j y hj
  cases j with
  | zero =>
    simp at hj
    subst hj
    simpa [Addr.add] using h
  | succ j => simp at hj
theorem own1_capF {w : World} {B : Nat} {e : TypeId} {v : Value} {xs : List Int} (h : Own1 w B e v xs) : ∃ A c, v = .slice A xs.length c ∧ Ints (fun b => B ≤ b) w A xs ∧ xs.length ≤ c := by
  obtain ⟨A, c, rfl, h1, h2⟩ := h.form
  refine ⟨A, c, rfl, h1, ?_⟩
  rcases h.2 with ⟨hv, hn⟩ | ⟨g, cap, cur, hv, hb, hg, hle, _⟩
  · omega
  · simp only [Value.slice.injEq] at hv
    omega
theorem own1_some {w : World} {B : Nat} {e : TypeId} {v : Value} {xs : List Int} (h : Own1 w B e v xs) (hn : 0 < xs.length) : ∃ g c, v = .slice (some ⟨g, 0, none⟩) xs.length c ∧ B ≤ g ∧ Ints (fun b => B ≤ b) w (some ⟨g, 0, none⟩) xs := by
  obtain ⟨A, c, rfl, h1, _⟩ := h.form
  rcases h.2 with ⟨hv, hn0⟩ | ⟨g, cap, cur, hv, hb, _⟩
  · omega
  · simp only [Value.slice.injEq] at hv
    obtain ⟨rfl, _, rfl⟩ := hv
    exact ⟨g, c, rfl, hb, h1⟩
end Go.Proofs.YtdgfipoibnjhaaaDoor
