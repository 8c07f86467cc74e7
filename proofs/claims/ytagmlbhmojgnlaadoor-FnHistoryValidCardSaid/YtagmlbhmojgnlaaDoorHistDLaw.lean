/-
  FnHistoryValid: a drawn history: the program's answer is the reference's; without its first transaction a valid one is valid; with it twice it is not, if it writes.
-/
import Derived.Test.YtagmlbhmojgnlaaDoorDrawHd
import Derived.Test.YtagmlbhmojgnlaaDoorLaid
import Derived.Test.YtagmlbhmojgnlaaDoorWr
import Derived.Test.YtagmlbhmojgnlaaDoorReads
import Derived.Deep.CutRange
import Derived.Deep.RegionHeld3
import Derived.Deep.AppendLies
import Derived.Deep.RegionLawGrows
namespace Go.Proofs.YtagmlbhmojgnlaaDoor
set_option linter.unusedSimpArgs false
set_option linter.unusedVariables false
set_option maxRecDepth 100000
open Go.ChangeShapes Go.WideShapes Go.ChangeAt Go.RowKit Go.Joins

theorem allOps_cons (t : TxnT) (ts : List TxnT) : allOps (t :: ts) = t.ops ++ allOps ts := by simp [allOps]
theorem allOps_app (h k : List TxnT) : allOps (h ++ k) = allOps h ++ allOps k := by simp [allOps]
theorem histv_tail {t : TxnT} {ts : List TxnT} (h : histv (t :: ts) = true) : histv ts = true := by
  simp only [histv, List.all_cons, Bool.and_eq_true, decide_eq_true_eq, List.length_cons, List.all_eq_true] at h ⊢
  obtain ⟨⟨h0, h1⟩, h2⟩ := h
  refine ⟨fun t' ht' => ?_, by omega⟩
  have h3 := h1 t' ht'
  simp only [txnOnce, Bool.and_eq_true, List.all_eq_true] at h3 ⊢
  refine ⟨h3.1, fun o ho => ?_⟩
  have h4 := h3.2 o ho
  simp only [opOnce, Bool.not_eq_true', Bool.and_eq_false_iff, decide_eq_false_iff_not, allOps_cons, List.count_append] at h4 ⊢
  rcases h4 with h4 | h4
  · exact .inl h4
  · exact .inr (by omega)
theorem histv_twice {t : TxnT} {ts : List TxnT} (hw : ∃ o ∈ t.ops, o.a = 2) : histv (t :: ts ++ [t]) = false := by
  obtain ⟨o, ho, h2⟩ := hw
  have e : o = ⟨2, o.b, o.c⟩ := by cases o; simp_all
  have hc : 1 < (allOps (t :: ts ++ [t])).count (⟨2, o.b, o.c⟩ : T3) := by
    have h1 : 0 < t.ops.count (⟨2, o.b, o.c⟩ : T3) := List.count_pos_iff.2 (by rw [← e]; exact ho)
    rw [allOps_app, allOps_cons, List.count_append, List.count_append]
    have h3 : allOps [t] = t.ops := by simp [allOps]
    rw [h3]
    omega
  cases hv : histv (t :: ts ++ [t]) with
  | false => rfl
  | true =>
    simp only [histv, Bool.and_eq_true, List.all_eq_true] at hv
    have h3 := hv.1 t (by simp)
    simp only [txnOnce, Bool.and_eq_true, List.all_eq_true] at h3
    have h4 := h3.2 o ho
    simp only [opOnce, Bool.not_eq_true', Bool.and_eq_false_iff, decide_eq_false_iff_not] at h4
    rcases h4 with h4 | h4
    · exact absurd h2 h4
    · exact absurd hc h4

theorem lws_wr {ops : List T3} (h : lwsTo ops 3 ≠ []) : ∃ o ∈ ops, o.a = 2 := by
  have hl : ∀ key n o, lastW ops key n = some o → o ∈ ops ∧ o.a = 2 := by
    intro key n
    induction n with
    | zero => intro o h; cases h
    | succ n ih =>
      intro o h
      unfold lastW at h
      split at h
      · rename_i x hx
        split at h
        · rename_i hc
          cases h
          exact ⟨List.mem_of_getElem? hx, hc.1⟩
        · exact ih o h
      · exact ih o h
  have hm : ∀ n, lwsTo ops n ≠ [] → ∃ o ∈ ops, o.a = 2 := by
    intro n
    induction n with
    | zero => intro h; exact absurd rfl h
    | succ n ih =>
      intro h
      unfold lwsTo at h
      cases hq : lastW ops n ops.length with
      | none =>
        rw [hq] at h
        exact ih (by simpa using h)
      | some o =>
        obtain ⟨h1, h2⟩ := hl _ _ _ hq
        exact ⟨o, h1, h2⟩
  exact hm 3 h
theorem txns_tail {S : Nat → Prop} {w : World} {b off : Nat} {o : TxnT} {ops : List TxnT} (h : Txns S w (some ⟨b, off, none⟩) (o :: ops)) : Txns S w (some ⟨b, off + 3, none⟩) ops := by
  intro i x hx
  obtain ⟨b', off', us, e, hS, hb, hl, hr, hc⟩ := h (i + 1) x (by simpa using hx)
  cases e
  refine ⟨b, off + 3, us, rfl, hS, hb, hl, hr, fun j u hu => ?_⟩
  have := hc j u hu
  rw [show off + (i + 1) * 3 + j = off + 3 + i * 3 + j by omega] at this
  exact this
theorem txns_any {B : Nat} {w : World} {A : Option Addr} {h : List TxnT} (hx : Txns (fun b => B ≤ b) w A h) : Txns Any w A h := SlAt.mono hx (fun _ _ _ => trivial) (mono_txn (fun _ _ _ => trivial))
theorem histv_mem {h : List TxnT} (hv : histv h = true) {t : TxnT} (ht : t ∈ h) : txnv t = true := by
  simp only [histv, Bool.and_eq_true, List.all_eq_true] at hv
  have h3 := hv.1 t ht
  simp only [txnOnce, Bool.and_eq_true] at h3
  exact h3.1
theorem grown_none_ext {W W' : World} (h : W.grownBy W' none) : Ext W W' := ⟨h.os, h.tape, h.output, h.size, fun k hk => h.block k hk (by simp)⟩
theorem row_below {w : World} {B B' k n : Nat} {e : TypeId} {v : Value} {xs : List Value} (h : w.ownsRow B e k v n xs) (hb : B' ≤ B) : w.ownsRow B' e k v n xs := by
  refine ⟨h.1, ?_⟩
  rcases h.2 with h2 | ⟨g, cap, cur, hv, hg, r⟩
  · exact .inl h2
  · exact .inr ⟨g, cap, cur, hv, by omega, r⟩
theorem row_ext {w w' : World} {B k n : Nat} {e : TypeId} {v : Value} {xs : List Value} (h : w.ownsRow B e k v n xs) (hE : Ext w w') : w'.ownsRow B e k v n xs := World.ownsRow.kept h (row := none) (grown_ext hE _) (or_none _)
theorem box_at {W0 W : World} {B : Nat} {cs : List Value} {t : TypeId} (hB : B = W0.heap.size) (hE : Ext (W0.alloc (.cells cs.toArray t)) W) : ∀ j u, cs[j]? = some u → W.cell? (Addr.add ⟨B, 0, none⟩ j) = some u := by
  intro j u hu
  have h1 : (W0.alloc (.cells cs.toArray t)).cell? ⟨W0.heap.size, j, none⟩ = some u := by rw [lit_cell]; simpa using hu
  have h2 := hE.keep (by simp) h1
  subst hB
  unfold Addr.add
  split
  · rename_i h0
    have h0 : j = 0 := by simpa using h0
    subst h0
    exact h2
  · simpa using h2
theorem flat_src {w : World} {B lim g n c : Nat} {ps : List PT} (h : OwnT w B lim (.slice (some ⟨g, 0, none⟩) n c) ps) : ∀ j u, (flatP ps)[j]? = some u → w.cell? (Addr.add ⟨g, 0, none⟩ j) = some u := by
  intro j u hu
  have hj : j < (flatP ps).length := (List.getElem?_eq_some_iff.1 hu).1
  rcases h.1.2 with ⟨hv, _⟩ | ⟨g', cap, cur, hv, hb, hg, hle, hm, hs, ht⟩
  · cases hv
  · cases hv
    have h1 : w.cell? ⟨g, j, none⟩ = some u := by
      rw [cell_of_row w g _ cur _ (0, 0) hg, ← hu, ← ht, List.getElem?_take, if_pos (by rw [flatP_len] at hj; exact hj)]
      simp
    unfold Addr.add
    split
    · rename_i h0
      have h0 : j = 0 := by simpa using h0
      subst h0
      exact h1
    · simpa using h1
theorem flatP_one (ps : List PT) : ∀ u ∈ flatP ps, u.oneCell' = true := by
  intro u hu
  simp only [flatP, List.mem_flatMap] at hu
  obtain ⟨p, _, hu⟩ := hu
  simp [PT.cells] at hu
  rcases hu with rfl | rfl | rfl <;> rfl
theorem cells_src {w W : World} {g : Nat} {xs : List Value} (h : ∀ j u, xs[j]? = some u → w.cell? (Addr.add ⟨g, 0, none⟩ j) = some u) (hg : g < w.heap.size) (hE : Ext w W) : ∀ j u, xs[j]? = some u → W.cell? (Addr.add ⟨g, 0, none⟩ j) = some u := by
  intro j u hu
  have := h j u hu
  rw [← this]
  apply hE.cell
  unfold Addr.add
  split <;> exact hg
theorem step_first {ops : Array Oper} {o : Oper} {a : Act} {w : World} {K : Act → World → Prop} {Q : Exit → Act → World → Prop} {E : Prop} (hg : o.guard = none) (s x : Operand)
    (hop : o.op = Op.call { callee := Callee.builtin Builtin.append, args := #[s, x], argTypes := #[36, 36] }) (g0 : Addr) (hs : a.eval s = .slice (some g0) 0 0) (g n c : Nat) (ps : List PT) (hx : a.eval x = .slice (some ⟨g, 0, none⟩) n c) (hn : n = ps.length)
    (hsrc : ∀ j u, (flatP ps)[j]? = some u → w.cell? (Addr.add ⟨g, 0, none⟩ j) = some u) (h0 : 0 < ps.length) (h8 : ps.length ≤ 1000)
    (hK : ∀ v' w', w'.ownsRow w.heap.size 31 3 v' n (flatP ps) → w.grownBy w' none → K (a.put o.dst v') w') :
    if Region.wanted o (yielded ops a.tmps) = true then Oper.wp Tryd.prog o a w K Q else E := by
  obtain ⟨i0, hi, hz0, hz1, hz2⟩ := info_parts infoTxnD
  subst hn
  refine step_append_grows hg s x _ hop _ i0 _ 3 40 Tryd.underlying36 hi hz0 hz1 hz2 rfl (by decide) _ 0 0 [] hs (fun _ => ⟨rfl, rfl⟩) rfl (fun _ _ j u h => by cases h) ⟨g, 0, none⟩ ps.length c (flatP ps) hx (flatP_len ps) hsrc (flatP_one ps) (by omega) (by unfold maxLen; omega) (by omega) (fun v' w' h1 h2 => hK v' w' ?_ h2)
  simpa using h1
theorem step_second {ops : Array Oper} {o : Oper} {a : Act} {w : World} {K : Act → World → Prop} {Q : Exit → Act → World → Prop} {E : Prop} (hg : o.guard = none) (s x : Operand)
    (hop : o.op = Op.call { callee := Callee.builtin Builtin.append, args := #[s, x], argTypes := #[36, 36] }) (base : Nat) (v : Value) (hs : a.eval s = v) (n : Nat) (ps : List PT) (hown : w.ownsRow base 31 3 v n (flatP ps)) (B : Nat) (p : PT) (hx : a.eval x = .slice (some ⟨B, 0, none⟩) 1 1)
    (hsrc : ∀ j u, p.cells[j]? = some u → w.cell? (Addr.add ⟨B, 0, none⟩ j) = some u) (h8 : n ≤ 1000) (hbase : base ≤ w.heap.size)
    (hK : ∀ v' w', w'.ownsRow base 31 3 v' (n + 1) (flatP (ps ++ [p])) → w.grownBy w' v.ownBlock → K (a.put o.dst v') w') :
    if Region.wanted o (yielded ops a.tmps) = true then Oper.wp Tryd.prog o a w K Q else E := by
  obtain ⟨i0, hi, hz0, hz1, hz2⟩ := info_parts infoTxnD
  refine step_append_lies w hg s x _ hop base _ i0 _ 3 40 Tryd.underlying36 hi hz0 hz1 hz2 rfl (by decide) v n (flatP ps) hs hown ⟨B, 0, none⟩ 1 1 p.cells hx rfl hsrc ?_ (by omega) (by unfold maxLen; omega) (by omega) hbase _ rfl (fun g cap w' h1 h2 _ _ => hK _ w' ?_ h2)
  · have := flatP_one [p]
    simpa [flatP] using this
  · rw [flatP_app]
    simpa [flatP] using h1
set_option maxHeartbeats 4000000 in
theorem FnHistoryValid_c (xs : List Int) (A : Option Addr) (c : Nat) (w : World) (hx : Byts Any w A xs) (wf : Law.wfL Law.wfU8 xs) (hc : xs.length ≤ c) :
    Calls Tryd.prog 7 #[.slice A xs.length c] w fun e w' => e = .returned (.bool true) ∧ Ext w w' := by
  by_cases hl : 1048576 < xs.length
  · go_enter Tryd.func7, Tryd.ntmps7
    go_wp2
    go_ret
    exact ⟨rfl, by (repeat' (first | (with_reducible exact Below.refl _ _) | (with_reducible refine Below.mono (by assumption) ?_) | (with_reducible refine Below.trans ?_ (Below.mono (by assumption) ?_)) | (with_reducible refine Below.alloc ?_ ?_ _) | (with_reducible refine Below.drew ?_) | (with_reducible refine below_drewN ?_ _) | (with_reducible refine Below.setCell ?_ ?_ _) | (simp only [World.size_alloc, World.size_setCell, World.size_drew, size_drewN]; omega) | omega))⟩
  have HW : Hid (∀ x ∈ xs, 0 ≤ x ∧ x ≤ 255) := Lib.hid wf.2
  go_enter Tryd.func7, Tryd.ntmps7
  go_wp2_with (fail)
  go_at_call 27
  refine (DrawHistoryValid_c xs A c _ (hx.ext (by (repeat' (first | (with_reducible exact Below.refl _ _) | (with_reducible refine Below.mono (by assumption) ?_) | (with_reducible refine Below.trans ?_ (Below.mono (by assumption) ?_)) | (with_reducible refine Below.alloc ?_ ?_ _) | (with_reducible refine Below.drew ?_) | (with_reducible refine below_drewN ?_ _) | (with_reducible refine Below.setCell ?_ ?_ _) | (simp only [World.size_alloc, World.size_setCell, World.size_drew, size_drewN]; omega) | omega)))) HW.out hc).mono ?_
  rintro e w1 ⟨ps, lim, vo, rfl, hT, hl8, hps, hb⟩
  obtain ⟨hc, hf, hz, hs⟩ := bcell hb
  (try simp only [World.size_alloc, World.size_setCell, World.size_drew, size_drewN] at hs); (first | have l0 := Nat.lt_of_lt_of_le l0 (show _ ≤ w1.heap.size by omega) | have l0 : w.heap.size < w1.heap.size := (by omega) | skip); (try have l0e := Nat.le_of_lt l0); (try have l0f := Nat.le_add_right_of_le (k := 1) l0e); (try have l1 := Nat.lt_of_lt_of_le l1 (show _ ≤ w1.heap.size by omega)); (try have l1e := Nat.le_of_lt l1); (try have l1f := Nat.le_add_right_of_le (k := 1) l1e); (try have l2 := Nat.lt_of_lt_of_le l2 (show _ ≤ w1.heap.size by omega)); (try have l2e := Nat.le_of_lt l2); (try have l2f := Nat.le_add_right_of_le (k := 1) l2e); (try have l3 := Nat.lt_of_lt_of_le l3 (show _ ≤ w1.heap.size by omega)); (try have l3e := Nat.le_of_lt l3); (try have l3f := Nat.le_add_right_of_le (k := 1) l3e)
  have e1 : Ext w w1 := hb
  obtain ⟨A2, c2, rfl, hc2, hTx, hf2⟩ := hT.txns
  have hsm := (small_map hl8 hps).small
  have C : ∀ w, Txns Any w A2 (ps.map PT.txn) → Calls Tryd.prog 28 #[.slice A2 ps.length c2] w fun e w' => e = .returned (.bool (histv (ps.map PT.txn))) ∧ Ext w w' := fun w hx => by
    have := implHistoryValid_c (ps.map PT.txn) Any A2 c2 w hx hsm
    rwa [List.length_map] at this
  have D : ∀ w, Txns Any w A2 (ps.map PT.txn) → Calls Tryd.prog 29 #[.slice A2 ps.length c2] w fun e w' => e = .returned (.bool (histv (ps.map PT.txn))) ∧ Ext w w' := fun w hx => by
    have := specHistoryValid_c (ps.map PT.txn) Any A2 c2 w hx hsm
    rwa [List.length_map] at this
  have HX := Lib.hid (txns_any hTx)
  obtain ⟨r, hr⟩ : ∃ r, histv (ps.map PT.txn) = r := ⟨_, rfl⟩
  rw [hr] at C D
  have HR := Lib.hid hr
  have HC := Lib.hid C
  have HD := Lib.hid D
  have HT := Lib.hid hT
  clear hr C D hTx hb hc hf hz hf2 hT
  go_wp2_with (fail)
  go_at_call 28
  refine (HC.out _ HX.out).mono ?_
  rintro e w2 ⟨rfl, hb⟩
  obtain ⟨hc, hf, hz, hs⟩ := bcell hb
  (try simp only [World.size_alloc, World.size_setCell, World.size_drew, size_drewN] at hs); (first | have l0 := Nat.lt_of_lt_of_le l0 (show _ ≤ w2.heap.size by omega) | have l0 : w.heap.size < w2.heap.size := (by omega) | skip); (try have l0e := Nat.le_of_lt l0); (try have l0f := Nat.le_add_right_of_le (k := 1) l0e); (try have l1 := Nat.lt_of_lt_of_le l1 (show _ ≤ w2.heap.size by omega)); (try have l1e := Nat.le_of_lt l1); (try have l1f := Nat.le_add_right_of_le (k := 1) l1e); (try have l2 := Nat.lt_of_lt_of_le l2 (show _ ≤ w2.heap.size by omega)); (try have l2e := Nat.le_of_lt l2); (try have l2f := Nat.le_add_right_of_le (k := 1) l2e); (try have l3 := Nat.lt_of_lt_of_le l3 (show _ ≤ w2.heap.size by omega)); (try have l3e := Nat.le_of_lt l3); (try have l3f := Nat.le_add_right_of_le (k := 1) l3e)
  have e12 := hb
  go_wp2_with (fail)
  go_at_call 29
  refine (HD.out _ (HX.out.ext hb)).mono ?_
  rintro e w3 ⟨rfl, hb⟩
  obtain ⟨hc, hf, hz, hs⟩ := bcell hb
  (try simp only [World.size_alloc, World.size_setCell, World.size_drew, size_drewN] at hs); (first | have l0 := Nat.lt_of_lt_of_le l0 (show _ ≤ w3.heap.size by omega) | have l0 : w.heap.size < w3.heap.size := (by omega) | skip); (try have l0e := Nat.le_of_lt l0); (try have l0f := Nat.le_add_right_of_le (k := 1) l0e); (try have l1 := Nat.lt_of_lt_of_le l1 (show _ ≤ w3.heap.size by omega)); (try have l1e := Nat.le_of_lt l1); (try have l1f := Nat.le_add_right_of_le (k := 1) l1e); (try have l2 := Nat.lt_of_lt_of_le l2 (show _ ≤ w3.heap.size by omega)); (try have l2e := Nat.le_of_lt l2); (try have l2f := Nat.le_add_right_of_le (k := 1) l2e); (try have l3 := Nat.lt_of_lt_of_le l3 (show _ ≤ w3.heap.size by omega)); (try have l3e := Nat.le_of_lt l3); (try have l3f := Nat.le_add_right_of_le (k := 1) l3e)
  have E13 := Lib.hid (Ext.tr e12 hb)
  have E3 := Lib.hid (e1.tr (Ext.tr e12 hb))
  clear e1 e12 hb hc hf hz HD
  cases r
  · skip
    go_wp2_with (fail)
    go_at_call 16
    refine (alive_c _).mono ?_
    rintro e w9 ⟨rfl, hb⟩
    obtain ⟨hc, hf, hz, hs⟩ := bcell hb
    (try simp only [World.size_alloc, World.size_setCell, World.size_drew, size_drewN] at hs); (first | have l0 := Nat.lt_of_lt_of_le l0 (show _ ≤ w9.heap.size by omega) | have l0 : w.heap.size < w9.heap.size := (by omega) | skip); (try have l0e := Nat.le_of_lt l0); (try have l0f := Nat.le_add_right_of_le (k := 1) l0e); (try have l1 := Nat.lt_of_lt_of_le l1 (show _ ≤ w9.heap.size by omega)); (try have l1e := Nat.le_of_lt l1); (try have l1f := Nat.le_add_right_of_le (k := 1) l1e); (try have l2 := Nat.lt_of_lt_of_le l2 (show _ ≤ w9.heap.size by omega)); (try have l2e := Nat.le_of_lt l2); (try have l2f := Nat.le_add_right_of_le (k := 1) l2e); (try have l3 := Nat.lt_of_lt_of_le l3 (show _ ≤ w9.heap.size by omega)); (try have l3e := Nat.le_of_lt l3); (try have l3f := Nat.le_add_right_of_le (k := 1) l3e)
    go_wp2
    go_ret
    exact ⟨rfl, E3.out.tr hb⟩
  cases ps with
  | nil =>
    go_wp2_with (fail)
    go_at_call 16
    refine (alive_c _).mono ?_
    rintro e w9 ⟨rfl, hb⟩
    obtain ⟨hc, hf, hz, hs⟩ := bcell hb
    (try simp only [World.size_alloc, World.size_setCell, World.size_drew, size_drewN] at hs); (first | have l0 := Nat.lt_of_lt_of_le l0 (show _ ≤ w9.heap.size by omega) | have l0 : w.heap.size < w9.heap.size := (by omega) | skip); (try have l0e := Nat.le_of_lt l0); (try have l0f := Nat.le_add_right_of_le (k := 1) l0e); (try have l1 := Nat.lt_of_lt_of_le l1 (show _ ≤ w9.heap.size by omega)); (try have l1e := Nat.le_of_lt l1); (try have l1f := Nat.le_add_right_of_le (k := 1) l1e); (try have l2 := Nat.lt_of_lt_of_le l2 (show _ ≤ w9.heap.size by omega)); (try have l2e := Nat.le_of_lt l2); (try have l2f := Nat.le_add_right_of_le (k := 1) l2e); (try have l3 := Nat.lt_of_lt_of_le l3 (show _ ≤ w9.heap.size by omega)); (try have l3e := Nat.le_of_lt l3); (try have l3f := Nat.le_add_right_of_le (k := 1) l3e)
    go_wp2
    go_ret
    exact ⟨rfl, E3.out.tr hb⟩
  | cons p0 pt =>
    have HT3 := Lib.hid (HT.out.ext E13.out)
    clear HT
    obtain ⟨g7, rfl⟩ : ∃ g7, A2 = some ⟨g7, 0, none⟩ := by
      rcases HT3.out.1.2 with ⟨hv, hn0⟩ | ⟨g, cap, cur, hv, _⟩
      · simp at hn0
      · simp only [Value.slice.injEq] at hv
        exact ⟨g, hv.1⟩
    obtain ⟨a0, a1, a2, af, al⟩ := HT3.out.at_ (i := 0) rfl
    simp only [Nat.zero_mul, Nat.zero_add] at a0 a1 a2
    go_upto_region 9 with (fail)
    go_cut [5] from 6 to 48 (fun v W => ∃ lim2, OwnT W w.heap.size lim2 v (p0 :: pt ++ [p0]) ∧ Ext w3 W)
    case first =>
      have HSRC := Lib.hid (flat_src HT3.out)
      have hl9 : pt.length + 1 ≤ 8 := by simpa using hl8
      have hl10 : (p0 :: pt).length ≤ 1000 := by simp only [List.length_cons]; omega
      have hl11 : pt.length + 1 ≤ 1000 := by omega
      go_region_held3 (fun W => W.cell? ⟨g7, 0, none⟩ = some (.int .i64 p0.s) ∧ W.cell? ⟨g7, 1, none⟩ = some (.slice p0.A p0.ops.length p0.c) ∧ W.cell? ⟨g7, 2, none⟩ = some (.bool p0.d)) (first | go_keep | exact ⟨hE9.keep al a0, hE9.keep al a1, hE9.keep al a2⟩ | exact ⟨hE4.keep al a0, hE4.keep al a1, hE4.keep al a2⟩)
        (first
          | (refine step_first rfl (.tmp 25) (.tmp 26) rfl _ rfl g7 (pt.length + 1) c2 (p0 :: pt) rfl rfl (cells_src HSRC.out al (by (repeat' (first | (with_reducible exact Below.refl _ _) | (with_reducible refine Below.mono (by assumption) ?_) | (with_reducible refine Below.trans ?_ (Below.mono (by assumption) ?_)) | (with_reducible refine Below.alloc ?_ ?_ _) | (with_reducible refine Below.drew ?_) | (with_reducible refine below_drewN ?_ _) | (with_reducible refine Below.setCell ?_ ?_ _) | (simp only [World.size_alloc, World.size_setCell, World.size_drew, size_drewN]; omega) | omega)))) (Nat.succ_pos _) hl10 ?_
             intro v1 w4 hrow hg1
             have hE4 : Ext w3 w4 := Ext.tr (by (repeat' (first | (with_reducible exact Below.refl _ _) | (with_reducible refine Below.mono (by assumption) ?_) | (with_reducible refine Below.trans ?_ (Below.mono (by assumption) ?_)) | (with_reducible refine Below.alloc ?_ ?_ _) | (with_reducible refine Below.drew ?_) | (with_reducible refine below_drewN ?_ _) | (with_reducible refine Below.setCell ?_ ?_ _) | (simp only [World.size_alloc, World.size_setCell, World.size_drew, size_drewN]; omega) | omega))) (grown_none_ext hg1)
             have hrw := row_below hrow (show w3.heap.size ≤ _ by simp only [World.size_alloc, World.size_drew]; omega)
             clear hrow)
          | (refine step_second rfl (.tmp 27) (.tmp 31) rfl w3.heap.size _ rfl (pt.length + 1) (p0 :: pt) (by first | exact hrw | exact row_ext hrw (by (repeat' (first | (with_reducible exact Below.refl _ _) | (with_reducible refine Below.mono (by assumption) ?_) | (with_reducible refine Below.trans ?_ (Below.mono (by assumption) ?_)) | (with_reducible refine Below.alloc ?_ ?_ _) | (with_reducible refine Below.drew ?_) | (with_reducible refine below_drewN ?_ _) | (with_reducible refine Below.setCell ?_ ?_ _) | (simp only [World.size_alloc, World.size_setCell, World.size_drew, size_drewN]; omega) | omega)))) _ p0 rfl
               (by first | exact box_at (W0 := w4) (t := 31) rfl (Below.refl _ _) | exact box_at (W0 := w3) (t := 31) rfl (Ext.tr (Below.drew (Below.alloc (Below.refl _ _) (Nat.le_refl _) _)) (grown_none_ext hg1)) | exact box_at (W0 := w3.alloc (.cells #[] 31)) (t := 31) (by simp) (Ext.tr (Below.drew (Below.refl _ _)) (grown_none_ext hg1))) hl11
               (by first | exact hE4.size | (have := hE4.size; simp only [World.size_alloc]; omega)) ?_
             intro v9 w9 hrow2 hg2
             have hE9 : Ext w3 w9 := by first | exact Below.grown (w := w4) hE4 hg2 hE4.size (fun g hg => (own_at hrw hg).1) | exact Below.grown (w := w4.alloc (.cells #[.int .i64 p0.s, .slice p0.A p0.ops.length p0.c, .bool p0.d] 31)) (hE4.tr (by (repeat' (first | (with_reducible exact Below.refl _ _) | (with_reducible refine Below.mono (by assumption) ?_) | (with_reducible refine Below.trans ?_ (Below.mono (by assumption) ?_)) | (with_reducible refine Below.alloc ?_ ?_ _) | (with_reducible refine Below.drew ?_) | (with_reducible refine below_drewN ?_ _) | (with_reducible refine Below.setCell ?_ ?_ _) | (simp only [World.size_alloc, World.size_setCell, World.size_drew, size_drewN]; omega) | omega)))) hg2 (by have := hE4.size; simp only [World.size_alloc]; omega) (fun g hg => (own_at hrw hg).1)))
      all_goals
        go_wp2_with (fail)
        go_meet
        exact ⟨lim, ⟨row_below (by simpa using hrow2) E3.out.size, fun p hp => by
          have hm : p ∈ p0 :: pt := by
            rcases List.mem_append.1 hp with hp | hp
            · exact hp
            · obtain rfl := List.mem_singleton.1 hp
              exact List.mem_cons_self
          exact ⟨(HT3.out.2 p hm).1.ext (hE9.tr (by (repeat' (first | (with_reducible exact Below.refl _ _) | (with_reducible refine Below.mono (by assumption) ?_) | (with_reducible refine Below.trans ?_ (Below.mono (by assumption) ?_)) | (with_reducible refine Below.alloc ?_ ?_ _) | (with_reducible refine Below.drew ?_) | (with_reducible refine below_drewN ?_ _) | (with_reducible refine Below.setCell ?_ ?_ _) | (simp only [World.size_alloc, World.size_setCell, World.size_drew, size_drewN]; omega) | omega)))), (HT3.out.2 p hm).2⟩⟩, hE9.tr (by (repeat' (first | (with_reducible exact Below.refl _ _) | (with_reducible refine Below.mono (by assumption) ?_) | (with_reducible refine Below.trans ?_ (Below.mono (by assumption) ?_)) | (with_reducible refine Below.alloc ?_ ?_ _) | (with_reducible refine Below.drew ?_) | (with_reducible refine below_drewN ?_ _) | (with_reducible refine Below.setCell ?_ ?_ _) | (simp only [World.size_alloc, World.size_setCell, World.size_drew, size_drewN]; omega) | omega)))⟩
    case rest =>
      obtain ⟨lim2, hT9, hE9⟩ := hcut
      have HT9 := Lib.hid hT9
      have EC := Lib.hid hE9
      have HX3 := Lib.hid (HX.out.ext (E13.out.tr hE9))
      have ho := (HT3.out.2 p0 List.mem_cons_self).1
      have hO : Ops Any w3 p0.A p0.ops := by
        obtain ⟨A', c', hv, hx, _⟩ := ho.form
        simp only [Value.slice.injEq] at hv
        obtain ⟨rfl, _, rfl⟩ := hv
        exact SlAt.mono hx (fun _ _ _ => trivial) (fun _ _ h => h)
      have HO := Lib.hid hO
      have hv0 : txnv p0.txn = true := histv_mem HR.out (List.mem_map.2 ⟨p0, List.mem_cons_self, rfl⟩)
      have hon : p0.ops.length ≤ 1048576 := by have := (hps p0 List.mem_cons_self).2.1; omega
      have lw : ∀ w, Ops Any w p0.A p0.ops → Calls Tryd.prog 21 #[.agg #[.int .i64 p0.s, .slice p0.A p0.ops.length p0.c, .bool p0.d]] w (Fresh (lwsTo p0.ops 3) w) := fun w hx => by
        have := wrap_lastWrites_c p0.txn Any p0.A p0.c w hx hon
        rw [if_pos hv0] at this
        exact this
      obtain ⟨L, hL⟩ : ∃ L, lwsTo p0.ops 3 = L := ⟨_, rfl⟩
      rw [hL] at lw
      have HL := Lib.hid hL
      have LW := Lib.hid lw
      clear lw hL hO ho hT9 hE9 hv0
      by_cases hc1 : c2 = 1
      · subst hc1
        obtain rfl : pt = [] := List.eq_nil_of_length_eq_zero (by simp only [List.length_cons] at hc2; omega)
        have TV : histv (([] : List PT).map PT.txn) = true := histv_tail (t := p0.txn) HR.out
        have hsmt : Small (([] : List PT).map PT.txn) := (small_map (by simp only [List.length_cons, List.length_nil] at hl8 ⊢; omega) (fun p hp => hps p (List.mem_cons_of_mem _ hp))).small
        have CT : Hid (∀ w, Txns Any w (some ⟨g7, 0, none⟩) (([] : List PT).map PT.txn) → Calls Tryd.prog 28 #[.slice (some ⟨g7, 0, none⟩) 0 (0)] w fun e w' => e = .returned (.bool true) ∧ Ext w w') := Lib.hid (fun w hx => by
          have := implHistoryValid_c (([] : List PT).map PT.txn) Any _ (0) w hx hsmt
          rw [TV, List.length_map] at this
          exact this)
        go_wp2_with (fail)
        go_at_call 28
        refine (CT.out _ (SlAt.nil)).mono ?_
        rintro e w5 ⟨rfl, hb⟩
        obtain ⟨hc, hf, hz, hs⟩ := bcell hb
        (try simp only [World.size_alloc, World.size_setCell, World.size_drew, size_drewN] at hs); (first | have l0 := Nat.lt_of_lt_of_le l0 (show _ ≤ w5.heap.size by omega) | have l0 : w.heap.size < w5.heap.size := (by omega) | skip); (try have l0e := Nat.le_of_lt l0); (try have l0f := Nat.le_add_right_of_le (k := 1) l0e); (try have l1 := Nat.lt_of_lt_of_le l1 (show _ ≤ w5.heap.size by omega)); (try have l1e := Nat.le_of_lt l1); (try have l1f := Nat.le_add_right_of_le (k := 1) l1e); (try have l2 := Nat.lt_of_lt_of_le l2 (show _ ≤ w5.heap.size by omega)); (try have l2e := Nat.le_of_lt l2); (try have l2f := Nat.le_add_right_of_le (k := 1) l2e); (try have l3 := Nat.lt_of_lt_of_le l3 (show _ ≤ w5.heap.size by omega)); (try have l3e := Nat.le_of_lt l3); (try have l3f := Nat.le_add_right_of_le (k := 1) l3e)
        have E5 := Lib.hid (EC.out.tr hb)
        have b0 := E5.out.keep al a0
        have b1 := E5.out.keep al a1
        have b2 := E5.out.keep al a2
        go_wp2_with (fail)
        go_at_call 21
        refine (LW.out _ ((HO.out.ext E5.out))).mono ?_
        rintro e w6 ⟨A6, c6, rfl, hW6, hf6, hb⟩
        obtain ⟨hc, hf, hz, hs⟩ := bcell hb
        (try simp only [World.size_alloc, World.size_setCell, World.size_drew, size_drewN] at hs); (first | have l0 := Nat.lt_of_lt_of_le l0 (show _ ≤ w6.heap.size by omega) | have l0 : w.heap.size < w6.heap.size := (by omega) | skip); (try have l0e := Nat.le_of_lt l0); (try have l0f := Nat.le_add_right_of_le (k := 1) l0e); (try have l1 := Nat.lt_of_lt_of_le l1 (show _ ≤ w6.heap.size by omega)); (try have l1e := Nat.le_of_lt l1); (try have l1f := Nat.le_add_right_of_le (k := 1) l1e); (try have l2 := Nat.lt_of_lt_of_le l2 (show _ ≤ w6.heap.size by omega)); (try have l2e := Nat.le_of_lt l2); (try have l2f := Nat.le_add_right_of_le (k := 1) l2e); (try have l3 := Nat.lt_of_lt_of_le l3 (show _ ≤ w6.heap.size by omega)); (try have l3e := Nat.le_of_lt l3); (try have l3f := Nat.le_add_right_of_le (k := 1) l3e)
        have E6 := Lib.hid (E5.out.tr hb)
        have E56 := Lib.hid (Ext.tr (show Ext wc w5 by assumption) hb)
        clear hW6 hf6
        cases L with
        | nil =>
          go_wp2
          go_ret
          exact ⟨rfl, E3.out.tr E6.out⟩
        | cons o os =>
          have hw : ∃ o ∈ p0.txn.ops, o.a = 2 := lws_wr (by rw [show lwsTo p0.txn.ops 3 = o :: os from HL.out]; simp)
          have TW : histv ((p0 :: ([] : List PT) ++ [p0]).map PT.txn) = false := by
            have := histv_twice (ts := ([] : List PT).map PT.txn) hw
            simpa using this
          have hsm9 : Small ((p0 :: ([] : List PT) ++ [p0]).map PT.txn) := by
            have h1 : ∀ p ∈ p0 :: ([] : List PT) ++ [p0], p.small := app_smallP hps (hps p0 List.mem_cons_self)
            have h2 := total_small (h := (p0 :: ([] : List PT) ++ [p0]).map PT.txn) (fun t ht => by
              obtain ⟨p, hp, rfl⟩ := List.mem_map.1 ht
              exact (h1 p hp).2.1)
            have h3 : ((p0 :: ([] : List PT) ++ [p0]).map PT.txn).length ≤ 9 := by simp only [List.length_map, List.length_append, List.length_cons, List.length_nil] at hl8 ⊢; omega
            unfold Small
            omega
          obtain ⟨A9, c9, hv9, _, hx9⟩ := HT9.out.read
          have hxx := txns_any hx9
          have CW : Hid (∀ w, Txns Any w A9 ((p0 :: ([] : List PT) ++ [p0]).map PT.txn) → Calls Tryd.prog 28 #[u5] w fun e w' => e = .returned (.bool false) ∧ Ext w w') := Lib.hid (fun w hx => by
            have := implHistoryValid_c ((p0 :: ([] : List PT) ++ [p0]).map PT.txn) Any A9 c9 w hx hsm9
            rw [TW] at this
            rw [hv9]
            exact this)
          have HX9 := Lib.hid (hxx.ext E56.out)
          clear hxx hx9 hv9
          go_wp2_with (fail)
          go_at_call 28
          refine (CW.out _ HX9.out).mono ?_
          rintro e w7 ⟨rfl, hb⟩
          obtain ⟨hc, hf, hz, hs⟩ := bcell hb
          (try simp only [World.size_alloc, World.size_setCell, World.size_drew, size_drewN] at hs); (first | have l0 := Nat.lt_of_lt_of_le l0 (show _ ≤ w7.heap.size by omega) | have l0 : w.heap.size < w7.heap.size := (by omega) | skip); (try have l0e := Nat.le_of_lt l0); (try have l0f := Nat.le_add_right_of_le (k := 1) l0e); (try have l1 := Nat.lt_of_lt_of_le l1 (show _ ≤ w7.heap.size by omega)); (try have l1e := Nat.le_of_lt l1); (try have l1f := Nat.le_add_right_of_le (k := 1) l1e); (try have l2 := Nat.lt_of_lt_of_le l2 (show _ ≤ w7.heap.size by omega)); (try have l2e := Nat.le_of_lt l2); (try have l2f := Nat.le_add_right_of_le (k := 1) l2e); (try have l3 := Nat.lt_of_lt_of_le l3 (show _ ≤ w7.heap.size by omega)); (try have l3e := Nat.le_of_lt l3); (try have l3f := Nat.le_add_right_of_le (k := 1) l3e)
          go_wp2
          go_ret
          exact ⟨rfl, (E3.out.tr E6.out).tr hb⟩
      · have hc3 : pt.length + 1 ≤ c2 := by simpa using hc2
        have TV : histv (pt.map PT.txn) = true := histv_tail (t := p0.txn) HR.out
        have hsmt : Small (pt.map PT.txn) := (small_map (by simp only [List.length_cons, List.length_nil] at hl8 ⊢; omega) (fun p hp => hps p (List.mem_cons_of_mem _ hp))).small
        have CT : Hid (∀ w, Txns Any w (some ⟨g7, 3, none⟩) (pt.map PT.txn) → Calls Tryd.prog 28 #[.slice (some ⟨g7, 3, none⟩) pt.length (c2 - 1)] w fun e w' => e = .returned (.bool true) ∧ Ext w w') := Lib.hid (fun w hx => by
          have := implHistoryValid_c (pt.map PT.txn) Any _ (c2 - 1) w hx hsmt
          rw [TV, List.length_map] at this
          exact this)
        go_wp2_with (fail)
        go_at_call 28
        refine (CT.out _ (txns_tail HX3.out)).mono ?_
        rintro e w5 ⟨rfl, hb⟩
        obtain ⟨hc, hf, hz, hs⟩ := bcell hb
        (try simp only [World.size_alloc, World.size_setCell, World.size_drew, size_drewN] at hs); (first | have l0 := Nat.lt_of_lt_of_le l0 (show _ ≤ w5.heap.size by omega) | have l0 : w.heap.size < w5.heap.size := (by omega) | skip); (try have l0e := Nat.le_of_lt l0); (try have l0f := Nat.le_add_right_of_le (k := 1) l0e); (try have l1 := Nat.lt_of_lt_of_le l1 (show _ ≤ w5.heap.size by omega)); (try have l1e := Nat.le_of_lt l1); (try have l1f := Nat.le_add_right_of_le (k := 1) l1e); (try have l2 := Nat.lt_of_lt_of_le l2 (show _ ≤ w5.heap.size by omega)); (try have l2e := Nat.le_of_lt l2); (try have l2f := Nat.le_add_right_of_le (k := 1) l2e); (try have l3 := Nat.lt_of_lt_of_le l3 (show _ ≤ w5.heap.size by omega)); (try have l3e := Nat.le_of_lt l3); (try have l3f := Nat.le_add_right_of_le (k := 1) l3e)
        have E5 := Lib.hid (EC.out.tr hb)
        have b0 := E5.out.keep al a0
        have b1 := E5.out.keep al a1
        have b2 := E5.out.keep al a2
        go_wp2_with (fail)
        go_at_call 21
        refine (LW.out _ ((HO.out.ext E5.out))).mono ?_
        rintro e w6 ⟨A6, c6, rfl, hW6, hf6, hb⟩
        obtain ⟨hc, hf, hz, hs⟩ := bcell hb
        (try simp only [World.size_alloc, World.size_setCell, World.size_drew, size_drewN] at hs); (first | have l0 := Nat.lt_of_lt_of_le l0 (show _ ≤ w6.heap.size by omega) | have l0 : w.heap.size < w6.heap.size := (by omega) | skip); (try have l0e := Nat.le_of_lt l0); (try have l0f := Nat.le_add_right_of_le (k := 1) l0e); (try have l1 := Nat.lt_of_lt_of_le l1 (show _ ≤ w6.heap.size by omega)); (try have l1e := Nat.le_of_lt l1); (try have l1f := Nat.le_add_right_of_le (k := 1) l1e); (try have l2 := Nat.lt_of_lt_of_le l2 (show _ ≤ w6.heap.size by omega)); (try have l2e := Nat.le_of_lt l2); (try have l2f := Nat.le_add_right_of_le (k := 1) l2e); (try have l3 := Nat.lt_of_lt_of_le l3 (show _ ≤ w6.heap.size by omega)); (try have l3e := Nat.le_of_lt l3); (try have l3f := Nat.le_add_right_of_le (k := 1) l3e)
        have E6 := Lib.hid (E5.out.tr hb)
        have E56 := Lib.hid (Ext.tr (show Ext wc w5 by assumption) hb)
        clear hW6 hf6
        cases L with
        | nil =>
          go_wp2
          go_ret
          exact ⟨rfl, E3.out.tr E6.out⟩
        | cons o os =>
          have hw : ∃ o ∈ p0.txn.ops, o.a = 2 := lws_wr (by rw [show lwsTo p0.txn.ops 3 = o :: os from HL.out]; simp)
          have TW : histv ((p0 :: pt ++ [p0]).map PT.txn) = false := by
            have := histv_twice (ts := pt.map PT.txn) hw
            simpa using this
          have hsm9 : Small ((p0 :: pt ++ [p0]).map PT.txn) := by
            have h1 : ∀ p ∈ p0 :: pt ++ [p0], p.small := app_smallP hps (hps p0 List.mem_cons_self)
            have h2 := total_small (h := (p0 :: pt ++ [p0]).map PT.txn) (fun t ht => by
              obtain ⟨p, hp, rfl⟩ := List.mem_map.1 ht
              exact (h1 p hp).2.1)
            have h3 : ((p0 :: pt ++ [p0]).map PT.txn).length ≤ 9 := by simp only [List.length_map, List.length_append, List.length_cons, List.length_nil] at hl8 ⊢; omega
            unfold Small
            omega
          obtain ⟨A9, c9, hv9, _, hx9⟩ := HT9.out.read
          have hxx := txns_any hx9
          have CW : Hid (∀ w, Txns Any w A9 ((p0 :: pt ++ [p0]).map PT.txn) → Calls Tryd.prog 28 #[u5] w fun e w' => e = .returned (.bool false) ∧ Ext w w') := Lib.hid (fun w hx => by
            have := implHistoryValid_c ((p0 :: pt ++ [p0]).map PT.txn) Any A9 c9 w hx hsm9
            rw [TW] at this
            rw [hv9]
            exact this)
          have HX9 := Lib.hid (hxx.ext E56.out)
          clear hxx hx9 hv9
          go_wp2_with (fail)
          go_at_call 28
          refine (CW.out _ HX9.out).mono ?_
          rintro e w7 ⟨rfl, hb⟩
          obtain ⟨hc, hf, hz, hs⟩ := bcell hb
          (try simp only [World.size_alloc, World.size_setCell, World.size_drew, size_drewN] at hs); (first | have l0 := Nat.lt_of_lt_of_le l0 (show _ ≤ w7.heap.size by omega) | have l0 : w.heap.size < w7.heap.size := (by omega) | skip); (try have l0e := Nat.le_of_lt l0); (try have l0f := Nat.le_add_right_of_le (k := 1) l0e); (try have l1 := Nat.lt_of_lt_of_le l1 (show _ ≤ w7.heap.size by omega)); (try have l1e := Nat.le_of_lt l1); (try have l1f := Nat.le_add_right_of_le (k := 1) l1e); (try have l2 := Nat.lt_of_lt_of_le l2 (show _ ≤ w7.heap.size by omega)); (try have l2e := Nat.le_of_lt l2); (try have l2f := Nat.le_add_right_of_le (k := 1) l2e); (try have l3 := Nat.lt_of_lt_of_le l3 (show _ ≤ w7.heap.size by omega)); (try have l3e := Nat.le_of_lt l3); (try have l3f := Nat.le_add_right_of_le (k := 1) l3e)
          go_wp2
          go_ret
          exact ⟨rfl, (E3.out.tr E6.out).tr hb⟩

theorem FnHistoryValid_reads (os : Os) {H : Type} (enc : TypeId × Value → H) : ∃ places, DataW.whole enc Tryd.prog ((Law.laidWorld os).forCall (fun _ _ => 0) ⟨#[], #[.slice none 0 0], []⟩).memory Tryd.f7.params.toList Rows.fnHistoryValidSpec.vars false (#[.slice none 0 0] : Array Value).toList 8 = some ([.nil], [], places) :=
  ⟨[], by kernel_rfl⟩
theorem FnHistoryValid_laid (os : Os) : laidMet Tryd.prog Rows.fnHistoryValidRow.laid ((Law.laidWorld os).forCall (fun _ _ => 0) ⟨#[], #[.slice none 0 0], []⟩).memory :=
  laidMet_of_run' 8 (by kernel_rfl) (by kernel_rfl)
set_option maxRecDepth 100000 in
theorem FnHistoryValid_lifted (os : Os) (started : os.Started) (H : Type) (enc : TypeId × Value → H) (F : Stop.Interp) :
    ReturnsInHanded {} Tryd.checked os 7 .any ((OpenSpec.ofChange Rows.fnHistoryValidSpec).preRow enc Tryd.prog Tryd.f7 Rows.fnHistoryValidRow.domain false Rows.fnHistoryValidRow.laid) (((OpenSpec.ofChange Rows.fnHistoryValidSpec).at F).post enc Tryd.prog Tryd.f7 false true false false) := by
  obtain ⟨places, hx⟩ := FnHistoryValid_reads os enc
  refine returnsInHanded_of_row (C := Tryd.checked) (s := OpenSpec.ofChange Rows.fnHistoryValidSpec) Law.own started (by kernel_rfl) Tryd.func7
    (witness_row_at (enc := enc) (C := Tryd.checked) false (Law.laidWorld os) #[.slice none 0 0] rfl (by kernel_rfl) (by kernel_rfl) (by kernel_rfl)
      (OpenSpec.preRow_of_cond 8 hx (by kernel_rfl) (fun k hk => by cases hk) (by kernel_rfl) (FnHistoryValid_laid os))) ?_
  intro W base args ds gs before hval0 hW _ _ _ hLaid _ _
  have hval : ∀ (j : Nat) t v, Tryd.f7.params[j]? = some t → args[j]? = some v → Value.okWide Tryd.prog W .any base t v := hval0
  have hW' := hW
  obtain ⟨p, q, hA0, hV, rfl, hfz, hnd⟩ := hW
  have hA : DataW.TrodAll enc Tryd.prog W 0 (fun _ => true) true Tryd.f7.params.toList args.toList ds p := hA0
  rw [Tryd.params7] at hA hval
  obtain ⟨v0, vs0, d0, ds0, p0, q0, hargs, hds, rfl, h0, r0⟩ := trodAll_cons hA
  obtain ⟨rfl, rfl, rfl⟩ := trodAll_nil r0
  obtain rfl : args = #[v0] := by cases args; simp_all
  subst hds
  obtain ⟨x0, A0, c0, rfl, hO0, wf0⟩ := Law.open_bytes Tryd.underlying22 Tryd.underlying5 (by kernel_rfl) (hval 0 22 v0 rfl rfl) h0
  refine (FnHistoryValid_c x0 A0 c0 W hO0 wf0 (Law.bytes_cap Tryd.underlying22 (hval 0 22 _ rfl rfl))).mono fun e W' ⟨he, hb⟩ => ?_
  subst he
  refine ⟨_, rfl, Law.post_true Law.laidOut ?_ rfl rfl Tryd.underlying4 ⟨rfl, rfl, rfl⟩ hW' hb⟩
  intro t ht
  rw [Tryd.params7] at ht
  simp only [List.mem_cons, List.not_mem_nil, or_false] at ht
  first | (rcases ht with rfl <;> exact ⟨by kernel_rfl, of_decide_eq_true (by kernel_rfl)⟩)

theorem FnHistoryValid_holds : Rows.FnHistoryValidSaid :=
  OpenClaim.holds_of_cond 7 Tryd.f7 rfl rfl rfl rfl rfl rfl rfl ⟨rfl, rfl, rfl, rfl, rfl⟩ rfl rfl rfl rfl rfl (by kernel_rfl) Tryd.func7 (by kernel_rfl)
    (of_decide_eq_true (by kernel_rfl)) (by unfold Func.isWrapper; first | (rw [if_pos (by decide +kernel)]; kernel_rfl) | (rw [if_neg (by decide +kernel)]; exact ⟨rfl, rfl⟩))
    (fun os started H enc _ F => by rw [OpenClaim.pre_eq_preRow]; exact FnHistoryValid_lifted os started H enc F)
theorem FnHistoryValid_plain (f : FuncId) (fn : Func) (hf : Tryd.pinned.checked.prog.funcNamed Rows.fnHistoryValidRow.func = some f) (hfn : Tryd.pinned.checked.prog.funcs[f]? = some fn) :
    false = Tryd.pinned.checked.prog.looks [] ∧ ∀ (j : Nat) t, fn.params[j]? = some t → Tryd.pinned.checked.prog.wantsStandIn t = false := by
  obtain rfl : f = 7 := Option.some.inj ((show Tryd.prog.funcNamed Rows.fnHistoryValidRow.func = some 7 by kernel_rfl).symm.trans hf) |>.symm
  obtain rfl : fn = Tryd.f7 := (Option.some.inj (Tryd.func7.symm.trans hfn)).symm
  refine ⟨by kernel_rfl, fun j t ht => ?_⟩
  rw [Tryd.params7] at ht
  have hm := Array.mem_of_getElem? ht
  simp only [List.mem_toArray, List.mem_cons, List.not_mem_nil, or_false] at hm
  rcases hm with rfl
  · exact (show Tryd.prog.wantsStandIn 22 = false by kernel_rfl)
theorem FnHistoryValid_card : Rows.FnHistoryValidCardSaid :=
  Claim7.holds_tied_plain_at .later [] _ _ _ _ FnHistoryValid_holds (fun _ h => by cases h) (by kernel_rfl) (fun _ h => by cases h) fnHistoryValid_row_tie rfl ⟨rfl, rfl⟩ (by kernel_rfl) rfl FnHistoryValid_plain (by kernel_rfl)

end Go.Proofs.YtagmlbhmojgnlaaDoor
