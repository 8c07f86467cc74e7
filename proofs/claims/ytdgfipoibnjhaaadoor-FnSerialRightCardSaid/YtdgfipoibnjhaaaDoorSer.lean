/-
  Contracts of SerialRight, the reference's and the program's.
-/
import Derived.Test.YtdgfipoibnjhaaaDoorSame7
import Derived.Deep.RegionHeld3
import Derived.StillTailTactics
namespace Go.Proofs.YtdgfipoibnjhaaaDoor
set_option linter.unusedSimpArgs false
set_option linter.unusedVariables false
set_option maxRecDepth 100000
open Go.RowKit

def updS (f : Nat → Int) (i : Nat) (x : Int) : Nat → Int := fun j => if j = i then x else f j
def stepS (f : Nat → Int) (o : T3) : Option (Nat → Int) := if o.a = 2 then some (updS f o.b.toNat o.c) else if f o.b.toNat = o.c then some f else none
/-- operations run on values -/
def runO (f : Nat → Int) (ops : List T3) : Option (Nat → Int) := ops.foldl (fun a o => a.bind fun f => stepS f o) (some f)
theorem runO_take {f : Nat → Int} {ops : List T3} {k : Nat} {o : T3} (h : ops[k]? = some o) : runO f (ops.take (k + 1)) = (runO f (ops.take k)).bind fun f => stepS f o := by
  unfold runO
  rw [List.take_add_one, h]
  simp
theorem run_none (ops : List T3) : ops.foldl (fun a o => a.bind fun f => stepS f o) none = none := by
  induction ops with
  | nil => rfl
  | cons o ops ih => simpa using ih
theorem runO_stop {f : Nat → Int} {ops : List T3} {k : Nat} (h : runO f (ops.take k) = none) : runO f ops = none := by
  unfold runO at h ⊢
  rw [← List.take_append_drop k ops, List.foldl_append, h]
  exact run_none _
def runT (h : List TxnT) (f : Nat → Int) (n : Int) : Option (Nat → Int) := match h[n.toNat]? with
  | some t => runO f t.ops
  | none => none
/-- transactions run one after the other -/
def runH (h : List TxnT) (ns : List Int) : Option (Nat → Int) := ns.foldl (fun a n => a.bind fun f => runT h f n) (some fun _ => 0)
theorem runH_take {h : List TxnT} {ns : List Int} {k : Nat} {n : Int} (hn : ns[k]? = some n) : runH h (ns.take (k + 1)) = (runH h (ns.take k)).bind fun f => runT h f n := by
  unfold runH
  rw [List.take_add_one, hn]
  simp
theorem runs_none (h : List TxnT) (ns : List Int) : ns.foldl (fun a n => a.bind fun f => runT h f n) none = none := by
  induction ns with
  | nil => rfl
  | cons o ops ih => simpa using ih
theorem runH_stop {h : List TxnT} {ns : List Int} {k : Nat} (hk : runH h (ns.take k) = none) : runH h ns = none := by
  unfold runH at hk ⊢
  rw [← List.take_append_drop k ns, List.foldl_append, hk]
  exact runs_none h _
/-- three ints -/
def st3 (f : Nat → Int) : Array Value := #[.int .i64 (f 0), .int .i64 (f 1), .int .i64 (f 2)]
theorem st3_get (f : Nat → Int) {i : Nat} (hi : i < 3) : (st3 f)[i]? = some (.int .i64 (f i)) := by
  obtain rfl | rfl | rfl : i = 0 ∨ i = 1 ∨ i = 2 := by omega
  all_goals rfl
theorem st3_set (f : Nat → Int) {i : Nat} (hi : i < 3) (x : Int) : (st3 f).setIfInBounds i (.int .i64 x) = st3 (updS f i x) := by
  obtain rfl | rfl | rfl : i = 0 ∨ i = 1 ∨ i = 2 := by omega
  all_goals rfl
theorem upd_self {f : Nat → Int} {i : Nat} {x : Int} (h : f i = x) : updS f i x = f := by
  funext j
  unfold updS
  split
  · rename_i e
    rw [e, h]
  · rfl
theorem opv_parts {o : T3} (h : opv o = true) : (o.a = 1 ∨ o.a = 2) ∧ 0 ≤ o.b ∧ o.b ≤ 2 ∧ 0 ≤ o.c ∧ o.c ≤ 99 := by
  simp only [opv, inB, Bool.and_eq_true, decide_eq_true_eq] at h
  omega
theorem txnv_opv {t : TxnT} (h : txnv t = true) : ∀ o ∈ t.ops, opv o = true := by
  simp only [txnv, Bool.and_eq_true, List.all_eq_true] at h
  exact h.1
theorem txnv_len {t : TxnT} (h : txnv t = true) : t.ops.length ≤ 6 := by
  simp only [txnv, Bool.and_eq_true, decide_eq_true_eq] at h
  exact h.2.2

/-- what following a transaction leaves -/
def Followed (f : Nat → Int) (ops : List T3) (g : Nat) (w : World) (e : Ending) (w' : World) : Prop :=
  ∃ (b : Bool) (f' : Nat → Int), e = .returned (.bool b) ∧ Blk w' g 72 (st3 f') ∧ w.grownBy w' (some g) ∧ (b = true → runO f ops = some f') ∧ (b = false → runO f ops = none)
set_option maxHeartbeats 4000000 in
theorem follow_c (f : Nat → Int) (s : Int) (ops : List T3) (dn : Bool) (S : Nat → Prop) (A : Option Addr) (c g : Nat) (w : World) (hB : Blk w g 72 (st3 f)) (hx : Ops S w A ops) (hS : ¬ S g) (hv : ∀ o ∈ ops, opv o = true) (hn : ops.length ≤ 6) :
    Calls Tryd.prog 49 #[.pointer (some ⟨g, 0, none⟩), .agg #[.int .i64 s, .slice A ops.length c, .bool dn]] w (Followed f ops g w) := by
  have HV := Lib.hid hv
  have HS := Lib.hid hS
  have HX := Lib.hid hx
  have hgl := hB.lt
  have hE0 : Ext w (w.alloc (.cells #[.int .i64 s, .slice A ops.length c, .bool dn] 32)) := by (repeat' (first | (with_reducible exact Below.refl _ _) | (with_reducible refine Below.mono (by assumption) ?_) | (with_reducible refine Below.trans ?_ (Below.mono (by assumption) ?_)) | (with_reducible refine Below.alloc ?_ ?_ _) | (with_reducible refine Below.drew ?_) | (with_reducible refine below_drewN ?_ _) | (with_reducible refine Below.setCell ?_ ?_ _) | (simp only [World.size_alloc, World.size_setCell, World.size_drew, size_drewN]; omega) | omega))
  have HB := Lib.hid (hB.ext hE0)
  have HG0 := Lib.hid (grown_ext hE0 (some g))
  clear hv hS hx hB hE0
  go_enter Tryd.func49, Tryd.ntmps49
  go_wp2
  go_loopw [10] (fun i wr => ∃ (k : Nat) (f' : Nat → Int), k ≤ ops.length ∧ i = .int .i64 k ∧ runO f (ops.take k) = some f' ∧ Blk wr g 72 (st3 f') ∧ w.grownBy wr (some g)) (fun i _ => ops.length - (intOf i).toNat)
  case atStart => exact ⟨0, f, Nat.zero_le _, rfl, rfl, HB.out, HG0.out⟩
  case round =>
    obtain ⟨k, f', hk, rfl, hrun, hB, hG⟩ := hrel
    have HRun := Lib.hid hrun
    have HG := Lib.hid hG
    have HBk := Lib.hid hB
    have hgr := hB.lt
    clear HB HG0 hrun hB
    have hxr : Ops S wr A ops := HX.out.grown hG (fun b hb _ e => HS.out (by injection e with e; rw [← e]; exact hb))
    have HXr := Lib.hid hxr
    clear hG
    by_cases hlt : k < ops.length
    · obtain ⟨x0, x1, x2, b, off, hxk, rfl, _, hb0, c0, c1, c2⟩ := hxr.at_ hlt
      obtain ⟨ha, hb1, hb2, hc1, hc2⟩ := opv_parts (HV.out _ (List.mem_of_getElem? hxk))
      simp only at ha hb1 hb2 hc1 hc2
      obtain ⟨y, rfl⟩ := Int.eq_ofNat_of_zero_le hb1
      have hst := runO_take (f := f) hxk
      have hki : (k : Int) < ops.length := by omega
      have hy3 : y < 3 := by omega
      have hyi : (y : Int) < 3 := by omega
      have HSt := Lib.hid hst
      clear hxk hst hxr
      by_cases h2 : x0 = 2
      · subst h2
        have e2 : ((2 : Int) == 2) = true := rfl
        go_wp2_with (fail)
        go_at_call 87
        refine (writes_c _ _ _ _).mono ?_
        rintro e w1 ⟨rfl, hb⟩
        obtain ⟨y0, y1, y2⟩ := box3 hb
        have hb1' : Ext wr w1 := by (repeat' (first | (with_reducible exact Below.refl _ _) | (with_reducible refine Below.mono (by assumption) ?_) | (with_reducible refine Below.trans ?_ (Below.mono (by assumption) ?_)) | (with_reducible refine Below.alloc ?_ ?_ _) | (with_reducible refine Below.drew ?_) | (with_reducible refine below_drewN ?_ _) | (with_reducible refine Below.setCell ?_ ?_ _) | (simp only [World.size_alloc, World.size_setCell, World.size_drew, size_drewN]; omega) | omega))
        have hB1 := HBk.out.ext hb1'
        have cy := (hB1.cell y).trans (st3_get f' hy3)
        have hfz := hB1.frozen
        have hg1 := hB1.lt
        have HB1 := Lib.hid hB1
        have HG1 := Lib.hid (grown_trans HG.out (grown_ext hb1' (some g)))
        clear hb hB1 hb1'
        have hgne : g ≠ wr.heap.size := by omega
        have hset := (HB1.out.set_ y (.int .i64 x2))
        rw [st3_set f' hy3] at hset
        have hrs : runO f (ops.take (k + 1)) = some (updS f' y x2) := by
          rw [HSt.out, HRun.out]
          simp [stepS]
        have HSet := Lib.hid hset
        have HRs := Lib.hid hrs
        clear hset hrs HSt
        go_wp2
        go_region_held3 (fun W => W.cell? ⟨wr.heap.size, 1, none⟩ = some (.int .i64 (y : Int)) ∧ W.cell? ⟨wr.heap.size, 2, none⟩ = some (.int .i64 x2)) (first | go_keep | (refine ⟨?_, ?_⟩ <;> (rw [World.cell?_setCell_other _ _ _ _ (by simp; omega)]; assumption))) (fail)
        all_goals go_wp2
        all_goals
          refine ⟨⟨k + 1, updS f' y x2, by omega, by go_num, HRs.out, HSet.out, grown_trans HG1.out (grown_trans (grown_set _) (grown_ext (by (repeat' (first | (with_reducible exact Below.refl _ _) | (with_reducible refine Below.mono (by assumption) ?_) | (with_reducible refine Below.trans ?_ (Below.mono (by assumption) ?_)) | (with_reducible refine Below.alloc ?_ ?_ _) | (with_reducible refine Below.drew ?_) | (with_reducible refine below_drewN ?_ _) | (with_reducible refine Below.setCell ?_ ?_ _) | (simp only [World.size_alloc, World.size_setCell, World.size_drew, size_drewN]; omega) | omega))) _))⟩, by simp [intOf]; omega⟩
      · have h1 : x0 = 1 := by omega
        subst h1
        have e2 : ((1 : Int) == 2) = false := rfl
        by_cases he : f' y = x2
        · have hen : (f' y != x2) = false := by simpa using he
          have hrs : runO f (ops.take (k + 1)) = some f' := by
            rw [HSt.out, HRun.out]
            simp [stepS, he]
          have HRs := Lib.hid hrs
          clear hrs HSt he h2
          go_wp2_with (fail)
          go_at_call 87
          refine (writes_c _ _ _ _).mono ?_
          rintro e w1 ⟨rfl, hb⟩
          obtain ⟨y0, y1, y2⟩ := box3 hb
          have hb1' : Ext wr w1 := by (repeat' (first | (with_reducible exact Below.refl _ _) | (with_reducible refine Below.mono (by assumption) ?_) | (with_reducible refine Below.trans ?_ (Below.mono (by assumption) ?_)) | (with_reducible refine Below.alloc ?_ ?_ _) | (with_reducible refine Below.drew ?_) | (with_reducible refine below_drewN ?_ _) | (with_reducible refine Below.setCell ?_ ?_ _) | (simp only [World.size_alloc, World.size_setCell, World.size_drew, size_drewN]; omega) | omega))
          have hB1 := HBk.out.ext hb1'
          have cy := (hB1.cell y).trans (st3_get f' hy3)
          have HB1 := Lib.hid hB1
          have HG1 := Lib.hid (grown_trans HG.out (grown_ext hb1' (some g)))
          clear hb hB1 hb1'
          go_wp2
          go_quiet (fail)
          go_wp2
          refine ⟨⟨k + 1, f', by omega, by go_num, HRs.out, ?_, ?_⟩, by simp [intOf]; omega⟩
          · exact HB1.out.ext (by (repeat' (first | (with_reducible exact Below.refl _ _) | (with_reducible refine Below.mono (by assumption) ?_) | (with_reducible refine Below.trans ?_ (Below.mono (by assumption) ?_)) | (with_reducible refine Below.alloc ?_ ?_ _) | (with_reducible refine Below.drew ?_) | (with_reducible refine below_drewN ?_ _) | (with_reducible refine Below.setCell ?_ ?_ _) | (simp only [World.size_alloc, World.size_setCell, World.size_drew, size_drewN]; omega) | omega)))
          · exact grown_trans HG1.out (grown_ext (by (repeat' (first | (with_reducible exact Below.refl _ _) | (with_reducible refine Below.mono (by assumption) ?_) | (with_reducible refine Below.trans ?_ (Below.mono (by assumption) ?_)) | (with_reducible refine Below.alloc ?_ ?_ _) | (with_reducible refine Below.drew ?_) | (with_reducible refine below_drewN ?_ _) | (with_reducible refine Below.setCell ?_ ?_ _) | (simp only [World.size_alloc, World.size_setCell, World.size_drew, size_drewN]; omega) | omega))) _)
        · have hen : (f' y != x2) = true := by simpa using he
          have hrs : runO f ops = none := by
            refine runO_stop (k := k + 1) ?_
            rw [HSt.out, HRun.out]
            simp [stepS, he]
          have HRs := Lib.hid hrs
          clear hrs HSt he h2
          go_wp2_with (fail)
          go_at_call 87
          refine (writes_c _ _ _ _).mono ?_
          rintro e w1 ⟨rfl, hb⟩
          obtain ⟨y0, y1, y2⟩ := box3 hb
          have hb1' : Ext wr w1 := by (repeat' (first | (with_reducible exact Below.refl _ _) | (with_reducible refine Below.mono (by assumption) ?_) | (with_reducible refine Below.trans ?_ (Below.mono (by assumption) ?_)) | (with_reducible refine Below.alloc ?_ ?_ _) | (with_reducible refine Below.drew ?_) | (with_reducible refine below_drewN ?_ _) | (with_reducible refine Below.setCell ?_ ?_ _) | (simp only [World.size_alloc, World.size_setCell, World.size_drew, size_drewN]; omega) | omega))
          have hB1 := HBk.out.ext hb1'
          have cy := (hB1.cell y).trans (st3_get f' hy3)
          have HB1 := Lib.hid hB1
          have HG1 := Lib.hid (grown_trans HG.out (grown_ext hb1' (some g)))
          clear hb hB1 hb1'
          go_wp2
          go_quiet (fail)
          go_wp2
          go_ret
          exact ⟨false, f', rfl, HB1.out.ext (by (repeat' (first | (with_reducible exact Below.refl _ _) | (with_reducible refine Below.mono (by assumption) ?_) | (with_reducible refine Below.trans ?_ (Below.mono (by assumption) ?_)) | (with_reducible refine Below.alloc ?_ ?_ _) | (with_reducible refine Below.drew ?_) | (with_reducible refine below_drewN ?_ _) | (with_reducible refine Below.setCell ?_ ?_ _) | (simp only [World.size_alloc, World.size_setCell, World.size_drew, size_drewN]; omega) | omega))), grown_trans HG1.out (grown_ext (by (repeat' (first | (with_reducible exact Below.refl _ _) | (with_reducible refine Below.mono (by assumption) ?_) | (with_reducible refine Below.trans ?_ (Below.mono (by assumption) ?_)) | (with_reducible refine Below.alloc ?_ ?_ _) | (with_reducible refine Below.drew ?_) | (with_reducible refine below_drewN ?_ _) | (with_reducible refine Below.setCell ?_ ?_ _) | (simp only [World.size_alloc, World.size_setCell, World.size_drew, size_drewN]; omega) | omega))) _), (fun h => by cases h), fun _ => HRs.out⟩
    · obtain rfl : k = ops.length := by omega
      have hrun := HRun.out
      rw [List.take_length] at hrun
      have HR := Lib.hid hrun
      clear hrun
      go_wp2
      go_ret
      exact ⟨true, f', rfl, HBk.out, HG.out, fun _ => HR.out, fun h => by cases h⟩
/-- whether a list is a right serial order -/
def serV (h : List TxnT) (ns : List Int) : Bool := histv h && (l7v ns (dnT h h.length) && (runH h ns).isSome)
theorem ser_mem {h : List TxnT} {ns : List Int} (hp : l7v ns (dnT h h.length) = true) {k : Nat} {n : Int} (hn : ns[k]? = some n) : ∃ (m : Nat) (t : TxnT), n = m ∧ m < h.length ∧ h[m]? = some t ∧ t.done = true := by
  have h1 := (l7v_perm (dnT_nodup (h := h) h.length)).1 hp
  have h2 : n ∈ dnT h h.length := h1.mem_iff.1 (List.mem_of_getElem? hn)
  exact dnT_mem h2
theorem grown_ext_new {w w1 w2 : World} {r : Nat} (hE : Ext w w1) (hr : w.heap.size ≤ r) (h : w1.grownBy w2 (some r)) : Ext w w2 :=
  ⟨h.os.trans hE.os, h.tape.trans hE.tape, h.output.trans hE.output, Nat.le_trans hE.size h.size, fun k hk => (h.block k (Nat.lt_of_lt_of_le hk hE.size) (fun e => by have := Option.some.inj e; omega)).trans (hE.block k hk)⟩
theorem txns_old {S : Nat → Prop} {w : World} {A : Option Addr} {h : List TxnT} (hx : Txns S w A h) : Txns (fun b => b < w.heap.size) w A h := SlAt.mono hx (fun _ _ hb => hb) (mono_txn (fun _ _ hb => hb))
set_option maxHeartbeats 4000000 in
theorem implSerialRight_c (h : List TxnT) (ns : List Int) (S S' : Nat → Prop) (A B : Option Addr) (c d : Nat) (w : World) (hx : Txns S w A h) (hsm : Small h) (hi : Ints S' w B ns) (hn : ns.length ≤ 1048576) :
    Calls Tryd.prog 18 #[.slice A h.length c, .slice B ns.length d] w fun e w' => e = .returned (.bool (serV h ns)) ∧ Ext w w' := by
  have CV := Lib.hid (fun w hx => implHistoryValid_c h S A c w hx hsm)
  have CD := Lib.hid (fun w hx => done_c h S A c w hx hsm)
  have HX := Lib.hid hx
  have HXo := Lib.hid (txns_old hx)
  have HI := Lib.hid hi
  have hdl := dnT_len h h.length
  have hsl := hsm.len
  clear hx hi
  cases hv : histv h with
  | false =>
    have HF : Hid (serV h ns = false) := Lib.hid (by simp [serV, hv])
    have CV2 := CV.out
    rw [hv] at CV2
    have CV2 := Lib.hid CV2
    clear hv CV
    go_enter Tryd.func18, Tryd.ntmps18
    go_wp2_with (fail)
    go_at_call 36
    refine (CV2.out _ (HX.out.ext (by (repeat' (first | (with_reducible exact Below.refl _ _) | (with_reducible refine Below.mono (by assumption) ?_) | (with_reducible refine Below.trans ?_ (Below.mono (by assumption) ?_)) | (with_reducible refine Below.alloc ?_ ?_ _) | (with_reducible refine Below.drew ?_) | (with_reducible refine below_drewN ?_ _) | (with_reducible refine Below.setCell ?_ ?_ _) | (simp only [World.size_alloc, World.size_setCell, World.size_drew, size_drewN]; omega) | omega))))).mono ?_
    rintro e w1 ⟨rfl, hb⟩
    obtain ⟨hc, hf, hz, hs⟩ := bcell hb
    (try simp only [World.size_alloc, World.size_setCell, World.size_drew, size_drewN] at hs); (first | have l0 := Nat.lt_of_lt_of_le l0 (show _ ≤ w1.heap.size by omega) | have l0 : w.heap.size < w1.heap.size := (by omega) | skip); (try have l0e := Nat.le_of_lt l0); (try have l0f := Nat.le_add_right_of_le (k := 1) l0e); (try have l1 := Nat.lt_of_lt_of_le l1 (show _ ≤ w1.heap.size by omega)); (try have l1e := Nat.le_of_lt l1); (try have l1f := Nat.le_add_right_of_le (k := 1) l1e); (try have l2 := Nat.lt_of_lt_of_le l2 (show _ ≤ w1.heap.size by omega)); (try have l2e := Nat.le_of_lt l2); (try have l2f := Nat.le_add_right_of_le (k := 1) l2e); (try have l3 := Nat.lt_of_lt_of_le l3 (show _ ≤ w1.heap.size by omega)); (try have l3e := Nat.le_of_lt l3); (try have l3f := Nat.le_add_right_of_le (k := 1) l3e)
    go_wp2
    go_ret
    exact ⟨ret_bool HF.out.symm, by (repeat' (first | (with_reducible exact Below.refl _ _) | (with_reducible refine Below.mono (by assumption) ?_) | (with_reducible refine Below.trans ?_ (Below.mono (by assumption) ?_)) | (with_reducible refine Below.alloc ?_ ?_ _) | (with_reducible refine Below.drew ?_) | (with_reducible refine below_drewN ?_ _) | (with_reducible refine Below.setCell ?_ ?_ _) | (simp only [World.size_alloc, World.size_setCell, World.size_drew, size_drewN]; omega) | omega))⟩
  | true =>
    have CV2 := CV.out
    rw [hv] at CV2
    have CV2 := Lib.hid CV2
    have hop : ∀ t ∈ h, (∀ o ∈ t.ops, opv o = true) ∧ t.ops.length ≤ 6 := fun t ht => ⟨txnv_opv (histv_txn hv t ht), txnv_len (histv_txn hv t ht)⟩
    have HOp := Lib.hid hop
    have HVv := Lib.hid hv
    clear hv CV hop
    go_enter Tryd.func18, Tryd.ntmps18
    go_wp2_with (fail)
    go_at_call 36
    refine (CV2.out _ (HX.out.ext (by (repeat' (first | (with_reducible exact Below.refl _ _) | (with_reducible refine Below.mono (by assumption) ?_) | (with_reducible refine Below.trans ?_ (Below.mono (by assumption) ?_)) | (with_reducible refine Below.alloc ?_ ?_ _) | (with_reducible refine Below.drew ?_) | (with_reducible refine below_drewN ?_ _) | (with_reducible refine Below.setCell ?_ ?_ _) | (simp only [World.size_alloc, World.size_setCell, World.size_drew, size_drewN]; omega) | omega))))).mono ?_
    rintro e w1 ⟨rfl, hb⟩
    obtain ⟨hc, hf, hz, hs⟩ := bcell hb
    (try simp only [World.size_alloc, World.size_setCell, World.size_drew, size_drewN] at hs); (first | have l0 := Nat.lt_of_lt_of_le l0 (show _ ≤ w1.heap.size by omega) | have l0 : w.heap.size < w1.heap.size := (by omega) | skip); (try have l0e := Nat.le_of_lt l0); (try have l0f := Nat.le_add_right_of_le (k := 1) l0e); (try have l1 := Nat.lt_of_lt_of_le l1 (show _ ≤ w1.heap.size by omega)); (try have l1e := Nat.le_of_lt l1); (try have l1f := Nat.le_add_right_of_le (k := 1) l1e); (try have l2 := Nat.lt_of_lt_of_le l2 (show _ ≤ w1.heap.size by omega)); (try have l2e := Nat.le_of_lt l2); (try have l2f := Nat.le_add_right_of_le (k := 1) l2e); (try have l3 := Nat.lt_of_lt_of_le l3 (show _ ≤ w1.heap.size by omega)); (try have l3e := Nat.le_of_lt l3); (try have l3f := Nat.le_add_right_of_le (k := 1) l3e)
    have HE1 := Lib.hid (show Ext w w1 by (repeat' (first | (with_reducible exact Below.refl _ _) | (with_reducible refine Below.mono (by assumption) ?_) | (with_reducible refine Below.trans ?_ (Below.mono (by assumption) ?_)) | (with_reducible refine Below.alloc ?_ ?_ _) | (with_reducible refine Below.drew ?_) | (with_reducible refine below_drewN ?_ _) | (with_reducible refine Below.setCell ?_ ?_ _) | (simp only [World.size_alloc, World.size_setCell, World.size_drew, size_drewN]; omega) | omega)))
    clear hc hf hz hb CV2
    go_wp2_with (fail)
    go_at_call 42
    refine (values_c _ _ _ _).mono ?_
    rintro e w2 ⟨rfl, rfl⟩
    have HBx := Lib.hid (Boxd.made (c := d) (HI.out.ext HE1.out))
    have HE2 := Lib.hid (HE1.out.tr (show Ext w1 (w1.alloc (.cells #[.slice B ns.length d] 41)) by (repeat' (first | (with_reducible exact Below.refl _ _) | (with_reducible refine Below.mono (by assumption) ?_) | (with_reducible refine Below.trans ?_ (Below.mono (by assumption) ?_)) | (with_reducible refine Below.alloc ?_ ?_ _) | (with_reducible refine Below.drew ?_) | (with_reducible refine below_drewN ?_ _) | (with_reducible refine Below.setCell ?_ ?_ _) | (simp only [World.size_alloc, World.size_setCell, World.size_drew, size_drewN]; omega) | omega))))
    go_wp2_with (fail)
    go_at_call 41
    refine (sorted_c w1.heap.size ns hn _ HBx.out).mono ?_
    rintro e w3 ⟨v3, rfl, ho3, hb3⟩
    have HO3 := Lib.hid ho3
    have HE3 := Lib.hid (HE2.out.tr hb3)
    clear ho3 hb3 HBx HE2
    go_wp2_with (fail)
    go_at_call 48
    refine (CD.out _ (HX.out.ext HE3.out)).mono ?_
    rintro e w4 ⟨A5, c5, rfl, hI5, _, hb4⟩
    have HO4 := Lib.hid (HO3.out.ext hb4)
    have HE4 := Lib.hid (HE3.out.tr hb4)
    have HI5 := Lib.hid hI5
    clear hI5 hb4 HO3 HE3 CD
    obtain ⟨A8, c8, rfl, hi8, _⟩ := HO4.out.form
    have HI8 := Lib.hid hi8
    have hs8 := srt_len ns
    have hle8 : (srt ns).length ≤ 1048576 := by omega
    have heq : decide (srt ns = dnT h h.length) = l7v ns (dnT h h.length) := by
      rw [l7v_srt (dnT_nodup (h := h) h.length), srt_sorted (dnT_pw (h := h) h.length)]
    have HEq := Lib.hid heq
    clear hi8 hs8 HO4 heq
    go_wp2_with (fail)
    go_at_call 44
    refine (equalInt_c (srt ns) (dnT h h.length) _ _ _ _ _ _ _ HI8.out HI5.out hle8 (by omega)).mono ?_
    rintro e w7 ⟨rfl, hb7⟩
    have HE7 := Lib.hid (HE4.out.tr hb7)
    rw [HEq.out]
    clear hb7 HI8 HI5 HE4
    cases hp : l7v ns (dnT h h.length) with
    | false =>
      have HF : Hid (serV h ns = false) := Lib.hid (by simp [serV, hp])
      clear hp
      go_wp2
      go_ret
      exact ⟨ret_bool HF.out.symm, HE7.out⟩
    | true =>
      have HP := Lib.hid hp
      clear hp
      go_wp2
      have hB0 : Blk (w7.alloc (.cells #[.int .i64 0, .int .i64 0, .int .i64 0] 72)) w7.heap.size 72 (st3 fun _ => 0) := Blk.new _ _ _
      have HB0 := Lib.hid hB0
      have hw7 := HE7.out.size
      clear hB0
      go_loopw [22] (fun i wr => ∃ (k : Nat) (f' : Nat → Int), k ≤ ns.length ∧ i = .int .i64 k ∧ runH h (ns.take k) = some f' ∧ Blk wr w7.heap.size 72 (st3 f') ∧ Ext w wr) (fun i _ => ns.length - (intOf i).toNat)
      case atStart => exact ⟨0, fun _ => 0, Nat.zero_le _, rfl, rfl, HB0.out, HE7.out.tr (by (repeat' (first | (with_reducible exact Below.refl _ _) | (with_reducible refine Below.mono (by assumption) ?_) | (with_reducible refine Below.trans ?_ (Below.mono (by assumption) ?_)) | (with_reducible refine Below.alloc ?_ ?_ _) | (with_reducible refine Below.drew ?_) | (with_reducible refine below_drewN ?_ _) | (with_reducible refine Below.setCell ?_ ?_ _) | (simp only [World.size_alloc, World.size_setCell, World.size_drew, size_drewN]; omega) | omega)))⟩
      case round =>
        obtain ⟨k, f', hk, rfl, hrun, hB, hE⟩ := hrel
        have HRun := Lib.hid hrun
        have HBk := Lib.hid hB
        have HE := Lib.hid hE
        clear HB0 hrun hB hE
        by_cases hlt : k < ns.length
        · obtain ⟨n, b, off, hnk, rfl, _, hb0, c0⟩ := (HI.out.ext HE.out).at_ hlt
          obtain ⟨m, t, rfl, hml, htm, _⟩ := ser_mem HP.out hnk
          obtain ⟨s, ops, dn, A', cap, b2, off2, hxk, rfl, _, hb20, hOp, d0, d1, d2⟩ := (HXo.out.ext HE.out).at_ hml
          obtain ⟨hov, hol⟩ := HOp.out _ (List.mem_of_getElem? hxk)
          simp only at hov hol
          have hst := runH_take (h := h) hnk
          have hrt : runT h f' (m : Int) = runO f' ops := by
            unfold runT
            rw [Int.toNat_natCast, hxk]
          rw [HRun.out, Option.bind_some, hrt] at hst
          have HSt := Lib.hid hst
          have HOv := Lib.hid hov
          have HOp2 := Lib.hid hOp
          have hmi : (m : Int) < h.length := by omega
          have hki : (k : Int) < ns.length := by omega
          clear hnk htm hxk hst hrt hov hOp
          go_wp2_with (fail)
          go_at_call 49
          refine (follow_c f' s ops dn _ A' cap w7.heap.size _ HBk.out HOp2.out (by omega) HOv.out hol).mono ?_
          rintro e w8 ⟨bb, f2, rfl, hB2, hG2, ht2, hf2⟩
          have hE8 := grown_ext_new HE.out hw7 hG2
          have HE8 := Lib.hid hE8
          have HB8 := Lib.hid hB2
          have HT2 := Lib.hid ht2
          have HF2 := Lib.hid hf2
          clear hE8 hB2 ht2 hf2 hG2
          cases bb with
          | true =>
            have hrun2 : runH h (ns.take (k + 1)) = some f2 := by rw [HSt.out]; exact HT2.out rfl
            have HR2 := Lib.hid hrun2
            clear hrun2
            go_wp2
            exact ⟨⟨k + 1, f2, by omega, by go_num, HR2.out, HB8.out, HE8.out⟩, by simp [intOf]; omega⟩
          | false =>
            have hr0 : runH h ns = none := runH_stop (k := k + 1) (by rw [HSt.out]; exact HF2.out rfl)
            have HF : Hid (serV h ns = false) := Lib.hid (by simp [serV, hr0])
            clear hr0
            go_wp2
            go_ret
            exact ⟨ret_bool HF.out.symm, HE8.out⟩
        · obtain rfl : k = ns.length := by omega
          have hrun := HRun.out
          rw [List.take_length] at hrun
          have HF : Hid (serV h ns = true) := Lib.hid (by simp [serV, HVv.out, HP.out, hrun])
          clear hrun
          go_wp2
          go_ret
          exact ⟨ret_bool HF.out.symm, HE.out⟩
set_option maxHeartbeats 4000000 in
theorem l12Runs_c (h : List TxnT) (ns : List Int) (S S' : Nat → Prop) (A B : Option Addr) (c d : Nat) (w : World) (hx : Txns S w A h) (hsm : Small h) (hi : Ints S' w B ns) (hn : ns.length ≤ 1048576)
    (hm : ∀ (k : Nat) n, ns[k]? = some n → ∃ (m : Nat) (t : TxnT), n = m ∧ m < h.length ∧ h[m]? = some t ∧ (∀ o ∈ t.ops, opv o = true) ∧ t.ops.length ≤ 6) :
    Calls Tryd.prog 51 #[.slice A h.length c, .slice B ns.length d] w fun e w' => e = .returned (.bool (runH h ns).isSome) ∧ Ext w w' := by
  have HX := Lib.hid hx
  have HI := Lib.hid hi
  have HM := Lib.hid hm
  have hsl := hsm.len
  clear hx hi hm
  obtain ⟨i0, hi, hz0, hz1, hz2⟩ := info_parts info1
  have hmk : ∀ W : World, (Instr.makeSlice 41 (.int .i64 3) (.int .i64 3)).run Tryd.prog W = .ok (.slice (some ⟨W.heap.size, 0, none⟩) 3 3) (W.alloc (.cells #[.int .i64 0, .int .i64 0, .int .i64 0] 3)) := fun W => by
    have hq := run_make_rowN (P := Tryd.prog) 41 3 i0 _ Tryd.underlying41 hi hz0 .i64 .i64 3 3 (by omega) (by rw [hz2]; omega) (by omega) W
    rw [hz1, show madeCells (Value.int .i64 0).cells (3 * 1) = #[.int .i64 0, .int .i64 0, .int .i64 0] from by kernel_rfl] at hq
    exact hq
  clear hi hz0 hz1 hz2
  go_enter Tryd.func51, Tryd.ntmps51
  go_wp2
  clear hmk
  have HB0 := Lib.hid (show Blk (w.alloc (.cells #[.int .i64 0, .int .i64 0, .int .i64 0] 3)) w.heap.size 3 (st3 fun _ => 0) from Blk.new _ _ _)
  go_loopw [6] (fun i wr => ∃ (k : Nat) (f' : Nat → Int), k ≤ ns.length ∧ i = .int .i64 k ∧ runH h (ns.take k) = some f' ∧ Blk wr w.heap.size 3 (st3 f') ∧ Ext w wr) (fun i _ => ns.length - (intOf i).toNat)
  case atStart => exact ⟨0, fun _ => 0, Nat.zero_le _, rfl, rfl, HB0.out, by (repeat' (first | (with_reducible exact Below.refl _ _) | (with_reducible refine Below.mono (by assumption) ?_) | (with_reducible refine Below.trans ?_ (Below.mono (by assumption) ?_)) | (with_reducible refine Below.alloc ?_ ?_ _) | (with_reducible refine Below.drew ?_) | (with_reducible refine below_drewN ?_ _) | (with_reducible refine Below.setCell ?_ ?_ _) | (simp only [World.size_alloc, World.size_setCell, World.size_drew, size_drewN]; omega) | omega))⟩
  case round =>
    obtain ⟨k, f', hk, rfl, hrun, hB, hE⟩ := hrel
    have HRun := Lib.hid hrun
    have HBk := Lib.hid hB
    have HE := Lib.hid hE
    clear HB0 hrun hB hE
    by_cases hlt : k < ns.length
    · obtain ⟨n, b, off, hnk, rfl, _, hb0, c0⟩ := (HI.out.ext HE.out).at_ hlt
      obtain ⟨m, t, rfl, hml, htm, hov, hol⟩ := HM.out k n hnk
      obtain ⟨s, ops, dn, A', cap, b2, off2, hxk, rfl, _, hb20, hOp, d0', d1', d2'⟩ := HX.out.at_ hml
      rw [hxk] at htm
      cases htm
      simp only at hov hol
      have d1 := HE.out.keep hb20 d1'
      have hst := runH_take (h := h) hnk
      have hrt : runT h f' (m : Int) = runO f' ops := by
        unfold runT
        rw [Int.toNat_natCast, hxk]
      rw [HRun.out, Option.bind_some, hrt] at hst
      have HSt := Lib.hid hst
      have HOv := Lib.hid hov
      have HOp2 := Lib.hid hOp
      have hmi : (m : Int) < h.length := by omega
      have hki : (k : Int) < ns.length := by omega
      clear hnk hxk hst hrt hov hOp d0' d1' d2'
      obtain ⟨wo, rfl⟩ : ∃ wo : World, wo = wr := ⟨_, rfl⟩
      go_wp2
      go_loopw [8] (fun i W => ∃ (j : Nat) (f2 : Nat → Int), j ≤ ops.length ∧ i = .int .i64 j ∧ runO f' (ops.take j) = some f2 ∧ Blk W w.heap.size 3 (st3 f2) ∧ Ext w W) (fun i _ => ops.length - (intOf i).toNat)
      case atStart => exact ⟨0, f', Nat.zero_le _, rfl, rfl, HBk.out, HE.out⟩
      case round =>
        obtain ⟨j, f2, hj, rfl, hr2, hB2, hE2⟩ := hrel
        have HR2 := Lib.hid hr2
        have HB2 := Lib.hid hB2
        have HE2 := Lib.hid hE2
        clear hr2 hB2 hE2
        by_cases hlj : j < ops.length
        · obtain ⟨x0, x1, x2, b3, off3, hxj, rfl, _, hb3, c0', c1', c2'⟩ := HOp2.out.at_ hlj
          have c0 := HE2.out.keep hb3 c0'
          have c1 := HE2.out.keep hb3 c1'
          have c2 := HE2.out.keep hb3 c2'
          have hb3w := Nat.lt_of_lt_of_le hb3 HE2.out.size
          clear c0' c1' c2'
          obtain ⟨ha, hb1, hb2, hc1, hc2⟩ := opv_parts (HOv.out _ (List.mem_of_getElem? hxj))
          simp only at ha hb1 hb2 hc1 hc2
          obtain ⟨y, rfl⟩ := Int.eq_ofNat_of_zero_le hb1
          have hst := runO_take (f := f') hxj
          have hji : (j : Int) < ops.length := by omega
          have hy3 : y < 3 := by omega
          have hyi : (y : Int) < 3 := by omega
          have HSj := Lib.hid hst
          have cy := (HB2.out.cell y).trans (st3_get f2 hy3)
          have hfz := HB2.out.frozen
          have hgl := HB2.out.lt
          have hne3 : b3 ≠ w.heap.size := by omega
          have hset := HB2.out.set_ y (.int .i64 x2)
          rw [st3_set f2 hy3] at hset
          have HSet := Lib.hid hset
          clear hset
          clear hxj hst
          by_cases h2 : x0 = 2
          · subst h2
            have e1 : ((2 : Int) == 1) = false := rfl
            have hrs : runO f' (ops.take (j + 1)) = some (updS f2 y x2) := by
              rw [HSj.out, HR2.out]
              simp [stepS]
            have HRs := Lib.hid hrs
            clear hrs HSj
            go_wp2
            go_big_quiet (fail)
            go_wp2
            go_region_held3 (fun V => V.cell? ⟨b3, off3 + j * 3 + 1, none⟩ = some (.int .i64 (y : Int)) ∧ V.cell? ⟨b3, off3 + j * 3 + 2, none⟩ = some (.int .i64 x2)) (first | go_keep | (refine ⟨?_, ?_⟩ <;> (rw [World.cell?_setCell_other _ _ _ _ (by first | (simp; done) | (simp; omega))]; assumption))) (fail)
            all_goals go_wp2
            all_goals
              have hE2 := HE2.out
              exact ⟨⟨j + 1, updS f2 y x2, by omega, by go_num, HRs.out, HSet.out, by (repeat' (first | (with_reducible exact Below.refl _ _) | (with_reducible refine Below.mono (by assumption) ?_) | (with_reducible refine Below.trans ?_ (Below.mono (by assumption) ?_)) | (with_reducible refine Below.alloc ?_ ?_ _) | (with_reducible refine Below.drew ?_) | (with_reducible refine below_drewN ?_ _) | (with_reducible refine Below.setCell ?_ ?_ _) | (simp only [World.size_alloc, World.size_setCell, World.size_drew, size_drewN]; omega) | omega))⟩, by simp [intOf]; omega⟩
          · have h1 : x0 = 1 := by omega
            subst h1
            have e1 : ((1 : Int) == 1) = true := rfl
            by_cases he : f2 y = x2
            · have hen : (f2 y != x2) = false := by simpa using he
              have hrs : runO f' (ops.take (j + 1)) = some (updS f2 y x2) := by
                rw [HSj.out, HR2.out, upd_self he]
                simp [stepS, he]
              have HRs := Lib.hid hrs
              clear hrs HSj he h2
              go_wp2
              go_big_quiet (fail)
              go_wp2
              go_region_held3 (fun V => V.cell? ⟨b3, off3 + j * 3 + 1, none⟩ = some (.int .i64 (y : Int)) ∧ V.cell? ⟨b3, off3 + j * 3 + 2, none⟩ = some (.int .i64 x2)) (first | go_keep | (refine ⟨?_, ?_⟩ <;> (rw [World.cell?_setCell_other _ _ _ _ (by first | (simp; done) | (simp; omega))]; assumption))) (fail)
              all_goals go_wp2
              all_goals
                have hE2 := HE2.out
                exact ⟨⟨j + 1, updS f2 y x2, by omega, by go_num, HRs.out, HSet.out, by (repeat' (first | (with_reducible exact Below.refl _ _) | (with_reducible refine Below.mono (by assumption) ?_) | (with_reducible refine Below.trans ?_ (Below.mono (by assumption) ?_)) | (with_reducible refine Below.alloc ?_ ?_ _) | (with_reducible refine Below.drew ?_) | (with_reducible refine below_drewN ?_ _) | (with_reducible refine Below.setCell ?_ ?_ _) | (simp only [World.size_alloc, World.size_setCell, World.size_drew, size_drewN]; omega) | omega))⟩, by simp [intOf]; omega⟩
            · have hen : (f2 y != x2) = true := by simpa using he
              have hrs : runO f' ops = none := by
                refine runO_stop (k := j + 1) ?_
                rw [HSj.out, HR2.out]
                simp [stepS, he]
              have hr0 : runH h ns = none := runH_stop (k := k + 1) (by rw [HSt.out]; exact hrs)
              have HF : Hid ((runH h ns).isSome = false) := Lib.hid (by rw [hr0]; rfl)
              clear hrs hr0 HSj he h2
              go_wp2
              go_big_quiet (fail)
              go_wp2
              go_ret
              exact ⟨ret_bool HF.out.symm, below_drewN HE2.out _⟩
        · obtain rfl : j = ops.length := by omega
          have hr2 := HR2.out
          rw [List.take_length] at hr2
          have hrun2 : runH h (ns.take (k + 1)) = some f2 := by rw [HSt.out]; exact hr2
          have HRn := Lib.hid hrun2
          clear hr2 hrun2
          go_wp2
          exact ⟨⟨k + 1, f2, by omega, by go_num, HRn.out, HB2.out, HE2.out⟩, by simp [intOf]; omega⟩
    · obtain rfl : k = ns.length := by omega
      have hrun := HRun.out
      rw [List.take_length] at hrun
      have HF : Hid ((runH h ns).isSome = true) := Lib.hid (by rw [hrun]; rfl)
      clear hrun
      go_wp2
      go_ret
      exact ⟨ret_bool HF.out.symm, HE.out⟩
set_option maxHeartbeats 2000000 in
theorem specSerialRight_c (h : List TxnT) (ns : List Int) (S S' : Nat → Prop) (A B : Option Addr) (c d : Nat) (w : World) (hx : Txns S w A h) (hsm : Small h) (hi : Ints S' w B ns) (hn : ns.length ≤ 1048576) :
    Calls Tryd.prog 19 #[.slice A h.length c, .slice B ns.length d] w fun e w' => e = .returned (.bool (serV h ns)) ∧ Ext w w' := by
  have CV := Lib.hid (fun w hx => specHistoryValid_c h S A c w hx hsm)
  have CD := Lib.hid (fun w hx => specDoneTxns_c h S A c w hx hsm)
  have HX := Lib.hid hx
  have HI := Lib.hid hi
  have hdl := dnT_len h h.length
  have hsl := hsm.len
  clear hx hi
  cases hv : histv h with
  | false =>
    have HF : Hid (serV h ns = false) := Lib.hid (by simp [serV, hv])
    have CV2 := CV.out
    rw [hv] at CV2
    have CV2 := Lib.hid CV2
    clear hv CV CD
    go_enter Tryd.func19, Tryd.ntmps19
    go_wp2_with (fail)
    go_at_call 26
    refine (CV2.out _ (HX.out.ext (by (repeat' (first | (with_reducible exact Below.refl _ _) | (with_reducible refine Below.mono (by assumption) ?_) | (with_reducible refine Below.trans ?_ (Below.mono (by assumption) ?_)) | (with_reducible refine Below.alloc ?_ ?_ _) | (with_reducible refine Below.drew ?_) | (with_reducible refine below_drewN ?_ _) | (with_reducible refine Below.setCell ?_ ?_ _) | (simp only [World.size_alloc, World.size_setCell, World.size_drew, size_drewN]; omega) | omega))))).mono ?_
    rintro e w1 ⟨rfl, hb⟩
    obtain ⟨hc, hf, hz, hs⟩ := bcell hb
    (try simp only [World.size_alloc, World.size_setCell, World.size_drew, size_drewN] at hs); (first | have l0 := Nat.lt_of_lt_of_le l0 (show _ ≤ w1.heap.size by omega) | have l0 : w.heap.size < w1.heap.size := (by omega) | skip); (try have l0e := Nat.le_of_lt l0); (try have l0f := Nat.le_add_right_of_le (k := 1) l0e); (try have l1 := Nat.lt_of_lt_of_le l1 (show _ ≤ w1.heap.size by omega)); (try have l1e := Nat.le_of_lt l1); (try have l1f := Nat.le_add_right_of_le (k := 1) l1e); (try have l2 := Nat.lt_of_lt_of_le l2 (show _ ≤ w1.heap.size by omega)); (try have l2e := Nat.le_of_lt l2); (try have l2f := Nat.le_add_right_of_le (k := 1) l2e); (try have l3 := Nat.lt_of_lt_of_le l3 (show _ ≤ w1.heap.size by omega)); (try have l3e := Nat.le_of_lt l3); (try have l3f := Nat.le_add_right_of_le (k := 1) l3e)
    go_wp2
    go_ret
    exact ⟨ret_bool HF.out.symm, by (repeat' (first | (with_reducible exact Below.refl _ _) | (with_reducible refine Below.mono (by assumption) ?_) | (with_reducible refine Below.trans ?_ (Below.mono (by assumption) ?_)) | (with_reducible refine Below.alloc ?_ ?_ _) | (with_reducible refine Below.drew ?_) | (with_reducible refine below_drewN ?_ _) | (with_reducible refine Below.setCell ?_ ?_ _) | (simp only [World.size_alloc, World.size_setCell, World.size_drew, size_drewN]; omega) | omega))⟩
  | true =>
    have CV2 := CV.out
    have CD2 := CD.out
    rw [hv] at CV2
    simp only [hv, if_true] at CD2
    have CV2 := Lib.hid CV2
    have CD2 := Lib.hid CD2
    have HVv := Lib.hid hv
    clear hv CV CD
    go_enter Tryd.func19, Tryd.ntmps19
    go_wp2_with (fail)
    go_at_call 26
    refine (CV2.out _ (HX.out.ext (by (repeat' (first | (with_reducible exact Below.refl _ _) | (with_reducible refine Below.mono (by assumption) ?_) | (with_reducible refine Below.trans ?_ (Below.mono (by assumption) ?_)) | (with_reducible refine Below.alloc ?_ ?_ _) | (with_reducible refine Below.drew ?_) | (with_reducible refine below_drewN ?_ _) | (with_reducible refine Below.setCell ?_ ?_ _) | (simp only [World.size_alloc, World.size_setCell, World.size_drew, size_drewN]; omega) | omega))))).mono ?_
    rintro e w1 ⟨rfl, hb⟩
    obtain ⟨hc, hf, hz, hs⟩ := bcell hb
    (try simp only [World.size_alloc, World.size_setCell, World.size_drew, size_drewN] at hs); (first | have l0 := Nat.lt_of_lt_of_le l0 (show _ ≤ w1.heap.size by omega) | have l0 : w.heap.size < w1.heap.size := (by omega) | skip); (try have l0e := Nat.le_of_lt l0); (try have l0f := Nat.le_add_right_of_le (k := 1) l0e); (try have l1 := Nat.lt_of_lt_of_le l1 (show _ ≤ w1.heap.size by omega)); (try have l1e := Nat.le_of_lt l1); (try have l1f := Nat.le_add_right_of_le (k := 1) l1e); (try have l2 := Nat.lt_of_lt_of_le l2 (show _ ≤ w1.heap.size by omega)); (try have l2e := Nat.le_of_lt l2); (try have l2f := Nat.le_add_right_of_le (k := 1) l2e); (try have l3 := Nat.lt_of_lt_of_le l3 (show _ ≤ w1.heap.size by omega)); (try have l3e := Nat.le_of_lt l3); (try have l3f := Nat.le_add_right_of_le (k := 1) l3e)
    have HE1 := Lib.hid (show Ext w w1 by (repeat' (first | (with_reducible exact Below.refl _ _) | (with_reducible refine Below.mono (by assumption) ?_) | (with_reducible refine Below.trans ?_ (Below.mono (by assumption) ?_)) | (with_reducible refine Below.alloc ?_ ?_ _) | (with_reducible refine Below.drew ?_) | (with_reducible refine below_drewN ?_ _) | (with_reducible refine Below.setCell ?_ ?_ _) | (simp only [World.size_alloc, World.size_setCell, World.size_drew, size_drewN]; omega) | omega)))
    clear hc hf hz hb CV2
    go_wp2_with (fail)
    go_at_call 50
    refine (CD2.out _ (HX.out.ext HE1.out)).mono ?_
    rintro e w2 ⟨A5, c5, rfl, hI5, _, hb⟩
    obtain ⟨hc, hf, hz, hs⟩ := bcell hb
    (try simp only [World.size_alloc, World.size_setCell, World.size_drew, size_drewN] at hs); (first | have l0 := Nat.lt_of_lt_of_le l0 (show _ ≤ w2.heap.size by omega) | have l0 : w.heap.size < w2.heap.size := (by omega) | skip); (try have l0e := Nat.le_of_lt l0); (try have l0f := Nat.le_add_right_of_le (k := 1) l0e); (try have l1 := Nat.lt_of_lt_of_le l1 (show _ ≤ w2.heap.size by omega)); (try have l1e := Nat.le_of_lt l1); (try have l1f := Nat.le_add_right_of_le (k := 1) l1e); (try have l2 := Nat.lt_of_lt_of_le l2 (show _ ≤ w2.heap.size by omega)); (try have l2e := Nat.le_of_lt l2); (try have l2f := Nat.le_add_right_of_le (k := 1) l2e); (try have l3 := Nat.lt_of_lt_of_le l3 (show _ ≤ w2.heap.size by omega)); (try have l3e := Nat.le_of_lt l3); (try have l3f := Nat.le_add_right_of_le (k := 1) l3e)
    have HI5 := Lib.hid hI5
    have HE2 := Lib.hid (HE1.out.tr hb)
    clear hI5 hc hf hz hb CD2
    go_wp2_with (fail)
    go_at_call 45
    refine (l7Same_c ns (dnT h h.length) _ _ _ _ _ _ _ (HI.out.ext HE2.out) HI5.out hn (by omega)).mono ?_
    rintro e w3 ⟨rfl, hb⟩
    obtain ⟨hc, hf, hz, hs⟩ := bcell hb
    (try simp only [World.size_alloc, World.size_setCell, World.size_drew, size_drewN] at hs); (first | have l0 := Nat.lt_of_lt_of_le l0 (show _ ≤ w3.heap.size by omega) | have l0 : w.heap.size < w3.heap.size := (by omega) | skip); (try have l0e := Nat.le_of_lt l0); (try have l0f := Nat.le_add_right_of_le (k := 1) l0e); (try have l1 := Nat.lt_of_lt_of_le l1 (show _ ≤ w3.heap.size by omega)); (try have l1e := Nat.le_of_lt l1); (try have l1f := Nat.le_add_right_of_le (k := 1) l1e); (try have l2 := Nat.lt_of_lt_of_le l2 (show _ ≤ w3.heap.size by omega)); (try have l2e := Nat.le_of_lt l2); (try have l2f := Nat.le_add_right_of_le (k := 1) l2e); (try have l3 := Nat.lt_of_lt_of_le l3 (show _ ≤ w3.heap.size by omega)); (try have l3e := Nat.le_of_lt l3); (try have l3f := Nat.le_add_right_of_le (k := 1) l3e)
    have HE3 := Lib.hid (HE2.out.tr hb)
    clear hc hf hz hb HI5
    cases hp : l7v ns (dnT h h.length) with
    | false =>
      have HF : Hid (serV h ns = false) := Lib.hid (by simp [serV, hp])
      clear hp
      go_wp2
      go_ret
      exact ⟨ret_bool HF.out.symm, HE3.out⟩
    | true =>
      have hms : ∀ (k : Nat) n, ns[k]? = some n → ∃ (m : Nat) (t : TxnT), n = m ∧ m < h.length ∧ h[m]? = some t ∧ (∀ o ∈ t.ops, opv o = true) ∧ t.ops.length ≤ 6 := fun k n hk => by
        obtain ⟨m, t, e1, e2, e3, _⟩ := ser_mem hp hk
        have ht := histv_txn HVv.out t (List.mem_of_getElem? e3)
        exact ⟨m, t, e1, e2, e3, txnv_opv ht, txnv_len ht⟩
      have HMs := Lib.hid hms
      have hs : serV h ns = (runH h ns).isSome := by simp [serV, HVv.out, hp]
      have HS := Lib.hid hs
      clear hp hms hs
      go_wp2_with (fail)
      go_at_call 51
      refine (l12Runs_c h ns _ _ _ _ _ _ _ (HX.out.ext HE3.out) hsm (HI.out.ext HE3.out) hn HMs.out).mono ?_
      rintro e w4 ⟨rfl, hb⟩
      obtain ⟨hc, hf, hz, hs⟩ := bcell hb
      (try simp only [World.size_alloc, World.size_setCell, World.size_drew, size_drewN] at hs); (first | have l0 := Nat.lt_of_lt_of_le l0 (show _ ≤ w4.heap.size by omega) | have l0 : w.heap.size < w4.heap.size := (by omega) | skip); (try have l0e := Nat.le_of_lt l0); (try have l0f := Nat.le_add_right_of_le (k := 1) l0e); (try have l1 := Nat.lt_of_lt_of_le l1 (show _ ≤ w4.heap.size by omega)); (try have l1e := Nat.le_of_lt l1); (try have l1f := Nat.le_add_right_of_le (k := 1) l1e); (try have l2 := Nat.lt_of_lt_of_le l2 (show _ ≤ w4.heap.size by omega)); (try have l2e := Nat.le_of_lt l2); (try have l2f := Nat.le_add_right_of_le (k := 1) l2e); (try have l3 := Nat.lt_of_lt_of_le l3 (show _ ≤ w4.heap.size by omega)); (try have l3e := Nat.le_of_lt l3); (try have l3f := Nat.le_add_right_of_le (k := 1) l3e)
      have HE4 := Lib.hid (HE3.out.tr hb)
      clear hc hf hz hb
      go_wp2
      go_ret
      exact ⟨ret_bool HS.out.symm, HE4.out⟩
end Go.Proofs.YtdgfipoibnjhaaaDoor
