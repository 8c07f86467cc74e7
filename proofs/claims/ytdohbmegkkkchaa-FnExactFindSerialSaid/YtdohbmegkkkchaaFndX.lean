/-
  The program's FindSerial: the recursive closure walked.
-/
import Derived.Test.YtdohbmegkkkchaaFndW
namespace Go.Proofs.Ytdohbmegkkkchaa
set_option linter.unusedSimpArgs false
set_option linter.unusedVariables false
set_option maxRecDepth 100000
open Go.RowKit

/-- what a search from a beginning hands back -/
abbrev FromQ (h : List TxnT) (w0 : World) (B : FB) (A : Option Addr) (c : Nat) (Da : Option Addr) (all : List Int) (ca n : Nat) (v : Value) (pre : List Int) (W : World) (e : Ending) (W' : World) : Prop :=
  ∃ b, e = .returned (.bool b) ∧ (b = true → fnd h all n pre = none ∧ ∃ v', (∃ q, v'.ownBlock = some q) ∧ FSt w0 B A h.length c Da all ca (.func (.func 51) #[] #[.pointer (some ⟨B.bfo, 0, none⟩), .pointer (some ⟨B.bok, 0, none⟩)]) (.func (.func 26) #[] #[]) (.func (.func 67) #[] #[.pointer (some ⟨B.bo, 0, none⟩), .pointer (some ⟨B.ba, 0, none⟩), .pointer (some ⟨B.bc, 0, none⟩), .pointer (some ⟨B.bl, 0, none⟩), .pointer (some ⟨B.bh, 0, none⟩), .pointer (some ⟨B.bf, 0, none⟩)]) v' pre W' ∧ Kp B v v' W W') ∧ (b = false → ∃ ys, fnd h all n pre = some ys ∧ FEnd w0 B ys W')
set_option maxHeartbeats 8000000 in
theorem from_c (h : List TxnT) (hsm : Small h) (hh6 : h.length ≤ 6) (all : List Int) (hal : all.length ≤ 6) (hdf : ∀ n, n ∈ all → ∃ (m : Nat) (t : TxnT), n = m ∧ m < h.length ∧ h[m]? = some t ∧ (∀ o ∈ t.ops, opv o = true) ∧ t.ops.length ≤ 6)
    (w0 : World) (B : FB) (hB : B.ok) (A : Option Addr) (c : Nat) (Da : Option Addr) (ca : Nat) (hx0 : Txns (fun b => b < w0.heap.size) w0 A h) :
    ∀ (n : Nat) (pre : List Int) (f : Nat → Int) (g : Nat) (v : Value) (W : World), pre.length + n = all.length → runH h pre = some f → g < 64 → (∀ j : Nat, j < 6 → g.testBit j = decide ((j : Int) ∈ pre)) → (∃ q, v.ownBlock = some q) →
    FSt w0 B A h.length c Da all ca (.func (.func 51) #[] #[.pointer (some ⟨B.bfo, 0, none⟩), .pointer (some ⟨B.bok, 0, none⟩)]) (.func (.func 26) #[] #[]) (.func (.func 67) #[] #[.pointer (some ⟨B.bo, 0, none⟩), .pointer (some ⟨B.ba, 0, none⟩), .pointer (some ⟨B.bc, 0, none⟩), .pointer (some ⟨B.bl, 0, none⟩), .pointer (some ⟨B.bh, 0, none⟩), .pointer (some ⟨B.bf, 0, none⟩)]) v pre W →
    Calls Try.prog 67 #[.agg (st3 f), .int .u64 (g : Int), .pointer (some ⟨B.bo, 0, none⟩), .pointer (some ⟨B.ba, 0, none⟩), .pointer (some ⟨B.bc, 0, none⟩), .pointer (some ⟨B.bl, 0, none⟩), .pointer (some ⟨B.bh, 0, none⟩), .pointer (some ⟨B.bf, 0, none⟩)] W (FromQ h w0 B A c Da all ca n v pre W) := by
  intro n
  induction n with
  | zero =>
    intro pre f g v W hpl hrun hg hbit hv s
    obtain ⟨Ao, co, rfl, hI, hf⟩ := s.own.form
    have hpp : pre.length = all.length := by omega
    have o0 : W.cell? ⟨B.bo, 0, none⟩ = some (.slice Ao pre.length co) := (s.bo.cell 0).trans rfl
    have a0 := s.ba
    have c0 := s.bc
    have hz := s.bz
    have h3 := hB.c
    have hol := s.bo.lt
    have heq : ((pre.length : Int) == (all.length : Int)) = true := by rw [hpp]; simp
    have CF := fun W s => found_c w0 B A h.length c Da all ca (.func (.func 51) #[] #[.pointer (some ⟨B.bfo, 0, none⟩), .pointer (some ⟨B.bok, 0, none⟩)]) (.func (.func 26) #[] #[]) (.func (.func 67) #[] #[.pointer (some ⟨B.bo, 0, none⟩), .pointer (some ⟨B.ba, 0, none⟩), .pointer (some ⟨B.bc, 0, none⟩), .pointer (some ⟨B.bl, 0, none⟩), .pointer (some ⟨B.bh, 0, none⟩), .pointer (some ⟨B.bf, 0, none⟩)]) (.slice Ao pre.length co) pre W hB s hv (by omega)
    have CF := Lib.hid CF
    have HS := Lib.hid s
    have HPp := Lib.hid hpp
    have hal2 : B.ba < W.heap.size := by have := hB.a; omega
    have hal3 : B.bc < W.heap.size := by omega
    clear s hI hf hv hpp hpl
    go_enter Try.func67, Try.ntmps67
    go_wp2_with (fail)
    go_at_call 51
    refine (CF.out _ (HS.out.to hB (by (repeat' (first | (with_reducible exact Below.refl _ _) | (with_reducible refine Below.mono (by assumption) ?_) | (with_reducible refine Below.trans ?_ (Below.mono (by assumption) ?_)) | (with_reducible refine Below.alloc ?_ ?_ _) | (with_reducible refine Below.drew ?_) | (with_reducible refine below_drewN ?_ _) | (with_reducible refine Below.setCell ?_ ?_ _) | (simp only [World.size_alloc, World.size_setCell, World.size_drew, size_drewN]; omega) | omega))))).mono ?_
    rintro e w2 ⟨rfl, hF⟩
    have HF := Lib.hid hF
    clear hF
    go_wp2
    go_ret
    exact ⟨false, rfl, (fun h => by cases h), fun _ => ⟨pre, rfl, HF.out⟩⟩
  | succ n ih =>
    intro pre f g v W hpl hrun hg hbit hv s
    have hz := s.bz
    have hol := s.bo.lt
    have hfl := s.fl
    have hBa := hB.a; have hBh := hB.h; have hBc := hB.c; have hBl := hB.l
    obtain ⟨Ao, co, rfl, _, _⟩ := s.own.form
    have o0 : W.cell? ⟨B.bo, 0, none⟩ = some (.slice Ao pre.length co) := (s.bo.cell 0).trans rfl
    have a0 := s.ba
    have hne : ((pre.length : Int) == (all.length : Int)) = false := beq_eq_false_iff_ne.2 (by omega)
    have hba : B.ba < W.heap.size := by omega
    have HS := Lib.hid s
    have HV := Lib.hid hv
    have HRun := Lib.hid hrun
    have HBit := Lib.hid hbit
    have HD := Lib.hid hdf
    have HX := Lib.hid hx0
    have HIh := Lib.hid ih
    have hlow := s.low
    have hr2 := fun x => (runH_snoc h pre x).trans (by rw [hrun]; rfl : _ = runT h f x)
    have HR2 := Lib.hid hr2
    have hfn : fnd h all (n + 1) pre = all.findSome? fun x => if x ∈ pre then none else if (runH h (pre ++ [x])).isSome = true then fnd h all n (pre ++ [x]) else none := rfl
    have HFn := Lib.hid hfn
    have hEb : Ext W (W.alloc (.cells (st3 f) 94)) := by (repeat' (first | (with_reducible exact Below.refl _ _) | (with_reducible refine Below.mono (by assumption) ?_) | (with_reducible refine Below.trans ?_ (Below.mono (by assumption) ?_)) | (with_reducible refine Below.alloc ?_ ?_ _) | (with_reducible refine Below.drew ?_) | (with_reducible refine below_drewN ?_ _) | (with_reducible refine Below.setCell ?_ ?_ _) | (simp only [World.size_alloc, World.size_setCell, World.size_drew, size_drewN]; omega) | omega))
    have hnbo : (Value.slice Ao pre.length co).ownBlock ≠ some W.heap.size := fun e => by
      have := (World.ownsRow.lt s.own _ e).2
      omega
    clear s hv hrun hbit hdf hx0 ih hr2 hfn
    go_enter Try.func67, Try.ntmps67
    go_wp2
    go_loopw [24] (fun i wr => ∃ (k : Nat) (v' : Value), k ≤ all.length ∧ i = .int .i64 k ∧ (∃ q, v'.ownBlock = some q) ∧ FSt w0 B A h.length c Da all ca (.func (.func 51) #[] #[.pointer (some ⟨B.bfo, 0, none⟩), .pointer (some ⟨B.bok, 0, none⟩)]) (.func (.func 26) #[] #[]) (.func (.func 67) #[] #[.pointer (some ⟨B.bo, 0, none⟩), .pointer (some ⟨B.ba, 0, none⟩), .pointer (some ⟨B.bc, 0, none⟩), .pointer (some ⟨B.bl, 0, none⟩), .pointer (some ⟨B.bh, 0, none⟩), .pointer (some ⟨B.bf, 0, none⟩)]) v' pre wr ∧ Kp B (.slice Ao pre.length co) v' (W.alloc (.cells (st3 f) 94)) wr ∧ (∀ (j : Nat) y, j < k → all[j]? = some y → (if y ∈ pre then none else if (runH h (pre ++ [y])).isSome = true then fnd h all n (pre ++ [y]) else none) = none)) (fun i _ => all.length - (intOf i).toNat)
    case atStart => exact ⟨0, _, Nat.zero_le _, rfl, HV.out, HS.out.to hB (by (repeat' (first | (with_reducible exact Below.refl _ _) | (with_reducible refine Below.mono (by assumption) ?_) | (with_reducible refine Below.trans ?_ (Below.mono (by assumption) ?_)) | (with_reducible refine Below.alloc ?_ ?_ _) | (with_reducible refine Below.drew ?_) | (with_reducible refine below_drewN ?_ _) | (with_reducible refine Below.setCell ?_ ?_ _) | (simp only [World.size_alloc, World.size_setCell, World.size_drew, size_drewN]; omega) | omega))), Kp.refl _ _ _, fun j y hj => by omega⟩
    case round =>
      obtain ⟨k, v', hk, rfl, hv', hst, hkp, hno⟩ := hrel
      have HNo := Lib.hid hno
      have HKp := Lib.hid hkp
      have HV' := Lib.hid hv'
      have HSt := Lib.hid hst
      clear hno hv' o0 a0
      by_cases hlt : k < all.length
      rotate_left
      · obtain rfl : k = all.length := by omega
        have HN := Lib.hid (HFn.out.trans (none_all (fun j y hy => HNo.out j y (List.getElem?_eq_some_iff.1 hy).1 hy)))
        have HKq := Lib.hid (HKp.out.old hEb)
        clear hkp hst
        go_wp2
        go_ret
        exact ⟨true, rfl, (fun _ => ⟨HN.out, v', HV'.out, HSt.out, HKq.out⟩), fun h => by cases h⟩
      obtain ⟨x, bd, offd, hxk, rfl, hbd, hbdl, cd⟩ := hst.D.at_ hlt
      obtain ⟨m, t, rfl, hml, hmt, hmo, hm6⟩ := HD.out x (List.mem_of_getElem? hxk)
      have hm : m < 6 := by omega
      have hki : (k : Int) < all.length := by omega
      have HXk := Lib.hid hxk
      have sB : Blk wr W.heap.size 94 (st3 f) := (hkp.keep W.heap.size (by simp) (by omega) (fun e => hnbo e.symm)).trans (Blk.new W 94 (st3 f))
      have s0 : wr.cell? ⟨W.heap.size, 0, none⟩ = some (.int .i64 (f 0)) := (sB.cell 0).trans rfl
      have s1 : wr.cell? ⟨W.heap.size, 1, none⟩ = some (.int .i64 (f 1)) := (sB.cell 1).trans rfl
      have s2 : wr.cell? ⟨W.heap.size, 2, none⟩ = some (.int .i64 (f 2)) := (sB.cell 2).trans rfl
      have hzr := hst.bz
      have hsbl := sB.lt
      have hg0 : g >>> m < 64 := Nat.lt_of_le_of_lt (Nat.shiftRight_le _ _) hg
      have hbv := bit_val (HBit.out m hm)
      have hb1 := hst.bl
      have hb2 := hst.bh
      have hbl1 : B.bl < wr.heap.size := by omega
      have hbl2 : B.bh < wr.heap.size := by omega
      by_cases hin : (m : Int) ∈ pre
      · rw [if_pos (decide_eq_true hin)] at hbv
        have hbt : bits .and .u64 ((g : Int) / 2 ^ m) 1 = 1 := by
          rw [show (g : Int) / 2 ^ m = ((g >>> m : Nat) : Int) from by rw [Nat.shiftRight_eq_div_pow]; simp]
          exact (bits_and_u64 (g >>> m) 1 (by omega) (by omega)).trans (by rw [hbv]; rfl)
        have HN2 := Lib.hid (show ∀ (j : Nat) y, j < k + 1 → all[j]? = some y → (if y ∈ pre then none else if (runH h (pre ++ [y])).isSome = true then fnd h all n (pre ++ [y]) else none) = none from fun j y hj hy => by
          by_cases e : j = k
          · subst e
            rw [HXk.out] at hy
            cases hy
            rw [if_pos hin]
          · exact HNo.out j y (by omega) hy)
        clear hxk hkp hst hin hbv hmt hmo
        go_wp2
        go_roundw
        case measure => simp [intOf]; omega
        case rel => exact ⟨k + 1, v', by omega, by go_num, HV'.out, HSt.out.to hB (by (repeat' (first | (with_reducible exact Below.refl _ _) | (with_reducible refine Below.mono (by assumption) ?_) | (with_reducible refine Below.trans ?_ (Below.mono (by assumption) ?_)) | (with_reducible refine Below.alloc ?_ ?_ _) | (with_reducible refine Below.drew ?_) | (with_reducible refine below_drewN ?_ _) | (with_reducible refine Below.setCell ?_ ?_ _) | (simp only [World.size_alloc, World.size_setCell, World.size_drew, size_drewN]; omega) | omega))), HKp.out.ext (by (repeat' (first | (with_reducible exact Below.refl _ _) | (with_reducible refine Below.mono (by assumption) ?_) | (with_reducible refine Below.trans ?_ (Below.mono (by assumption) ?_)) | (with_reducible refine Below.alloc ?_ ?_ _) | (with_reducible refine Below.drew ?_) | (with_reducible refine below_drewN ?_ _) | (with_reducible refine Below.setCell ?_ ?_ _) | (simp only [World.size_alloc, World.size_setCell, World.size_drew, size_drewN]; omega) | omega))), HN2.out⟩
      rw [if_neg (by simpa using hin)] at hbv
      have hbt : bits .and .u64 ((g : Int) / 2 ^ m) 1 = 0 := by
          rw [show (g : Int) / 2 ^ m = ((g >>> m : Nat) : Int) from by rw [Nat.shiftRight_eq_div_pow]; simp]
          exact (bits_and_u64 (g >>> m) 1 (by omega) (by omega)).trans (by rw [hbv]; rfl)
      have HIn := Lib.hid hin
      obtain ⟨s9, ops, dn, A', cap, b, off, hxm, rfl, _, hb0, hOp, c0w, c1w, c2w⟩ := HX.out.at_ hml
      rw [hmt] at hxm
      cases hxm
      simp only at hmo hm6
      have c0 := hst.ext.keep hb0 c0w
      have c1 := hst.ext.keep hb0 c1w
      have c2 := hst.ext.keep hb0 c2w
      have hbw : b < wr.heap.size := by have := hst.ext.size; omega
      have hmi : (m : Int) < h.length := by omega
      have hnB : Blk (wr.alloc (.cells #[.int .i64 (f 0), .int .i64 (f 1), .int .i64 (f 2)] 94)) wr.heap.size 94 (st3 f) := Blk.new wr 94 (st3 f)
      have hrt : runT h f (m : Int) = runO f ops := by unfold runT; rw [Int.toNat_natCast, hmt]
      have HRt := Lib.hid hrt
      have HOp := Lib.hid hOp
      have HMo := Lib.hid hmo
      have CF := fun W hB hO => follow_c f s9 ops dn (fun b => b < w0.heap.size) A' cap wr.heap.size W hB hO (by show ¬ wr.heap.size < w0.heap.size; have := hst.ext.size; omega) hmo hm6
      have CF := Lib.hid CF
      clear hbv hxk hin hmt hmo hOp hrt hkp
      go_wp2_with (fail)
      go_at_call 26
      refine (anyone_c _ _ _).mono ?_
      rintro e w2 ⟨rfl, rfl⟩
      go_wp2_with (fail)
      go_at_call 68
      refine (CF.out _ hnB (HOp.out.ext (HSt.out.ext.tr (by (repeat' (first | (with_reducible exact Below.refl _ _) | (with_reducible refine Below.mono (by assumption) ?_) | (with_reducible refine Below.trans ?_ (Below.mono (by assumption) ?_)) | (with_reducible refine Below.alloc ?_ ?_ _) | (with_reducible refine Below.drew ?_) | (with_reducible refine below_drewN ?_ _) | (with_reducible refine Below.setCell ?_ ?_ _) | (simp only [World.size_alloc, World.size_setCell, World.size_drew, size_drewN]; omega) | omega)))))).mono ?_
      rintro e w2 ⟨bb, f', rfl, hB2, hG2, ht, hf⟩
      have hE2 : Ext wr w2 := grown_ext_new (show Ext wr (wr.alloc (.cells #[.int .i64 (f 0), .int .i64 (f 1), .int .i64 (f 2)] 94)) by (repeat' (first | (with_reducible exact Below.refl _ _) | (with_reducible refine Below.mono (by assumption) ?_) | (with_reducible refine Below.trans ?_ (Below.mono (by assumption) ?_)) | (with_reducible refine Below.alloc ?_ ?_ _) | (with_reducible refine Below.drew ?_) | (with_reducible refine below_drewN ?_ _) | (with_reducible refine Below.setCell ?_ ?_ _) | (simp only [World.size_alloc, World.size_setCell, World.size_drew, size_drewN]; omega) | omega))) (Nat.le_refl _) hG2
      cases bb with
      | false =>
        have hrn : (runH h (pre ++ [(m : Int)])).isSome = false := by rw [HR2.out, HRt.out, hf rfl]; rfl
        have HN2 := Lib.hid (show ∀ (j : Nat) y, j < k + 1 → all[j]? = some y → (if y ∈ pre then none else if (runH h (pre ++ [y])).isSome = true then fnd h all n (pre ++ [y]) else none) = none from fun j y hj hy => by
          by_cases e : j = k
          · subst e
            rw [HXk.out] at hy
            cases hy
            rw [if_neg HIn.out, hrn]
            rfl
          · exact HNo.out j y (by omega) hy)
        have HE2 := Lib.hid hE2
        clear ht hf hG2 hB2 hE2 hrn hst
        go_wp2
        go_roundw
        case measure => simp [intOf]; omega
        case rel => exact ⟨k + 1, v', by omega, by go_num, HV'.out, HSt.out.to hB HE2.out, HKp.out.ext HE2.out, HN2.out⟩
      | true =>
        have hrs : runH h (pre ++ [(m : Int)]) = some f' := by rw [HR2.out, HRt.out]; exact ht rfl
        have hst2 := HSt.out.to hB hE2
        have hkp2 := HKp.out.ext hE2
        have hvlt := fun q hq => (World.ownsRow.lt hst.own q hq).2
        have hz2 := hE2.size
        have hbol : B.bo < wr.heap.size := hst.bo.lt
        have hEl : Ext w2 (w2.alloc (.cells #[.int .i64 (m : Int)] 3)) := by (repeat' (first | (with_reducible exact Below.refl _ _) | (with_reducible refine Below.mono (by assumption) ?_) | (with_reducible refine Below.trans ?_ (Below.mono (by assumption) ?_)) | (with_reducible refine Below.alloc ?_ ?_ _) | (with_reducible refine Below.drew ?_) | (with_reducible refine below_drewN ?_ _) | (with_reducible refine Below.setCell ?_ ?_ _) | (simp only [World.size_alloc, World.size_setCell, World.size_drew, size_drewN]; omega) | omega))
        have hstl := hst2.to hB hEl
        have hkpl := hkp2.ext hEl
        have hBl := hB2.ext hEl
        have hb0l := hst2.bz
        have o2 : w2.cell? ⟨B.bo, 0, none⟩ = some v' := (hst2.bo.cell 0).trans rfl
        have hbol2 : B.bo < w2.heap.size := by omega
        have hpl6 : pre.length ≤ 1048576 := by omega
        have hnbl : wr.heap.size < w2.heap.size := hB2.lt
        go_wp2_with (at_builtin; refine wpList_append1_at _ rfl _ _ 24 rfl B.b0 3 Try.underlying24 info1 rfl v' pre rfl (hst2.own.ext (by (repeat' (first | (with_reducible exact Below.refl _ _) | (with_reducible refine Below.mono (by assumption) ?_) | (with_reducible refine Below.trans ?_ (Below.mono (by assumption) ?_)) | (with_reducible refine Below.alloc ?_ ?_ _) | (with_reducible refine Below.drew ?_) | (with_reducible refine below_drewN ?_ _) | (with_reducible refine Below.setCell ?_ ?_ _) | (simp only [World.size_alloc, World.size_setCell, World.size_drew, size_drewN]; omega) | omega)))) _ m rfl ((by simp [World.cell?_alloc_new] : World.cell? (w2.alloc (.cells #[.int .i64 (m : Int)] 3)) ⟨w2.heap.size, 0, none⟩ = some (.int .i64 (m : Int)))) hpl6 (by simp only [World.size_alloc]; omega) ?_)
        intro v2 w3 hO3 hg3 hat3
        have hsz3 : w2.heap.size < w3.heap.size := by have := hg3.size; simp only [World.size_alloc] at this; omega
        have hv2 : ∃ q, v2.ownBlock = some q := by
          rcases hat3 with e | e
          · rw [e]; exact HV'.out
          · exact ⟨_, e⟩
        have hat4 : v2.ownBlock = v'.ownBlock ∨ v2.ownBlock = some (w2.alloc (.cells #[.int .i64 (m : Int)] 3)).heap.size := by rw [World.size_alloc]; exact hat3
        have SP := hstl.push hB hO3 hg3 hat4
        have KP := hkpl.tr (Kp.push (B := B) hg3 hat4)
        clear hat4
        have hbo3 : Blk w3 B.bo 24 #[v'] := (hg3.block B.bo (by simp only [World.size_alloc]; omega) (fun e => hstl.neo e.symm)).trans hstl.bo
        have z0 : w3.cell? ⟨B.bo, 0, none⟩ = some v' := (hbo3.cell 0).trans rfl
        have zf : w3.frozen? ⟨B.bo, 0, none⟩ = false := hbo3.frozen 0
        have hnb3 : Blk w3 wr.heap.size 94 (st3 f') := (hg3.block wr.heap.size (by simp only [World.size_alloc]; omega) (fun e => by have := hvlt _ e.symm; omega)).trans hBl
        have hnbP : Blk (w3.setCell ⟨B.bo, 0, none⟩ v2) wr.heap.size 94 (st3 f') := (Below.heap_setCell _ ⟨B.bo, 0, none⟩ _ wr.heap.size (by simp only; omega)).trans hnb3
        obtain ⟨A9, c9, hv9, _⟩ := hO3.form
        generalize hn9 : (pre ++ [(m : Int)]).length = n9 at hv9
        subst hv9
        have n0 := (hnbP.cell 0).trans (show (st3 f')[0]? = some (.int .i64 (f' 0)) from rfl)
        have n1 := (hnbP.cell 1).trans (show (st3 f')[1]? = some (.int .i64 (f' 1)) from rfl)
        have n2 := (hnbP.cell 2).trans (show (st3 f')[2]? = some (.int .i64 (f' 2)) from rfl)
        have bfP := SP.bf
        have hflP := SP.fl
        have hnblP : wr.heap.size < (w3.setCell ⟨B.bo, 0, none⟩ (.slice A9 n9 c9)).heap.size := hnbP.lt
        have HSP := Lib.hid SP
        have HKP := Lib.hid KP
        have HV2 := Lib.hid hv2
        have HN9 := Lib.hid hn9
        clear ht hf hG2 hB2 hst2 hkp2 hstl hkpl hBl hO3 hg3 hat3 hbo3 hnb3 hnbP SP KP hv2 hn9
        generalize hWp : w3.setCell ⟨B.bo, 0, none⟩ (.slice A9 n9 c9) = Wp at n0 n1 n2 bfP hflP hnblP HSP HKP
        have hbp := bit_push hg hm HBit.out
        have hor : bits .or .u64 (g : Int) (IntKind.u64.wrap (2 ^ m)) = ((g ||| 2 ^ m : Nat) : Int) := by
          have h6 : 2 ^ m < 2 ^ 6 := Nat.pow_lt_pow_right (by omega) hm
          have e : IntKind.u64.wrap (2 ^ m) = ((2 ^ m : Nat) : Int) := by
            obtain rfl | rfl | rfl | rfl | rfl | rfl : m = 0 ∨ m = 1 ∨ m = 2 ∨ m = 3 ∨ m = 4 ∨ m = 5 := by omega
            all_goals rfl
          rw [e]
          exact bits_or_u64 g (2 ^ m) (by omega) (by omega)
        have IH : ∀ W, FSt w0 B (some ⟨b, off, none⟩) h.length c (some ⟨bd, offd, none⟩) all ca (.func (.func 51) #[] #[.pointer (some ⟨B.bfo, 0, none⟩), .pointer (some ⟨B.bok, 0, none⟩)]) (.func (.func 26) #[] #[]) (.func (.func 67) #[] #[.pointer (some ⟨B.bo, 0, none⟩), .pointer (some ⟨B.ba, 0, none⟩), .pointer (some ⟨B.bc, 0, none⟩), .pointer (some ⟨B.bl, 0, none⟩), .pointer (some ⟨B.bh, 0, none⟩), .pointer (some ⟨B.bf, 0, none⟩)]) (.slice A9 n9 c9) (pre ++ [(m : Int)]) W →
            Calls Try.prog 67 #[.agg #[.int .i64 (f' 0), .int .i64 (f' 1), .int .i64 (f' 2)], .int .u64 (bits .or .u64 (g : Int) (IntKind.u64.wrap (2 ^ m))), .pointer (some ⟨B.bo, 0, none⟩), .pointer (some ⟨B.ba, 0, none⟩), .pointer (some ⟨B.bc, 0, none⟩), .pointer (some ⟨B.bl, 0, none⟩), .pointer (some ⟨B.bh, 0, none⟩), .pointer (some ⟨B.bf, 0, none⟩)] W (FromQ h w0 B (some ⟨b, off, none⟩) c (some ⟨bd, offd, none⟩) all ca n (.slice A9 n9 c9) (pre ++ [(m : Int)]) W) := fun W s => by
          have := HIh.out (pre ++ [(m : Int)]) f' (g ||| 2 ^ m) (.slice A9 n9 c9) W (by rw [List.length_append, List.length_singleton]; omega) hrs hbp.1 hbp.2 HV2.out s
          rw [← hor] at this
          exact this
        have IH := Lib.hid IH
        have HRs := Lib.hid hrs
        clear hbp hor hrs hst
        go_upto_region 9 with (fail)
        have bfPd : Wp.drew.cell? ⟨B.bf, 0, none⟩ = some (.func (.func 67) #[] #[.pointer (some ⟨B.bo, 0, none⟩), .pointer (some ⟨B.ba, 0, none⟩), .pointer (some ⟨B.bc, 0, none⟩), .pointer (some ⟨B.bl, 0, none⟩), .pointer (some ⟨B.bh, 0, none⟩), .pointer (some ⟨B.bf, 0, none⟩)]) := bfP
        refine wp_region_held_drew (S := fun _ => True) (by kernel_rfl) trivial (fun hHeld => ?_)
        refine wpAnyH_take (i := 2) (oi := ?_) (v := ?_) ?_ ?_ ?_ ?_ ?_ ?_ hHeld ?_
        rotate_left 2
        · (simp only [List.getElem?_toArray, List.getElem?_cons_succ, List.getElem?_cons_zero]; rfl)
        · kernel_rfl
        · kernel_rfl
        · kernel_rfl
        · exact fun _ _ _ h => h
        · refine Or.inl ⟨by rfl, ?_⟩
          (intro w hSw; (try dsimp only at hSw); go_simp; try (with_reducible rfl))
        try simp only [Act.put, List.setIfInBounds_toArray, List.set_cons_zero, List.set_cons_succ]
        refine wpAnyH_take (i := 3) (oi := ?_) (v := ?_) ?_ ?_ ?_ ?_ ?_ ?_ hHeld ?_
        rotate_left 2
        · (simp only [List.getElem?_toArray, List.getElem?_cons_succ, List.getElem?_cons_zero]; rfl)
        · kernel_rfl
        · kernel_rfl
        · kernel_rfl
        · exact fun _ _ _ h => h
        · refine Or.inl ⟨by rfl, ?_⟩
          (intro w hSw; (try dsimp only at hSw); go_simp; try (with_reducible rfl))
        try simp only [Act.put, List.setIfInBounds_toArray, List.set_cons_zero, List.set_cons_succ]
        refine wpAnyH_take (i := 4) (oi := ?_) (v := ?_) ?_ ?_ ?_ ?_ ?_ ?_ hHeld ?_
        rotate_left 2
        · (simp only [List.getElem?_toArray, List.getElem?_cons_succ, List.getElem?_cons_zero]; rfl)
        · kernel_rfl
        · kernel_rfl
        · kernel_rfl
        · exact fun _ _ _ h => h
        · refine Or.inl ⟨by rfl, ?_⟩
          (intro w hSw; (try dsimp only at hSw); go_simp; try (with_reducible rfl))
        try simp only [Act.put, List.setIfInBounds_toArray, List.set_cons_zero, List.set_cons_succ]
        refine wpAnyH_take (i := 5) (oi := ?_) (v := ?_) ?_ ?_ ?_ ?_ ?_ ?_ hHeld ?_
        rotate_left 2
        · (simp only [List.getElem?_toArray, List.getElem?_cons_succ, List.getElem?_cons_zero]; rfl)
        · kernel_rfl
        · kernel_rfl
        · kernel_rfl
        · exact fun _ _ _ h => h
        · refine Or.inl ⟨by rfl, ?_⟩
          (intro w hSw; (try dsimp only at hSw); go_simp; try (with_reducible rfl))
        try simp only [Act.put, List.setIfInBounds_toArray, List.set_cons_zero, List.set_cons_succ]
        refine wpAnyH_ready (rs := [0, 1]) (by kernel_rfl) (by simp) ?_
        refine AllReadyH.cons rfl (fun K hK => ?_) (AllReadyH.cons rfl (fun K hK => ?_) AllReadyH.nil)
        all_goals
          rw [if_pos (by kernel_rfl)]
          go_wp2_with (fail)
          clear hHeld
          refine hK.out _ _ trivial (fun hHeld => ?_)
          clear hK K
          try simp only [Act.put, List.setIfInBounds_toArray, List.set_cons_zero, List.set_cons_succ]
        refine wpAnyH_ready (rs := [1]) (by kernel_rfl) (by simp) ?_
        refine AllReadyH.cons rfl (fun K hK => ?_) AllReadyH.nil
        rotate_left
        refine wpAnyH_ready (rs := [0]) (by kernel_rfl) (by simp) ?_
        refine AllReadyH.cons rfl (fun K hK => ?_) AllReadyH.nil
        rotate_left
        all_goals
          rw [if_pos (by kernel_rfl)]
          go_wp2_with (fail)
          clear hHeld
          refine hK.out _ _ trivial (fun hHeld => ?_)
          clear hK K
          try simp only [Act.put, List.setIfInBounds_toArray, List.set_cons_zero, List.set_cons_succ]
          refine wpAnyH_ready (rs := [6]) (by kernel_rfl) (by simp) ?_
          refine AllReadyH.cons rfl (fun K hK => ?_) AllReadyH.nil
          rw [if_pos (by kernel_rfl)]
          go_wp2_with (fail)
          go_at_call 67
          refine (IH.out _ (HSP.out.to hB (by (repeat' (first | (with_reducible exact Below.refl _ _) | (with_reducible refine Below.mono (by assumption) ?_) | (with_reducible refine Below.trans ?_ (Below.mono (by assumption) ?_)) | (with_reducible refine Below.alloc ?_ ?_ _) | (with_reducible refine Below.drew ?_) | (with_reducible refine below_drewN ?_ _) | (with_reducible refine Below.setCell ?_ ?_ _) | (simp only [World.size_alloc, World.size_setCell, World.size_drew, size_drewN]; omega) | omega))))).mono ?_
          rintro e w5 ⟨bb, rfl, hbt5, hbf5⟩
          have hE5 : Ext Wp Wp.drew := by (repeat' (first | (with_reducible exact Below.refl _ _) | (with_reducible refine Below.mono (by assumption) ?_) | (with_reducible refine Below.trans ?_ (Below.mono (by assumption) ?_)) | (with_reducible refine Below.alloc ?_ ?_ _) | (with_reducible refine Below.drew ?_) | (with_reducible refine below_drewN ?_ _) | (with_reducible refine Below.setCell ?_ ?_ _) | (simp only [World.size_alloc, World.size_setCell, World.size_drew, size_drewN]; omega) | omega))
          go_wp2_with (fail)
          clear hHeld
          refine hK.out _ _ trivial (fun hHeld => ?_)
          clear hK K
          try simp only [Act.put, List.setIfInBounds_toArray, List.set_cons_zero, List.set_cons_succ]
          refine wpAnyH_take (i := 7) (oi := ?_) (v := ?_) ?_ ?_ ?_ ?_ ?_ ?_ hHeld ?_
          rotate_left 2
          · (simp only [List.getElem?_toArray, List.getElem?_cons_succ, List.getElem?_cons_zero]; rfl)
          · kernel_rfl
          · kernel_rfl
          · kernel_rfl
          · exact fun _ _ _ h => h
          · refine Or.inl ⟨by rfl, ?_⟩
            (intro w hSw; (try dsimp only at hSw); go_simp; try (with_reducible rfl))
          try simp only [Act.put, List.setIfInBounds_toArray, List.set_cons_zero, List.set_cons_succ]
          refine wpAnyH_done (by kernel_rfl) ?_ _
        all_goals
          cases bb with
          | false =>
            obtain ⟨ys, hys, hEnd⟩ := hbf5 rfl
            have HS := Lib.hid (HFn.out.trans (some_at HXk.out (fun j y hj hy => HNo.out j y hj hy) (by rw [if_neg HIn.out, HRs.out, if_pos (show (some f').isSome = true from rfl)]; exact hys)))
            have HEnd := Lib.hid hEnd
            clear hbt5 hbf5 hys hEnd
            go_wp2
            go_ret
            exact ⟨false, rfl, (fun h => by cases h), fun _ => ⟨ys, HS.out, HEnd.out⟩⟩
          | true =>
            obtain ⟨hno9, v3, hv3, hst3, hkp3⟩ := hbt5 rfl
            have hkp4 := HKP.out.tr (hkp3.old hE5)
            have hpl1 : (pre ++ [(m : Int)]).length = pre.length + 1 := by simp
            obtain ⟨g3, c3, rfl, hle3⟩ : ∃ g c, v3 = .slice (some ⟨g, 0, none⟩) (pre.length + 1) c ∧ pre.length + 1 ≤ c := by
              rcases hst3.own.2 with ⟨hv0, _⟩ | ⟨g, cap, cur, hv0, _, _, hle, _⟩
              · obtain ⟨q, hq⟩ := hv3
                rw [hv0] at hq
                cases hq
              · rw [hpl1] at hv0 hle
                exact ⟨g, cap, hv0, hle⟩
            have o5 : w5.cell? ⟨B.bo, 0, none⟩ = some (.slice (some ⟨g3, 0, none⟩) (pre.length + 1) c3) := (hst3.bo.cell 0).trans rfl
            have of5 : w5.frozen? ⟨B.bo, 0, none⟩ = false := hst3.bo.frozen 0
            have p1 : ((pre.length + 1 : Nat) : Int) - 1 = (pre.length : Int) := by omega
            have p2 : (0 : Int) ≤ (pre.length : Int) := by omega
            have p3 : (pre.length : Int) ≤ (c3 : Int) := by omega
            have p4 : (pre.length : Int) + 1 - 1 = (pre.length : Int) := by omega
            have HPop := Lib.hid (show FSt w0 B (some ⟨b, off, none⟩) h.length c (some ⟨bd, offd, none⟩) all ca (.func (.func 51) #[] #[.pointer (some ⟨B.bfo, 0, none⟩), .pointer (some ⟨B.bok, 0, none⟩)]) (.func (.func 26) #[] #[]) (.func (.func 67) #[] #[.pointer (some ⟨B.bo, 0, none⟩), .pointer (some ⟨B.ba, 0, none⟩), .pointer (some ⟨B.bc, 0, none⟩), .pointer (some ⟨B.bl, 0, none⟩), .pointer (some ⟨B.bh, 0, none⟩), .pointer (some ⟨B.bf, 0, none⟩)]) (.slice (some ⟨g3, 0, none⟩) pre.length c3) pre (w5.setCell ⟨B.bo, 0, none⟩ (.slice (some ⟨g3, 0, none⟩) pre.length c3)) from hst3.pop hB)
            have HKq := Lib.hid (hkp4.tr (Kp.pop (B := B) (m := pre.length)))
            have HN2 := Lib.hid (show ∀ (j : Nat) y, j < k + 1 → all[j]? = some y → (if y ∈ pre then none else if (runH h (pre ++ [y])).isSome = true then fnd h all n (pre ++ [y]) else none) = none from fun j y hj hy => by
              by_cases e : j = k
              · subst e
                rw [HXk.out] at hy
                cases hy
                rw [if_neg HIn.out, HRs.out, if_pos (show (some f').isSome = true from rfl)]
                exact hno9
              · exact HNo.out j y (by omega) hy)
            clear hbt5 hbf5 hno9 hkp3 hkp4 hst3 hv3 hE5
            go_wp2
            go_roundw
            case measure => simp [intOf]; omega
            case rel => exact ⟨k + 1, _, by omega, by go_num, ⟨_, rfl⟩, HPop.out, HKq.out, HN2.out⟩
end Go.Proofs.Ytdohbmegkkkchaa
