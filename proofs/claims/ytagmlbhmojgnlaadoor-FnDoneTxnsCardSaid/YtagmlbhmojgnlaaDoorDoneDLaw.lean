/-
  FnDoneTxns: a drawn history: the program's answer is the reference's; the numbers ascend, each is a committed one's; there are as many as were committed.
-/
import Derived.Test.YtagmlbhmojgnlaaDoorDrawHd
import Derived.Test.YtagmlbhmojgnlaaDoorLaid
import Derived.Test.YtagmlbhmojgnlaaDoorWrF
import Derived.Test.YtagmlbhmojgnlaaDoorDone
import Derived.Test.YtagmlbhmojgnlaaDoorSame
import Derived.Deep.CutBlock
import Derived.Deep.CutRange
namespace Go.Proofs.YtagmlbhmojgnlaaDoor
set_option linter.unusedSimpArgs false
set_option linter.unusedVariables false
set_option maxRecDepth 100000
open Go.ChangeShapes Go.WideShapes Go.ChangeAt Go.RowKit Go.Joins

theorem dnT_at {h : List TxnT} (n : Nat) : ∀ (i : Nat) v, (dnT h n)[i]? = some v → ∃ (k : Nat) (t : TxnT), v = k ∧ k < n ∧ h[k]? = some t ∧ t.done = true ∧ (0 < i → ∃ k' : Nat, (dnT h n)[i - 1]? = some (k' : Int) ∧ k' < k) := by
  induction n with
  | zero => intro i v h; simp [dnT] at h
  | succ n ih =>
    intro i v hi
    unfold dnT at hi ⊢
    have old : ∀ (ys : List Int), (dnT h n)[i]? = some v → ∃ (k : Nat) (t : TxnT), v = k ∧ k < n + 1 ∧ h[k]? = some t ∧ t.done = true ∧ (0 < i → ∃ k' : Nat, (dnT h n ++ ys)[i - 1]? = some (k' : Int) ∧ k' < k) := fun ys hi => by
      obtain ⟨k, t, a, b, c, d, e⟩ := ih i v hi
      refine ⟨k, t, a, by omega, c, d, fun h0 => ?_⟩
      obtain ⟨k', f, g⟩ := e h0
      have hlt := (List.getElem?_eq_some_iff.1 f).1
      exact ⟨k', by rw [List.getElem?_append_left hlt]; exact f, g⟩
    cases hk : h[n]? with
    | none =>
      rw [hk] at hi
      simp only at hi ⊢
      have := old [] hi
      simpa using this
    | some t =>
      rw [hk] at hi
      simp only at hi ⊢
      by_cases hd : t.done = true
      · rw [if_pos hd] at hi ⊢
        rcases Nat.lt_or_ge i (dnT h n).length with hlt | hge
        · rw [List.getElem?_append_left hlt] at hi
          exact old _ hi
        · rw [List.getElem?_append_right hge] at hi
          have hz : i = (dnT h n).length := by
            cases hx : i - (dnT h n).length with
            | zero => omega
            | succ m => rw [hx] at hi; simp at hi
          rw [hz, Nat.sub_self] at hi
          obtain rfl : (n : Int) = v := by simpa using hi
          refine ⟨n, t, rfl, by omega, hk, hd, fun h0 => ?_⟩
          obtain ⟨u, hu⟩ : ∃ u, (dnT h n)[i - 1]? = some u := ⟨_, List.getElem?_eq_getElem (by omega)⟩
          obtain ⟨k', t', a, b, _⟩ := ih _ _ hu
          subst a
          exact ⟨k', by rw [List.getElem?_append_left (by omega)]; exact hu, b⟩
      · rw [if_neg hd] at hi ⊢
        have := old [] hi
        simpa using this
set_option maxHeartbeats 4000000 in
theorem FnDoneTxns_c (xs : List Int) (A : Option Addr) (c : Nat) (w : World) (hx : Byts Any w A xs) (wf : Law.wfL Law.wfU8 xs) (hc : xs.length ≤ c) :
    Calls Tryd.prog 9 #[.slice A xs.length c] w fun e w' => e = .returned (.bool true) ∧ Ext w w' := by
  by_cases hl : 1048576 < xs.length
  · go_enter Tryd.func9, Tryd.ntmps9
    go_wp2
    go_ret
    exact ⟨rfl, by (repeat' (first | (with_reducible exact Below.refl _ _) | (with_reducible refine Below.mono (by assumption) ?_) | (with_reducible refine Below.trans ?_ (Below.mono (by assumption) ?_)) | (with_reducible refine Below.alloc ?_ ?_ _) | (with_reducible refine Below.drew ?_) | (with_reducible refine below_drewN ?_ _) | (with_reducible refine Below.setCell ?_ ?_ _) | (simp only [World.size_alloc, World.size_setCell, World.size_drew, size_drewN]; omega) | omega))⟩
  have HW : Hid (∀ x ∈ xs, 0 ≤ x ∧ x ≤ 255) := Lib.hid wf.2
  go_enter Tryd.func9, Tryd.ntmps9
  go_wp2_with (fail)
  go_at_call 33
  refine ((DrawDoneTxns_c xs A c _ (hx.ext (by (repeat' (first | (with_reducible exact Below.refl _ _) | (with_reducible refine Below.mono (by assumption) ?_) | (with_reducible refine Below.trans ?_ (Below.mono (by assumption) ?_)) | (with_reducible refine Below.alloc ?_ ?_ _) | (with_reducible refine Below.drew ?_) | (with_reducible refine below_drewN ?_ _) | (with_reducible refine Below.setCell ?_ ?_ _) | (simp only [World.size_alloc, World.size_setCell, World.size_drew, size_drewN]; omega) | omega)))) HW.out hc).mono (fun _ _ h => h.read)).mono ?_
  rintro e w1 ⟨h, A2, c2, rfl, hcap, hTx, hsmall, hb⟩
  obtain ⟨hc, hf, hz, hs⟩ := bcell hb
  (try simp only [World.size_alloc, World.size_setCell, World.size_drew, size_drewN] at hs); (first | have l0 := Nat.lt_of_lt_of_le l0 (show _ ≤ w1.heap.size by omega) | have l0 : w.heap.size < w1.heap.size := (by omega) | skip); (try have l0e := Nat.le_of_lt l0); (try have l0f := Nat.le_add_right_of_le (k := 1) l0e); (try have l1 := Nat.lt_of_lt_of_le l1 (show _ ≤ w1.heap.size by omega)); (try have l1e := Nat.le_of_lt l1); (try have l1f := Nat.le_add_right_of_le (k := 1) l1e); (try have l2 := Nat.lt_of_lt_of_le l2 (show _ ≤ w1.heap.size by omega)); (try have l2e := Nat.le_of_lt l2); (try have l2f := Nat.le_add_right_of_le (k := 1) l2e); (try have l3 := Nat.lt_of_lt_of_le l3 (show _ ≤ w1.heap.size by omega)); (try have l3e := Nat.le_of_lt l3); (try have l3f := Nat.le_add_right_of_le (k := 1) l3e)
  have E1 := Lib.hid (show Ext w w1 from hb)
  have hsm := hsmall.small
  have hsl := hsm.len
  obtain ⟨r, hr⟩ : ∃ r, histv h = r := ⟨_, rfl⟩
  have V := fun w hx => implHistoryValid_c h Any A2 c2 w hx hsm
  have C := fun w hx => implDoneTxns_c h Any A2 c2 w hx hsm
  have D := fun w hx => specDoneTxns_c h Any A2 c2 w hx hsm
  rw [hr] at V C D
  have F : ∀ (i : Nat) v, (if r = true then dnT h h.length else [])[i]? = some v → ∃ (k : Nat) (t : TxnT), v = k ∧ k < h.length ∧ h[k]? = some t ∧ t.done = true ∧ (0 < i → ∃ k' : Nat, (if r = true then dnT h h.length else [])[i - 1]? = some (k' : Int) ∧ k' < k) := by
    intro i v hi
    cases r with
    | true => exact dnT_at h.length i v hi
    | false => simp at hi
  have hil : (if r = true then dnT h h.length else []).length ≤ h.length := by
    have := dnT_len h h.length
    cases r with
    | true => exact this
    | false => simp
  have M : ∀ k, k ≤ h.length → r = true → (dnT h k).length ≤ k := fun k _ _ => dnT_len h k
  have HV := Lib.hid V
  have HX := Lib.hid (txns_any hTx)
  have hLl : r = true → (if r = true then dnT h h.length else []).length = (dnT h h.length).length := fun e => by rw [if_pos e]
  have hLf : r = false → (if r = true then dnT h h.length else []).length = 0 := fun e => by subst e; simp
  obtain ⟨L, hL⟩ : ∃ L, (if r = true then dnT h h.length else []) = L := ⟨_, rfl⟩
  rw [hL] at C D F hil hLl hLf
  have HC := Lib.hid C
  have HD := Lib.hid D
  have HF := Lib.hid F
  have HLl := Lib.hid hLl
  have HLf := Lib.hid hLf
  clear V C D F M hTx hL hLl hLf hb hc hf hz
  go_wp2_with (fail)
  go_at_call 34
  refine (HC.out _ HX.out).mono ?_
  rintro e w2 ⟨A3, c3, rfl, hI3, hf3, hb⟩
  obtain ⟨hc, hf, hz, hs⟩ := bcell hb
  (try simp only [World.size_alloc, World.size_setCell, World.size_drew, size_drewN] at hs); (first | have l0 := Nat.lt_of_lt_of_le l0 (show _ ≤ w2.heap.size by omega) | have l0 : w.heap.size < w2.heap.size := (by omega) | skip); (try have l0e := Nat.le_of_lt l0); (try have l0f := Nat.le_add_right_of_le (k := 1) l0e); (try have l1 := Nat.lt_of_lt_of_le l1 (show _ ≤ w2.heap.size by omega)); (try have l1e := Nat.le_of_lt l1); (try have l1f := Nat.le_add_right_of_le (k := 1) l1e); (try have l2 := Nat.lt_of_lt_of_le l2 (show _ ≤ w2.heap.size by omega)); (try have l2e := Nat.le_of_lt l2); (try have l2f := Nat.le_add_right_of_le (k := 1) l2e); (try have l3 := Nat.lt_of_lt_of_le l3 (show _ ≤ w2.heap.size by omega)); (try have l3e := Nat.le_of_lt l3); (try have l3f := Nat.le_add_right_of_le (k := 1) l3e)
  have E12 := Lib.hid (show Ext w1 w2 from hb)
  have HI2 := Lib.hid hI3
  clear hb hc hf hz hf3 hI3
  go_wp2_with (fail)
  go_at_call 36
  refine (HD.out _ (HX.out.ext E12.out)).mono ?_
  rintro e w3 ⟨A4, c4, rfl, hI4, hf4, hb⟩
  obtain ⟨hc, hf, hz, hs⟩ := bcell hb
  (try simp only [World.size_alloc, World.size_setCell, World.size_drew, size_drewN] at hs); (first | have l0 := Nat.lt_of_lt_of_le l0 (show _ ≤ w3.heap.size by omega) | have l0 : w.heap.size < w3.heap.size := (by omega) | skip); (try have l0e := Nat.le_of_lt l0); (try have l0f := Nat.le_add_right_of_le (k := 1) l0e); (try have l1 := Nat.lt_of_lt_of_le l1 (show _ ≤ w3.heap.size by omega)); (try have l1e := Nat.le_of_lt l1); (try have l1f := Nat.le_add_right_of_le (k := 1) l1e); (try have l2 := Nat.lt_of_lt_of_le l2 (show _ ≤ w3.heap.size by omega)); (try have l2e := Nat.le_of_lt l2); (try have l2f := Nat.le_add_right_of_le (k := 1) l2e); (try have l3 := Nat.lt_of_lt_of_le l3 (show _ ≤ w3.heap.size by omega)); (try have l3e := Nat.le_of_lt l3); (try have l3f := Nat.le_add_right_of_le (k := 1) l3e)
  have E13 := Lib.hid (E12.out.tr hb)
  have HI3 := Lib.hid (Ints.ext HI2.out hb)
  clear HC HD hb hc hf hz hf4 HI2
  go_wp2_with (fail)
  go_at_call 35
  refine (sameInts_c L _ _ _ _ _ _ _ HI3.out hI4 (by omega)).mono ?_
  rintro e w4 ⟨rfl, hb⟩
  obtain ⟨hc, hf, hz, hs⟩ := bcell hb
  (try simp only [World.size_alloc, World.size_setCell, World.size_drew, size_drewN] at hs); (first | have l0 := Nat.lt_of_lt_of_le l0 (show _ ≤ w4.heap.size by omega) | have l0 : w.heap.size < w4.heap.size := (by omega) | skip); (try have l0e := Nat.le_of_lt l0); (try have l0f := Nat.le_add_right_of_le (k := 1) l0e); (try have l1 := Nat.lt_of_lt_of_le l1 (show _ ≤ w4.heap.size by omega)); (try have l1e := Nat.le_of_lt l1); (try have l1f := Nat.le_add_right_of_le (k := 1) l1e); (try have l2 := Nat.lt_of_lt_of_le l2 (show _ ≤ w4.heap.size by omega)); (try have l2e := Nat.le_of_lt l2); (try have l2f := Nat.le_add_right_of_le (k := 1) l2e); (try have l3 := Nat.lt_of_lt_of_le l3 (show _ ≤ w4.heap.size by omega)); (try have l3e := Nat.le_of_lt l3); (try have l3f := Nat.le_add_right_of_le (k := 1) l3e)
  have E14 := Lib.hid (E13.out.tr hb)
  have E4 := Lib.hid (E1.out.tr E14.out)
  have HI4 := Lib.hid (Ints.ext HI3.out hb)
  clear hI4 HI3 hb hc hf hz
  go_upto_block 0 with fail
  go_cut [5] from 8 to 90 (fun v W => v = .int .i64 L.length ∧ Ext w4 W)
  case first =>
    cases r
    · by_cases hh : 0 < h.length
      rotate_left
      · go_wp2_with fail
        go_loopw [5, 6] (fun q i wr => i = .int .i64 0 ∧ q = .int .i64 0 ∧ wr = w4) (fun _ _ _ => 0)
        case atStart => exact ⟨rfl, rfl, rfl⟩
        case round =>
          obtain ⟨rfl, rfl, rfl⟩ := hrel
          have e1 : decide (0 < h.length) = false := decide_eq_false hh
          have e2 : (0 < h.length) = False := eq_false hh
          clear hh
          go_wp2
          go_meet
          exact ⟨congrArg (fun n : Nat => Value.int .i64 (n : Int)) (HLf.out (by trivial)).symm, Below.refl _ _⟩
      · go_wp2_with fail
        go_loopw [5, 6] (fun q i wr => i = .int .i64 0 ∧ q = .int .i64 0 ∧ wr = w4) (fun _ _ _ => 0)
        case atStart => exact ⟨rfl, rfl, rfl⟩
        case round =>
          obtain ⟨rfl, rfl, rfl⟩ := hrel
          go_wp2_with (fail)
          go_at_call 28
          refine (HV.out _ (HX.out.ext E14.out)).mono ?_
          rintro e w5 ⟨rfl, hb⟩
          obtain ⟨hc, hf, hz, hs⟩ := bcell hb
          (try simp only [World.size_alloc, World.size_setCell, World.size_drew, size_drewN] at hs); (first | have l0 := Nat.lt_of_lt_of_le l0 (show _ ≤ w5.heap.size by omega) | have l0 : w.heap.size < w5.heap.size := (by omega) | skip); (try have l0e := Nat.le_of_lt l0); (try have l0f := Nat.le_add_right_of_le (k := 1) l0e); (try have l1 := Nat.lt_of_lt_of_le l1 (show _ ≤ w5.heap.size by omega)); (try have l1e := Nat.le_of_lt l1); (try have l1f := Nat.le_add_right_of_le (k := 1) l1e); (try have l2 := Nat.lt_of_lt_of_le l2 (show _ ≤ w5.heap.size by omega)); (try have l2e := Nat.le_of_lt l2); (try have l2f := Nat.le_add_right_of_le (k := 1) l2e); (try have l3 := Nat.lt_of_lt_of_le l3 (show _ ≤ w5.heap.size by omega)); (try have l3e := Nat.le_of_lt l3); (try have l3f := Nat.le_add_right_of_le (k := 1) l3e)
          go_wp2
          go_meet
          exact ⟨congrArg (fun n : Nat => Value.int .i64 (n : Int)) (HLf.out (by trivial)).symm, hb⟩
    · go_wp2_with fail
      go_loopw [5, 6] (fun q i wr => ∃ k : Nat, k ≤ h.length ∧ i = .int .i64 k ∧ q = .int .i64 (dnT h k).length ∧ Ext w4 wr) (fun _ i _ => h.length - (intOf i).toNat)
      case atStart => exact ⟨0, Nat.zero_le _, rfl, rfl, Below.refl _ _⟩
      case round =>
        obtain ⟨k, hk, rfl, rfl, hE⟩ := hrel
        have hE0 := Lib.hid hE
        have hdl := dnT_len h k
        clear hE
        by_cases hlt : k < h.length
        · skip
          go_wp2_with (fail)
          go_at_call 28
          refine (HV.out _ (HX.out.ext (E14.out.tr hE0.out))).mono ?_
          rintro e w5 ⟨rfl, hb⟩
          obtain ⟨hc, hf, hz, hs⟩ := bcell hb
          (try simp only [World.size_alloc, World.size_setCell, World.size_drew, size_drewN] at hs); (first | have l0 := Nat.lt_of_lt_of_le l0 (show _ ≤ w5.heap.size by omega) | have l0 : w.heap.size < w5.heap.size := (by omega) | skip); (try have l0e := Nat.le_of_lt l0); (try have l0f := Nat.le_add_right_of_le (k := 1) l0e); (try have l1 := Nat.lt_of_lt_of_le l1 (show _ ≤ w5.heap.size by omega)); (try have l1e := Nat.le_of_lt l1); (try have l1f := Nat.le_add_right_of_le (k := 1) l1e); (try have l2 := Nat.lt_of_lt_of_le l2 (show _ ≤ w5.heap.size by omega)); (try have l2e := Nat.le_of_lt l2); (try have l2f := Nat.le_add_right_of_le (k := 1) l2e); (try have l3 := Nat.lt_of_lt_of_le l3 (show _ ≤ w5.heap.size by omega)); (try have l3e := Nat.le_of_lt l3); (try have l3f := Nat.le_add_right_of_le (k := 1) l3e)
          have E45 := Lib.hid (hE0.out.tr hb)
          obtain ⟨s, ops, d, A', cap, b2, off2, hxk, rfl, _, hb20, hO, c0, c1, c2'⟩ := (HX.out.ext (E14.out.tr E45.out)).at_ hlt
          have hds := dnT_succ hxk
          simp only at hds
          have HDS := Lib.hid hds
          clear hds hxk hO hb hc hf hz
          cases d
          · go_wp2
            go_roundw
            case measure => simp [intOf]; omega
            case rel => exact ⟨k + 1, by omega, by go_num, by rw [HDS.out]; rfl, E45.out⟩
          · go_wp2
            go_roundw
            case measure => simp [intOf]; omega
            case rel => exact ⟨k + 1, by omega, by go_num, by rw [HDS.out]; simp, E45.out⟩
        · obtain rfl : k = h.length := by omega
          go_wp2
          go_meet
          exact ⟨congrArg (fun n : Nat => Value.int .i64 (n : Int)) (HLl.out (by trivial)).symm, hE0.out⟩
  case rest =>
    obtain ⟨rfl, hEc⟩ := hcut
    have EC := Lib.hid hEc
    have E1C := Lib.hid (E14.out.tr hEc)
    have HIC := Lib.hid (Ints.ext HI4.out hEc)
    clear hEc HV HI4
    go_wp2
    go_loopw [7] (fun i wr => ∃ k : Nat, k ≤ L.length ∧ i = .int .i64 k ∧ Ext wc wr) (fun i _ => L.length - (intOf i).toNat)
    case atStart => exact ⟨0, Nat.zero_le _, rfl, Below.refl _ _⟩
    case round =>
      obtain ⟨k, hk, rfl, hE⟩ := hrel
      have hE0 := Lib.hid hE
      by_cases hlt : k < L.length
      · obtain ⟨v, b, off, hxk, rfl, _, hb0, cv⟩ := (Ints.ext HIC.out hE).at_ hlt
        obtain ⟨kk, t, rfl, hkl, hkt, hdn, hprev⟩ := HF.out k v hxk
        obtain ⟨s, ops, d, A', cap, b2, off2, hxk2, rfl, _, hb20, hO, c0, c1, c2'⟩ := (HX.out.ext (E1C.out.tr hE)).at_ hkl
        obtain rfl : (⟨s, ops, d⟩ : TxnT) = t := by rw [hxk2] at hkt; exact Option.some.inj hkt
        simp only at hdn
        subst hdn
        clear hE hxk hxk2 hkt hO
        have f1 : decide ((kk : Int) < 0) = false := decide_eq_false (by omega)
        have f2 : decide ((h.length : Int) ≤ (kk : Int)) = false := decide_eq_false (by omega)
        have f3 : (kk : Int) < h.length := by omega
        have f4 : (k : Int) < L.length := by omega
        have f2n : decide (h.length ≤ kk) = false := decide_eq_false (by omega)
        by_cases hk0 : 0 < k
        rotate_left
        · clear hprev
          have f5 : decide ((0 : Int) < (k : Int)) = false := decide_eq_false (by omega)
          have f5n : decide (0 < k) = false := decide_eq_false (by omega)
          clear hk0
          go_wp2
          go_big_quiet (fail)
          go_wp2
          go_roundw
          case measure => simp [intOf]; omega
          case rel => exact ⟨k + 1, by omega, by go_num, below_drewN hE0.out _⟩
        · obtain ⟨k', hu, hlk⟩ := hprev (by omega)
          obtain ⟨u', b', off', hu', e', _, hb', cu⟩ := (Ints.ext HIC.out hE0.out).at_ (i := k - 1) (by omega)
          rw [hu] at hu'
          cases hu'
          cases e'
          have hcast : ((k : Int) - 1).toNat = k - 1 := by omega
          have f5 : decide ((0 : Int) < (k : Int)) = true := decide_eq_true (by omega)
          have f6 : decide ((kk : Int) ≤ (k' : Int)) = false := decide_eq_false (by omega)
          have f5n : decide (0 < k) = true := decide_eq_true (by omega)
          have f6n : decide (kk ≤ k') = false := decide_eq_false (by omega)
          have f7 : (k : Int) - 1 < L.length := by omega
          have f8 : (0 : Int) ≤ (k : Int) - 1 := by omega
          clear hu hprev
          go_wp2
          go_big_quiet (fail)
          go_wp2
          go_roundw
          case measure => simp [intOf]; omega
          case rel => exact ⟨k + 1, by omega, by go_num, below_drewN hE0.out _⟩
      · obtain rfl : k = L.length := by omega
        go_wp2_with (fail)
        go_at_call 16
        refine (alive_c _).mono ?_
        rintro e w9 ⟨rfl, hb⟩
        obtain ⟨hc, hf, hz, hs⟩ := bcell hb
        (try simp only [World.size_alloc, World.size_setCell, World.size_drew, size_drewN] at hs); (first | have l0 := Nat.lt_of_lt_of_le l0 (show _ ≤ w9.heap.size by omega) | have l0 : w.heap.size < w9.heap.size := (by omega) | skip); (try have l0e := Nat.le_of_lt l0); (try have l0f := Nat.le_add_right_of_le (k := 1) l0e); (try have l1 := Nat.lt_of_lt_of_le l1 (show _ ≤ w9.heap.size by omega)); (try have l1e := Nat.le_of_lt l1); (try have l1f := Nat.le_add_right_of_le (k := 1) l1e); (try have l2 := Nat.lt_of_lt_of_le l2 (show _ ≤ w9.heap.size by omega)); (try have l2e := Nat.le_of_lt l2); (try have l2f := Nat.le_add_right_of_le (k := 1) l2e); (try have l3 := Nat.lt_of_lt_of_le l3 (show _ ≤ w9.heap.size by omega)); (try have l3e := Nat.le_of_lt l3); (try have l3f := Nat.le_add_right_of_le (k := 1) l3e)
        go_wp2
        go_ret
        exact ⟨rfl, ((E4.out.tr EC.out).tr hE0.out).tr hb⟩

theorem FnDoneTxns_reads (os : Os) {H : Type} (enc : TypeId × Value → H) : ∃ places, DataW.whole enc Tryd.prog ((Law.laidWorld os).forCall (fun _ _ => 0) ⟨#[], #[.slice none 0 0], []⟩).memory Tryd.f9.params.toList Rows.fnDoneTxnsSpec.vars false (#[.slice none 0 0] : Array Value).toList 8 = some ([.nil], [], places) :=
  ⟨[], by kernel_rfl⟩
theorem FnDoneTxns_laid (os : Os) : laidMet Tryd.prog Rows.fnDoneTxnsRow.laid ((Law.laidWorld os).forCall (fun _ _ => 0) ⟨#[], #[.slice none 0 0], []⟩).memory :=
  laidMet_of_run' 8 (by kernel_rfl) (by kernel_rfl)
set_option maxRecDepth 100000 in
theorem FnDoneTxns_lifted (os : Os) (started : os.Started) (H : Type) (enc : TypeId × Value → H) (F : Stop.Interp) :
    ReturnsInHanded {} Tryd.checked os 9 .any ((OpenSpec.ofChange Rows.fnDoneTxnsSpec).preRow enc Tryd.prog Tryd.f9 Rows.fnDoneTxnsRow.domain false Rows.fnDoneTxnsRow.laid) (((OpenSpec.ofChange Rows.fnDoneTxnsSpec).at F).post enc Tryd.prog Tryd.f9 false true false false) := by
  obtain ⟨places, hx⟩ := FnDoneTxns_reads os enc
  refine returnsInHanded_of_row (C := Tryd.checked) (s := OpenSpec.ofChange Rows.fnDoneTxnsSpec) Law.own started (by kernel_rfl) Tryd.func9
    (witness_row_at (enc := enc) (C := Tryd.checked) false (Law.laidWorld os) #[.slice none 0 0] rfl (by kernel_rfl) (by kernel_rfl) (by kernel_rfl)
      (OpenSpec.preRow_of_cond 8 hx (by kernel_rfl) (fun k hk => by cases hk) (by kernel_rfl) (FnDoneTxns_laid os))) ?_
  intro W base args ds gs before hval0 hW _ _ _ hLaid _ _
  have hval : ∀ (j : Nat) t v, Tryd.f9.params[j]? = some t → args[j]? = some v → Value.okWide Tryd.prog W .any base t v := hval0
  have hW' := hW
  obtain ⟨p, q, hA0, hV, rfl, hfz, hnd⟩ := hW
  have hA : DataW.TrodAll enc Tryd.prog W 0 (fun _ => true) true Tryd.f9.params.toList args.toList ds p := hA0
  rw [Tryd.params9] at hA hval
  obtain ⟨v0, vs0, d0, ds0, p0, q0, hargs, hds, rfl, h0, r0⟩ := trodAll_cons hA
  obtain ⟨rfl, rfl, rfl⟩ := trodAll_nil r0
  obtain rfl : args = #[v0] := by cases args; simp_all
  subst hds
  obtain ⟨x0, A0, c0, rfl, hO0, wf0⟩ := Law.open_bytes Tryd.underlying22 Tryd.underlying5 (by kernel_rfl) (hval 0 22 v0 rfl rfl) h0
  refine (FnDoneTxns_c x0 A0 c0 W hO0 wf0 (Law.bytes_cap Tryd.underlying22 (hval 0 22 _ rfl rfl))).mono fun e W' ⟨he, hb⟩ => ?_
  subst he
  refine ⟨_, rfl, Law.post_true Law.laidOut ?_ rfl rfl Tryd.underlying4 ⟨rfl, rfl, rfl⟩ hW' hb⟩
  intro t ht
  rw [Tryd.params9] at ht
  simp only [List.mem_cons, List.not_mem_nil, or_false] at ht
  first | (rcases ht with rfl <;> exact ⟨by kernel_rfl, of_decide_eq_true (by kernel_rfl)⟩)

theorem FnDoneTxns_holds : Rows.FnDoneTxnsSaid :=
  OpenClaim.holds_of_cond 9 Tryd.f9 rfl rfl rfl rfl rfl rfl rfl ⟨rfl, rfl, rfl, rfl, rfl⟩ rfl rfl rfl rfl rfl (by kernel_rfl) Tryd.func9 (by kernel_rfl)
    (of_decide_eq_true (by kernel_rfl)) (by unfold Func.isWrapper; first | (rw [if_pos (by decide +kernel)]; kernel_rfl) | (rw [if_neg (by decide +kernel)]; exact ⟨rfl, rfl⟩))
    (fun os started H enc _ F => by rw [OpenClaim.pre_eq_preRow]; exact FnDoneTxns_lifted os started H enc F)
theorem FnDoneTxns_plain (f : FuncId) (fn : Func) (hf : Tryd.pinned.checked.prog.funcNamed Rows.fnDoneTxnsRow.func = some f) (hfn : Tryd.pinned.checked.prog.funcs[f]? = some fn) :
    false = Tryd.pinned.checked.prog.looks [] ∧ ∀ (j : Nat) t, fn.params[j]? = some t → Tryd.pinned.checked.prog.wantsStandIn t = false := by
  obtain rfl : f = 9 := Option.some.inj ((show Tryd.prog.funcNamed Rows.fnDoneTxnsRow.func = some 9 by kernel_rfl).symm.trans hf) |>.symm
  obtain rfl : fn = Tryd.f9 := (Option.some.inj (Tryd.func9.symm.trans hfn)).symm
  refine ⟨by kernel_rfl, fun j t ht => ?_⟩
  rw [Tryd.params9] at ht
  have hm := Array.mem_of_getElem? ht
  simp only [List.mem_toArray, List.mem_cons, List.not_mem_nil, or_false] at hm
  rcases hm with rfl
  · exact (show Tryd.prog.wantsStandIn 22 = false by kernel_rfl)
theorem FnDoneTxns_card : Rows.FnDoneTxnsCardSaid :=
  Claim7.holds_tied_plain_at .later [] _ _ _ _ FnDoneTxns_holds (fun _ h => by cases h) (by kernel_rfl) (fun _ h => by cases h) fnDoneTxns_row_tie rfl ⟨rfl, rfl⟩ (by kernel_rfl) rfl FnDoneTxns_plain (by kernel_rfl)

end Go.Proofs.YtagmlbhmojgnlaaDoor
