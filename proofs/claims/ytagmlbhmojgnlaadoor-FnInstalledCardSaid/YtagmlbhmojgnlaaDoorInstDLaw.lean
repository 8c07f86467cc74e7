/-
  FnInstalled: a drawn history and a key: the program's answer is the reference's; each value is the last one of a committed transaction; the writers ascend.
-/
import Derived.Test.YtagmlbhmojgnlaaDoorDrawHd
import Derived.Test.YtagmlbhmojgnlaaDoorLaid
import Derived.Test.YtagmlbhmojgnlaaDoorWrG
import Derived.Test.YtagmlbhmojgnlaaDoorLastV
import Derived.Test.YtagmlbhmojgnlaaDoorInst
import Derived.Test.YtagmlbhmojgnlaaDoorSame
namespace Go.Proofs.YtagmlbhmojgnlaaDoor
set_option linter.unusedSimpArgs false
set_option linter.unusedVariables false
set_option maxRecDepth 100000
open Go.ChangeShapes Go.WideShapes Go.ChangeAt Go.RowKit Go.Joins

theorem lastW_mem {ops : List T3} {key : Int} {n : Nat} {o : T3} (h : lastW ops key n = some o) : o ∈ ops := by
  induction n with
  | zero => cases h
  | succ n ih =>
    unfold lastW at h
    split at h
    · rename_i x hx
      split at h
      · cases h
        exact List.mem_of_getElem? hx
      · exact ih h
    · exact ih h
theorem lws_ops {ops : List T3} {n : Nat} {o : T3} (h : o ∈ lwsTo ops n) : o ∈ ops := lastW_mem (lws_mem h).2
theorem lws_below {ops : List T3} {n : Nat} {o : T3} (h : o ∈ lwsTo ops n) : o.b < n := by
  induction n with
  | zero => cases h
  | succ n ih =>
    rcases List.mem_append.1 h with h | h
    · have := ih h
      omega
    · rw [Option.mem_toList] at h
      have := (lastW_ok h).2
      omega
theorem kvs_none {key : Int} {l : List T3} (h : ∀ o ∈ l, o.b ≠ key) : kvs key l = [] := by
  induction l with
  | nil => rfl
  | cons o l ih =>
    simp only [kvs]
    rw [if_neg (h o (by simp)), ih (fun o ho => h o (by simp [ho]))]
theorem kvs_lws (ops : List T3) (key : Int) (n : Nat) : kvs key (lwsTo ops n) = [] ∨ ∃ v, kvs key (lwsTo ops n) = [v] ∧ (⟨2, key, v⟩ : T3) ∈ lwsTo ops n := by
  induction n with
  | zero => left; rfl
  | succ n ih =>
    unfold lwsTo
    rw [kvs_append]
    cases hq : lastW ops n ops.length with
    | none =>
      rcases ih with h1 | ⟨v, h1, h2⟩
      · left
        simp [h1, kvs]
      · right
        exact ⟨v, by simp [h1, kvs], List.mem_append_left _ h2⟩
    | some o =>
      obtain ⟨a1, a2⟩ := lastW_ok hq
      by_cases hk : o.b = key
      · have h0 : kvs key (lwsTo ops n) = [] := kvs_none (fun x hx => by have := lws_below hx; omega)
        right
        refine ⟨o.c, by rw [h0]; simp [kvs, hk], List.mem_append_right _ ?_⟩
        have e : o = ⟨2, key, o.c⟩ := by cases o; simp_all
        rw [← e]
        simp
      · have h0 : kvs key (some o).toList = [] := by simp [kvs, hk]
        rw [h0, List.append_nil]
        rcases ih with h1 | ⟨v, h1, h2⟩
        · exact .inl h1
        · exact .inr ⟨v, h1, List.mem_append_left _ h2⟩
/-- an installed value has its writer -/
def InstAt (h : List TxnT) (key v : Int) (n k : Nat) (t : TxnT) : Prop := k < n ∧ wrN h key v = k ∧ h[k]? = some t ∧ t.done = true ∧ (⟨2, key, v⟩ : T3) ∈ lwsTo t.ops 3
theorem inT_at {h : List TxnT} {key : Int} (hv : histv h = true) (n : Nat) : (∀ (i : Nat) v, (inT h key n)[i]? = some v → ∃ k t, InstAt h key v n k t) ∧ ∀ (i : Nat) u v, (inT h key n)[i]? = some u → (inT h key n)[i + 1]? = some v → wrN h key u < wrN h key v := by
  induction n with
  | zero => exact ⟨fun i v h => by simp [inT] at h, fun i u v h => by simp [inT] at h⟩
  | succ n ih =>
    obtain ⟨i1, i2⟩ := ih
    have lift : ∀ (i : Nat) v, (inT h key n)[i]? = some v → ∃ k t, InstAt h key v (n + 1) k t := fun i v hi => by
      obtain ⟨k, t, a, b⟩ := i1 i v hi
      exact ⟨k, t, by omega, b⟩
    cases hk : h[n]? with
    | none =>
      have e : inT h key (n + 1) = inT h key n := by
        conv => lhs; unfold inT
        rw [hk]
      rw [e]
      exact ⟨lift, i2⟩
    | some t =>
      rw [inT_succ hk]
      by_cases hd : t.done = true
      · rw [if_pos hd]
        rcases kvs_lws t.ops key 3 with h0 | ⟨v, h0, hm⟩
        · rw [h0, List.append_nil]
          exact ⟨lift, i2⟩
        · rw [h0]
          have hw := wrN_of hv hk (lws_ops hm)
          have new : InstAt h key v (n + 1) n t := ⟨by omega, hw, hk, hd, hm⟩
          refine ⟨fun i u hi => ?_, fun i u u' hi hj => ?_⟩
          · rcases Nat.lt_or_ge i (inT h key n).length with hlt | hge
            · rw [List.getElem?_append_left hlt] at hi
              exact lift i u hi
            · rw [List.getElem?_append_right hge] at hi
              have : u = v := by
                cases hx : i - (inT h key n).length with
                | zero => rw [hx] at hi; simpa using hi.symm
                | succ m => rw [hx] at hi; simp at hi
              subst this
              exact ⟨n, t, new⟩
          · rcases Nat.lt_or_ge (i + 1) (inT h key n).length with hlt | hge
            · rw [List.getElem?_append_left (by omega)] at hi
              rw [List.getElem?_append_left hlt] at hj
              exact i2 i u u' hi hj
            · rw [List.getElem?_append_right hge] at hj
              have hz : i + 1 - (inT h key n).length = 0 := by
                cases hx : i + 1 - (inT h key n).length with
                | zero => rfl
                | succ m => rw [hx] at hj; simp at hj
              rw [hz] at hj
              obtain rfl : v = u' := by simpa using hj
              rw [List.getElem?_append_left (by omega)] at hi
              obtain ⟨k, t2, a, b, _⟩ := i1 i u hi
              rw [b, hw]
              omega
      · rw [if_neg hd]
        exact ⟨lift, i2⟩
theorem lastv_of {h : List TxnT} {key v : Int} {n k : Nat} {t : TxnT} (hi : InstAt h key v n k t) : lastv h key v = true := by
  obtain ⟨_, h1, h2, _, h3⟩ := hi
  unfold lastv
  rw [h1]
  simp [h2, h3]
set_option maxHeartbeats 4000000 in
theorem FnInstalled_c (xs : List Int) (A : Option Addr) (c : Nat) (w : World) (hx : Byts Any w A xs) (wf : Law.wfL Law.wfU8 xs) (hc : xs.length ≤ c) :
    Calls Tryd.prog 12 #[.slice A xs.length c] w fun e w' => e = .returned (.bool true) ∧ Ext w w' := by
  by_cases hl : 1048576 < xs.length
  · go_enter Tryd.func12, Tryd.ntmps12
    go_wp2
    go_ret
    exact ⟨rfl, by (repeat' (first | (with_reducible exact Below.refl _ _) | (with_reducible refine Below.mono (by assumption) ?_) | (with_reducible refine Below.trans ?_ (Below.mono (by assumption) ?_)) | (with_reducible refine Below.alloc ?_ ?_ _) | (with_reducible refine Below.drew ?_) | (with_reducible refine below_drewN ?_ _) | (with_reducible refine Below.setCell ?_ ?_ _) | (simp only [World.size_alloc, World.size_setCell, World.size_drew, size_drewN]; omega) | omega))⟩
  have HW : Hid (∀ x ∈ xs, 0 ≤ x ∧ x ≤ 255) := Lib.hid wf.2
  go_enter Tryd.func12, Tryd.ntmps12
  go_wp2_with (fail)
  go_at_call 44
  refine (DrawInstalled_c xs A c _ (hx.ext (by (repeat' (first | (with_reducible exact Below.refl _ _) | (with_reducible refine Below.mono (by assumption) ?_) | (with_reducible refine Below.trans ?_ (Below.mono (by assumption) ?_)) | (with_reducible refine Below.alloc ?_ ?_ _) | (with_reducible refine Below.drew ?_) | (with_reducible refine below_drewN ?_ _) | (with_reducible refine Below.setCell ?_ ?_ _) | (simp only [World.size_alloc, World.size_setCell, World.size_drew, size_drewN]; omega) | omega)))) HW.out hc).mono ?_
  rintro e w1 ⟨h, A2, c2, key, rfl, hTx, hsmall, hk3, hv9, hb⟩
  obtain ⟨hc, hf, hz, hs⟩ := bcell hb
  (try simp only [World.size_alloc, World.size_setCell, World.size_drew, size_drewN] at hs); (first | have l0 := Nat.lt_of_lt_of_le l0 (show _ ≤ w1.heap.size by omega) | have l0 : w.heap.size < w1.heap.size := (by omega) | skip); (try have l0e := Nat.le_of_lt l0); (try have l0f := Nat.le_add_right_of_le (k := 1) l0e); (try have l1 := Nat.lt_of_lt_of_le l1 (show _ ≤ w1.heap.size by omega)); (try have l1e := Nat.le_of_lt l1); (try have l1f := Nat.le_add_right_of_le (k := 1) l1e); (try have l2 := Nat.lt_of_lt_of_le l2 (show _ ≤ w1.heap.size by omega)); (try have l2e := Nat.le_of_lt l2); (try have l2f := Nat.le_add_right_of_le (k := 1) l2e); (try have l3 := Nat.lt_of_lt_of_le l3 (show _ ≤ w1.heap.size by omega)); (try have l3e := Nat.le_of_lt l3); (try have l3f := Nat.le_add_right_of_le (k := 1) l3e)
  have E1 := Lib.hid (show Ext w w1 from hb)
  have hsm := hsmall.small
  have hsl := hsm.len
  have C := fun w hx => implInstalled_c h Any A2 c2 key w hx hsm
  have D := fun w hx => specInstalled_c h Any A2 c2 key w hx hsm
  have hil := instd_len h key
  have F : ∀ (i : Nat) v, (instd h key)[i]? = some v → histv h = true ∧ ∃ k t, InstAt h key v h.length k t ∧ (0 < i → ∃ u k', (instd h key)[i - 1]? = some u ∧ wrN h key u = (k' : Nat) ∧ k' < k) := by
    intro i v hi
    unfold instd at hi ⊢
    split at hi
    · rename_i hc2
      rw [if_pos hc2]
      obtain ⟨a1, a2⟩ := inT_at (key := key) hc2.1 h.length
      obtain ⟨k, t, hIA⟩ := a1 i v hi
      refine ⟨hc2.1, k, t, hIA, fun h0 => ?_⟩
      obtain ⟨u, hu⟩ : ∃ u, (inT h key h.length)[i - 1]? = some u := ⟨_, List.getElem?_eq_getElem (by have := (List.getElem?_eq_some_iff.1 hi).1; omega)⟩
      obtain ⟨k', t', hI'⟩ := a1 _ _ hu
      have := a2 (i - 1) u v hu (by rw [show i - 1 + 1 = i by omega]; exact hi)
      rw [hI'.2.1, hIA.2.1] at this
      exact ⟨u, k', hu, hI'.2.1, by omega⟩
    · simp at hi
  obtain ⟨L, hL⟩ : ∃ L, instd h key = L := ⟨_, rfl⟩
  rw [hL] at C D F hil
  have HC := Lib.hid C
  have HD := Lib.hid D
  have HF := Lib.hid F
  have HX := Lib.hid (txns_any hTx)
  clear C D F hTx hL hb hc hf hz
  go_wp2_with (fail)
  go_at_call 45
  refine (HC.out _ HX.out).mono ?_
  rintro e w2 ⟨A3, c3, rfl, hI3, hf3, hb⟩
  obtain ⟨hc, hf, hz, hs⟩ := bcell hb
  (try simp only [World.size_alloc, World.size_setCell, World.size_drew, size_drewN] at hs); (first | have l0 := Nat.lt_of_lt_of_le l0 (show _ ≤ w2.heap.size by omega) | have l0 : w.heap.size < w2.heap.size := (by omega) | skip); (try have l0e := Nat.le_of_lt l0); (try have l0f := Nat.le_add_right_of_le (k := 1) l0e); (try have l1 := Nat.lt_of_lt_of_le l1 (show _ ≤ w2.heap.size by omega)); (try have l1e := Nat.le_of_lt l1); (try have l1f := Nat.le_add_right_of_le (k := 1) l1e); (try have l2 := Nat.lt_of_lt_of_le l2 (show _ ≤ w2.heap.size by omega)); (try have l2e := Nat.le_of_lt l2); (try have l2f := Nat.le_add_right_of_le (k := 1) l2e); (try have l3 := Nat.lt_of_lt_of_le l3 (show _ ≤ w2.heap.size by omega)); (try have l3e := Nat.le_of_lt l3); (try have l3f := Nat.le_add_right_of_le (k := 1) l3e)
  have E12 := Lib.hid (show Ext w1 w2 from hb)
  have HI2 := Lib.hid hI3
  clear hb hc hf hz hf3 hI3
  go_wp2_with (fail)
  go_at_call 46
  refine (HD.out _ (HX.out.ext E12.out)).mono ?_
  rintro e w3 ⟨A4, c4, rfl, hI4, hf4, hb⟩
  obtain ⟨hc, hf, hz, hs⟩ := bcell hb
  (try simp only [World.size_alloc, World.size_setCell, World.size_drew, size_drewN] at hs); (first | have l0 := Nat.lt_of_lt_of_le l0 (show _ ≤ w3.heap.size by omega) | have l0 : w.heap.size < w3.heap.size := (by omega) | skip); (try have l0e := Nat.le_of_lt l0); (try have l0f := Nat.le_add_right_of_le (k := 1) l0e); (try have l1 := Nat.lt_of_lt_of_le l1 (show _ ≤ w3.heap.size by omega)); (try have l1e := Nat.le_of_lt l1); (try have l1f := Nat.le_add_right_of_le (k := 1) l1e); (try have l2 := Nat.lt_of_lt_of_le l2 (show _ ≤ w3.heap.size by omega)); (try have l2e := Nat.le_of_lt l2); (try have l2f := Nat.le_add_right_of_le (k := 1) l2e); (try have l3 := Nat.lt_of_lt_of_le l3 (show _ ≤ w3.heap.size by omega)); (try have l3e := Nat.le_of_lt l3); (try have l3f := Nat.le_add_right_of_le (k := 1) l3e)
  have E13 := Lib.hid (E12.out.tr hb)
  have HI3 := Lib.hid (Ints.ext HI2.out hb)
  clear HC HD hb hc hf hz hf4 HI2
  go_wp2_with (fail)
  go_at_call 35
  refine (sameInts_c L _ _ _ _ _ _ _ HI3.out hI4 (by omega)).mono ?_
  rintro e w4 ⟨rfl, hb⟩
  obtain ⟨hc, hf, hz, hs⟩ := bcell hb
  (try simp only [World.size_alloc, World.size_setCell, World.size_drew, size_drewN] at hs); (first | have l0 := Nat.lt_of_lt_of_le l0 (show _ ≤ w4.heap.size by omega) | have l0 : w.heap.size < w4.heap.size := (by omega) | skip); (try have l0e := Nat.le_of_lt l0); (try have l0f := Nat.le_add_right_of_le (k := 1) l0e); (try have l1 := Nat.lt_of_lt_of_le l1 (show _ ≤ w4.heap.size by omega)); (try have l1e := Nat.le_of_lt l1); (try have l1f := Nat.le_add_right_of_le (k := 1) l1e); (try have l2 := Nat.lt_of_lt_of_le l2 (show _ ≤ w4.heap.size by omega)); (try have l2e := Nat.le_of_lt l2); (try have l2f := Nat.le_add_right_of_le (k := 1) l2e); (try have l3 := Nat.lt_of_lt_of_le l3 (show _ ≤ w4.heap.size by omega)); (try have l3e := Nat.le_of_lt l3); (try have l3f := Nat.le_add_right_of_le (k := 1) l3e)
  have E14 := Lib.hid (E13.out.tr hb)
  have E4 := Lib.hid (E1.out.tr E14.out)
  have HI4 := Lib.hid (Ints.ext HI3.out hb)
  clear hI4 HI3 hb hc hf hz
  go_wp2
  go_loopw [6] (fun i wr => ∃ k : Nat, k ≤ L.length ∧ i = .int .i64 k ∧ Ext w4 wr) (fun i _ => L.length - (intOf i).toNat)
  case atStart => exact ⟨0, Nat.zero_le _, rfl, Below.refl _ _⟩
  case round =>
    obtain ⟨k, hk, rfl, hE⟩ := hrel
    have hE0 := Lib.hid hE
    by_cases hlt : k < L.length
    · obtain ⟨v, b, off, hxk, rfl, _, hb0, cv⟩ := (Ints.ext HI4.out hE).at_ hlt
      obtain ⟨hv, kk, t, hIA, hprev⟩ := HF.out k v hxk
      have hlv := lastv_of hIA
      obtain ⟨hkl, hwr, hkt, hdn, _⟩ := hIA
      have W := fun w hx => implWriterOf_c h Any A2 c2 key v w hx hsm
      rw [if_pos hv, hwr] at W
      have V := fun w hx => implLastValue_c h Any A2 c2 key v w hx hsm
      rw [hv, hlv] at V
      have HWr := Lib.hid W
      have HV := Lib.hid V
      clear W V hE hlv hwr hxk
      go_wp2_with (fail)
      go_at_call 31
      refine (HWr.out _ (HX.out.ext (E14.out.tr hE0.out))).mono ?_
      rintro e w5 ⟨rfl, hb⟩
      obtain ⟨hc, hf, hz, hs⟩ := bcell hb
      (try simp only [World.size_alloc, World.size_setCell, World.size_drew, size_drewN] at hs); (first | have l0 := Nat.lt_of_lt_of_le l0 (show _ ≤ w5.heap.size by omega) | have l0 : w.heap.size < w5.heap.size := (by omega) | skip); (try have l0e := Nat.le_of_lt l0); (try have l0f := Nat.le_add_right_of_le (k := 1) l0e); (try have l1 := Nat.lt_of_lt_of_le l1 (show _ ≤ w5.heap.size by omega)); (try have l1e := Nat.le_of_lt l1); (try have l1f := Nat.le_add_right_of_le (k := 1) l1e); (try have l2 := Nat.lt_of_lt_of_le l2 (show _ ≤ w5.heap.size by omega)); (try have l2e := Nat.le_of_lt l2); (try have l2f := Nat.le_add_right_of_le (k := 1) l2e); (try have l3 := Nat.lt_of_lt_of_le l3 (show _ ≤ w5.heap.size by omega)); (try have l3e := Nat.le_of_lt l3); (try have l3f := Nat.le_add_right_of_le (k := 1) l3e)
      have E45 := Lib.hid (hE0.out.tr hb)
      have cv5 := Ext.keep hb hb0 cv
      have hb5 : b < w5.heap.size := by omega
      clear hb hc hf hz
      go_wp2_with (fail)
      go_at_call 42
      refine (HV.out _ (HX.out.ext (E14.out.tr E45.out))).mono ?_
      rintro e w6 ⟨rfl, hb⟩
      obtain ⟨hc, hf, hz, hs⟩ := bcell hb
      (try simp only [World.size_alloc, World.size_setCell, World.size_drew, size_drewN] at hs); (first | have l0 := Nat.lt_of_lt_of_le l0 (show _ ≤ w6.heap.size by omega) | have l0 : w.heap.size < w6.heap.size := (by omega) | skip); (try have l0e := Nat.le_of_lt l0); (try have l0f := Nat.le_add_right_of_le (k := 1) l0e); (try have l1 := Nat.lt_of_lt_of_le l1 (show _ ≤ w6.heap.size by omega)); (try have l1e := Nat.le_of_lt l1); (try have l1f := Nat.le_add_right_of_le (k := 1) l1e); (try have l2 := Nat.lt_of_lt_of_le l2 (show _ ≤ w6.heap.size by omega)); (try have l2e := Nat.le_of_lt l2); (try have l2f := Nat.le_add_right_of_le (k := 1) l2e); (try have l3 := Nat.lt_of_lt_of_le l3 (show _ ≤ w6.heap.size by omega)); (try have l3e := Nat.le_of_lt l3); (try have l3f := Nat.le_add_right_of_le (k := 1) l3e)
      have E46 := Lib.hid (E45.out.tr hb)
      have cv6 := Ext.keep hb hb5 cv5
      have hb6 : b < w6.heap.size := by omega
      obtain ⟨s, ops, d, A', cap, b2, off2, hxk, rfl, _, hb20, hO, c0, c1, c2'⟩ := (HX.out.ext (E14.out.tr E46.out)).at_ hkl
      obtain rfl : (⟨s, ops, d⟩ : TxnT) = t := by rw [hxk] at hkt; exact Option.some.inj hkt
      simp only at hdn
      subst hdn
      clear hb hc hf hz hxk hkt hO
      by_cases hk0 : k = 0
      · subst hk0
        go_wp2
        go_roundw
        case measure => simp [intOf]; omega
        case rel => exact ⟨1, by omega, by go_num, E46.out⟩
      · obtain ⟨u, k', hu, hwu, hlk⟩ := hprev (by omega)
        obtain ⟨u', b', off', hu', e', _, hb', cu⟩ := (Ints.ext HI4.out E46.out).at_ (i := k - 1) (by omega)
        rw [hu] at hu'
        cases hu'
        cases e'
        have W := fun w (hx : Txns Any w (some ⟨b2, off2, none⟩) h) => implWriterOf_c h Any _ c2 key u w hx hsm
        rw [if_pos hv, hwu] at W
        have HWu := Lib.hid W
        have hcast : ((k : Int) - 1).toNat = k - 1 := by omega
        clear W hu hwu hprev
        go_wp2_with (fail)
        go_at_call 31
        refine (HWu.out _ (HX.out.ext (E14.out.tr E46.out))).mono ?_
        rintro e w7 ⟨rfl, hb⟩
        obtain ⟨hc, hf, hz, hs⟩ := bcell hb
        (try simp only [World.size_alloc, World.size_setCell, World.size_drew, size_drewN] at hs); (first | have l0 := Nat.lt_of_lt_of_le l0 (show _ ≤ w7.heap.size by omega) | have l0 : w.heap.size < w7.heap.size := (by omega) | skip); (try have l0e := Nat.le_of_lt l0); (try have l0f := Nat.le_add_right_of_le (k := 1) l0e); (try have l1 := Nat.lt_of_lt_of_le l1 (show _ ≤ w7.heap.size by omega)); (try have l1e := Nat.le_of_lt l1); (try have l1f := Nat.le_add_right_of_le (k := 1) l1e); (try have l2 := Nat.lt_of_lt_of_le l2 (show _ ≤ w7.heap.size by omega)); (try have l2e := Nat.le_of_lt l2); (try have l2f := Nat.le_add_right_of_le (k := 1) l2e); (try have l3 := Nat.lt_of_lt_of_le l3 (show _ ≤ w7.heap.size by omega)); (try have l3e := Nat.le_of_lt l3); (try have l3f := Nat.le_add_right_of_le (k := 1) l3e)
        have E47 := Lib.hid (E46.out.tr hb)
        go_wp2
        go_roundw
        case measure => simp [intOf]; omega
        case rel => exact ⟨k + 1, by omega, by go_num, E47.out⟩
    · obtain rfl : k = L.length := by omega
      go_wp2_with (fail)
      go_at_call 16
      refine (alive_c _).mono ?_
      rintro e w9 ⟨rfl, hb⟩
      obtain ⟨hc, hf, hz, hs⟩ := bcell hb
      (try simp only [World.size_alloc, World.size_setCell, World.size_drew, size_drewN] at hs); (first | have l0 := Nat.lt_of_lt_of_le l0 (show _ ≤ w9.heap.size by omega) | have l0 : w.heap.size < w9.heap.size := (by omega) | skip); (try have l0e := Nat.le_of_lt l0); (try have l0f := Nat.le_add_right_of_le (k := 1) l0e); (try have l1 := Nat.lt_of_lt_of_le l1 (show _ ≤ w9.heap.size by omega)); (try have l1e := Nat.le_of_lt l1); (try have l1f := Nat.le_add_right_of_le (k := 1) l1e); (try have l2 := Nat.lt_of_lt_of_le l2 (show _ ≤ w9.heap.size by omega)); (try have l2e := Nat.le_of_lt l2); (try have l2f := Nat.le_add_right_of_le (k := 1) l2e); (try have l3 := Nat.lt_of_lt_of_le l3 (show _ ≤ w9.heap.size by omega)); (try have l3e := Nat.le_of_lt l3); (try have l3f := Nat.le_add_right_of_le (k := 1) l3e)
      go_wp2
      go_ret
      exact ⟨rfl, (E4.out.tr hE0.out).tr hb⟩

theorem FnInstalled_reads (os : Os) {H : Type} (enc : TypeId × Value → H) : ∃ places, DataW.whole enc Tryd.prog ((Law.laidWorld os).forCall (fun _ _ => 0) ⟨#[], #[.slice none 0 0], []⟩).memory Tryd.f12.params.toList Rows.fnInstalledSpec.vars false (#[.slice none 0 0] : Array Value).toList 8 = some ([.nil], [], places) :=
  ⟨[], by kernel_rfl⟩
theorem FnInstalled_laid (os : Os) : laidMet Tryd.prog Rows.fnInstalledRow.laid ((Law.laidWorld os).forCall (fun _ _ => 0) ⟨#[], #[.slice none 0 0], []⟩).memory :=
  laidMet_of_run' 8 (by kernel_rfl) (by kernel_rfl)
set_option maxRecDepth 100000 in
theorem FnInstalled_lifted (os : Os) (started : os.Started) (H : Type) (enc : TypeId × Value → H) (F : Stop.Interp) :
    ReturnsInHanded {} Tryd.checked os 12 .any ((OpenSpec.ofChange Rows.fnInstalledSpec).preRow enc Tryd.prog Tryd.f12 Rows.fnInstalledRow.domain false Rows.fnInstalledRow.laid) (((OpenSpec.ofChange Rows.fnInstalledSpec).at F).post enc Tryd.prog Tryd.f12 false true false false) := by
  obtain ⟨places, hx⟩ := FnInstalled_reads os enc
  refine returnsInHanded_of_row (C := Tryd.checked) (s := OpenSpec.ofChange Rows.fnInstalledSpec) Law.own started (by kernel_rfl) Tryd.func12
    (witness_row_at (enc := enc) (C := Tryd.checked) false (Law.laidWorld os) #[.slice none 0 0] rfl (by kernel_rfl) (by kernel_rfl) (by kernel_rfl)
      (OpenSpec.preRow_of_cond 8 hx (by kernel_rfl) (fun k hk => by cases hk) (by kernel_rfl) (FnInstalled_laid os))) ?_
  intro W base args ds gs before hval0 hW _ _ _ hLaid _ _
  have hval : ∀ (j : Nat) t v, Tryd.f12.params[j]? = some t → args[j]? = some v → Value.okWide Tryd.prog W .any base t v := hval0
  have hW' := hW
  obtain ⟨p, q, hA0, hV, rfl, hfz, hnd⟩ := hW
  have hA : DataW.TrodAll enc Tryd.prog W 0 (fun _ => true) true Tryd.f12.params.toList args.toList ds p := hA0
  rw [Tryd.params12] at hA hval
  obtain ⟨v0, vs0, d0, ds0, p0, q0, hargs, hds, rfl, h0, r0⟩ := trodAll_cons hA
  obtain ⟨rfl, rfl, rfl⟩ := trodAll_nil r0
  obtain rfl : args = #[v0] := by cases args; simp_all
  subst hds
  obtain ⟨x0, A0, c0, rfl, hO0, wf0⟩ := Law.open_bytes Tryd.underlying22 Tryd.underlying5 (by kernel_rfl) (hval 0 22 v0 rfl rfl) h0
  refine (FnInstalled_c x0 A0 c0 W hO0 wf0 (Law.bytes_cap Tryd.underlying22 (hval 0 22 _ rfl rfl))).mono fun e W' ⟨he, hb⟩ => ?_
  subst he
  refine ⟨_, rfl, Law.post_true Law.laidOut ?_ rfl rfl Tryd.underlying4 ⟨rfl, rfl, rfl⟩ hW' hb⟩
  intro t ht
  rw [Tryd.params12] at ht
  simp only [List.mem_cons, List.not_mem_nil, or_false] at ht
  first | (rcases ht with rfl <;> exact ⟨by kernel_rfl, of_decide_eq_true (by kernel_rfl)⟩)

theorem FnInstalled_holds : Rows.FnInstalledSaid :=
  OpenClaim.holds_of_cond 12 Tryd.f12 rfl rfl rfl rfl rfl rfl rfl ⟨rfl, rfl, rfl, rfl, rfl⟩ rfl rfl rfl rfl rfl (by kernel_rfl) Tryd.func12 (by kernel_rfl)
    (of_decide_eq_true (by kernel_rfl)) (by unfold Func.isWrapper; first | (rw [if_pos (by decide +kernel)]; kernel_rfl) | (rw [if_neg (by decide +kernel)]; exact ⟨rfl, rfl⟩))
    (fun os started H enc _ F => by rw [OpenClaim.pre_eq_preRow]; exact FnInstalled_lifted os started H enc F)
theorem FnInstalled_plain (f : FuncId) (fn : Func) (hf : Tryd.pinned.checked.prog.funcNamed Rows.fnInstalledRow.func = some f) (hfn : Tryd.pinned.checked.prog.funcs[f]? = some fn) :
    false = Tryd.pinned.checked.prog.looks [] ∧ ∀ (j : Nat) t, fn.params[j]? = some t → Tryd.pinned.checked.prog.wantsStandIn t = false := by
  obtain rfl : f = 12 := Option.some.inj ((show Tryd.prog.funcNamed Rows.fnInstalledRow.func = some 12 by kernel_rfl).symm.trans hf) |>.symm
  obtain rfl : fn = Tryd.f12 := (Option.some.inj (Tryd.func12.symm.trans hfn)).symm
  refine ⟨by kernel_rfl, fun j t ht => ?_⟩
  rw [Tryd.params12] at ht
  have hm := Array.mem_of_getElem? ht
  simp only [List.mem_toArray, List.mem_cons, List.not_mem_nil, or_false] at hm
  rcases hm with rfl
  · exact (show Tryd.prog.wantsStandIn 22 = false by kernel_rfl)
theorem FnInstalled_card : Rows.FnInstalledCardSaid :=
  Claim7.holds_tied_plain_at .later [] _ _ _ _ FnInstalled_holds (fun _ h => by cases h) (by kernel_rfl) (fun _ h => by cases h) fnInstalled_row_tie rfl ⟨rfl, rfl⟩ (by kernel_rfl) rfl FnInstalled_plain (by kernel_rfl)

end Go.Proofs.YtagmlbhmojgnlaaDoor
